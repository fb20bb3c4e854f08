/- A part of the proof: Form16 Form17 Arg ArgN Tab Row. -/
import Derived.Test.YthackanffcaejaaGreatDoorM1
import Derived.Test.YthackanffcaejaaGreatDoorM3
import Derived.Test.YthackanffcaejaaGreatDoorM11
import Derived.Test.YthackanffcaejaaGreatDoorM17
import Derived.Test.YthackanffcaejaaGreatDoorM20
import Derived.ChangeArms
import Derived.ChangeSlices
import Derived.WideShapes
import Derived.SizedLaws
import Derived.Lib.LaidU8
import Derived.Lay
import Derived.MakeChecks
import Derived.ChangeBears2
import Derived.WalkKit
import Derived.ProofKit
import Derived.OpenShut
import Derived.Deep.DeepHandedRow
import Derived.Lib.LaidTab
section
set_option linter.unusedSimpArgs false
set_option linter.unusedVariables false
set_option linter.unusedSectionVars false
set_option maxRecDepth 20000
namespace Go.Proofs.YthackanffcaejaaGreatDoor
open Go Go.RowKit Go.SL

theorem TI.sz {fs : List (Int × Int)} {k : Nat} {st : List T} (h : TI fs k st) (hk : k ≤ fs.length) : sumSz st = k := by
  have h1 := congrArg List.length (runT_post _ _ _ h)
  rw [posts_len] at h1
  simpa [posts, Nat.min_eq_left hk] using h1
theorem sumSz_cons (t : T) (r : List T) : sumSz (t :: r) = size t + sumSz r := by simp [sumSz]
theorem Subs.step {fs : List (Int × Int)} {fr : List Int} {st st' : List T} {k : Nat} {op n : Int} (hs : Subs fs fr st) (hz : sumSz st = k) (hx : fs[k]? = some (op, n)) (hk : k < fr.length) (h : stepT st op n = some st') :
    ∀ t r, st' = t :: r → Subs fs (fr.set k (sumSz r : Int)) (t :: r) := by
  intro t r e
  subst e
  have hg : ∀ v : Int, (fr.set k v)[k]? = some v := fun v => List.getElem?_set_self hk
  unfold stepT at h
  split at h
  · rename_i hc
    simp at h
    obtain ⟨rfl, rfl⟩ := h
    obtain ⟨rfl, _⟩ := hc
    refine ⟨hs.set (by omega), ?_⟩
    rw [hz]
    exact ⟨hx, hg _⟩
  split at h
  · rename_i hc
    simp at h
    obtain ⟨rfl, rfl⟩ := h
    obtain ⟨rfl, _⟩ := hc
    refine ⟨hs.set (by omega), ?_⟩
    rw [hz]
    exact ⟨hx, hg _⟩
  split at h
  · rename_i hc
    obtain ⟨rfl, rfl⟩ := hc
    rcases st with _ | ⟨a, q⟩
    · simp at h
    · simp at h
      obtain ⟨rfl, rfl⟩ := h
      rw [sumSz_cons] at hz
      refine ⟨hs.1.set (by omega), hs.2.set (by omega), ?_, ?_⟩
      · rw [show sumSz q + size a = k by omega]; exact hx
      · rw [show sumSz q + size a = k by omega]; exact hg _
  split at h
  · rcases st with _ | ⟨a, q⟩
    · simp at h
    · simp at h
      obtain ⟨rfl, rfl⟩ := h
      rw [sumSz_cons] at hz
      refine ⟨hs.1.set (by omega), hs.2.set (by omega), ?_, ?_⟩
      · rw [show sumSz q + size a = k by omega]; exact hx
      · rw [show sumSz q + size a = k by omega]; exact hg _
  split at h
  · rename_i hc
    obtain ⟨_, _, rfl⟩ := hc
    rcases st with _ | ⟨b, _ | ⟨a, q⟩⟩
    · simp at h
    · simp at h
    · simp at h
      obtain ⟨rfl, rfl⟩ := h
      rw [sumSz_cons, sumSz_cons] at hz
      have hb := hs.2
      rw [sumSz_cons] at hb
      rw [show size a + sumSz q = sumSz q + size a by omega] at hb
      refine ⟨hs.1.1.set (by omega), hs.1.2.set (by omega), hb.set (by omega), ?_, ?_⟩
      · rw [show sumSz q + size a + size b = k by omega]; exact hx
      · rw [show sumSz q + size a + size b = k by omega]; exact hg _
  split at h
  · rename_i hc
    obtain ⟨rfl, rfl⟩ := hc
    rcases st with _ | ⟨b, _ | ⟨a, _ | ⟨c, q⟩⟩⟩
    · simp at h
    · simp at h
    · simp at h
    · simp at h
      obtain ⟨rfl, rfl⟩ := h
      rw [sumSz_cons, sumSz_cons, sumSz_cons] at hz
      have hb := hs.2
      have ha := hs.1.2
      rw [sumSz_cons, sumSz_cons] at hb
      rw [sumSz_cons] at ha
      rw [show size a + (size c + sumSz q) = sumSz q + size c + size a by omega] at hb
      rw [show size c + sumSz q = sumSz q + size c by omega] at ha
      refine ⟨hs.1.1.1.set (by omega), hs.1.1.2.set (by omega), ha.set (by omega), hb.set (by omega), ?_, ?_⟩
      · rw [show sumSz q + size c + size a + size b = k by omega]; exact hx
      · rw [show sumSz q + size c + size a + size b = k by omega]; exact hg _
  · cases h
theorem stepT_kids {fs : List (Int × Int)} {fr : List Int} {st : List T} {k : Nat} {op n : Int} (hs : Subs fs fr st) (hz : sumSz st = k) :
    (stepT st op n = none ∧ (arityP op n < 0 ∨ (¬ arityP op n < 0 ∧ arityP op n > (st.length : Int)))) ∨
    (∃ t, arityP op n = 0 ∧ stepT st op n = some (t :: st)) ∨
    (∃ (t : T) (r : List T) (kk ρ : Nat), 0 < kk ∧ arityP op n = (kk : Int) ∧ stepT st op n = some (t :: r) ∧ st.length = r.length + kk ∧ (roots st)[r.length]? = some (ρ : Int) ∧ (roots st).take r.length = roots r ∧ ρ < k ∧ fr[ρ]? = some (sumSz r : Int)) := by
  have hp := size_pos
  rcases stepT_split st op n with h | ⟨rfl, ha, h⟩ | ⟨rfl, ha, h⟩ | ⟨a, r, rfl, rfl, ha, h⟩ | ⟨a, r, rfl, hop, ha, h⟩ | ⟨a, b, r, rfl, hop, ha, h⟩ | ⟨c, a, b, r, rfl, rfl, ha, h⟩
  · exact .inl h
  · exact .inr (.inl ⟨_, ha, h⟩)
  · exact .inr (.inl ⟨_, ha, h⟩)
  · rw [sumSz_cons] at hz
    have := hp a
    exact .inr (.inr ⟨_, r, 1, sumSz r + size a - 1, by omega, ha, h, rfl, by simp [roots, ← roots_length r], by simp [roots, ← roots_length r], by omega, hs.2.root.2⟩)
  · rw [sumSz_cons] at hz
    have := hp a
    exact .inr (.inr ⟨_, r, 1, sumSz r + size a - 1, by omega, ha, h, rfl, by simp [roots, ← roots_length r], by simp [roots, ← roots_length r], by omega, hs.2.root.2⟩)
  · rw [sumSz_cons, sumSz_cons] at hz
    have := hp a
    have := hp b
    exact .inr (.inr ⟨_, r, 2, sumSz r + size a - 1, by omega, ha, h, rfl, by simp [roots, ← roots_length r], by simp [roots, ← roots_length r], by omega, hs.1.2.root.2⟩)
  · rw [sumSz_cons, sumSz_cons, sumSz_cons] at hz
    have := hp a
    have := hp b
    have := hp c
    exact .inr (.inr ⟨_, r, 3, sumSz r + size c - 1, by omega, ha, h, rfl, by simp [roots, ← roots_length r], by simp [roots, ← roots_length r], by omega, hs.1.1.2.root.2⟩)
theorem Is_set (l : List Int) (i : Nat) (v : Int) : (Is l).set i (.int .i64 v) = Is (l.set i v) := by simp [Is, List.map_set]

def StPost (fs : List (Int × Int)) (w0 : World) (Hs : List HP) (v : Value) (w' : World) : Prop :=
  (∃ x, v = .tuple #[x, .bool false] ∧ treeQ fs = none ∧ Sat w0 w' Hs) ∨ ∃ (t : T) (b : Nat) (fr : List Int), v = .tuple #[.slice (some ⟨b, 0, none⟩) fs.length fs.length, .bool true] ∧ treeQ fs = some t ∧ fr.length = fs.length ∧ Sub fs fr 0 t ∧ Sat w0 w' (own 3 1 (some ⟨b, 0, none⟩) fs.length fs.length (Is fr) :: Hs)
structure SR (fs : List (Int × Int)) (w0 : World) (Hs : List HP) (b k m : Nat) (ad : Option Addr) (cap : Nat) (st : List T) (fr : List Int) (w : World) : Prop where
  hti : TI fs k st
  hsub : Subs fs fr st
  hfr : fr.length = fs.length
  hm : m = st.length
  hk : k ≤ fs.length
  sat : Sat w0 w (own 3 1 (some ⟨b, 0, none⟩) fs.length fs.length (Is fr) :: own 3 1 ad m cap (Is (roots st)) :: Hs)

theorem startsBad (fs : List (Int × Int)) (hl : fs.length < 1 ∨ ¬ fs.length ≤ 65536) (hl2 : fs.length ≤ 9223372036854775807) (ad : Option Addr) (cap : Nat) (w0 w : World) (Hs : List HP) (hS : Sat w0 w Hs) :
    Calls Tryz.prog 55 #[.slice ad fs.length cap] w fun e w' => ∃ v, e = .returned v ∧ StPost fs w0 Hs v w' := by
  have HT : Hid (treeQ fs = none) := by
    apply hid
    unfold treeQ
    split
    · rfl
    · have : fs = [] := List.length_eq_zero_iff.1 (by omega)
      subst this
      rfl
  rcases hl with h | h
  · have h1 : (fs.length : Int) < 1 := by omega
    clear h
    go_enter Tryz.func55, Tryz.ntmps55
    go_wp2
    go_ret2
    exact ⟨_, rfl, .inl ⟨_, rfl, HT.out, hS⟩⟩
  · have h1 : ¬ (fs.length : Int) < 1 := by omega
    have h2 : (fs.length : Int) > 65536 := by omega
    clear h
    go_enter Tryz.func55, Tryz.ntmps55
    go_wp2
    go_ret2
    exact ⟨_, rfl, .inl ⟨_, rfl, HT.out, hS⟩⟩

set_option maxHeartbeats 4000000 in
theorem startsR (fs : List (Int × Int)) (hl0 : 1 ≤ fs.length) (hl : fs.length ≤ 65536) (ad : Option Addr) (cap : Nat) (w0 w : World) (Hs : List HP) (hS : Sat w0 w Hs) {A : HP} (hA : A ∈ Hs) (hr : Rd A ad (Fs fs)) :
    Calls Tryz.prog 55 #[.slice ad fs.length cap] w fun e w' => ∃ v, e = .returned v ∧ StPost fs w0 Hs v w' := by
  have n0 : ¬ (fs.length : Int) < 1 := by omega
  have n1 : ¬ (fs.length : Int) > 65536 := by omega
  have hne : ∃ aa, ad = some aa ∧ aa.spot = none := Sat.rdAd2 hr hS hA (by rw [Fs_length]; omega)
  go_enter Tryz.func55, Tryz.ntmps55
  go_wp2_with ((with_reducible apply arm_make hS); exact wanted_none; exact ev_tmp rfl; exact ev_tmp rfl; exact E35; exact z3; (omega); (omega); clear hS; intro FB w hS; (try simp only [Act.put, q1, q2, q3]))
  have hrep : List.replicate fs.length (Value.int .i64 0) = Is (List.replicate fs.length 0) := by simp [Is]
  rw [hrep] at hS
  have HR := hid hrep
  clear hrep
  go_loopw [6, 5] (fun i s wr => ∃ (k m : Nat) (ad' : Option Addr) (cap' : Nat) (st : List T) (fr : List Int), i = .int .i64 k ∧ s = .slice ad' m cap' ∧ SR fs w0 Hs FB k m ad' cap' st fr wr) (fun i _ _ => fs.length - (intOf i).toNat)
  case atStart => exact ⟨0, 0, none, 0, [], List.replicate fs.length 0, rfl, rfl, TI.zero fs, trivial, by simp, rfl, Nat.zero_le _, (hS.ownNil 3 1).front (Rem.tl Rem.hd)⟩
  case round =>
    clear hS
    obtain ⟨k, m, AD0, CAP0, st, fr, rfl, rfl, hR⟩ := hrel
    obtain ⟨ti, hsub, hfr, hm, hk, hS⟩ := hR
    obtain ⟨hb1, hb2⟩ := ti.bnd hl
    have hz := ti.sz hk
    have hfl : (Is fr).length = fs.length := by rw [Is_length, hfr]
    have hmb : m ≤ 65536 := by omega
    have hmc := (hS.ownCap (mem_tl mem_hd)).1
    by_cases hlt : k < fs.length
    · obtain ⟨⟨op, n⟩, hx⟩ : ∃ x, fs[k]? = some x := ⟨_, List.getElem?_eq_getElem hlt⟩
      have hfd := Fs_at hx
      have hFc : (Fs fs)[k * 2 + 0]? = some (.int .i64 op) := by
        have := congrArg (fun l => l[0]?) hfd
        simpa [List.getElem?_take] using this
      have NR := nodeR op n
      have AR := arityR op
      have HX := hid hx
      have HTI := hid ti
      have HSUB := hid hsub
      have HM := hid hm
      cases hnd : ndR op n with
      | false =>
        have HN : Hid (treeQ fs = none) := by
          apply hid
          rcases stepT_kids (op := op) (n := n) hsub hz with ⟨hs, _⟩ | ⟨t, ha, _⟩ | ⟨t, r, kk, ρ, hkk, ha, _⟩
          · exact ti.bad hx hs
          · have := nd_no hnd; omega
          · have := nd_no hnd; omega
        rw [hnd] at NR
        clear hx ti hsub hz hm
        go_wp2_with (first | ((with_reducible apply arm_indexAddr); exact wanted_none; exact ev_tmp rfl; exact ev_tmp rfl; exact E22; (omega); (omega); (assumption); (simp only [Int.toNat_natCast, Nat.mul_one, Nat.zero_add, tn_sub, tn_sub1, tn_sub2, tn_sub3, tn_add, tn_add1, tn_add2]; rfl); (try simp only [Act.put, q1, q2, q3])) | ((with_reducible apply arm_fieldAddrE); exact wanted_none; exact ev_tmp rfl; (assumption); exact fo50_0; (try simp only [Act.put, q1, q2, q3])) | ((with_reducible apply arm_loadE); exact wanted_none; exact ev_tmp rfl; (exact Sat.rdCell2 (by assumption) hS (by ((repeat (with_reducible apply mem_tl))); try assumption) (by (assumption))); decide +kernel; (try simp only [Act.put, q1, q2, q3])) | ((with_reducible apply arm_loadRN hS); exact wanted_none; exact ev_tmp rfl; assumption; (((repeat (with_reducible apply mem_tl))); (try assumption)); assumption; rfl; exact sz50; decide +kernel; decide; (try simp only [Act.put, q1, q2, q3])) | (go_at_call 92; refine (NR _ _ _ hS).mono ?_; clear hS; rintro e w ⟨rfl, hS⟩) | (go_at_call 93; refine (AR _ _ _ hS).mono ?_; clear hS; rintro e w ⟨rfl, hS⟩))
        go_ret2
        exact ⟨_, rfl, .inl ⟨_, rfl, HN.out, hS.drop.drop⟩⟩
      | true =>
        have ha0 := nd_yes hnd
        rw [hnd] at NR
        rw [← ha0] at AR
        rcases stepT_kids (op := op) (n := n) hsub hz with ⟨hs, hbad⟩ | ⟨t, ha, hs⟩ | ⟨t, r, kk, ρ, hkk, ha, hs, hlen, hro, htk, hρ, hfρ⟩
        · have HN := hid (ti.bad hx hs)
          have hgt : (m : Int) < arityP op n := by
            have : ¬ arityP op n < 0 := by
              rw [ha0]
              unfold ndR at hnd
              rcases arR_cases op with h | h | h | h | ⟨⟨h1, h2⟩, h3, h4, h5⟩
              · omega
              · omega
              · omega
              · omega
              · rw [if_neg h1, if_neg (by omega), h5] at hnd
                simp at hnd
            omega
          generalize arityP op n = ar at *
          clear hx ti hsub hz hm hs hbad ha0 hnd
          go_wp2_with (first | ((with_reducible apply arm_indexAddr); exact wanted_none; exact ev_tmp rfl; exact ev_tmp rfl; exact E22; (omega); (omega); (assumption); (simp only [Int.toNat_natCast, Nat.mul_one, Nat.zero_add, tn_sub, tn_sub1, tn_sub2, tn_sub3, tn_add, tn_add1, tn_add2]; rfl); (try simp only [Act.put, q1, q2, q3])) | ((with_reducible apply arm_fieldAddrE); exact wanted_none; exact ev_tmp rfl; (assumption); exact fo50_0; (try simp only [Act.put, q1, q2, q3])) | ((with_reducible apply arm_loadE); exact wanted_none; exact ev_tmp rfl; (exact Sat.rdCell2 (by assumption) hS (by ((repeat (with_reducible apply mem_tl))); try assumption) (by (assumption))); decide +kernel; (try simp only [Act.put, q1, q2, q3])) | ((with_reducible apply arm_loadRN hS); exact wanted_none; exact ev_tmp rfl; assumption; (((repeat (with_reducible apply mem_tl))); (try assumption)); assumption; rfl; exact sz50; decide +kernel; decide; (try simp only [Act.put, q1, q2, q3])) | (go_at_call 92; refine (NR _ _ _ hS).mono ?_; clear hS; rintro e w ⟨rfl, hS⟩) | (go_at_call 93; refine (AR _ _ _ hS).mono ?_; clear hS; rintro e w ⟨rfl, hS⟩))
          go_ret2
          exact ⟨_, rfl, .inl ⟨_, rfl, HN.out, hS.drop.drop⟩⟩
        · have HT2 := hid (ti.step hx hs)
          have HS2 := hid (hsub.step hz hx (by omega) hs t st rfl)
          have HZ := hid hz
          rw [ha] at AR
          have hys : (Is (roots st)).take (m * 1) = Is (roots st) := by rw [Nat.mul_one, List.take_of_length_le (by rw [Is_length, roots_length]; omega)]
          have hmm : ¬ (m : Int) < 0 := by omega
          clear hx ti hsub hz hm hs ha ha0 hnd
          go_wp2_with (first | ((with_reducible apply arm_indexAddr); exact wanted_none; exact ev_tmp rfl; exact ev_tmp rfl; (with_reducible first | exact E22 | exact E35); (omega); (omega); (first | exact hS.ownNN (by (repeat (with_reducible first | exact mem_hd | apply mem_tl))) (by omega) | assumption); (simp only [Int.toNat_natCast, Nat.mul_one, Nat.zero_add, tn_sub, tn_sub1, tn_sub2, tn_sub3, tn_add, tn_add1, tn_add2]; rfl); (try simp only [Act.put, q1, q2, q3])) | ((with_reducible apply arm_fieldAddrE); exact wanted_none; exact ev_tmp rfl; (assumption); exact fo50_0; (try simp only [Act.put, q1, q2, q3])) | ((with_reducible apply arm_loadE); exact wanted_none; exact ev_tmp rfl; (exact Sat.rdCell2 (by assumption) hS (by ((repeat (with_reducible apply mem_tl))); try assumption) (by (assumption))); decide +kernel; (try simp only [Act.put, q1, q2, q3])) | ((with_reducible apply arm_loadRN hS); exact wanted_none; exact ev_tmp rfl; assumption; (((repeat (with_reducible apply mem_tl))); (try assumption)); assumption; rfl; exact sz50; decide +kernel; decide; (try simp only [Act.put, q1, q2, q3])) | ((with_reducible apply arm_storeE hS); exact wanted_none; exact ev_tmp rfl; exact ev_tmp rfl; (repeat (with_reducible exact mem_hd)); (simp only [Is_length, Bs_length, List.length_take, List.length_drop]; omega); (repeat (with_reducible exact Upd.hd)); rfl; decide +kernel; clear hS; intro w hS; (try simp only [Act.put, q1, q2, q3])) | ((with_reducible apply arm_build1 hS); exact wanted_none; exact E35; exact ev_tmp rfl; exact cells_one rfl; rfl; decide; clear hS; intro NB3 w hS; (try simp only [Act.put, q1, q2, q3])) | ((with_reducible apply arm_appendK hS); exact wanted_none; exact ev_tmp rfl; exact ev_tmp rfl; exact E35; (repeat (with_reducible first | exact Rem.hd | apply Rem.tl)); (repeat (with_reducible apply Rem.tl)); (omega); (assumption); rfl; rfl; (omega); (omega); clear hS; intro AD CAP w hS; (try simp only [Act.put, q1, q2, q3])) | (go_at_call 92; refine (NR _ _ _ hS).mono ?_; clear hS; rintro e w ⟨rfl, hS⟩) | (go_at_call 93; refine (AR _ _ _ hS).mono ?_; clear hS; rintro e w ⟨rfl, hS⟩))
          have hsz2 := (HT2.out).sz (by omega)
          rw [sumSz_cons] at hsz2
          have e1 : Is (roots st) ++ [Value.int .i64 k] = Is (roots (t :: st)) := by
            rw [roots, Is_append]
            have : sumSz st + size t - 1 = k := by omega
            rw [this]; rfl
          have e2 : Subs fs (fr.set k (k : Int)) (t :: st) := by
            have := HS2.out
            rwa [HZ.out] at this
          rw [Is_set, e1] at hS
          go_roundw
          case rel => exact ⟨k + 1, m + 1, AD, CAP, t :: st, fr.set k (k : Int), by go_num, rfl, HT2.out, e2, by simp [hfr], by rw [HM.out]; rfl, by omega, hS.front (Rem.tl Rem.hd)⟩
          case measure => simp [intOf]; omega
        · have HT2 := hid (ti.step hx hs)
          have HS2 := hid (hsub.step hz hx (by omega) hs t r rfl)
          have HZ := hid hz
          rw [ha] at AR
          obtain ⟨m', hm'⟩ : ∃ m', m' = r.length := ⟨_, rfl⟩
          rw [← hm'] at hlen hro htk
          obtain rfl : m = m' + kk := by omega
          obtain ⟨σ, hσ⟩ : ∃ σ : Int, σ = (sumSz r : Int) := ⟨_, rfl⟩
          rw [← hσ] at hfρ
          have hys : (Is (roots st)).take (m' * 1) = Is (roots r) := by rw [Nat.mul_one, Is_take, htk]
          have hro2 : (Is (roots st))[m']? = some (.int .i64 (ρ : Int)) := Is_at hro
          have hfv : ((Is fr).set k (.int .i64 (k : Int)))[ρ]? = some (.int .i64 σ) := by rw [List.getElem?_set_ne (by omega)]; exact Is_at hfρ
          have hmm : ¬ ((m' : Int) + (kk : Int)) < (kk : Int) := by omega
          have hkp : 0 < (kk : Int) := by omega
          have HK := hid (And.intro hσ hm')
          clear hx ti hsub hz hm hs ha ha0 hnd hlen hro htk hfρ hσ hm'
          go_wp2_with (first | ((with_reducible apply arm_indexAddr); exact wanted_none; exact ev_tmp rfl; exact ev_tmp rfl; (with_reducible first | exact E22 | exact E35); (omega); (omega); (first | exact hS.ownNN (by (repeat (with_reducible first | exact mem_hd | apply mem_tl))) (by omega) | assumption); (simp only [Int.toNat_natCast, Nat.mul_one, Nat.zero_add, tn_sub, tn_sub1, tn_sub2, tn_sub3, tn_add, tn_add1, tn_add2]; rfl); (try simp only [Act.put, q1, q2, q3])) | ((with_reducible apply arm_fieldAddrE); exact wanted_none; exact ev_tmp rfl; (assumption); exact fo50_0; (try simp only [Act.put, q1, q2, q3])) | ((with_reducible apply arm_loadE); exact wanted_none; exact ev_tmp rfl; (first | exact (hS.ownCell (by (repeat (with_reducible first | exact mem_hd | apply mem_tl))) (by (assumption))).1 | exact Sat.rdCell2 (by assumption) hS (by ((repeat (with_reducible apply mem_tl))); try assumption) (by (assumption))); decide +kernel; (try simp only [Act.put, q1, q2, q3])) | ((with_reducible apply arm_loadRN hS); exact wanted_none; exact ev_tmp rfl; assumption; (((repeat (with_reducible apply mem_tl))); (try assumption)); assumption; rfl; exact sz50; decide +kernel; decide; (try simp only [Act.put, q1, q2, q3])) | ((with_reducible apply arm_storeE hS); exact wanted_none; exact ev_tmp rfl; exact ev_tmp rfl; (repeat (with_reducible exact mem_hd)); (first | (simp only [Is_length, Bs_length, List.length_take, List.length_drop]; omega) | (simp; omega)); (repeat (with_reducible exact Upd.hd)); rfl; decide +kernel; clear hS; intro w hS; (try simp only [Act.put, q1, q2, q3])) | ((with_reducible apply arm_build1 hS); exact wanted_none; exact E35; exact ev_tmp rfl; exact cells_one rfl; rfl; decide; clear hS; intro NB3 w hS; (try simp only [Act.put, q1, q2, q3])) | ((with_reducible apply arm_slice_h); exact wanted_none; exact ev_tmp rfl; exact ev_tmp rfl; exact E35; (omega); (omega); (simp only [Int.toNat_natCast, Nat.mul_one, Nat.zero_add, tn_sub, tn_sub1, tn_sub2, tn_sub3, tn_add, tn_add1, tn_add2]; rfl); (try simp only [Act.put, q1, q2, q3])) | ((with_reducible apply arm_appendK hS); exact wanted_none; exact ev_tmp rfl; exact ev_tmp rfl; exact E35; (repeat (with_reducible first | exact Rem.hd | apply Rem.tl)); (repeat (with_reducible apply Rem.tl)); (omega); (assumption); rfl; rfl; (omega); (omega); clear hS; intro AD CAP w hS; (try simp only [Act.put, q1, q2, q3])) | (go_at_call 92; refine (NR _ _ _ hS).mono ?_; clear hS; rintro e w ⟨rfl, hS⟩) | (go_at_call 93; refine (AR _ _ _ hS).mono ?_; clear hS; rintro e w ⟨rfl, hS⟩))
          have hsz2 := (HT2.out).sz (by omega)
          rw [sumSz_cons] at hsz2
          have e1 : Is (roots r) ++ [Value.int .i64 k] = Is (roots (t :: r)) := by
            rw [roots, Is_append]
            have : sumSz r + size t - 1 = k := by omega
            rw [this]; rfl
          have e2 : Subs fs (fr.set k σ) (t :: r) := by rw [HK.out.1]; exact HS2.out
          rw [List.set_set, Is_set, e1] at hS
          go_roundw
          case rel => exact ⟨k + 1, m' + 1, AD, CAP, t :: r, fr.set k σ, by go_num, rfl, HT2.out, e2, by simp [hfr], by rw [HK.out.2]; rfl, by omega, hS.front (Rem.tl Rem.hd)⟩
          case measure => simp [intOf]; omega
    · have hk2 : k = fs.length := by omega
      subst hk2
      rcases ti.done hl with ⟨t, rfl, hq⟩ | ⟨hne1, hq⟩
      · obtain rfl : m = 1 := by rw [hm]; rfl
        have HQ := hid (And.intro hq hsub.2)
        clear hq ti hm hsub hz
        go_wp2
        go_ret2
        exact ⟨_, rfl, .inr ⟨t, FB, fr, rfl, HQ.out.1, hfr, HQ.out.2, (hS.front (Rem.tl Rem.hd)).drop⟩⟩
      · have HN := hid hq
        have hm2 : ((m : Int) == 1) = false := by simp; omega
        clear hq ti hm hsub hz hne1
        go_wp2
        go_ret2
        exact ⟨_, rfl, .inl ⟨_, rfl, HN.out, hS.drop.drop⟩⟩
end Go.Proofs.YthackanffcaejaaGreatDoor
end
section
set_option linter.unusedSimpArgs false
set_option linter.unusedVariables false
set_option linter.unusedSectionVars false
set_option maxRecDepth 20000
namespace Go.Proofs.YthackanffcaejaaGreatDoor
open Go Go.RowKit Go.SL

section
variable (fs : List (Int × Int)) (hl : fs.length ≤ 9223372036854775807) (ad : Option Addr) (cap : Nat) (w0 w : World) (Hs : List HP) (hS : Sat w0 w Hs) {A : HP} (hA : A ∈ Hs) (hr : Rd A ad (Fs fs))
include hl hS hA hr
theorem startsAny : Calls Tryz.prog 55 #[.slice ad fs.length cap] w fun e w' => ∃ v, e = .returned v ∧ StPost fs w0 Hs v w' := by
  by_cases h : fs.length < 1 ∨ ¬ fs.length ≤ 65536
  · exact startsBad fs h hl ad cap w0 w Hs hS
  · exact startsR fs (by omega) (by omega) ad cap w0 w Hs hS hA hr
theorem printedNone (h : treeQ fs = none) : Calls Tryz.prog 32 #[.slice ad fs.length cap] w fun e w' => e = .returned (.tuple #[.pointer none, .bool false]) ∧ Sat w0 w' Hs := by
  have ST : Calls Tryz.prog 55 #[.slice ad fs.length cap] w fun e w' => ∃ x, e = .returned (.tuple #[x, .bool false]) ∧ Sat w0 w' Hs := by
    refine (startsAny fs hl ad cap w0 w Hs hS hA hr).mono fun e w' ⟨v, he, hp⟩ => ?_
    rcases hp with ⟨x, rfl, _, hS'⟩ | ⟨t, b, fr, _, hq, _⟩
    · exact ⟨x, he, hS'⟩
    · rw [h] at hq; cases hq
  clear h
  go_enter Tryz.func32, Tryz.ntmps32
  go_wp2_with (go_at_call 55; refine ST.mono ?_; clear hS ST; rintro e w ⟨x, rfl, hS⟩)
  go_ret2
  exact ⟨rfl, hS⟩
set_option maxHeartbeats 2000000 in
theorem printedSome (t : T) (h : treeQ fs = some t) : Calls Tryz.prog 32 #[.slice ad fs.length cap] w fun e w' => ∃ (p : Nat) (x y : Value), e = .returned (.tuple #[.pointer (some ⟨p, 0, none⟩), .bool true]) ∧ Sat w0 w' (pg p x y (wr t true) 0 (look t).1 :: Hs) := by
  obtain ⟨q1, q2, q3, q4, q5⟩ := treeQ_some h
  have hsz : size t = fs.length := by rw [q4, post_len]
  have ST : Calls Tryz.prog 55 #[.slice ad fs.length cap] w fun e w' => ∃ (b : Nat) (fr : List Int), e = .returned (.tuple #[.slice (some ⟨b, 0, none⟩) fs.length fs.length, .bool true]) ∧ fr.length = fs.length ∧ Sub fs fr 0 t ∧ Sat w0 w' (own 3 1 (some ⟨b, 0, none⟩) fs.length fs.length (Is fr) :: Hs) := by
    refine (startsAny fs hl ad cap w0 w Hs hS hA hr).mono fun e w' ⟨v, he, hp⟩ => ?_
    rcases hp with ⟨x, rfl, hn, hS'⟩ | ⟨t', b, fr, rfl, hq, hfl, hsub, hS'⟩
    · rw [h] at hn; cases hn
    · rw [h] at hq; simp at hq; subst hq; exact ⟨b, fr, he, hfl, hsub, hS'⟩
  have hpos := size_pos t
  obtain ⟨k1, k2, _⟩ := look_le t
  have fq : (false || (quP (rootOp t) && !true)) = false := by cases quP (rootOp t) <;> rfl
  have OP : ∀ (x : Int) (fr : List Int), x = (fs.length : Int) - 1 → fr.length = fs.length → Sub fs fr 0 t → ∀ (p : Nat) (b : Nat) (w1 : World), Sat w0 w1 (pg p (.slice ad fs.length cap) (.slice (some ⟨b, 0, none⟩) fs.length fs.length) [] 0 0 :: own 3 1 (some ⟨b, 0, none⟩) fs.length fs.length (Is fr) :: Hs) →
      Calls Tryz.prog 67 #[.pointer (some ⟨p, 0, none⟩), .int .i64 x, .bool false, .bool true] w1 fun e w' => e = .returned (.tuple #[]) ∧ Sat w0 w' (pg p (.slice ad fs.length cap) (.slice (some ⟨b, 0, none⟩) fs.length fs.length) (wr t true) 0 (look t).1 :: own 3 1 (some ⟨b, 0, none⟩) fs.length fs.length (Is fr) :: Hs) := by
    intro x fr hx hfl hsub p b w1 hS1
    have h1 := operandR fs fr t q3 q5 (treeAll fs fr _ t rfl q3 q5) 0 x false true false fq p ad (some ⟨b, 0, none⟩) cap fs.length A _ [] 0 0 w0 w1 _ hsub (by omega) (by omega) ⟨hr, Rd.of_own, .tail _ hA, .head _, hfl, q1⟩ (by omega) (by omega) (by omega) (by simp; omega) hS1
    have e1 : max (0 : Int) (0 + lkB t false true) = (look t).1 := by
      have : lkB t false true = (look t).1 := rfl
      rw [this]; omega
    rw [e1, List.nil_append] at h1
    exact h1
  have HQ := hid (And.intro q4 hsz)
  clear h q2 q4 hsz
  go_enter Tryz.func32, Tryz.ntmps32
  go_wp2_with (first | ((with_reducible apply arm_box hS); exact wanted_none; exact ev_tmp rfl; exact cells_agg; clear hS; intro NB w hS; (try simp only [Act.put, q1, q2, q3])) | (go_at_call 55; refine ST.mono ?_; clear hS ST; rintro e w ⟨b, fr, rfl, hfl, hsub, hS⟩) | (go_at_call 67; refine (OP _ fr (by omega) hfl hsub _ b _ (shut_pg (l := []) rfl ((hS.ownNil 5 1).front (Rem.tl Rem.hd)))).mono ?_; clear hS; rintro e w ⟨rfl, hS⟩))
  go_ret2
  exact ⟨_, _, _, rfl, (hS.front (Rem.tl Rem.hd)).drop⟩
theorem formedD : Calls Tryz.prog 12 #[.slice ad fs.length cap] w fun e w' => e = .returned (.bool (treeP fs).isSome) ∧ Sat w0 w' Hs := by
  obtain ⟨O, hO⟩ : ∃ O, O = (treeP fs).isSome := ⟨_, rfl⟩
  rw [← hO]
  cases h : treeQ fs with
  | none =>
    have HO := hid (show O = false by rw [hO, treeP, h]; rfl)
    have PN := printedNone fs hl ad cap w0 w Hs hS hA hr h
    clear h hO
    go_enter Tryz.func12, Tryz.ntmps12
    go_wp2_with (go_at_call 32; refine PN.mono ?_; clear hS PN; rintro e w ⟨rfl, hS⟩)
    go_ret
    exact ⟨by rw [HO.out]; rfl, hS⟩
  | some t =>
    have PS := printedSome fs hl ad cap w0 w Hs hS hA hr t h
    have HO := hid (show O = decide ((look t).1 ≤ 64) by
      rw [hO, treeP, h]
      by_cases hd : (look t).1 > 64
      · have h2 : ¬ (look t).1 ≤ 64 := by omega
        simp [hd, h2]
      · have h2 : (look t).1 ≤ 64 := by omega
        simp [hd, h2])
    clear h hO
    generalize (look t).1 = d at *
    go_enter Tryz.func12, Tryz.ntmps12
    go_wp2_with (first | ((with_reducible apply arm_load hS); exact wanted_guard rfl rfl; exact ev_tmp rfl; (repeat (with_reducible exact mem_hd)); rfl; decide +kernel; (try simp only [Act.put, q1, q2, q3])) | (go_at_call 32; refine PS.mono ?_; clear hS PS; rintro e w ⟨p, x, y, rfl, hS⟩; obtain ⟨PA, PC, hS⟩ := open_pg hS))
    go_ret
    exact ⟨by rw [HO.out]; rfl, hS.drop.drop⟩
theorem printD : Calls Tryz.prog 13 #[.slice ad fs.length cap] w fun e w' => e = .returned (.tuple #[.string ⟨(printsP fs).1.toArray⟩, .int .i64 (printsP fs).2]) ∧ Sat w0 w' Hs := by
  obtain ⟨O, hO⟩ : ∃ O, O = printsP fs := ⟨_, rfl⟩
  rw [← hO]
  cases h : treeQ fs with
  | none =>
    have HO := hid (show O = ([], 134) by rw [hO, printsP, treeP, h]; rfl)
    have PN := printedNone fs hl ad cap w0 w Hs hS hA hr h
    clear h hO
    go_enter Tryz.func13, Tryz.ntmps13
    go_wp2_with (go_at_call 32; refine PN.mono ?_; clear hS PN; rintro e w ⟨rfl, hS⟩)
    go_ret2
    exact ⟨by rw [HO.out]; rfl, hS⟩
  | some t =>
    have PS := printedSome fs hl ad cap w0 w Hs hS hA hr t h
    by_cases hd : (look t).1 > 64
    · have HO := hid (show O = ([], 134) by rw [hO, printsP, treeP, h]; simp [hd])
      clear h hO
      generalize (look t).1 = d at *
      go_enter Tryz.func13, Tryz.ntmps13
      go_wp2_with (first | ((with_reducible apply arm_load hS); exact wanted_guard rfl rfl; exact ev_tmp rfl; (repeat (with_reducible exact mem_hd)); rfl; decide +kernel; (try simp only [Act.put, q1, q2, q3])) | (go_at_call 32; refine PS.mono ?_; clear hS PS; rintro e w ⟨p, x, y, rfl, hS⟩; obtain ⟨PA, PC, hS⟩ := open_pg hS))
      go_ret2
      exact ⟨by rw [HO.out]; rfl, hS.drop.drop⟩
    · have ht : treeP fs = some t := by rw [treeP, h]; simp [hd]
      have hd2 : ¬ 64 < (look t).1 := hd
      by_cases hbig : (wr t true).length > 1048576
      · have HO := hid (show O = ([], 5) by rw [hO, printsP, ht]; simp only [if_pos hbig])
        have hb2 : ((wr t true).length : Int) > 1048576 := by omega
        clear h hO hd ht hbig
        generalize (look t).1 = d at *
        generalize wr t true = X at *
        go_enter Tryz.func13, Tryz.ntmps13
        go_wp2_with (first | ((with_reducible apply arm_load hS); (first | with_reducible exact wanted_none | exact wanted_guard rfl rfl); exact ev_tmp rfl; (repeat (with_reducible exact mem_hd)); rfl; decide +kernel; (try simp only [Act.put, q1, q2, q3])) | (go_at_call 32; refine PS.mono ?_; clear hS PS; rintro e w ⟨p, x, y, rfl, hS⟩; obtain ⟨PA, PC, hS⟩ := open_pg hS))
        go_ret2
        exact ⟨by rw [HO.out]; rfl, hS.drop.drop⟩
      · have HO := hid (show O = (wr t true, 0) by rw [hO, printsP, ht]; simp only [if_neg hbig])
        have hb2 : ¬ ((wr t true).length : Int) > 1048576 := by omega
        clear h hO hd ht hbig
        generalize (look t).1 = d at *
        generalize wr t true = X at *
        go_enter Tryz.func13, Tryz.ntmps13
        go_wp2_with (first | ((with_reducible apply arm_load hS); (first | with_reducible exact wanted_none | exact wanted_guard rfl rfl); exact ev_tmp rfl; (repeat (with_reducible exact mem_hd)); rfl; decide +kernel; (try simp only [Act.put, q1, q2, q3])) | ((with_reducible apply arm_strOwn hS); exact wanted_none; exact ev_tmp rfl; exact E66; kernel_rfl; kernel_rfl; (repeat (with_reducible first | exact mem_hd | apply mem_tl)); (try simp only [Act.put, q1, q2, q3])) | (go_at_call 32; refine PS.mono ?_; clear hS PS; rintro e w ⟨p, x, y, rfl, hS⟩; obtain ⟨PA, PC, hS⟩ := open_pg hS))
        go_ret2
        exact ⟨by rw [HO.out]; rfl, hS.drop.drop⟩
end
end Go.Proofs.YthackanffcaejaaGreatDoor
end
section
set_option linter.unusedVariables false
set_option linter.unusedSimpArgs false
namespace Go.SL
open Go Go.RowKit Go.ChangeShapes Go.WideShapes

section
variable {H : Type} {enc : TypeId × Value → H} {P : Program} {W : World}

theorem rd_base {a : Addr} {cs : List Value} (hc : ∀ (j : Nat) v, cs[j]? = some v → W.cell? (a.add j) = some v) : Rd (base W) (some a) cs := by
  intro w h hA hw j v hv
  have h1 := hc j v hv
  have hsp : a.spot = none := by
    have hj := (List.getElem?_eq_some_iff.1 hv).1
    have h2 := hc 0 _ (List.getElem?_eq_getElem (by omega))
    have e0 : a.add 0 = a := by simp [Addr.add]
    rw [e0] at h2
    unfold World.cell? at h2
    split at h2
    · split at h2
      · cases h2
      · rename_i hs; simpa using hs
    · cases h2
  refine ⟨⟨a, rfl, hsp⟩, ?_⟩
  have hb := World.block_lt_of_cell? W _ h1
  simp only [adr, Option.getD_some]
  have : w.heap[(a.add j).block]? = W.heap[(a.add j).block]? := by
    cases hx : W.heap[(a.add j).block]? with
    | none => rw [Array.getElem?_eq_none_iff] at hx; omega
    | some o => exact hw _ o (by rw [hA, if_pos hb, hx])
  rw [World.cell?_of_block this]
  exact h1
theorem rd_nil (A : HP) (ad : Option Addr) : Rd A ad [] := by
  intro w h hA hw j v hv
  simp at hv

end
end Go.SL
end
section
set_option linter.unusedVariables false
set_option linter.unusedSimpArgs false
set_option maxRecDepth 20000
namespace Go.Proofs.YthackanffcaejaaGreatDoor
open Go Go.RowKit Go.SL Go.ChangeShapes Go.WideShapes

theorem cellsN : Tryz.prog.cellsOf 50 = 2 := by kernel_rfl
theorem cellsI1 : Tryz.prog.cellsOf 3 = 1 := by kernel_rfl
section
variable {H : Type} {enc : TypeId × Value → H} {W : World}
theorem node_cells {sp : Nat → Bool} {fuel : Nat} {cs : List Value} {x : DataW H × List MemPlace} (h : DataW.trod enc Tryz.prog W 0 sp true fuel 50 cs = some x) : ∃ op n : Int, cs = [.int .i64 op, .int .i64 n] := by
  obtain ⟨xs, n, rfl, hx, hlc, hxl, hf⟩ := DataW.trod_struct Tryz.underlying50 h
  obtain ⟨y0, y1, rfl⟩ : ∃ y0 y1, xs = [y0, y1] := by
    match xs, hxl with
    | [y0, y1], _ => exact ⟨y0, y1, rfl⟩
  have g0 := hf 0 _ rfl
  have g1 := hf 1 _ rfl
  change DataW.trod enc Tryz.prog W 0 sp true n 3 ((cs.drop 0).take (Tryz.prog.cellsOf 3)) = _ at g0
  change DataW.trod enc Tryz.prog W 0 sp true n 3 ((cs.drop 1).take (Tryz.prog.cellsOf 3)) = _ at g1
  rw [cellsI1] at g0 g1
  have hc2 : cs.length = 2 := hlc.trans cellsN
  obtain ⟨a, b, rfl⟩ : ∃ a b, cs = [a, b] := by
    match cs, hc2 with
    | [a, b], _ => exact ⟨a, b, rfl⟩
  obtain ⟨v, e0, _, _⟩ := DataW.trod_int Tryz.underlying3 g0
  obtain ⟨u, e1, _, _⟩ := DataW.trod_int Tryz.underlying3 g1
  have h0 : a = .int .i64 v := by simpa using e0
  have h1 : b = .int .i64 u := by simpa using e1
  exact ⟨v, u, by rw [h0, h1]⟩
theorem argNodes {fuel : Nat} {cs : List Value} {x : DataW H × List MemPlace} (h : DataW.trod enc Tryz.prog W 0 (fun _ => true) true fuel 22 cs = some x) :
    ∃ (ad : Option Addr) (fs : List (Int × Int)) (cap : Nat), cs = [.slice ad fs.length cap] ∧ (ad = none → cap = 0 ∧ fs.length = 0) ∧ Rd (base W) ad (Fs fs) ∧ (∀ m, (∀ n ∈ x.1.weights Tryz.prog 22, n ≤ m) → fs.length * Tryz.prog.bytesOf 50 ≤ m) := by
  rcases DataW.trod_slice Tryz.underlying22 h with ⟨rfl, rfl⟩ | ⟨a, len, cap, elems, rest, n, _, rfl, rfl, hb, hl, hm, hlen, hel, hsp, hns⟩
  · exact ⟨none, [], 0, rfl, fun _ => ⟨rfl, rfl⟩, rd_nil _ _, fun m _ => by simp⟩
  · have each : ∀ i, ∃ p : Int × Int, i < len → W.cell? (a.add (i * 2 + 0)) = some (.int .i64 p.1) ∧ W.cell? (a.add (i * 2 + 1)) = some (.int .i64 p.2) := by
      intro i
      by_cases hi : i < len
      · have h1 := hel i hi
        rw [List.getElem?_eq_getElem (show i < elems.length by omega), Option.bind_eq_some_iff] at h1
        obtain ⟨cs', hcs, hy⟩ := h1
        obtain ⟨op, n', rfl⟩ := node_cells hy
        rw [cellsN] at hcs
        obtain ⟨_, _, hcell⟩ := World.cells?_some hcs
        have hsp : ∀ j : Nat, (a.add (i * 2)).add j = a.add (i * 2 + j) := by
          intro j
          by_cases h1 : i * 2 = 0
          · rw [h1, Nat.zero_add]; simp [Addr.add]
          · by_cases h2 : j = 0
            · subst h2; simp [Addr.add]
            · have h3 : ¬ i * 2 + j = 0 := by omega
              simp [Addr.add, h1, h2, h3, Nat.add_assoc]
        refine ⟨(op, n'), fun _ => ⟨?_, ?_⟩⟩
        · have := hcell 0 (by omega)
          rw [hsp] at this
          simpa using this
        · have := hcell 1 (by omega)
          rw [hsp] at this
          simpa using this
      · exact ⟨(0, 0), fun h => absurd h hi⟩
    obtain ⟨f, hf⟩ := Classical.axiomOfChoice each
    have hfl : ((List.range len).map f).length = len := by simp
    refine ⟨some a, (List.range len).map f, cap, by rw [hfl], (fun h => nomatch h), rd_base fun j v hv => ?_, fun m hmw => ?_⟩
    · have hj := (List.getElem?_eq_some_iff.1 hv).1
      rw [Fs_length, hfl] at hj
      have hi : j / 2 < len := by omega
      have hg : ((List.range len).map f)[j / 2]? = some ((f (j / 2)).1, (f (j / 2)).2) := by simp [hi]
      have hfa := Fs_at hg
      have h0 := congrArg (fun l => l[j % 2]?) hfa
      have hm2 : j % 2 < 2 := by omega
      simp only [List.getElem?_take, if_pos hm2, List.getElem?_drop] at h0
      rw [show j / 2 * 2 + j % 2 = j by omega, hv] at h0
      have hc := hf (j / 2) hi
      rcases Nat.mod_two_eq_zero_or_one j with e | e
      · rw [e] at h0
        simp at h0
        rw [h0, ← hc.1]
        congr 2; omega
      · rw [e] at h0
        simp at h0
        rw [h0, ← hc.2]
        congr 2; omega
    · have h1 := hmw ((elems.length + rest.length) * Tryz.prog.bytesOf 50) (by simp [DataW.weights, Tryz.underlying22])
      rw [hfl]
      have h2 : len * Tryz.prog.bytesOf 50 ≤ (elems.length + rest.length) * Tryz.prog.bytesOf 50 := Nat.mul_le_mul_right _ (by omega)
      omega
end
end Go.Proofs.YthackanffcaejaaGreatDoor
end
section
set_option linter.unusedVariables false
set_option linter.unusedSimpArgs false
namespace Go.SL
open Go Go.RowKit Go.ChangeShapes Go.WideShapes

def litV : DataW Unit → Value
  | .lit (.int k n) => .int k n
  | .lit (.string bs) => .string ⟨bs.toArray⟩
  | _ => undef
theorem flat_at {α : Type} {m : Nat} : ∀ (rows : List (List α)), (∀ r ∈ rows, r.length = m) → ∀ (i j : Nat), j < m → rows.flatten[i * m + j]? = (rows[i]?).bind (·[j]?)
  | [], _, i, j, _ => by simp
  | r :: rs, h, 0, j, hj => by
    have hr := h r (.head _)
    rw [Nat.zero_mul, Nat.zero_add, List.flatten_cons, List.getElem?_append_left (by omega)]; rfl
  | r :: rs, h, i + 1, j, hj => by
    have hr := h r (.head _)
    have e : (i + 1) * m + j - r.length = i * m + j := by rw [hr, Nat.succ_mul]; omega
    rw [List.flatten_cons, List.getElem?_append_right (by rw [hr, Nat.succ_mul]; omega), e, flat_at rs (fun x hx => h x (.tail _ hx)) i j hj]
    rfl
theorem flat_len {α : Type} {m : Nat} : ∀ (rows : List (List α)), (∀ r ∈ rows, r.length = m) → rows.flatten.length = rows.length * m
  | [], _ => by simp
  | r :: rs, h => by
    rw [List.flatten_cons, List.length_append, h r (.head _), flat_len rs fun x hx => h x (.tail _ hx), List.length_cons, Nat.succ_mul]; omega
section
variable {P : Program} {W : World} {t e : TypeId} {fs : Array Field} {fuel : Nat} {cs : List Value}
theorem field_lit {u : TypeId} {sp : Nat → Bool} {b : Bool} {x : DataW Unit × List MemPlace} (hu : P.underlying u = some (.int .i64) ∨ P.underlying u = some .string) (h : DataW.trod (fun _ => ()) P W 0 sp b fuel u cs = some x) : cs = [litV x.1] := by
  rcases hu with hu | hu
  · obtain ⟨n, rfl, rfl, _⟩ := DataW.trod_int hu h; rfl
  · obtain ⟨s, rfl, rfl, _⟩ := DataW.trod_string hu h; rfl
theorem row_lits {sp : Nat → Bool} {b : Bool} {x : DataW Unit × List MemPlace} (he : P.underlying e = some (.struct fs)) (hf : ∀ (i : Nat) (f : Field), fs[i]? = some f → (P.underlying f.type = some (.int .i64) ∨ P.underlying f.type = some .string) ∧ f.offset = i ∧ P.cellsOf f.type = 1)
    (hc : P.cellsOf e = fs.size) (h : DataW.trod (fun _ => ()) P W 0 sp b fuel e cs = some x) : ∃ ps : List (DataW Unit), x.1 = .agg ps ∧ cs = ps.map litV ∧ ps.length = fs.size := by
  obtain ⟨xs, n, rfl, hx, hlc, hxl, hall⟩ := DataW.trod_struct he h
  refine ⟨xs.map (·.1), by rw [hx], ?_, by simp [hxl]⟩
  apply List.ext_getElem?
  intro i
  by_cases hi : i < fs.size
  · obtain ⟨hu, ho, hc1⟩ := hf i fs[i] (by simp [hi])
    have h1 := hall i fs[i] (by simp [hi])
    obtain ⟨y, hy⟩ : ∃ y, xs[i]? = some y := ⟨xs[i]'(by omega), List.getElem?_eq_getElem (by omega)⟩
    rw [hy, ho, hc1] at h1
    have h2 := congrArg (fun l => l[0]?) (field_lit hu h1)
    simp only [List.getElem?_take, List.getElem?_drop, Nat.add_zero, List.getElem?_cons_zero] at h2
    rw [if_pos (by omega)] at h2
    rw [h2]
    simp [hy]
  · rw [List.getElem?_eq_none (by omega), List.getElem?_eq_none (by simp; omega)]
theorem table_view {p : List MemPlace} {rows : List (List (DataW Unit))} {m : Nat} (ht : P.underlying t = some (.slice e)) (he : P.underlying e = some (.struct fs))
    (hf : ∀ (i : Nat) (f : Field), fs[i]? = some f → (P.underlying f.type = some (.int .i64) ∨ P.underlying f.type = some .string) ∧ f.offset = i ∧ P.cellsOf f.type = 1) (hc : P.cellsOf e = m) (hm : fs.size = m) (h0 : 0 < m) (hr : 0 < rows.length)
    (h : DataW.trod (fun _ => ()) P W 0 (fun _ => true) false fuel t cs = some (.slice (rows.map .agg) [], p)) :
    ∃ (a : Addr) (cap : Nat), cs = [.slice (some a) rows.length cap] ∧ a.spot = none ∧ Rd (base W) (some a) (rows.map (·.map litV)).flatten := by
  rcases DataW.trod_slice ht h with ⟨_, hx⟩ | ⟨a, len, cap, elems, rest, n, _, rfl, hx, hb, hl, hmx, hlen, hel, hsp, hns⟩
  · cases hx
  · injection hx with hx1 hx2
    injection hx1 with hx1 hx3
    have hlr : rows.length = len := by rw [← hlen]; have := congrArg List.length hx1; simpa using this
    have each : ∀ i, i < len → ∃ r, rows[i]? = some r ∧ r.length = m ∧ ∀ j : Nat, j < m → W.cell? (a.add (i * m + j)) = (r.map litV)[j]? := by
      intro i hi
      have h1 := hel i hi
      rw [hc, List.getElem?_eq_getElem (show i < elems.length by omega), Option.bind_eq_some_iff] at h1
      obtain ⟨cs', hcs, hy⟩ := h1
      obtain ⟨ps, e1, e2, e3⟩ := row_lits he hf (by omega) hy
      have h2 : rows[i]? = some ps := by
        have h3 := congrArg (fun l => l[i]?) hx1
        simp only [List.getElem?_map, List.getElem?_eq_getElem (show i < elems.length by omega), Option.map_some, e1] at h3
        obtain ⟨r, hr1, hr2⟩ := Option.map_eq_some_iff.1 h3
        injection hr2 with hr2
        rw [hr1, hr2]
      obtain ⟨_, _, hcell⟩ := World.cells?_some hcs
      refine ⟨ps, h2, by omega, fun j hj => ?_⟩
      have hadd : (a.add (i * m)).add j = a.add (i * m + j) := by
        by_cases h1 : i * m = 0
        · rw [h1, Nat.zero_add]; simp [Addr.add]
        · by_cases h2 : j = 0
          · subst h2; simp [Addr.add]
          · have h3 : ¬ i * m + j = 0 := by omega
            simp [Addr.add, h1, h2, h3, Nat.add_assoc]
      have h4 := hcell j (by omega)
      rw [hadd] at h4
      rw [h4, e2]
    have hall : ∀ r ∈ rows.map (·.map litV), r.length = m := by
      intro r hr
      obtain ⟨r0, hr0, rfl⟩ := List.mem_map.1 hr
      obtain ⟨i, hi, e⟩ := List.getElem_of_mem hr0
      obtain ⟨r1, g1, g2, _⟩ := each i (by omega)
      rw [List.getElem?_eq_getElem hi, e] at g1
      injection g1 with g1
      rw [List.length_map, g1]; exact g2
    have hcells : ∀ (j : Nat) v, (rows.map (·.map litV)).flatten[j]? = some v → W.cell? (a.add j) = some v := by
      intro j v hv
      have hj := (List.getElem?_eq_some_iff.1 hv).1
      rw [flat_len _ hall, List.length_map, hlr] at hj
      have hi : j / m < len := Nat.div_lt_of_lt_mul (by rw [Nat.mul_comm]; exact hj)
      have hmod := Nat.mod_lt j h0
      have hdm : j / m * m + j % m = j := by rw [Nat.mul_comm]; exact Nat.div_add_mod j m
      obtain ⟨r, g1, g2, g3⟩ := each (j / m) hi
      have h1 := flat_at _ hall (j / m) (j % m) hmod
      rw [hdm, hv, List.getElem?_map, g1] at h1
      have h2 := g3 (j % m) hmod
      rw [hdm] at h2
      rw [h2]; exact h1.symm
    refine ⟨a, cap, by rw [hlr], ?_, rd_base hcells⟩
    obtain ⟨r, _, g2, g3⟩ := each 0 (by omega)
    have h1 := g3 0 h0
    have e0 : a.add (0 * m + 0) = a := by rw [Nat.zero_mul]; simp [Addr.add]
    rw [e0, List.getElem?_eq_getElem (by simp; omega)] at h1
    unfold World.cell? at h1
    split at h1
    · split at h1
      · cases h1
      · rename_i hs; simpa using hs
    · cases h1
theorem table_of {n : String} {g : Nat} {rows : List (List (DataW Unit))} {m : Nat} (hg : P.globalNamed n = some g) (hty : (P.globals[g]?).map (·.type) = some t) (hct : P.cellsOf t = 1) (ht : P.underlying t = some (.slice e)) (he : P.underlying e = some (.struct fs))
    (hf : ∀ (i : Nat) (f : Field), fs[i]? = some f → (P.underlying f.type = some (.int .i64) ∨ P.underlying f.type = some .string) ∧ f.offset = i ∧ P.cellsOf f.type = 1) (hc : P.cellsOf e = m) (hm : fs.size = m) (h0 : 0 < m) (hr : 0 < rows.length)
    (h : Lib.VarReads P W n (.slice (rows.map .agg) [])) :
    ∃ (a : Addr) (cap : Nat), W.cell? ⟨g, 0, none⟩ = some (.slice (some a) rows.length cap) ∧ a.spot = none ∧ Rd (base W) (some a) (rows.map (·.map litV)).flatten := by
  obtain ⟨g', t', cs, fuel, p, hg', ht', hvar, hd⟩ := h
  obtain rfl := Option.some.inj (hg.symm.trans hg')
  obtain rfl := Option.some.inj (hty.symm.trans ht')
  have hsp := @table_view P W t e fs fuel cs.toList p rows m ht he hf hc hm h0 hr
  obtain ⟨a, cap, h1, h2, h3⟩ := hsp hd
  refine ⟨a, cap, ?_, h2, h3⟩
  rw [World.var?_cell hg hvar 0]
  have : cs = #[.slice (some a) rows.length cap] := by
    rw [← Array.toList_inj, h1]
  rw [this]; rfl
end
end Go.SL
end
section
set_option linter.unusedVariables false
namespace Go.SL
open Go Go.RowKit Go.ChangeShapes Go.WideShapes Go.ChangeAt

theorem trodAll_below {H : Type} {enc : TypeId × Value → H} {P : Program} {W W' : World} (hl : laidOutB P = true) (hb : Below W.heap.size W W') :
    ∀ (ts : List TypeId) (vs : List Value) (ds : List (DataW H)) (ps : List MemPlace), (∀ t ∈ ts, P.readableRec t = true ∧ t < P.types.size) → (∀ p ∈ ps, p.block < W.heap.size) →
      DataW.TrodAll enc P W 0 (fun _ => true) true ts vs ds ps → DataW.TrodAll enc P W' 0 (fun b => decide (b < W.heap.size)) true ts vs ds ps
  | [], [], [], ps, _, _, h => h
  | t :: ts, v :: vs, d :: ds, ps, ht, hp, h => by
    obtain ⟨p, q, h1, h2, rfl⟩ := h
    obtain ⟨hr, hrow⟩ := ht t (by simp)
    exact ⟨p, q, Below.trod hl hr hrow h1 hb (fun x hx => hp x (by simp [hx])), trodAll_below hl hb ts vs ds q (fun t ht' => ht t (by simp [ht'])) (fun x hx => hp x (by simp [hx])) h2, rfl⟩
  | [], _ :: _, _, _, _, _, h => (h : False).elim
  | [], [], _ :: _, _, _, _, h => (h : False).elim
  | _ :: _, [], _, _, _, _, h => (h : False).elim
  | _ :: _, _ :: _, [], _, _, _, h => (h : False).elim
theorem trodAll_length {H : Type} {enc : TypeId × Value → H} {P : Program} {W : World} : ∀ (ts : List TypeId) (vs : List Value) (ds : List (DataW H)) (ps : List MemPlace),
    DataW.TrodAll enc P W 0 (fun _ => true) true ts vs ds ps → ds.length = ts.length
  | [], [], [], ps, _ => rfl
  | t :: ts, v :: vs, d :: ds, ps, h => by
    obtain ⟨p, q, _, h2, _⟩ := h
    simp [trodAll_length ts vs ds q h2]
  | [], _ :: _, _, _, h => (h : False).elim
  | [], [], _ :: _, _, h => (h : False).elim
  | _ :: _, [], _, _, h => (h : False).elim
  | _ :: _, _ :: _, [], _, h => (h : False).elim

theorem post_law {H : Type} {enc : TypeId × Value → H} {P : Program} {f : Func} {s : ChangeSpec} {W W' : World} {args : Array Value} {ds gs : List (DataW H)} {before : List MemPlace} {tb : TypeId}
    (hl : laidOutB P = true) (hts : ∀ t ∈ f.params.toList, P.readableRec t = true ∧ t < P.types.size) (hvars : s.vars = [])
    (hfn : ∀ ds : List (DataW H), ds.length = f.params.size → (s.fn H ds).results = [.lit (.bool true)] ∧ (s.fn H ds).args = ds ∧ (s.fn H ds).vars = [])
    (hrt : f.resultTypes = #[tb]) (hub : P.underlying tb = some .bool) (hW : DataW.Whole enc P f.params.toList s.vars false W args.toList ds gs before) (hb : Below W.heap.size W W') :
    s.post enc P f false true false false W args (.bool true) W' := by
  have hlt : ∀ p ∈ before, p.block < W.heap.size := fun p hp => hW.lt p hp
  have hW' := hW
  obtain ⟨p, q, hA, hV, rfl, hz, _⟩ := hW'
  rw [hvars] at hV
  obtain ⟨rfl, rfl⟩ := trodVars_none hV
  have hlen := trodAll_length _ _ _ _ hA
  obtain ⟨h1, h2, h3⟩ := hfn ds (by simpa using hlen)
  refine ⟨ds, [], p ++ [], [], p, [], hW, ?_, ?_, ?_, hb.frame _, fun h => by cases h⟩
  · rw [List.append_nil, h1, hrt]
    exact trodAll_mk1 (shut_bool hub true)
  · rw [List.append_nil, h2]
    exact trodAll_below hl hb _ _ _ _ hts (fun x hx => hlt x (by simp [hx])) hA
  · rw [List.append_nil, h3, hvars]
    exact rfl

theorem laidMet_tail {P : Program} {x : String × DataW Unit} {l : List (String × DataW Unit)} {w : World} (h : laidMet P (x :: l) w) : laidMet P l w := by
  obtain ⟨ps, hv, hn, hc⟩ := h
  obtain ⟨g, t, cs, fuel, p, q, _, _, _, _, hq, rfl⟩ := hv
  exact ⟨q, hq, (List.nodup_append.1 hn).2.1, fun b off hm => hc b off (by simp [hm])⟩
end Go.SL
end
