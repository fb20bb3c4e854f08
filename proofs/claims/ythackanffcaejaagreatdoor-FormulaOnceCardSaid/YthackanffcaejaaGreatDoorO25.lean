/- A part of the proof: Form15 Form16 Form17 RdN Bk5. -/
import Derived.Test.YthackanffcaejaaGreatDoorO1
import Derived.Test.YthackanffcaejaaGreatDoorO2
import Derived.Test.YthackanffcaejaaGreatDoorO3
import Derived.Test.YthackanffcaejaaGreatDoorO9
import Derived.Test.YthackanffcaejaaGreatDoorO19
import Derived.Test.YthackanffcaejaaGreatDoorO20
import Derived.Test.YthackanffcaejaaGreatDoorO22
import Derived.Test.YthackanffcaejaaGreatDoorO23
import Derived.Test.YthackanffcaejaaGreatDoorO24
set_option linter.unusedSimpArgs false
set_option linter.unusedVariables false
set_option linter.unusedSectionVars false
namespace Go.Proofs.YthackanffcaejaaGreatDoor
section
set_option maxRecDepth 20000
open Go Go.RowKit Go.SL

def arR (op : Int) : Int := if op = 1 ∨ op = 2 then 0 else if 3 ≤ op ∧ op ≤ 5 then 1 else if 6 ≤ op ∧ op ≤ 10 then 2 else if op = 11 then 3 else -1
def ndR (op n : Int) : Bool := if op = 1 then decide (n = 0) || decide (n = 1) else if op = 2 ∨ op = 4 ∨ op = 5 then decide (0 ≤ n) && decide (n < 65536) else decide (0 < arR op) && decide (n = 0)
theorem nd_yes {op n : Int} (h : ndR op n = true) : Ya op n = arR op := by
  unfold ndR at h
  split at h
  · rename_i h1
    subst h1
    have hn : n = 0 ∨ n = 1 := by simpa using h
    unfold Ya
    rw [if_pos (.inl ⟨rfl, hn⟩)]; rfl
  split at h
  · rename_i h1 h2
    have hn : 0 ≤ n ∧ n < 65536 := by simpa using h
    unfold Ya arR
    rcases h2 with rfl | rfl | rfl
    · rw [if_pos (.inr ⟨rfl, hn⟩)]; rfl
    · rw [if_neg (by omega), if_pos (.inr ⟨.inl rfl, hn⟩)]; rfl
    · rw [if_neg (by omega), if_pos (.inr ⟨.inr rfl, hn⟩)]; rfl
  · have hn : 0 < arR op ∧ n = 0 := by simpa using h
    obtain ⟨h3, rfl⟩ := hn
    unfold Ya
    unfold arR at h3 ⊢
    (repeat' split) <;> (repeat' split at h3) <;> omega
theorem nd_no {op n : Int} (h : ndR op n = false) : Ya op n < 0 := by
  unfold ndR at h
  split at h
  · rename_i h1
    subst h1
    have hn : ¬ n = 0 ∧ ¬ n = 1 := by simpa using h
    unfold Ya; (repeat' split) <;> omega
  split at h
  · rename_i h1 h2
    have hn : 0 ≤ n → ¬ n < 65536 := by simpa using h
    unfold Ya; (repeat' split) <;> omega
  · have hn : 0 < arR op → ¬ n = 0 := by simpa using h
    unfold Ya
    unfold arR at hn
    (repeat' split) <;> (repeat' split at hn) <;> omega
theorem UK (op : Int) : (op = 1 ∨ op = 2) ∧ arR op = 0 ∨ (¬ op = 1 ∧ ¬ op = 2) ∧ (3 ≤ op ∧ op ≤ 5) ∧ arR op = 1 ∨ (¬ op = 1 ∧ ¬ op = 2) ∧ (6 ≤ op ∧ op ≤ 10) ∧ arR op = 2 ∨ op = 11 ∧ arR op = 3 ∨ (¬ op = 1 ∧ ¬ op = 2) ∧ ¬ op = 11 ∧ (op < 3 ∨ 11 < op) ∧ arR op = -1 := by
  unfold arR; (repeat' split) <;> omega

theorem arityR (op : Int) (w0 w : World) (Hs : List HP) (hS : Sat w0 w Hs) : Calls Tryz.prog 93 #[.int .i64 op] w fun e w' => e = .returned (.int .i64 (arR op)) ∧ Sat w0 w' Hs := by
  rcases UK op with ⟨h, ha⟩ | ⟨⟨n1, n2⟩, ⟨h1, h2⟩, ha⟩ | ⟨⟨n1, n2⟩, ⟨h1, h2⟩, ha⟩ | ⟨h, ha⟩ | ⟨⟨n1, n2⟩, n3, h, ha⟩ <;> rw [ha] <;> clear ha
  · rcases h with rfl | rfl
    all_goals
      go_enter Tryz.func93, Tryz.ntmps93
      go_wp2
      go_ret
      exact ⟨rfl, hS⟩
  · have g1 : (op == 1) = false := by simp [n1]
    have g2 : (op == 2) = false := by simp [n2]
    clear n1 n2
    go_enter Tryz.func93, Tryz.ntmps93
    go_wp2
    go_ret
    exact ⟨rfl, hS⟩
  · have g1 : (op == 1) = false := by simp [n1]
    have g2 : (op == 2) = false := by simp [n2]
    have g3 : 3 ≤ op := by omega
    have g4 : ¬ op ≤ 5 := by omega
    clear n1 n2
    go_enter Tryz.func93, Tryz.ntmps93
    go_wp2
    go_ret
    exact ⟨rfl, hS⟩
  · subst h
    go_enter Tryz.func93, Tryz.ntmps93
    go_wp2
    go_ret
    exact ⟨rfl, hS⟩
  · have g1 : (op == 1) = false := by simp [n1]
    have g2 : (op == 2) = false := by simp [n2]
    have g5 : (op == 11) = false := by simp [n3]
    clear n1 n2 n3
    rcases h with h | h
    · have g3 : ¬ 3 ≤ op := by omega
      have g4 : ¬ 6 ≤ op := by omega
      clear h
      go_enter Tryz.func93, Tryz.ntmps93
      go_wp2
      go_ret
      exact ⟨rfl, hS⟩
    · have g3 : 3 ≤ op := by omega
      have g4 : ¬ op ≤ 5 := by omega
      have g6 : 6 ≤ op := by omega
      have g7 : ¬ op ≤ 10 := by omega
      clear h
      go_enter Tryz.func93, Tryz.ntmps93
      go_wp2
      go_ret
      exact ⟨rfl, hS⟩
set_option maxHeartbeats 4000000 in
theorem nodeR (op n : Int) (w0 w : World) (Hs : List HP) (hS : Sat w0 w Hs) : Calls Tryz.prog 92 #[.agg #[.int .i64 op, .int .i64 n]] w fun e w' => e = .returned (.bool (ndR op n)) ∧ Sat w0 w' Hs := by
  have pf : ∀ r, ndR op n = r → Calls Tryz.prog 92 #[.agg #[.int .i64 op, .int .i64 n]] w (fun e w' => e = .returned (.bool r) ∧ Sat w0 w' Hs) → Calls Tryz.prog 92 #[.agg #[.int .i64 op, .int .i64 n]] w fun e w' => e = .returned (.bool (ndR op n)) ∧ Sat w0 w' Hs := fun r h k => by rw [h]; exact k
  by_cases o1 : op = 1
  · subst o1
    by_cases q0 : n = 0
    · subst q0
      refine pf true rfl ?_
      go_enter Tryz.func92, Tryz.ntmps92
      go_wp2_with (first|((with_reducible apply yY hS);exact ya;exact yb rfl;exact yt;clear hS;intro NB w hS;(try simp only [Act.put,q1,q2,q3]))|((with_reducible apply yi hS);exact ya;exact yb rfl;exact yf;rfl;decide +kernel;(try simp only [Act.put,q1,q2,q3])))
      go_ret
      exact ⟨rfl, hS.drop⟩
    · refine pf (n == 1) (by by_cases h : n = 1 <;> simp [ndR, q0, h]) ?_
      have g0 : (n == 0) = false := by simp [q0]
      clear q0 pf
      go_enter Tryz.func92, Tryz.ntmps92
      go_wp2_with (first|((with_reducible apply yY hS);exact ya;exact yb rfl;exact yt;clear hS;intro NB w hS;(try simp only [Act.put,q1,q2,q3]))|((with_reducible apply yi hS);(first|with_reducible exact ya|exact yg rfl rfl);exact yb rfl;exact yf;rfl;decide +kernel;(try simp only [Act.put,q1,q2,q3])))
      go_ret
      exact ⟨by rfl, hS.drop⟩
  by_cases o2 : op = 2 ∨ op = 4 ∨ op = 5
  · by_cases q0 : 0 ≤ n
    · by_cases q1 : n < 65536
      · refine pf true (by simp [ndR, o1, o2, q0, q1]) ?_
        clear o1 pf
        rcases o2 with rfl | rfl | rfl
        all_goals
          go_enter Tryz.func92, Tryz.ntmps92
          go_wp2_with (first|((with_reducible apply yY hS);exact ya;exact yb rfl;exact yt;clear hS;intro NB w hS;(try simp only [Act.put,q1,q2,q3]))|((with_reducible apply yi hS);(first|with_reducible exact ya|exact yg rfl rfl);exact yb rfl;exact yf;rfl;decide +kernel;(try simp only [Act.put,q1,q2,q3])))
          go_ret
          exact ⟨by rfl, hS.drop⟩
      · refine pf false (by simp [ndR, o1, o2, q0, q1]) ?_
        clear o1 pf
        rcases o2 with rfl | rfl | rfl
        all_goals
          go_enter Tryz.func92, Tryz.ntmps92
          go_wp2_with (first|((with_reducible apply yY hS);exact ya;exact yb rfl;exact yt;clear hS;intro NB w hS;(try simp only [Act.put,q1,q2,q3]))|((with_reducible apply yi hS);(first|with_reducible exact ya|exact yg rfl rfl);exact yb rfl;exact yf;rfl;decide +kernel;(try simp only [Act.put,q1,q2,q3])))
          go_ret
          exact ⟨by rfl, hS.drop⟩
    · refine pf false (by simp [ndR, o1, o2, q0]) ?_
      clear o1 pf
      rcases o2 with rfl | rfl | rfl
      all_goals
        go_enter Tryz.func92, Tryz.ntmps92
        go_wp2_with (first|((with_reducible apply yY hS);exact ya;exact yb rfl;exact yt;clear hS;intro NB w hS;(try simp only [Act.put,q1,q2,q3]))|((with_reducible apply yi hS);exact ya;exact yb rfl;exact yf;rfl;decide +kernel;(try simp only [Act.put,q1,q2,q3])))
        go_ret
        exact ⟨by rfl, hS.drop⟩
  · have AR := arityR op
    have g1 : (op == 1) = false := by simp [o1]
    have g2 : (op == 2) = false := by simp; omega
    have g4 : (op == 4) = false := by simp; omega
    have g5 : (op == 5) = false := by simp; omega
    by_cases q0 : 0 < arR op
    · refine pf (n == 0) (by by_cases h : n = 0 <;> simp [ndR, o1, o2, q0, h]) ?_
      clear o1 o2 pf
      generalize arR op = k at *
      go_enter Tryz.func92, Tryz.ntmps92
      go_wp2_with (first|((with_reducible apply yY hS);exact ya;exact yb rfl;exact yt;clear hS;intro NB w hS;(try simp only [Act.put,q1,q2,q3]))|((with_reducible apply yi hS);(first|with_reducible exact ya|exact yg rfl rfl);exact yb rfl;exact yf;rfl;decide +kernel;(try simp only [Act.put,q1,q2,q3]))|(go_at_call 93;refine (AR _ _ _ hS).mono ?_;clear hS;rintro e w ⟨rfl, hS⟩))
      go_ret
      exact ⟨by rfl, hS.drop⟩
    · refine pf false (by simp [ndR, o1, o2, q0]) ?_
      clear o1 o2 pf
      generalize arR op = k at *
      go_enter Tryz.func92, Tryz.ntmps92
      go_wp2_with (first|((with_reducible apply yY hS);exact ya;exact yb rfl;exact yt;clear hS;intro NB w hS;(try simp only [Act.put,q1,q2,q3]))|((with_reducible apply yi hS);exact ya;exact yb rfl;exact yf;rfl;decide +kernel;(try simp only [Act.put,q1,q2,q3]))|(go_at_call 93;refine (AR _ _ _ hS).mono ?_;clear hS;rintro e w ⟨rfl, hS⟩))
      go_ret
      exact ⟨by rfl, hS.drop⟩
end
section
set_option maxRecDepth 20000
open Go Go.RowKit Go.SL

theorem TI.sz {fs : List (Int × Int)} {k : Nat} {st : List T} (h : TI fs k st) (hk : k ≤ fs.length) : Ym st = k := by
  have h1 := congrArg List.length (jN _ _ _ h)
  rw [ub] at h1
  simpa [YW, Nat.min_eq_left hk] using h1
theorem Yp (t : T) (r : List T) : Ym (t :: r) = size t + Ym r := by simp [Ym]
theorem Subs.step {fs : List (Int × Int)} {fr : List Int} {st st' : List T} {k : Nat} {op n : Int} (hs : Subs fs fr st) (hz : Ym st = k) (hx : fs[k]? = some (op, n)) (hk : k < fr.length) (h : YH st op n = some st') :
    ∀ t r, st' = t :: r → Subs fs (fr.set k (Ym r : Int)) (t :: r) := by
  intro t r e
  subst e
  have hg : ∀ v : Int, (fr.set k v)[k]? = some v := fun v => List.getElem?_set_self hk
  unfold YH at h
  split at h
  · rename_i hc
    simp at h
    obtain ⟨rfl, rfl⟩ := h
    obtain ⟨rfl, _⟩ := hc
    refine ⟨hs.set (by omega), ?_⟩
    rw [hz]
    exact ⟨hx, hg _⟩
  split at h
  · rename_i hc
    simp at h
    obtain ⟨rfl, rfl⟩ := h
    obtain ⟨rfl, _⟩ := hc
    refine ⟨hs.set (by omega), ?_⟩
    rw [hz]
    exact ⟨hx, hg _⟩
  split at h
  · rename_i hc
    obtain ⟨rfl, rfl⟩ := hc
    rcases st with _ | ⟨a, q⟩
    · simp at h
    · simp at h
      obtain ⟨rfl, rfl⟩ := h
      rw [Yp] at hz
      refine ⟨hs.1.set (by omega), hs.2.set (by omega), ?_, ?_⟩
      · rw [show Ym q + size a = k by omega]; exact hx
      · rw [show Ym q + size a = k by omega]; exact hg _
  split at h
  · rcases st with _ | ⟨a, q⟩
    · simp at h
    · simp at h
      obtain ⟨rfl, rfl⟩ := h
      rw [Yp] at hz
      refine ⟨hs.1.set (by omega), hs.2.set (by omega), ?_, ?_⟩
      · rw [show Ym q + size a = k by omega]; exact hx
      · rw [show Ym q + size a = k by omega]; exact hg _
  split at h
  · rename_i hc
    obtain ⟨_, _, rfl⟩ := hc
    rcases st with _ | ⟨b, _ | ⟨a, q⟩⟩
    · simp at h
    · simp at h
    · simp at h
      obtain ⟨rfl, rfl⟩ := h
      rw [Yp, Yp] at hz
      have hb := hs.2
      rw [Yp] at hb
      rw [show size a + Ym q = Ym q + size a by omega] at hb
      refine ⟨hs.1.1.set (by omega), hs.1.2.set (by omega), hb.set (by omega), ?_, ?_⟩
      · rw [show Ym q + size a + size b = k by omega]; exact hx
      · rw [show Ym q + size a + size b = k by omega]; exact hg _
  split at h
  · rename_i hc
    obtain ⟨rfl, rfl⟩ := hc
    rcases st with _ | ⟨b, _ | ⟨a, _ | ⟨c, q⟩⟩⟩
    · simp at h
    · simp at h
    · simp at h
    · simp at h
      obtain ⟨rfl, rfl⟩ := h
      rw [Yp, Yp, Yp] at hz
      have hb := hs.2
      have ha := hs.1.2
      rw [Yp, Yp] at hb
      rw [Yp] at ha
      rw [show size a + (size c + Ym q) = Ym q + size c + size a by omega] at hb
      rw [show size c + Ym q = Ym q + size c by omega] at ha
      refine ⟨hs.1.1.1.set (by omega), hs.1.1.2.set (by omega), ha.set (by omega), hb.set (by omega), ?_, ?_⟩
      · rw [show Ym q + size c + size a + size b = k by omega]; exact hx
      · rw [show Ym q + size c + size a + size b = k by omega]; exact hg _
  · cases h
theorem uL {fs : List (Int × Int)} {fr : List Int} {st : List T} {k : Nat} {op n : Int} (hs : Subs fs fr st) (hz : Ym st = k) :
    (YH st op n = none ∧ (Ya op n < 0 ∨ (¬ Ya op n < 0 ∧ Ya op n > (st.length : Int)))) ∨
    (∃ t, Ya op n = 0 ∧ YH st op n = some (t :: st)) ∨
    (∃ (t : T) (r : List T) (kk ρ : Nat), 0 < kk ∧ Ya op n = (kk : Int) ∧ YH st op n = some (t :: r) ∧ st.length = r.length + kk ∧ (kv st)[r.length]? = some (ρ : Int) ∧ (kv st).take r.length = kv r ∧ ρ < k ∧ fr[ρ]? = some (Ym r : Int)) := by
  have hp := kg
  rcases uj st op n with h | ⟨rfl, ha, h⟩ | ⟨rfl, ha, h⟩ | ⟨a, r, rfl, rfl, ha, h⟩ | ⟨a, r, rfl, hop, ha, h⟩ | ⟨a, b, r, rfl, hop, ha, h⟩ | ⟨c, a, b, r, rfl, rfl, ha, h⟩
  · exact .inl h
  · exact .inr (.inl ⟨_, ha, h⟩)
  · exact .inr (.inl ⟨_, ha, h⟩)
  · rw [Yp] at hz
    have := hp a
    exact .inr (.inr ⟨_, r, 1, Ym r + size a - 1, by omega, ha, h, rfl, by simp [kv, ← YM r], by simp [kv, ← YM r], by omega, hs.2.root.2⟩)
  · rw [Yp] at hz
    have := hp a
    exact .inr (.inr ⟨_, r, 1, Ym r + size a - 1, by omega, ha, h, rfl, by simp [kv, ← YM r], by simp [kv, ← YM r], by omega, hs.2.root.2⟩)
  · rw [Yp, Yp] at hz
    have := hp a
    have := hp b
    exact .inr (.inr ⟨_, r, 2, Ym r + size a - 1, by omega, ha, h, rfl, by simp [kv, ← YM r], by simp [kv, ← YM r], by omega, hs.1.2.root.2⟩)
  · rw [Yp, Yp, Yp] at hz
    have := hp a
    have := hp b
    have := hp c
    exact .inr (.inr ⟨_, r, 3, Ym r + size c - 1, by omega, ha, h, rfl, by simp [kv, ← YM r], by simp [kv, ← YM r], by omega, hs.1.1.2.root.2⟩)
theorem Is_set (l : List Int) (i : Nat) (v : Int) : (Is l).set i (.int .i64 v) = Is (l.set i v) := by simp [Is, List.map_set]

def gi (fs : List (Int × Int)) (w0 : World) (Hs : List HP) (v : Value) (w' : World) : Prop :=
  (∃ x, v = .tuple #[x, .bool false] ∧ kL fs = none ∧ Sat w0 w' Hs) ∨ ∃ (t : T) (b : Nat) (fr : List Int), v = .tuple #[.slice (some ⟨b, 0, none⟩) fs.length fs.length, .bool true] ∧ kL fs = some t ∧ fr.length = fs.length ∧ Sub fs fr 0 t ∧ Sat w0 w' (own 3 1 (some ⟨b, 0, none⟩) fs.length fs.length (Is fr) :: Hs)
structure SR (fs : List (Int × Int)) (w0 : World) (Hs : List HP) (b k m : Nat) (ad : Option Addr) (cap : Nat) (st : List T) (fr : List Int) (w : World) : Prop where
  hti : TI fs k st
  hsub : Subs fs fr st
  hfr : fr.length = fs.length
  hm : m = st.length
  hk : k ≤ fs.length
  sat : Sat w0 w (own 3 1 (some ⟨b, 0, none⟩) fs.length fs.length (Is fr) :: own 3 1 ad m cap (Is (kv st)) :: Hs)

theorem startsBad (fs : List (Int × Int)) (hl : fs.length < 1 ∨ ¬ fs.length ≤ 65536) (hl2 : fs.length ≤ 9223372036854775807) (ad : Option Addr) (cap : Nat) (w0 w : World) (Hs : List HP) (hS : Sat w0 w Hs) :
    Calls Tryz.prog 55 #[.slice ad fs.length cap] w fun e w' => ∃ v, e = .returned v ∧ gi fs w0 Hs v w' := by
  have HT : Hid (kL fs = none) := by
    apply hid
    unfold kL
    split
    · rfl
    · have : fs = [] := List.length_eq_zero_iff.1 (by omega)
      subst this
      rfl
  rcases hl with h | h
  · have h1 : (fs.length : Int) < 1 := by omega
    clear h
    go_enter Tryz.func55, Tryz.ntmps55
    go_wp2
    go_ret2
    exact ⟨_, rfl, .inl ⟨_, rfl, HT.out, hS⟩⟩
  · have h1 : ¬ (fs.length : Int) < 1 := by omega
    have h2 : (fs.length : Int) > 65536 := by omega
    clear h
    go_enter Tryz.func55, Tryz.ntmps55
    go_wp2
    go_ret2
    exact ⟨_, rfl, .inl ⟨_, rfl, HT.out, hS⟩⟩

set_option maxHeartbeats 4000000 in
theorem startsR (fs : List (Int × Int)) (hl0 : 1 ≤ fs.length) (hl : fs.length ≤ 65536) (ad : Option Addr) (cap : Nat) (w0 w : World) (Hs : List HP) (hS : Sat w0 w Hs) {A : HP} (hA : A ∈ Hs) (hr : Rd A ad (Fs fs)) :
    Calls Tryz.prog 55 #[.slice ad fs.length cap] w fun e w' => ∃ v, e = .returned v ∧ gi fs w0 Hs v w' := by
  have n0 : ¬ (fs.length : Int) < 1 := by omega
  have n1 : ¬ (fs.length : Int) > 65536 := by omega
  have hne : ∃ aa, ad = some aa ∧ aa.spot = none := Sat.rdAd2 hr hS hA (by rw [Ke]; omega)
  go_enter Tryz.func55, Tryz.ntmps55
  go_wp2_with ((with_reducible apply arm_make hS);exact ya;exact yb rfl;exact yb rfl;exact E35;exact z3;(omega);(omega);clear hS;intro FB w hS;(try simp only [Act.put,q1,q2,q3]))
  have hrep : List.replicate fs.length (Value.int .i64 0) = Is (List.replicate fs.length 0) := by simp [Is]
  rw [hrep] at hS
  have HR := hid hrep
  clear hrep
  go_loopw [6, 5] (fun i s wr => ∃ (k m : Nat) (ad' : Option Addr) (cap' : Nat) (st : List T) (fr : List Int), i = .int .i64 k ∧ s = .slice ad' m cap' ∧ SR fs w0 Hs FB k m ad' cap' st fr wr) (fun i _ _ => fs.length - (intOf i).toNat)
  case atStart => exact ⟨0, 0, none, 0, [], List.replicate fs.length 0, rfl, rfl, TI.zero fs, trivial, by simp, rfl, Nat.zero_le _, (hS.ownNil 3 1).front (Rem.tl Rem.hd)⟩
  case round =>
    clear hS
    obtain ⟨k, m, AD0, CAP0, st, fr, rfl, rfl, hR⟩ := hrel
    obtain ⟨ti, hsub, hfr, hm, hk, hS⟩ := hR
    obtain ⟨hb1, hb2⟩ := ti.bnd hl
    have hz := ti.sz hk
    have hfl : (Is fr).length = fs.length := by rw [Yr, hfr]
    have hmb : m ≤ 65536 := by omega
    have hmc := (hS.ownCap (ye yf)).1
    by_cases hlt : k < fs.length
    · obtain ⟨⟨op, n⟩, hx⟩ : ∃ x, fs[k]? = some x := ⟨_, List.getElem?_eq_getElem hlt⟩
      have hfd := Xr hx
      have hFc : (Fs fs)[k * 2 + 0]? = some (.int .i64 op) := by
        have := congrArg (fun l => l[0]?) hfd
        simpa [List.getElem?_take] using this
      have NR := nodeR op n
      have AR := arityR op
      have HX := hid hx
      have HTI := hid ti
      have HSUB := hid hsub
      have HM := hid hm
      cases hnd : ndR op n with
      | false =>
        have HN : Hid (kL fs = none) := by
          apply hid
          rcases uL (op := op) (n := n) hsub hz with ⟨hs, _⟩ | ⟨t, ha, _⟩ | ⟨t, r, kk, ρ, hkk, ha, _⟩
          · exact ti.bad hx hs
          · have := nd_no hnd; omega
          · have := nd_no hnd; omega
        rw [hnd] at NR
        clear hx ti hsub hz hm
        go_wp2_with (first|((with_reducible apply yA);exact ya;exact yb rfl;exact yb rfl;exact E22;(omega);(omega);(assumption);(simp only [Int.toNat_natCast, Nat.mul_one, Nat.zero_add, Yc, yL, yJ, yP, Yb, yQ, yK];rfl);(try simp only [Act.put,q1,q2,q3]))|((with_reducible apply yE);exact ya;exact yb rfl;(assumption);exact fo50_0;(try simp only [Act.put,q1,q2,q3]))|((with_reducible apply Yl);exact ya;exact yb rfl;(exact Sat.rdCell2 (by assumption) hS (by ((repeat (with_reducible apply ye)));try assumption) (by (assumption)));decide +kernel;(try simp only [Act.put,q1,q2,q3]))|((with_reducible apply Yo hS);exact ya;exact yb rfl;assumption;(((repeat (with_reducible apply ye)));(try assumption));assumption;rfl;exact sz50;decide +kernel;decide;(try simp only [Act.put,q1,q2,q3]))|(go_at_call 92;refine (NR _ _ _ hS).mono ?_;clear hS;rintro e w ⟨rfl, hS⟩)|(go_at_call 93;refine (AR _ _ _ hS).mono ?_;clear hS;rintro e w ⟨rfl, hS⟩))
        go_ret2
        exact ⟨_, rfl, .inl ⟨_, rfl, HN.out, hS.drop.drop⟩⟩
      | true =>
        have ha0 := nd_yes hnd
        rw [hnd] at NR
        rw [← ha0] at AR
        rcases uL (op := op) (n := n) hsub hz with ⟨hs, hbad⟩ | ⟨t, ha, hs⟩ | ⟨t, r, kk, ρ, hkk, ha, hs, hlen, hro, htk, hρ, hfρ⟩
        · have HN := hid (ti.bad hx hs)
          have hgt : (m : Int) < Ya op n := by
            have : ¬ Ya op n < 0 := by
              rw [ha0]
              unfold ndR at hnd
              rcases UK op with h | h | h | h | ⟨⟨h1, h2⟩, h3, h4, h5⟩
              · omega
              · omega
              · omega
              · omega
              · rw [if_neg h1, if_neg (by omega), h5] at hnd
                simp at hnd
            omega
          generalize Ya op n = ar at *
          clear hx ti hsub hz hm hs hbad ha0 hnd
          go_wp2_with (first|((with_reducible apply yA);exact ya;exact yb rfl;exact yb rfl;exact E22;(omega);(omega);(assumption);(simp only [Int.toNat_natCast, Nat.mul_one, Nat.zero_add, Yc, yL, yJ, yP, Yb, yQ, yK];rfl);(try simp only [Act.put,q1,q2,q3]))|((with_reducible apply yE);exact ya;exact yb rfl;(assumption);exact fo50_0;(try simp only [Act.put,q1,q2,q3]))|((with_reducible apply Yl);exact ya;exact yb rfl;(exact Sat.rdCell2 (by assumption) hS (by ((repeat (with_reducible apply ye)));try assumption) (by (assumption)));decide +kernel;(try simp only [Act.put,q1,q2,q3]))|((with_reducible apply Yo hS);exact ya;exact yb rfl;assumption;(((repeat (with_reducible apply ye)));(try assumption));assumption;rfl;exact sz50;decide +kernel;decide;(try simp only [Act.put,q1,q2,q3]))|(go_at_call 92;refine (NR _ _ _ hS).mono ?_;clear hS;rintro e w ⟨rfl, hS⟩)|(go_at_call 93;refine (AR _ _ _ hS).mono ?_;clear hS;rintro e w ⟨rfl, hS⟩))
          go_ret2
          exact ⟨_, rfl, .inl ⟨_, rfl, HN.out, hS.drop.drop⟩⟩
        · have HT2 := hid (ti.step hx hs)
          have HS2 := hid (hsub.step hz hx (by omega) hs t st rfl)
          have HZ := hid hz
          rw [ha] at AR
          have hys : (Is (kv st)).take (m * 1) = Is (kv st) := by rw [Nat.mul_one, List.take_of_length_le (by rw [Yr, YM]; omega)]
          have hmm : ¬ (m : Int) < 0 := by omega
          clear hx ti hsub hz hm hs ha ha0 hnd
          go_wp2_with (first|((with_reducible apply yA);exact ya;exact yb rfl;exact yb rfl;(with_reducible first|exact E22|exact E35);(omega);(omega);(first|exact hS.ownNN (by (repeat (with_reducible first|exact yf|apply ye))) (by omega)|assumption);(simp only [Int.toNat_natCast, Nat.mul_one, Nat.zero_add, Yc, yL, yJ, yP, Yb, yQ, yK];rfl);(try simp only [Act.put,q1,q2,q3]))|((with_reducible apply yE);exact ya;exact yb rfl;(assumption);exact fo50_0;(try simp only [Act.put,q1,q2,q3]))|((with_reducible apply Yl);exact ya;exact yb rfl;(exact Sat.rdCell2 (by assumption) hS (by ((repeat (with_reducible apply ye)));try assumption) (by (assumption)));decide +kernel;(try simp only [Act.put,q1,q2,q3]))|((with_reducible apply Yo hS);exact ya;exact yb rfl;assumption;(((repeat (with_reducible apply ye)));(try assumption));assumption;rfl;exact sz50;decide +kernel;decide;(try simp only [Act.put,q1,q2,q3]))|((with_reducible apply Jg hS);exact ya;exact yb rfl;exact yb rfl;exact yf;(simp only [Yr, Yt, List.length_take, List.length_drop];omega);exact Upd.hd;rfl;decide +kernel;clear hS;intro w hS;(try simp only [Act.put,q1,q2,q3]))|((with_reducible apply yI hS);exact ya;exact E35;exact yb rfl;exact Yz rfl;rfl;decide;clear hS;intro NB3 w hS;(try simp only [Act.put,q1,q2,q3]))|((with_reducible apply YZ hS);exact ya;exact yb rfl;exact yb rfl;exact E35;(repeat (with_reducible first|exact Rem.hd|apply Rem.tl));(repeat (with_reducible apply Rem.tl));(omega);(assumption);rfl;rfl;(omega);(omega);clear hS;intro AD CAP w hS;(try simp only [Act.put,q1,q2,q3]))|(go_at_call 92;refine (NR _ _ _ hS).mono ?_;clear hS;rintro e w ⟨rfl, hS⟩)|(go_at_call 93;refine (AR _ _ _ hS).mono ?_;clear hS;rintro e w ⟨rfl, hS⟩))
          have hsz2 := (HT2.out).sz (by omega)
          rw [Yp] at hsz2
          have e1 : Is (kv st) ++ [Value.int .i64 k] = Is (kv (t :: st)) := by
            rw [kv, JR]
            have : Ym st + size t - 1 = k := by omega
            rw [this]; rfl
          have e2 : Subs fs (fr.set k (k : Int)) (t :: st) := by
            have := HS2.out
            rwa [HZ.out] at this
          rw [Is_set, e1] at hS
          go_roundw
          case rel => exact ⟨k + 1, m + 1, AD, CAP, t :: st, fr.set k (k : Int), by go_num, rfl, HT2.out, e2, by simp [hfr], by rw [HM.out]; rfl, by omega, hS.front (Rem.tl Rem.hd)⟩
          case measure => simp [intOf]; omega
        · have HT2 := hid (ti.step hx hs)
          have HS2 := hid (hsub.step hz hx (by omega) hs t r rfl)
          have HZ := hid hz
          rw [ha] at AR
          obtain ⟨m', hm'⟩ : ∃ m', m' = r.length := ⟨_, rfl⟩
          rw [← hm'] at hlen hro htk
          obtain rfl : m = m' + kk := by omega
          obtain ⟨σ, hσ⟩ : ∃ σ : Int, σ = (Ym r : Int) := ⟨_, rfl⟩
          rw [← hσ] at hfρ
          have hys : (Is (kv st)).take (m' * 1) = Is (kv r) := by rw [Nat.mul_one, Is_take, htk]
          have hro2 : (Is (kv st))[m']? = some (.int .i64 (ρ : Int)) := Gb hro
          have hfv : ((Is fr).set k (.int .i64 (k : Int)))[ρ]? = some (.int .i64 σ) := by rw [List.getElem?_set_ne (by omega)]; exact Gb hfρ
          have hmm : ¬ ((m' : Int) + (kk : Int)) < (kk : Int) := by omega
          have hkp : 0 < (kk : Int) := by omega
          have HK := hid (And.intro hσ hm')
          clear hx ti hsub hz hm hs ha ha0 hnd hlen hro htk hfρ hσ hm'
          go_wp2_with (first|((with_reducible apply yA);exact ya;exact yb rfl;exact yb rfl;(with_reducible first|exact E22|exact E35);(omega);(omega);(first|exact hS.ownNN (by (repeat (with_reducible first|exact yf|apply ye))) (by omega)|assumption);(simp only [Int.toNat_natCast, Nat.mul_one, Nat.zero_add, Yc, yL, yJ, yP, Yb, yQ, yK];rfl);(try simp only [Act.put,q1,q2,q3]))|((with_reducible apply yE);exact ya;exact yb rfl;(assumption);exact fo50_0;(try simp only [Act.put,q1,q2,q3]))|((with_reducible apply Yl);exact ya;exact yb rfl;(first|exact (hS.ownCell (by (repeat (with_reducible first|exact yf|apply ye))) (by (assumption))).1|exact Sat.rdCell2 (by assumption) hS (by ((repeat (with_reducible apply ye)));try assumption) (by (assumption)));decide +kernel;(try simp only [Act.put,q1,q2,q3]))|((with_reducible apply Yo hS);exact ya;exact yb rfl;assumption;(((repeat (with_reducible apply ye)));(try assumption));assumption;rfl;exact sz50;decide +kernel;decide;(try simp only [Act.put,q1,q2,q3]))|((with_reducible apply Jg hS);exact ya;exact yb rfl;exact yb rfl;exact yf;(first|(simp only [Yr, Yt, List.length_take, List.length_drop];omega)|(simp;omega));exact Upd.hd;rfl;decide +kernel;clear hS;intro w hS;(try simp only [Act.put,q1,q2,q3]))|((with_reducible apply yI hS);exact ya;exact E35;exact yb rfl;exact Yz rfl;rfl;decide;clear hS;intro NB3 w hS;(try simp only [Act.put,q1,q2,q3]))|((with_reducible apply kx);exact ya;exact yb rfl;exact yb rfl;exact E35;(omega);(omega);(simp only [Int.toNat_natCast, Nat.mul_one, Nat.zero_add, Yc, yL, yJ, yP, Yb, yQ, yK];rfl);(try simp only [Act.put,q1,q2,q3]))|((with_reducible apply YZ hS);exact ya;exact yb rfl;exact yb rfl;exact E35;(repeat (with_reducible first|exact Rem.hd|apply Rem.tl));(repeat (with_reducible apply Rem.tl));(omega);(assumption);rfl;rfl;(omega);(omega);clear hS;intro AD CAP w hS;(try simp only [Act.put,q1,q2,q3]))|(go_at_call 92;refine (NR _ _ _ hS).mono ?_;clear hS;rintro e w ⟨rfl, hS⟩)|(go_at_call 93;refine (AR _ _ _ hS).mono ?_;clear hS;rintro e w ⟨rfl, hS⟩))
          have hsz2 := (HT2.out).sz (by omega)
          rw [Yp] at hsz2
          have e1 : Is (kv r) ++ [Value.int .i64 k] = Is (kv (t :: r)) := by
            rw [kv, JR]
            have : Ym r + size t - 1 = k := by omega
            rw [this]; rfl
          have e2 : Subs fs (fr.set k σ) (t :: r) := by rw [HK.out.1]; exact HS2.out
          rw [List.set_set, Is_set, e1] at hS
          go_roundw
          case rel => exact ⟨k + 1, m' + 1, AD, CAP, t :: r, fr.set k σ, by go_num, rfl, HT2.out, e2, by simp [hfr], by rw [HK.out.2]; rfl, by omega, hS.front (Rem.tl Rem.hd)⟩
          case measure => simp [intOf]; omega
    · have hk2 : k = fs.length := by omega
      subst hk2
      rcases ti.done hl with ⟨t, rfl, hq⟩ | ⟨hne1, hq⟩
      · obtain rfl : m = 1 := by rw [hm]; rfl
        have HQ := hid (And.intro hq hsub.2)
        clear hq ti hm hsub hz
        go_wp2
        go_ret2
        exact ⟨_, rfl, .inr ⟨t, FB, fr, rfl, HQ.out.1, hfr, HQ.out.2, (hS.front (Rem.tl Rem.hd)).drop⟩⟩
      · have HN := hid hq
        have hm2 : ((m : Int) == 1) = false := by simp; omega
        clear hq ti hm hsub hz hne1
        go_wp2
        go_ret2
        exact ⟨_, rfl, .inl ⟨_, rfl, HN.out, hS.drop.drop⟩⟩
end
section
set_option maxRecDepth 20000
open Go Go.RowKit Go.SL

section
variable (fs : List (Int × Int)) (hl : fs.length ≤ 9223372036854775807) (ad : Option Addr) (cap : Nat) (w0 w : World) (Hs : List HP) (hS : Sat w0 w Hs) {A : HP} (hA : A ∈ Hs) (hr : Rd A ad (Fs fs))
include hl hS hA hr
theorem UX : Calls Tryz.prog 55 #[.slice ad fs.length cap] w fun e w' => ∃ v, e = .returned v ∧ gi fs w0 Hs v w' := by
  by_cases h : fs.length < 1 ∨ ¬ fs.length ≤ 65536
  · exact startsBad fs h hl ad cap w0 w Hs hS
  · exact startsR fs (by omega) (by omega) ad cap w0 w Hs hS hA hr
theorem Xa (h : kL fs = none) : Calls Tryz.prog 32 #[.slice ad fs.length cap] w fun e w' => e = .returned (.tuple #[.pointer none, .bool false]) ∧ Sat w0 w' Hs := by
  have ST : Calls Tryz.prog 55 #[.slice ad fs.length cap] w fun e w' => ∃ x, e = .returned (.tuple #[x, .bool false]) ∧ Sat w0 w' Hs := by
    refine (UX fs hl ad cap w0 w Hs hS hA hr).mono fun e w' ⟨v, he, hp⟩ => ?_
    rcases hp with ⟨x, rfl, _, hS'⟩ | ⟨t, b, fr, _, hq, _⟩
    · exact ⟨x, he, hS'⟩
    · rw [h] at hq; cases hq
  clear h
  go_enter Tryz.func32, Tryz.ntmps32
  go_wp2_with (go_at_call 55; refine ST.mono ?_; clear hS ST; rintro e w ⟨x, rfl, hS⟩)
  go_ret2
  exact ⟨rfl, hS⟩
set_option maxHeartbeats 2000000 in
theorem XH (t : T) (h : kL fs = some t) : Calls Tryz.prog 32 #[.slice ad fs.length cap] w fun e w' => ∃ (p : Nat) (x y : Value), e = .returned (.tuple #[.pointer (some ⟨p, 0, none⟩), .bool true]) ∧ Sat w0 w' (pg p x y (wr t true) 0 (look t).1 :: Hs) := by
  obtain ⟨q1, q2, q3, q4, q5⟩ := Jd h
  have hsz : size t = fs.length := by rw [q4, YS]
  have ST : Calls Tryz.prog 55 #[.slice ad fs.length cap] w fun e w' => ∃ (b : Nat) (fr : List Int), e = .returned (.tuple #[.slice (some ⟨b, 0, none⟩) fs.length fs.length, .bool true]) ∧ fr.length = fs.length ∧ Sub fs fr 0 t ∧ Sat w0 w' (own 3 1 (some ⟨b, 0, none⟩) fs.length fs.length (Is fr) :: Hs) := by
    refine (UX fs hl ad cap w0 w Hs hS hA hr).mono fun e w' ⟨v, he, hp⟩ => ?_
    rcases hp with ⟨x, rfl, hn, hS'⟩ | ⟨t', b, fr, rfl, hq, hfl, hsub, hS'⟩
    · rw [h] at hn; cases hn
    · rw [h] at hq; simp at hq; subst hq; exact ⟨b, fr, he, hfl, hsub, hS'⟩
  have hpos := kg t
  obtain ⟨k1, k2, _⟩ := YC t
  have fq : (false || (quP (Yg t) && !true)) = false := by cases quP (Yg t) <;> rfl
  have OP : ∀ (x : Int) (fr : List Int), x = (fs.length : Int) - 1 → fr.length = fs.length → Sub fs fr 0 t → ∀ (p : Nat) (b : Nat) (w1 : World), Sat w0 w1 (pg p (.slice ad fs.length cap) (.slice (some ⟨b, 0, none⟩) fs.length fs.length) [] 0 0 :: own 3 1 (some ⟨b, 0, none⟩) fs.length fs.length (Is fr) :: Hs) →
      Calls Tryz.prog 67 #[.pointer (some ⟨p, 0, none⟩), .int .i64 x, .bool false, .bool true] w1 fun e w' => e = .returned (.tuple #[]) ∧ Sat w0 w' (pg p (.slice ad fs.length cap) (.slice (some ⟨b, 0, none⟩) fs.length fs.length) (wr t true) 0 (look t).1 :: own 3 1 (some ⟨b, 0, none⟩) fs.length fs.length (Is fr) :: Hs) := by
    intro x fr hx hfl hsub p b w1 hS1
    have h1 := kX fs fr t q3 q5 (treeAll fs fr _ t rfl q3 q5) 0 x false true false fq p ad (some ⟨b, 0, none⟩) cap fs.length A _ [] 0 0 w0 w1 _ hsub (by omega) (by omega) ⟨hr, Rd.of_own, .tail _ hA, .head _, hfl, q1⟩ (by omega) (by omega) (by omega) (by simp; omega) hS1
    have e1 : max (0 : Int) (0 + lkB t false true) = (look t).1 := by
      have : lkB t false true = (look t).1 := rfl
      rw [this]; omega
    rw [e1, List.nil_append] at h1
    exact h1
  have HQ := hid (And.intro q4 hsz)
  clear h q2 q4 hsz
  go_enter Tryz.func32, Tryz.ntmps32
  go_wp2_with (first|((with_reducible apply yY hS);exact ya;exact yb rfl;exact yt;clear hS;intro NB w hS;(try simp only [Act.put,q1,q2,q3]))|(go_at_call 55;refine ST.mono ?_;clear hS ST;rintro e w ⟨b, fr, rfl, hfl, hsub, hS⟩)|(go_at_call 67;refine (OP _ fr (by omega) hfl hsub _ b _ (yT (l := []) rfl ((hS.ownNil 5 1).front (Rem.tl Rem.hd)))).mono ?_;clear hS;rintro e w ⟨rfl, hS⟩))
  go_ret2
  exact ⟨_, _, _, rfl, (hS.front (Rem.tl Rem.hd)).drop⟩
theorem printD : Calls Tryz.prog 13 #[.slice ad fs.length cap] w fun e w' => e = .returned (.tuple #[.string ⟨(ke fs).1.toArray⟩, .int .i64 (ke fs).2]) ∧ Sat w0 w' Hs := by
  obtain ⟨O, hO⟩ : ∃ O, O = ke fs := ⟨_, rfl⟩
  rw [← hO]
  cases h : kL fs with
  | none =>
    have HO := hid (show O = ([], 134) by rw [hO, ke, km, h]; rfl)
    have PN := Xa fs hl ad cap w0 w Hs hS hA hr h
    clear h hO
    go_enter Tryz.func13, Tryz.ntmps13
    go_wp2_with (go_at_call 32; refine PN.mono ?_; clear hS PN; rintro e w ⟨rfl, hS⟩)
    go_ret2
    exact ⟨by rw [HO.out]; rfl, hS⟩
  | some t =>
    have PS := XH fs hl ad cap w0 w Hs hS hA hr t h
    by_cases hd : (look t).1 > 64
    · have HO := hid (show O = ([], 134) by rw [hO, ke, km, h]; simp [hd])
      clear h hO
      generalize (look t).1 = d at *
      go_enter Tryz.func13, Tryz.ntmps13
      go_wp2_with (first|((with_reducible apply yi hS);exact yg rfl rfl;exact yb rfl;exact yf;rfl;decide +kernel;(try simp only [Act.put,q1,q2,q3]))|(go_at_call 32;refine PS.mono ?_;clear hS PS;rintro e w ⟨p, x, y, rfl, hS⟩;obtain ⟨PA, PC, hS⟩ := yZ hS))
      go_ret2
      exact ⟨by rw [HO.out]; rfl, hS.drop.drop⟩
    · have ht : km fs = some t := by rw [km, h]; simp [hd]
      have hd2 : ¬ 64 < (look t).1 := hd
      by_cases hbig : (wr t true).length > 1048576
      · have HO := hid (show O = ([], 5) by rw [hO, ke, ht]; simp only [if_pos hbig])
        have hb2 : ((wr t true).length : Int) > 1048576 := by omega
        clear h hO hd ht hbig
        generalize (look t).1 = d at *
        generalize wr t true = X at *
        go_enter Tryz.func13, Tryz.ntmps13
        go_wp2_with (first|((with_reducible apply yi hS);(first|with_reducible exact ya|exact yg rfl rfl);exact yb rfl;exact yf;rfl;decide +kernel;(try simp only [Act.put,q1,q2,q3]))|(go_at_call 32;refine PS.mono ?_;clear hS PS;rintro e w ⟨p, x, y, rfl, hS⟩;obtain ⟨PA, PC, hS⟩ := yZ hS))
        go_ret2
        exact ⟨by rw [HO.out]; rfl, hS.drop.drop⟩
      · have HO := hid (show O = (wr t true, 0) by rw [hO, ke, ht]; simp only [if_neg hbig])
        have hb2 : ¬ ((wr t true).length : Int) > 1048576 := by omega
        clear h hO hd ht hbig
        generalize (look t).1 = d at *
        generalize wr t true = X at *
        go_enter Tryz.func13, Tryz.ntmps13
        go_wp2_with (first|((with_reducible apply yi hS);(first|with_reducible exact ya|exact yg rfl rfl);exact yb rfl;exact yf;rfl;decide +kernel;(try simp only [Act.put,q1,q2,q3]))|((with_reducible apply gb hS);exact ya;exact yb rfl;exact E66;kernel_rfl;kernel_rfl;(repeat (with_reducible first|exact yf|apply ye));(try simp only [Act.put,q1,q2,q3]))|(go_at_call 32;refine PS.mono ?_;clear hS PS;rintro e w ⟨p, x, y, rfl, hS⟩;obtain ⟨PA, PC, hS⟩ := yZ hS))
        go_ret2
        exact ⟨by rw [HO.out]; rfl, hS.drop.drop⟩
end
end
section
open Go Go.RowKit Go.SL Go.ClauseP Go.LexP

theorem run_len {text : List UInt8} {m : MS} {w q : Int} {t : TokR} {r : Ans} (h : MRun text m w q t r) : MInv m → ∀ o, r = .inr o → o.length ≤ 65536 := by
  induction h with
  | err hs => intro _ o e; cases e
  | @done m w q t o hs =>
    intro hi o' e
    injection e with e; subst e
    have h3 : Inv3 m.nds (m.st, m.out, m.opn) := ⟨hi.1, hi.2.1, hi.2.2.1⟩
    have h4 := jd _ _ _ h3
    have h5 := hi.2.2.2
    cases t with
    | mk tk at_ fin =>
      dsimp only at hs
      cases tk with
      | fin =>
        simp only [yB] at hs
        split at hs
        · generalize Yd m.st m.out m.opn = x at *
          obtain ⟨S, o1, k⟩ := x
          cases S with
          | nil => injection hs with hs; subst hs; have := h4.2.1; simp [sN] at this; omega
          | cons a S => cases hs
        · cases hs
      | op o => simp only [yB, Yw] at hs; split at hs <;> (try split at hs) <;> cases hs
      | cls =>
        simp only [yB] at hs; split at hs
        · generalize Yd m.st m.out m.opn = x at hs
          obtain ⟨S, o1, k⟩ := x
          rcases S with _ | ⟨a, S⟩
          · cases hs
          · cases a <;> simp only [kY] at hs <;> (try split at hs) <;> cases hs
        · cases hs
      | comma =>
        simp only [yB] at hs; split at hs
        · generalize Yd m.st m.out m.opn = x at hs
          obtain ⟨S, o1, k⟩ := x
          rcases S with _ | ⟨a, S⟩
          · cases hs
          · cases a <;> simp only [KB] at hs <;> (try split at hs) <;> cases hs
        · split at hs <;> cases hs
      | _ => simp only [yB, Yw, YK] at hs <;> (repeat' split at hs) <;> cases hs
  | go hs _ ih => intro hi o e; exact ih (YX hi hs) o e
end
section
open Go Go.RowKit Go.SL Go.ClauseP Go.LexP

def opn1 : Tk → Nat
  | .opn => 1
  | _ => 0
theorem drop40 (l : List UInt8) (n : Nat) : (l.drop n).count 40 ≤ l.count 40 := (List.drop_sublist n l).count_le 40
theorem tokW_opn (w : List UInt8) : kU w ≠ .opn := by
  unfold kU
  (repeat' split) <;> ((intro h; cases h))
theorem piece_opn {d : List UInt8} (h : (Yj d).1 = .opn) : 1 + (d.drop (Yj d).2).count 40 ≤ d.count 40 := by
  cases d with
  | nil => cases h
  | cons c l =>
    unfold Yj at h ⊢
    dsimp only at h ⊢
    split at h
    · exact absurd h (tokW_opn _)
    · rename_i h1
      rw [if_neg h1]
      split at h
      · dsimp only at h; split at h <;> cases h
      · rename_i h2
        rw [if_neg h2]
        split at h
        · rename_i s hs
          have hp := List.find?_some hs
          have hm := List.mem_of_find?_eq_some hs
          simp only [signs11, signs10, List.cons_append, List.nil_append, List.mem_cons, List.not_mem_nil, or_false] at hm
          rcases hm with rfl | rfl | rfl | rfl | rfl | rfl | rfl | rfl | rfl | rfl | rfl | rfl | rfl | rfl | rfl | rfl | rfl | rfl | rfl | rfl | rfl <;> first | cases h | skip
          have e : c = 40 := by simp [List.isPrefixOf] at hp; exact hp.symm
          subst e
          simp only [hs, List.length_cons, List.length_nil, List.drop_succ_cons, List.drop_zero, List.count_cons_self]
          omega
        · cases h
theorem next40 (text : List UInt8) (k : Nat) : opn1 (yS text k).tk + (text.drop (yS text k).fin).count 40 ≤ (text.drop k).count 40 := by
  obtain ⟨e1, e2⟩ := JN text k
  rw [e1, e2]
  generalize text.drop k = s
  have h1 := drop40 s (Yx false s)
  unfold YJ
  generalize s.drop (Yx false s) = d at *
  dsimp only
  have h2 := drop40 d (Yj d).2
  by_cases h : (Yj d).1 = .opn
  · have := piece_opn h; rw [h]; show 1 + _ ≤ _; omega
  · have : opn1 (Yj d).1 = 0 := by
      unfold opn1; split
      · rename_i e; exact absurd e h
      · rfl
    omega
def rf (text : List UInt8) (p : Ps) : Nat := (text.drop p.fin).count 40
def rest (text : List UInt8) (p : Ps) : Nat := opn1 p.tk + rf text p
def isOp (t : Tk) : Prop := ∃ k, t = .op k
def Nxt (text : List UInt8) (p q : Ps) (dn : Nat) : Prop := Ok text q ∧ q.opn = p.opn + dn ∧ rest text q ≤ rf text p
theorem JH {text : List UInt8} {p q : Ps} (hp : Ok text p) (h : yV text p = .inr q) : Nxt text p q 0 := by
  obtain ⟨h1, h2, h3, _⟩ := uv h
  refine ⟨KS hp.2.2.2.1 hp.2.1 hp.2.2.1 h, h2, ?_⟩
  have := next40 text p.fin
  rw [← h1] at this
  exact this
theorem je {text : List UInt8} {p q : Ps} (hp : Ok text p) (h : yu (yD p) (yV text) = .inr q) : Nxt text p q 0 := by
  unfold yD at h
  by_cases hn : p.nds = 65536
  · rw [if_pos hn] at h; cases h
  · rw [if_neg hn] at h
    exact JH (p := { p with nds := p.nds + 1 }) ⟨hp.1, hp.2.1, by dsimp only; have := hp.2.2.1; omega, hp.2.2.2⟩ h
theorem nxt_opens {text : List UInt8} {p q : Ps} (hp : Ok text p) (h : yu (Ye p) (yV text) = .inr q) : Nxt text p q 1 := by
  unfold Ye at h
  by_cases hn : p.opn = 64
  · rw [if_pos hn] at h; cases h
  · rw [if_neg hn] at h
    have := JH (p := { p with opn := p.opn + 1 }) ⟨hp.1, by dsimp only; have := hp.2.1; omega, hp.2.2.1, hp.2.2.2⟩ h
    exact this
theorem JC {text : List UInt8} {p q : Ps} (hp : Ok text p) (h : yu (yu (Ye p) yD) (yV text) = .inr q) : Nxt text p q 1 := by
  unfold Ye at h
  by_cases hn : p.opn = 64
  · rw [if_pos hn] at h; cases h
  · rw [if_neg hn] at h
    exact je (p := { p with opn := p.opn + 1 }) ⟨hp.1, by dsimp only; have := hp.2.1; omega, hp.2.2.1, hp.2.2.2⟩ h
theorem ja {text : List UInt8} {p q : Ps} {k : Int} (hp : Ok text p) (h : yU text k p = .inr q) : Nxt text p q 0 ∧ knd p = k := by
  unfold yU at h
  by_cases hk : knd p = k
  · rw [if_pos hk] at h; exact ⟨JH hp h, hk⟩
  · rw [if_neg hk] at h; cases h
theorem nxt_ite {text : List UInt8} {p q : Ps} (hp : Ok text p) (h : yu (yu (yu (Ye p) yD) (yV text)) (yU text 9) = .inr q) : Ok text q ∧ q.opn = p.opn + 1 ∧ 1 + rest text q ≤ rf text p := by
  cases h1 : yu (yu (Ye p) yD) (yV text) with
  | inl e => rw [h1] at h; cases h
  | inr p1 =>
    rw [h1] at h
    obtain ⟨a1, a2, a3⟩ := JC hp h1
    obtain ⟨⟨b1, b2, b3⟩, hk⟩ := ja a1 (show yU text 9 p1 = .inr q from h)
    have ht := (xy a1.1).1 hk
    have e : rest text p1 = 1 + rf text p1 := by unfold rest; rw [ht]; rfl
    refine ⟨b1, by omega, by omega⟩
theorem vars_nxt {text : List UInt8} {p : Ps} {vs : List Int} {r : (Int × Nat) ⊕ (List Int × Ps)} (h : Vars text p vs r) : ∀ vs' q, r = .inr (vs', q) → Ok text p → (∀ v ∈ vs, 0 ≤ v ∧ v < 65536) → vs' ≠ [] ∧ (∀ v ∈ vs', 0 ≤ v ∧ v < 65536) ∧ Ok text q ∧ q.opn + vs.length = p.opn + vs'.length ∧ rest text q ≤ rf text p := by
  induction h with
  | adv ha => intro vs' q e; cases e
  | tok ha hn => intro vs' q e; cases e
  | open_ ha ht hb => intro vs' q e; cases e
  | @more p vs q1 n q2 r ha ht hb hc _ ih =>
    intro vs' q e hp hv
    obtain ⟨a1, a2, a3⟩ := JH hp ha
    obtain ⟨b1, b2, b3⟩ := JC a1 hb
    have hn : 0 ≤ n ∧ n < 65536 := by have := a1.1; rw [ht] at this; exact this
    obtain ⟨c1, c2, c3, c4, c5⟩ := ih vs' q e b1 (fun v hm => by
      rcases List.mem_append.1 hm with hm | hm
      · exact hv v hm
      · simp at hm; subst hm; exact hn)
    have r1 : rf text q1 ≤ rest text q1 := Nat.le_add_left _ _
    have r2 : rf text q2 ≤ rest text q2 := Nat.le_add_left _ _
    refine ⟨c1, c2, c3, ?_, by omega⟩
    simp only [List.length_append, List.length_cons, List.length_nil] at c4
    omega
  | @done p vs q1 n q2 ha ht hb hc =>
    intro vs' q e hp hv
    obtain ⟨a1, a2, a3⟩ := JH hp ha
    obtain ⟨b1, b2, b3⟩ := JC a1 hb
    have hn : 0 ≤ n ∧ n < 65536 := by have := a1.1; rw [ht] at this; exact this
    cases hx : yU text 12 q2 with
    | inl x => rw [hx] at e; cases e
    | inr q3 =>
      rw [hx] at e
      injection e with e; injection e with e1 e2
      subst e1; subst e2
      obtain ⟨⟨c1, c2, c3⟩, _⟩ := ja b1 hx
      have r1 : rf text q1 ≤ rest text q1 := Nat.le_add_left _ _
      have r2 : rf text q2 ≤ rest text q2 := Nat.le_add_left _ _
      refine ⟨by simp, fun v hm => ?_, c1, by simp only [List.length_append, List.length_cons, List.length_nil]; omega, by omega⟩
      rcases List.mem_append.1 hm with hm | hm
      · exact hv v hm
      · simp at hm; subst hm; exact hn
theorem gA {op : Int} (ho : op = 4 ∨ op = 5) {x : T} (hx : okT x) : ∀ vs : List Int, (∀ v ∈ vs, 0 ≤ v ∧ v < 65536) → okT (quT op vs x)
  | [], _ => hx
  | v :: vs, h => ⟨ho, (h v (.head _)).1, (h v (.head _)).2, gA ho hx vs fun u hu => h u (.tail _ hu)⟩
theorem Xo (op : Int) (x : T) : ∀ vs : List Int, (look (quT op vs x)).1 = vs.length + (look x).1
  | [] => by simp [quT]
  | v :: vs => by
    have := Xo op x vs
    simp only [quT, List.foldr_cons, look, List.length_cons] at this ⊢
    rw [this]; push_cast; omega
theorem quT_B {op : Int} (ho : op = 4 ∨ op = 5) {x : T} (hx : okT x) : ∀ vs : List Int, (∀ v ∈ vs, 0 ≤ v ∧ v < 65536) → nB (quT op vs x) true = nB x true
  | [], _ => rfl
  | v :: vs, h => by
    have := quT_B ho hx vs fun u hu => h u (.tail _ hu)
    rw [← this]
    exact B_qu (gA ho hx (v :: vs) h) true
def St (text : List UInt8) (b : Nat) (p0 : Ps) (x : T) (p : Ps) : Prop :=
  okT x ∧ Ok text p ∧ p.opn = p0.opn ∧ ∀ last, (last = false → isOp p.tk) → (p0.opn : Int) + dp b last x ≤ 64 ∧ cb b last x + rest text p ≤ rest text p0
theorem St.down {text : List UInt8} {b c : Nat} {p0 p : Ps} {x : T} (h : St text c p0 x p) (hb : b ≤ c) : St text b p0 x p := by
  obtain ⟨h1, h2, h3, h4⟩ := h
  refine ⟨h1, h2, h3, fun last hl => ?_⟩
  obtain ⟨k1, k2⟩ := h4 last hl
  have := Ga hb last x
  have := Gg hb last h1
  omega
def xQ (rest : List T) : Nat := (rest.map (cb 3 false)).sum
def SI (text : List UInt8) (p0 : Ps) (x : T) (ys : List T) (p : Ps) : Prop :=
  okT x ∧ (∀ y ∈ ys, okT y) ∧ Ok text p ∧ p.opn = p0.opn ∧ (∀ y ∈ ys, (p0.opn : Int) + dp 3 false y ≤ 64) ∧ ∀ last, (last = false → isOp p.tk) → (p0.opn : Int) + dp 3 last x ≤ 64 ∧ xQ ys + cb 3 last x + rest text p ≤ rest text p0
theorem Gf : ∀ (ys : List T) (x : T), okT x → (∀ y ∈ ys, okT y) → okT (Ks (x :: ys))
  | [], x, hx, _ => hx
  | y :: ys, x, hx, hy => Gf ys (.bin 9 y x) ⟨by omega, by omega, hy y (.head _), hx⟩ fun z hz => hy z (.tail _ hz)
theorem gN (last : Bool) (M : Int) : ∀ (ys : List T) (x : T), okT x → (∀ y ∈ ys, okT y) → (∀ y ∈ ys, dp 3 false y ≤ M) → dp 2 last x ≤ M → dp 2 last (Ks (x :: ys)) ≤ M
  | [], x, _, _, _, h => h
  | y :: ys, x, hx, hy, h1, h2 => by
    have hk : okT (.bin 9 y x) := ⟨by omega, by omega, hy y (.head _), hx⟩
    refine gN last M ys (.bin 9 y x) hk (fun z hz => hy z (.tail _ hz)) (fun z hz => h1 z (.tail _ hz)) ?_
    rw [dp_bin hk (by decide)]
    have := h1 y (.head _)
    show max (dp 3 false y) (dp 2 last x) ≤ M
    omega
theorem gY (last : Bool) : ∀ (ys : List T) (x : T), okT x → (∀ y ∈ ys, okT y) → cb 2 last (Ks (x :: ys)) = xQ ys + cb 2 last x
  | [], x, _, _ => by simp [xQ, Ks]
  | y :: ys, x, hx, hy => by
    have hk : okT (.bin 9 y x) := ⟨by omega, by omega, hy y (.head _), hx⟩
    have := gY last ys (.bin 9 y x) hk fun z hz => hy z (.tail _ hz)
    show cb 2 last (Ks (.bin 9 y x :: ys)) = _
    rw [this, cb_bin hk (by decide)]
    show xQ ys + (cb 3 false y + cb 2 last x) = _
    simp only [xQ, List.map_cons, List.sum_cons]; omega
def Mo (text : List UInt8) : Tsk → Ps → Rt → Prop
  | _, _, .inl _ => True
  | .lvl b, p, .inr (x, q) => Ok text p → b ≤ 6 → St text b p x q
  | .loop b x, p, .inr (y, q) => b = 1 ∨ b = 3 ∨ b = 4 ∨ b = 5 → ∀ p0, St text b p0 x p → St text b p0 y q
  | .imps xs, p, .inr (y, q) => ∀ x ys p0, xs = x :: ys → SI text p0 x ys p → St text 2 p0 y q
theorem Gp {text : List UInt8} {p q : Ps} {x : T} (hx : okT x) (hd : ∀ last, dp 6 last x = 0) (hc : ∀ last, cb 6 last x = 0) (h : Nxt text p q 0) (hp : Ok text p) : St text 6 p x q := by
  obtain ⟨h1, h2, h3⟩ := h
  refine ⟨hx, h1, h2, fun last _ => ?_⟩
  rw [hd, hc]
  have := hp.2.1
  have r1 : rf text p ≤ rest text p := Nat.le_add_left _ _
  exact ⟨by omega, by omega⟩
theorem lvl1_noop {text : List UInt8} {p q : Ps} {x : T} (hp : Ok text p) (h : RD text (.lvl 1) p (.inr (x, q))) : ¬ isOp q.tk := by
  obtain ⟨_, _, pend, o', q', _, h4, _⟩ := law h hp [] [] 0 trivial
  rintro ⟨k, hk⟩
  exact h4.noop k hk
theorem Jm {text : List UInt8} {p : Ps} (h : p.tk ≠ .opn) : rest text p = rf text p := by
  unfold rest opn1
  split
  · rename_i e; exact absurd e h
  · omega
theorem read_nest {text : List UInt8} {tsk : Tsk} {p : Ps} {r : Rt} (h : RD text tsk p r) : Mo text tsk p r := by
  induction h with
  | @lvlK b p x q1 r hb _ _ ih1 ih2 =>
    rcases r with e | ⟨y, q⟩
    · trivial
    intro hp h6
    have h1 := ih1 hp (Gi hb)
    exact ih2 hb p (h1.down (by omega))
  | @loopN b x q1 hk => intro hb p0 h; exact h
  | @loopK b x q1 q2 y q3 r hk ha _ _ ih1 ih2 =>
    rcases r with e | ⟨z, q⟩
    · trivial
    intro hb p0 hs
    obtain ⟨s1, s2, s3, s4⟩ := hs
    obtain ⟨a1, a2, a3⟩ := je s2 ha
    obtain ⟨t1, t2, t3, t4⟩ := ih1 a1 (Gi hb)
    have ht : q1.tk = .op (oOf b) := (XW s2.1 hb).1 hk
    obtain ⟨u1, u2⟩ := s4 false fun _ => ⟨_, ht⟩
    have e := Jq hb
    have e9 := oOf_ne hb
    have eL : lB (oOf b) = b := by unfold lB; rw [if_neg e9, e]
    have eR : rB (oOf b) = b + 1 := by unfold rB; rw [if_neg e9, e]
    have ho : 6 ≤ oOf b ∧ oOf b ≤ 10 := by have := s2.1; rw [ht] at this; exact this
    have hok : okT (.bin (oOf b) x y) := ⟨ho.1, ho.2, s1, t1⟩
    have r1 : rest text q1 = rf text q1 := Jm (by rw [ht]; simp)
    refine ih2 hb p0 ⟨hok, t2, by omega, fun last hl => ?_⟩
    obtain ⟨v1, v2⟩ := t4 last hl
    rw [dp_bin hok (by omega), cb_bin hok (by omega), eL, eR]
    omega
  | @impK p x q1 r _ _ ih1 ih2 =>
    rcases r with e | ⟨y, q⟩
    · trivial
    intro hp h6
    obtain ⟨s1, s2, s3, s4⟩ := ih1 hp (by omega)
    exact ih2 x [] p rfl ⟨s1, fun _ h => (nomatch h), s2, s3, fun _ h => (nomatch h), fun last hl => by
      have := s4 last hl
      simp only [xQ, List.map_nil, List.sum_nil]; omega⟩
  | @impsN xs q1 hk =>
    intro x ys p0 e hs
    subst e
    obtain ⟨s1, s2, s3, s4, s5, s6⟩ := hs
    refine ⟨Gf ys x s1 s2, s3, s4, fun last hl => ?_⟩
    obtain ⟨v1, v2⟩ := s6 last hl
    have h1 := Ga (b := 2) (c := 3) (by omega) last x
    have h2 := Gg (b := 2) (c := 3) (by omega) last s1
    have h3 := gN last (64 - p0.opn) ys x s1 s2 (fun y hy => by have := s5 y hy; omega) (by omega)
    rw [gY last ys x s1 s2]
    omega
  | @impsK xs q1 q2 y q3 r hk ha _ _ ih1 ih2 =>
    rcases r with e | ⟨z, q⟩
    · trivial
    intro x ys p0 e hs
    subst e
    obtain ⟨s1, s2, s3, s4, s5, s6⟩ := hs
    have ht : q1.tk = .op 9 := (xi s3.1).1 hk
    obtain ⟨u1, u2⟩ := s6 false fun _ => ⟨_, ht⟩
    obtain ⟨a1, a2, a3⟩ := je s3 ha
    obtain ⟨t1, t2, t3, t4⟩ := ih1 a1 (by omega)
    have r1 : rest text q1 = rf text q1 := Jm (by rw [ht]; simp)
    refine ih2 y (x :: ys) p0 rfl ⟨t1, fun z hz => ?_, t2, by omega, fun z hz => ?_, fun last hl => ?_⟩
    · rcases List.mem_cons.1 hz with rfl | hz
      · exact s1
      · exact s2 z hz
    · rcases List.mem_cons.1 hz with rfl | hz
      · exact u1
      · exact s5 z hz
    · obtain ⟨v1, v2⟩ := t4 last hl
      have e : xQ (x :: ys) = cb 3 false x + xQ ys := by simp [xQ]
      rw [e]
      omega
  | @notK p q1 x q2 ht ha _ ih =>
    intro hp h6
    obtain ⟨a1, a2, a3⟩ := JC hp ha
    obtain ⟨t1, t2, t3, t4⟩ := ih a1 (by omega)
    refine ⟨t1, ⟨t2.1, by dsimp only; have := t2.2.1; omega, t2.2.2⟩, by dsimp only; omega, fun last hl => ?_⟩
    obtain ⟨v1, v2⟩ := t4 last hl
    have r1 : rest text p = rf text p := Jm (by rw [ht]; simp)
    have e : cb 6 last (.neg x) = cb 6 last x := by rw [← B_neg x last]; rfl
    rw [dp_neg, e]
    have r2 : rest text { q2 with opn := q2.opn - 1 } = rest text q2 := rfl
    omega
  | @quK p op vs q1 x q2 ht hv h0 ih =>
    intro hp h6
    obtain ⟨a0, a1, a2, a3, a4⟩ := vars_nxt hv vs q1 rfl hp fun _ h => (nomatch h)
    obtain ⟨t1, t2, t3, t4⟩ := ih a2 (by omega)
    have hno := lvl1_noop a2 h0
    have ho : op = 4 ∨ op = 5 := by have := hp.1; rw [ht] at this; exact this
    have hok := gA ho t1 vs a1
    refine ⟨hok, ⟨t2.1, by dsimp only; have := t2.2.1; omega, t2.2.2⟩, ?_, fun last hl => ?_⟩
    · show q2.opn - vs.length = p.opn
      simp only [List.length_nil] at a3; omega
    have hlast : last = true := by
      cases last with
      | true => rfl
      | false => exact absurd (hl rfl) hno
    subst hlast
    obtain ⟨v1, v2⟩ := t4 true fun h => by cases h
    rw [dp1] at v1
    rw [cb1] at v2
    have e1 : dp 6 true (quT op vs x) = (look (quT op vs x)).1 := by
      cases vs with
      | nil => exact absurd rfl a0
      | cons v vs => rfl
    have e2 : cb 6 true (quT op vs x) = nB (quT op vs x) true := by
      cases vs with
      | nil => exact absurd rfl a0
      | cons v vs => rfl
    rw [e1, e2, Xo, quT_B ho t1 vs a1]
    have r1 : rest text p = rf text p := Jm (by rw [ht]; simp)
    have r2 : rest text { q2 with opn := q2.opn - vs.length } = rest text q2 := rfl
    simp only [List.length_nil] at a3
    omega
  | @cst p n ht =>
    cases ha : yu (yD p) (yV text) with
    | inl e => trivial
    | inr q =>
      intro hp h6
      have hn : n = 0 ∨ n = 1 := by have := hp.1; rw [ht] at this; exact this
      exact Gp hn (fun last => by cases last <;> rfl) (fun last => by simp [cb, kf, nB, ua]; split <;> decide) (je hp ha) hp
  | @var p n ht =>
    cases ha : yu (yD p) (yV text) with
    | inl e => trivial
    | inr q =>
      intro hp h6
      have hn : 0 ≤ n ∧ n < 65536 := by have := hp.1; rw [ht] at this; exact this
      exact Gp hn (fun last => by cases last <;> rfl) (fun last => by simp [cb, kf, nB, Jh, UQ n hn.1]) (je hp ha) hp
  | @opnK p q1 x q2 ht ha h0 ih =>
    cases hx : yU text 10 q2 with
    | inl e => trivial
    | inr q3 =>
      intro hp h6
      obtain ⟨a1, a2, a3⟩ := nxt_opens hp ha
      obtain ⟨t1, t2, t3, t4⟩ := ih a1 (by omega)
      obtain ⟨⟨b1, b2, b3⟩, _⟩ := ja t2 hx
      obtain ⟨v1, v2⟩ := t4 true fun h => by cases h
      rw [dp1] at v1
      rw [cb1] at v2
      refine ⟨t1, ⟨b1.1, by dsimp only; have := b1.2.1; omega, b1.2.2⟩, by dsimp only; omega, fun last hl => ?_⟩
      have h1 := dp_le 6 last x
      have h2 := cb_le t1 6 last
      have r1 : rest text p = 1 + rf text p := by unfold rest; rw [ht]; rfl
      have r2 : rest text { q3 with opn := q3.opn - 1 } = rest text q3 := rfl
      have r3 : rf text q2 ≤ rest text q2 := Nat.le_add_left _ _
      omega
  | @iteK p q c q1 q2 a q3 q4 b q5 ht ha _ hn1 _ hn2 _ ih1 ih2 ih3 =>
    cases hx : yU text 10 q5 with
    | inl e => trivial
    | inr q6 =>
      intro hp h6
      obtain ⟨a1, a2, a3⟩ := nxt_ite hp ha
      obtain ⟨c1, c2, c3, c4⟩ := ih1 a1 (by omega)
      obtain ⟨⟨b1, b2, b3⟩, _⟩ := ja c2 hn1
      obtain ⟨d1, d2, d3, d4⟩ := ih2 b1 (by omega)
      obtain ⟨⟨e1, e2, e3⟩, _⟩ := ja d2 hn2
      obtain ⟨f1, f2, f3, f4⟩ := ih3 e1 (by omega)
      obtain ⟨⟨g1, g2, g3⟩, _⟩ := ja f2 hx
      obtain ⟨v1, v2⟩ := c4 true fun h => by cases h
      obtain ⟨w1, w2⟩ := d4 true fun h => by cases h
      obtain ⟨z1, z2⟩ := f4 true fun h => by cases h
      rw [dp1] at v1 w1 z1
      rw [cb1] at v2 w2 z2
      have r1 : rest text p = rf text p := Jm (by rw [ht]; simp)
      have r2 : rest text { q6 with opn := q6.opn - 1 } = rest text q6 := rfl
      have r3 : rf text q1 ≤ rest text q1 := Nat.le_add_left _ _
      have r4 : rf text q3 ≤ rest text q3 := Nat.le_add_left _ _
      have r5 : rf text q5 ≤ rest text q5 := Nat.le_add_left _ _
      refine ⟨⟨c1, d1, f1⟩, ⟨g1.1, by dsimp only; have := g1.2.1; omega, g1.2.2⟩, by dsimp only; omega, fun last hl => ?_⟩
      have k1 : dp 6 last (.ite c a b) = 1 + max (max (look c).1 (look a).1) (look b).1 := by cases last <;> rfl
      have k2 : cb 6 last (.ite c a b) = 1 + nB c true + nB a true + nB b true := by rw [← B_ite c a b last]; rfl
      rw [k1, k2]
      omega
  | _ => trivial
theorem Kr {text : List UInt8} {x : T} (h : kr text (.inr x)) : okT x ∧ size x ≤ 65536 ∧ (look x).1 ≤ 64 ∧ (wr x true).count 40 ≤ text.count 40 := by
  have hm := run_len (kR h) MInv.start (post x) rfl
  rw [YS] at hm
  unfold kr at h
  cases ha : yV text p00 with
  | inl e => rw [ha] at h; cases h
  | inr p =>
    rw [ha] at h
    obtain ⟨r1, hrd, he⟩ := h
    have hp := KS (p := p00) (Nat.zero_le _) (Nat.zero_le _) (Nat.zero_le _) ha
    obtain ⟨h1, h2, h3, _⟩ := uv ha
    have h40 := next40 text p00.fin
    rw [← h1] at h40
    rcases r1 with e | ⟨y, q⟩
    · cases he
    · have hxy : x = y := by
        simp only [Ux] at he
        split at he
        · cases he
        · injection he
      subst hxy
      obtain ⟨s1, s2, s3, s4⟩ := read_nest hrd hp (by omega)
      obtain ⟨v1, v2⟩ := s4 true fun h => by cases h
      rw [dp1] at v1
      rw [cb1] at v2
      refine ⟨s1, hm, by omega, ?_⟩
      have : rest text p ≤ text.count 40 := h40
      show nB x true ≤ _
      omega
theorem xW {text : List UInt8} {x : T} {r : (Int × Nat) ⊕ T} (h : kr text (.inr x)) (h' : kr (wr x true) r) : r = .inr x := by
  obtain ⟨h1, h2, h3, _⟩ := Kr h
  obtain ⟨y, rfl, hy⟩ := XD h1 h3 h2 h'
  rw [post_inj (Kr h').1 h1 hy]
end
end Go.Proofs.YthackanffcaejaaGreatDoor
