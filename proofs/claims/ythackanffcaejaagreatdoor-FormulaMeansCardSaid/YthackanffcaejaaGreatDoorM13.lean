/- A part of the proof: Lv8 Lv9 FzC Act2. -/
import Derived.Test.YthackanffcaejaaGreatDoorM1
import Derived.Test.YthackanffcaejaaGreatDoorM2
import Derived.Test.YthackanffcaejaaGreatDoorM6
import Derived.Test.YthackanffcaejaaGreatDoorM12
section
set_option linter.unusedSimpArgs false
set_option linter.unusedVariables false
set_option maxRecDepth 20000
namespace Go.Proofs.YthackanffcaejaaGreatDoor
open Go Go.RowKit Go.SL Go.ClauseP Go.LexP

def quJ (text : List UInt8) (p q : Ps) (vs : List Int) : Prop :=
  (∀ r, q.tk = .comma → Vars text q vs r → Vars text p [] r) ∧ (q.tk ≠ .comma → Vars text p [] (match needP text 12 q with | .inl e => .inl e | .inr q' => .inr (vs, q')))
def quSt (w0 : World) (R : List HP) (H : Hp) (B : Nat) (text : List UInt8) (p : Ps) (ad : Option Addr) (m cap : Nat) (xs : List Value) (b : Bool) (w : World) : (Int × Nat) ⊕ (Ps × List Int) → Prop
  | .inl x => Vars text p [] (.inl x) ∧ aftN w0 w (fz H :: own 3 1 ad m cap xs :: R) B text p.opn 65537 (.inl x)
  | .inr (q, vs) => xs = Is vs ∧ vs.length = m ∧ PsB text q ∧ q.opn = p.opn + m ∧ p.nds + m ≤ q.nds ∧ meas text q ≤ meas text p ∧ (∀ v ∈ vs, 0 ≤ v ∧ v < 65536) ∧
      ((b = true ∧ (∀ r, Vars text q vs r → Vars text p [] r) ∧ meas text q = meas text p ∧ knd q ≠ 0) ∨ (b = false ∧ quJ text p q vs ∧ meas text q < meas text p)) ∧ Sat w0 w (blk B 82 (alV text q) :: fz H :: own 3 1 ad m cap xs :: R)
theorem tk_var {t : Tk} (h : tkOk t) (hk : (tokE t).1 = 2) : ∃ n, t = .var n := by
  cases t <;> simp [tokE, tkOk] at * <;> omega
theorem tk_comma {t : Tk} (h : tkOk t) : (tokE t).1 = 11 ↔ t = .comma := by cases t <;> simp [tokE, tkOk] at * <;> omega
theorem quJ_next {text : List UInt8} {p q q1 q' : Ps} {vs : List Int} {n : Int} (hR : ∀ r, Vars text q vs r → Vars text p [] r) (ha : advP text q = .inr q1) (ht : q1.tk = .var n) (hb : thenP (thenP (opensP q1) makesP) (advP text) = .inr q') : quJ text p q' (vs ++ [n]) :=
  ⟨fun r hc hr => hR r (.more ha ht hb hc hr), fun hc => hR _ (.done ha ht hb hc)⟩
theorem adv_Ok_tk {text : List UInt8} {p q : Ps} (h : advP text p = .inr q) : tkOk q.tk := by
  obtain rfl := advP_inr h
  rcases nextT_ok text p.fin with h1 | ⟨e, h1⟩
  · exact h1
  · rw [advP_bad text p e h1] at h; cases h
theorem adv_fin {text : List UInt8} {p q : Ps} (hf : p.fin ≤ text.length) (h : advP text p = .inr q) : q.fin ≤ text.length := by
  obtain rfl := advP_inr h
  exact (nextT_bd text p.fin hf).2.1
theorem size_quT (op : Int) : ∀ (vs : List Int) (x : T), size (quT op vs x) = size x + vs.length
  | [], x => rfl
  | v :: vs, x => by
    have := size_quT op vs x
    simp only [quT, List.foldr_cons, List.length_cons, size] at this ⊢
    rw [this]; omega
theorem okT_quT {op : Int} (ho : op = 4 ∨ op = 5) : ∀ {vs : List Int} {x : T}, okT x → (∀ v ∈ vs, 0 ≤ v ∧ v < 65536) → okT (quT op vs x)
  | [], x, h, _ => h
  | v :: vs, x, h, hv => ⟨ho, (hv v (.head _)).1, (hv v (.head _)).2, okT_quT ho h (fun u hu => hv u (.tail _ hu))⟩
theorem dead_cells {w0 w : World} {R : List HP} {B : Nat} {text : List UInt8} {lo : Nat} {d : Int} {a : Nat} (h : aftN w0 w R B text lo 65537 (.inl (d, a))) : d ≠ 0 ∧ ∃ k n tat te fin o nd : Int, lo ≤ o ∧ o ≤ 65 ∧ 0 ≤ nd ∧ nd ≤ 65537 ∧
    Sat w0 w (blk B 82 [.string ⟨text.toArray⟩, .int .i64 k, .int .i64 n, .int .i64 tat, .int .i64 te, .int .i64 fin, .int .i64 o, .int .i64 nd, .int .i64 d, .int .i64 a] :: R) := h
set_option maxHeartbeats 8000000 in
theorem quLoop (text : List UInt8) (hl : text.length ≤ 1048576) (B : Nat) (p : Ps) (op : Int) (w0 w : World) (R : List HP) (H : Hp) (hp : PsB text p) (hSig : SigE w0) (hbm : base w0 ∈ R) (hA : LvA text 38 1 (meas text p - 1)) (ht : p.tk = .quant op) (hop : i64 op)
    (hS : Sat w0 w (blk B 82 (alV text p) :: fz H :: R)) :
    Calls Tryz.prog 167 #[.pointer (some ⟨B, 0, none⟩), .int .i64 op] w (PostR w0 R H B text p) := by
  have hpk : op = 4 ∨ op = 5 := by have := hp.2.2.2; rw [ht] at this; exact this
  have hkn : knd p ≠ 0 := by unfold knd; rw [ht]; show op + 9 ≠ 0; omega
  have hf := hp.2.2.1
  have hmp := meas_pos hf hkn
  have hS0 := (hS.ownNil 3 1).sb (L := blk B 82 (alV text p) :: fz H :: own 3 1 none 0 0 [] :: R) (by (repeat (first | with_reducible exact Sb.refl | (with_reducible refine Sb.take (by (repeat (with_reducible first | exact Rem.hd | apply Rem.tl)); done) ?_))))
  have HPK := hid hpk
  have HT := hid ht
  clear ht hpk hS
  go_enter Tryz.func167, Tryz.ntmps167
  go_wp2_with ((with_reducible apply arm_load hS); exact wanted_guard rfl rfl; exact ev_const; (repeat (with_reducible apply mem_tl)); rfl; decide +kernel; (try simp only [Act.put, q1, q2, q3]))
  go_loopw [5, 6] (fun l f wr => ∃ ad m cap xs b s, l = .slice ad m cap ∧ f = .bool b ∧ quSt w0 R H B text p ad m cap xs b wr s) (fun _ _ wr => loopM text B wr)
  case atStart => exact ⟨none, 0, 0, [], true, .inr (p, []), rfl, rfl, rfl, rfl, hp, rfl, Nat.le_refl _, Nat.le_refl _, fun v hv => (nomatch hv), .inl ⟨rfl, fun r h => h, rfl, hkn⟩, hS0⟩
  case round =>
    clear hS0
    obtain ⟨ad, m, cap, xs, b, s, rfl, rfl, hs⟩ := hrel
    rcases s with ⟨d, a⟩ | ⟨q, vs⟩
    · obtain ⟨hvr, hA⟩ := hs
      obtain ⟨h0, k, n, tat, te, fin, o, nd, h1, h2, h3, h4, hS⟩ := dead_cells hA
      have hd2 : (d == 0) = false := by simp [h0]
      have hd3 : (d != 0) = true := by simp [h0]
      have ND := fun w R hS => needD B text k n tat te fin o nd d a 12 h0 w0 w R hS
      unfold psV at ND
      clear hA
      go_wp2_with (first | ((with_reducible apply arm_load hS); exact wanted_none; exact ev_tmp rfl; (repeat (with_reducible exact mem_hd)); rfl; decide +kernel; (try simp only [Act.put, q1, q2, q3])) | (go_at_call 39; refine (ND _ _ hS).mono ?_; clear hS; rintro e w ⟨rfl, hS⟩))
      go_ret
      exact ⟨_, rfl, .inl (d, a), .quA HT.out hvr, .inl rfl, H, Ext.refl _, h0, k, n, tat, te, fin, o, nd, h1, h2, h3, h4, hS.sb (by unfold psV; (repeat (first | with_reducible exact Sb.refl | (with_reducible refine Sb.take (by (repeat (with_reducible first | exact Rem.hd | apply Rem.tl)); done) ?_) | with_reducible apply Sb.skip)))⟩
    · obtain ⟨hxs, hvl, hq, ho, hnd, hmq, hvb, hbb, hS⟩ := hs
      have hM := loopM_al hS mem_hd
      have hS0 := hS
      have hqf := hq.2.2.1
      have hb1 := hq.1
      have hb2 := hq.2.1
      have hml : m ≤ 64 := by omega
      have HXS := hid hxs
      have HVL := hid hvl
      have HVB := hid hvb
      clear hxs hvl hvb
      unfold alV psV at hS
      by_cases hgo : (∀ r, Vars text q vs r → Vars text p [] r) ∧ (b || ((tokE q.tk).1 == 11)) = true ∧ knd q ≠ 0
      · obtain ⟨hR, hb, hkq⟩ := hgo
        have hcases : b = true ∨ (b = false ∧ ((tokE q.tk).1 == 11) = true) := by cases b <;> simp_all
        have AX := fun w R hm h => advX B text hl (p.opn + m) (.inr q) w0 w hSig R hm h
        have hst : aftN w0 wr (fz H :: own 3 1 ad m cap xs :: R) B text (p.opn + m) 65537 (.inr q) := ⟨hq, ho, hS0⟩
        have HBB := hid hbb
        clear hbb hb
        cases had : advP text q with
        | inl x =>
          obtain ⟨d, a⟩ := x
          rw [show thenP (.inr q) (advP text) = .inl (d, a) from had] at AX
          have hv : Vars text p [] (.inl (d, a)) := hR _ (.adv had)
          have HV := hid hv
          have HH : Hid (Vars text p [] = Vars text p []) := hid rfl
          clear had hv hR
          rcases hcases with rfl | ⟨rfl, hk11⟩
          all_goals
            go_wp2_with (first | ((with_reducible apply arm_load hS); (first | with_reducible exact wanted_none | exact wanted_guard rfl rfl); exact ev_tmp rfl; (repeat (with_reducible exact mem_hd)); rfl; decide +kernel; (try simp only [Act.put, q1, q2, q3])) | (go_at_call 37; refine (AX _ _ (by ((repeat (with_reducible apply mem_tl)); (try assumption))) hst).mono ?_; clear hS hS0 hst AX; rintro e w ⟨rfl, hA⟩; obtain ⟨h0, k, n, tat, te, fin, o, nd, h1, h2, h3, h4, hS⟩ := dead_cells hA; have hd2 : (d == 0) = false := (by simpa using h0)))
            go_roundw
            case rel => exact ⟨ad, m, cap, xs, false, .inl (d, a), rfl, rfl, HV.out, h0, k, n, tat, te, fin, o, nd, by omega, h2, h3, h4, hS⟩
            case measure =>
              have := loopM_dead (text := text) h0 hS mem_hd
              omega
        | inr q1 =>
          rw [show thenP (.inr q) (advP text) = .inr q1 from had] at AX
          obtain ⟨a1, a2, a3⟩ := adv_q hqf hkq had
          by_cases hk1 : knd q1 = 2
          · have hq1 := adv_Ok_tk had
            obtain ⟨c, hc⟩ := tk_var hq1 hk1
            have he1 : alV text q1 = [.string ⟨text.toArray⟩, .int .i64 2, .int .i64 c, .int .i64 q1.at_, .int .i64 0, .int .i64 q1.fin, .int .i64 q1.opn, .int .i64 q1.nds, .int .i64 0, .int .i64 0] := by unfold alV psV; rw [hc]; rfl
            have hcb : 0 ≤ c ∧ c < 65536 := by rw [hc] at hq1; exact hq1
            have OX := fun w R h1 hS => opensX B text q1 h1 w0 w R hS
            have MX := fun w R h => makesX B text (q1.opn + 1) (opensP q1) w0 w R h
            cases hmk : thenP (opensP q1) makesP with
            | inl x =>
              obtain ⟨d, a⟩ := x
              rw [hmk] at MX
              have hv : Vars text p [] (.inl (d, a)) := hR _ (.open_ had hc (by rw [hmk]; rfl))
              have HV := hid hv
              have HE := hid he1
              have ADx := fun w R h => advD_aft B text (q1.opn + 1) (d, a) w0 w R h
              clear hmk hv hR had hc hk1 he1
              rcases hcases with rfl | ⟨rfl, hk11⟩
              all_goals
                go_wp2_with (first | ((with_reducible apply arm_load hS); (first | with_reducible exact wanted_none | exact wanted_guard rfl rfl); exact ev_tmp rfl; (repeat (with_reducible exact mem_hd)); rfl; decide +kernel; (try simp only [Act.put, q1, q2, q3])) | ((with_reducible apply arm_build1 hS); exact wanted_none; exact E35; exact ev_tmp rfl; exact cells_one rfl; rfl; decide; clear hS; intro NB w hS; (try simp only [Act.put, q1, q2, q3])) | ((with_reducible apply arm_appendB hS); exact wanted_none; exact ev_tmp rfl; exact ev_tmp rfl; exact E35; (repeat (with_reducible first | exact Rem.hd | apply Rem.tl)); (repeat (with_reducible apply Rem.tl)); rfl; rfl; (omega); (omega); clear hS; intro AD CAP w hS; (try simp only [Nat.zero_add, List.nil_append] at hS); (try simp only [Act.put, q1, q2, q3])) | ((go_at_call 37); (first | (refine (AX _ _ (by ((repeat (with_reducible apply mem_tl)); (try assumption))) hst).mono ?_; clear hS hS0 hst AX; rintro e w ⟨rfl, hq1, ho1, hS⟩; rw [HE.out] at hS) | ((have hS3 : Sat w0 w (blk B 82 (psV text k n tat te fin o nd d a) :: fz H :: own 3 1 AD (m + 1) CAP (xs ++ [.int .i64 n]) :: R) := (by unfold psV; exact hS.sb (by (repeat (first | with_reducible exact Sb.refl | (with_reducible refine Sb.take (by (repeat (with_reducible first | exact Rem.hd | apply Rem.tl)); done) ?_)))))); refine (ADx _ _ ⟨h0, k, n, tat, te, fin, o, nd, h1, h2, h3, h4, hS3⟩).mono ?_; clear hS hS3; rintro e w ⟨rfl, h0', k', n', tat', te', fin', o', nd', h1', h2', h3', h4', hS⟩; unfold psV at hS; dsimp only at hS))) | (go_at_call 166; refine (OX _ _ hq1 (by rw [HE.out]; exact hS)).mono ?_; clear hS; rintro e w ⟨rfl, hA⟩) | (go_at_call 114; refine (MX _ _ hA).mono ?_; clear hA; rintro e w ⟨rfl, hA⟩; obtain ⟨h0, k, n, tat, te, fin, o, nd, h1, h2, h3, h4, hS⟩ := dead_cells hA; clear hA; have hd2 : (d == 0) = false := (by simpa using h0)))
                go_roundw
                case rel => exact ⟨AD, m + 1, CAP, _, false, .inl (d, a), rfl, rfl, HV.out, h0', k', n', tat', te', fin', o', nd', by omega, h2', h3', h4', hS⟩
                case measure =>
                  have := loopM_dead (text := text) h0' hS mem_hd
                  omega
            | inr q2 =>
              rw [hmk] at MX
              have hq2e : q2 = { q1 with opn := q1.opn + 1, nds := q1.nds + 1 } := by
                obtain ⟨p1, g1, g2⟩ := thenP_inr hmk
                obtain rfl := opensP_inr g1
                exact makesP_inr g2
              have he2 : alV text q2 = [.string ⟨text.toArray⟩, .int .i64 2, .int .i64 c, .int .i64 q1.at_, .int .i64 0, .int .i64 q1.fin, .int .i64 (q1.opn + 1), .int .i64 (q1.nds + 1), .int .i64 0, .int .i64 0] := by rw [hq2e]; unfold alV psV; dsimp only; rw [hc]; rfl
              have h2k : knd q2 ≠ 0 := by rw [hq2e]; show knd q1 ≠ 0; omega
              have h2f : q2.fin ≤ text.length := by rw [hq2e]; exact (show q1.fin ≤ text.length from adv_fin hqf had)
              have h2m : meas text q2 = meas text q1 ∧ q2.opn = q1.opn + 1 ∧ q2.nds = q1.nds + 1 := by rw [hq2e]; exact ⟨rfl, rfl, rfl⟩
              obtain ⟨z1, z2, z3⟩ := h2m
              have A2 := fun w R hm h => advX B text hl (q1.opn + 1) (.inr q2) w0 w hSig R hm h
              cases had2 : advP text q2 with
              | inl x =>
                obtain ⟨d, a⟩ := x
                rw [show thenP (.inr q2) (advP text) = .inl (d, a) from had2] at A2
                have hv : Vars text p [] (.inl (d, a)) := hR _ (.open_ had hc (by rw [hmk]; exact had2))
                have HV := hid hv
                have HE := hid he1
                have HE2 := hid he2
                clear hmk hv hR had had2 hc hk1 he1 he2 hq2e
                rcases hcases with rfl | ⟨rfl, hk11⟩
                all_goals
                  go_wp2_with (first | ((with_reducible apply arm_load hS); (first | with_reducible exact wanted_none | exact wanted_guard rfl rfl); exact ev_tmp rfl; (repeat (with_reducible exact mem_hd)); rfl; decide +kernel; (try simp only [Act.put, q1, q2, q3])) | ((with_reducible apply arm_build1 hS); exact wanted_none; exact E35; exact ev_tmp rfl; exact cells_one rfl; rfl; decide; clear hS; intro NB w hS; (try simp only [Act.put, q1, q2, q3])) | ((with_reducible apply arm_appendB hS); exact wanted_none; exact ev_tmp rfl; exact ev_tmp rfl; exact E35; (repeat (with_reducible first | exact Rem.hd | apply Rem.tl)); (repeat (with_reducible apply Rem.tl)); rfl; rfl; (omega); (omega); clear hS; intro AD CAP w hS; (try simp only [Nat.zero_add, List.nil_append] at hS); (try simp only [Act.put, q1, q2, q3])) | ((go_at_call 37); (first | (refine (AX _ _ (by ((repeat (with_reducible apply mem_tl)); (try assumption))) hst).mono ?_; clear hS hS0 hst AX; rintro e w ⟨rfl, hq1, ho1, hS⟩; rw [HE.out] at hS) | ((have hS3 : Sat w0 w (blk B 82 (alV text q2) :: fz H :: own 3 1 AD (m + 1) CAP (xs ++ [.int .i64 c]) :: R) := (by rw [HE2.out]; exact hS.sb (by (repeat (first | with_reducible exact Sb.refl | (with_reducible refine Sb.take (by (repeat (with_reducible first | exact Rem.hd | apply Rem.tl)); done) ?_)))))); refine (A2 _ _ (by ((repeat (with_reducible apply mem_tl)); (try assumption))) ⟨hq2, ho2, hS3⟩).mono ?_; clear hS hS3; rintro e w ⟨rfl, h0, k, n, tat, te, fin, o, nd, h1, h2, h3, h4, hS⟩; unfold psV at hS; dsimp only at hS))) | (go_at_call 166; refine (OX _ _ hq1 (by rw [HE.out]; exact hS)).mono ?_; clear hS; rintro e w ⟨rfl, hA⟩) | (go_at_call 114; refine (MX _ _ hA).mono ?_; clear hA; rintro e w ⟨rfl, hq2, ho2, hS⟩; rw [HE2.out] at hS))
                  go_roundw
                  case rel => exact ⟨AD, m + 1, CAP, _, false, .inl (d, a), rfl, rfl, HV.out, h0, k, n, tat, te, fin, o, nd, by omega, h2, h3, h4, hS⟩
                  case measure =>
                    have := loopM_dead (text := text) h0 hS mem_hd
                    omega
              | inr q3 =>
                rw [show thenP (.inr q2) (advP text) = .inr q3 from had2] at A2
                obtain ⟨y1, y2, y3⟩ := adv_q h2f h2k had2
                have hJ : quJ text p q3 (vs ++ [c]) := quJ_next hR had hc (by rw [hmk]; exact had2)
                have HJ := hid hJ
                have HE := hid he1
                have HE2 := hid he2
                clear hmk hJ hR had had2 hc hk1 he1 he2 hq2e
                have hmm3 : meas text q3 < meas text q := by omega
                rcases hcases with rfl | ⟨rfl, hk11⟩
                all_goals
                  go_wp2_with (first | ((with_reducible apply arm_load hS); (first | with_reducible exact wanted_none | exact wanted_guard rfl rfl); exact ev_tmp rfl; (repeat (with_reducible exact mem_hd)); rfl; decide +kernel; (try simp only [Act.put, q1, q2, q3])) | ((with_reducible apply arm_build1 hS); exact wanted_none; exact E35; exact ev_tmp rfl; exact cells_one rfl; rfl; decide; clear hS; intro NB w hS; (try simp only [Act.put, q1, q2, q3])) | ((with_reducible apply arm_appendB hS); exact wanted_none; exact ev_tmp rfl; exact ev_tmp rfl; exact E35; (repeat (with_reducible first | exact Rem.hd | apply Rem.tl)); (repeat (with_reducible apply Rem.tl)); rfl; rfl; (omega); (omega); clear hS; intro AD CAP w hS; (try simp only [Nat.zero_add, List.nil_append] at hS); (try simp only [Act.put, q1, q2, q3])) | ((go_at_call 37); (first | (refine (AX _ _ (by ((repeat (with_reducible apply mem_tl)); (try assumption))) hst).mono ?_; clear hS hS0 hst AX; rintro e w ⟨rfl, hq1, ho1, hS⟩; rw [HE.out] at hS) | ((have hS3 : Sat w0 w (blk B 82 (alV text q2) :: fz H :: own 3 1 AD (m + 1) CAP (xs ++ [.int .i64 c]) :: R) := (by rw [HE2.out]; exact hS.sb (by (repeat (first | with_reducible exact Sb.refl | (with_reducible refine Sb.take (by (repeat (with_reducible first | exact Rem.hd | apply Rem.tl)); done) ?_)))))); refine (A2 _ _ (by ((repeat (with_reducible apply mem_tl)); (try assumption))) ⟨hq2, ho2, hS3⟩).mono ?_; clear hS hS3; rintro e w ⟨rfl, hq3, ho3, hS⟩))) | (go_at_call 166; refine (OX _ _ hq1 (by rw [HE.out]; exact hS)).mono ?_; clear hS; rintro e w ⟨rfl, hA⟩) | (go_at_call 114; refine (MX _ _ hA).mono ?_; clear hA; rintro e w ⟨rfl, hq2, ho2, hS⟩; rw [HE2.out] at hS))
                  go_roundw
                  case rel => exact ⟨AD, m + 1, CAP, _, false, .inr (q3, vs ++ [c]), rfl, rfl, by rw [HXS.out, Is_append]; rfl, by have := HVL.out; simp; omega, hq3, by omega, by omega, by omega, fun v hv => (by
                    rcases List.mem_append.1 hv with h | h
                    · exact HVB.out v h
                    · simp only [List.mem_singleton] at h; rw [h]; exact hcb), .inr ⟨rfl, HJ.out, by omega⟩, hS⟩
                  case measure =>
                    have := loopM_al hS mem_hd
                    omega
          · have hk12 : ((tokE q1.tk).1 != 2) = true := by simpa [knd] using hk1
            have hv : Vars text p [] (.inl (131, q1.at_)) := hR _ (.tok had (fun n hn => hk1 (by unfold knd; rw [hn]; rfl)))
            have FA := fun w R => failA B text (tokE q1.tk).1 (tokE q1.tk).2.1 q1.at_ 0 q1.fin q1.opn q1.nds 0 131 w0 w R
            unfold psV at FA
            have HV := hid hv
            clear hv hR had hk1
            rcases hcases with rfl | ⟨rfl, hk11⟩
            all_goals
              go_wp2_with (first | ((with_reducible apply arm_load hS); (first | with_reducible exact wanted_none | exact wanted_guard rfl rfl); exact ev_tmp rfl; (repeat (with_reducible exact mem_hd)); rfl; decide +kernel; (try simp only [Act.put, q1, q2, q3])) | (go_at_call 37; refine (AX _ _ (by ((repeat (with_reducible apply mem_tl)); (try assumption))) hst).mono ?_; clear hS hS0 hst AX; rintro e w ⟨rfl, hq1, ho1, hS⟩; unfold alV psV at hS) | (go_at_call 80; refine (FA _ _ hS).mono ?_; clear hS; rintro e w ⟨rfl, hS⟩))
              have c1 := hq1.1
              have c2 := hq1.2.1
              go_roundw
              case rel => exact ⟨ad, m, cap, xs, false, .inl (131, q1.at_), rfl, rfl, HV.out, by show (131 : Int) ≠ 0; decide, _, _, _, _, _, (q1.opn : Int), (q1.nds : Int), by omega, by omega, by omega, by omega, hS⟩
              case measure =>
                have := loopM_dead (text := text) (by decide) hS mem_hd
                omega
      · rcases hbb with ⟨rfl, hR, hme, hkq⟩ | ⟨rfl, hJ, hlt⟩
        · exact absurd ⟨hR, rfl, hkq⟩ hgo
        · have hk11 : ((tokE q.tk).1 == 11) = false := by
            rw [beq_eq_false_iff_ne]
            intro e
            have hc := (tk_comma hq.2.2.2).1 e
            exact hgo ⟨fun r hr => hJ.1 r hc hr, by simp [e], by unfold knd; rw [e]; decide⟩
          have hv := hJ.2 (fun e => by rw [(tk_comma hq.2.2.2).2 e] at hk11; simp at hk11)
          have NX := fun w R hm h => needX B text hl 12 (p.opn + m) (.inr q) w0 w hSig R hm h
          have hst : aftN w0 wr (fz H :: own 3 1 ad m cap xs :: R) B text (p.opn + m) 65537 (.inr q) := ⟨hq, ho, hS0⟩
          clear hgo hJ
          cases hnd : needP text 12 q with
          | inl x =>
            obtain ⟨d, a⟩ := x
            rw [hnd] at hv
            rw [show thenP (.inr q) (needP text 12) = .inl (d, a) from hnd] at NX
            have HV := hid hv
            clear hv hnd
            go_wp2_with (first | ((with_reducible apply arm_load hS); (first | with_reducible exact wanted_none | exact wanted_guard rfl rfl); exact ev_tmp rfl; (repeat (with_reducible exact mem_hd)); rfl; decide +kernel; (try simp only [Act.put, q1, q2, q3])) | (go_at_call 39; refine (NX _ _ (by ((repeat (with_reducible apply mem_tl)); (try assumption))) hst).mono ?_; clear hS hS0 hst NX; rintro e w ⟨rfl, hA⟩; obtain ⟨h0, k, n, tat, te, fin, o, nd, h1, h2, h3, h4, hS⟩ := dead_cells hA; have hd2 : (d == 0) = false := (by simpa using h0); have hd3 : (d != 0) = true := (by simpa using h0)))
            have hS2 := hS.sb (L := blk B 82 [.string ⟨text.toArray⟩, .int .i64 k, .int .i64 n, .int .i64 tat, .int .i64 te, .int .i64 fin, .int .i64 o, .int .i64 nd, .int .i64 d, .int .i64 a] :: fz H :: R) (by (repeat (first | with_reducible exact Sb.refl | (with_reducible refine Sb.take (by (repeat (with_reducible first | exact Rem.hd | apply Rem.tl)); done) ?_) | with_reducible apply Sb.skip)))
            go_ret
            exact ⟨_, rfl, .inl (d, a), .quA HT.out HV.out, .inl rfl, H, Ext.refl _, h0, k, n, tat, te, fin, o, nd, by omega, h2, h3, h4, hS2⟩
          | inr q4 =>
            rw [hnd] at hv
            rw [show thenP (.inr q) (needP text 12) = .inr q4 from hnd] at NX
            obtain ⟨y1, y2, y3⟩ := need_q hqf (by decide) hnd
            have LX := fun w h => lvX text _ 1 _ hA (formulaDD text) B (p.opn + m) (.inr q4) w0 w hSig (own 3 1 ad m cap xs :: R) H (List.mem_cons_of_mem _ hbm) (fun q5 e => by injection e with e; subst e; omega) h
            have HV := hid hv
            clear hv hnd
            go_wp2_with (first | ((with_reducible apply arm_load hS); (first | with_reducible exact wanted_none | exact wanted_guard rfl rfl); exact ev_tmp rfl; (repeat (with_reducible exact mem_hd)); rfl; decide +kernel; (try simp only [Act.put, q1, q2, q3])) | (go_at_call 39; refine (NX _ _ (by ((repeat (with_reducible apply mem_tl)); (try assumption))) hst).mono ?_; clear hS hS0 hst NX; rintro e w ⟨rfl, hA⟩; have hA2 := hA; obtain ⟨hq4, ho4, hS⟩ := hA; unfold alV psV at hS))
            refine (LX _ hA2).mono ?_
            clear hS hA2
            rintro e w ⟨v1, rfl, r1, H1, hth1, hx1, hv1, htr1, hA3⟩
            rcases r1 with ⟨d, a⟩ | ⟨x, q5⟩
            · obtain ⟨h0, k, n, tat, te, fin, o, nd, h1, h2, h3, h4, hS⟩ := dead_cells hA3
              have hd3 : (d != 0) = true := by simpa using h0
              have hrd := RD.quE HT.out HV.out hth1
              have HRD := hid hrd
              clear hA3 hth1 htr1 hrd
              go_wp2_with (first | ((with_reducible apply arm_load hS); exact wanted_none; exact ev_tmp rfl; (repeat (with_reducible exact mem_hd)); rfl; decide +kernel; (try simp only [Act.put, q1, q2, q3])) | ((with_reducible apply arm_store hS); exact wanted_none; exact ev_tmp rfl; exact ev_tmp rfl; (repeat (with_reducible exact mem_hd)); rfl; (focus (simp; done)); (repeat (with_reducible exact Upd.hd)); rfl; decide +kernel; clear hS; intro w hS; (try simp only [q2, q3] at hS); (try simp only [Act.put, q1, q2, q3])))
              have hS2 := hS.sb (L := blk B 82 [.string ⟨text.toArray⟩, .int .i64 k, .int .i64 n, .int .i64 tat, .int .i64 te, .int .i64 fin, .int .i64 (o - m), .int .i64 nd, .int .i64 d, .int .i64 a] :: fz H1 :: R) (by (repeat (first | with_reducible exact Sb.refl | (with_reducible refine Sb.take (by (repeat (with_reducible first | exact Rem.hd | apply Rem.tl)); done) ?_) | with_reducible apply Sb.skip)))
              go_ret
              exact ⟨_, rfl, .inl (d, a), HRD.out, .inl rfl, H1, hx1, h0, k, n, tat, te, fin, o - m, nd, by omega, by omega, h3, h4, hS2⟩
            · obtain ⟨hq5, ho5, hS⟩ := hA3
              obtain ⟨u1, u2, u3, u4⟩ := htr1 x q5 rfl
              obtain ⟨u5, u6⟩ := u4 q4 rfl
              have hrd := RD.quK HT.out HV.out hth1
              have HRD := hid hrd
              have hlk : cellF text (tokE q5.tk).1 (tokE q5.tk).2.1 q5.at_ 0 q5.fin q5.opn q5.nds 0 0 (.inr q5) := ⟨rfl, rfl⟩
              have HLK := hid hlk
              have c1 := hq5.1
              have c2 := hq5.2.1
              have hvl := HVL.out
              have hU1 := hid u1
              have hxsv := HXS.out
              rw [hxsv] at hS
              unfold alV psV at hS
              have HO5 := hid ho5
              clear hth1 htr1 hrd hlk u4 u1 hvl hxsv ho5
              go_wp2_with (first | ((with_reducible apply arm_load hS); exact wanted_none; exact ev_tmp rfl; (repeat (with_reducible exact mem_hd)); rfl; decide +kernel; (try simp only [Act.put, q1, q2, q3])) | ((with_reducible apply arm_store hS); exact wanted_none; exact ev_tmp rfl; exact ev_tmp rfl; (repeat (with_reducible exact mem_hd)); rfl; (focus (simp; done)); (repeat (with_reducible exact Upd.hd)); rfl; decide +kernel; clear hS; intro w hS; (try simp only [q2, q3] at hS); (try simp only [Act.put, q1, q2, q3])))
              have hS1 : Sat w0 w (blk B 82 [.string ⟨text.toArray⟩, .int .i64 (tokE q5.tk).1, .int .i64 (tokE q5.tk).2.1, .int .i64 q5.at_, .int .i64 0, .int .i64 q5.fin, .int .i64 (q5.opn - m), .int .i64 q5.nds, .int .i64 0, .int .i64 0] :: fz H1 :: own 3 1 ad m cap (Is vs) :: R) := hS.sb (by (repeat (with_reducible exact Sb.refl)))
              clear hS
              go_loopw [7, 8] (fun y i wi => ∃ k : Nat, ∃ H', k ≤ m ∧ Ext H1 H' ∧ InT H' (quT op (vs.drop (m - k)) x) y ∧ ((k = m ∧ i = .int .i64 (-1)) ∨ ∃ j : Nat, k + 1 + j = m ∧ i = .int .i64 j) ∧
                Sat w0 wi (blk B 82 [.string ⟨text.toArray⟩, .int .i64 (tokE q5.tk).1, .int .i64 (tokE q5.tk).2.1, .int .i64 q5.at_, .int .i64 0, .int .i64 q5.fin, .int .i64 (q5.opn - m), .int .i64 q5.nds, .int .i64 0, .int .i64 0] :: fz H' :: own 3 1 ad m cap (Is vs) :: R)) (fun _ i _ => (intOf i + 1).toNat)
              case atStart =>
                refine ⟨0, H1, by omega, Ext.refl _, ?_, ?_, hS1⟩
                · rw [List.drop_of_length_le (by have := HVL.out; omega)]; exact u2
                · by_cases h1 : m = 0
                  · exact .inl ⟨h1.symm, by subst h1; rfl⟩
                  · exact .inr ⟨m - 1, by omega, congrArg (Value.int .i64) (by omega)⟩
              case round =>
                clear hS1
                obtain ⟨k, H2, hk1, hx2, hiT, hj, hS⟩ := hrel
                rcases hj with ⟨hk2, rfl⟩ | ⟨j, hk2, rfl⟩
                · have HK2 := hid hk2
                  clear hk2
                  go_wp2_with ((with_reducible apply arm_load hS); exact wanted_guard rfl rfl; exact ev_const; (repeat (with_reducible apply mem_tl)); rfl; decide +kernel; (try simp only [Act.put, q1, q2, q3]))
                  have hS2 := hS.sb (L := blk B 82 [.string ⟨text.toArray⟩, .int .i64 (tokE q5.tk).1, .int .i64 (tokE q5.tk).2.1, .int .i64 q5.at_, .int .i64 0, .int .i64 q5.fin, .int .i64 (q5.opn - m), .int .i64 q5.nds, .int .i64 0, .int .i64 0] :: fz H2 :: R) (by (repeat (first | with_reducible exact Sb.refl | (with_reducible refine Sb.take (by (repeat (with_reducible first | exact Rem.hd | apply Rem.tl)); done) ?_) | with_reducible apply Sb.skip)))
                  go_ret
                  have hkm := HK2.out
                  subst hkm
                  rw [Nat.sub_self, List.drop_zero] at hiT
                  have hr := HRD.out
                  rw [HVL.out] at hr
                  exact ⟨_, rfl, .inr (quT op vs x, { q5 with opn := q5.opn - k }), hr, okR_inr HLK.out k hq5 HO5.out (by omega) (by rw [size_quT, HVL.out]; omega) (okT_quT HPK.out hU1.out HVB.out) (hx1.trans hx2) hiT hS2⟩
                · obtain ⟨vj, hvj⟩ : ∃ vj, vs[j]? = some vj := ⟨_, List.getElem?_eq_getElem (by have := HVL.out; omega)⟩
                  have hjm : j < m := by omega
                  have hsz : size (quT op (vs.drop (m - k)) x) ≤ 1000000 := by
                    rw [size_quT, List.length_drop, HVL.out]; omega
                  have hdr : quT op (vs.drop (m - (k + 1))) x = .qu op vj (quT op (vs.drop (m - k)) x) := by
                    have e1 : m - (k + 1) = j := by omega
                    have e2 : m - k = j + 1 := by omega
                    obtain ⟨g1, g2⟩ := List.getElem?_eq_some_iff.1 hvj
                    rw [e1, e2, List.drop_eq_getElem_cons g1, g2]
                    rfl
                  have QM := fun w hS => quantifyM op vj (quT op (vs.drop (m - k)) x) hsz _ H2 hiT w0 w (blk B 82 [.string ⟨text.toArray⟩, .int .i64 (tokE q5.tk).1, .int .i64 (tokE q5.tk).2.1, .int .i64 q5.at_, .int .i64 0, .int .i64 q5.fin, .int .i64 (q5.opn - m), .int .i64 q5.nds, .int .i64 0, .int .i64 0] :: own 3 1 ad m cap (Is vs) :: R) hS
                  have HDR := hid hdr
                  have HK2 := hid hk2
                  clear hdr hk2
                  go_wp2_with (first | ((with_reducible apply arm_indexAddr); exact wanted_none; exact ev_tmp rfl; exact ev_tmp rfl; exact E35; (omega); (omega); (exact hS.ownNN (by (repeat (with_reducible first | exact mem_hd | apply mem_tl))) (by omega)); (simp only [Int.toNat_natCast, Nat.mul_one, Nat.zero_add, tn_sub, tn_sub1, tn_sub2, tn_sub3, tn_add, tn_add1, tn_add2]; rfl); (try simp only [Act.put, q1, q2, q3])) | ((with_reducible apply arm_loadE); exact wanted_none; exact ev_tmp rfl; (exact (hS.ownCell (by (repeat (with_reducible first | exact mem_hd | apply mem_tl))) (by (exact Is_at (by assumption)))).1); decide +kernel; (try simp only [Act.put, q1, q2, q3])) | (go_at_call 70; refine (QM _ (hS.sb (by (repeat (first | with_reducible exact Sb.refl | (with_reducible refine Sb.take (by (repeat (with_reducible first | exact Rem.hd | apply Rem.tl)); done) ?_)))))).mono ?_; clear hS QM; rintro e w ⟨z, rfl, H4, hx4, hi4, hS⟩))
                  go_roundw
                  case rel =>
                    refine ⟨k + 1, H4, by have := HK2.out; omega, hx2.trans hx4, by rw [HDR.out]; exact hi4, ?_, hS.sb (by (repeat (first | with_reducible exact Sb.refl | (with_reducible refine Sb.take (by (repeat (with_reducible first | exact Rem.hd | apply Rem.tl)); done) ?_))))⟩
                    have := HK2.out
                    rcases j with _ | j
                    · exact .inl ⟨by omega, rfl⟩
                    · exact .inr ⟨j, by omega, congrArg (Value.int .i64) (by omega)⟩
                  case measure => (simp [intOf]) <;> omega
end Go.Proofs.YthackanffcaejaaGreatDoor
end
section
set_option linter.unusedSimpArgs false
set_option linter.unusedVariables false
set_option maxRecDepth 20000
namespace Go.Proofs.YthackanffcaejaaGreatDoor
open Go Go.RowKit Go.SL Go.ClauseP Go.LexP

theorem not_rd {text : List UInt8} {p : Ps} {r' : Rt} (ht : p.tk = .not) (h : thenR text (.lvl 6) (thenP (thenP (opensP p) makesP) (advP text)) r') : (∀ e, r' = .inl e → RD text (.lvl 6) p (.inl e)) ∧
    ∀ x q, r' = .inr (x, q) → ∃ q0, thenP (thenP (opensP p) makesP) (advP text) = .inr q0 ∧ RD text (.lvl 6) p (.inr (.neg x, { q with opn := q.opn - 1 })) := by
  cases h0 : thenP (thenP (opensP p) makesP) (advP text) with
  | inl e0 =>
    rw [h0] at h
    have h : r' = .inl e0 := h
    subst h
    exact ⟨fun e he => by injection he with he; subst he; exact .notA ht h0, fun x q he => (nomatch he)⟩
  | inr q0 =>
    rw [h0] at h
    have h : RD text (.lvl 6) q0 r' := h
    exact ⟨fun e he => by subst he; exact .notE ht h0 h, fun x q he => by subst he; exact ⟨q0, rfl, .notK ht h0 h⟩⟩
set_option maxHeartbeats 4000000 in
theorem unaryN (text : List UInt8) (hl : text.length ≤ 1048576) (B : Nat) (p : Ps) (w0 w : World) (R : List HP) (H : Hp) (hp : PsB text p) (hSig : SigE w0) (hbm : base w0 ∈ R) (hA : LvA text 162 6 (meas text p - 1)) (ht : p.tk = .not) (hS : Sat w0 w (blk B 82 (alV text p) :: fz H :: R)) :
    Calls Tryz.prog 162 #[.pointer (some ⟨B, 0, none⟩)] w (PostR w0 R H B text p) := by
  have hkn : knd p ≠ 0 := by unfold knd; rw [ht]; exact three_ne_zero
  have hf := hp.2.2.1
  have hmp := meas_pos hf hkn
  have hbq := fun q => both_q (text := text) (p := p) (q := q) hf hkn
  have he : alV text p = [.string ⟨text.toArray⟩, .int .i64 3, .int .i64 0, .int .i64 p.at_, .int .i64 0, .int .i64 p.fin, .int .i64 p.opn, .int .i64 p.nds, .int .i64 0, .int .i64 0] := by unfold alV psV; rw [ht]; rfl
  have hrd := fun r' => not_rd (text := text) (r' := r') ht
  have OX := fun w R hS => opensX B text p hp w0 w R hS
  have MX := fun w R h => makesX B text (p.opn + 1) (opensP p) w0 w R h
  have AX := fun w R hm h => advX B text hl (p.opn + 1) (thenP (opensP p) makesP) w0 w hSig R hm h
  have LX := fun r w R H hm hq h => lvX text _ 6 _ hA (unaryD text) B (p.opn + 1) r w0 w hSig R H hm hq h
  rw [he] at hS
  have HRD := hid hrd
  have HE := hid he
  have HBQ := hid hbq
  clear hrd he ht hbq
  go_enter Tryz.func162, Tryz.ntmps162
  go_wp2_with ((with_reducible apply arm_load hS); exact wanted_none; exact ev_tmp rfl; (repeat (with_reducible exact mem_hd)); rfl; decide +kernel; (try simp only [Act.put, q1, q2, q3]))
  refine (OX _ (fz H :: R) (by rw [HE.out]; exact hS)).mono ?_
  clear hS
  rintro e w ⟨rfl, hA⟩
  go_wp2_with fail
  refine (MX _ _ hA).mono ?_
  clear hA
  rintro e w ⟨rfl, hA⟩
  go_wp2_with fail
  refine (AX _ _ (by ((repeat (with_reducible apply mem_tl)); (try assumption))) hA).mono ?_
  clear hA
  rintro e w ⟨rfl, hA⟩
  go_wp2_with fail
  refine (LX _ _ _ _ (by ((repeat (with_reducible apply mem_tl)); (try assumption))) (fun q hq => by have := (HBQ.out q hq).1; omega) hA).mono ?_
  clear hA
  rintro e w ⟨v1, rfl, r1, H1, hth1, hx1, hv1, htr1, hA⟩
  obtain ⟨z1, z2⟩ := HRD.out r1 hth1
  rcases r1 with ⟨d, a⟩ | ⟨x, q⟩
  · obtain ⟨h0, k, n, tat, te, fin, o, nd, h1, h2, h3, h4, hS⟩ := dead_cells hA
    have hd3 : (d != 0) = true := by simpa using h0
    have hr := z1 _ rfl
    have HR := hid hr
    clear hA hth1 htr1 z1 z2 hr
    go_wp2_with (first | ((with_reducible apply arm_load hS); exact wanted_none; exact ev_tmp rfl; (repeat (with_reducible exact mem_hd)); rfl; decide +kernel; (try simp only [Act.put, q1, q2, q3])) | ((with_reducible apply arm_store hS); exact wanted_none; exact ev_tmp rfl; exact ev_tmp rfl; (repeat (with_reducible exact mem_hd)); rfl; (focus (simp; done)); (repeat (with_reducible exact Upd.hd)); rfl; decide +kernel; clear hS; intro w hS; (try simp only [q2, q3] at hS); (try simp only [Act.put, q1, q2, q3])))
    have hS2 := hS.sb (L := blk B 82 [.string ⟨text.toArray⟩, .int .i64 k, .int .i64 n, .int .i64 tat, .int .i64 te, .int .i64 fin, .int .i64 (o - 1), .int .i64 nd, .int .i64 d, .int .i64 a] :: fz H1 :: R) (by (repeat (with_reducible exact Sb.refl)))
    go_ret
    exact ⟨_, rfl, .inl (d, a), HR.out, .inl rfl, H1, hx1, h0, k, n, tat, te, fin, o - 1, nd, by omega, by omega, h3, h4, hS2⟩
  · obtain ⟨q0, e0, hr⟩ := z2 x q rfl
    obtain ⟨m1, m2, m3⟩ := HBQ.out q0 e0
    obtain ⟨u1, u2, u3, u4⟩ := htr1 x q rfl
    obtain ⟨u5, u6⟩ := u4 q0 e0
    obtain ⟨k1, n1, tat1, te1, fin1, o1, nd1, d1, a1, c1, c2, c3, c4, hlk, hqq, hS⟩ := hA.cells
    obtain ⟨b1, b2⟩ := hqq q rfl
    have hlk0 := hlk
    obtain ⟨_, rfl⟩ := hlk
    have hsz : q.nds ≤ 65536 := b1.2.1
    have NM := fun w R hS => notM x u1.ops (by omega) v1 H1 u2 w0 w R hS
    have HLK := hid hlk0
    have HR := hid hr
    have HB := hid b2
    have HU := hid u1
    clear hA hlk0 hqq z1 z2 hr hth1 htr1 b2 u1 u4 e0
    go_wp2_with (first | ((with_reducible apply arm_load hS); exact wanted_none; exact ev_tmp rfl; (repeat (with_reducible exact mem_hd)); rfl; decide +kernel; (try simp only [Act.put, q1, q2, q3])) | ((with_reducible apply arm_store hS); exact wanted_none; exact ev_tmp rfl; exact ev_tmp rfl; (repeat (with_reducible exact mem_hd)); rfl; (focus (simp; done)); (repeat (with_reducible exact Upd.hd)); rfl; decide +kernel; clear hS; intro w hS; (try simp only [q2, q3] at hS); (try simp only [Act.put, q1, q2, q3])) | (go_at_call 69; refine (NM _ (blk B 82 [.string ⟨text.toArray⟩, .int .i64 k1, .int .i64 n1, .int .i64 tat1, .int .i64 te1, .int .i64 fin1, .int .i64 (o1 - 1), .int .i64 nd1, .int .i64 0, .int .i64 a1] :: R) (hS.sb (by (repeat (first | with_reducible exact Sb.refl | (with_reducible refine Sb.take (by (repeat (with_reducible first | exact Rem.hd | apply Rem.tl)); done) ?_)))))).mono ?_; clear hS NM; rintro e w ⟨z, rfl, H4, hx4, hi4, hS⟩))
    have hS2 := hS.sb (L := blk B 82 [.string ⟨text.toArray⟩, .int .i64 k1, .int .i64 n1, .int .i64 tat1, .int .i64 te1, .int .i64 fin1, .int .i64 (o1 - 1), .int .i64 nd1, .int .i64 0, .int .i64 a1] :: fz H4 :: R) (by (repeat (first | with_reducible exact Sb.refl | (with_reducible refine Sb.take (by (repeat (with_reducible first | exact Rem.hd | apply Rem.tl)); done) ?_))))
    go_ret
    exact ⟨_, rfl, .inr (.neg x, { q with opn := q.opn - 1 }), HR.out, okR_inr HLK.out 1 b1 HB.out (by omega) (by simp only [size]; omega) HU.out (hx1.trans hx4) hi4 hS2⟩
set_option maxHeartbeats 4000000 in
theorem unaryQ (text : List UInt8) (hl : text.length ≤ 1048576) (B : Nat) (p : Ps) (op : Int) (w0 w : World) (R : List HP) (H : Hp) (hp : PsB text p) (hSig : SigE w0) (hbm : base w0 ∈ R) (hA : LvA text 38 1 (meas text p - 1)) (ht : p.tk = .quant op) (hS : Sat w0 w (blk B 82 (alV text p) :: fz H :: R)) :
    Calls Tryz.prog 162 #[.pointer (some ⟨B, 0, none⟩)] w (PostR w0 R H B text p) := by
  have hpk : op = 4 ∨ op = 5 := by have := hp.2.2.2; rw [ht] at this; exact this
  have QL := fun w hS => quLoop text hl B p op w0 w R H hp hSig hbm hA ht (by unfold i64; omega) hS
  have he : alV text p = [.string ⟨text.toArray⟩, .int .i64 (op + 9), .int .i64 0, .int .i64 p.at_, .int .i64 0, .int .i64 p.fin, .int .i64 p.opn, .int .i64 p.nds, .int .i64 0, .int .i64 0] := by unfold alV psV; rw [ht]; rfl
  rw [he] at hS
  have HE := hid he
  clear he ht
  rcases hpk with rfl | rfl
  all_goals
    simp only [Int.reduceAdd] at hS HE
    go_enter Tryz.func162, Tryz.ntmps162
    go_wp2_with (first | ((with_reducible apply arm_load hS); exact wanted_none; exact ev_tmp rfl; (repeat (with_reducible exact mem_hd)); rfl; decide +kernel; (try simp only [Act.put, q1, q2, q3])) | (go_at_call 167; refine (QL _ (by rw [HE.out]; exact hS)).mono ?_; clear hS QL; rintro e w ⟨v, rfl, r, hrd, hok⟩))
    go_ret
    exact ⟨_, rfl, r, hrd, hok⟩
theorem unaryP (text : List UInt8) (B : Nat) (p : Ps) (w0 w : World) (R : List HP) (H : Hp) (h3 : knd p ≠ 3) (h13 : knd p ≠ 13) (h14 : knd p ≠ 14) (hS : Sat w0 w (blk B 82 (alV text p) :: fz H :: R))
    (PC : ∀ w, Sat w0 w (blk B 82 (alV text p) :: fz H :: R) → Calls Tryz.prog 168 #[.pointer (some ⟨B, 0, none⟩)] w (PostR w0 R H B text p)) :
    Calls Tryz.prog 162 #[.pointer (some ⟨B, 0, none⟩)] w (PostR w0 R H B text p) := by
  unfold knd at h3 h13 h14
  unfold alV psV at hS PC
  generalize (tokE p.tk).1 = k at *
  generalize (tokE p.tk).2.1 = n at *
  have e3 : (k == 3) = false := by simpa using h3
  have e13 : (k == 13) = false := by simpa using h13
  have e14 : (k == 14) = false := by simpa using h14
  go_enter Tryz.func162, Tryz.ntmps162
  go_wp2_with (first | ((with_reducible apply arm_load hS); exact wanted_none; exact ev_tmp rfl; (repeat (with_reducible exact mem_hd)); rfl; decide +kernel; (try simp only [Act.put, q1, q2, q3])) | (go_at_call 168; refine (PC _ hS).mono ?_; clear hS PC; rintro e w ⟨v, rfl, r, hrd, hok⟩))
  go_ret
  exact ⟨_, rfl, r, hrd, hok⟩
theorem unaryA (text : List UInt8) (hl : text.length ≤ 1048576) : ∀ n, LvA text 162 6 n := by
  intro n
  induction n using Nat.strongRecOn with
  | _ n ih =>
    intro B p w0 w R H hp hm hSig hbm hS
    have hU : knd p ≠ 0 → LvA text 162 6 (meas text p - 1) := fun h => ih _ (by have := meas_pos hp.2.2.1 h; omega)
    have hF : knd p ≠ 0 → LvA text 38 1 (meas text p - 1) := fun h => formulaAA text hl _ (hU h)
    have hk := hp.2.2.2
    cases ht : p.tk with
    | bad e => rw [ht] at hk; exact hk.elim
    | not => exact unaryN text hl B p w0 w R H hp hSig hbm (hU (by unfold knd; rw [ht]; decide)) ht hS
    | quant o => exact unaryQ text hl B p o w0 w R H hp hSig hbm (hF (by unfold knd; rw [ht]; rw [ht] at hk; have hk : o = 4 ∨ o = 5 := hk; show o + 9 ≠ 0; omega)) ht hS
    | const c => exact unaryP text B p w0 w R H (by unfold knd; rw [ht]; exact (by decide : (1 : Int) ≠ 3)) (by unfold knd; rw [ht]; exact (by decide : (1 : Int) ≠ 13)) (by unfold knd; rw [ht]; exact (by decide : (1 : Int) ≠ 14)) hS fun w hS => primC text hl B p w0 w R H hp hSig hbm c ht hS
    | var c => exact unaryP text B p w0 w R H (by unfold knd; rw [ht]; exact (by decide : (2 : Int) ≠ 3)) (by unfold knd; rw [ht]; exact (by decide : (2 : Int) ≠ 13)) (by unfold knd; rw [ht]; exact (by decide : (2 : Int) ≠ 14)) hS fun w hS => primV text hl B p w0 w R H hp hSig hbm c ht hS
    | opn => exact unaryP text B p w0 w R H (by unfold knd; rw [ht]; decide) (by unfold knd; rw [ht]; decide) (by unfold knd; rw [ht]; decide) hS fun w hS => primO text hl B p w0 w R H hp hSig hbm (hF (by unfold knd; rw [ht]; decide)) ht hS
    | ite => exact unaryP text B p w0 w R H (by unfold knd; rw [ht]; decide) (by unfold knd; rw [ht]; decide) (by unfold knd; rw [ht]; decide) hS fun w hS => primI text hl B p w0 w R H hp hSig hbm (hF (by unfold knd; rw [ht]; decide)) ht hS
    | _ =>
      have hrd : RD text (.lvl 6) p (.inl (131, p.at_)) := .else_ (by simp [ht]) (by simp [ht]) (by simp [ht]) (by simp [ht])
      have hkk : ∀ c : Int, c = 1 ∨ c = 2 ∨ c = 3 ∨ c = 9 ∨ c = 13 ∨ c = 14 ∨ c = 15 → knd p ≠ c := by
        intro c hc
        unfold knd
        rw [ht] at hk ⊢
        simp only [tokE, tkOk] at hk ⊢
        omega
      exact unaryP text B p w0 w R H (hkk 3 (by omega)) (hkk 13 (by omega)) (hkk 14 (by omega)) hS fun w hS => primE text hl B p w0 w R H hp hrd (hkk 1 (by omega)) (hkk 2 (by omega)) (hkk 9 (by omega)) (hkk 15 (by omega)) hS
theorem formulaX (text : List UInt8) (hl : text.length ≤ 1048576) (n : Nat) : LvA text 38 1 n := formulaAA text hl n (unaryA text hl n)
end Go.Proofs.YthackanffcaejaaGreatDoor
end
section
set_option linter.unusedVariables false
namespace Go.SL
open Go Go.RowKit
theorem fzC {H : Hp} {b off : Nat} {v : Value} (hv : celH H b off = some v) {w0 w : World} {Hs : List HP} (hS : Sat w0 w Hs) (hm : fz H ∈ Hs) : w.cell? ⟨b, off, none⟩ = some v := hS.fzCell hm hv
end Go.SL
end
section
set_option linter.unusedVariables false
set_option linter.unusedSimpArgs false
namespace Go.SL
open Go Go.RowKit
theorem draw_act2 {P : Program} {ops : Array Oper} {Q : Exit → Act → World → Prop} {md : Region.Mode} {S : World → Prop} {js : List Nat} {i i2 : Nat} {oi oi2 : Oper} {fuel : Nat} {listed : Array Bool} {a : Act} {w : World} (hi : ops[i]? = some oi) (hi2 : ops[i2]? = some oi2) (hr : Region.ready md ops listed = [i, i2]) (hc : Closed md ops listed)
    (h : wpList P ops (Exit.then (Cont P md ops Q S js fuel (listed.setIfInBounds i true)) Q) [oi] a w) (h' : wpList P ops (Exit.then (Cont P md ops Q S js fuel (listed.setIfInBounds i2 true)) Q) [oi2] a w) : wpAnyS P md ops Q S js (fuel + 1) listed a w := by
  refine ⟨fun h0 => (by rw [hr] at h0; cases h0), fun j hj => ?_⟩
  have hmem := hj
  rw [hr] at hj
  have hj2 : j = i ∨ j = i2 := by simpa using hj
  rcases hj2 with rfl | rfl
  · refine wpOp_mono (K := Cont P md ops Q S js fuel (listed.setIfInBounds j true)) (fun a' w' h'' => ⟨h''.1, h''.2 (hc.set hmem)⟩) ?_
    unfold wpOp
    simp only [hi]
    simp only [wpList] at h
    split
    · rename_i hw
      rw [if_pos hw] at h
      rcases h with h1 | ⟨h1, h2⟩
      · left
        unfold Oper.wp at *
        generalize (execOp a.eval oi).run P w = r at *
        cases r with
        | ok n w' => cases n <;> simp only [Oper.upon] at h1 ⊢ <;> first | exact h1 | exact Calls.mono h1 (fun e w'' he => by cases e <;> first | exact he | (obtain ⟨a0, w0, h0⟩ := he; exact ⟨a0, w0, h0⟩)) | exact Rows.mono h1 (fun _ _ he => he)
        | halt x w' => cases x <;> simp only [Oper.upon] at h1 ⊢ <;> exact h1
      · right
        obtain ⟨a0, w0, h0⟩ := h2
        exact ⟨h1, a0, w0, h0⟩
    · rename_i hw
      rw [if_neg hw] at h
      exact h
  · refine wpOp_mono (K := Cont P md ops Q S js fuel (listed.setIfInBounds j true)) (fun a' w' h'' => ⟨h''.1, h''.2 (hc.set hmem)⟩) ?_
    unfold wpOp
    simp only [hi2]
    simp only [wpList] at h'
    split
    · rename_i hw
      rw [if_pos hw] at h'
      rcases h' with h1 | ⟨h1, h2⟩
      · left
        unfold Oper.wp at *
        generalize (execOp a.eval oi2).run P w = r at *
        cases r with
        | ok n w' => cases n <;> simp only [Oper.upon] at h1 ⊢ <;> first | exact h1 | exact Calls.mono h1 (fun e w'' he => by cases e <;> first | exact he | (obtain ⟨a0, w0, h0⟩ := he; exact ⟨a0, w0, h0⟩)) | exact Rows.mono h1 (fun _ _ he => he)
        | halt x w' => cases x <;> simp only [Oper.upon] at h1 ⊢ <;> exact h1
      · right
        obtain ⟨a0, w0, h0⟩ := h2
        exact ⟨h1, a0, w0, h0⟩
    · rename_i hw
      rw [if_neg hw] at h'
      exact h'
end Go.SL
end
