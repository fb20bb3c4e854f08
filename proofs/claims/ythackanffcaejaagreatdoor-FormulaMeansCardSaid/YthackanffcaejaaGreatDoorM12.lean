/- A part of the proof: Lv7. -/
import Derived.Test.YthackanffcaejaaGreatDoorM1
import Derived.Test.YthackanffcaejaaGreatDoorM11
set_option linter.unusedSimpArgs false
set_option linter.unusedVariables false
set_option maxRecDepth 20000
namespace Go.Proofs.YthackanffcaejaaGreatDoor
open Go Go.RowKit Go.SL Go.ClauseP Go.LexP

/-! ### Plain facts of the steps -/
theorem adv_q {text : List UInt8} {p q : Ps} (hf : p.fin ≤ text.length) (hk : knd p ≠ 0) (h : advP text p = .inr q) : meas text q < meas text p ∧ q.opn = p.opn ∧ q.nds = p.nds := by
  obtain rfl := advP_inr h
  refine ⟨?_, rfl, rfl⟩
  unfold meas
  rw [if_neg hk]
  have hb := nextT_bd text p.fin hf
  rcases nextT_grow text p.fin hf with hx | hx
  · rw [if_pos (by unfold knd; dsimp only; rw [hx]; rfl)]
    omega
  · split
    · omega
    · dsimp only; omega
theorem thenP_inr {r : Rp} {f : Ps → Rp} {q : Ps} (h : thenP r f = .inr q) : ∃ p, r = .inr p ∧ f p = .inr q := by
  cases r with
  | inl e => cases h
  | inr p => exact ⟨p, rfl, h⟩
theorem makesP_inr {p q : Ps} (h : makesP p = .inr q) : q = { p with nds := p.nds + 1 } := by
  unfold makesP at h
  split at h
  · cases h
  · injection h with h; exact h.symm
theorem opensP_inr {p q : Ps} (h : opensP p = .inr q) : q = { p with opn := p.opn + 1 } := by
  unfold opensP at h
  split at h
  · cases h
  · injection h with h; exact h.symm
theorem makes_q {text : List UInt8} {p q : Ps} (hf : p.fin ≤ text.length) (hk : knd p ≠ 0) (h : thenP (makesP p) (advP text) = .inr q) : meas text q < meas text p ∧ q.opn = p.opn ∧ q.nds = p.nds + 1 := by
  obtain ⟨p1, h1, h2⟩ := thenP_inr h
  obtain rfl := makesP_inr h1
  exact adv_q (p := { p with nds := p.nds + 1 }) hf hk h2
theorem opens_q {text : List UInt8} {p q : Ps} (hf : p.fin ≤ text.length) (hk : knd p ≠ 0) (h : thenP (opensP p) (advP text) = .inr q) : meas text q < meas text p ∧ q.opn = p.opn + 1 ∧ q.nds = p.nds := by
  obtain ⟨p1, h1, h2⟩ := thenP_inr h
  obtain rfl := opensP_inr h1
  exact adv_q (p := { p with opn := p.opn + 1 }) hf hk h2
theorem both_q {text : List UInt8} {p q : Ps} (hf : p.fin ≤ text.length) (hk : knd p ≠ 0) (h : thenP (thenP (opensP p) makesP) (advP text) = .inr q) : meas text q < meas text p ∧ q.opn = p.opn + 1 ∧ q.nds = p.nds + 1 := by
  obtain ⟨p2, h1, h2⟩ := thenP_inr h
  obtain ⟨p1, h3, h4⟩ := thenP_inr h1
  obtain rfl := opensP_inr h3
  obtain rfl := makesP_inr h4
  exact adv_q (p := { p with opn := p.opn + 1, nds := p.nds + 1 }) hf hk h2
theorem need_q {text : List UInt8} {p q : Ps} {k : Int} (hf : p.fin ≤ text.length) (hk : k ≠ 0) (h : needP text k p = .inr q) : meas text q < meas text p ∧ q.opn = p.opn ∧ q.nds = p.nds := by
  unfold needP at h
  split at h
  · rename_i hkk
    exact adv_q hf (by rw [hkk]; exact hk) h
  · cases h
theorem meas_pos {text : List UInt8} {p : Ps} (hf : p.fin ≤ text.length) (hk : knd p ≠ 0) : 0 < meas text p := by
  unfold meas; rw [if_neg hk]; omega
theorem cellF_opn {text : List UInt8} {k n tat te fin o nd d a : Int} {q : Ps} (h : cellF text k n tat te fin o nd d a (.inr q)) (j : Nat) (hj : j ≤ q.opn) : psV text k n tat te fin (o - j) nd d a = alV text { q with opn := q.opn - j } := by
  obtain ⟨h, rfl⟩ := h
  unfold alV psV at h ⊢
  simp only [List.cons.injEq, Value.int.injEq, true_and, and_true] at h
  obtain ⟨h1, h2, h3, h4, h5, h6, h7, h8⟩ := h
  subst h1; subst h2; subst h3; subst h4; subst h5; subst h7
  dsimp only
  rw [show ((q.opn - j : Nat) : Int) = o - (j : Int) by omega, h8]
/-! ### How the readings are put together -/
theorem opn_rd {text : List UInt8} {p : Ps} {r' : Rt} (ht : p.tk = .opn) (h : thenR text (.lvl 1) (thenP (opensP p) (advP text)) r') : (∀ e, thenP (rpR r') (needP text 10) = .inl e → RD text (.lvl 6) p (.inl e)) ∧
    ∀ q, thenP (rpR r') (needP text 10) = .inr q → ∃ q0 x q1, thenP (opensP p) (advP text) = .inr q0 ∧ r' = .inr (x, q1) ∧ needP text 10 q1 = .inr q ∧ RD text (.lvl 6) p (.inr (x, { q with opn := q.opn - 1 })) := by
  cases h0 : thenP (opensP p) (advP text) with
  | inl e0 =>
    rw [h0] at h
    have h : r' = .inl e0 := h
    subst h
    refine ⟨fun e he => ?_, fun q he => (nomatch he)⟩
    have he : e0 = e := by injection he
    subst he
    exact .opnA ht h0
  | inr q0 =>
    rw [h0] at h
    have h : RD text (.lvl 1) q0 r' := h
    rcases r' with e1 | ⟨x, q1⟩
    · refine ⟨fun e he => ?_, fun q he => (nomatch he)⟩
      have he : e1 = e := by injection he
      subst he
      exact .opnE ht h0 h
    · have hk := RD.opnK ht h0 h
      refine ⟨fun e he => ?_, fun q he => ⟨q0, x, q1, rfl, rfl, he, ?_⟩⟩
      · have he : needP text 10 q1 = .inl e := he
        rw [he] at hk; exact hk
      · have he : needP text 10 q1 = .inr q := he
        rw [he] at hk; exact hk
theorem ite_rd {text : List UInt8} {p : Ps} {r1 r2 r3 : Rt} (ht : p.tk = .ite) (h1 : thenR text (.lvl 1) (thenP (thenP (thenP (opensP p) makesP) (advP text)) (needP text 9)) r1) (h2 : thenR text (.lvl 1) (thenP (rpR r1) (needP text 11)) r2) (h3 : thenR text (.lvl 1) (thenP (rpR r2) (needP text 11)) r3) :
    (∀ e, thenP (rpR r3) (needP text 10) = .inl e → RD text (.lvl 6) p (.inl e)) ∧
    ∀ q, thenP (rpR r3) (needP text 10) = .inr q → ∃ q0 c q1 q2 a q3 q4 b q5, thenP (thenP (thenP (opensP p) makesP) (advP text)) (needP text 9) = .inr q0 ∧ r1 = .inr (c, q1) ∧ needP text 11 q1 = .inr q2 ∧ r2 = .inr (a, q3) ∧ needP text 11 q3 = .inr q4 ∧ r3 = .inr (b, q5) ∧ needP text 10 q5 = .inr q ∧
      RD text (.lvl 6) p (.inr (.ite c a b, { q with opn := q.opn - 1 })) := by
  have dead : ∀ {e0 : Int × Nat} {r : Rt}, r = .inl e0 → (∀ e, thenP (rpR r) (needP text 10) = .inl e → e = e0) ∧ ∀ q, thenP (rpR r) (needP text 10) ≠ .inr q := by
    rintro e0 r rfl
    exact ⟨fun e he => (by injection he with he; exact he.symm), fun q he => (nomatch he)⟩
  cases h0 : thenP (thenP (thenP (opensP p) makesP) (advP text)) (needP text 9) with
  | inl e0 =>
    rw [h0] at h1
    have h1 : r1 = .inl e0 := h1
    subst h1
    have h2 : r2 = .inl e0 := h2
    subst h2
    have h3 : r3 = .inl e0 := h3
    obtain ⟨g1, g2⟩ := dead h3
    exact ⟨fun e he => by rw [g1 e he]; exact .iteA ht h0, fun q he => (g2 q he).elim⟩
  | inr q0 =>
    rw [h0] at h1
    have h1 : RD text (.lvl 1) q0 r1 := h1
    rcases r1 with e1 | ⟨c, q1⟩
    · have h2 : r2 = .inl e1 := h2
      subst h2
      have h3 : r3 = .inl e1 := h3
      obtain ⟨g1, g2⟩ := dead h3
      exact ⟨fun e he => by rw [g1 e he]; exact .iteC ht h0 h1, fun q he => (g2 q he).elim⟩
    · cases hn : needP text 11 q1 with
      | inl e2 =>
        have h2 : thenR text (.lvl 1) (needP text 11 q1) r2 := h2
        rw [hn] at h2
        have h2 : r2 = .inl e2 := h2
        subst h2
        have h3 : r3 = .inl e2 := h3
        obtain ⟨g1, g2⟩ := dead h3
        exact ⟨fun e he => by rw [g1 e he]; exact .iteD ht h0 h1 hn, fun q he => (g2 q he).elim⟩
      | inr q2 =>
        have h2 : thenR text (.lvl 1) (needP text 11 q1) r2 := h2
        rw [hn] at h2
        have h2 : RD text (.lvl 1) q2 r2 := h2
        rcases r2 with e3 | ⟨a, q3⟩
        · have h3 : r3 = .inl e3 := h3
          obtain ⟨g1, g2⟩ := dead h3
          exact ⟨fun e he => by rw [g1 e he]; exact .iteE ht h0 h1 hn h2, fun q he => (g2 q he).elim⟩
        · cases hn2 : needP text 11 q3 with
          | inl e4 =>
            have h3 : thenR text (.lvl 1) (needP text 11 q3) r3 := h3
            rw [hn2] at h3
            have h3 : r3 = .inl e4 := h3
            obtain ⟨g1, g2⟩ := dead h3
            exact ⟨fun e he => by rw [g1 e he]; exact .iteF ht h0 h1 hn h2 hn2, fun q he => (g2 q he).elim⟩
          | inr q4 =>
            have h3 : thenR text (.lvl 1) (needP text 11 q3) r3 := h3
            rw [hn2] at h3
            have h3 : RD text (.lvl 1) q4 r3 := h3
            rcases r3 with e5 | ⟨b, q5⟩
            · obtain ⟨g1, g2⟩ := dead (r := .inl e5) rfl
              exact ⟨fun e he => by rw [g1 e he]; exact .iteG ht h0 h1 hn h2 hn2 h3, fun q he => (g2 q he).elim⟩
            · have hk := RD.iteK ht h0 h1 hn h2 hn2 h3
              refine ⟨fun e he => ?_, fun q he => ⟨q0, c, q1, q2, a, q3, q4, b, q5, rfl, rfl, hn, rfl, hn2, rfl, he, ?_⟩⟩
              · have he : needP text 10 q5 = .inl e := he
                rw [he] at hk; exact hk
              · have he : needP text 10 q5 = .inr q := he
                rw [he] at hk; exact hk
/-! ### The walk -/
theorem one_ne_zero : (1 : Int) ≠ 0 := by decide
theorem two_ne_zero : (2 : Int) ≠ 0 := by decide
theorem nine_ne_zero : (9 : Int) ≠ 0 := by decide
theorem ten5_ne_zero : (15 : Int) ≠ 0 := by decide
theorem three_ne_zero : (3 : Int) ≠ 0 := by decide
abbrev PostR (w0 : World) (R : List HP) (H : Hp) (B : Nat) (text : List UInt8) (p : Ps) (e : Ending) (w' : World) : Prop := ∃ v, e = .returned v ∧ ∃ r, RD text (.lvl 6) p r ∧ okR w0 w' R H B text p v r
section
variable {w0 w : World} {R : List HP} {H H' : Hp} {B : Nat} {text : List UInt8} {p : Ps} {v : Value} {k n tat te fin o nd d a : Int}
theorem okR_inl {x : Int × Nat} (hv : IfV v) (hx : Ext H H') (hlk : cellF text k n tat te fin o nd d a (.inl x)) {o' : Int} (h1 : p.opn ≤ o') (h2 : o' ≤ 65) (h3 : 0 ≤ nd) (h4 : nd ≤ 65537)
    (hS : Sat w0 w (blk B 82 [.string ⟨text.toArray⟩, .int .i64 k, .int .i64 n, .int .i64 tat, .int .i64 te, .int .i64 fin, .int .i64 o', .int .i64 nd, .int .i64 d, .int .i64 a] :: fz H' :: R)) : okR w0 w R H B text p v (.inl x) := by
  obtain ⟨rfl, ha, h0⟩ := hlk
  exact ⟨hv, H', hx, h0, k, n, tat, te, fin, o', nd, h1, h2, h3, h4, by dsimp only at ha ⊢; rw [ha]; exact hS⟩
theorem okR_inr {q : Ps} {t : T} (hlk : cellF text k n tat te fin o nd d a (.inr q)) (j : Nat) (hq : PsB text q) (ho : q.opn = p.opn + j) (hm : meas text q ≤ meas text p) (hn : p.nds + size t ≤ q.nds) (hk : okT t) (hx : Ext H H') (hi : InT H' t v)
    (hS : Sat w0 w (blk B 82 [.string ⟨text.toArray⟩, .int .i64 k, .int .i64 n, .int .i64 tat, .int .i64 te, .int .i64 fin, .int .i64 (o - j), .int .i64 nd, .int .i64 d, .int .i64 a] :: fz H' :: R)) :
    okR w0 w R H B text p v (.inr (t, { q with opn := q.opn - j })) := by
  refine ⟨⟨by have := hq.1; dsimp only; omega, hq.2.1, hq.2.2.1, hq.2.2.2⟩, by dsimp only; omega, hm, hn, hk, H', hx, hi, ?_⟩
  rw [← cellF_opn hlk j (by omega)]
  exact hS
theorem okR_in0 {q : Ps} {t : T} (hlk : cellF text k n tat te fin o nd d a (.inr q)) (hq : PsB text q) (ho : q.opn = p.opn) (hm : meas text q ≤ meas text p) (hn : p.nds + size t ≤ q.nds) (hk : okT t) (hx : Ext H H') (hi : InT H' t v)
    (hS : Sat w0 w (blk B 82 [.string ⟨text.toArray⟩, .int .i64 k, .int .i64 n, .int .i64 tat, .int .i64 te, .int .i64 fin, .int .i64 o, .int .i64 nd, .int .i64 d, .int .i64 a] :: fz H' :: R)) :
    okR w0 w R H B text p v (.inr (t, q)) := by
  refine ⟨hq, ho, hm, hn, hk, H', hx, hi, ?_⟩
  rw [hlk.1]
  exact hS
end
set_option maxHeartbeats 2000000 in
theorem primC (text : List UInt8) (hl : text.length ≤ 1048576) (B : Nat) (p : Ps) (w0 w : World) (R : List HP) (H : Hp) (hp : PsB text p) (hSig : SigE w0) (hbm : base w0 ∈ R) (c : Int) (ht : p.tk = .const c) (hS : Sat w0 w (blk B 82 (alV text p) :: fz H :: R)) :
    Calls Tryz.prog 168 #[.pointer (some ⟨B, 0, none⟩)] w (PostR w0 R H B text p) := by
  have hrd := RD.cst (text := text) ht
  have hpk := hp.2.2.2
  rw [ht] at hpk
  have hkn : knd p ≠ 0 := by unfold knd; rw [ht]; exact one_ne_zero
  have hf := hp.2.2.1
  have hmq := fun q => makes_q (text := text) (p := p) (q := q) hf hkn
  have he : alV text p = [.string ⟨text.toArray⟩, .int .i64 1, .int .i64 c, .int .i64 p.at_, .int .i64 0, .int .i64 p.fin, .int .i64 p.opn, .int .i64 p.nds, .int .i64 0, .int .i64 0] := by unfold alV psV; rw [ht]; rfl
  generalize hr0 : thenP (makesP p) (advP text) = r0 at *
  have MX := fun w R hS => makesX B text p.opn (.inr p) w0 w R ⟨hp, rfl, hS⟩
  have AX := fun w R hm h => advX B text hl p.opn (thenP (.inr p) makesP) w0 w hSig R hm h
  rw [show thenP (thenP (.inr p) makesP) (advP text) = r0 from hr0] at AX
  rw [he] at hS
  have HPK := hid hpk
  have HRD := hid hrd
  have HE := hid he
  clear hr0 hpk hrd he ht
  go_enter Tryz.func168, Tryz.ntmps168
  go_wp2_with (first | ((with_reducible apply arm_load hS); exact wanted_none; exact ev_tmp rfl; (repeat (with_reducible first | exact mem_hd | apply mem_tl)); rfl; decide +kernel; (try simp only [Act.put, q1, q2, q3])) | ((with_reducible apply arm_loadN hS); exact wanted_none; exact ev_tmp rfl; (repeat (with_reducible exact mem_hd)); exact sz80; decide +kernel; rfl; rfl; (try simp only [Act.put, q1, q2, q3])) | ((with_reducible apply arm_storeN hS); exact wanted_none; exact ev_tmp rfl; exact ev_tmp rfl; (repeat (with_reducible exact mem_hd)); rfl; (focus (simp; done)); (repeat (with_reducible exact Upd.hd)); rfl; exact sz80; rfl; clear hS; intro w hS; (try simp only [setFrom, q2, q3] at hS); (try simp only [Act.put, q1, q2, q3])) | ((with_reducible apply arm_alloc hS); exact wanted_none; exact z80; clear hS; intro TB w hS; (try simp only [Act.put, q1, q2, q3])) | ((with_reducible apply arm_box hS); exact wanted_none; exact ev_tmp rfl; exact cells_agg; clear hS; intro NB w hS; (try simp only [Act.put, q1, q2, q3])) | (go_at_call 114; (simp only [setFrom, List.drop_succ_cons, List.drop_zero, List.take_succ_cons, List.take_zero, q2, q3] at hS); refine (MX _ (blk TB 80 [.int .i64 1, .int .i64 c, .int .i64 p.at_, .int .i64 0] :: fz H :: R) (by rw [HE.out]; exact hS.sb (by (repeat (first | with_reducible exact Sb.refl | (with_reducible refine Sb.take (by (repeat (with_reducible first | exact Rem.hd | apply Rem.tl)); done) ?_)))))).mono ?_; clear hS; rintro e w ⟨rfl, hA⟩) | (go_at_call 37; refine (AX _ _ (by ((repeat (with_reducible apply mem_tl)); (try assumption))) hA).mono ?_; clear hA; rintro e w ⟨rfl, hA⟩; obtain ⟨k1, n1, tat1, te1, fin1, o1, nd1, d1, a1, c1, c2, c3, c4, hlk, hqq, hS⟩ := hA.cells; clear hA; have HLK := hid hlk; have HQQ := hid hqq; clear hlk hqq))
  go_ret
  have hS1 : Sat w0 w (blk NB 136 [.int .i64 0, .int .i64 0, .int .i64 c] :: fz H :: blk B 82 [.string ⟨text.toArray⟩, .int .i64 k1, .int .i64 n1, .int .i64 tat1, .int .i64 te1, .int .i64 fin1, .int .i64 o1, .int .i64 nd1, .int .i64 d1, .int .i64 a1] :: R) := hS.sb (by (repeat (first | with_reducible exact Sb.refl | (with_reducible refine Sb.take (by (repeat (with_reducible first | exact Rem.hd | apply Rem.tl)); done) ?_) | with_reducible apply Sb.skip)))
  obtain ⟨H', x1, x2, hS2⟩ := hS1.fzBlk
  have hS3 := hS2.sb (L := blk B 82 [.string ⟨text.toArray⟩, .int .i64 k1, .int .i64 n1, .int .i64 tat1, .int .i64 te1, .int .i64 fin1, .int .i64 o1, .int .i64 nd1, .int .i64 d1, .int .i64 a1] :: fz H' :: R) (by (repeat (first | with_reducible exact Sb.refl | (with_reducible refine Sb.take (by (repeat (with_reducible first | exact Rem.hd | apply Rem.tl)); done) ?_))))
  have hi : InT H' (.cst c) (.iface 132 (.pointer (some ⟨NB, 0, none⟩))) := ⟨NB, rfl, x2⟩
  have hrd := HRD.out
  rcases r0 with x | q
  · exact ⟨_, rfl, .inl x, hrd, okR_inl (.inr hi.form) x1 HLK.out (by omega) c2 c3 c4 hS3⟩
  · obtain ⟨m1, m2, m3⟩ := hmq q rfl
    exact ⟨_, rfl, .inr (.cst c, q), hrd, okR_in0 HLK.out (HQQ.out q rfl).1 m2 (by omega) (by simp only [size]; omega) HPK.out x1 hi hS3⟩
set_option maxHeartbeats 2000000 in
theorem primV (text : List UInt8) (hl : text.length ≤ 1048576) (B : Nat) (p : Ps) (w0 w : World) (R : List HP) (H : Hp) (hp : PsB text p) (hSig : SigE w0) (hbm : base w0 ∈ R) (c : Int) (ht : p.tk = .var c) (hS : Sat w0 w (blk B 82 (alV text p) :: fz H :: R)) :
    Calls Tryz.prog 168 #[.pointer (some ⟨B, 0, none⟩)] w (PostR w0 R H B text p) := by
  have hrd := RD.var (text := text) ht
  have hpk := hp.2.2.2
  rw [ht] at hpk
  have hkn : knd p ≠ 0 := by unfold knd; rw [ht]; exact two_ne_zero
  have hf := hp.2.2.1
  have hmq := fun q => makes_q (text := text) (p := p) (q := q) hf hkn
  have he : alV text p = [.string ⟨text.toArray⟩, .int .i64 2, .int .i64 c, .int .i64 p.at_, .int .i64 0, .int .i64 p.fin, .int .i64 p.opn, .int .i64 p.nds, .int .i64 0, .int .i64 0] := by unfold alV psV; rw [ht]; rfl
  generalize hr0 : thenP (makesP p) (advP text) = r0 at *
  have MX := fun w R hS => makesX B text p.opn (.inr p) w0 w R ⟨hp, rfl, hS⟩
  have AX := fun w R hm h => advX B text hl p.opn (thenP (.inr p) makesP) w0 w hSig R hm h
  rw [show thenP (thenP (.inr p) makesP) (advP text) = r0 from hr0] at AX
  rw [he] at hS
  have HPK := hid hpk
  have HRD := hid hrd
  have HE := hid he
  clear hr0 hpk hrd he ht
  go_enter Tryz.func168, Tryz.ntmps168
  go_wp2_with (first | ((with_reducible apply arm_load hS); exact wanted_none; exact ev_tmp rfl; (repeat (with_reducible first | exact mem_hd | apply mem_tl)); rfl; decide +kernel; (try simp only [Act.put, q1, q2, q3])) | ((with_reducible apply arm_loadN hS); exact wanted_none; exact ev_tmp rfl; (repeat (with_reducible exact mem_hd)); exact sz80; decide +kernel; rfl; rfl; (try simp only [Act.put, q1, q2, q3])) | ((with_reducible apply arm_storeN hS); exact wanted_none; exact ev_tmp rfl; exact ev_tmp rfl; (repeat (with_reducible exact mem_hd)); rfl; (focus (simp; done)); (repeat (with_reducible exact Upd.hd)); rfl; exact sz80; rfl; clear hS; intro w hS; (try simp only [setFrom, q2, q3] at hS); (try simp only [Act.put, q1, q2, q3])) | ((with_reducible apply arm_alloc hS); exact wanted_none; exact z80; clear hS; intro TB w hS; (try simp only [Act.put, q1, q2, q3])) | ((with_reducible apply arm_box hS); exact wanted_none; exact ev_tmp rfl; exact cells_agg; clear hS; intro NB w hS; (try simp only [Act.put, q1, q2, q3])) | (go_at_call 114; (simp only [setFrom, List.drop_succ_cons, List.drop_zero, List.take_succ_cons, List.take_zero, q2, q3] at hS); refine (MX _ (blk TB 80 [.int .i64 2, .int .i64 c, .int .i64 p.at_, .int .i64 0] :: fz H :: R) (by rw [HE.out]; exact hS.sb (by (repeat (first | with_reducible exact Sb.refl | (with_reducible refine Sb.take (by (repeat (with_reducible first | exact Rem.hd | apply Rem.tl)); done) ?_)))))).mono ?_; clear hS; rintro e w ⟨rfl, hA⟩) | (go_at_call 37; refine (AX _ _ (by ((repeat (with_reducible apply mem_tl)); (try assumption))) hA).mono ?_; clear hA; rintro e w ⟨rfl, hA⟩; obtain ⟨k1, n1, tat1, te1, fin1, o1, nd1, d1, a1, c1, c2, c3, c4, hlk, hqq, hS⟩ := hA.cells; clear hA; have HLK := hid hlk; have HQQ := hid hqq; clear hlk hqq))
  go_ret
  have hS1 : Sat w0 w (blk NB 139 [.int .i64 0, .int .i64 0, .int .i64 c] :: fz H :: blk B 82 [.string ⟨text.toArray⟩, .int .i64 k1, .int .i64 n1, .int .i64 tat1, .int .i64 te1, .int .i64 fin1, .int .i64 o1, .int .i64 nd1, .int .i64 d1, .int .i64 a1] :: R) := hS.sb (by (repeat (first | with_reducible exact Sb.refl | (with_reducible refine Sb.take (by (repeat (with_reducible first | exact Rem.hd | apply Rem.tl)); done) ?_) | with_reducible apply Sb.skip)))
  obtain ⟨H', x1, x2, hS2⟩ := hS1.fzBlk
  have hS3 := hS2.sb (L := blk B 82 [.string ⟨text.toArray⟩, .int .i64 k1, .int .i64 n1, .int .i64 tat1, .int .i64 te1, .int .i64 fin1, .int .i64 o1, .int .i64 nd1, .int .i64 d1, .int .i64 a1] :: fz H' :: R) (by (repeat (first | with_reducible exact Sb.refl | (with_reducible refine Sb.take (by (repeat (with_reducible first | exact Rem.hd | apply Rem.tl)); done) ?_))))
  have hi : InT H' (.var c) (.iface 137 (.pointer (some ⟨NB, 0, none⟩))) := ⟨NB, rfl, x2⟩
  have hrd := HRD.out
  rcases r0 with x | q
  · exact ⟨_, rfl, .inl x, hrd, okR_inl (.inr hi.form) x1 HLK.out (by omega) c2 c3 c4 hS3⟩
  · obtain ⟨m1, m2, m3⟩ := hmq q rfl
    exact ⟨_, rfl, .inr (.var c, q), hrd, okR_in0 HLK.out (HQQ.out q rfl).1 m2 (by omega) (by simp only [size]; omega) HPK.out x1 hi hS3⟩
theorem primE (text : List UInt8) (hl : text.length ≤ 1048576) (B : Nat) (p : Ps) (w0 w : World) (R : List HP) (H : Hp) (hp : PsB text p) (hrd : RD text (.lvl 6) p (.inl (131, p.at_))) (h1 : knd p ≠ 1) (h2 : knd p ≠ 2) (h9 : knd p ≠ 9) (h15 : knd p ≠ 15) (hS : Sat w0 w (blk B 82 (alV text p) :: fz H :: R)) :
    Calls Tryz.prog 168 #[.pointer (some ⟨B, 0, none⟩)] w (PostR w0 R H B text p) := by
  have b1 := hp.1
  have b2 := hp.2.1
  have FA := fun w R => failA B text (tokE p.tk).1 (tokE p.tk).2.1 p.at_ 0 p.fin p.opn p.nds 0 131 w0 w R
  unfold knd at h1 h2 h9 h15
  unfold alV at hS
  unfold psV at hS FA
  have HRD := hid hrd
  clear hrd
  generalize (tokE p.tk).1 = k at *
  generalize (tokE p.tk).2.1 = n at *
  have e1 : (k == 1) = false := by simpa using h1
  have e2 : (k == 2) = false := by simpa using h2
  have e9 : (k == 9) = false := by simpa using h9
  have e15 : (k == 15) = false := by simpa using h15
  go_enter Tryz.func168, Tryz.ntmps168
  go_wp2_with (first | ((with_reducible apply arm_load hS); exact wanted_none; exact ev_tmp rfl; (repeat (with_reducible exact mem_hd)); rfl; decide +kernel; (try simp only [Act.put, q1, q2, q3])) | ((with_reducible apply arm_loadN hS); exact wanted_none; exact ev_tmp rfl; (repeat (with_reducible exact mem_hd)); exact sz80; decide +kernel; rfl; rfl; (try simp only [Act.put, q1, q2, q3])) | ((with_reducible apply arm_storeN hS); exact wanted_none; exact ev_tmp rfl; exact ev_tmp rfl; (repeat (with_reducible exact mem_hd)); rfl; (focus (simp; done)); (repeat (with_reducible exact Upd.hd)); rfl; exact sz80; rfl; clear hS; intro w hS; (try simp only [setFrom, q2, q3] at hS); (try simp only [Act.put, q1, q2, q3])) | ((with_reducible apply arm_alloc hS); exact wanted_none; exact z80; clear hS; intro TB w hS; (try simp only [Act.put, q1, q2, q3])) | (go_at_call 80; (simp only [setFrom, List.drop_succ_cons, List.drop_zero, List.take_succ_cons, List.take_zero, q2, q3] at hS); refine (FA _ (fz H :: R) (hS.sb (by (repeat (first | with_reducible exact Sb.refl | (with_reducible refine Sb.take (by (repeat (with_reducible first | exact Rem.hd | apply Rem.tl)); done) ?_) | with_reducible apply Sb.skip))))).mono ?_; clear hS; rintro e w ⟨rfl, hS⟩))
  go_ret
  exact ⟨_, rfl, .inl (131, p.at_), HRD.out, .inl rfl, H, Ext.refl _, by show (131 : Int) ≠ 0; decide, _, _, _, _, _, (p.opn : Int), (p.nds : Int), by omega, by omega, by omega, by omega, hS⟩
set_option maxHeartbeats 4000000 in
theorem primO (text : List UInt8) (hl : text.length ≤ 1048576) (B : Nat) (p : Ps) (w0 w : World) (R : List HP) (H : Hp) (hp : PsB text p) (hSig : SigE w0) (hbm : base w0 ∈ R) (hA : LvA text 38 1 (meas text p - 1)) (ht : p.tk = .opn) (hS : Sat w0 w (blk B 82 (alV text p) :: fz H :: R)) :
    Calls Tryz.prog 168 #[.pointer (some ⟨B, 0, none⟩)] w (PostR w0 R H B text p) := by
  have hkn : knd p ≠ 0 := by unfold knd; rw [ht]; exact nine_ne_zero
  have hf := hp.2.2.1
  have hmq := fun q => opens_q (text := text) (p := p) (q := q) hf hkn
  have hmp := meas_pos hf hkn
  have he : alV text p = [.string ⟨text.toArray⟩, .int .i64 9, .int .i64 0, .int .i64 p.at_, .int .i64 0, .int .i64 p.fin, .int .i64 p.opn, .int .i64 p.nds, .int .i64 0, .int .i64 0] := by unfold alV psV; rw [ht]; rfl
  have hrd := fun r' => opn_rd (text := text) (r' := r') ht
  generalize hr0 : thenP (opensP p) (advP text) = r0 at *
  have OX := fun w R hS => opensX B text p hp w0 w R hS
  have AX := fun w R hm h => advX B text hl (p.opn + 1) (opensP p) w0 w hSig R hm h
  rw [hr0] at AX
  have LX := fun w R hm h => lvX text _ 1 _ hA (formulaDD text) B (p.opn + 1) r0 w0 w hSig R H hm (fun q hq => by have := (hmq q hq).1; omega) h
  have NX := fun r w R hm h => needX B text hl 10 (p.opn + 1) r w0 w hSig R hm h
  rw [he] at hS
  have HRD := hid hrd
  have HE := hid he
  clear hr0 hrd he ht
  go_enter Tryz.func168, Tryz.ntmps168
  go_wp2_with (first | ((with_reducible apply arm_load hS); exact wanted_none; exact ev_tmp rfl; (repeat (with_reducible exact mem_hd)); rfl; decide +kernel; (try simp only [Act.put, q1, q2, q3])) | ((with_reducible apply arm_loadN hS); exact wanted_none; exact ev_tmp rfl; (repeat (with_reducible exact mem_hd)); exact sz80; decide +kernel; rfl; rfl; (try simp only [Act.put, q1, q2, q3])) | ((with_reducible apply arm_store hS); exact wanted_none; exact ev_tmp rfl; exact ev_tmp rfl; (repeat (with_reducible exact mem_hd)); rfl; (focus (simp; done)); (repeat (with_reducible exact Upd.hd)); rfl; decide +kernel; clear hS; intro w hS; (try simp only [q2, q3] at hS); (try simp only [Act.put, q1, q2, q3])) | ((with_reducible apply arm_storeN hS); exact wanted_none; exact ev_tmp rfl; exact ev_tmp rfl; (repeat (with_reducible exact mem_hd)); rfl; (focus (simp; done)); (repeat (with_reducible exact Upd.hd)); rfl; exact sz80; rfl; clear hS; intro w hS; (try simp only [setFrom, q2, q3] at hS); (try simp only [Act.put, q1, q2, q3])) | ((with_reducible apply arm_alloc hS); exact wanted_none; exact z80; clear hS; intro TB w hS; (try simp only [Act.put, q1, q2, q3])) | (go_at_call 166; (simp only [setFrom, List.drop_succ_cons, List.drop_zero, List.take_succ_cons, List.take_zero, q2, q3] at hS); refine (OX _ (fz H :: R) (by rw [HE.out]; exact hS.sb (by (repeat (first | with_reducible exact Sb.refl | (with_reducible refine Sb.take (by (repeat (with_reducible first | exact Rem.hd | apply Rem.tl)); done) ?_) | with_reducible apply Sb.skip))))).mono ?_; clear hS; rintro e w ⟨rfl, hA⟩) | (go_at_call 37; refine (AX _ _ (by ((repeat (with_reducible apply mem_tl)); (try assumption))) hA.wide).mono ?_; clear hA; rintro e w ⟨rfl, hA⟩) | (go_at_call 38; refine (LX _ _ (by ((repeat (with_reducible apply mem_tl)); (try assumption))) hA).mono ?_; clear hA; rintro e w ⟨v, rfl, r1, H1, hth, hx, hv, htr, hA⟩; have HTH := hid hth; have HTR := hid htr; clear hth htr) | (go_at_call 39; refine (NX _ _ _ (by ((repeat (with_reducible apply mem_tl)); (try assumption))) hA).mono ?_; clear hA; rintro e w ⟨rfl, hA⟩; obtain ⟨k1, n1, tat1, te1, fin1, o1, nd1, d1, a1, c1, c2, c3, c4, hlk, hqq, hS⟩ := hA.cells; clear hA; have HLK := hid hlk; have HQQ := hid hqq; clear hlk hqq))
  go_ret
  obtain ⟨q1, q2⟩ := HRD.out r1 HTH.out
  have hlk := HLK.out
  have hqq := HQQ.out
  cases hr : thenP (rpR r1) (needP text 10) with
  | inl x =>
    rw [hr] at hlk
    exact ⟨_, rfl, .inl x, q1 x hr, okR_inl hv hx hlk (by omega) (by omega) c3 c4 hS⟩
  | inr q =>
    rw [hr] at hlk
    obtain ⟨q0, x, qa, e1, e2, e3, e4⟩ := q2 q hr
    obtain ⟨t1, t2, hql, t3⟩ := HTR.out x qa e2
    obtain ⟨t4, t5⟩ := t3 q0 e1
    obtain ⟨m1, m2, m3⟩ := hmq q0 e1
    obtain ⟨b1, b2⟩ := hqq q hr
    obtain ⟨n1, n2, n3⟩ := need_q hql (by decide) e3
    exact ⟨_, rfl, .inr (x, { q with opn := q.opn - 1 }), e4, okR_inr hlk 1 b1 (by omega) (by omega) (by omega) t1 hx t2 hS⟩
theorem need_in {text : List UInt8} {k : Int} {r : Rp} {q : Ps} (h : thenP r (needP text k) = .inr q) : ∃ p, r = .inr p ∧ needP text k p = .inr q := thenP_inr h
theorem rpR_inr {r : Rt} {q : Ps} (h : rpR r = .inr q) : ∃ t, r = .inr (t, q) := by
  rcases r with e | ⟨t, q'⟩
  · cases h
  · have h : q' = q := by injection h
    exact ⟨t, by rw [h]⟩
theorem fin_of {w0 w : World} {R : List HP} {B : Nat} {text : List UInt8} {lo hi : Nat} {r : Rp} (h : aftN w0 w R B text lo hi r) : ∀ q, r = .inr q → q.fin ≤ text.length := by
  rintro q rfl
  exact h.1.2.2.1
theorem ite_facts {text : List UInt8} {p q : Ps} {r1 r2 r3 : Rt} {v1 v2 v3 : Value} {H1 H2 H3 : Hp} (hp : p.fin ≤ text.length) (hk : knd p ≠ 0)
    (t1 : treeF text H1 v1 (thenP (thenP (thenP (opensP p) makesP) (advP text)) (needP text 9)) r1) (t2 : treeF text H2 v2 (thenP (rpR r1) (needP text 11)) r2) (t3 : treeF text H3 v3 (thenP (rpR r2) (needP text 11)) r3)
    (hpf : ∀ q, thenP (thenP (opensP p) makesP) (advP text) = .inr q → q.fin ≤ text.length) {q0 q1 q2 q3 q4 q5 : Ps} {c a b : T} (e1 : thenP (thenP (thenP (opensP p) makesP) (advP text)) (needP text 9) = .inr q0) (e2 : r1 = .inr (c, q1)) (e3 : needP text 11 q1 = .inr q2) (e4 : r2 = .inr (a, q3))
    (e5 : needP text 11 q3 = .inr q4) (e6 : r3 = .inr (b, q5)) (e7 : needP text 10 q5 = .inr q) :
    (okT c ∧ InT H1 c v1) ∧ (okT a ∧ InT H2 a v2) ∧ (okT b ∧ InT H3 b v3) ∧ meas text q ≤ meas text p ∧ p.nds + (size c + size a + size b + 1) ≤ q.nds := by
  obtain ⟨qq, f1, f2⟩ := need_in e1
  obtain ⟨m1, m2, m3⟩ := both_q hp hk f1
  obtain ⟨n1, n2, n3⟩ := need_q (hpf qq f1) (by decide) f2
  obtain ⟨a1, a2, a3, a4⟩ := t1 c q1 e2
  obtain ⟨a5, a6⟩ := a4 q0 e1
  obtain ⟨n4, n5, n6⟩ := need_q a3 (by decide) e3
  obtain ⟨b1, b2, b3, b4⟩ := t2 a q3 e4
  obtain ⟨b5, b6⟩ := b4 q2 (by rw [e2]; exact e3)
  obtain ⟨n7, n8, n9⟩ := need_q b3 (by decide) e5
  obtain ⟨c1, c2, c3, c4⟩ := t3 b q5 e6
  obtain ⟨c5, c6⟩ := c4 q4 (by rw [e4]; exact e5)
  obtain ⟨n10, n11, n12⟩ := need_q c3 (by decide) e7
  exact ⟨⟨a1, a2⟩, ⟨b1, b2⟩, ⟨c1, c2⟩, by omega, by omega⟩
theorem meas_step {text : List UInt8} {k : Int} {r : Rt} {m : Nat} (hk : k ≠ 0) (hf : ∀ t q, r = .inr (t, q) → q.fin ≤ text.length) (hm : ∀ t q, r = .inr (t, q) → meas text q ≤ m) : ∀ q, thenP (rpR r) (needP text k) = .inr q → meas text q ≤ m := by
  intro q hq
  obtain ⟨q1, e1, e2⟩ := need_in hq
  obtain ⟨t, rfl⟩ := rpR_inr e1
  have := (need_q (hf t q1 rfl) hk e2).1
  have := hm t q1 rfl
  omega
theorem tree_meas {text : List UInt8} {H : Hp} {v : Value} {r : Rp} {r' : Rt} {m : Nat} (h : treeF text H v r r') (hth : thenR text (.lvl 1) r r') (hm : ∀ q, r = .inr q → meas text q ≤ m) : ∀ t q, r' = .inr (t, q) → meas text q ≤ m := by
  intro t q e
  rcases r with x | q0
  · have hth : r' = .inl x := hth
    rw [hth] at e
    cases e
  · have := ((h t q e).2.2.2 q0 rfl).1
    have := hm q0 rfl
    omega
set_option maxHeartbeats 8000000 in
theorem primI (text : List UInt8) (hl : text.length ≤ 1048576) (B : Nat) (p : Ps) (w0 w : World) (R : List HP) (H : Hp) (hp : PsB text p) (hSig : SigE w0) (hbm : base w0 ∈ R) (hA : LvA text 38 1 (meas text p - 1)) (ht : p.tk = .ite) (hS : Sat w0 w (blk B 82 (alV text p) :: fz H :: R)) :
    Calls Tryz.prog 168 #[.pointer (some ⟨B, 0, none⟩)] w (PostR w0 R H B text p) := by
  have hkn : knd p ≠ 0 := by unfold knd; rw [ht]; exact ten5_ne_zero
  have hf := hp.2.2.1
  have hmp := meas_pos hf hkn
  have he : alV text p = [.string ⟨text.toArray⟩, .int .i64 15, .int .i64 0, .int .i64 p.at_, .int .i64 0, .int .i64 p.fin, .int .i64 p.opn, .int .i64 p.nds, .int .i64 0, .int .i64 0] := by unfold alV psV; rw [ht]; rfl
  have hrd := fun r1 r2 r3 => ite_rd (text := text) (r1 := r1) (r2 := r2) (r3 := r3) ht
  have OX := fun w R hS => opensX B text p hp w0 w R hS
  have MX := fun w R h => makesX B text (p.opn + 1) (opensP p) w0 w R h
  have AX := fun w R hm h => advX B text hl (p.opn + 1) (thenP (opensP p) makesP) w0 w hSig R hm h
  have LX := fun r w R H hm hq h => lvX text _ 1 _ hA (formulaDD text) B (p.opn + 1) r w0 w hSig R H hm hq h
  have NX := fun k r w R hm h => needX B text hl k (p.opn + 1) r w0 w hSig R hm h
  have hbq := fun q => both_q (text := text) (p := p) (q := q) hf hkn
  rw [he] at hS
  have HRD := hid hrd
  have HE := hid he
  have HBQ := hid hbq
  clear hrd he ht hbq
  go_enter Tryz.func168, Tryz.ntmps168
  go_wp2_with (first | ((with_reducible apply arm_load hS); exact wanted_none; exact ev_tmp rfl; (repeat (with_reducible exact mem_hd)); rfl; decide +kernel; (try simp only [Act.put, q1, q2, q3])) | ((with_reducible apply arm_loadN hS); exact wanted_none; exact ev_tmp rfl; (repeat (with_reducible exact mem_hd)); exact sz80; decide +kernel; rfl; rfl; (try simp only [Act.put, q1, q2, q3])) | ((with_reducible apply arm_storeN hS); exact wanted_none; exact ev_tmp rfl; exact ev_tmp rfl; (repeat (with_reducible exact mem_hd)); rfl; (focus (simp; done)); (repeat (with_reducible exact Upd.hd)); rfl; exact sz80; rfl; clear hS; intro w hS; (try simp only [setFrom, q2, q3] at hS); (try simp only [Act.put, q1, q2, q3])) | ((with_reducible apply arm_alloc hS); exact wanted_none; exact z80; clear hS; intro TB w hS; (try simp only [Act.put, q1, q2, q3])))
  simp only [setFrom, List.drop_succ_cons, List.drop_zero, List.take_succ_cons, List.take_zero, List.set_cons_zero, List.set_cons_succ] at hS
  refine (OX _ (fz H :: R) (by rw [HE.out]; exact hS.sb (by (repeat (first | with_reducible exact Sb.refl | (with_reducible refine Sb.take (by (repeat (with_reducible first | exact Rem.hd | apply Rem.tl)); done) ?_) | with_reducible apply Sb.skip))))).mono ?_
  clear hS
  rintro e w ⟨rfl, hA⟩
  go_wp2_with fail
  refine (MX _ _ hA).mono ?_
  clear hA
  rintro e w ⟨rfl, hA⟩
  go_wp2_with fail
  refine (AX _ _ (by ((repeat (with_reducible apply mem_tl)); (try assumption))) hA).mono ?_
  clear hA
  rintro e w ⟨rfl, hA⟩
  have hpf := fin_of hA
  have HPF := hid hpf
  clear hpf
  go_wp2_with fail
  refine (NX 9 _ _ _ (by ((repeat (with_reducible apply mem_tl)); (try assumption))) hA).mono ?_
  clear hA
  rintro e w ⟨rfl, hA⟩
  have hmm : ∀ q, thenP (thenP (thenP (opensP p) makesP) (advP text)) (needP text 9) = .inr q → meas text q ≤ meas text p - 1 := fun q hq => by
    obtain ⟨qq, f1, f2⟩ := need_in hq
    obtain ⟨m1, m2, m3⟩ := HBQ.out qq f1
    have := (need_q (HPF.out qq f1) (by decide) f2).1
    omega
  go_wp2_with fail
  refine (LX _ _ _ _ (by ((repeat (with_reducible apply mem_tl)); (try assumption))) hmm hA).mono ?_
  clear hA
  rintro e w ⟨v1, rfl, r1, H1, hth1, hx1, hv1, htr1, hA⟩
  have hmm1 := meas_step (k := 11) (by decide) (fun t q e => (htr1 t q e).2.2.1) (tree_meas htr1 hth1 hmm)
  have HTH1 := hid hth1
  have HTR1 := hid htr1
  have HX1 := hid hx1
  have HM := hid hmm
  clear hth1 htr1 hx1 hmm
  go_wp2_with fail
  refine (NX 11 _ _ _ (by ((repeat (with_reducible apply mem_tl)); (try assumption))) hA).mono ?_
  clear hA
  rintro e w ⟨rfl, hA⟩
  go_wp2_with fail
  refine (LX _ _ _ _ (by ((repeat (with_reducible apply mem_tl)); (try assumption))) hmm1 hA).mono ?_
  clear hA
  rintro e w ⟨v2, rfl, r2, H2, hth2, hx2, hv2, htr2, hA⟩
  have hmm2 := meas_step (k := 11) (by decide) (fun t q e => (htr2 t q e).2.2.1) (tree_meas htr2 hth2 hmm1)
  have HTH2 := hid hth2
  have HTR2 := hid htr2
  have HX2 := hid hx2
  clear hth2 htr2 hx2 hmm1
  go_wp2_with fail
  refine (NX 11 _ _ _ (by ((repeat (with_reducible apply mem_tl)); (try assumption))) hA).mono ?_
  clear hA
  rintro e w ⟨rfl, hA⟩
  go_wp2_with fail
  refine (LX _ _ _ _ (by ((repeat (with_reducible apply mem_tl)); (try assumption))) hmm2 hA).mono ?_
  clear hA
  rintro e w ⟨v3, rfl, r3, H3, hth3, hx3, hv3, htr3, hA⟩
  have HTH3 := hid hth3
  have HTR3 := hid htr3
  have HX3 := hid hx3
  clear hth3 htr3 hx3 hmm2
  go_wp2_with fail
  refine (NX 10 _ _ _ (by ((repeat (with_reducible apply mem_tl)); (try assumption))) hA).mono ?_
  clear hA
  rintro e w ⟨rfl, hA⟩
  obtain ⟨q1, q2⟩ := HRD.out r1 r2 r3 HTH1.out HTH2.out HTH3.out
  have hx := HX1.out.trans (HX2.out.trans HX3.out)
  have hfx := fun q0 c q1 q2 a q3 q4 b q5 q e1 e2 e3 e4 e5 e6 e7 => ite_facts (q := q) (q0 := q0) (q1 := q1) (q2 := q2) (q3 := q3) (q4 := q4) (q5 := q5) (c := c) (a := a) (b := b) hf hkn HTR1.out HTR2.out HTR3.out HPF.out e1 e2 e3 e4 e5 e6 e7
  cases hr : thenP (rpR r3) (needP text 10) with
  | inl x =>
    have h1 := q1 x hr
    rw [hr] at hA
    obtain ⟨k1, n1, tat1, te1, fin1, o1, nd1, d1, a1, c1, c2, c3, c4, hlk, hqq, hS⟩ := hA.cells
    have hd : (d1 != 0) = true := by simpa using hlk.2.2
    have HLK := hid hlk
    have HR := hid h1
    have HXX := hid hx
    clear hA hlk hqq q1 q2 hr h1 hx hfx
    go_wp2_with (first | ((with_reducible apply arm_load hS); exact wanted_none; exact ev_tmp rfl; (repeat (with_reducible exact mem_hd)); rfl; decide +kernel; (try simp only [Act.put, q1, q2, q3])) | ((with_reducible apply arm_store hS); exact wanted_none; exact ev_tmp rfl; exact ev_tmp rfl; (repeat (with_reducible exact mem_hd)); rfl; (focus (simp; done)); (repeat (with_reducible exact Upd.hd)); rfl; decide +kernel; clear hS; intro w hS; (try simp only [q2, q3] at hS); (try simp only [Act.put, q1, q2, q3])))
    have hS2 := hS.sb (L := blk B 82 [.string ⟨text.toArray⟩, .int .i64 k1, .int .i64 n1, .int .i64 tat1, .int .i64 te1, .int .i64 fin1, .int .i64 (o1 - 1), .int .i64 nd1, .int .i64 d1, .int .i64 a1] :: fz H3 :: R) (by (repeat (with_reducible exact Sb.refl)))
    go_ret
    exact ⟨_, rfl, .inl x, HR.out, okR_inl (p := p) (o' := o1 - 1) (.inl rfl) HXX.out HLK.out (by omega) (by omega) c3 c4 hS2⟩
  | inr q =>
    obtain ⟨q0, c, qa, qb, a, qc, qd, b, qe, e1, e2, e3, e4, e5, e6, e7, h1⟩ := q2 q hr
    obtain ⟨⟨k1c, i1⟩, ⟨k2c, i2⟩, ⟨k3c, i3⟩, g4, g5⟩ := hfx q0 c qa qb a qc qd b qe q e1 e2 e3 e4 e5 e6 e7
    rw [hr] at hA
    obtain ⟨k1, n1, tat1, te1, fin1, o1, nd1, d1, a1, c1, c2, c3, c4, hlk, hqq, hS⟩ := hA.cells
    obtain ⟨b1, b2⟩ := hqq q rfl
    have hlk0 := hlk
    obtain ⟨_, rfl⟩ := hlk
    have hsz : q.nds ≤ 65536 := b1.2.1
    have IM := fun w R hS => iteM c a b (by omega) (by omega) (by omega) v1 v2 v3 H3 (i1.ext (HX2.out.trans HX3.out)) (i2.ext HX3.out) i3 w0 w R hS
    have HLK := hid hlk0
    have HR := hid h1
    have HXX := hid hx
    have HKC := hid (And.intro k1c (And.intro k2c k3c))
    clear hA hlk0 hqq q1 q2 hr h1 hx hfx e1 e2 e3 e4 e5 e6 e7 i1 i2 i3 k1c k2c k3c
    have HB := hid b2
    clear b2
    go_wp2_with (first | ((with_reducible apply arm_load hS); exact wanted_none; exact ev_tmp rfl; (repeat (with_reducible exact mem_hd)); rfl; decide +kernel; (try simp only [Act.put, q1, q2, q3])) | ((with_reducible apply arm_store hS); exact wanted_none; exact ev_tmp rfl; exact ev_tmp rfl; (repeat (with_reducible exact mem_hd)); rfl; (focus (simp; done)); (repeat (with_reducible exact Upd.hd)); rfl; decide +kernel; clear hS; intro w hS; (try simp only [q2, q3] at hS); (try simp only [Act.put, q1, q2, q3])) | (go_at_call 72; refine (IM _ (blk B 82 [.string ⟨text.toArray⟩, .int .i64 k1, .int .i64 n1, .int .i64 tat1, .int .i64 te1, .int .i64 fin1, .int .i64 (o1 - 1), .int .i64 nd1, .int .i64 0, .int .i64 a1] :: R) (hS.sb (by (repeat (first | with_reducible exact Sb.refl | (with_reducible refine Sb.take (by (repeat (with_reducible first | exact Rem.hd | apply Rem.tl)); done) ?_)))))).mono ?_; clear hS IM; rintro e w ⟨z, rfl, H4, hx4, hi4, hS⟩))
    have hS2 := hS.sb (L := blk B 82 [.string ⟨text.toArray⟩, .int .i64 k1, .int .i64 n1, .int .i64 tat1, .int .i64 te1, .int .i64 fin1, .int .i64 (o1 - 1), .int .i64 nd1, .int .i64 0, .int .i64 a1] :: fz H4 :: R) (by (repeat (first | with_reducible exact Sb.refl | (with_reducible refine Sb.take (by (repeat (with_reducible first | exact Rem.hd | apply Rem.tl)); done) ?_))))
    go_ret
    exact ⟨_, rfl, .inr (.ite c a b, { q with opn := q.opn - 1 }), HR.out, okR_inr HLK.out 1 b1 HB.out g4 (by simp only [size]; omega) ⟨HKC.out.1, HKC.out.2.1, HKC.out.2.2⟩ (HXX.out.trans hx4) hi4 hS2⟩
end Go.Proofs.YthackanffcaejaaGreatDoor
