/- A part of the proof: Rd4 Rd5 Lv11 Rx1. -/
import Derived.Test.YthackanffcaejaaGreatDoorO1
import Derived.Test.YthackanffcaejaaGreatDoorO4
import Derived.Test.YthackanffcaejaaGreatDoorO12
import Derived.Test.YthackanffcaejaaGreatDoorO13
set_option linter.unusedSimpArgs false
set_option linter.unusedVariables false
set_option linter.unusedSectionVars false
namespace Go.Proofs.YthackanffcaejaaGreatDoor
section
open Go Go.RowKit Go.SL Go.ClauseP Go.LexP

theorem Gi {b : Nat} (hb : b = 1 ∨ b = 3 ∨ b = 4 ∨ b = 5) : b < 6 := by omega
theorem XV {text : List UInt8} {q' : Ps} {S pend : List Wt} {o o' : List (Int × Int)} {x : T} {k : Nat} (q : Int) (hq : Ok text q') (hx : o' ++ nd pend = post x) (hG : Good 1 q'.tk pend) (h0 : q'.opn = k + 1) :
    jU text ⟨pend ++ .opn :: S, o ++ o', q'.opn + cn pend, q'.nds⟩ 1 q q' (fun _ => ⟨S, o ++ post x, k, q'.nds⟩) 1 q 0 0 (yU text 10 q') := by
  have hi : Yd (pend ++ .opn :: S) (o ++ o') (q'.opn + cn pend) = (.opn :: S, o ++ post x, q'.opn) := by
    rw [ki pend _ _ _ hG.1, List.append_assoc, hx]; rfl
  refine KX hq (fun h => ?_) (fun h => ?_)
  · rw [(uw hq.1).1 h]
    simp only [yB, if_true]
    rw [hi]
    simp only [kY, h0, Nat.add_sub_cancel]
  · have h' : q'.tk ≠ .cls := fun e => h ((uw hq.1).2 e)
    have h1 := hq.1
    have h2 := hG.noop
    generalize q'.tk = tk at *
    cases tk with
    | cls => exact (h' rfl).elim
    | bad => exact h1.elim
    | op o => exact (h2 _ rfl).elim
    | comma => simp only [yB, if_true, hi, KB]
    | fin => simp only [yB, if_true, hi, finM]
    | _ => rfl
theorem kG {text : List UInt8} {q' : Ps} {S pend : List Wt} {o o' : List (Int × Int)} {x : T} {n : Nat} (q : Int) (hn : n < 2) (hq : Ok text q') (hx : o' ++ nd pend = post x) (hG : Good 1 q'.tk pend) :
    jU text ⟨pend ++ .ite n :: S, o ++ o', q'.opn + cn pend, q'.nds⟩ 1 q q' (fun _ => ⟨.ite (n + 1) :: S, o ++ post x, q'.opn, q'.nds⟩) 0 q 0 0 (yU text 11 q') := by
  have hi : Yd (pend ++ .ite n :: S) (o ++ o') (q'.opn + cn pend) = (.ite n :: S, o ++ post x, q'.opn) := by
    rw [ki pend _ _ _ hG.1, List.append_assoc, hx]; rfl
  refine KX hq (fun h => ?_) (fun h => ?_)
  · rw [(xh hq.1).1 h]
    simp only [yB, if_true, hi, KB]
    rw [if_neg (by omega)]
  · have h' : q'.tk ≠ .comma := fun e => h ((xh hq.1).2 e)
    have h1 := hq.1
    have h2 := hG.noop
    generalize q'.tk = tk at *
    cases tk with
    | comma => exact (h' rfl).elim
    | bad => exact h1.elim
    | op o => exact (h2 _ rfl).elim
    | cls => simp only [yB, if_true, hi, kY]; rw [if_neg (by omega)]
    | fin => simp only [yB, if_true, hi, finM]
    | _ => rfl
theorem Xu {text : List UInt8} {q' : Ps} {S pend : List Wt} {o o' : List (Int × Int)} {x : T} {k : Nat} (q : Int) (hq : Ok text q') (hx : o' ++ nd pend = post x) (hG : Good 1 q'.tk pend) (h0 : q'.opn = k + 1) :
    jU text ⟨pend ++ .ite 2 :: S, o ++ o', q'.opn + cn pend, q'.nds⟩ 1 q q' (fun _ => ⟨S, o ++ (post x ++ [(11, 0)]), k, q'.nds⟩) 1 q 0 0 (yU text 10 q') := by
  have hi : Yd (pend ++ .ite 2 :: S) (o ++ o') (q'.opn + cn pend) = (.ite 2 :: S, o ++ post x, q'.opn) := by
    rw [ki pend _ _ _ hG.1, List.append_assoc, hx]; rfl
  refine KX hq (fun h => ?_) (fun h => ?_)
  · rw [(uw hq.1).1 h]
    simp only [yB, if_true]
    rw [hi]
    simp only [kY, if_true, h0, Nat.add_sub_cancel, List.append_assoc]
  · have h' : q'.tk ≠ .cls := fun e => h ((uw hq.1).2 e)
    have h1 := hq.1
    have h2 := hG.noop
    generalize q'.tk = tk at *
    cases tk with
    | cls => exact (h' rfl).elim
    | bad => exact h1.elim
    | op o => exact (h2 _ rfl).elim
    | comma => simp only [yB, if_true, hi, KB]; rw [if_pos (by omega)]
    | fin => simp only [yB, if_true, hi, finM]
    | _ => rfl
theorem KI {text : List UInt8} {p : Ps} (S : List Wt) (o : List (Int × Int)) (q : Int) (hp : Ok text p) (ht : p.tk = .ite) :
    jU text ⟨S, o, p.opn, p.nds⟩ 0 q p (fun p' => ⟨.ite 0 :: S, o, p'.opn, p'.nds⟩) 0 q 1 1 (yu (yu (yu (Ye p) yD) (yV text)) (yU text 9)) := by
  have h1 := Ki (text := text) (m := ⟨S, o, p.opn, p.nds⟩) (w := 0) (q := q) (x := .ite 0) (w' := 2) (q' := q) hp rfl rfl (by rw [ht]; rfl)
  cases h : yu (yu (Ye p) yD) (yV text) with
  | inl e => rw [h] at h1; exact h1
  | inr q1 =>
    rw [h] at h1
    obtain ⟨a1, a2, a3, a4⟩ := h1
    show jU _ _ _ _ _ _ _ _ _ _ (yU text 9 q1)
    have h2 := KX (text := text) (m := ⟨.ite 0 :: S, o, q1.opn, q1.nds⟩) (m' := ⟨.ite 0 :: S, o, q1.opn, q1.nds⟩) (w := 2) (q := q) (w' := 0) (q' := q) (k := 9) a1
      (fun h => by rw [(xy a1.1).1 h]; rfl)
      (fun h => by
        have h' : q1.tk ≠ .opn := fun e => h ((xy a1.1).2 e)
        have h5 := a1.1
        generalize q1.tk = tk at *
        cases tk <;> first | rfl | exact (h' rfl).elim | exact h5.elim)
    cases hn : yU text 9 q1 with
    | inl e => rw [hn] at h2; exact a4 _ h2
    | inr q2 =>
      rw [hn] at h2
      obtain ⟨b1, b2, b3, b4⟩ := h2
      refine ⟨b1, by omega, by omega, fun r hr => a4 r (b4 r ?_)⟩
      dsimp only at hr ⊢
      rw [show q1.opn = q2.opn from b2.symm, show q1.nds = q2.nds from b3.symm]
      exact hr
set_option maxHeartbeats 2000000 in
theorem law {text : List UInt8} {tsk : Tsk} {p : Ps} {r : Rt} (h : RD text tsk p r) : Mot text tsk p r := by
  induction h with
  | @lvlE b p e hb _ ih =>
    intro hp S o q hS
    exact ih hp S o q (hS.up (Gi hb))
  | @lvlK b p x q1 r hb _ _ ih1 ih2 =>
    intro hp S o q hS
    obtain ⟨h1, h2, pend, o', q', h3, h4, h5⟩ := ih1 hp S o q (hS.up (Gi hb))
    exact (ih2 h1 hb S o q' pend o' hS h3 h4.weak).comp h2 h5
  | @loopN b x q1 hk =>
    intro hp hb S o q pend o' hS hx hG
    refine ⟨hp, rfl, pend, o', q, hx, ⟨hG.1, fun k hkk => ⟨?_, (hG.2 k hkk).2⟩⟩, fun r hr => hr⟩
    have h1 := (hG.2 k hkk).1
    have h2 : k ≠ oOf b := fun e => hk ((XW hp.1 hb).2 (by rw [hkk, e]))
    have h3 : 6 ≤ k ∧ k ≤ 10 := by have := hp.1; rw [hkk] at this; exact this
    unfold YI at h1 ⊢
    rcases hb with rfl | rfl | rfl | rfl <;> simp only [oOf] at h2 <;> (repeat' split at h1) <;> (repeat' split) <;> omega
  | @loopA b x q1 e hk ha =>
    intro hp hb S o q pend o' hS hx hG
    have hs := JX (o := o) q hp hb hS hx hG hk
    rw [ha] at hs
    exact hs
  | @loopE b x q1 q2 e hk ha _ ih =>
    intro hp hb S o q pend o' hS hx hG
    have hs := JX (o := o) q hp hb hS hx hG hk
    rw [ha] at hs
    obtain ⟨a1, a2, a3, a4⟩ := hs
    have h1 := ih a1 (.op (oOf b) :: S) (o ++ post x) q (by show YI (oOf b) < b + 1; rw [Jq hb]; omega)
    refine a4 _ ?_
    rw [show q1.opn = q2.opn from a2.symm]
    exact h1
  | @loopK b x q1 q2 y q3 r hk ha _ _ ih1 ih2 =>
    intro hp hb S o q pend o' hS hx hG
    have hs := JX (o := o) q hp hb hS hx hG hk
    rw [ha] at hs
    obtain ⟨a1, a2, a3, a4⟩ := hs
    obtain ⟨h1, h2, pend2, o2, q', h3, h4, h5⟩ := ih1 a1 (.op (oOf b) :: S) (o ++ post x) q (by show YI (oOf b) < b + 1; rw [Jq hb]; omega)
    have h6 := ih2 h1 hb S o q' (pend2 ++ [.op (oOf b)]) (post x ++ o2) hS (by rw [JT, ← List.append_assoc, List.append_assoc (post x), h3]; rfl)
      ⟨fun w hw => by
        rcases List.mem_append.1 hw with h | h
        · exact h4.1 w h
        · simp only [List.mem_singleton] at h; exact .inr (.inr ⟨_, h⟩), fun k hk => ⟨(h4.2 k hk).1, fun w hw => by
        rcases List.mem_append.1 hw with h | h
        · exact ((h4.2 k hk).2 w h).imp id fun ⟨z, e1, e2⟩ => ⟨z, e1, by omega⟩
        · simp only [List.mem_singleton] at h; exact .inr ⟨_, h, by rw [Jq hb]; omega⟩⟩⟩
    refine h6.comp (by omega) fun r hr => a4 r ?_
    rw [show q1.opn = q2.opn from a2.symm]
    refine h5 r ?_
    simp only [List.append_assoc, List.cons_append, List.nil_append, uU] at hr ⊢
    exact hr
  | @impE p e _ ih =>
    intro hp S o q hS
    exact ih hp S o q (hS.up (by omega))
  | @impK p x q1 r _ _ ih1 ih2 =>
    intro hp S o q hS
    obtain ⟨h1, h2, pend, o', q', h3, h4, h5⟩ := ih1 hp S o q (hS.up (by omega))
    have h6 := ih2 x [] rfl h1 S o q' pend o' hS h3 h4
    refine h6.comp h2 ?_
    simpa [YW] using h5
  | @impsN xs q1 hk =>
    rintro x rest rfl hp S o q pend o' hS hx hG
    refine ⟨hp, rfl, pend ++ List.replicate rest.length (.op 9), YW rest ++ o', q, ?_, ⟨fun w hw => ?_, fun k hkk => ⟨?_, fun w hw => ?_⟩⟩, fun r hr => ?_⟩
    · rw [JT, nd_reps, UI, ← hx]; simp
    · rcases List.mem_append.1 hw with h | h
      · exact hG.1 w h
      · exact .inr (.inr ⟨_, List.eq_of_mem_replicate h⟩)
    · have h1 := (hG.2 k hkk).1
      have h2 : k ≠ 9 := fun e => hk ((xi hp.1).2 (by rw [hkk, e]))
      have h3 : 6 ≤ k ∧ k ≤ 10 := by have := hp.1; rw [hkk] at this; exact this
      unfold YI at h1 ⊢
      (repeat' split at h1) <;> (repeat' split) <;> omega
    · rcases List.mem_append.1 hw with h | h
      · exact ((hG.2 k hkk).2 w h).imp id fun ⟨z, e1, e2⟩ => ⟨z, e1, by omega⟩
      · exact .inr ⟨_, List.eq_of_mem_replicate h, Nat.le_refl _⟩
    · rw [uU, cn_reps] at hr
      simpa using hr
  | @impsA xs q1 e hk ha =>
    rintro x rest rfl hp S o q pend o' hS hx hG
    have hs := JV (o := o) (rest := rest) q hp hS hx hG hk
    rw [ha] at hs
    exact hs
  | @impsE xs q1 q2 e hk ha _ ih =>
    rintro x rest rfl hp S o q pend o' hS hx hG
    have hs := JV (o := o) (rest := rest) q hp hS hx hG hk
    rw [ha] at hs
    obtain ⟨a1, a2, a3, a4⟩ := hs
    have h1 := ih a1 (List.replicate (x :: rest).length (.op 9) ++ S) (o ++ YW (x :: rest)) q (by show YI 9 < 3; decide)
    refine a4 _ ?_
    rw [show q1.opn = q2.opn from a2.symm]
    exact h1
  | @impsK xs q1 q2 y q3 r hk ha _ _ ih1 ih2 =>
    rintro x rest rfl hp S o q pend o' hS hx hG
    have hs := JV (o := o) (rest := rest) q hp hS hx hG hk
    rw [ha] at hs
    obtain ⟨a1, a2, a3, a4⟩ := hs
    obtain ⟨h1, h2, pend2, o2, q', h3, h4, h5⟩ := ih1 a1 (List.replicate (x :: rest).length (.op 9) ++ S) (o ++ YW (x :: rest)) q (by show YI 9 < 3; decide)
    have h6 := ih2 y (x :: rest) rfl h1 S o q' pend2 o2 hS h3 h4
    refine h6.comp (by omega) fun r hr => a4 r ?_
    rw [show q1.opn = q2.opn from a2.symm]
    exact h5 r hr
  | @notA p e ht ha =>
    intro hp S o q hS
    have hs := Ki (text := text) (m := ⟨S, o, p.opn, p.nds⟩) (w := 0) (q := q) (x := .not) (w' := 0) (q' := q) hp rfl rfl (by rw [ht]; rfl)
    rw [ha] at hs
    exact hs
  | @notE p q1 e ht ha _ ih =>
    intro hp S o q hS
    have hs := Ki (text := text) (m := ⟨S, o, p.opn, p.nds⟩) (w := 0) (q := q) (x := .not) (w' := 0) (q' := q) hp rfl rfl (by rw [ht]; rfl)
    rw [ha] at hs
    obtain ⟨a1, a2, a3, a4⟩ := hs
    exact a4 _ (ih a1 (.not :: S) o q (stops6 _))
  | @notK p q1 x q2 ht ha _ ih =>
    intro hp S o q hS
    have hs := Ki (text := text) (m := ⟨S, o, p.opn, p.nds⟩) (w := 0) (q := q) (x := .not) (w' := 0) (q' := q) hp rfl rfl (by rw [ht]; rfl)
    rw [ha] at hs
    obtain ⟨a1, a2, a3, a4⟩ := hs
    obtain ⟨h1, h2, pend, o', q', h3, h4, h5⟩ := ih a1 (.not :: S) o q (stops6 _)
    refine ⟨h1.less 1, by dsimp only; omega, pend ++ [.not], o', q', by rw [JT, ← List.append_assoc, h3]; rfl, ⟨fun w hw => ?_, fun k hk => ⟨bnd6 k, fun w hw => ?_⟩⟩, fun r hr => a4 r (h5 r ?_)⟩
    · rcases List.mem_append.1 hw with h | h
      · exact h4.1 w h
      · simp only [List.mem_singleton] at h; exact .inl h
    · rcases List.mem_append.1 hw with h | h
      · exact (h4.2 k hk).2 w h
      · simp only [List.mem_singleton] at h; exact .inl h
    · dsimp only at hr
      rw [List.append_assoc, uU, show q2.opn - 1 + (cn pend + cn [Wt.not]) = q2.opn + cn pend by show q2.opn - 1 + (cn pend + 1) = _; omega] at hr
      exact hr
  | @quA p op e ht hv =>
    intro hp S o q hS
    have hs : yB ⟨S, o, p.opn, p.nds⟩ 0 q p.tk = .go ⟨S, o, p.opn, p.nds⟩ 3 op := by rw [ht]; rfl
    exact .go hs (uS hv S o op hp.2.2.2.1 hp.2.1 hp.2.2.1)
  | @quE p op vs q1 e ht hv _ ih =>
    intro hp S o q hS
    have hs : yB ⟨S, o, p.opn, p.nds⟩ 0 q p.tk = .go ⟨S, o, p.opn, p.nds⟩ 3 op := by rw [ht]; rfl
    obtain ⟨ns, e0, e1, e2, e3, e4⟩ := uS hv S o op hp.2.2.2.1 hp.2.1 hp.2.2.1
    have hst : Stops 1 (ns.reverse.map (Wt.quant op) ++ S) := by
      obtain ⟨n, l, hl⟩ : ∃ n l, ns.reverse = n :: l := by
        cases h : ns.reverse with
        | nil => simp at h; exact (e0 h).elim
        | cons n l => exact ⟨n, l, rfl⟩
      rw [hl]; trivial
    exact .go hs (e4 _ (ih e2 _ o op hst))
  | @quK p op vs q1 x q2 ht hv _ ih =>
    intro hp S o q hS
    have hs : yB ⟨S, o, p.opn, p.nds⟩ 0 q p.tk = .go ⟨S, o, p.opn, p.nds⟩ 3 op := by rw [ht]; rfl
    obtain ⟨ns, e0, e1, e2, e3, e4⟩ := uS hv S o op hp.2.2.2.1 hp.2.1 hp.2.2.1
    simp only [List.nil_append] at e1
    subst e1
    have hst : Stops 1 (vs.reverse.map (Wt.quant op) ++ S) := by
      obtain ⟨n, l, hl⟩ : ∃ n l, vs.reverse = n :: l := by
        cases h : vs.reverse with
        | nil => simp at h; exact (e0 h).elim
        | cons n l => exact ⟨n, l, rfl⟩
      rw [hl]; trivial
    obtain ⟨h1, h2, pend, o', q', h3, h4, h5⟩ := ih e2 _ o op hst
    refine ⟨h1.less _, by dsimp only; omega, pend ++ vs.reverse.map (Wt.quant op), o', q', by rw [JT, ← List.append_assoc, h3, Xs], ⟨fun w hw => ?_, fun k hk => (h4.noop k hk).elim⟩, fun r hr => .go hs (e4 r (h5 r ?_))⟩
    · rcases List.mem_append.1 hw with h | h
      · exact h4.1 w h
      · obtain ⟨n, _, rfl⟩ := List.mem_map.1 h
        exact .inr (.inl ⟨_, _, rfl⟩)
    · dsimp only at hr
      have hc : cn (vs.reverse.map (Wt.quant op)) = vs.length := by rw [cn_quants, List.length_reverse]
      rw [List.append_assoc, uU, hc, show q2.opn - vs.length + (cn pend + vs.length) = q2.opn + cn pend by omega] at hr
      exact hr
  | @cst p n ht =>
    intro hp S o q hS
    have hs := jp (text := text) (m := ⟨S, o, p.opn, p.nds⟩) (w := 0) (q := q) (w' := 1) (q' := q) (g := fun m => ⟨m.st, m.out ++ [(1, n)], m.opn, m.nds⟩) hp rfl (by rw [ht]; rfl)
    cases ha : yu (yD p) (yV text) with
    | inl e => rw [ha] at hs; exact hs
    | inr q1 =>
      rw [ha] at hs
      obtain ⟨a1, a2, a3, a4⟩ := hs
      refine ⟨a1, a2, [], [(1, n)], q, rfl, .nil fun k _ => bnd6 k, fun r hr => a4 r ?_⟩
      dsimp only
      rw [show p.opn = q1.opn from a2.symm]
      exact hr
  | @var p n ht =>
    intro hp S o q hS
    have hs := jp (text := text) (m := ⟨S, o, p.opn, p.nds⟩) (w := 0) (q := q) (w' := 1) (q' := q) (g := fun m => ⟨m.st, m.out ++ [(2, n)], m.opn, m.nds⟩) hp rfl (by rw [ht]; rfl)
    cases ha : yu (yD p) (yV text) with
    | inl e => rw [ha] at hs; exact hs
    | inr q1 =>
      rw [ha] at hs
      obtain ⟨a1, a2, a3, a4⟩ := hs
      refine ⟨a1, a2, [], [(2, n)], q, rfl, .nil fun k _ => bnd6 k, fun r hr => a4 r ?_⟩
      dsimp only
      rw [show p.opn = q1.opn from a2.symm]
      exact hr
  | @opnA p e ht ha =>
    intro hp S o q hS
    have hs := Jj (text := text) (m := ⟨S, o, p.opn, p.nds⟩) (w := 0) (q := q) (x := .opn) (w' := 0) (q' := q) hp rfl (by rw [ht]; rfl)
    rw [ha] at hs
    exact hs
  | @opnE p q1 e ht ha _ ih =>
    intro hp S o q hS
    have hs := Jj (text := text) (m := ⟨S, o, p.opn, p.nds⟩) (w := 0) (q := q) (x := .opn) (w' := 0) (q' := q) hp rfl (by rw [ht]; rfl)
    rw [ha] at hs
    obtain ⟨a1, a2, a3, a4⟩ := hs
    refine a4 _ ?_
    dsimp only
    rw [show p.nds = q1.nds from a3.symm]
    exact ih a1 (.opn :: S) o q trivial
  | @opnK p q1 x q2 ht ha _ ih =>
    intro hp S o q hS
    have hs := Jj (text := text) (m := ⟨S, o, p.opn, p.nds⟩) (w := 0) (q := q) (x := .opn) (w' := 0) (q' := q) hp rfl (by rw [ht]; rfl)
    rw [ha] at hs
    obtain ⟨a1, a2, a3, a4⟩ := hs
    obtain ⟨h1, h2, pend, o', q', h3, h4, h5⟩ := ih a1 (.opn :: S) o q trivial
    have hc := XV (S := S) (o := o) (k := p.opn) q' h1 h3 h4 (by omega)
    have hgo : ∀ r, MRun text ⟨pend ++ .opn :: S, o ++ o', q2.opn + cn pend, q2.nds⟩ 1 q' (KK q2) r → MRun text ⟨S, o, p.opn, p.nds⟩ 0 q (KK p) r := fun r hr => a4 r (by
      dsimp only
      rw [show p.nds = q1.nds from a3.symm]
      exact h5 r hr)
    cases hn : yU text 10 q2 with
    | inl e => rw [hn] at hc; exact hgo _ hc
    | inr q3 =>
      rw [hn] at hc
      obtain ⟨b1, b2, b3, b4⟩ := hc
      refine ⟨b1.less 1, by dsimp only; omega, [], post x, q', by simp [nd], .nil fun k _ => bnd6 k, fun r hr => hgo r (b4 r ?_)⟩
      dsimp only at hr ⊢
      rw [show q3.opn - 1 + cn [] = p.opn by show q3.opn - 1 + 0 = _; omega, show q3.nds = q2.nds from b3] at hr
      exact hr
  | @iteA p e ht ha =>
    intro hp S o q hS
    have hs := KI S o q hp ht
    rw [ha] at hs
    exact hs
  | @iteC p q0 e ht ha _ ih =>
    intro hp S o q hS
    have hs := KI S o q hp ht
    rw [ha] at hs
    obtain ⟨a1, a2, a3, a4⟩ := hs
    exact a4 _ (ih a1 (.ite 0 :: S) o q trivial)
  | @iteD p q0 c q1 e ht ha _ hn ih =>
    intro hp S o q hS
    have hs := KI S o q hp ht
    rw [ha] at hs
    obtain ⟨a1, a2, a3, a4⟩ := hs
    obtain ⟨h1, h2, pend, o', q', h3, h4, h5⟩ := ih a1 (.ite 0 :: S) o q trivial
    have hc := kG (S := S) (o := o) q' (n := 0) (by omega) h1 h3 h4
    rw [hn] at hc
    exact a4 _ (h5 _ hc)
  | @iteE p q0 c q1 q2 e ht ha _ hn _ ih ih2 =>
    intro hp S o q hS
    have hs := KI S o q hp ht
    rw [ha] at hs
    obtain ⟨a1, a2, a3, a4⟩ := hs
    obtain ⟨h1, h2, pend, o', q', h3, h4, h5⟩ := ih a1 (.ite 0 :: S) o q trivial
    have hc := kG (S := S) (o := o) q' (n := 0) (by omega) h1 h3 h4
    rw [hn] at hc
    obtain ⟨b1, b2, b3, b4⟩ := hc
    refine a4 _ (h5 _ (b4 _ ?_))
    have := ih2 b1 (.ite 1 :: S) (o ++ post c) q' trivial
    dsimp only
    rw [show q1.opn = q2.opn from b2.symm, show q1.nds = q2.nds from b3.symm]
    exact this
  | @iteF p q0 c q1 q2 a q3 e ht ha _ hn _ hn2 ih ih2 =>
    intro hp S o q hS
    have hs := KI S o q hp ht
    rw [ha] at hs
    obtain ⟨a1, a2, a3, a4⟩ := hs
    obtain ⟨h1, h2, pend, o', q', h3, h4, h5⟩ := ih a1 (.ite 0 :: S) o q trivial
    have hc := kG (S := S) (o := o) q' (n := 0) (by omega) h1 h3 h4
    rw [hn] at hc
    obtain ⟨b1, b2, b3, b4⟩ := hc
    refine a4 _ (h5 _ (b4 _ ?_))
    obtain ⟨i1, i2, pend2, o2, q'', i3, i4, i5⟩ := ih2 b1 (.ite 1 :: S) (o ++ post c) q' trivial
    dsimp only
    rw [show q1.opn = q2.opn from b2.symm, show q1.nds = q2.nds from b3.symm]
    refine i5 _ ?_
    have hc2 := kG (S := S) (o := o ++ post c) q'' (n := 1) (by omega) i1 i3 i4
    rw [hn2] at hc2
    exact hc2
  | @iteG p q0 c q1 q2 a q3 q4 e ht ha _ hn _ hn2 _ ih ih2 ih3 =>
    intro hp S o q hS
    have hs := KI S o q hp ht
    rw [ha] at hs
    obtain ⟨a1, a2, a3, a4⟩ := hs
    obtain ⟨h1, h2, pend, o', q', h3, h4, h5⟩ := ih a1 (.ite 0 :: S) o q trivial
    have hc := kG (S := S) (o := o) q' (n := 0) (by omega) h1 h3 h4
    rw [hn] at hc
    obtain ⟨b1, b2, b3, b4⟩ := hc
    refine a4 _ (h5 _ (b4 _ ?_))
    obtain ⟨i1, i2, pend2, o2, q'', i3, i4, i5⟩ := ih2 b1 (.ite 1 :: S) (o ++ post c) q' trivial
    dsimp only
    rw [show q1.opn = q2.opn from b2.symm, show q1.nds = q2.nds from b3.symm]
    refine i5 _ ?_
    have hc2 := kG (S := S) (o := o ++ post c) q'' (n := 1) (by omega) i1 i3 i4
    rw [hn2] at hc2
    obtain ⟨c1, c2, c3, c4⟩ := hc2
    refine c4 _ ?_
    have := ih3 c1 (.ite 2 :: S) (o ++ post c ++ post a) q'' trivial
    dsimp only
    rw [show q3.opn = q4.opn from c2.symm, show q3.nds = q4.nds from c3.symm]
    exact this
  | @iteK p q0 c q1 q2 a q3 q4 b q5 ht ha _ hn _ hn2 _ ih ih2 ih3 =>
    intro hp S o q hS
    have hs := KI S o q hp ht
    rw [ha] at hs
    obtain ⟨a1, a2, a3, a4⟩ := hs
    obtain ⟨h1, h2, pend, o', q', h3, h4, h5⟩ := ih a1 (.ite 0 :: S) o q trivial
    have hc := kG (S := S) (o := o) q' (n := 0) (by omega) h1 h3 h4
    rw [hn] at hc
    obtain ⟨b1, b2, b3, b4⟩ := hc
    obtain ⟨i1, i2, pend2, o2, q'', i3, i4, i5⟩ := ih2 b1 (.ite 1 :: S) (o ++ post c) q' trivial
    have hc2 := kG (S := S) (o := o ++ post c) q'' (n := 1) (by omega) i1 i3 i4
    rw [hn2] at hc2
    obtain ⟨c1, c2, c3, c4⟩ := hc2
    obtain ⟨j1, j2, pend3, o3, q3', j3, j4, j5⟩ := ih3 c1 (.ite 2 :: S) (o ++ post c ++ post a) q'' trivial
    have hce := Xu (S := S) (o := o ++ post c ++ post a) (k := p.opn) q3' j1 j3 j4 (by omega)
    have hgo : ∀ r, MRun text ⟨pend3 ++ .ite 2 :: S, o ++ post c ++ post a ++ o3, q5.opn + cn pend3, q5.nds⟩ 1 q3' (KK q5) r → MRun text ⟨S, o, p.opn, p.nds⟩ 0 q (KK p) r := by
      intro r hr
      refine a4 _ (h5 _ (b4 _ ?_))
      dsimp only
      rw [show q1.opn = q2.opn from b2.symm, show q1.nds = q2.nds from b3.symm]
      refine i5 _ (c4 _ ?_)
      dsimp only
      rw [show q3.opn = q4.opn from c2.symm, show q3.nds = q4.nds from c3.symm]
      exact j5 r hr
    cases hn3 : yU text 10 q5 with
    | inl e => rw [hn3] at hce; exact hgo _ hce
    | inr q6 =>
      rw [hn3] at hce
      obtain ⟨d1, d2, d3, d4⟩ := hce
      refine ⟨d1.less 1, by dsimp only; omega, [], post c ++ post a ++ post b ++ [(11, 0)], q3', by simp [nd, post], .nil fun k _ => bnd6 k, fun r hr => hgo r (d4 r ?_)⟩
      dsimp only at hr ⊢
      rw [show q6.opn - 1 + cn [] = p.opn by show q6.opn - 1 + 0 = _; omega, show q6.nds = q5.nds from d3] at hr
      simp only [List.append_assoc] at hr ⊢
      exact hr
  | @else_ p h1 h2 h3 h4 =>
    intro hp S o q hS
    refine KO ?_
    have h5 := hp.1
    have h6 := h1 p.tk (by simp)
    generalize p.tk = tk at *
    cases tk with
    | bad => exact h5.elim
    | const n => exact (h2 _ rfl).elim
    | var n => exact (h3 _ rfl).elim
    | quant n => exact (h4 _ rfl).elim
    | not => exact (h6.1 rfl).elim
    | opn => exact (h6.2.1 rfl).elim
    | ite => exact (h6.2.2 rfl).elim
    | _ => rfl
end
section
open Go Go.RowKit Go.SL Go.ClauseP Go.LexP

def p00 : Ps := ⟨.fin, 0, 0, 0, 0⟩
def m00 : MS := ⟨[], [], 0, 0⟩
def Ux (text : List UInt8) : Rt → (Int × Nat) ⊕ T
  | .inl e => .inl e
  | .inr (x, q) => match yU text 0 q with
    | .inl e => .inl e
    | .inr _ => .inr x
def kr (text : List UInt8) (r : (Int × Nat) ⊕ T) : Prop := match yV text p00 with
  | .inl e => r = .inl e
  | .inr p => ∃ r1, RD text (.lvl 1) p r1 ∧ r = Ux text r1
def ut : (Int × Nat) ⊕ T → Ans
  | .inl e => .inl e
  | .inr x => .inr (post x)
theorem end_run {text : List UInt8} {q : Ps} {pend : List Wt} {o' : List (Int × Int)} {x : T} (k : Nat) (q' : Int) (hq : Ok text q) (hx : o' ++ nd pend = post x) (hG : Good 1 q.tk pend) :
    MRun text ⟨pend ++ [], [] ++ o', k + cn pend, q.nds⟩ 1 q' (KK q) (ut (Ux text (.inr (x, q)))) := by
  have hi : Yd (pend ++ []) ([] ++ o') (k + cn pend) = ([], post x, k) := by
    rw [ki pend _ _ _ hG.1, List.append_assoc, hx]; rfl
  simp only [Ux, yU]
  by_cases hk : knd q = 0
  · have ht := (gW hq.1).1 hk
    have hf := hq.2.2.2.2 ht
    have ha : yV text q = .inr ⟨.fin, text.length, text.length, q.opn, q.nds⟩ := by
      unfold yV; rw [hf, nextT_end]
    rw [if_pos hk, ha]
    refine .done ?_
    show yB _ _ _ q.tk = _
    rw [ht]
    simp only [yB, if_true]
    rw [hi]; rfl
  · rw [if_neg hk]
    refine KO ?_
    have h' : q.tk ≠ .fin := fun e => hk ((gW hq.1).2 e)
    have h1 := hq.1
    have h2 := hG.noop
    generalize q.tk = tk at *
    cases tk with
    | fin => exact (h' rfl).elim
    | bad => exact h1.elim
    | op o => exact (h2 _ rfl).elim
    | comma => simp only [yB, if_true]; rw [hi]; rfl
    | cls => simp only [yB, if_true]; rw [hi]; rfl
    | _ => rfl
theorem kR {text : List UInt8} {r : (Int × Nat) ⊕ T} (h : kr text r) : MRun text m00 0 0 (yS text 0) (ut r) := by
  unfold kr at h
  cases ha : yV text p00 with
  | inl e =>
    rw [ha] at h
    have h : r = .inl e := h
    subst h
    exact jK ha _ _ _
  | inr p =>
    rw [ha] at h
    obtain ⟨r1, hrd, rfl⟩ := h
    have hp := KS (p := p00) (Nat.zero_le _) (Nat.zero_le _) (Nat.zero_le _) ha
    obtain ⟨h1, h2, h3, _⟩ := uv ha
    have hl := law hrd hp [] [] 0 trivial
    have e0 : p.opn = 0 := h2
    have e1 : p.nds = 0 := h3
    rw [e0, e1] at hl
    have e2 : yS text 0 = KK p := h1.symm
    rw [e2]
    rcases r1 with e | ⟨x, q⟩
    · exact hl
    · obtain ⟨k1, k2, pend, o', q', k3, k4, k5⟩ := hl
      exact k5 _ (end_run q.opn q' k1 k3 k4)
theorem MRun.place {text : List UInt8} {m : MS} {w q : Int} {t : TokR} {r : Ans} (h : MRun text m w q t r) : t.at_ ≤ text.length → t.fin ≤ text.length → ∀ e a, r = .inl (e, a) → a ≤ text.length := by
  induction h with
  | err h => intro h1 _ e a he; injection he with he; injection he with _ he; rw [← he]; exact h1
  | done h => intro _ _ e a he; cases he
  | @go m w q t m' w' q' r hs _ ih =>
    intro _ h2
    refine ih ?_ (Jp text t.fin h2)
    have h3 := jb text t.fin h2
    unfold yS
    split
    · exact Nat.le_refl _
    · exact h3
theorem ul {text : List UInt8} {r : Ans} (h : MRun text m00 0 0 (yS text 0) r) {e : Int} {a : Nat} (he : r = .inl (e, a)) : a ≤ text.length := by
  refine h.place ?_ (Jp text 0 (Nat.zero_le _)) e a he
  have h3 := jb text 0 (Nat.zero_le _)
  unfold yS
  split
  · exact Nat.le_refl _
  · exact h3
end
section
set_option maxRecDepth 20000
open Go Go.RowKit Go.SL Go.ClauseP Go.LexP

def fnQ (text : List UInt8) (w0 : World) (R : List HP) (e : Ending) (w' : World) : Ans → Prop
  | .inr out => ∃ (ad : Option Addr) (cap : Nat), e = .returned (.tuple #[.slice ad out.length cap, .agg #[.int .i64 0, .int .i64 0, .int .i64 0]]) ∧ Sat w0 w' (own 50 2 ad out.length cap (Fs out) :: R)
  | .inl (c, a) => e = .returned (.tuple #[.slice none 0 0, .agg #[.int .i64 c, .int .i64 (Yf text a).1, .int .i64 (Yf text a).2]]) ∧ Sat w0 w' R
theorem parse_of {text : List UInt8} {r' : Rt} {r1 : Rp} (h1 : yV text p00 = r1) (h : jv text (.lvl 1) r1 r') : kr text (Ux text r') ∧ (∀ e, yu (rpR r') (yU text 0) = .inl e → Ux text r' = .inl e) ∧ ∀ q, yu (rpR r') (yU text 0) = .inr q → ∃ x q0, r' = .inr (x, q0) ∧ Ux text r' = .inr x := by
  have hp : kr text (Ux text r') := by
    unfold kr
    rw [h1]
    cases r1 with
    | inl e =>
      have h : r' = .inl e := h
      rw [h]; rfl
    | inr p => exact ⟨r', h, rfl⟩
  refine ⟨hp, ?_⟩
  rcases r' with e | ⟨x, q⟩
  · exact ⟨fun e' he => (by injection he with he; rw [he]; rfl), fun q hq => (nomatch hq)⟩
  · refine ⟨fun e' he => ?_, fun q' hq => ⟨x, q, rfl, ?_⟩⟩
    · have he : yU text 0 q = .inl e' := he
      simp only [Ux, he]
    · have hq : yU text 0 q = .inr q' := hq
      simp only [Ux, hq]
theorem yH {P : Program} {w : World} {fn : Func} {t t' : Tmp} {T : TypeId} (h : fn.results = #[.tmp t, .cell t' T]) {tmps : Array Value} {ad : Addr} {v v' : Value} (hp : tmps.getD t undef = v) (hp' : tmps.getD t' undef = .pointer (some ad)) (hl : (loadVar T ad).run P w = .ok v' w) :
    (results fn tmps).run P w = .ok (.tuple #[v, v']) w := by
  rw [Array.getD_eq_getD_getElem?] at hp hp'
  simp [results, h, hp, hp', asAddr, hl]
theorem nds_of {w0 w : World} {R : List HP} {B : Nat} {text : List UInt8} {lo hi : Nat} {r : Rp} (h : aftN w0 w R B text lo hi r) : ∀ q, r = .inr q → q.nds ≤ 65536 := by
  rintro q rfl
  exact h.1.2.1
theorem meas_le (text : List UInt8) (p : Ps) : meas text p ≤ text.length + 1 := by unfold meas; split <;> omega
set_option maxHeartbeats 4000000 in
theorem parseL (text : List UInt8) (ht : text.length ≤ 140737488351232) (hlong : 1048576 < text.length) (w0 w : World) (R : List HP) (hS : Sat w0 w R) :
    Calls Tryz.prog 15 #[.string ⟨text.toArray⟩] w fun e w' => e = .returned (.tuple #[.slice none 0 0, .agg #[.int .i64 5, .int .i64 0, .int .i64 0]]) ∧ Sat w0 w' R := by
  have hli : (1048576 : Int) < (text.length : Int) := by omega
  clear hlong
  go_enter Tryz.func15, Tryz.ntmps15
  go_wp2_with (first|((with_reducible apply yl hS);exact ya;exact z31;clear hS;intro NB w hS;(try simp only [Act.put,q1,q2,q3]))|((with_reducible apply yk hS);exact ya;exact yb rfl;exact yb rfl;exact yf;rfl;(focus (simp;done));exact Upd.hd;rfl;exact sz31;rfl;clear hS;intro w hS;(try simp only [yo, q2, q3] at hS);(try simp only [Act.put,q1,q2,q3])))
  refine bodyPost_ret (yH rfl rfl rfl (hS.loadWhole (by (exact yf)) (by kernel_rfl) (by kernel_rfl))) rfl ?_
  exact ⟨rfl, hS.sb (by (repeat (with_reducible first | exact Sb.refl | apply Sb.skip)))⟩
set_option maxHeartbeats 8000000 in
theorem xj (text : List UInt8) (hl : text.length ≤ 1048576) (w0 w : World) (hSig : kZ w0) (R : List HP) (hbm : YT w0 ∈ R) (hS : Sat w0 w R) :
    Calls Tryz.prog 15 #[.string ⟨text.toArray⟩] w fun e w' => ∃ r, kr text r ∧ fnQ text w0 R e w' (ut r) := by
  have hli : (text.length : Int) ≤ 1048576 := by omega
  have AX := fun B w R hm h => Xf B text hl 0 (.inr p00) w0 w hSig R hm h
  have LX := fun B r w R H hm hq h => lvX text _ 1 _ (formulaX text hl (text.length + 1)) (jQ text) B 0 r w0 w hSig R H hm hq h
  have NX := fun B r w R hm h => gS B text hl 0 0 r w0 w hSig R hm h
  have hp0 : PsB text p00 := ⟨Nat.zero_le _, Nat.zero_le _, Nat.zero_le _, trivial⟩
  replace hS := hS.fzNil
  go_enter Tryz.func15, Tryz.ntmps15
  go_wp2_with (first|((with_reducible apply yY hS);exact ya;exact yb rfl;exact yt;clear hS;intro PB w hS;(try simp only [Act.put,q1,q2,q3]))|((with_reducible apply yl hS);exact ya;exact z31;clear hS;intro FB w hS;(try simp only [Act.put,q1,q2,q3])))
  have hS1 : Sat w0 w (blk PB 82 (alV text p00) :: fz (fun _ => none) :: blk FB 31 [.int .i64 0, .int .i64 0, .int .i64 0] :: R) := hS.sb (by unfold alV psV p00; simp only [Yk, Int.natCast_zero]; (repeat (first | with_reducible exact Sb.refl | (with_reducible refine Sb.take (by (repeat (with_reducible first | exact Rem.hd | apply Rem.tl)); done) ?_))))
  refine (AX PB _ _ (by ((repeat (with_reducible apply ye)); (try assumption))) ⟨hp0, rfl, hS1⟩).mono ?_
  clear hS hS1
  rintro e w ⟨rfl, hA⟩
  go_wp2_with fail
  refine (LX PB _ _ _ _ (by ((repeat (with_reducible apply ye)); (try assumption))) (fun q _ => meas_le text q) hA).mono ?_
  clear hA
  rintro e w ⟨v1, rfl, r1, H1, hth1, hx1, hv1, htr1, hA⟩
  have hnd := nds_of hA
  go_wp2_with fail
  refine (NX PB _ _ _ (by ((repeat (with_reducible apply ye)); (try assumption))) hA).mono ?_
  clear hA
  rintro e w ⟨rfl, hA⟩
  obtain ⟨z1, z2, z3⟩ := parse_of rfl hth1
  have hth0 := hth1
  clear hth1
  cases hr : yu (rpR r1) (yU text 0) with
  | inl x =>
    obtain ⟨d, a⟩ := x
    have hen := z2 (d, a) hr
    rw [hr] at hA
    rw [hen] at z1
    have hpl := ul (kR z1) (e := d) (a := a) rfl
    obtain ⟨h0, k, n, tat, te, fin, o, nd, h1, h2, h3, h4, hS⟩ := kN hA
    have hd3 : (d != 0) = true := by simpa using h0
    have PL := fun w Hs hS => placeC text a hpl hl w0 w Hs hS
    have Z1 := hid z1
    clear hA z1 z2 z3 hen hr htr1 hth0 hnd
    generalize hsp : Yf text a = sp at *
    obtain ⟨l, c⟩ := sp
    dsimp only at PL
    have HSP := hid hsp
    clear hsp
    go_wp2_with (first|((with_reducible apply Cont.intro);(first|(focus (apply Or.inr;apply (Sat.sb hS);(repeat (first|with_reducible exact Sb.refl|(with_reducible refine Sb.take (by (repeat (with_reducible first|exact Rem.hd|apply Rem.tl));done) ?_)|with_reducible apply Sb.skip));done))|(exact Or.inl (by kernel_rfl)));intro hR hC)|((first|((with_reducible apply yc (i := 0));(simp only [q4,q6,q5];with_reducible rfl);kernel_rfl;kernel_rfl;decide +kernel;rfl;exact hC;exact (fun _ _ _ h => h);exact hR;with_reducible exact ya)|((with_reducible apply yc (i := 1));(simp only [q4,q6,q5];with_reducible rfl);kernel_rfl;kernel_rfl;decide +kernel;rfl;exact hC;exact (fun _ _ _ h => h);exact hR;with_reducible exact ya)|((with_reducible apply yc (i := 4));(simp only [q4,q6,q5];with_reducible rfl);kernel_rfl;kernel_rfl;decide +kernel;rfl;exact hC;exact (fun _ _ _ h => h);exact hR;with_reducible exact ya)|((with_reducible apply yc (i := 5));(simp only [q4,q6,q5];with_reducible rfl);kernel_rfl;kernel_rfl;decide +kernel;rfl;exact hC;exact (fun _ _ _ h => h);exact hR;with_reducible exact ya)|((with_reducible apply yc (i := 6));(simp only [q4,q6,q5];with_reducible rfl);kernel_rfl;kernel_rfl;decide +kernel;rfl;exact hC;exact (fun _ _ _ h => h);exact hR;with_reducible exact ya)|((with_reducible apply yc (i := 10));(simp only [q4,q6,q5];with_reducible rfl);kernel_rfl;kernel_rfl;decide +kernel;rfl;exact hC;exact (fun _ _ _ h => h);exact hR;with_reducible exact ya)|((with_reducible apply yc (i := 11));(simp only [q4,q6,q5];with_reducible rfl);kernel_rfl;kernel_rfl;decide +kernel;rfl;exact hC;exact (fun _ _ _ h => h);exact hR;with_reducible exact ya));(intro w;first|(go_simp;done)|(go_simp;rw [yw (by omega) (by omega)])|(go_simp;with_reducible rfl)|(go_simp;rfl));(clear hR hC;intro hR hC);(try simp only [Act.put,q1,q2,q3]))|((first|((with_reducible apply yc (i := 2));(simp only [q4,q6,q5];with_reducible rfl);kernel_rfl;kernel_rfl;decide +kernel;rfl;exact hC;exact (fun _ _ _ h => h);exact hR;with_reducible exact ya)|((with_reducible apply yc (i := 7));(simp only [q4,q6,q5];with_reducible rfl);kernel_rfl;kernel_rfl;decide +kernel;rfl;exact hC;exact (fun _ _ _ h => h);exact hR;with_reducible exact ya));(intro w;first|(exact yX rfl (by (exact yh)) (by assumption) (by with_reducible exact fo82_6))|(go_simp;done)|(go_simp;rw [yw (by omega) (by omega)])|(go_simp;with_reducible rfl)|(go_simp;rfl));(clear hR hC;intro hR hC);(try simp only [Act.put,q1,q2,q3]))|((first|((with_reducible apply yj (i := 3));(simp only [q4,q6,q5];with_reducible rfl);kernel_rfl;kernel_rfl;decide +kernel;kernel_rfl;rfl;exact hC;exact (fun _ _ _ h => h);exact hR;kernel_rfl;with_reducible exact ya)|((with_reducible apply yj (i := 8));(simp only [q4,q6,q5];with_reducible rfl);kernel_rfl;kernel_rfl;decide +kernel;kernel_rfl;rfl;exact hC;exact (fun _ _ _ h => h);exact hR;kernel_rfl;with_reducible exact ya));(intro w hS;(apply ym rfl (by (exact yb rfl)));first|exact yd (by decide +kernel) (hS.cell (by (exact yf)) rfl)|exact yd (by decide +kernel) ((hS.ownCell (by (repeat (with_reducible apply ye))) (by (rfl))).1)|exact yd (by decide +kernel) (Sat.rdCell2 (by assumption) hS (by ((repeat (with_reducible apply ye)));try assumption) (by (rfl)))|exact yd (by decide +kernel) (hS.baseCell (by ((repeat (with_reducible apply ye)));try assumption) (by assumption))|exact yd (by decide +kernel) (fzC (by assumption) hS (by ((repeat (with_reducible apply ye)));try assumption))|exact yp hS (by assumption) (by ((repeat (with_reducible apply ye)));try assumption) (by assumption) (by rfl) (by with_reducible exact sz82) (by decide +kernel) (by decide)|exact hS.loadWhole (by (repeat (with_reducible apply ye))) (by kernel_rfl) (by kernel_rfl));(clear hR hC;intro hR hC);(try simp only [Act.put,q1,q2,q3]))|((with_reducible apply yn (i := 9));(simp only [q4,q6,q5];with_reducible rfl);decide +kernel;exact hC;clear hR hC)|((with_reducible apply yn (i := 12));(simp only [q4,q6,q5];with_reducible rfl);decide +kernel;exact hC;clear hR hC)|((with_reducible apply yq);decide +kernel;clear hR hC)|(refine yz 8 13 hS (by kernel_rfl) [12] rfl ?_;clear hS;intro w hS hR hC)|((with_reducible apply yi hS);exact ya;exact yb rfl;exact yf;rfl;decide +kernel;(try simp only [Act.put,q1,q2,q3]))|((with_reducible apply yk hS);exact ya;exact yb rfl;exact yb rfl;(repeat (with_reducible first|exact yf|apply ye));rfl;(focus (simp;done));(repeat (with_reducible first|exact Upd.hd|apply Upd.tl));rfl;exact sz31;rfl;clear hS;intro w hS;(try simp only [yo, q2, q3] at hS);(try simp only [Act.put,q1,q2,q3]))|(go_at_call 40;refine (PL _ _ hS).mono ?_;clear hS;rintro e w ⟨rfl, hS⟩))
    refine bodyPost_ret (yH rfl rfl rfl (hS.loadWhole (by (repeat (with_reducible first | exact yf | apply ye))) (by kernel_rfl) (by kernel_rfl))) rfl ?_
    exact ⟨.inl (d, a), Z1.out, by rw [HSP.out]; rfl, hS.sb (by (repeat (with_reducible first | exact Sb.refl | apply Sb.skip)))⟩
  | inr q =>
    obtain ⟨x, q0, rfl, hen⟩ := z3 q hr
    rw [hr] at hA
    obtain ⟨u1, u2, u3, u4⟩ := htr1 x q0 rfl
    have hsx : size x ≤ 65536 := by
      have h1 := hnd q0 rfl
      obtain ⟨p1, hp1⟩ : ∃ p1, yV text p00 = .inr p1 := by
        cases h : yV text p00 with
        | inl e => rw [show yu (.inr p00) (yV text) = .inl e from h] at hth0; cases hth0
        | inr p1 => exact ⟨p1, rfl⟩
      have h2 := (u4 p1 hp1).2
      omega
    rw [hen] at z1
    obtain ⟨k, n, tat, te, fin, o, nd, d, a, c1, c2, c3, c4, hlk, hqq, hS⟩ := hA.cells
    obtain ⟨_, rfl⟩ := hlk
    have LM := fun w R hS hm => uh x none 0 0 [] v1 H1 w0 w R hS hm u2 (by omega)
    simp only [Nat.zero_add, List.nil_append] at LM
    have Z1 := hid z1
    have hS2 := hS.ownNil 50 2
    clear hA z1 z2 z3 hen hr htr1 hS hnd hth0 u4 hqq u1
    have hS := hS2
    clear hS2
    go_wp2_with (first|((with_reducible apply yi hS);exact ya;exact yb rfl;(repeat (with_reducible first|exact yf|apply ye));rfl;decide +kernel;(try simp only [Act.put,q1,q2,q3]))|((with_reducible apply yk hS);exact ya;exact yb rfl;exact yb rfl;(repeat (with_reducible first|exact yf|apply ye));rfl;(focus (simp;done));(repeat (with_reducible first|exact Upd.hd|apply Upd.tl));rfl;exact sz31;rfl;clear hS;intro w hS;(try simp only [yo, q2, q3] at hS);(try simp only [Act.put,q1,q2,q3]))|(go_at_call 41;refine (LM _ _ hS (by (repeat (with_reducible first|exact yf|apply ye)))).mono ?_;clear hS;rintro e w ⟨ad1, cap1, rfl, hS⟩))
    refine bodyPost_ret (yH rfl rfl rfl (hS.loadWhole (by (repeat (with_reducible first | exact yf | apply ye))) (by kernel_rfl) (by kernel_rfl))) rfl ?_
    refine ⟨.inr x, Z1.out, ad1, cap1, ?_, ?_⟩
    · simp only [ut, YS]; rfl
    · simp only [ut, YS]; exact hS.sb (by (repeat (first | with_reducible exact Sb.refl | (with_reducible refine Sb.take (by (repeat (with_reducible first | exact Rem.hd | apply Rem.tl)); done) ?_) | with_reducible apply Sb.skip)))
end
section
set_option maxRecDepth 20000
open Go Go.RowKit Go.SL Go.ClauseP Go.LexP

def YB : Tk → Int × Int
  | .fin => (0, 0)
  | .bad e => (1, e)
  | .const n => (2, n)
  | .var n => (3, n)
  | .not => (4, 0)
  | .quant o => (5, o)
  | .ite => (6, 131)
  | .op o => (7, o)
  | .opn => (8, 0)
  | .cls => (9, 0)
  | .comma => (10, 0)
  | .colon => (11, 0)
def tokFV (t : Tk) (a e : Int) : Value := .agg #[.int .i64 (YB t).1, .int .i64 (YB t).2, .int .i64 a, .int .i64 e]
theorem letterWR (f : Nat) (n : Int) (b : Bool) (h : b = true ↔ ((97 ≤ n ∧ n ≤ 122) ∨ (65 ≤ n ∧ n ≤ 90))) (w0 w : World) (Hs : List HP) (hS : Sat w0 w Hs) : Calls Tryz.prog 86 #[.int .u8 n] w fun e w' => e = .returned (.bool b) ∧ Sat w0 w' Hs := by
  by_cases h1 : 97 ≤ n
  · by_cases h2 : n ≤ 122
    · obtain rfl : b = true := h.2 (.inl ⟨h1, h2⟩)
      clear h
      go_enter Tryz.func86, Tryz.ntmps86
      go_wp2
      go_ret
      exact ⟨rfl, hS⟩
    · obtain rfl : b = false := by cases b with | false => rfl | true => have := h.1 rfl; omega
      have d2 : decide (n ≤ 122) = false := decide_eq_false h2
      have d3 : (65 : Int) ≤ n := by omega
      have d4 : decide (n ≤ 90) = false := decide_eq_false (by omega)
      clear h h2
      go_enter Tryz.func86, Tryz.ntmps86
      go_wp2
      go_ret
      exact ⟨rfl, hS⟩
  · have d1 : decide (97 ≤ n) = false := decide_eq_false h1
    by_cases h3 : 65 ≤ n
    · by_cases h4 : n ≤ 90
      · obtain rfl : b = true := h.2 (.inr ⟨h3, h4⟩)
        clear h h1
        go_enter Tryz.func86, Tryz.ntmps86
        go_wp2
        go_ret
        exact ⟨rfl, hS⟩
      · obtain rfl : b = false := by cases b with | false => rfl | true => have := h.1 rfl; omega
        have d4 : decide (n ≤ 90) = false := decide_eq_false h4
        clear h h1 h4
        go_enter Tryz.func86, Tryz.ntmps86
        go_wp2
        go_ret
        exact ⟨rfl, hS⟩
    · obtain rfl : b = false := by cases b with | false => rfl | true => have := h.1 rfl; omega
      have d3 : decide (65 ≤ n) = false := decide_eq_false h3
      clear h h1 h3
      go_enter Tryz.func86, Tryz.ntmps86
      go_wp2
      go_ret
      exact ⟨rfl, hS⟩
theorem xE (c : UInt8) (w0 w : World) (Hs : List HP) (hS : Sat w0 w Hs) : Calls Tryz.prog 86 #[.int .u8 c.toNat] w fun e w' => e = .returned (.bool (kK c)) ∧ Sat w0 w' Hs := letterWR 0 _ _ (uZ c) w0 w Hs hS
theorem let_dig {c : UInt8} (h : kK c = true) : Yn c = false := by
  obtain ⟨h1, _⟩ := Ju c
  have h2 := h1 h
  simp only [Yn, Bool.and_eq_false_iff, decide_eq_false_iff_not, UInt8.le_iff_toNat_le]
  have h3 : (57 : UInt8).toNat = 57 := rfl
  have h4 : (48 : UInt8).toNat = 48 := rfl
  omega
set_option maxHeartbeats 1000000 in
theorem wordR (s : List UInt8) (h0 : s ≠ []) (hs : s.length ≤ 1048576) (hld : ∀ c ∈ s, ldP c = true) (a : Nat) (ha : a ≤ 1048576) (w0 w : World) (Hs : List HP) (hS : Sat w0 w Hs) :
    Calls Tryz.prog 88 #[.string ⟨s.toArray⟩, .int .i64 a] w fun e w' => e = .returned (tokFV (kU s) a (a + s.length)) ∧ Sat w0 w' Hs := by
  obtain ⟨t, ht⟩ : ∃ t, t = kU s := ⟨_, rfl⟩
  rw [← ht]
  unfold kU at ht
  by_cases h1 : s = [116, 114, 117, 101] ∨ s = [102, 97, 108, 115, 101] ∨ s = [101, 120, 105, 115, 116, 115] ∨ s = [102, 111, 114, 97, 108, 108] ∨ s = [105, 116, 101]
  · rcases h1 with h | h | h | h | h
    all_goals
      subst h
      simp at ht
      subst ht
      clear h0 hld
      go_enter Tryz.func88, Tryz.ntmps88
      go_wp2_with (first|((with_reducible apply yl hS);exact ya;exact z94;clear hS;intro NB w hS;(try simp only [Act.put,q1,q2,q3]))|((with_reducible apply yC hS);exact ya;exact yb rfl;exact yf;exact sz94;decide +kernel;rfl;rfl;(try simp only [Act.put,q1,q2,q3]))|((with_reducible apply yx hS);exact ya;exact yb rfl;(first|exact yb rfl|exact yh);(repeat (with_reducible first|exact yf|apply ye));rfl;(focus (simp;done));(repeat (with_reducible first|exact Upd.hd|apply Upd.tl));rfl;decide +kernel;clear hS;intro w hS;(try simp only [q2, q3] at hS);(try simp only [Act.put,q1,q2,q3]))|((with_reducible apply yk hS);exact ya;exact yb rfl;exact yb rfl;(repeat (with_reducible first|exact yf|apply ye));rfl;(focus (simp;done));(repeat (with_reducible first|exact Upd.hd|apply Upd.tl));rfl;exact sz94;rfl;clear hS;intro w hS;(try simp only [yo, q2, q3] at hS);(try simp only [Act.put,q1,q2,q3])))
      refine bodyPost_ret (yR rfl rfl (hS.loadWhole (by (repeat (with_reducible first | exact yf | apply ye))) (by kernel_rfl) (by kernel_rfl))) rfl ?_
      exact ⟨rfl, hS.sb (by (repeat (with_reducible first | exact Sb.refl | apply Sb.skip)))⟩
  · have hn1 : ¬ s = [116, 114, 117, 101] := fun e => h1 (.inl e)
    have hn2 : ¬ s = [102, 97, 108, 115, 101] := fun e => h1 (.inr (.inl e))
    have hn3 : ¬ s = [101, 120, 105, 115, 116, 115] := fun e => h1 (.inr (.inr (.inl e)))
    have hn4 : ¬ s = [102, 111, 114, 97, 108, 108] := fun e => h1 (.inr (.inr (.inr (.inl e))))
    have hn5 : ¬ s = [105, 116, 101] := fun e => h1 (.inr (.inr (.inr (.inr e))))
    rw [if_neg hn1, if_neg hn2, if_neg hn3, if_neg hn4, if_neg hn5] at ht
    have f1 : (s == [116, 114, 117, 101]) = false := beq_eq_false_iff_ne.2 hn1
    have f2 : (s == [102, 97, 108, 115, 101]) = false := beq_eq_false_iff_ne.2 hn2
    have f3 : (s == [101, 120, 105, 115, 116, 115]) = false := beq_eq_false_iff_ne.2 hn3
    have f4 : (s == [102, 111, 114, 97, 108, 108]) = false := beq_eq_false_iff_ne.2 hn4
    have f5 : (s == [105, 116, 101]) = false := beq_eq_false_iff_ne.2 hn5
    clear hn1 hn2 hn3 hn4 hn5 h1
    obtain ⟨c, cs, rfl⟩ : ∃ c cs, s = c :: cs := by cases s with | nil => exact absurd rfl h0 | cons a b => exact ⟨a, b, rfl⟩
    obtain ⟨hp0, hc0⟩ := ks (c :: cs) 0 c rfl
    have e120 := Kp c 120 120 rfl
    by_cases hx : c = 120
    · subst hx
      rw [beq_self_eq_true] at e120
      simp only at ht
      have hl1 : 1 ≤ (120 :: cs : List UInt8).length := by simp
      have hex : (⟨(120 :: cs).toArray⟩ : ByteArray).extract 1 (120 :: cs).length = ⟨cs.toArray⟩ := by
        apply ByteArray.ext
        simp only [ByteArray.data_extract, List.extract_toArray, List.extract_eq_take_drop]
        simp
      have NR := numberR 65535 (by omega) cs (by simp at hs; omega) w0
      rw [← hex] at NR
      have hN := uy 65535 cs
      have hlc : ((120 :: cs : List UInt8).length : Int) = (cs.length : Int) + 1 := by simp
      have hb : ∀ d ds, cs = d :: ds → ∃ hp : 1 < (⟨(120 :: cs).toArray⟩ : ByteArray).size, (⟨(120 :: cs).toArray⟩ : ByteArray)[1]'hp = d := fun d ds e => ks (120 :: cs) 1 d (by rw [e]; rfl)
      have hld2 : ∀ d ds, cs = d :: ds → ldP d = true := fun d ds e => hld d (by rw [e]; simp)
      generalize hL : (120 :: cs : List UInt8) = L at *
      clear hex h0 hL hld
      cases cs with
      | nil =>
        simp only [Bool.false_eq_true, if_false] at ht
        rw [Kg, if_pos (by omega)] at ht
        rw [Kg] at NR
        subst ht
        have hl2 : ((L.length : Int) == 1) = true := by simp at hlc ⊢; omega
        clear hlc hb hN hld2
        go_enter Tryz.func88, Tryz.ntmps88
        go_wp2_with (first|((with_reducible apply yl hS);exact ya;exact z94;clear hS;intro NB w hS;(try simp only [Act.put,q1,q2,q3]))|((with_reducible apply yC hS);exact ya;exact yb rfl;exact yf;exact sz94;decide +kernel;rfl;rfl;(try simp only [Act.put,q1,q2,q3]))|((with_reducible apply yx hS);exact ya;exact yb rfl;(first|exact yb rfl|exact yh);(repeat (with_reducible first|exact yf|apply ye));rfl;(focus (simp;done));(repeat (with_reducible first|exact Upd.hd|apply Upd.tl));rfl;decide +kernel;clear hS;intro w hS;(try simp only [q2, q3] at hS);(try simp only [Act.put,q1,q2,q3]))|((with_reducible apply yk hS);exact ya;exact yb rfl;exact yb rfl;(repeat (with_reducible first|exact yf|apply ye));rfl;(focus (simp;done));(repeat (with_reducible first|exact Upd.hd|apply Upd.tl));rfl;exact sz94;rfl;clear hS;intro w hS;(try simp only [yo, q2, q3] at hS);(try simp only [Act.put,q1,q2,q3]))|(go_at_call 103;refine (NR _ _ hS).mono ?_;clear hS;rintro e w ⟨rfl, hS⟩))
        refine bodyPost_ret (yR rfl rfl (hS.loadWhole (by (repeat (with_reducible first | exact yf | apply ye))) (by kernel_rfl) (by kernel_rfl))) rfl ?_
        exact ⟨rfl, hS.sb (by (repeat (with_reducible first | exact Sb.refl | apply Sb.skip)))⟩
      | cons d ds =>
        obtain ⟨hp1, hd1⟩ := hb d ds rfl
        have hld3 := hld2 d ds rfl
        have hl2 : ((L.length : Int) == 1) = false := by simp at hlc ⊢; omega
        have hl3 : (1 : Int) < (L.length : Int) := by simp at hlc; omega
        have hl4 : 1 < L.length := by omega
        have DR := jG d w0
        simp only at ht
        clear hlc hb hld2
        obtain ⟨n, hn⟩ : ∃ n, n = kj 65535 (d :: ds) := ⟨_, rfl⟩
        rw [← hn] at ht NR hN
        clear hn
        replace ht : t = if kK d = true then .bad 131 else if n < 0 then .bad 133 else .var n := ht
        cases hlt : kK d with
        | true =>
          have hdd : Yn d = false := let_dig hlt
          rw [hdd] at DR
          rw [hlt] at ht
          simp only [if_true] at ht
          subst ht
          clear hlt hdd hld3
          go_enter Tryz.func88, Tryz.ntmps88
          go_wp2_with (first|((with_reducible apply yl hS);exact ya;exact z94;clear hS;intro NB w hS;(try simp only [Act.put,q1,q2,q3]))|((with_reducible apply yC hS);exact ya;exact yb rfl;exact yf;exact sz94;decide +kernel;rfl;rfl;(try simp only [Act.put,q1,q2,q3]))|((with_reducible apply yk hS);exact ya;exact yb rfl;exact yb rfl;(repeat (with_reducible first|exact yf|apply ye));rfl;(focus (simp;done));(repeat (with_reducible first|exact Upd.hd|apply Upd.tl));rfl;exact sz94;rfl;clear hS;intro w hS;(try simp only [yo, q2, q3] at hS);(try simp only [Act.put,q1,q2,q3]))|(go_at_call 87;refine (DR _ _ hS).mono ?_;clear hS;rintro e w ⟨rfl, hS⟩))
          refine bodyPost_ret (yR rfl rfl (hS.loadWhole (by (repeat (with_reducible first | exact yf | apply ye))) (by kernel_rfl) (by kernel_rfl))) rfl ?_
          exact ⟨rfl, hS.sb (by (repeat (with_reducible first | exact Sb.refl | apply Sb.skip)))⟩
        | false =>
          have hdd : Yn d = true := by simpa [ldP, hlt] using hld3
          rw [hdd] at DR
          rw [hlt] at ht
          simp only [Bool.false_eq_true, if_false] at ht
          clear hlt hdd hld3
          by_cases h0n : n < 0
          · rw [if_pos h0n] at ht
            subst ht
            have hge : decide (n ≥ 0) = false := by simp; omega
            go_enter Tryz.func88, Tryz.ntmps88
            go_wp2_with (first|((with_reducible apply yl hS);exact ya;exact z94;clear hS;intro NB w hS;(try simp only [Act.put,q1,q2,q3]))|((with_reducible apply yC hS);exact ya;exact yb rfl;exact yf;exact sz94;decide +kernel;rfl;rfl;(try simp only [Act.put,q1,q2,q3]))|((with_reducible apply yx hS);exact ya;exact yb rfl;(first|exact yb rfl|exact yh);(repeat (with_reducible first|exact yf|apply ye));rfl;(focus (simp;done));(repeat (with_reducible first|exact Upd.hd|apply Upd.tl));rfl;decide +kernel;clear hS;intro w hS;(try simp only [q2, q3] at hS);(try simp only [Act.put,q1,q2,q3]))|((with_reducible apply yk hS);exact ya;exact yb rfl;exact yb rfl;(repeat (with_reducible first|exact yf|apply ye));rfl;(focus (simp;done));(repeat (with_reducible first|exact Upd.hd|apply Upd.tl));rfl;exact sz94;rfl;clear hS;intro w hS;(try simp only [yo, q2, q3] at hS);(try simp only [Act.put,q1,q2,q3]))|(go_at_call 87;refine (DR _ _ hS).mono ?_;clear hS;rintro e w ⟨rfl, hS⟩)|(go_at_call 103;refine (NR _ _ hS).mono ?_;clear hS;rintro e w ⟨rfl, hS⟩))
            refine bodyPost_ret (yR rfl rfl (hS.loadWhole (by (repeat (with_reducible first | exact yf | apply ye))) (by kernel_rfl) (by kernel_rfl))) rfl ?_
            exact ⟨rfl, hS.sb (by (repeat (with_reducible first | exact Sb.refl | apply Sb.skip)))⟩
          · rw [if_neg h0n] at ht
            subst ht
            have hge : 0 ≤ n := by omega
            clear h0n
            go_enter Tryz.func88, Tryz.ntmps88
            go_wp2_with (first|((with_reducible apply yl hS);exact ya;exact z94;clear hS;intro NB w hS;(try simp only [Act.put,q1,q2,q3]))|((with_reducible apply yC hS);exact ya;exact yb rfl;exact yf;exact sz94;decide +kernel;rfl;rfl;(try simp only [Act.put,q1,q2,q3]))|((with_reducible apply yx hS);exact ya;exact yb rfl;(first|exact yb rfl|exact yh);(repeat (with_reducible first|exact yf|apply ye));rfl;(focus (simp;done));(repeat (with_reducible first|exact Upd.hd|apply Upd.tl));rfl;decide +kernel;clear hS;intro w hS;(try simp only [q2, q3] at hS);(try simp only [Act.put,q1,q2,q3]))|((with_reducible apply yk hS);exact ya;exact yb rfl;exact yb rfl;(repeat (with_reducible first|exact yf|apply ye));rfl;(focus (simp;done));(repeat (with_reducible first|exact Upd.hd|apply Upd.tl));rfl;exact sz94;rfl;clear hS;intro w hS;(try simp only [yo, q2, q3] at hS);(try simp only [Act.put,q1,q2,q3]))|(go_at_call 87;refine (DR _ _ hS).mono ?_;clear hS;rintro e w ⟨rfl, hS⟩)|(go_at_call 103;refine (NR _ _ hS).mono ?_;clear hS;rintro e w ⟨rfl, hS⟩))
            refine bodyPost_ret (yR rfl rfl (hS.loadWhole (by (repeat (with_reducible first | exact yf | apply ye))) (by kernel_rfl) (by kernel_rfl))) rfl ?_
            exact ⟨rfl, hS.sb (by (repeat (with_reducible first | exact Sb.refl | apply Sb.skip)))⟩
    · have e120f : (c == 120) = false := by simp [hx]
      rw [e120f] at e120
      have ht2 : t = .bad 131 := by
        rw [ht]
        split
        · rename_i h; exact absurd (List.cons.inj h).1 hx
        · rfl
      subst ht2
      clear ht hx e120f hld
      generalize (c :: cs : List UInt8) = L at *
      clear h0
      go_enter Tryz.func88, Tryz.ntmps88
      go_wp2_with (first|((with_reducible apply yl hS);exact ya;exact z94;clear hS;intro NB w hS;(try simp only [Act.put,q1,q2,q3]))|((with_reducible apply yC hS);exact ya;exact yb rfl;exact yf;exact sz94;decide +kernel;rfl;rfl;(try simp only [Act.put,q1,q2,q3]))|((with_reducible apply yk hS);exact ya;exact yb rfl;exact yb rfl;(repeat (with_reducible first|exact yf|apply ye));rfl;(focus (simp;done));(repeat (with_reducible first|exact Upd.hd|apply Upd.tl));rfl;exact sz94;rfl;clear hS;intro w hS;(try simp only [yo, q2, q3] at hS);(try simp only [Act.put,q1,q2,q3])))
      refine bodyPost_ret (yR rfl rfl (hS.loadWhole (by (repeat (with_reducible first | exact yf | apply ye))) (by kernel_rfl) (by kernel_rfl))) rfl ?_
      exact ⟨rfl, hS.sb (by (repeat (with_reducible first | exact Sb.refl | apply Sb.skip)))⟩
end
end Go.Proofs.YthackanffcaejaaGreatDoor
