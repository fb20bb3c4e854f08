/- A part of the proof: Rd4 Rd5 Rd6 Bk1. -/
import Derived.Test.YthackanffcaejaaGreatDoorM1
import Derived.Test.YthackanffcaejaaGreatDoorM7
section
set_option linter.unusedSimpArgs false
set_option linter.unusedVariables false
namespace Go.Proofs.YthackanffcaejaaGreatDoor
open Go Go.RowKit Go.SL Go.ClauseP Go.LexP

theorem fourC {b : Nat} (hb : b = 1 ∨ b = 3 ∨ b = 4 ∨ b = 5) : b < 6 := by omega
theorem close_step {text : List UInt8} {q' : Ps} {S pend : List Wt} {o o' : List (Int × Int)} {x : T} {k : Nat} (q : Int) (hq : Ok text q') (hx : o' ++ nd pend = post x) (hG : Good 1 q'.tk pend) (h0 : q'.opn = k + 1) :
    Step text ⟨pend ++ .opn :: S, o ++ o', q'.opn + cn pend, q'.nds⟩ 1 q q' (fun _ => ⟨S, o ++ post x, k, q'.nds⟩) 1 q 0 0 (needP text 10 q') := by
  have hi : innerM (pend ++ .opn :: S) (o ++ o') (q'.opn + cn pend) = (.opn :: S, o ++ post x, q'.opn) := by
    rw [inner_soft pend _ _ _ hG.1, List.append_assoc, hx]; rfl
  refine need_step hq (fun h => ?_) (fun h => ?_)
  · rw [(knd_cls hq.1).1 h]
    simp only [mstep, if_true]
    rw [hi]
    simp only [closeM, h0, Nat.add_sub_cancel]
  · have h' : q'.tk ≠ .cls := fun e => h ((knd_cls hq.1).2 e)
    have h1 := hq.1
    have h2 := hG.noop
    generalize q'.tk = tk at *
    cases tk with
    | cls => exact (h' rfl).elim
    | bad => exact h1.elim
    | op o => exact (h2 _ rfl).elim
    | comma => simp only [mstep, if_true, hi, commaM]
    | fin => simp only [mstep, if_true, hi, finM]
    | _ => rfl
theorem comma_step {text : List UInt8} {q' : Ps} {S pend : List Wt} {o o' : List (Int × Int)} {x : T} {n : Nat} (q : Int) (hn : n < 2) (hq : Ok text q') (hx : o' ++ nd pend = post x) (hG : Good 1 q'.tk pend) :
    Step text ⟨pend ++ .ite n :: S, o ++ o', q'.opn + cn pend, q'.nds⟩ 1 q q' (fun _ => ⟨.ite (n + 1) :: S, o ++ post x, q'.opn, q'.nds⟩) 0 q 0 0 (needP text 11 q') := by
  have hi : innerM (pend ++ .ite n :: S) (o ++ o') (q'.opn + cn pend) = (.ite n :: S, o ++ post x, q'.opn) := by
    rw [inner_soft pend _ _ _ hG.1, List.append_assoc, hx]; rfl
  refine need_step hq (fun h => ?_) (fun h => ?_)
  · rw [(knd_comma hq.1).1 h]
    simp only [mstep, if_true, hi, commaM]
    rw [if_neg (by omega)]
  · have h' : q'.tk ≠ .comma := fun e => h ((knd_comma hq.1).2 e)
    have h1 := hq.1
    have h2 := hG.noop
    generalize q'.tk = tk at *
    cases tk with
    | comma => exact (h' rfl).elim
    | bad => exact h1.elim
    | op o => exact (h2 _ rfl).elim
    | cls => simp only [mstep, if_true, hi, closeM]; rw [if_neg (by omega)]
    | fin => simp only [mstep, if_true, hi, finM]
    | _ => rfl
theorem iteEnd_step {text : List UInt8} {q' : Ps} {S pend : List Wt} {o o' : List (Int × Int)} {x : T} {k : Nat} (q : Int) (hq : Ok text q') (hx : o' ++ nd pend = post x) (hG : Good 1 q'.tk pend) (h0 : q'.opn = k + 1) :
    Step text ⟨pend ++ .ite 2 :: S, o ++ o', q'.opn + cn pend, q'.nds⟩ 1 q q' (fun _ => ⟨S, o ++ (post x ++ [(11, 0)]), k, q'.nds⟩) 1 q 0 0 (needP text 10 q') := by
  have hi : innerM (pend ++ .ite 2 :: S) (o ++ o') (q'.opn + cn pend) = (.ite 2 :: S, o ++ post x, q'.opn) := by
    rw [inner_soft pend _ _ _ hG.1, List.append_assoc, hx]; rfl
  refine need_step hq (fun h => ?_) (fun h => ?_)
  · rw [(knd_cls hq.1).1 h]
    simp only [mstep, if_true]
    rw [hi]
    simp only [closeM, if_true, h0, Nat.add_sub_cancel, List.append_assoc]
  · have h' : q'.tk ≠ .cls := fun e => h ((knd_cls hq.1).2 e)
    have h1 := hq.1
    have h2 := hG.noop
    generalize q'.tk = tk at *
    cases tk with
    | cls => exact (h' rfl).elim
    | bad => exact h1.elim
    | op o => exact (h2 _ rfl).elim
    | comma => simp only [mstep, if_true, hi, commaM]; rw [if_pos (by omega)]
    | fin => simp only [mstep, if_true, hi, finM]
    | _ => rfl
theorem ite_step {text : List UInt8} {p : Ps} (S : List Wt) (o : List (Int × Int)) (q : Int) (hp : Ok text p) (ht : p.tk = .ite) :
    Step text ⟨S, o, p.opn, p.nds⟩ 0 q p (fun p' => ⟨.ite 0 :: S, o, p'.opn, p'.nds⟩) 0 q 1 1 (thenP (thenP (thenP (opensP p) makesP) (advP text)) (needP text 9)) := by
  have h1 := both_step (text := text) (m := ⟨S, o, p.opn, p.nds⟩) (w := 0) (q := q) (x := .ite 0) (w' := 2) (q' := q) hp rfl rfl (by rw [ht]; rfl)
  cases h : thenP (thenP (opensP p) makesP) (advP text) with
  | inl e => rw [h] at h1; exact h1
  | inr q1 =>
    rw [h] at h1
    obtain ⟨a1, a2, a3, a4⟩ := h1
    show Step _ _ _ _ _ _ _ _ _ _ (needP text 9 q1)
    have h2 := need_step (text := text) (m := ⟨.ite 0 :: S, o, q1.opn, q1.nds⟩) (m' := ⟨.ite 0 :: S, o, q1.opn, q1.nds⟩) (w := 2) (q := q) (w' := 0) (q' := q) (k := 9) a1
      (fun h => by rw [(knd_opn a1.1).1 h]; rfl)
      (fun h => by
        have h' : q1.tk ≠ .opn := fun e => h ((knd_opn a1.1).2 e)
        have h5 := a1.1
        generalize q1.tk = tk at *
        cases tk <;> first | rfl | exact (h' rfl).elim | exact h5.elim)
    cases hn : needP text 9 q1 with
    | inl e => rw [hn] at h2; exact a4 _ h2
    | inr q2 =>
      rw [hn] at h2
      obtain ⟨b1, b2, b3, b4⟩ := h2
      refine ⟨b1, by omega, by omega, fun r hr => a4 r (b4 r ?_)⟩
      dsimp only at hr ⊢
      rw [show q1.opn = q2.opn from b2.symm, show q1.nds = q2.nds from b3.symm]
      exact hr
set_option maxHeartbeats 2000000 in
theorem law {text : List UInt8} {tsk : Tsk} {p : Ps} {r : Rt} (h : RD text tsk p r) : Mot text tsk p r := by
  induction h with
  | @lvlE b p e hb _ ih =>
    intro hp S o q hS
    exact ih hp S o q (hS.up (fourC hb))
  | @lvlK b p x q1 r hb _ _ ih1 ih2 =>
    intro hp S o q hS
    obtain ⟨h1, h2, pend, o', q', h3, h4, h5⟩ := ih1 hp S o q (hS.up (fourC hb))
    exact (ih2 h1 hb S o q' pend o' hS h3 h4.weak).comp h2 h5
  | @loopN b x q1 hk =>
    intro hp hb S o q pend o' hS hx hG
    refine ⟨hp, rfl, pend, o', q, hx, ⟨hG.1, fun k hkk => ⟨?_, (hG.2 k hkk).2⟩⟩, fun r hr => hr⟩
    have h1 := (hG.2 k hkk).1
    have h2 : k ≠ oOf b := fun e => hk ((knd_op hp.1 hb).2 (by rw [hkk, e]))
    have h3 : 6 ≤ k ∧ k ≤ 10 := by have := hp.1; rw [hkk] at this; exact this
    unfold bndN at h1 ⊢
    rcases hb with rfl | rfl | rfl | rfl <;> simp only [oOf] at h2 <;> (repeat' split at h1) <;> (repeat' split) <;> omega
  | @loopA b x q1 e hk ha =>
    intro hp hb S o q pend o' hS hx hG
    have hs := loop_step (o := o) q hp hb hS hx hG hk
    rw [ha] at hs
    exact hs
  | @loopE b x q1 q2 e hk ha _ ih =>
    intro hp hb S o q pend o' hS hx hG
    have hs := loop_step (o := o) q hp hb hS hx hG hk
    rw [ha] at hs
    obtain ⟨a1, a2, a3, a4⟩ := hs
    have h1 := ih a1 (.op (oOf b) :: S) (o ++ post x) q (by show bndN (oOf b) < b + 1; rw [bnd_oOf hb]; omega)
    refine a4 _ ?_
    rw [show q1.opn = q2.opn from a2.symm]
    exact h1
  | @loopK b x q1 q2 y q3 r hk ha _ _ ih1 ih2 =>
    intro hp hb S o q pend o' hS hx hG
    have hs := loop_step (o := o) q hp hb hS hx hG hk
    rw [ha] at hs
    obtain ⟨a1, a2, a3, a4⟩ := hs
    obtain ⟨h1, h2, pend2, o2, q', h3, h4, h5⟩ := ih1 a1 (.op (oOf b) :: S) (o ++ post x) q (by show bndN (oOf b) < b + 1; rw [bnd_oOf hb]; omega)
    have h6 := ih2 h1 hb S o q' (pend2 ++ [.op (oOf b)]) (post x ++ o2) hS (by rw [nd_app, ← List.append_assoc, List.append_assoc (post x), h3]; rfl)
      ⟨fun w hw => by
        rcases List.mem_append.1 hw with h | h
        · exact h4.1 w h
        · simp only [List.mem_singleton] at h; exact .inr (.inr ⟨_, h⟩), fun k hk => ⟨(h4.2 k hk).1, fun w hw => by
        rcases List.mem_append.1 hw with h | h
        · exact ((h4.2 k hk).2 w h).imp id fun ⟨z, e1, e2⟩ => ⟨z, e1, by omega⟩
        · simp only [List.mem_singleton] at h; exact .inr ⟨_, h, by rw [bnd_oOf hb]; omega⟩⟩⟩
    refine h6.comp (by omega) fun r hr => a4 r ?_
    rw [show q1.opn = q2.opn from a2.symm]
    refine h5 r ?_
    simp only [List.append_assoc, List.cons_append, List.nil_append, cn_app] at hr ⊢
    exact hr
  | @impE p e _ ih =>
    intro hp S o q hS
    exact ih hp S o q (hS.up (by omega))
  | @impK p x q1 r _ _ ih1 ih2 =>
    intro hp S o q hS
    obtain ⟨h1, h2, pend, o', q', h3, h4, h5⟩ := ih1 hp S o q (hS.up (by omega))
    have h6 := ih2 x [] rfl h1 S o q' pend o' hS h3 h4
    refine h6.comp h2 ?_
    simpa [posts] using h5
  | @impsN xs q1 hk =>
    rintro x rest rfl hp S o q pend o' hS hx hG
    refine ⟨hp, rfl, pend ++ List.replicate rest.length (.op 9), posts rest ++ o', q, ?_, ⟨fun w hw => ?_, fun k hkk => ⟨?_, fun w hw => ?_⟩⟩, fun r hr => ?_⟩
    · rw [nd_app, nd_reps, post_impT, ← hx]; simp
    · rcases List.mem_append.1 hw with h | h
      · exact hG.1 w h
      · exact .inr (.inr ⟨_, List.eq_of_mem_replicate h⟩)
    · have h1 := (hG.2 k hkk).1
      have h2 : k ≠ 9 := fun e => hk ((knd_imp hp.1).2 (by rw [hkk, e]))
      have h3 : 6 ≤ k ∧ k ≤ 10 := by have := hp.1; rw [hkk] at this; exact this
      unfold bndN at h1 ⊢
      (repeat' split at h1) <;> (repeat' split) <;> omega
    · rcases List.mem_append.1 hw with h | h
      · exact ((hG.2 k hkk).2 w h).imp id fun ⟨z, e1, e2⟩ => ⟨z, e1, by omega⟩
      · exact .inr ⟨_, List.eq_of_mem_replicate h, Nat.le_refl _⟩
    · rw [cn_app, cn_reps] at hr
      simpa using hr
  | @impsA xs q1 e hk ha =>
    rintro x rest rfl hp S o q pend o' hS hx hG
    have hs := imps_step (o := o) (rest := rest) q hp hS hx hG hk
    rw [ha] at hs
    exact hs
  | @impsE xs q1 q2 e hk ha _ ih =>
    rintro x rest rfl hp S o q pend o' hS hx hG
    have hs := imps_step (o := o) (rest := rest) q hp hS hx hG hk
    rw [ha] at hs
    obtain ⟨a1, a2, a3, a4⟩ := hs
    have h1 := ih a1 (List.replicate (x :: rest).length (.op 9) ++ S) (o ++ posts (x :: rest)) q (by show bndN 9 < 3; decide)
    refine a4 _ ?_
    rw [show q1.opn = q2.opn from a2.symm]
    exact h1
  | @impsK xs q1 q2 y q3 r hk ha _ _ ih1 ih2 =>
    rintro x rest rfl hp S o q pend o' hS hx hG
    have hs := imps_step (o := o) (rest := rest) q hp hS hx hG hk
    rw [ha] at hs
    obtain ⟨a1, a2, a3, a4⟩ := hs
    obtain ⟨h1, h2, pend2, o2, q', h3, h4, h5⟩ := ih1 a1 (List.replicate (x :: rest).length (.op 9) ++ S) (o ++ posts (x :: rest)) q (by show bndN 9 < 3; decide)
    have h6 := ih2 y (x :: rest) rfl h1 S o q' pend2 o2 hS h3 h4
    refine h6.comp (by omega) fun r hr => a4 r ?_
    rw [show q1.opn = q2.opn from a2.symm]
    exact h5 r hr
  | @notA p e ht ha =>
    intro hp S o q hS
    have hs := both_step (text := text) (m := ⟨S, o, p.opn, p.nds⟩) (w := 0) (q := q) (x := .not) (w' := 0) (q' := q) hp rfl rfl (by rw [ht]; rfl)
    rw [ha] at hs
    exact hs
  | @notE p q1 e ht ha _ ih =>
    intro hp S o q hS
    have hs := both_step (text := text) (m := ⟨S, o, p.opn, p.nds⟩) (w := 0) (q := q) (x := .not) (w' := 0) (q' := q) hp rfl rfl (by rw [ht]; rfl)
    rw [ha] at hs
    obtain ⟨a1, a2, a3, a4⟩ := hs
    exact a4 _ (ih a1 (.not :: S) o q (stops6 _))
  | @notK p q1 x q2 ht ha _ ih =>
    intro hp S o q hS
    have hs := both_step (text := text) (m := ⟨S, o, p.opn, p.nds⟩) (w := 0) (q := q) (x := .not) (w' := 0) (q' := q) hp rfl rfl (by rw [ht]; rfl)
    rw [ha] at hs
    obtain ⟨a1, a2, a3, a4⟩ := hs
    obtain ⟨h1, h2, pend, o', q', h3, h4, h5⟩ := ih a1 (.not :: S) o q (stops6 _)
    refine ⟨h1.less 1, by dsimp only; omega, pend ++ [.not], o', q', by rw [nd_app, ← List.append_assoc, h3]; rfl, ⟨fun w hw => ?_, fun k hk => ⟨bnd6 k, fun w hw => ?_⟩⟩, fun r hr => a4 r (h5 r ?_)⟩
    · rcases List.mem_append.1 hw with h | h
      · exact h4.1 w h
      · simp only [List.mem_singleton] at h; exact .inl h
    · rcases List.mem_append.1 hw with h | h
      · exact (h4.2 k hk).2 w h
      · simp only [List.mem_singleton] at h; exact .inl h
    · dsimp only at hr
      rw [List.append_assoc, cn_app, show q2.opn - 1 + (cn pend + cn [Wt.not]) = q2.opn + cn pend by show q2.opn - 1 + (cn pend + 1) = _; omega] at hr
      exact hr
  | @quA p op e ht hv =>
    intro hp S o q hS
    have hs : mstep ⟨S, o, p.opn, p.nds⟩ 0 q p.tk = .go ⟨S, o, p.opn, p.nds⟩ 3 op := by rw [ht]; rfl
    exact .go hs (vars_law hv S o op hp.2.2.2.1 hp.2.1 hp.2.2.1)
  | @quE p op vs q1 e ht hv _ ih =>
    intro hp S o q hS
    have hs : mstep ⟨S, o, p.opn, p.nds⟩ 0 q p.tk = .go ⟨S, o, p.opn, p.nds⟩ 3 op := by rw [ht]; rfl
    obtain ⟨ns, e0, e1, e2, e3, e4⟩ := vars_law hv S o op hp.2.2.2.1 hp.2.1 hp.2.2.1
    have hst : Stops 1 (ns.reverse.map (Wt.quant op) ++ S) := by
      obtain ⟨n, l, hl⟩ : ∃ n l, ns.reverse = n :: l := by
        cases h : ns.reverse with
        | nil => simp at h; exact (e0 h).elim
        | cons n l => exact ⟨n, l, rfl⟩
      rw [hl]; trivial
    exact .go hs (e4 _ (ih e2 _ o op hst))
  | @quK p op vs q1 x q2 ht hv _ ih =>
    intro hp S o q hS
    have hs : mstep ⟨S, o, p.opn, p.nds⟩ 0 q p.tk = .go ⟨S, o, p.opn, p.nds⟩ 3 op := by rw [ht]; rfl
    obtain ⟨ns, e0, e1, e2, e3, e4⟩ := vars_law hv S o op hp.2.2.2.1 hp.2.1 hp.2.2.1
    simp only [List.nil_append] at e1
    subst e1
    have hst : Stops 1 (vs.reverse.map (Wt.quant op) ++ S) := by
      obtain ⟨n, l, hl⟩ : ∃ n l, vs.reverse = n :: l := by
        cases h : vs.reverse with
        | nil => simp at h; exact (e0 h).elim
        | cons n l => exact ⟨n, l, rfl⟩
      rw [hl]; trivial
    obtain ⟨h1, h2, pend, o', q', h3, h4, h5⟩ := ih e2 _ o op hst
    refine ⟨h1.less _, by dsimp only; omega, pend ++ vs.reverse.map (Wt.quant op), o', q', by rw [nd_app, ← List.append_assoc, h3, post_quT], ⟨fun w hw => ?_, fun k hk => (h4.noop k hk).elim⟩, fun r hr => .go hs (e4 r (h5 r ?_))⟩
    · rcases List.mem_append.1 hw with h | h
      · exact h4.1 w h
      · obtain ⟨n, _, rfl⟩ := List.mem_map.1 h
        exact .inr (.inl ⟨_, _, rfl⟩)
    · dsimp only at hr
      have hc : cn (vs.reverse.map (Wt.quant op)) = vs.length := by rw [cn_quants, List.length_reverse]
      rw [List.append_assoc, cn_app, hc, show q2.opn - vs.length + (cn pend + vs.length) = q2.opn + cn pend by omega] at hr
      exact hr
  | @cst p n ht =>
    intro hp S o q hS
    have hs := makes_step (text := text) (m := ⟨S, o, p.opn, p.nds⟩) (w := 0) (q := q) (w' := 1) (q' := q) (g := fun m => ⟨m.st, m.out ++ [(1, n)], m.opn, m.nds⟩) hp rfl (by rw [ht]; rfl)
    cases ha : thenP (makesP p) (advP text) with
    | inl e => rw [ha] at hs; exact hs
    | inr q1 =>
      rw [ha] at hs
      obtain ⟨a1, a2, a3, a4⟩ := hs
      refine ⟨a1, a2, [], [(1, n)], q, rfl, .nil fun k _ => bnd6 k, fun r hr => a4 r ?_⟩
      dsimp only
      rw [show p.opn = q1.opn from a2.symm]
      exact hr
  | @var p n ht =>
    intro hp S o q hS
    have hs := makes_step (text := text) (m := ⟨S, o, p.opn, p.nds⟩) (w := 0) (q := q) (w' := 1) (q' := q) (g := fun m => ⟨m.st, m.out ++ [(2, n)], m.opn, m.nds⟩) hp rfl (by rw [ht]; rfl)
    cases ha : thenP (makesP p) (advP text) with
    | inl e => rw [ha] at hs; exact hs
    | inr q1 =>
      rw [ha] at hs
      obtain ⟨a1, a2, a3, a4⟩ := hs
      refine ⟨a1, a2, [], [(2, n)], q, rfl, .nil fun k _ => bnd6 k, fun r hr => a4 r ?_⟩
      dsimp only
      rw [show p.opn = q1.opn from a2.symm]
      exact hr
  | @opnA p e ht ha =>
    intro hp S o q hS
    have hs := opens_step (text := text) (m := ⟨S, o, p.opn, p.nds⟩) (w := 0) (q := q) (x := .opn) (w' := 0) (q' := q) hp rfl (by rw [ht]; rfl)
    rw [ha] at hs
    exact hs
  | @opnE p q1 e ht ha _ ih =>
    intro hp S o q hS
    have hs := opens_step (text := text) (m := ⟨S, o, p.opn, p.nds⟩) (w := 0) (q := q) (x := .opn) (w' := 0) (q' := q) hp rfl (by rw [ht]; rfl)
    rw [ha] at hs
    obtain ⟨a1, a2, a3, a4⟩ := hs
    refine a4 _ ?_
    dsimp only
    rw [show p.nds = q1.nds from a3.symm]
    exact ih a1 (.opn :: S) o q trivial
  | @opnK p q1 x q2 ht ha _ ih =>
    intro hp S o q hS
    have hs := opens_step (text := text) (m := ⟨S, o, p.opn, p.nds⟩) (w := 0) (q := q) (x := .opn) (w' := 0) (q' := q) hp rfl (by rw [ht]; rfl)
    rw [ha] at hs
    obtain ⟨a1, a2, a3, a4⟩ := hs
    obtain ⟨h1, h2, pend, o', q', h3, h4, h5⟩ := ih a1 (.opn :: S) o q trivial
    have hc := close_step (S := S) (o := o) (k := p.opn) q' h1 h3 h4 (by omega)
    have hgo : ∀ r, MRun text ⟨pend ++ .opn :: S, o ++ o', q2.opn + cn pend, q2.nds⟩ 1 q' (tokR q2) r → MRun text ⟨S, o, p.opn, p.nds⟩ 0 q (tokR p) r := fun r hr => a4 r (by
      dsimp only
      rw [show p.nds = q1.nds from a3.symm]
      exact h5 r hr)
    cases hn : needP text 10 q2 with
    | inl e => rw [hn] at hc; exact hgo _ hc
    | inr q3 =>
      rw [hn] at hc
      obtain ⟨b1, b2, b3, b4⟩ := hc
      refine ⟨b1.less 1, by dsimp only; omega, [], post x, q', by simp [nd], .nil fun k _ => bnd6 k, fun r hr => hgo r (b4 r ?_)⟩
      dsimp only at hr ⊢
      rw [show q3.opn - 1 + cn [] = p.opn by show q3.opn - 1 + 0 = _; omega, show q3.nds = q2.nds from b3] at hr
      exact hr
  | @iteA p e ht ha =>
    intro hp S o q hS
    have hs := ite_step S o q hp ht
    rw [ha] at hs
    exact hs
  | @iteC p q0 e ht ha _ ih =>
    intro hp S o q hS
    have hs := ite_step S o q hp ht
    rw [ha] at hs
    obtain ⟨a1, a2, a3, a4⟩ := hs
    exact a4 _ (ih a1 (.ite 0 :: S) o q trivial)
  | @iteD p q0 c q1 e ht ha _ hn ih =>
    intro hp S o q hS
    have hs := ite_step S o q hp ht
    rw [ha] at hs
    obtain ⟨a1, a2, a3, a4⟩ := hs
    obtain ⟨h1, h2, pend, o', q', h3, h4, h5⟩ := ih a1 (.ite 0 :: S) o q trivial
    have hc := comma_step (S := S) (o := o) q' (n := 0) (by omega) h1 h3 h4
    rw [hn] at hc
    exact a4 _ (h5 _ hc)
  | @iteE p q0 c q1 q2 e ht ha _ hn _ ih ih2 =>
    intro hp S o q hS
    have hs := ite_step S o q hp ht
    rw [ha] at hs
    obtain ⟨a1, a2, a3, a4⟩ := hs
    obtain ⟨h1, h2, pend, o', q', h3, h4, h5⟩ := ih a1 (.ite 0 :: S) o q trivial
    have hc := comma_step (S := S) (o := o) q' (n := 0) (by omega) h1 h3 h4
    rw [hn] at hc
    obtain ⟨b1, b2, b3, b4⟩ := hc
    refine a4 _ (h5 _ (b4 _ ?_))
    have := ih2 b1 (.ite 1 :: S) (o ++ post c) q' trivial
    dsimp only
    rw [show q1.opn = q2.opn from b2.symm, show q1.nds = q2.nds from b3.symm]
    exact this
  | @iteF p q0 c q1 q2 a q3 e ht ha _ hn _ hn2 ih ih2 =>
    intro hp S o q hS
    have hs := ite_step S o q hp ht
    rw [ha] at hs
    obtain ⟨a1, a2, a3, a4⟩ := hs
    obtain ⟨h1, h2, pend, o', q', h3, h4, h5⟩ := ih a1 (.ite 0 :: S) o q trivial
    have hc := comma_step (S := S) (o := o) q' (n := 0) (by omega) h1 h3 h4
    rw [hn] at hc
    obtain ⟨b1, b2, b3, b4⟩ := hc
    refine a4 _ (h5 _ (b4 _ ?_))
    obtain ⟨i1, i2, pend2, o2, q'', i3, i4, i5⟩ := ih2 b1 (.ite 1 :: S) (o ++ post c) q' trivial
    dsimp only
    rw [show q1.opn = q2.opn from b2.symm, show q1.nds = q2.nds from b3.symm]
    refine i5 _ ?_
    have hc2 := comma_step (S := S) (o := o ++ post c) q'' (n := 1) (by omega) i1 i3 i4
    rw [hn2] at hc2
    exact hc2
  | @iteG p q0 c q1 q2 a q3 q4 e ht ha _ hn _ hn2 _ ih ih2 ih3 =>
    intro hp S o q hS
    have hs := ite_step S o q hp ht
    rw [ha] at hs
    obtain ⟨a1, a2, a3, a4⟩ := hs
    obtain ⟨h1, h2, pend, o', q', h3, h4, h5⟩ := ih a1 (.ite 0 :: S) o q trivial
    have hc := comma_step (S := S) (o := o) q' (n := 0) (by omega) h1 h3 h4
    rw [hn] at hc
    obtain ⟨b1, b2, b3, b4⟩ := hc
    refine a4 _ (h5 _ (b4 _ ?_))
    obtain ⟨i1, i2, pend2, o2, q'', i3, i4, i5⟩ := ih2 b1 (.ite 1 :: S) (o ++ post c) q' trivial
    dsimp only
    rw [show q1.opn = q2.opn from b2.symm, show q1.nds = q2.nds from b3.symm]
    refine i5 _ ?_
    have hc2 := comma_step (S := S) (o := o ++ post c) q'' (n := 1) (by omega) i1 i3 i4
    rw [hn2] at hc2
    obtain ⟨c1, c2, c3, c4⟩ := hc2
    refine c4 _ ?_
    have := ih3 c1 (.ite 2 :: S) (o ++ post c ++ post a) q'' trivial
    dsimp only
    rw [show q3.opn = q4.opn from c2.symm, show q3.nds = q4.nds from c3.symm]
    exact this
  | @iteK p q0 c q1 q2 a q3 q4 b q5 ht ha _ hn _ hn2 _ ih ih2 ih3 =>
    intro hp S o q hS
    have hs := ite_step S o q hp ht
    rw [ha] at hs
    obtain ⟨a1, a2, a3, a4⟩ := hs
    obtain ⟨h1, h2, pend, o', q', h3, h4, h5⟩ := ih a1 (.ite 0 :: S) o q trivial
    have hc := comma_step (S := S) (o := o) q' (n := 0) (by omega) h1 h3 h4
    rw [hn] at hc
    obtain ⟨b1, b2, b3, b4⟩ := hc
    obtain ⟨i1, i2, pend2, o2, q'', i3, i4, i5⟩ := ih2 b1 (.ite 1 :: S) (o ++ post c) q' trivial
    have hc2 := comma_step (S := S) (o := o ++ post c) q'' (n := 1) (by omega) i1 i3 i4
    rw [hn2] at hc2
    obtain ⟨c1, c2, c3, c4⟩ := hc2
    obtain ⟨j1, j2, pend3, o3, q3', j3, j4, j5⟩ := ih3 c1 (.ite 2 :: S) (o ++ post c ++ post a) q'' trivial
    have hce := iteEnd_step (S := S) (o := o ++ post c ++ post a) (k := p.opn) q3' j1 j3 j4 (by omega)
    have hgo : ∀ r, MRun text ⟨pend3 ++ .ite 2 :: S, o ++ post c ++ post a ++ o3, q5.opn + cn pend3, q5.nds⟩ 1 q3' (tokR q5) r → MRun text ⟨S, o, p.opn, p.nds⟩ 0 q (tokR p) r := by
      intro r hr
      refine a4 _ (h5 _ (b4 _ ?_))
      dsimp only
      rw [show q1.opn = q2.opn from b2.symm, show q1.nds = q2.nds from b3.symm]
      refine i5 _ (c4 _ ?_)
      dsimp only
      rw [show q3.opn = q4.opn from c2.symm, show q3.nds = q4.nds from c3.symm]
      exact j5 r hr
    cases hn3 : needP text 10 q5 with
    | inl e => rw [hn3] at hce; exact hgo _ hce
    | inr q6 =>
      rw [hn3] at hce
      obtain ⟨d1, d2, d3, d4⟩ := hce
      refine ⟨d1.less 1, by dsimp only; omega, [], post c ++ post a ++ post b ++ [(11, 0)], q3', by simp [nd, post], .nil fun k _ => bnd6 k, fun r hr => hgo r (d4 r ?_)⟩
      dsimp only at hr ⊢
      rw [show q6.opn - 1 + cn [] = p.opn by show q6.opn - 1 + 0 = _; omega, show q6.nds = q5.nds from d3] at hr
      simp only [List.append_assoc] at hr ⊢
      exact hr
  | @else_ p h1 h2 h3 h4 =>
    intro hp S o q hS
    refine err_run ?_
    have h5 := hp.1
    have h6 := h1 p.tk (by simp)
    generalize p.tk = tk at *
    cases tk with
    | bad => exact h5.elim
    | const n => exact (h2 _ rfl).elim
    | var n => exact (h3 _ rfl).elim
    | quant n => exact (h4 _ rfl).elim
    | not => exact (h6.1 rfl).elim
    | opn => exact (h6.2.1 rfl).elim
    | ite => exact (h6.2.2 rfl).elim
    | _ => rfl
end Go.Proofs.YthackanffcaejaaGreatDoor
end
section
set_option linter.unusedSimpArgs false
set_option linter.unusedVariables false
namespace Go.Proofs.YthackanffcaejaaGreatDoor
open Go Go.RowKit Go.SL Go.ClauseP Go.LexP

def p00 : Ps := ⟨.fin, 0, 0, 0, 0⟩
def m00 : MS := ⟨[], [], 0, 0⟩
def endR (text : List UInt8) : Rt → (Int × Nat) ⊕ T
  | .inl e => .inl e
  | .inr (x, q) => match needP text 0 q with
    | .inl e => .inl e
    | .inr _ => .inr x
def ParseR (text : List UInt8) (r : (Int × Nat) ⊕ T) : Prop := match advP text p00 with
  | .inl e => r = .inl e
  | .inr p => ∃ r1, RD text (.lvl 1) p r1 ∧ r = endR text r1
def ansT : (Int × Nat) ⊕ T → Ans
  | .inl e => .inl e
  | .inr x => .inr (post x)
theorem end_run {text : List UInt8} {q : Ps} {pend : List Wt} {o' : List (Int × Int)} {x : T} (k : Nat) (q' : Int) (hq : Ok text q) (hx : o' ++ nd pend = post x) (hG : Good 1 q.tk pend) :
    MRun text ⟨pend ++ [], [] ++ o', k + cn pend, q.nds⟩ 1 q' (tokR q) (ansT (endR text (.inr (x, q)))) := by
  have hi : innerM (pend ++ []) ([] ++ o') (k + cn pend) = ([], post x, k) := by
    rw [inner_soft pend _ _ _ hG.1, List.append_assoc, hx]; rfl
  simp only [endR, needP]
  by_cases hk : knd q = 0
  · have ht := (knd_fin hq.1).1 hk
    have hf := hq.2.2.2.2 ht
    have ha : advP text q = .inr ⟨.fin, text.length, text.length, q.opn, q.nds⟩ := by
      unfold advP; rw [hf, nextT_end]
    rw [if_pos hk, ha]
    refine .done ?_
    show mstep _ _ _ q.tk = _
    rw [ht]
    simp only [mstep, if_true]
    rw [hi]; rfl
  · rw [if_neg hk]
    refine err_run ?_
    have h' : q.tk ≠ .fin := fun e => hk ((knd_fin hq.1).2 e)
    have h1 := hq.1
    have h2 := hG.noop
    generalize q.tk = tk at *
    cases tk with
    | fin => exact (h' rfl).elim
    | bad => exact h1.elim
    | op o => exact (h2 _ rfl).elim
    | comma => simp only [mstep, if_true]; rw [hi]; rfl
    | cls => simp only [mstep, if_true]; rw [hi]; rfl
    | _ => rfl
theorem parse_law {text : List UInt8} {r : (Int × Nat) ⊕ T} (h : ParseR text r) : MRun text m00 0 0 (nextT text 0) (ansT r) := by
  unfold ParseR at h
  cases ha : advP text p00 with
  | inl e =>
    rw [ha] at h
    have h : r = .inl e := h
    subst h
    exact adv_run ha _ _ _
  | inr p =>
    rw [ha] at h
    obtain ⟨r1, hrd, rfl⟩ := h
    have hp := adv_Ok (p := p00) (Nat.zero_le _) (Nat.zero_le _) (Nat.zero_le _) ha
    obtain ⟨h1, h2, h3, _⟩ := advR ha
    have hl := law hrd hp [] [] 0 trivial
    have e0 : p.opn = 0 := h2
    have e1 : p.nds = 0 := h3
    rw [e0, e1] at hl
    have e2 : nextT text 0 = tokR p := h1.symm
    rw [e2]
    rcases r1 with e | ⟨x, q⟩
    · exact hl
    · obtain ⟨k1, k2, pend, o', q', k3, k4, k5⟩ := hl
      exact k5 _ (end_run q.opn q' k1 k3 k4)
theorem MRun.place {text : List UInt8} {m : MS} {w q : Int} {t : TokR} {r : Ans} (h : MRun text m w q t r) : t.at_ ≤ text.length → t.fin ≤ text.length → ∀ e a, r = .inl (e, a) → a ≤ text.length := by
  induction h with
  | err h => intro h1 _ e a he; injection he with he; injection he with _ he; rw [← he]; exact h1
  | done h => intro _ _ e a he; cases he
  | @go m w q t m' w' q' r hs _ ih =>
    intro _ h2
    refine ih ?_ (nextT_le text t.fin h2)
    have h3 := skipP_len text t.fin h2
    unfold nextT
    split
    · exact Nat.le_refl _
    · exact h3
theorem start_place {text : List UInt8} {r : Ans} (h : MRun text m00 0 0 (nextT text 0) r) {e : Int} {a : Nat} (he : r = .inl (e, a)) : a ≤ text.length := by
  refine h.place ?_ (nextT_le text 0 (Nat.zero_le _)) e a he
  have h3 := skipP_len text 0 (Nat.zero_le _)
  unfold nextT
  split
  · exact Nat.le_refl _
  · exact h3
end Go.Proofs.YthackanffcaejaaGreatDoor
end
section
set_option linter.unusedSimpArgs false
set_option linter.unusedVariables false
namespace Go.Proofs.YthackanffcaejaaGreatDoor
open Go Go.RowKit Go.SL Go.ClauseP Go.LexP

def nnW : Wt → Nat
  | .opn => 0
  | _ => 1
def sW (s : List Wt) : Nat := (s.map opW).sum
def sN (s : List Wt) : Nat := (s.map nnW).sum
def MInv (m : MS) : Prop := m.opn = sW m.st ∧ sN m.st + m.out.length = m.nds ∧ m.opn ≤ 64 ∧ m.nds ≤ 65536
def Inv3 (nds : Nat) (x : List Wt × List (Int × Int) × Nat) : Prop := x.2.2 = sW x.1 ∧ sN x.1 + x.2.1.length = nds ∧ x.2.2 ≤ 64
theorem Inv3.settle {nds : Nat} {w : Wt} {S : List Wt} {o : List (Int × Int)} {k : Nat} (h : Inv3 nds (w :: S, o, k)) (hw : w ≠ .opn) : Inv3 nds (S, o ++ ndW w, k - opW w) := by
  obtain ⟨h1, h2, h3⟩ := h
  simp only [sW, sN, List.map_cons, List.sum_cons] at h1 h2
  have e : (ndW w).length = nnW w := by cases w <;> first | rfl | exact (hw rfl).elim
  refine ⟨?_, ?_, ?_⟩
  · show k - opW w = sW S; unfold sW; omega
  · show sN S + (o ++ ndW w).length = nds; rw [List.length_append, e]; unfold sN; omega
  · show k - opW w ≤ 64; have : k ≤ 64 := h3; omega
theorem inner_inv {nds : Nat} : ∀ (S : List Wt) (o : List (Int × Int)) (k : Nat), Inv3 nds (S, o, k) → Inv3 nds (innerM S o k)
  | [], o, k, h => h
  | w :: S, o, k, h => by
    cases w with
    | opn => exact h
    | ite n => exact h
    | not => exact inner_inv S _ _ (h.settle (by simp))
    | quant a b => exact inner_inv S _ _ (h.settle (by simp))
    | op a => exact inner_inv S _ _ (h.settle (by simp))
theorem oper_inv {nds : Nat} (op : Int) : ∀ (S : List Wt) (o : List (Int × Int)) (k : Nat), Inv3 nds (S, o, k) → Inv3 nds (operM op S o k)
  | [], o, k, h => h
  | w :: S, o, k, h => by
    cases w with
    | opn => exact h
    | ite n => exact h
    | quant a b => exact h
    | not => exact oper_inv op S _ _ (h.settle (w := .not) (by simp))
    | op a =>
      simp only [operM]
      split
      · exact h
      · exact oper_inv op S _ _ (h.settle (w := .op a) (by simp))
theorem push_inv {m : MS} (h : MInv m) (x : Wt) (hx : x ≠ .opn) (h1 : m.opn + opW x ≤ 64) (h2 : m.nds + 1 ≤ 65536) : MInv ⟨x :: m.st, m.out, m.opn + opW x, m.nds + 1⟩ := by
  obtain ⟨a, b, c, d⟩ := h
  have e : nnW x = 1 := by cases x <;> first | rfl | exact (hx rfl).elim
  refine ⟨?_, ?_, h1, h2⟩
  · show m.opn + opW x = sW (x :: m.st); simp only [sW, List.map_cons, List.sum_cons] at a ⊢; omega
  · show sN (x :: m.st) + m.out.length = m.nds + 1; simp only [sN, List.map_cons, List.sum_cons] at b ⊢; omega
theorem MInv.start : MInv m00 := ⟨rfl, rfl, by decide, by decide⟩
theorem step_inv {m m' : MS} {want q w' q' : Int} {tk : Tk} (h : MInv m) (hs : mstep m want q tk = .go m' w' q') : MInv m' := by
  have h3 : Inv3 m.nds (m.st, m.out, m.opn) := ⟨h.1, h.2.1, h.2.2.1⟩
  have hi := inner_inv _ _ _ h3
  have h64 := h.2.2.1
  have h65 := h.2.2.2
  cases tk with
  | bad e => cases hs
  | const n =>
    simp only [mstep, makesM] at hs
    split at hs
    rotate_left
    · cases hs
    split at hs
    · cases hs
    injection hs with e1 e2 e3
    subst e1
    exact ⟨h.1, by simp only [List.length_append, List.length_cons, List.length_nil]; have := h.2.1; omega, h64, by dsimp only; omega⟩
  | var n =>
    simp only [mstep, makesM, opensM] at hs
    split at hs
    · split at hs
      · cases hs
      injection hs with e1 e2 e3
      subst e1
      exact ⟨h.1, by simp only [List.length_append, List.length_cons, List.length_nil]; have := h.2.1; omega, h64, by dsimp only; omega⟩
    · split at hs
      rotate_left
      · cases hs
      split at hs
      · cases hs
      split at hs
      · cases hs
      injection hs with e1 e2 e3
      subst e1
      exact push_inv h (.quant q n) (by simp) (by simp only [opW]; omega) (by omega)
  | quant o =>
    simp only [mstep] at hs
    split at hs
    rotate_left
    · cases hs
    injection hs with e1 e2 e3
    subst e1; exact h
  | opn =>
    simp only [mstep, opensM] at hs
    split at hs
    · split at hs
      · cases hs
      injection hs with e1 e2 e3
      subst e1
      refine ⟨?_, by show sN (.opn :: m.st) + m.out.length = m.nds; have := h.2.1; simp only [sN, List.map_cons, List.sum_cons, nnW] at this ⊢; omega, by dsimp only; omega, h65⟩
      show m.opn + 1 = sW (.opn :: m.st)
      have := h.1
      simp only [sW, List.map_cons, List.sum_cons, opW] at this ⊢; omega
    · split at hs
      rotate_left
      · cases hs
      injection hs with e1 e2 e3
      subst e1; exact h
  | ite =>
    simp only [mstep, makesM, opensM] at hs
    split at hs
    rotate_left
    · cases hs
    split at hs
    · cases hs
    split at hs
    · cases hs
    injection hs with e1 e2 e3
    subst e1
    exact push_inv h (.ite 0) (by simp) (by simp only [opW]; omega) (by omega)
  | not =>
    simp only [mstep, makesM, opensM] at hs
    split at hs
    rotate_left
    · cases hs
    split at hs
    · cases hs
    split at hs
    · cases hs
    injection hs with e1 e2 e3
    subst e1
    exact push_inv h .not (by simp) (by simp only [opW]; omega) (by omega)
  | op o =>
    simp only [mstep, makesM] at hs
    split at hs
    rotate_left
    · cases hs
    split at hs
    · cases hs
    injection hs with e1 e2 e3
    subst e1
    obtain ⟨a, b, c⟩ := oper_inv o _ _ _ h3
    exact push_inv (m := ⟨_, _, _, m.nds⟩) ⟨a, b, c, h65⟩ (.op o) (by simp) (by simp only [opW]; exact c) (by dsimp only; omega)
  | cls =>
    simp only [mstep] at hs
    split at hs
    rotate_left
    · cases hs
    generalize innerM m.st m.out m.opn = x at *
    obtain ⟨S, o, k⟩ := x
    rcases S with _ | ⟨w, S⟩
    · cases hs
    · obtain ⟨a, b, c⟩ := hi
      cases w with
      | opn =>
        simp only [closeM] at hs
        injection hs with e1 e2 e3
        subst e1
        simp only [sW, sN, List.map_cons, List.sum_cons, opW, nnW] at a b
        exact ⟨by show k - 1 = sW S; unfold sW; omega, by show sN S + o.length = m.nds; unfold sN; omega, by show k - 1 ≤ 64; have : k ≤ 64 := c; omega, h65⟩
      | ite n =>
        simp only [closeM] at hs
        split at hs
        rotate_left
        · cases hs
        injection hs with e1 e2 e3
        subst e1
        simp only [sW, sN, List.map_cons, List.sum_cons, opW, nnW] at a b
        exact ⟨by show k - 1 = sW S; unfold sW; omega, by show sN S + (o ++ [(11, 0)]).length = m.nds; unfold sN; simp only [List.length_append, List.length_cons, List.length_nil]; omega, by show k - 1 ≤ 64; have : k ≤ 64 := c; omega, h65⟩
      | _ => cases hs
  | comma =>
    simp only [mstep] at hs
    split at hs
    · generalize innerM m.st m.out m.opn = x at *
      obtain ⟨S, o, k⟩ := x
      rcases S with _ | ⟨w, S⟩
      · cases hs
      · obtain ⟨a, b, c⟩ := hi
        cases w with
        | ite n =>
          simp only [commaM] at hs
          split at hs
          · cases hs
          injection hs with e1 e2 e3
          subst e1
          exact ⟨a, b, c, h65⟩
        | _ => cases hs
    · split at hs
      rotate_left
      · cases hs
      injection hs with e1 e2 e3
      subst e1; exact h
  | colon =>
    simp only [mstep] at hs
    split at hs
    rotate_left
    · cases hs
    injection hs with e1 e2 e3
    subst e1; exact h
  | fin =>
    simp only [mstep] at hs
    split at hs
    rotate_left
    · cases hs
    generalize innerM m.st m.out m.opn = x at *
    obtain ⟨S, o, k⟩ := x
    cases S <;> cases hs
end Go.Proofs.YthackanffcaejaaGreatDoor
end
section
set_option linter.unusedSimpArgs false
set_option linter.unusedVariables false
namespace Go.Proofs.YthackanffcaejaaGreatDoor
open Go Go.RowKit Go.SL Go.ClauseP Go.LexP

/-! ### Tokens of a suffix -/
def nextS (s : List UInt8) : Tk × List UInt8 := ((pieceT (s.drop (skipS false s))).1, (s.drop (skipS false s)).drop (pieceT (s.drop (skipS false s))).2)
theorem next_drop (text : List UInt8) (k : Nat) : (nextT text k).tk = (nextS (text.drop k)).1 ∧ text.drop (nextT text k).fin = (nextS (text.drop k)).2 := by
  have e : (text.drop k).drop (skipS false (text.drop k)) = text.drop (skipP text k) := by rw [List.drop_drop]; rfl
  unfold nextS nextT
  rw [e]
  split
  · rename_i h
    rw [h, List.drop_eq_nil_of_le (Nat.le_refl _)]
    exact ⟨rfl, rfl⟩
  · exact ⟨rfl, by rw [List.drop_drop]⟩
def Toks : List UInt8 → List Tk → List UInt8 → Prop
  | s, [], s' => nextS s = nextS s'
  | s, t :: l, s' => (nextS s).1 = t ∧ Toks (nextS s).2 l s'
theorem Toks.from_eq {s s1 s' : List UInt8} {l : List Tk} (e : nextS s = nextS s1) (h : Toks s1 l s') : Toks s l s' := by
  cases l with
  | nil => exact e.trans h
  | cons t l => simp only [Toks] at h ⊢; rw [e]; exact h
theorem Toks.app {l l' : List Tk} {s' s'' : List UInt8} : ∀ {s : List UInt8}, Toks s l s' → Toks s' l' s'' → Toks s (l ++ l') s'' := by
  induction l with
  | nil => intro s h h2; exact h2.from_eq h
  | cons t l ih => intro s h h2; exact ⟨h.1, ih h.2 h2⟩
theorem Toks.one {s s' : List UInt8} {t : Tk} (h : nextS s = (t, s')) : Toks s [t] s' := by
  refine ⟨by rw [h], ?_⟩
  rw [h]; rfl
theorem Toks.cons {s s' s'' : List UInt8} {t : Tk} {l : List Tk} (h : nextS s = (t, s')) (h2 : Toks s' l s'') : Toks s (t :: l) s'' := by
  refine ⟨by rw [h], ?_⟩
  rw [h]; exact h2
theorem nextS_blank (r : List UInt8) : nextS (32 :: r) = nextS r := by
  have e : skipS false (32 :: r) = 1 + skipS false r := rfl
  unfold nextS
  rw [e, Nat.add_comm, List.drop_succ_cons]
theorem Toks.blank {s s' : List UInt8} {l : List Tk} (h : Toks s l s') : Toks (32 :: s) l s' := h.from_eq (nextS_blank s)
theorem Toks.end_blank {s s' : List UInt8} {l : List Tk} (h : Toks s l (32 :: s')) : Toks s l s' := by
  have := h.app (l' := []) (s'' := s') (nextS_blank s')
  rwa [List.append_nil] at this

/-! ### Numbers -/
theorem ofNat_dig (d : Nat) (h : d < 10) : digP (UInt8.ofNat (48 + d)) = true ∧ (UInt8.ofNat (48 + d)).toNat = 48 + d := by
  have : d = 0 ∨ d = 1 ∨ d = 2 ∨ d = 3 ∨ d = 4 ∨ d = 5 ∨ d = 6 ∨ d = 7 ∨ d = 8 ∨ d = 9 := by omega
  rcases this with rfl | rfl | rfl | rfl | rfl | rfl | rfl | rfl | rfl | rfl <;> decide
theorem dec_ok (n : Nat) : (Lib.decDigits n).all digP = true ∧ Lib.decDigits n ≠ [] ∧ valD 0 (Lib.decDigits n) = n ∧ (n ≠ 0 → (Lib.decDigits n).head? ≠ some 48) ∧ (n = 0 → Lib.decDigits n = [48]) := by
  induction n using Nat.strongRecOn with
  | ind n ih =>
    by_cases h : n < 10
    · rw [Lib.decDigits_one h]
      obtain ⟨h1, h2⟩ := ofNat_dig n h
      generalize hd : UInt8.ofNat (48 + n) = d at *
      refine ⟨by simp [h1], by simp, by simp [valD, h2], fun h0 e => ?_, fun h0 => by rw [← hd, h0]; rfl⟩
      have : d = 48 := by simpa using e
      rw [this] at h2
      have : (48 : UInt8).toNat = 48 := rfl
      omega
    · obtain ⟨i1, i2, i3, i4, _⟩ := ih (n / 10) (by omega)
      obtain ⟨h1, h2⟩ := ofNat_dig (n % 10) (by omega)
      have e : Lib.decDigits n = Lib.decDigits (n / 10) ++ [UInt8.ofNat (48 + n % 10)] := by rw [Lib.decDigits, dif_neg h]
      rw [e]
      clear e
      generalize UInt8.ofNat (48 + n % 10) = d at *
      refine ⟨by rw [List.all_append, i1]; simp [h1], by simp, by rw [valD_snoc, i3, h2]; omega, fun _ => ?_, fun h0 => by omega⟩
      cases hl : Lib.decDigits (n / 10) with
      | nil => exact absurd hl i2
      | cons a b =>
        have := i4 (by omega)
        rw [hl] at this
        simpa using this
theorem num_dec (most n : Nat) (h : n ≤ most) : numM most (Lib.decDigits n) = n := by
  obtain ⟨h1, h2, h3, h4, h5⟩ := dec_ok n
  rw [numM_val h2 ?_ h1, h3, if_neg (by omega)]
  rintro ⟨a, b⟩
  by_cases h0 : n = 0
  · rw [h5 h0] at a; simp at a
  · exact h4 h0 b
/-! ### The pieces -/
def Sep (r : List UInt8) : Prop := ∀ c, r.head? = some c → ldP c = false
theorem sep_nil : Sep [] := fun c h => by cases h
theorem sep_cons {c : UInt8} {r : List UInt8} (h : ldP c = false) : Sep (c :: r) := fun d hd => by simp at hd; subst hd; exact h
theorem take_sep {p : UInt8 → Bool} : ∀ (w r : List UInt8), (∀ c ∈ w, p c = true) → (∀ c, r.head? = some c → p c = false) → (w ++ r).takeWhile p = w
  | [], [], _, _ => rfl
  | [], c :: r, _, h => by simp [List.takeWhile, h c rfl]
  | c :: w, r, h, h2 => by
    rw [List.cons_append, List.takeWhile_cons, h c (.head _)]
    simp only [if_true]
    rw [take_sep w r (fun d hd => h d (.tail _ hd)) h2]
theorem letP_skip {c : UInt8} (h : letP c = true) (r : List UInt8) : skipS false (c :: r) = 0 := by
  have h1 : blankP c = false := by
    cases hb : blankP c with
    | false => rfl
    | true =>
      simp only [blankP, Bool.or_eq_true, beq_iff_eq] at hb
      rcases hb with ((rfl | rfl) | rfl) | rfl <;> cases h
  have h2 : ¬ c = 35 := fun e => by subst e; cases h
  simp only [skipS, h1, h2, if_false, Bool.false_eq_true]
theorem word_next (w r : List UInt8) {c : UInt8} {t : List UInt8} (hw : w = c :: t) (hc : letP c = true) (hl : ∀ d ∈ w, ldP d = true) (hr : Sep r) : nextS (w ++ r) = (tokW w, r) := by
  have h0 : skipS false (w ++ r) = 0 := by rw [hw]; exact letP_skip hc _
  have h1 : pieceT (w ++ r) = (tokW w, w.length) := by
    have : pieceT (w ++ r) = (tokW ((w ++ r).takeWhile ldP), ((w ++ r).takeWhile ldP).length) := by
      subst hw
      simp only [pieceT, List.cons_append, hc, if_true]
    rw [this, take_sep w r hl hr]
  unfold nextS
  rw [h0, List.drop_zero, h1]
  simp
theorem dig_ld {c : UInt8} (h : digP c = true) : ldP c = true := by simp [ldP, h]
theorem itoa_dec (v : Int) (h0 : 0 ≤ v) : Lib.itoa v = Lib.decDigits v.toNat := by
  obtain ⟨n, rfl⟩ : ∃ n : Nat, v = n := ⟨v.toNat, by omega⟩
  rw [Lib.itoa_nonneg]; rfl
theorem tokW_var (v : Int) (h0 : 0 ≤ v) (h : v < 65536) : tokW ([120] ++ Lib.itoa v) = .var v := by
  obtain ⟨h1, h2, h3, h4, h5⟩ := dec_ok v.toNat
  rw [itoa_dec v h0]
  have hn := num_dec 65535 v.toNat (by omega)
  generalize Lib.decDigits v.toNat = ds at *
  cases ds with
  | nil => exact absurd rfl h2
  | cons d ds =>
    have hd : digP d = true := by simp at h1; exact h1.1
    have hl : letP d = false := by
      cases hlp : letP d with
      | false => rfl
      | true =>
        simp only [letP, digP, Bool.or_eq_true, Bool.and_eq_true, decide_eq_true_eq] at hlp hd
        exfalso
        have a1 : d.toNat ≤ 57 := by have := hd.2; simpa [UInt8.le_iff_toNat_le] using this
        rcases hlp with ⟨a, b⟩ | ⟨a, b⟩
        · have a2 : 97 ≤ d.toNat := by simpa [UInt8.le_iff_toNat_le] using a
          omega
        · have a2 : 65 ≤ d.toNat := by simpa [UInt8.le_iff_toNat_le] using a
          omega
    have ne : ∀ (a : UInt8) (l : List UInt8), (120 : UInt8) ≠ a → ¬ ([120] ++ (d :: ds) = a :: l) := fun a l h e => h (by injection e)
    unfold tokW
    rw [if_neg (ne _ _ (by decide)), if_neg (ne _ _ (by decide)), if_neg (ne _ _ (by decide)), if_neg (ne _ _ (by decide)), if_neg (ne _ _ (by decide))]
    show (if letP d = true then Tk.bad 131 else if numM 65535 (d :: ds) < 0 then Tk.bad 133 else Tk.var (numM 65535 (d :: ds))) = _
    rw [if_neg (by rw [hl]; decide), if_neg (by omega), hn]
    congr 1; omega
theorem var_next (v : Int) (h0 : 0 ≤ v) (h : v < 65536) (r : List UInt8) (hr : Sep r) : nextS ([120] ++ Lib.itoa v ++ r) = (.var v, r) := by
  rw [word_next ([120] ++ Lib.itoa v) r (c := 120) (t := Lib.itoa v) rfl (by decide) ?_ hr, tokW_var v h0 h]
  intro d hd
  rw [itoa_dec v h0] at hd
  rcases List.mem_append.1 hd with hd | hd
  · simp at hd; subst hd; decide
  · exact dig_ld (List.all_eq_true.1 (dec_ok v.toNat).1 d hd)
theorem true_next (r : List UInt8) (hr : Sep r) : nextS ([116, 114, 117, 101] ++ r) = (.const 1, r) := word_next _ r rfl (by decide) (by decide) hr
theorem false_next (r : List UInt8) (hr : Sep r) : nextS ([102, 97, 108, 115, 101] ++ r) = (.const 0, r) := word_next _ r rfl (by decide) (by decide) hr
theorem exists_next (r : List UInt8) (hr : Sep r) : nextS ([101, 120, 105, 115, 116, 115] ++ r) = (.quant 4, r) := word_next _ r rfl (by decide) (by decide) hr
theorem forall_next (r : List UInt8) (hr : Sep r) : nextS ([102, 111, 114, 97, 108, 108] ++ r) = (.quant 5, r) := word_next _ r rfl (by decide) (by decide) hr
theorem ite_next (r : List UInt8) (hr : Sep r) : nextS ([105, 116, 101] ++ r) = (.ite, r) := word_next _ r rfl (by decide) (by decide) hr
theorem not_next (r : List UInt8) : nextS (33 :: r) = (.not, r) := rfl
theorem opn_next (r : List UInt8) : nextS (40 :: r) = (.opn, r) := rfl
theorem cls_next (r : List UInt8) : nextS (41 :: r) = (.cls, r) := rfl
theorem comma_next (r : List UInt8) : nextS (44 :: r) = (.comma, r) := rfl
theorem colon_next (r : List UInt8) : nextS (58 :: r) = (.colon, r) := rfl
theorem and_next (r : List UInt8) : nextS (38 :: r) = (.op 6, r) := rfl
theorem or_next (r : List UInt8) : nextS (124 :: r) = (.op 7, r) := rfl
theorem xor_next (r : List UInt8) : nextS (94 :: r) = (.op 8, r) := rfl
theorem imp_next (r : List UInt8) : nextS (45 :: 62 :: r) = (.op 9, r) := rfl
theorem iff_next (r : List UInt8) : nextS (60 :: 45 :: 62 :: r) = (.op 10, r) := rfl
/-! ### A tree's tokens -/
def brK (t : List Tk × List Tk) (br last : Bool) : List Tk := if br then [.opn] ++ t.1 ++ [.cls] else if last then t.1 else t.2
def K : T → (List Tk × List Tk) × (Int → List Tk)
  | .cst n => let s : List Tk := [.const n]; ((s, s), fun _ => .colon :: s)
  | .var v => let s : List Tk := [.var v]; ((s, s), fun _ => .colon :: s)
  | .neg a =>
    let s (last : Bool) : List Tk := [.not] ++ brK (K a).1 (brkP 3 0 a last) last
    ((s true, s false), fun _ => .colon :: s true)
  | .qu op v a =>
    let s : List Tk := [.quant op, .var v] ++ (K a).2 op
    ((s, s), fun op' => if op' = op then [.comma, .var v] ++ (K a).2 op' else .colon :: s)
  | .bin op a b =>
    let s (last : Bool) : List Tk := brK (K a).1 (brkP op 0 a false) false ++ [.op op] ++ brK (K b).1 (brkP op 1 b last) last
    ((s true, s false), fun _ => .colon :: s true)
  | .ite c a b =>
    let s : List Tk := [.ite, .opn] ++ (K c).1.1 ++ [.comma] ++ (K a).1.1 ++ [.comma] ++ (K b).1.1 ++ [.cls]
    ((s, s), fun _ => .colon :: s)
def tkT (t : T) (last : Bool) : List Tk := if last then (K t).1.1 else (K t).1.2
def opdK (op side : Int) (x : T) (last : Bool) : List Tk := if brkP op side x last then [.opn] ++ tkT x true ++ [.cls] else tkT x last
def chainK (op : Int) (t : T) : List Tk := (K t).2 op
theorem brK_eq (t : T) (br last : Bool) : brK (K t).1 br last = if br then [.opn] ++ tkT t true ++ [.cls] else tkT t last := by
  cases br <;> cases last <;> rfl
theorem tkT_cst (n : Int) (last : Bool) : tkT (.cst n) last = [.const n] := by cases last <;> rfl
theorem tkT_var (v : Int) (last : Bool) : tkT (.var v) last = [.var v] := by cases last <;> rfl
theorem tkT_neg (a : T) (last : Bool) : tkT (.neg a) last = [.not] ++ opdK 3 0 a last := by
  cases last <;> simp only [tkT, K, brK_eq, opdK, if_true, if_false, Bool.false_eq_true]
theorem tkT_qu (op v : Int) (a : T) (last : Bool) : tkT (.qu op v a) last = [.quant op, .var v] ++ chainK op a := by cases last <;> rfl
theorem tkT_bin (op : Int) (a b : T) (last : Bool) : tkT (.bin op a b) last = opdK op 0 a false ++ [.op op] ++ opdK op 1 b last := by
  cases last <;> simp only [tkT, K, brK_eq, opdK, if_true, if_false, Bool.false_eq_true]
theorem tkT_ite (c a b : T) (last : Bool) : tkT (.ite c a b) last = [.ite, .opn] ++ tkT c true ++ [.comma] ++ tkT a true ++ [.comma] ++ tkT b true ++ [.cls] := by cases last <;> rfl
theorem chainK_same (op v : Int) (a : T) : chainK op (.qu op v a) = [.comma, .var v] ++ chainK op a := by simp [chainK, K]
theorem chainK_end {op : Int} {t : T} (h : isQu op t = false) : chainK op t = .colon :: tkT t true := by
  cases t with
  | qu o v a =>
    simp only [isQu, decide_eq_false_iff_not] at h
    have h2 : ¬ op = o := fun e => h e.symm
    simp [chainK, K, tkT, h2]
  | _ => rfl

/-! ### The text's tokens -/
theorem sep32 (r : List UInt8) : Sep (32 :: r) := sep_cons (by decide)
theorem sep41 (r : List UInt8) : Sep (41 :: r) := sep_cons (by decide)
theorem sep40 (r : List UInt8) : Sep (40 :: r) := sep_cons (by decide)
theorem sep44 (r : List UInt8) : Sep (44 :: r) := sep_cons (by decide)
theorem sep58 (r : List UInt8) : Sep (58 :: r) := sep_cons (by decide)
theorem spell_toks (op : Int) (h : 6 ≤ op ∧ op ≤ 10) (r : List UInt8) : (∃ x, spellP op ++ r = 32 :: x) ∧ Toks (spellP op ++ r) [.op op] r := by
  have : op = 6 ∨ op = 7 ∨ op = 8 ∨ op = 9 ∨ op = 10 := by omega
  rcases this with rfl | rfl | rfl | rfl | rfl
  · exact ⟨⟨_, rfl⟩, (Toks.blank (.one (and_next _))).end_blank⟩
  · exact ⟨⟨_, rfl⟩, (Toks.blank (.one (or_next _))).end_blank⟩
  · exact ⟨⟨_, rfl⟩, (Toks.blank (.one (xor_next _))).end_blank⟩
  · exact ⟨⟨_, rfl⟩, (Toks.blank (.one (imp_next _))).end_blank⟩
  · exact ⟨⟨_, rfl⟩, (Toks.blank (.one (iff_next _))).end_blank⟩
theorem quant_toks (op : Int) (h : op = 4 ∨ op = 5) (r : List UInt8) : Toks (spellP op ++ r) [.quant op] r := by
  rcases h with rfl | rfl
  · exact (Toks.one (exists_next (32 :: r) (sep32 r))).end_blank
  · exact (Toks.one (forall_next (32 :: r) (sep32 r))).end_blank
def LexT (t : T) : Prop := (∀ last r, Sep r → Toks (wr t last ++ r) (tkT t last) r) ∧ ∀ op r, Sep r → Sep (chain op t ++ r) ∧ Toks (chain op t ++ r) (chainK op t) r
theorem lex_end {t : T} (h : ∀ last r, Sep r → Toks (wr t last ++ r) (tkT t last) r) {op : Int} (hq : isQu op t = false) (r : List UInt8) (hr : Sep r) : Sep (chain op t ++ r) ∧ Toks (chain op t ++ r) (chainK op t) r := by
  rw [chain_end hq, chainK_end hq]
  exact ⟨sep58 _, .cons (colon_next _) (Toks.blank (h true r hr))⟩
theorem lex_opd {x : T} (h : LexT x) (op side : Int) (last : Bool) (r : List UInt8) (hr : Sep r) : Toks (opd op side x last ++ r) (opdK op side x last) r := by
  unfold opd opdK
  split
  · have e : [40] ++ wr x true ++ [41] ++ r = 40 :: (wr x true ++ 41 :: r) := by simp
    rw [e, List.append_assoc]
    exact .cons (opn_next _) ((h.1 true _ (sep41 r)).app (.one (cls_next r)))
  · exact h.1 last r hr
theorem lexT : ∀ t : T, okT t → LexT t
  | .cst n, h => by
    have h1 : ∀ last r, Sep r → Toks (wr (.cst n) last ++ r) (tkT (.cst n) last) r := by
      intro last r hr
      rw [wr_cst, tkT_cst]
      rcases h with rfl | rfl
      · exact .one (false_next r hr)
      · exact .one (true_next r hr)
    exact ⟨h1, fun op r hr => lex_end h1 rfl r hr⟩
  | .var v, h => by
    have h1 : ∀ last r, Sep r → Toks (wr (.var v) last ++ r) (tkT (.var v) last) r := by
      intro last r hr
      rw [wr_var, tkT_var]
      exact .one (var_next v h.1 h.2 r hr)
    exact ⟨h1, fun op r hr => lex_end h1 rfl r hr⟩
  | .neg a, h => by
    have ih := lexT a h
    have h1 : ∀ last r, Sep r → Toks (wr (.neg a) last ++ r) (tkT (.neg a) last) r := by
      intro last r hr
      rw [wr_neg, tkT_neg]
      exact .cons (not_next _) (lex_opd ih 3 0 last r hr)
    exact ⟨h1, fun op r hr => lex_end h1 rfl r hr⟩
  | .qu op v a, h => by
    have ih := lexT a h.2.2.2
    have h1 : ∀ last r, Sep r → Toks (wr (.qu op v a) last ++ r) (tkT (.qu op v a) last) r := by
      intro last r hr
      rw [wr_qu, tkT_qu]
      obtain ⟨k1, k2⟩ := ih.2 op r hr
      have e : spellP op ++ [120] ++ Lib.itoa v ++ chain op a ++ r = spellP op ++ ([120] ++ Lib.itoa v ++ (chain op a ++ r)) := by simp
      rw [e]
      exact (quant_toks op h.1 _).app (.cons (var_next v h.2.1 h.2.2.1 _ k1) k2)
    refine ⟨h1, fun op' r hr => ?_⟩
    by_cases e : op' = op
    · subst e
      rw [chain_same, chainK_same]
      obtain ⟨k1, k2⟩ := ih.2 op' r hr
      have e : [44, 32, 120] ++ Lib.itoa v ++ chain op' a ++ r = 44 :: 32 :: ([120] ++ Lib.itoa v ++ (chain op' a ++ r)) := by simp
      rw [e]
      exact ⟨sep44 _, .cons (comma_next _) (Toks.blank (.cons (var_next v h.2.1 h.2.2.1 _ k1) k2))⟩
    · exact lex_end h1 (by simp [isQu]; exact fun x => e x.symm) r hr
  | .bin op a b, h => by
    have ih := lexT a h.2.2.1
    have ih2 := lexT b h.2.2.2
    have h1 : ∀ last r, Sep r → Toks (wr (.bin op a b) last ++ r) (tkT (.bin op a b) last) r := by
      intro last r hr
      rw [wr_bin, tkT_bin]
      have k2 := lex_opd ih2 op 1 last r hr
      obtain ⟨⟨x, hx⟩, k3⟩ := spell_toks op ⟨h.1, h.2.1⟩ (opd op 1 b last ++ r)
      have e : opd op 0 a false ++ spellP op ++ opd op 1 b last ++ r = opd op 0 a false ++ (spellP op ++ (opd op 1 b last ++ r)) := by simp
      rw [e]
      exact ((lex_opd ih op 0 false _ (by rw [hx]; exact sep32 x)).app k3).app k2
    exact ⟨h1, fun op r hr => lex_end h1 rfl r hr⟩
  | .ite c a b, h => by
    have ic := lexT c h.1
    have ia := lexT a h.2.1
    have ib := lexT b h.2.2
    have h1 : ∀ last r, Sep r → Toks (wr (.ite c a b) last ++ r) (tkT (.ite c a b) last) r := by
      intro last r hr
      rw [wr_ite, tkT_ite]
      have e : [105, 116, 101, 40] ++ wr c true ++ [44, 32] ++ wr a true ++ [44, 32] ++ wr b true ++ [41] ++ r = [105, 116, 101] ++ 40 :: (wr c true ++ 44 :: 32 :: (wr a true ++ 44 :: 32 :: (wr b true ++ 41 :: r))) := by simp
      have e2 : [Tk.ite, .opn] ++ tkT c true ++ [.comma] ++ tkT a true ++ [.comma] ++ tkT b true ++ [.cls] = .ite :: .opn :: (tkT c true ++ .comma :: (tkT a true ++ .comma :: (tkT b true ++ [.cls]))) := by simp
      rw [e, e2]
      have k1 := (ib.1 true (41 :: r) (sep41 r)).app (.one (cls_next r))
      have k2 := (ia.1 true (44 :: 32 :: (wr b true ++ 41 :: r)) (sep44 _)).app (.cons (comma_next _) (Toks.blank k1))
      have k3 := (ic.1 true (44 :: 32 :: (wr a true ++ 44 :: 32 :: (wr b true ++ 41 :: r))) (sep44 _)).app (.cons (comma_next _) (Toks.blank k2))
      exact .cons (ite_next _ (sep40 _)) (.cons (opn_next _) k3)
    exact ⟨h1, fun op r hr => lex_end h1 rfl r hr⟩
end Go.Proofs.YthackanffcaejaaGreatDoor
end
