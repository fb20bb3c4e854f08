/- A part of the proof: Rd3 Rd4 Rd5 Rd6. -/
import Derived.Test.YthackanffcaejaaDoorM1
import Derived.Test.YthackanffcaejaaDoorM10
section
set_option linter.unusedSimpArgs false
set_option linter.unusedVariables false
namespace Go.Proofs.YthackanffcaejaaDoor
open Go Go.RowKit Go.SL Go.ClauseP Go.LexP

def LawR (text : List UInt8) (b : Nat) (m : MS) (w q : Int) (p : Ps) (o : List (Int × Int)) (S : List Wt) : Rt → Prop
  | .inl e => MRun text m w q (tokR p) (.inl e)
  | .inr (x, p') => Ok text p' ∧ p'.opn = p.opn ∧ ∃ pend o' q', o' ++ nd pend = post x ∧ Good b p'.tk pend ∧ ∀ r, MRun text ⟨pend ++ S, o ++ o', p'.opn + cn pend, p'.nds⟩ 1 q' (tokR p') r → MRun text m w q (tokR p) r
theorem LawR.comp {text : List UInt8} {b : Nat} {m m2 : MS} {w q w2 q2 : Int} {p p2 : Ps} {o : List (Int × Int)} {S : List Wt} {r : Rt} (h : LawR text b m2 w2 q2 p2 o S r) (ho : p2.opn = p.opn) (hc : ∀ r, MRun text m2 w2 q2 (tokR p2) r → MRun text m w q (tokR p) r) :
    LawR text b m w q p o S r := by
  rcases r with e | ⟨x, p'⟩
  · exact hc _ h
  · obtain ⟨h1, h2, pend, o', q', h3, h4, h5⟩ := h
    exact ⟨h1, h2.trans ho, pend, o', q', h3, h4, fun r hr => hc _ (h5 r hr)⟩
def Mot (text : List UInt8) : Tsk → Ps → Rt → Prop
  | .lvl b, p, r => Ok text p → ∀ S o q, Stops b S → LawR text b ⟨S, o, p.opn, p.nds⟩ 0 q p o S r
  | .loop b x, p, r => Ok text p → b = 1 ∨ b = 3 ∨ b = 4 ∨ b = 5 → ∀ S o q pend o', Stops b S → o' ++ nd pend = post x → Good' b p.tk pend → LawR text b ⟨pend ++ S, o ++ o', p.opn + cn pend, p.nds⟩ 1 q p o S r
  | .imps xs, p, r => ∀ x rest, xs = x :: rest → Ok text p → ∀ S o q pend o', Stops 2 S → o' ++ nd pend = post x → Good 3 p.tk pend →
      LawR text 2 ⟨pend ++ (List.replicate rest.length (.op 9) ++ S), o ++ posts rest ++ o', p.opn + cn pend, p.nds⟩ 1 q p o S r
theorem bnd_oOf {b : Nat} (hb : b = 1 ∨ b = 3 ∨ b = 4 ∨ b = 5) : bndN (oOf b) = b := by rcases hb with rfl | rfl | rfl | rfl <;> rfl
theorem oOf_ne {b : Nat} (hb : b = 1 ∨ b = 3 ∨ b = 4 ∨ b = 5) : oOf b ≠ 9 := by rcases hb with rfl | rfl | rfl | rfl <;> decide
theorem loop_step {text : List UInt8} {b : Nat} {p : Ps} {S pend : List Wt} {o o' : List (Int × Int)} {x : T} (q : Int) (hp : Ok text p) (hb : b = 1 ∨ b = 3 ∨ b = 4 ∨ b = 5) (hS : Stops b S) (hx : o' ++ nd pend = post x) (hG : Good' b p.tk pend) (hk : knd p = kOf b) :
    Step text ⟨pend ++ S, o ++ o', p.opn + cn pend, p.nds⟩ 1 q p (fun p' => ⟨.op (oOf b) :: S, o ++ post x, p.opn, p'.nds⟩) 0 q 0 1 (thenP (makesP p) (advP text)) := by
  have ht : p.tk = .op (oOf b) := (knd_op hp.1 hb).1 hk
  have e := bnd_oOf hb
  have h1 : operM (oOf b) (pend ++ S) (o ++ o') (p.opn + cn pend) = (S, o ++ post x, p.opn) := by
    rw [oper_soft (oOf b) b (by omega) pend S (o ++ o') p.opn (fun w hw => (hG.2 _ ht).2 w hw |>.imp id fun ⟨y, e1, e2⟩ => ⟨y, e1, e2, fun e3 => absurd e3 (oOf_ne hb)⟩), List.append_assoc, hx]
    exact oper_stop (by rw [e]; exact hS) _ _
  have h := makes_step (text := text) (m := ⟨pend ++ S, o ++ o', p.opn + cn pend, p.nds⟩) (w := 1) (q := q) (w' := 0) (q' := q) (p := p) (g := fun m => ⟨.op (oOf b) :: (operM (oOf b) m.st m.out m.opn).1, (operM (oOf b) m.st m.out m.opn).2.1, (operM (oOf b) m.st m.out m.opn).2.2, m.nds⟩) hp rfl (by rw [ht]; rfl)
  simpa only [h1] using h
theorem oper_reps {S : List Wt} (h : Stops 2 S) (o : List (Int × Int)) (k : Nat) : ∀ n : Nat, operM 9 (List.replicate n (.op 9) ++ S) o k = (List.replicate n (.op 9) ++ S, o, k)
  | 0 => oper_stop (op := 9) h o k
  | n + 1 => by
    rw [List.replicate_succ, List.cons_append, operM]
    rw [if_pos (.inr ⟨rfl, rfl⟩)]
theorem ne9 {y : Int} (h : 3 ≤ bndN y) : bndN y ≠ bndN 9 := by
  have : bndN 9 = 2 := rfl
  omega
theorem imps_step {text : List UInt8} {p : Ps} {S pend : List Wt} {o o' : List (Int × Int)} {x : T} {rest : List T} (q : Int) (hp : Ok text p) (hS : Stops 2 S) (hx : o' ++ nd pend = post x) (hG : Good 3 p.tk pend) (hk : knd p = 7) :
    Step text ⟨pend ++ (List.replicate rest.length (.op 9) ++ S), o ++ posts rest ++ o', p.opn + cn pend, p.nds⟩ 1 q p (fun p' => ⟨List.replicate (x :: rest).length (.op 9) ++ S, o ++ posts (x :: rest), p.opn, p'.nds⟩) 0 q 0 1 (thenP (makesP p) (advP text)) := by
  have ht : p.tk = .op 9 := (knd_imp hp.1).1 hk
  have h1 : operM 9 (pend ++ (List.replicate rest.length (.op 9) ++ S)) (o ++ posts rest ++ o') (p.opn + cn pend) = (List.replicate rest.length (.op 9) ++ S, o ++ posts (x :: rest), p.opn) := by
    rw [oper_soft 9 3 (by decide) pend _ _ p.opn (fun w hw => (hG.2 _ ht).2 w hw |>.imp id fun ⟨y, e1, e2⟩ => ⟨y, e1, e2, fun _ => ne9 e2⟩), List.append_assoc, hx, List.append_assoc]
    exact oper_reps hS _ _ _
  have h := makes_step (text := text) (m := ⟨pend ++ (List.replicate rest.length (.op 9) ++ S), o ++ posts rest ++ o', p.opn + cn pend, p.nds⟩) (w := 1) (q := q) (w' := 0) (q' := q) (p := p) (g := fun m => ⟨.op 9 :: (operM 9 m.st m.out m.opn).1, (operM 9 m.st m.out m.opn).2.1, (operM 9 m.st m.out m.opn).2.2, m.nds⟩) hp rfl (by rw [ht]; rfl)
  simpa only [h1, List.length_cons, List.replicate_succ, List.cons_append] using h
theorem post_impT : ∀ (rest : List T) (x : T), post (impT (x :: rest)) = posts rest ++ post x ++ List.replicate rest.length (9, 0)
  | [], x => by simp [impT, posts]
  | y :: rest, x => by
    have := post_impT rest (.bin 9 y x)
    simp only [impT, List.foldl_cons] at this ⊢
    rw [this]
    simp [posts, post, List.replicate_succ]
theorem nd_reps (n : Nat) : nd (List.replicate n (.op 9)) = List.replicate n (9, 0) := by
  induction n with
  | zero => rfl
  | succ n ih => simp only [List.replicate_succ, nd, List.flatMap_cons] at ih ⊢; rw [ih]; rfl
theorem cn_reps (n : Nat) : cn (List.replicate n (.op 9)) = 0 := by
  induction n with
  | zero => rfl
  | succ n ih => simp only [List.replicate_succ, cn, List.map_cons, List.sum_cons] at ih ⊢; rw [ih]; rfl
theorem Ok.less {text : List UInt8} {p : Ps} (h : Ok text p) (k : Nat) : Ok text { p with opn := p.opn - k } := ⟨h.1, by dsimp only; have := h.2.1; omega, h.2.2⟩
theorem Good.nil {b : Nat} {tk : Tk} (h : ∀ k, tk = .op k → bndN k < b) : Good b tk [] := ⟨fun w hw => (nomatch hw), fun k hk => ⟨h k hk, fun w hw => (nomatch hw)⟩⟩
theorem bnd6 (k : Int) : bndN k < 6 := by have := bndN_le k; omega
theorem Good.noop {tk : Tk} {pend : List Wt} (h : Good 1 tk pend) (k : Int) : tk ≠ .op k := fun e => by have h1 := (h.2 k e).1; have := bndN_le k; omega

/-! ### A quantifier's variables -/
def VarsR (text : List UInt8) (p : Ps) (vs : List Int) (S : List Wt) (o : List (Int × Int)) (op : Int) : (Int × Nat) ⊕ (List Int × Ps) → Prop
  | .inl e => MRun text ⟨S, o, p.opn, p.nds⟩ 3 op (nextT text p.fin) (.inl e)
  | .inr (vs', q) => ∃ ns, ns ≠ [] ∧ vs' = vs ++ ns ∧ Ok text q ∧ q.opn = p.opn + ns.length ∧ ∀ r, MRun text ⟨ns.reverse.map (Wt.quant op) ++ S, o, q.opn, q.nds⟩ 0 op (tokR q) r → MRun text ⟨S, o, p.opn, p.nds⟩ 3 op (nextT text p.fin) r
theorem vars_law {text : List UInt8} {p : Ps} {vs : List Int} {r : (Int × Nat) ⊕ (List Int × Ps)} (h : Vars text p vs r) : ∀ (S : List Wt) (o : List (Int × Int)) (op : Int), p.fin ≤ text.length → p.opn ≤ 64 → p.nds ≤ 65536 → VarsR text p vs S o op r := by
  induction h with
  | adv ha => intro S o op _ _ _; exact adv_run ha _ _ _
  | @tok p vs q ha hn =>
    intro S o op hf ho hk
    obtain ⟨h1, h2, h3, h4⟩ := advR ha
    unfold VarsR
    rw [← h1]
    refine err_run ?_
    obtain ⟨tk, at_, fin, opn, nds⟩ := q
    dsimp only at hn h4 ⊢
    cases tk <;> first | rfl | exact (hn _ rfl).elim | exact (h4 _ rfl).elim
  | @open_ p vs q n e ha ht hb =>
    intro S o op hf ho hk
    obtain ⟨h1, h2, h3, h4⟩ := advR ha
    have hq := adv_Ok hf ho hk ha
    have hs := both_step (text := text) (m := ⟨S, o, p.opn, p.nds⟩) (w := 3) (q := op) (x := .quant op n) (w' := 4) (q' := op) hq (by dsimp only; omega) (by dsimp only; omega) (by rw [ht]; rfl)
    rw [hb] at hs
    unfold VarsR
    rw [← h1]
    exact hs
  | @more p vs q n q' r ha ht hb hc _ ih =>
    intro S o op hf ho hk
    obtain ⟨h1, h2, h3, h4⟩ := advR ha
    have hq := adv_Ok hf ho hk ha
    have hs := both_step (text := text) (m := ⟨S, o, p.opn, p.nds⟩) (w := 3) (q := op) (x := .quant op n) (w' := 4) (q' := op) hq (by dsimp only; omega) (by dsimp only; omega) (by rw [ht]; rfl)
    rw [hb] at hs
    obtain ⟨k1, k2, k3, k4⟩ := hs
    have hgo : ∀ r, MRun text ⟨.quant op n :: S, o, q'.opn, q'.nds⟩ 3 op (nextT text q'.fin) r → MRun text ⟨S, o, p.opn, p.nds⟩ 3 op (nextT text p.fin) r := by
      intro r hr
      rw [← h1]
      refine k4 r ?_
      exact .go (t := tokR q') (m' := ⟨.quant op n :: S, o, q'.opn, q'.nds⟩) (w' := 3) (q' := op) (by show mstep _ _ _ q'.tk = _; rw [hc]; rfl) hr
    have ih2 := ih (.quant op n :: S) o op k1.2.2.2.1 k1.2.1 k1.2.2.1
    rcases r with e | ⟨vs', q2⟩
    · exact hgo _ ih2
    · obtain ⟨ns, e0, e1, e2, e3, e4⟩ := ih2
      refine ⟨n :: ns, by simp, by rw [e1]; simp, e2, by rw [e3, k2, h2]; simp; omega, fun r hr => hgo r (e4 r ?_)⟩
      simpa using hr
  | @done p vs q n q' ha ht hb hc =>
    intro S o op hf ho hk
    obtain ⟨h1, h2, h3, h4⟩ := advR ha
    have hq := adv_Ok hf ho hk ha
    have hs := both_step (text := text) (m := ⟨S, o, p.opn, p.nds⟩) (w := 3) (q := op) (x := .quant op n) (w' := 4) (q' := op) hq (by dsimp only; omega) (by dsimp only; omega) (by rw [ht]; rfl)
    rw [hb] at hs
    obtain ⟨k1, k2, k3, k4⟩ := hs
    have hn := need_step (text := text) (m := ⟨.quant op n :: S, o, q'.opn, q'.nds⟩) (m' := ⟨.quant op n :: S, o, q'.opn, q'.nds⟩) (w := 4) (q := op) (w' := 0) (q' := op) (k := 12) k1
      (fun h => by rw [(knd_colon k1.1).1 h]; rfl)
      (fun h => by
        have h' : q'.tk ≠ .colon := fun e => h ((knd_colon k1.1).2 e)
        have h5 := k1.1
        obtain ⟨tk, at_, fin, opn, nds⟩ := q'
        dsimp only at h' hc h5 ⊢
        cases tk <;> first | rfl | exact (h' rfl).elim | exact (hc rfl).elim | exact h5.elim)
    cases hnd : needP text 12 q' with
    | inl e =>
      rw [hnd] at hn
      unfold VarsR
      rw [← h1]
      exact k4 _ hn
    | inr q2 =>
      rw [hnd] at hn
      obtain ⟨g1, g2, g3, g4⟩ := hn
      refine ⟨[n], by simp, rfl, g1, by simp; omega, fun r hr => ?_⟩
      rw [← h1]
      refine k4 r (g4 r ?_)
      have e1 : q2.opn = q'.opn := g2
      have e2 : q2.nds = q'.nds := g3
      rw [← e1, ← e2]
      simpa using hr
theorem post_quT (op : Int) : ∀ (ns : List Int) (x : T), post (quT op ns x) = post x ++ nd (ns.reverse.map (Wt.quant op))
  | [], x => by simp [quT, nd]
  | n :: ns, x => by
    have := post_quT op ns x
    simp only [quT, List.foldr_cons] at this ⊢
    rw [post, this]
    simp [nd_app, nd, ndW]
theorem cn_quants (op : Int) (ns : List Int) : cn (ns.map (Wt.quant op)) = ns.length := by
  induction ns with
  | nil => rfl
  | cons n ns ih => simp only [List.map_cons, cn, List.sum_cons, List.length_cons] at ih ⊢; rw [ih]; simp [opW]; omega
end Go.Proofs.YthackanffcaejaaDoor
end
section
set_option linter.unusedSimpArgs false
set_option linter.unusedVariables false
namespace Go.Proofs.YthackanffcaejaaDoor
open Go Go.RowKit Go.SL Go.ClauseP Go.LexP

theorem fourC {b : Nat} (hb : b = 1 ∨ b = 3 ∨ b = 4 ∨ b = 5) : b < 6 := by omega
theorem close_step {text : List UInt8} {q' : Ps} {S pend : List Wt} {o o' : List (Int × Int)} {x : T} {k : Nat} (q : Int) (hq : Ok text q') (hx : o' ++ nd pend = post x) (hG : Good 1 q'.tk pend) (h0 : q'.opn = k + 1) :
    Step text ⟨pend ++ .opn :: S, o ++ o', q'.opn + cn pend, q'.nds⟩ 1 q q' (fun _ => ⟨S, o ++ post x, k, q'.nds⟩) 1 q 0 0 (needP text 10 q') := by
  have hi : innerM (pend ++ .opn :: S) (o ++ o') (q'.opn + cn pend) = (.opn :: S, o ++ post x, q'.opn) := by
    rw [inner_soft pend _ _ _ hG.1, List.append_assoc, hx]; rfl
  refine need_step hq (fun h => ?_) (fun h => ?_)
  · rw [(knd_cls hq.1).1 h]
    simp only [mstep, if_true]
    rw [hi]
    simp only [closeM, h0, Nat.add_sub_cancel]
  · have h' : q'.tk ≠ .cls := fun e => h ((knd_cls hq.1).2 e)
    have h1 := hq.1
    have h2 := hG.noop
    generalize q'.tk = tk at *
    cases tk with
    | cls => exact (h' rfl).elim
    | bad => exact h1.elim
    | op o => exact (h2 _ rfl).elim
    | comma => simp only [mstep, if_true, hi, commaM]
    | fin => simp only [mstep, if_true, hi, finM]
    | _ => rfl
theorem comma_step {text : List UInt8} {q' : Ps} {S pend : List Wt} {o o' : List (Int × Int)} {x : T} {n : Nat} (q : Int) (hn : n < 2) (hq : Ok text q') (hx : o' ++ nd pend = post x) (hG : Good 1 q'.tk pend) :
    Step text ⟨pend ++ .ite n :: S, o ++ o', q'.opn + cn pend, q'.nds⟩ 1 q q' (fun _ => ⟨.ite (n + 1) :: S, o ++ post x, q'.opn, q'.nds⟩) 0 q 0 0 (needP text 11 q') := by
  have hi : innerM (pend ++ .ite n :: S) (o ++ o') (q'.opn + cn pend) = (.ite n :: S, o ++ post x, q'.opn) := by
    rw [inner_soft pend _ _ _ hG.1, List.append_assoc, hx]; rfl
  refine need_step hq (fun h => ?_) (fun h => ?_)
  · rw [(knd_comma hq.1).1 h]
    simp only [mstep, if_true, hi, commaM]
    rw [if_neg (by omega)]
  · have h' : q'.tk ≠ .comma := fun e => h ((knd_comma hq.1).2 e)
    have h1 := hq.1
    have h2 := hG.noop
    generalize q'.tk = tk at *
    cases tk with
    | comma => exact (h' rfl).elim
    | bad => exact h1.elim
    | op o => exact (h2 _ rfl).elim
    | cls => simp only [mstep, if_true, hi, closeM]; rw [if_neg (by omega)]
    | fin => simp only [mstep, if_true, hi, finM]
    | _ => rfl
theorem iteEnd_step {text : List UInt8} {q' : Ps} {S pend : List Wt} {o o' : List (Int × Int)} {x : T} {k : Nat} (q : Int) (hq : Ok text q') (hx : o' ++ nd pend = post x) (hG : Good 1 q'.tk pend) (h0 : q'.opn = k + 1) :
    Step text ⟨pend ++ .ite 2 :: S, o ++ o', q'.opn + cn pend, q'.nds⟩ 1 q q' (fun _ => ⟨S, o ++ (post x ++ [(11, 0)]), k, q'.nds⟩) 1 q 0 0 (needP text 10 q') := by
  have hi : innerM (pend ++ .ite 2 :: S) (o ++ o') (q'.opn + cn pend) = (.ite 2 :: S, o ++ post x, q'.opn) := by
    rw [inner_soft pend _ _ _ hG.1, List.append_assoc, hx]; rfl
  refine need_step hq (fun h => ?_) (fun h => ?_)
  · rw [(knd_cls hq.1).1 h]
    simp only [mstep, if_true]
    rw [hi]
    simp only [closeM, if_true, h0, Nat.add_sub_cancel, List.append_assoc]
  · have h' : q'.tk ≠ .cls := fun e => h ((knd_cls hq.1).2 e)
    have h1 := hq.1
    have h2 := hG.noop
    generalize q'.tk = tk at *
    cases tk with
    | cls => exact (h' rfl).elim
    | bad => exact h1.elim
    | op o => exact (h2 _ rfl).elim
    | comma => simp only [mstep, if_true, hi, commaM]; rw [if_pos (by omega)]
    | fin => simp only [mstep, if_true, hi, finM]
    | _ => rfl
theorem ite_step {text : List UInt8} {p : Ps} (S : List Wt) (o : List (Int × Int)) (q : Int) (hp : Ok text p) (ht : p.tk = .ite) :
    Step text ⟨S, o, p.opn, p.nds⟩ 0 q p (fun p' => ⟨.ite 0 :: S, o, p'.opn, p'.nds⟩) 0 q 1 1 (thenP (thenP (thenP (opensP p) makesP) (advP text)) (needP text 9)) := by
  have h1 := both_step (text := text) (m := ⟨S, o, p.opn, p.nds⟩) (w := 0) (q := q) (x := .ite 0) (w' := 2) (q' := q) hp rfl rfl (by rw [ht]; rfl)
  cases h : thenP (thenP (opensP p) makesP) (advP text) with
  | inl e => rw [h] at h1; exact h1
  | inr q1 =>
    rw [h] at h1
    obtain ⟨a1, a2, a3, a4⟩ := h1
    show Step _ _ _ _ _ _ _ _ _ _ (needP text 9 q1)
    have h2 := need_step (text := text) (m := ⟨.ite 0 :: S, o, q1.opn, q1.nds⟩) (m' := ⟨.ite 0 :: S, o, q1.opn, q1.nds⟩) (w := 2) (q := q) (w' := 0) (q' := q) (k := 9) a1
      (fun h => by rw [(knd_opn a1.1).1 h]; rfl)
      (fun h => by
        have h' : q1.tk ≠ .opn := fun e => h ((knd_opn a1.1).2 e)
        have h5 := a1.1
        generalize q1.tk = tk at *
        cases tk <;> first | rfl | exact (h' rfl).elim | exact h5.elim)
    cases hn : needP text 9 q1 with
    | inl e => rw [hn] at h2; exact a4 _ h2
    | inr q2 =>
      rw [hn] at h2
      obtain ⟨b1, b2, b3, b4⟩ := h2
      refine ⟨b1, by omega, by omega, fun r hr => a4 r (b4 r ?_)⟩
      dsimp only at hr ⊢
      rw [show q1.opn = q2.opn from b2.symm, show q1.nds = q2.nds from b3.symm]
      exact hr
set_option maxHeartbeats 2000000 in
theorem law {text : List UInt8} {tsk : Tsk} {p : Ps} {r : Rt} (h : RD text tsk p r) : Mot text tsk p r := by
  induction h with
  | @lvlE b p e hb _ ih =>
    intro hp S o q hS
    exact ih hp S o q (hS.up (fourC hb))
  | @lvlK b p x q1 r hb _ _ ih1 ih2 =>
    intro hp S o q hS
    obtain ⟨h1, h2, pend, o', q', h3, h4, h5⟩ := ih1 hp S o q (hS.up (fourC hb))
    exact (ih2 h1 hb S o q' pend o' hS h3 h4.weak).comp h2 h5
  | @loopN b x q1 hk =>
    intro hp hb S o q pend o' hS hx hG
    refine ⟨hp, rfl, pend, o', q, hx, ⟨hG.1, fun k hkk => ⟨?_, (hG.2 k hkk).2⟩⟩, fun r hr => hr⟩
    have h1 := (hG.2 k hkk).1
    have h2 : k ≠ oOf b := fun e => hk ((knd_op hp.1 hb).2 (by rw [hkk, e]))
    have h3 : 6 ≤ k ∧ k ≤ 10 := by have := hp.1; rw [hkk] at this; exact this
    unfold bndN at h1 ⊢
    rcases hb with rfl | rfl | rfl | rfl <;> simp only [oOf] at h2 <;> (repeat' split at h1) <;> (repeat' split) <;> omega
  | @loopA b x q1 e hk ha =>
    intro hp hb S o q pend o' hS hx hG
    have hs := loop_step (o := o) q hp hb hS hx hG hk
    rw [ha] at hs
    exact hs
  | @loopE b x q1 q2 e hk ha _ ih =>
    intro hp hb S o q pend o' hS hx hG
    have hs := loop_step (o := o) q hp hb hS hx hG hk
    rw [ha] at hs
    obtain ⟨a1, a2, a3, a4⟩ := hs
    have h1 := ih a1 (.op (oOf b) :: S) (o ++ post x) q (by show bndN (oOf b) < b + 1; rw [bnd_oOf hb]; omega)
    refine a4 _ ?_
    rw [show q1.opn = q2.opn from a2.symm]
    exact h1
  | @loopK b x q1 q2 y q3 r hk ha _ _ ih1 ih2 =>
    intro hp hb S o q pend o' hS hx hG
    have hs := loop_step (o := o) q hp hb hS hx hG hk
    rw [ha] at hs
    obtain ⟨a1, a2, a3, a4⟩ := hs
    obtain ⟨h1, h2, pend2, o2, q', h3, h4, h5⟩ := ih1 a1 (.op (oOf b) :: S) (o ++ post x) q (by show bndN (oOf b) < b + 1; rw [bnd_oOf hb]; omega)
    have h6 := ih2 h1 hb S o q' (pend2 ++ [.op (oOf b)]) (post x ++ o2) hS (by rw [nd_app, ← List.append_assoc, List.append_assoc (post x), h3]; rfl)
      ⟨fun w hw => by
        rcases List.mem_append.1 hw with h | h
        · exact h4.1 w h
        · simp only [List.mem_singleton] at h; exact .inr (.inr ⟨_, h⟩), fun k hk => ⟨(h4.2 k hk).1, fun w hw => by
        rcases List.mem_append.1 hw with h | h
        · exact ((h4.2 k hk).2 w h).imp id fun ⟨z, e1, e2⟩ => ⟨z, e1, by omega⟩
        · simp only [List.mem_singleton] at h; exact .inr ⟨_, h, by rw [bnd_oOf hb]; omega⟩⟩⟩
    refine h6.comp (by omega) fun r hr => a4 r ?_
    rw [show q1.opn = q2.opn from a2.symm]
    refine h5 r ?_
    simp only [List.append_assoc, List.cons_append, List.nil_append, cn_app] at hr ⊢
    exact hr
  | @impE p e _ ih =>
    intro hp S o q hS
    exact ih hp S o q (hS.up (by omega))
  | @impK p x q1 r _ _ ih1 ih2 =>
    intro hp S o q hS
    obtain ⟨h1, h2, pend, o', q', h3, h4, h5⟩ := ih1 hp S o q (hS.up (by omega))
    have h6 := ih2 x [] rfl h1 S o q' pend o' hS h3 h4
    refine h6.comp h2 ?_
    simpa [posts] using h5
  | @impsN xs q1 hk =>
    rintro x rest rfl hp S o q pend o' hS hx hG
    refine ⟨hp, rfl, pend ++ List.replicate rest.length (.op 9), posts rest ++ o', q, ?_, ⟨fun w hw => ?_, fun k hkk => ⟨?_, fun w hw => ?_⟩⟩, fun r hr => ?_⟩
    · rw [nd_app, nd_reps, post_impT, ← hx]; simp
    · rcases List.mem_append.1 hw with h | h
      · exact hG.1 w h
      · exact .inr (.inr ⟨_, List.eq_of_mem_replicate h⟩)
    · have h1 := (hG.2 k hkk).1
      have h2 : k ≠ 9 := fun e => hk ((knd_imp hp.1).2 (by rw [hkk, e]))
      have h3 : 6 ≤ k ∧ k ≤ 10 := by have := hp.1; rw [hkk] at this; exact this
      unfold bndN at h1 ⊢
      (repeat' split at h1) <;> (repeat' split) <;> omega
    · rcases List.mem_append.1 hw with h | h
      · exact ((hG.2 k hkk).2 w h).imp id fun ⟨z, e1, e2⟩ => ⟨z, e1, by omega⟩
      · exact .inr ⟨_, List.eq_of_mem_replicate h, Nat.le_refl _⟩
    · rw [cn_app, cn_reps] at hr
      simpa using hr
  | @impsA xs q1 e hk ha =>
    rintro x rest rfl hp S o q pend o' hS hx hG
    have hs := imps_step (o := o) (rest := rest) q hp hS hx hG hk
    rw [ha] at hs
    exact hs
  | @impsE xs q1 q2 e hk ha _ ih =>
    rintro x rest rfl hp S o q pend o' hS hx hG
    have hs := imps_step (o := o) (rest := rest) q hp hS hx hG hk
    rw [ha] at hs
    obtain ⟨a1, a2, a3, a4⟩ := hs
    have h1 := ih a1 (List.replicate (x :: rest).length (.op 9) ++ S) (o ++ posts (x :: rest)) q (by show bndN 9 < 3; decide)
    refine a4 _ ?_
    rw [show q1.opn = q2.opn from a2.symm]
    exact h1
  | @impsK xs q1 q2 y q3 r hk ha _ _ ih1 ih2 =>
    rintro x rest rfl hp S o q pend o' hS hx hG
    have hs := imps_step (o := o) (rest := rest) q hp hS hx hG hk
    rw [ha] at hs
    obtain ⟨a1, a2, a3, a4⟩ := hs
    obtain ⟨h1, h2, pend2, o2, q', h3, h4, h5⟩ := ih1 a1 (List.replicate (x :: rest).length (.op 9) ++ S) (o ++ posts (x :: rest)) q (by show bndN 9 < 3; decide)
    have h6 := ih2 y (x :: rest) rfl h1 S o q' pend2 o2 hS h3 h4
    refine h6.comp (by omega) fun r hr => a4 r ?_
    rw [show q1.opn = q2.opn from a2.symm]
    exact h5 r hr
  | @notA p e ht ha =>
    intro hp S o q hS
    have hs := both_step (text := text) (m := ⟨S, o, p.opn, p.nds⟩) (w := 0) (q := q) (x := .not) (w' := 0) (q' := q) hp rfl rfl (by rw [ht]; rfl)
    rw [ha] at hs
    exact hs
  | @notE p q1 e ht ha _ ih =>
    intro hp S o q hS
    have hs := both_step (text := text) (m := ⟨S, o, p.opn, p.nds⟩) (w := 0) (q := q) (x := .not) (w' := 0) (q' := q) hp rfl rfl (by rw [ht]; rfl)
    rw [ha] at hs
    obtain ⟨a1, a2, a3, a4⟩ := hs
    exact a4 _ (ih a1 (.not :: S) o q (stops6 _))
  | @notK p q1 x q2 ht ha _ ih =>
    intro hp S o q hS
    have hs := both_step (text := text) (m := ⟨S, o, p.opn, p.nds⟩) (w := 0) (q := q) (x := .not) (w' := 0) (q' := q) hp rfl rfl (by rw [ht]; rfl)
    rw [ha] at hs
    obtain ⟨a1, a2, a3, a4⟩ := hs
    obtain ⟨h1, h2, pend, o', q', h3, h4, h5⟩ := ih a1 (.not :: S) o q (stops6 _)
    refine ⟨h1.less 1, by dsimp only; omega, pend ++ [.not], o', q', by rw [nd_app, ← List.append_assoc, h3]; rfl, ⟨fun w hw => ?_, fun k hk => ⟨bnd6 k, fun w hw => ?_⟩⟩, fun r hr => a4 r (h5 r ?_)⟩
    · rcases List.mem_append.1 hw with h | h
      · exact h4.1 w h
      · simp only [List.mem_singleton] at h; exact .inl h
    · rcases List.mem_append.1 hw with h | h
      · exact (h4.2 k hk).2 w h
      · simp only [List.mem_singleton] at h; exact .inl h
    · dsimp only at hr
      rw [List.append_assoc, cn_app, show q2.opn - 1 + (cn pend + cn [Wt.not]) = q2.opn + cn pend by show q2.opn - 1 + (cn pend + 1) = _; omega] at hr
      exact hr
  | @quA p op e ht hv =>
    intro hp S o q hS
    have hs : mstep ⟨S, o, p.opn, p.nds⟩ 0 q p.tk = .go ⟨S, o, p.opn, p.nds⟩ 3 op := by rw [ht]; rfl
    exact .go hs (vars_law hv S o op hp.2.2.2.1 hp.2.1 hp.2.2.1)
  | @quE p op vs q1 e ht hv _ ih =>
    intro hp S o q hS
    have hs : mstep ⟨S, o, p.opn, p.nds⟩ 0 q p.tk = .go ⟨S, o, p.opn, p.nds⟩ 3 op := by rw [ht]; rfl
    obtain ⟨ns, e0, e1, e2, e3, e4⟩ := vars_law hv S o op hp.2.2.2.1 hp.2.1 hp.2.2.1
    have hst : Stops 1 (ns.reverse.map (Wt.quant op) ++ S) := by
      obtain ⟨n, l, hl⟩ : ∃ n l, ns.reverse = n :: l := by
        cases h : ns.reverse with
        | nil => simp at h; exact (e0 h).elim
        | cons n l => exact ⟨n, l, rfl⟩
      rw [hl]; trivial
    exact .go hs (e4 _ (ih e2 _ o op hst))
  | @quK p op vs q1 x q2 ht hv _ ih =>
    intro hp S o q hS
    have hs : mstep ⟨S, o, p.opn, p.nds⟩ 0 q p.tk = .go ⟨S, o, p.opn, p.nds⟩ 3 op := by rw [ht]; rfl
    obtain ⟨ns, e0, e1, e2, e3, e4⟩ := vars_law hv S o op hp.2.2.2.1 hp.2.1 hp.2.2.1
    simp only [List.nil_append] at e1
    subst e1
    have hst : Stops 1 (vs.reverse.map (Wt.quant op) ++ S) := by
      obtain ⟨n, l, hl⟩ : ∃ n l, vs.reverse = n :: l := by
        cases h : vs.reverse with
        | nil => simp at h; exact (e0 h).elim
        | cons n l => exact ⟨n, l, rfl⟩
      rw [hl]; trivial
    obtain ⟨h1, h2, pend, o', q', h3, h4, h5⟩ := ih e2 _ o op hst
    refine ⟨h1.less _, by dsimp only; omega, pend ++ vs.reverse.map (Wt.quant op), o', q', by rw [nd_app, ← List.append_assoc, h3, post_quT], ⟨fun w hw => ?_, fun k hk => (h4.noop k hk).elim⟩, fun r hr => .go hs (e4 r (h5 r ?_))⟩
    · rcases List.mem_append.1 hw with h | h
      · exact h4.1 w h
      · obtain ⟨n, _, rfl⟩ := List.mem_map.1 h
        exact .inr (.inl ⟨_, _, rfl⟩)
    · dsimp only at hr
      have hc : cn (vs.reverse.map (Wt.quant op)) = vs.length := by rw [cn_quants, List.length_reverse]
      rw [List.append_assoc, cn_app, hc, show q2.opn - vs.length + (cn pend + vs.length) = q2.opn + cn pend by omega] at hr
      exact hr
  | @cst p n ht =>
    intro hp S o q hS
    have hs := makes_step (text := text) (m := ⟨S, o, p.opn, p.nds⟩) (w := 0) (q := q) (w' := 1) (q' := q) (g := fun m => ⟨m.st, m.out ++ [(1, n)], m.opn, m.nds⟩) hp rfl (by rw [ht]; rfl)
    cases ha : thenP (makesP p) (advP text) with
    | inl e => rw [ha] at hs; exact hs
    | inr q1 =>
      rw [ha] at hs
      obtain ⟨a1, a2, a3, a4⟩ := hs
      refine ⟨a1, a2, [], [(1, n)], q, rfl, .nil fun k _ => bnd6 k, fun r hr => a4 r ?_⟩
      dsimp only
      rw [show p.opn = q1.opn from a2.symm]
      exact hr
  | @var p n ht =>
    intro hp S o q hS
    have hs := makes_step (text := text) (m := ⟨S, o, p.opn, p.nds⟩) (w := 0) (q := q) (w' := 1) (q' := q) (g := fun m => ⟨m.st, m.out ++ [(2, n)], m.opn, m.nds⟩) hp rfl (by rw [ht]; rfl)
    cases ha : thenP (makesP p) (advP text) with
    | inl e => rw [ha] at hs; exact hs
    | inr q1 =>
      rw [ha] at hs
      obtain ⟨a1, a2, a3, a4⟩ := hs
      refine ⟨a1, a2, [], [(2, n)], q, rfl, .nil fun k _ => bnd6 k, fun r hr => a4 r ?_⟩
      dsimp only
      rw [show p.opn = q1.opn from a2.symm]
      exact hr
  | @opnA p e ht ha =>
    intro hp S o q hS
    have hs := opens_step (text := text) (m := ⟨S, o, p.opn, p.nds⟩) (w := 0) (q := q) (x := .opn) (w' := 0) (q' := q) hp rfl (by rw [ht]; rfl)
    rw [ha] at hs
    exact hs
  | @opnE p q1 e ht ha _ ih =>
    intro hp S o q hS
    have hs := opens_step (text := text) (m := ⟨S, o, p.opn, p.nds⟩) (w := 0) (q := q) (x := .opn) (w' := 0) (q' := q) hp rfl (by rw [ht]; rfl)
    rw [ha] at hs
    obtain ⟨a1, a2, a3, a4⟩ := hs
    refine a4 _ ?_
    dsimp only
    rw [show p.nds = q1.nds from a3.symm]
    exact ih a1 (.opn :: S) o q trivial
  | @opnK p q1 x q2 ht ha _ ih =>
    intro hp S o q hS
    have hs := opens_step (text := text) (m := ⟨S, o, p.opn, p.nds⟩) (w := 0) (q := q) (x := .opn) (w' := 0) (q' := q) hp rfl (by rw [ht]; rfl)
    rw [ha] at hs
    obtain ⟨a1, a2, a3, a4⟩ := hs
    obtain ⟨h1, h2, pend, o', q', h3, h4, h5⟩ := ih a1 (.opn :: S) o q trivial
    have hc := close_step (S := S) (o := o) (k := p.opn) q' h1 h3 h4 (by omega)
    have hgo : ∀ r, MRun text ⟨pend ++ .opn :: S, o ++ o', q2.opn + cn pend, q2.nds⟩ 1 q' (tokR q2) r → MRun text ⟨S, o, p.opn, p.nds⟩ 0 q (tokR p) r := fun r hr => a4 r (by
      dsimp only
      rw [show p.nds = q1.nds from a3.symm]
      exact h5 r hr)
    cases hn : needP text 10 q2 with
    | inl e => rw [hn] at hc; exact hgo _ hc
    | inr q3 =>
      rw [hn] at hc
      obtain ⟨b1, b2, b3, b4⟩ := hc
      refine ⟨b1.less 1, by dsimp only; omega, [], post x, q', by simp [nd], .nil fun k _ => bnd6 k, fun r hr => hgo r (b4 r ?_)⟩
      dsimp only at hr ⊢
      rw [show q3.opn - 1 + cn [] = p.opn by show q3.opn - 1 + 0 = _; omega, show q3.nds = q2.nds from b3] at hr
      exact hr
  | @iteA p e ht ha =>
    intro hp S o q hS
    have hs := ite_step S o q hp ht
    rw [ha] at hs
    exact hs
  | @iteC p q0 e ht ha _ ih =>
    intro hp S o q hS
    have hs := ite_step S o q hp ht
    rw [ha] at hs
    obtain ⟨a1, a2, a3, a4⟩ := hs
    exact a4 _ (ih a1 (.ite 0 :: S) o q trivial)
  | @iteD p q0 c q1 e ht ha _ hn ih =>
    intro hp S o q hS
    have hs := ite_step S o q hp ht
    rw [ha] at hs
    obtain ⟨a1, a2, a3, a4⟩ := hs
    obtain ⟨h1, h2, pend, o', q', h3, h4, h5⟩ := ih a1 (.ite 0 :: S) o q trivial
    have hc := comma_step (S := S) (o := o) q' (n := 0) (by omega) h1 h3 h4
    rw [hn] at hc
    exact a4 _ (h5 _ hc)
  | @iteE p q0 c q1 q2 e ht ha _ hn _ ih ih2 =>
    intro hp S o q hS
    have hs := ite_step S o q hp ht
    rw [ha] at hs
    obtain ⟨a1, a2, a3, a4⟩ := hs
    obtain ⟨h1, h2, pend, o', q', h3, h4, h5⟩ := ih a1 (.ite 0 :: S) o q trivial
    have hc := comma_step (S := S) (o := o) q' (n := 0) (by omega) h1 h3 h4
    rw [hn] at hc
    obtain ⟨b1, b2, b3, b4⟩ := hc
    refine a4 _ (h5 _ (b4 _ ?_))
    have := ih2 b1 (.ite 1 :: S) (o ++ post c) q' trivial
    dsimp only
    rw [show q1.opn = q2.opn from b2.symm, show q1.nds = q2.nds from b3.symm]
    exact this
  | @iteF p q0 c q1 q2 a q3 e ht ha _ hn _ hn2 ih ih2 =>
    intro hp S o q hS
    have hs := ite_step S o q hp ht
    rw [ha] at hs
    obtain ⟨a1, a2, a3, a4⟩ := hs
    obtain ⟨h1, h2, pend, o', q', h3, h4, h5⟩ := ih a1 (.ite 0 :: S) o q trivial
    have hc := comma_step (S := S) (o := o) q' (n := 0) (by omega) h1 h3 h4
    rw [hn] at hc
    obtain ⟨b1, b2, b3, b4⟩ := hc
    refine a4 _ (h5 _ (b4 _ ?_))
    obtain ⟨i1, i2, pend2, o2, q'', i3, i4, i5⟩ := ih2 b1 (.ite 1 :: S) (o ++ post c) q' trivial
    dsimp only
    rw [show q1.opn = q2.opn from b2.symm, show q1.nds = q2.nds from b3.symm]
    refine i5 _ ?_
    have hc2 := comma_step (S := S) (o := o ++ post c) q'' (n := 1) (by omega) i1 i3 i4
    rw [hn2] at hc2
    exact hc2
  | @iteG p q0 c q1 q2 a q3 q4 e ht ha _ hn _ hn2 _ ih ih2 ih3 =>
    intro hp S o q hS
    have hs := ite_step S o q hp ht
    rw [ha] at hs
    obtain ⟨a1, a2, a3, a4⟩ := hs
    obtain ⟨h1, h2, pend, o', q', h3, h4, h5⟩ := ih a1 (.ite 0 :: S) o q trivial
    have hc := comma_step (S := S) (o := o) q' (n := 0) (by omega) h1 h3 h4
    rw [hn] at hc
    obtain ⟨b1, b2, b3, b4⟩ := hc
    refine a4 _ (h5 _ (b4 _ ?_))
    obtain ⟨i1, i2, pend2, o2, q'', i3, i4, i5⟩ := ih2 b1 (.ite 1 :: S) (o ++ post c) q' trivial
    dsimp only
    rw [show q1.opn = q2.opn from b2.symm, show q1.nds = q2.nds from b3.symm]
    refine i5 _ ?_
    have hc2 := comma_step (S := S) (o := o ++ post c) q'' (n := 1) (by omega) i1 i3 i4
    rw [hn2] at hc2
    obtain ⟨c1, c2, c3, c4⟩ := hc2
    refine c4 _ ?_
    have := ih3 c1 (.ite 2 :: S) (o ++ post c ++ post a) q'' trivial
    dsimp only
    rw [show q3.opn = q4.opn from c2.symm, show q3.nds = q4.nds from c3.symm]
    exact this
  | @iteK p q0 c q1 q2 a q3 q4 b q5 ht ha _ hn _ hn2 _ ih ih2 ih3 =>
    intro hp S o q hS
    have hs := ite_step S o q hp ht
    rw [ha] at hs
    obtain ⟨a1, a2, a3, a4⟩ := hs
    obtain ⟨h1, h2, pend, o', q', h3, h4, h5⟩ := ih a1 (.ite 0 :: S) o q trivial
    have hc := comma_step (S := S) (o := o) q' (n := 0) (by omega) h1 h3 h4
    rw [hn] at hc
    obtain ⟨b1, b2, b3, b4⟩ := hc
    obtain ⟨i1, i2, pend2, o2, q'', i3, i4, i5⟩ := ih2 b1 (.ite 1 :: S) (o ++ post c) q' trivial
    have hc2 := comma_step (S := S) (o := o ++ post c) q'' (n := 1) (by omega) i1 i3 i4
    rw [hn2] at hc2
    obtain ⟨c1, c2, c3, c4⟩ := hc2
    obtain ⟨j1, j2, pend3, o3, q3', j3, j4, j5⟩ := ih3 c1 (.ite 2 :: S) (o ++ post c ++ post a) q'' trivial
    have hce := iteEnd_step (S := S) (o := o ++ post c ++ post a) (k := p.opn) q3' j1 j3 j4 (by omega)
    have hgo : ∀ r, MRun text ⟨pend3 ++ .ite 2 :: S, o ++ post c ++ post a ++ o3, q5.opn + cn pend3, q5.nds⟩ 1 q3' (tokR q5) r → MRun text ⟨S, o, p.opn, p.nds⟩ 0 q (tokR p) r := by
      intro r hr
      refine a4 _ (h5 _ (b4 _ ?_))
      dsimp only
      rw [show q1.opn = q2.opn from b2.symm, show q1.nds = q2.nds from b3.symm]
      refine i5 _ (c4 _ ?_)
      dsimp only
      rw [show q3.opn = q4.opn from c2.symm, show q3.nds = q4.nds from c3.symm]
      exact j5 r hr
    cases hn3 : needP text 10 q5 with
    | inl e => rw [hn3] at hce; exact hgo _ hce
    | inr q6 =>
      rw [hn3] at hce
      obtain ⟨d1, d2, d3, d4⟩ := hce
      refine ⟨d1.less 1, by dsimp only; omega, [], post c ++ post a ++ post b ++ [(11, 0)], q3', by simp [nd, post], .nil fun k _ => bnd6 k, fun r hr => hgo r (d4 r ?_)⟩
      dsimp only at hr ⊢
      rw [show q6.opn - 1 + cn [] = p.opn by show q6.opn - 1 + 0 = _; omega, show q6.nds = q5.nds from d3] at hr
      simp only [List.append_assoc] at hr ⊢
      exact hr
  | @else_ p h1 h2 h3 h4 =>
    intro hp S o q hS
    refine err_run ?_
    have h5 := hp.1
    have h6 := h1 p.tk (by simp)
    generalize p.tk = tk at *
    cases tk with
    | bad => exact h5.elim
    | const n => exact (h2 _ rfl).elim
    | var n => exact (h3 _ rfl).elim
    | quant n => exact (h4 _ rfl).elim
    | not => exact (h6.1 rfl).elim
    | opn => exact (h6.2.1 rfl).elim
    | ite => exact (h6.2.2 rfl).elim
    | _ => rfl
end Go.Proofs.YthackanffcaejaaDoor
end
section
set_option linter.unusedSimpArgs false
set_option linter.unusedVariables false
namespace Go.Proofs.YthackanffcaejaaDoor
open Go Go.RowKit Go.SL Go.ClauseP Go.LexP

def p00 : Ps := ⟨.fin, 0, 0, 0, 0⟩
def m00 : MS := ⟨[], [], 0, 0⟩
def endR (text : List UInt8) : Rt → (Int × Nat) ⊕ T
  | .inl e => .inl e
  | .inr (x, q) => match needP text 0 q with
    | .inl e => .inl e
    | .inr _ => .inr x
def ParseR (text : List UInt8) (r : (Int × Nat) ⊕ T) : Prop := match advP text p00 with
  | .inl e => r = .inl e
  | .inr p => ∃ r1, RD text (.lvl 1) p r1 ∧ r = endR text r1
def ansT : (Int × Nat) ⊕ T → Ans
  | .inl e => .inl e
  | .inr x => .inr (post x)
theorem end_run {text : List UInt8} {q : Ps} {pend : List Wt} {o' : List (Int × Int)} {x : T} (k : Nat) (q' : Int) (hq : Ok text q) (hx : o' ++ nd pend = post x) (hG : Good 1 q.tk pend) :
    MRun text ⟨pend ++ [], [] ++ o', k + cn pend, q.nds⟩ 1 q' (tokR q) (ansT (endR text (.inr (x, q)))) := by
  have hi : innerM (pend ++ []) ([] ++ o') (k + cn pend) = ([], post x, k) := by
    rw [inner_soft pend _ _ _ hG.1, List.append_assoc, hx]; rfl
  simp only [endR, needP]
  by_cases hk : knd q = 0
  · have ht := (knd_fin hq.1).1 hk
    have hf := hq.2.2.2.2 ht
    have ha : advP text q = .inr ⟨.fin, text.length, text.length, q.opn, q.nds⟩ := by
      unfold advP; rw [hf, nextT_end]
    rw [if_pos hk, ha]
    refine .done ?_
    show mstep _ _ _ q.tk = _
    rw [ht]
    simp only [mstep, if_true]
    rw [hi]; rfl
  · rw [if_neg hk]
    refine err_run ?_
    have h' : q.tk ≠ .fin := fun e => hk ((knd_fin hq.1).2 e)
    have h1 := hq.1
    have h2 := hG.noop
    generalize q.tk = tk at *
    cases tk with
    | fin => exact (h' rfl).elim
    | bad => exact h1.elim
    | op o => exact (h2 _ rfl).elim
    | comma => simp only [mstep, if_true]; rw [hi]; rfl
    | cls => simp only [mstep, if_true]; rw [hi]; rfl
    | _ => rfl
theorem parse_law {text : List UInt8} {r : (Int × Nat) ⊕ T} (h : ParseR text r) : MRun text m00 0 0 (nextT text 0) (ansT r) := by
  unfold ParseR at h
  cases ha : advP text p00 with
  | inl e =>
    rw [ha] at h
    have h : r = .inl e := h
    subst h
    exact adv_run ha _ _ _
  | inr p =>
    rw [ha] at h
    obtain ⟨r1, hrd, rfl⟩ := h
    have hp := adv_Ok (p := p00) (Nat.zero_le _) (Nat.zero_le _) (Nat.zero_le _) ha
    obtain ⟨h1, h2, h3, _⟩ := advR ha
    have hl := law hrd hp [] [] 0 trivial
    have e0 : p.opn = 0 := h2
    have e1 : p.nds = 0 := h3
    rw [e0, e1] at hl
    have e2 : nextT text 0 = tokR p := h1.symm
    rw [e2]
    rcases r1 with e | ⟨x, q⟩
    · exact hl
    · obtain ⟨k1, k2, pend, o', q', k3, k4, k5⟩ := hl
      exact k5 _ (end_run q.opn q' k1 k3 k4)
theorem MRun.place {text : List UInt8} {m : MS} {w q : Int} {t : TokR} {r : Ans} (h : MRun text m w q t r) : t.at_ ≤ text.length → t.fin ≤ text.length → ∀ e a, r = .inl (e, a) → a ≤ text.length := by
  induction h with
  | err h => intro h1 _ e a he; injection he with he; injection he with _ he; rw [← he]; exact h1
  | done h => intro _ _ e a he; cases he
  | @go m w q t m' w' q' r hs _ ih =>
    intro _ h2
    refine ih ?_ (nextT_le text t.fin h2)
    have h3 := skipP_len text t.fin h2
    unfold nextT
    split
    · exact Nat.le_refl _
    · exact h3
theorem start_place {text : List UInt8} {r : Ans} (h : MRun text m00 0 0 (nextT text 0) r) {e : Int} {a : Nat} (he : r = .inl (e, a)) : a ≤ text.length := by
  refine h.place ?_ (nextT_le text 0 (Nat.zero_le _)) e a he
  have h3 := skipP_len text 0 (Nat.zero_le _)
  unfold nextT
  split
  · exact Nat.le_refl _
  · exact h3
end Go.Proofs.YthackanffcaejaaDoor
end
section
set_option linter.unusedSimpArgs false
set_option linter.unusedVariables false
namespace Go.Proofs.YthackanffcaejaaDoor
open Go Go.RowKit Go.SL Go.ClauseP Go.LexP

def nnW : Wt → Nat
  | .opn => 0
  | _ => 1
def sW (s : List Wt) : Nat := (s.map opW).sum
def sN (s : List Wt) : Nat := (s.map nnW).sum
theorem s_le : ∀ s : List Wt, s.length ≤ sW s + sN s
  | [] => by simp [sW, sN]
  | w :: s => by
    have := s_le s
    have h : 1 ≤ opW w + nnW w := by cases w <;> simp [opW, nnW]
    simp only [sW, sN, List.map_cons, List.sum_cons, List.length_cons] at this ⊢
    omega
def MInv (m : MS) : Prop := m.opn = sW m.st ∧ sN m.st + m.out.length = m.nds ∧ m.opn ≤ 64 ∧ m.nds ≤ 65536
def Inv3 (nds : Nat) (x : List Wt × List (Int × Int) × Nat) : Prop := x.2.2 = sW x.1 ∧ sN x.1 + x.2.1.length = nds ∧ x.2.2 ≤ 64
theorem Inv3.settle {nds : Nat} {w : Wt} {S : List Wt} {o : List (Int × Int)} {k : Nat} (h : Inv3 nds (w :: S, o, k)) (hw : w ≠ .opn) : Inv3 nds (S, o ++ ndW w, k - opW w) := by
  obtain ⟨h1, h2, h3⟩ := h
  simp only [sW, sN, List.map_cons, List.sum_cons] at h1 h2
  have e : (ndW w).length = nnW w := by cases w <;> first | rfl | exact (hw rfl).elim
  refine ⟨?_, ?_, ?_⟩
  · show k - opW w = sW S; unfold sW; omega
  · show sN S + (o ++ ndW w).length = nds; rw [List.length_append, e]; unfold sN; omega
  · show k - opW w ≤ 64; have : k ≤ 64 := h3; omega
theorem inner_inv {nds : Nat} : ∀ (S : List Wt) (o : List (Int × Int)) (k : Nat), Inv3 nds (S, o, k) → Inv3 nds (innerM S o k)
  | [], o, k, h => h
  | w :: S, o, k, h => by
    cases w with
    | opn => exact h
    | ite n => exact h
    | not => exact inner_inv S _ _ (h.settle (by simp))
    | quant a b => exact inner_inv S _ _ (h.settle (by simp))
    | op a => exact inner_inv S _ _ (h.settle (by simp))
theorem oper_inv {nds : Nat} (op : Int) : ∀ (S : List Wt) (o : List (Int × Int)) (k : Nat), Inv3 nds (S, o, k) → Inv3 nds (operM op S o k)
  | [], o, k, h => h
  | w :: S, o, k, h => by
    cases w with
    | opn => exact h
    | ite n => exact h
    | quant a b => exact h
    | not => exact oper_inv op S _ _ (h.settle (w := .not) (by simp))
    | op a =>
      simp only [operM]
      split
      · exact h
      · exact oper_inv op S _ _ (h.settle (w := .op a) (by simp))
theorem push_inv {m : MS} (h : MInv m) (x : Wt) (hx : x ≠ .opn) (h1 : m.opn + opW x ≤ 64) (h2 : m.nds + 1 ≤ 65536) : MInv ⟨x :: m.st, m.out, m.opn + opW x, m.nds + 1⟩ := by
  obtain ⟨a, b, c, d⟩ := h
  have e : nnW x = 1 := by cases x <;> first | rfl | exact (hx rfl).elim
  refine ⟨?_, ?_, h1, h2⟩
  · show m.opn + opW x = sW (x :: m.st); simp only [sW, List.map_cons, List.sum_cons] at a ⊢; omega
  · show sN (x :: m.st) + m.out.length = m.nds + 1; simp only [sN, List.map_cons, List.sum_cons] at b ⊢; omega
theorem MInv.small {m : MS} (h : MInv m) : m.opn = (m.st.map opW).sum ∧ m.st.length ≤ 200000 ∧ m.out.length + m.st.length ≤ 400000 ∧ m.opn ≤ 64 ∧ m.nds ≤ 65536 := by
  obtain ⟨a, b, c, d⟩ := h
  have := s_le m.st
  exact ⟨a, by omega, by omega, c, d⟩
theorem MInv.start : MInv m00 := ⟨rfl, rfl, by decide, by decide⟩
theorem step_inv {m m' : MS} {want q w' q' : Int} {tk : Tk} (h : MInv m) (hs : mstep m want q tk = .go m' w' q') : MInv m' := by
  have h3 : Inv3 m.nds (m.st, m.out, m.opn) := ⟨h.1, h.2.1, h.2.2.1⟩
  have hi := inner_inv _ _ _ h3
  have h64 := h.2.2.1
  have h65 := h.2.2.2
  cases tk with
  | bad e => cases hs
  | const n =>
    simp only [mstep, makesM] at hs
    split at hs
    rotate_left
    · cases hs
    split at hs
    · cases hs
    injection hs with e1 e2 e3
    subst e1
    exact ⟨h.1, by simp only [List.length_append, List.length_cons, List.length_nil]; have := h.2.1; omega, h64, by dsimp only; omega⟩
  | var n =>
    simp only [mstep, makesM, opensM] at hs
    split at hs
    · split at hs
      · cases hs
      injection hs with e1 e2 e3
      subst e1
      exact ⟨h.1, by simp only [List.length_append, List.length_cons, List.length_nil]; have := h.2.1; omega, h64, by dsimp only; omega⟩
    · split at hs
      rotate_left
      · cases hs
      split at hs
      · cases hs
      split at hs
      · cases hs
      injection hs with e1 e2 e3
      subst e1
      exact push_inv h (.quant q n) (by simp) (by simp only [opW]; omega) (by omega)
  | quant o =>
    simp only [mstep] at hs
    split at hs
    rotate_left
    · cases hs
    injection hs with e1 e2 e3
    subst e1; exact h
  | opn =>
    simp only [mstep, opensM] at hs
    split at hs
    · split at hs
      · cases hs
      injection hs with e1 e2 e3
      subst e1
      refine ⟨?_, by show sN (.opn :: m.st) + m.out.length = m.nds; have := h.2.1; simp only [sN, List.map_cons, List.sum_cons, nnW] at this ⊢; omega, by dsimp only; omega, h65⟩
      show m.opn + 1 = sW (.opn :: m.st)
      have := h.1
      simp only [sW, List.map_cons, List.sum_cons, opW] at this ⊢; omega
    · split at hs
      rotate_left
      · cases hs
      injection hs with e1 e2 e3
      subst e1; exact h
  | ite =>
    simp only [mstep, makesM, opensM] at hs
    split at hs
    rotate_left
    · cases hs
    split at hs
    · cases hs
    split at hs
    · cases hs
    injection hs with e1 e2 e3
    subst e1
    exact push_inv h (.ite 0) (by simp) (by simp only [opW]; omega) (by omega)
  | not =>
    simp only [mstep, makesM, opensM] at hs
    split at hs
    rotate_left
    · cases hs
    split at hs
    · cases hs
    split at hs
    · cases hs
    injection hs with e1 e2 e3
    subst e1
    exact push_inv h .not (by simp) (by simp only [opW]; omega) (by omega)
  | op o =>
    simp only [mstep, makesM] at hs
    split at hs
    rotate_left
    · cases hs
    split at hs
    · cases hs
    injection hs with e1 e2 e3
    subst e1
    obtain ⟨a, b, c⟩ := oper_inv o _ _ _ h3
    exact push_inv (m := ⟨_, _, _, m.nds⟩) ⟨a, b, c, h65⟩ (.op o) (by simp) (by simp only [opW]; exact c) (by dsimp only; omega)
  | cls =>
    simp only [mstep] at hs
    split at hs
    rotate_left
    · cases hs
    generalize innerM m.st m.out m.opn = x at *
    obtain ⟨S, o, k⟩ := x
    rcases S with _ | ⟨w, S⟩
    · cases hs
    · obtain ⟨a, b, c⟩ := hi
      cases w with
      | opn =>
        simp only [closeM] at hs
        injection hs with e1 e2 e3
        subst e1
        simp only [sW, sN, List.map_cons, List.sum_cons, opW, nnW] at a b
        exact ⟨by show k - 1 = sW S; unfold sW; omega, by show sN S + o.length = m.nds; unfold sN; omega, by show k - 1 ≤ 64; have : k ≤ 64 := c; omega, h65⟩
      | ite n =>
        simp only [closeM] at hs
        split at hs
        rotate_left
        · cases hs
        injection hs with e1 e2 e3
        subst e1
        simp only [sW, sN, List.map_cons, List.sum_cons, opW, nnW] at a b
        exact ⟨by show k - 1 = sW S; unfold sW; omega, by show sN S + (o ++ [(11, 0)]).length = m.nds; unfold sN; simp only [List.length_append, List.length_cons, List.length_nil]; omega, by show k - 1 ≤ 64; have : k ≤ 64 := c; omega, h65⟩
      | _ => cases hs
  | comma =>
    simp only [mstep] at hs
    split at hs
    · generalize innerM m.st m.out m.opn = x at *
      obtain ⟨S, o, k⟩ := x
      rcases S with _ | ⟨w, S⟩
      · cases hs
      · obtain ⟨a, b, c⟩ := hi
        cases w with
        | ite n =>
          simp only [commaM] at hs
          split at hs
          · cases hs
          injection hs with e1 e2 e3
          subst e1
          exact ⟨a, b, c, h65⟩
        | _ => cases hs
    · split at hs
      rotate_left
      · cases hs
      injection hs with e1 e2 e3
      subst e1; exact h
  | colon =>
    simp only [mstep] at hs
    split at hs
    rotate_left
    · cases hs
    injection hs with e1 e2 e3
    subst e1; exact h
  | fin =>
    simp only [mstep] at hs
    split at hs
    rotate_left
    · cases hs
    generalize innerM m.st m.out m.opn = x at *
    obtain ⟨S, o, k⟩ := x
    cases S <;> cases hs
end Go.Proofs.YthackanffcaejaaDoor
end
