/- A region walked at the wide fence serves in a round of a range over a function too. -/
import Derived.Test.YthackanffcaejaaDoorDraw
import Derived.OrdersIn
import Derived.RangeFuncNested
import Derived.RangeFuncBound
import Derived.RangeFuncCalls
import Derived.RangeFuncLeaves
import Derived.RangeFuncRecord
set_option linter.unusedVariables false
set_option linter.unusedSimpArgs false
namespace Go.SL
open Go Go.RowKit

section
variable {P : Program} {ops : Array Oper} {Q : Exit → Act → World → Prop} {n l : Nat}

theorem rowsIn_wide {m : Nat} {row : String} {args : Array Value} {w : World} {R : Value → World → Prop} (h : Rows P row args w R) : RowsIn Fence.wide m P row args w R := by
  intro c cs _
  obtain ⟨v, w', hR, hs⟩ := h c cs
  exact ⟨v, w', hR, stepsIn_wide.2 hs⟩
theorem oper_in {o : Oper} {a : Act} {w : World} {K K' : Act → World → Prop} (hd : ∀ c, o.op ≠ .defer c) (hq : ¬ LetsOut Q) (hk : ∀ a w, K a w → K' a w) (h : o.wp P a w K Q ∨ (o.asks P a w ∧ LetsOut Q)) :
    o.wpIn (Fence.wide.inRound l) n P a w K' Q := by
  rcases h with h | ⟨_, h⟩
  · refine ⟨fun _ _ => trivial, ?_⟩
    rw [Fence.inRound_round, Oper.semAt_some l a.eval o hd]
    unfold Oper.wp at h
    generalize (execOp a.eval o).run P w = r at *
    cases r with
    | ok x w' =>
      cases x with
      | value v => exact hk _ _ h
      | skip => exact hk _ _ h
      | defer d => exact hk _ _ h
      | enter f args =>
        refine ⟨fun hh => by simp [Fence.wide] at hh, CallsIn.inRound l (CallsIn.mono (callsIn_wide.2 h) fun e w'' he => ?_)⟩
        cases e with
        | returned v => exact hk _ _ he
        | panicked c => exact he
        | outgrown => exact he
      | row row args => exact ⟨fun hh => by simp [Fence.wide] at hh, RowsIn.mono (rowsIn_wide h) fun v w'' he => hk _ _ he⟩
      | _ => exact h.elim
    | halt x w' =>
      cases x <;> first | exact h | exact h.elim
  · exact absurd h hq
theorem list_in (hq : ¬ LetsOut Q) : ∀ (rest : List Oper), (∀ o ∈ rest, ∀ c, o.op ≠ .defer c) → ∀ (a : Act) (w : World), wpList P ops Q rest a w → wpListIn (Fence.wide.inRound l) n P ops Q rest a w
  | [], _, a, w, h => h
  | o :: rest, hd, a, w, h => by
    simp only [wpList, wpListIn] at h ⊢
    split
    · rename_i hw
      rw [if_pos hw] at h
      exact oper_in (hd o (.head _)) hq (list_in hq rest fun o' ho => hd o' (.tail _ ho)) h
    · rename_i hw
      rw [if_neg hw] at h
      exact ⟨fun _ _ => trivial, list_in hq rest (fun o' ho => hd o' (.tail _ ho)) _ _ h⟩
theorem any_in {md : Region.Mode} (hq : ¬ LetsOut Q) (hd : ∀ (i : Nat) o, ops[i]? = some o → ∀ c, o.op ≠ .defer c) : ∀ (fuel : Nat) (listed : Array Bool) (a : Act) (w : World), wpAny P md ops Q fuel listed a w → wpAnyIn (Fence.wide.inRound l) n P md ops Q fuel listed a w
  | 0, listed, a, w, h => h
  | fuel + 1, listed, a, w, h => by
    refine ⟨h.1, fun i hi => ?_⟩
    have h1 := h.2 i hi
    unfold wpOp at h1
    unfold wpOpIn
    cases ho : ops[i]? with
    | none =>
      rw [ho] at h1
      exact any_in hq hd fuel _ _ _ h1
    | some o =>
      rw [ho] at h1
      simp only at h1 ⊢
      split
      · rename_i hw
        rw [if_pos hw] at h1
        exact oper_in (hd i o ho) hq (any_in hq hd fuel _) h1
      · rename_i hw
        rw [if_neg hw] at h1
        exact ⟨fun _ _ => trivial, any_in hq hd fuel _ _ _ h1⟩

/-! ### A range over a function whose body goes on in every round -/
theorem Upd.mid (A : List HP) (x y : HP) (L : List HP) : Upd (A ++ x :: L) x y (A ++ y :: L) := by
  induction A with
  | nil => exact .hd
  | cons c A ih => exact .tl ih
theorem mem_mid (A : List HP) (x : HP) (L : List HP) : x ∈ A ++ x :: L := List.mem_append_right _ (.head _)
theorem Sat.putObj {w0 w : World} {A L : List HP} {b : Nat} {o : Obj} (o' : Obj) (hS : Sat w0 w (A ++ pt b o :: L)) : Sat w0 (w.putObj b o') (A ++ pt b o' :: L) := by
  have h := hS.block (mem_mid A (pt b o) L)
  exact hS.setObj (Upd.mid A _ _ L) rfl rfl rfl (by simp) (World.putObj_heap_same (Array.getElem?_eq_some_iff.1 h).1) fun c hc => World.putObj_heap_other hc
/-- The loop's record. -/
def recOf (fn : FuncId) (a : Act) (ps : Array Tmp) (assign body : Code) (D : Nat) (st : LoopState) : Loop := { state := st, pending := none, fn := fn, tmps := a.tmps, params := ps, assign := assign, body := body, defers := D }
theorem range_sl {σ α : Type} {g : Operand} {ps : Array Tmp} {assign body : Code} {Q : Exit → Act → World → Prop} {a : Act} {w w0 : World} (encs : α → Array Value) (hps : ∀ x, (encs x).size = ps.size)
    (C : σ → List HP) (Ok : σ → α → Prop) (Step : σ → α → σ → Prop) (Fin : σ → Prop) (s0 : σ) (F0 F1 : List HP) (hS : Sat w0 w (C s0 ++ F0)) {gf : Nat} {lb : Array Value} (hg : a.eval g = .func (.func gf) #[] lb)
    (eg : ∀ args w, (callFunc gf args).run P w = .ok (.enter gf args) w) (a₁ : α → Act)
    (hassign : ∀ (l : Nat) (x : α) (W : World) (K : Act → World → Prop), K (a₁ x) W → assign.wpIn (Fence.wide.inRound l) (n - 1 - 1) P (Exit.then K (fun _ _ _ => False)) { tmps := (ps.zip (encs x)).foldl (fun t (p, v) => t.setIfInBounds p v) a.tmps, defers := [] } W)
    (hbody : ∀ (l : Nat) (s : σ) (x : α) (W : World) (Fr : List HP), Ok s x → Sat w0 W (C s ++ Fr) → body.wpIn (Fence.wide.inRound l) (n - 1 - 1) P (fun e _ W' => e = .normal ∧ ∃ s', Step s x s' ∧ Sat w0 W' (C s' ++ Fr)) (a₁ x) W)
    (hiter : ∀ (l : Nat) (lp df : HP) (W : World), Sat w0 W (C s0 ++ lp :: df :: F0) →
      (∀ (s : σ) (x : α) (W1 : World) (X : List HP), Ok s x → Sat w0 W1 (C s ++ lp :: df :: X) → YieldAt Fence.wide (n - 1 - 1) P l (encs x) W1 fun e W' => e = .returned (.bool true) ∧ ∃ s', Step s x s' ∧ Sat w0 W' (C s' ++ lp :: df :: X)) →
      CallsIn Fence.wide (n - 1) P gf (#[.func (.yield l) #[] #[]] ++ lb) W fun e W' => (∃ v, e = .returned v) ∧ ∃ s, Fin s ∧ Sat w0 W' (C s ++ lp :: df :: F1))
    (hdone : ∀ (D : Nat) (s : σ) (W : World), Fin s → Sat w0 W (C s ++ pt D (.deferred (some [])) :: F1) → Q .normal { a with defers := { target := .collected D, args := #[] } :: a.defers } W) :
    (Code.rangeFunc g ps assign body).wpIn Fence.wide n P Q a w := by
  refine wpIn_rangeFunc ?_
  intro fn hfn
  obtain ⟨D, hD⟩ : ∃ D, D = w.heap.size := ⟨_, rfl⟩
  have hl1 : (w.alloc (.deferred (some []))).heap.size = D + 1 := by rw [hD]; simp
  refine ⟨D + 1, [{ target := .collected D, args := #[] }], (w.alloc (.deferred (some []))).alloc (.loop (recOf fn a ps assign body D .ready)), { target := .fn (.func gf) lb, args := #[.func (.yield (D + 1)) #[] #[]] }, (w.alloc (.deferred (some []))).alloc (.loop (recOf fn a ps assign body D .ready)), gf,
    #[.func (.yield (D + 1)) #[] #[]] ++ lb, (w.alloc (.deferred (some []))).alloc (.loop (recOf fn a ps assign body D .ready)), ?_, ?_, fun _ _ => trivial, ?_, fun h => by simp [Fence.wide] at h, ?_⟩
  · rw [Fence.wide_round, hD]; exact run_enterLoop_outer _ _ _ _ _
  · simp only [resolve, hg]
    simp [go_sem]
  · simp [invoke, go_sem, eg]
  · have hS1 := (hS.alloc (.deferred (some []))).alloc (.loop (recOf fn a ps assign body D .ready))
    rw [hl1, ← hD] at hS1
    have hS2 : Sat w0 _ (C s0 ++ pt (D + 1) (.loop (recOf fn a ps assign body D .ready)) :: pt D (.deferred (some [])) :: F0) := hS1.perm fun h H => by
      have e1 := (Rem.mid (C s0) (pt D (.deferred (some [])) :: F0) (pt (D + 1) (.loop (recOf fn a ps assign body D .ready)))).back
      have e2 := (Rem.mid (C s0) F0 (pt D (.deferred (some [])))).back
      exact e1 h (sep_mono (fun h' H' => e2 h' H') H)
    refine (hiter (D + 1) _ _ _ hS2 ?_).mono ?_
    · intro s x W1 X hok hS3
      have hl := hS3.block (mem_mid (C s) _ _)
      have hy := run_yield (P := P) (args := encs x) hl (hps x)
      refine ⟨fn, _, assign, body, hy, roundIn_of_wpIn hfn (hassign _ x W1 _ ?_)⟩
      refine ⟨_, run_beginRound hl rfl, ?_⟩
      have hS4 := hS3.putObj (.loop { recOf fn a ps assign body D .ready with state := .busy })
      refine wpIn_mono (hbody (D + 1) s x _ _ hok hS4) ?_
      rintro e a3 W3 ⟨rfl, s', hst, hS5⟩
      have hl5 := hS5.block (mem_mid (C s') _ _)
      refine ⟨_, _, run_endRound (P := P) none hl5, rfl, s', hst, ?_⟩
      exact hS5.putObj _
    · rintro e W2 ⟨⟨v, rfl⟩, s, hf, hS6⟩
      have hl6 := hS6.block (mem_mid (C s) _ _)
      refine ⟨none, _, run_endLoop (P := P) hl6 (by simp [recOf]), ?_⟩
      have hS7 := hS6.putObj (.loop { recOf fn a ps assign body D .ready with state := .exhausted })
      refine hdone D s _ hf ?_
      exact hS7.less ((List.Sublist.refl (C s)).append (List.sublist_cons_self _ _))
end
end Go.SL
