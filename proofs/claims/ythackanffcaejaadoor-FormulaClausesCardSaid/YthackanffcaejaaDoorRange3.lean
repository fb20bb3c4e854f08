/- One operation inside a fence, by a rule for the wide fence: so every rule of mine serves in a round. -/
import Derived.Test.YthackanffcaejaaDoorRange2
set_option linter.unusedVariables false
set_option linter.unusedSimpArgs false
namespace Go.SL
open Go Go.RowKit
section
variable {n l : Nat} {P : Program} {ops : Array Oper} {Q : Exit → Act → World → Prop} {rest : List Oper} {a : Act} {w : World}
/-- The rest of the walk, as what a wide walk of one operation ends in. -/
def Rest (l n : Nat) (P : Program) (ops : Array Oper) (Q : Exit → Act → World → Prop) (rest : List Oper) : Exit → Act → World → Prop := fun e a w => e = .normal ∧ wpListIn (Fence.wide.inRound l) n P ops Q rest a w
theorem rest_not : ¬ LetsOut (Rest l n P ops Q rest) := fun ⟨_, _, h, _⟩ => by cases h
theorem in_one {o : Oper} (hd : ∀ c, o.op ≠ .defer c) (h : wpList P ops (Rest l n P ops Q rest) [o] a w) : wpListIn (Fence.wide.inRound l) n P ops Q (o :: rest) a w := by
  simp only [wpList] at h
  simp only [wpListIn]
  split
  · rename_i hw
    rw [if_pos hw] at h
    have h2 := oper_in (l := l) (n := n) (K' := wpListIn (Fence.wide.inRound l) n P ops Q rest) hd rest_not (fun a w hk => hk.2) h
    unfold Oper.wpIn at h2 ⊢
    refine ⟨h2.1, ?_⟩
    have h3 := h2.2
    generalize (Oper.semAt (Fence.wide.inRound l).round a.eval o).run P w = r at *
    cases r with
    | ok x w' =>
      cases x <;> simp only [Oper.uponIn] at h3 ⊢ <;> first
        | exact h3
        | exact ⟨h3.1, CallsIn.mono h3.2 (fun e w'' he => by
            cases e with
            | returned v => exact he
            | panicked c => cases he.1
            | outgrown => exact absurd he rest_not)⟩
        | exact ⟨h3.1, RoundIn.mono h3.2 (fun e w'' he => by
            cases e with
            | returned v => exact he
            | panicked c => cases he.1
            | outgrown => exact absurd he rest_not)⟩
    | halt x w' =>
      cases x <;> simp only [Oper.uponIn] at h3 ⊢ <;> first
        | exact h3
        | (obtain ⟨he, _⟩ := h3; cases he)
  · rename_i hw
    rw [if_neg hw] at h
    exact ⟨fun _ _ => trivial, h.2⟩
theorem oper_monoQ {F : Fence} {o : Oper} {K : Act → World → Prop} {Q Q' : Exit → Act → World → Prop} (hq : ∀ e a w, Q e a w → Q' e a w) (h : o.wpIn F n P a w K Q) : o.wpIn F n P a w K Q' := by
  unfold Oper.wpIn at *
  refine ⟨h.1, ?_⟩
  have h3 := h.2
  have hl : LetsOut Q → LetsOut Q' := fun ⟨a, w, h⟩ => ⟨a, w, hq _ _ _ h⟩
  generalize (o.semAt F.round a.eval).run P w = r at *
  cases r with
  | ok x w' =>
    cases x <;> simp only [Oper.uponIn] at h3 ⊢ <;> first
      | exact h3
      | exact ⟨h3.1, CallsIn.mono h3.2 (fun e w'' he => by
          cases e with
          | returned v => exact he
          | panicked c => exact hq _ _ _ he
          | outgrown => exact hl he)⟩
      | exact ⟨h3.1, RoundIn.mono h3.2 (fun e w'' he => by
          cases e with
          | returned v => exact he
          | panicked c => exact hq _ _ _ he
          | outgrown => exact hl he)⟩
  | halt x w' =>
    cases x <;> simp only [Oper.uponIn] at h3 ⊢ <;> first
      | exact h3
      | exact hq _ _ _ h3
theorem anyIn_monoQ {F : Fence} {md : Region.Mode} {Q Q' : Exit → Act → World → Prop} (hq : ∀ e a w, Q e a w → Q' e a w) : ∀ (fuel : Nat) (listed : Array Bool) (a : Act) (w : World), wpAnyIn F n P md ops Q fuel listed a w → wpAnyIn F n P md ops Q' fuel listed a w
  | 0, listed, a, w, h => ⟨h.1, hq _ _ _ h.2⟩
  | fuel + 1, listed, a, w, h => by
    refine ⟨fun h0 => hq _ _ _ (h.1 h0), fun i hi => ?_⟩
    have h1 := wpOpIn_mono (fun a w => anyIn_monoQ hq fuel _ a w) (h.2 i hi)
    unfold wpOpIn at h1 ⊢
    cases ho : ops[i]? with
    | none => rw [ho] at h1; exact h1
    | some o =>
      rw [ho] at h1
      simp only at h1 ⊢
      split
      · rename_i hw
        rw [if_pos hw] at h1
        exact oper_monoQ hq h1
      · rename_i hw
        rw [if_neg hw] at h1
        exact h1
/-- A region that draws its order, in a round: walked at the wide fence. -/
theorem in_draw {id : Nat} {K : Act → World → Prop} (hm : P.follows .mixedOrders = true) (hd : ∀ (i : Nat) o, ops[i]? = some o → ∀ c, o.op ≠ .defer c) (hK : ∀ a w, K a w → Q .normal a w)
    (h : (Code.region id ops true).wp P (fun e a w => e = .normal ∧ K a w) a w → True) (h2 : wpAny P .any ops (fun e a w => e = .normal ∧ K a w) ops.size (Array.replicate ops.size false) a w.drew) : (Code.region id ops true).wpIn (Fence.wide.inRound l) n P Q a w := by
  refine wpIn_region_any hm ?_
  have h1 := any_in (l := l) (n := n) (Q := fun e a w => e = .normal ∧ K a w) (fun ⟨_, _, h, _⟩ => by cases h) hd _ _ _ _ h2
  exact anyIn_monoQ (fun e a w hh => by obtain ⟨rfl, hk⟩ := hh; exact hK a w hk) _ _ _ _ h1
/-- The same, every assertion at hand kept. -/
theorem in_draw_sat {w0 : World} {Hs : List HP} {K : Act → World → Prop} (id n' : Nat) (hS : Sat w0 w Hs) (hm : P.follows .mixedOrders = true) (hd : ∀ (i : Nat) o, ops[i]? = some o → ∀ c, o.op ≠ .defer c) (js : List Nat) (hn : ops.size = n') (hK : ∀ a w, K a w → Q .normal a w)
    (h : ∀ w, Sat w0 w Hs → (brk js (Array.replicate n' false) = true ∨ Sat w0 w Hs) → Closed .any ops (Array.replicate n' false) → wpAnyS P .any ops (fun e a w => e = .normal ∧ K a w) (fun w => Sat w0 w Hs) js n' (Array.replicate n' false) a w) :
    (Code.region id ops true).wpIn (Fence.wide.inRound l) n P Q a w := by
  subst hn
  exact in_draw (K := K) hm hd hK (fun _ => trivial) (wpAny_of_S _ _ _ _ (h _ hS.drew (.inr hS.drew) (Closed.start _)))
def noDefer (ops : Array Oper) : Bool := ops.all fun o => match o.op with | .defer _ => false | _ => true
theorem noDefer_spec (h : noDefer ops = true) : ∀ (i : Nat) o, ops[i]? = some o → ∀ c, o.op ≠ .defer c := by
  intro i o ho c hc
  have h1 := (Array.all_eq_true_iff_forall_mem.1 h) o (Array.mem_of_getElem? ho)
  rw [hc] at h1
  cases h1
/-- in_draw_sat with a test for its premise. -/
theorem in_draw_satB {w0 : World} {Hs : List HP} (id n' : Nat) (hS : Sat w0 w Hs) (hm : P.follows .mixedOrders = true) (hd : noDefer ops = true) (js : List Nat) (hn : ops.size = n')
    (h : ∀ w, Sat w0 w Hs → (brk js (Array.replicate n' false) = true ∨ Sat w0 w Hs) → Closed .any ops (Array.replicate n' false) → wpAnyS P .any ops (fun e a w => e = .normal ∧ Q .normal a w) (fun w => Sat w0 w Hs) js n' (Array.replicate n' false) a w) :
    (Code.region id ops true).wpIn (Fence.wide.inRound l) n P Q a w :=
  in_draw_sat (K := fun a w => Q .normal a w) id n' hS hm (noDefer_spec hd) js hn (fun _ _ h => h) h
end
end Go.SL
