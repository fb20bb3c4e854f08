/- A round of the stack by which a list becomes a tree: plain Lean. -/
import Derived.Test.YthackanffcaejaaDoorFormP
set_option linter.unusedSimpArgs false
set_option linter.unusedVariables false
set_option linter.unusedSectionVars false
namespace Go.Proofs.YthackanffcaejaaDoor
open Go Go.RowKit Go.SL

theorem stepT_split (st : List T) (op n : Int) :
    (stepT st op n = none ∧ (arityP op n < 0 ∨ (¬ arityP op n < 0 ∧ arityP op n > (st.length : Int)))) ∨
    (op = 1 ∧ arityP op n = 0 ∧ stepT st op n = some (.cst n :: st)) ∨
    (op = 2 ∧ arityP op n = 0 ∧ stepT st op n = some (.var n :: st)) ∨
    (∃ a r, st = a :: r ∧ op = 3 ∧ arityP op n = 1 ∧ stepT st op n = some (.neg a :: r)) ∨
    (∃ a r, st = a :: r ∧ (op = 4 ∨ op = 5) ∧ arityP op n = 1 ∧ stepT st op n = some (.qu op n a :: r)) ∨
    (∃ a b r, st = b :: a :: r ∧ (6 ≤ op ∧ op ≤ 10) ∧ arityP op n = 2 ∧ stepT st op n = some (.bin op a b :: r)) ∨
    (∃ c a b r, st = b :: a :: c :: r ∧ op = 11 ∧ arityP op n = 3 ∧ stepT st op n = some (.ite c a b :: r)) := by
  by_cases c1 : op = 1 ∧ (n = 0 ∨ n = 1)
  · refine .inr (.inl ⟨c1.1, ?_, ?_⟩)
    · unfold arityP; rw [if_pos (.inl c1)]
    · unfold stepT; rw [if_pos c1]
  by_cases c2 : op = 2 ∧ 0 ≤ n ∧ n < 65536
  · refine .inr (.inr (.inl ⟨c2.1, ?_, ?_⟩))
    · unfold arityP; rw [if_pos (.inr c2)]
    · unfold stepT; rw [if_neg c1, if_pos c2]
  have e0 : ¬ (op = 1 ∧ (n = 0 ∨ n = 1) ∨ op = 2 ∧ 0 ≤ n ∧ n < 65536) := by rintro (h | h); exact c1 h; exact c2 h
  by_cases c3 : op = 3 ∧ n = 0
  · have ea : arityP op n = 1 := by unfold arityP; rw [if_neg e0, if_pos (.inl c3)]
    have es : stepT st op n = (match st with | a :: r => some (.neg a :: r) | _ => none) := by unfold stepT; rw [if_neg c1, if_neg c2, if_pos c3] <;> rfl
    cases st with
    | nil => exact .inl ⟨es, .inr ⟨by omega, by simp [ea]⟩⟩
    | cons a r => exact .inr (.inr (.inr (.inl ⟨a, r, rfl, c3.1, ea, es⟩)))
  by_cases c4 : (op = 4 ∨ op = 5) ∧ 0 ≤ n ∧ n < 65536
  · have ea : arityP op n = 1 := by unfold arityP; rw [if_neg e0, if_pos (.inr c4)]
    have es : stepT st op n = (match st with | a :: r => some (.qu op n a :: r) | _ => none) := by unfold stepT; rw [if_neg c1, if_neg c2, if_neg c3, if_pos c4] <;> rfl
    cases st with
    | nil => exact .inl ⟨es, .inr ⟨by omega, by simp [ea]⟩⟩
    | cons a r => exact .inr (.inr (.inr (.inr (.inl ⟨a, r, rfl, c4.1, ea, es⟩))))
  have e1 : ¬ (op = 3 ∧ n = 0 ∨ (op = 4 ∨ op = 5) ∧ 0 ≤ n ∧ n < 65536) := by rintro (h | h); exact c3 h; exact c4 h
  by_cases c5 : 6 ≤ op ∧ op ≤ 10 ∧ n = 0
  · have ea : arityP op n = 2 := by unfold arityP; rw [if_neg e0, if_neg e1, if_pos c5]
    have es : stepT st op n = (match st with | b :: a :: r => some (.bin op a b :: r) | _ => none) := by unfold stepT; rw [if_neg c1, if_neg c2, if_neg c3, if_neg c4, if_pos c5] <;> rfl
    rcases st with _ | ⟨b, _ | ⟨a, r⟩⟩
    · exact .inl ⟨es, .inr ⟨by omega, by simp [ea]⟩⟩
    · exact .inl ⟨es, .inr ⟨by omega, by simp [ea]⟩⟩
    · exact .inr (.inr (.inr (.inr (.inr (.inl ⟨a, b, r, rfl, ⟨c5.1, c5.2.1⟩, ea, es⟩)))))
  by_cases c6 : op = 11 ∧ n = 0
  · have ea : arityP op n = 3 := by unfold arityP; rw [if_neg e0, if_neg e1, if_neg c5, if_pos c6]
    have es : stepT st op n = (match st with | b :: a :: c :: r => some (.ite c a b :: r) | _ => none) := by unfold stepT; rw [if_neg c1, if_neg c2, if_neg c3, if_neg c4, if_neg c5, if_pos c6] <;> rfl
    rcases st with _ | ⟨b, _ | ⟨a, _ | ⟨c, r⟩⟩⟩
    · exact .inl ⟨es, .inr ⟨by omega, by simp [ea]⟩⟩
    · exact .inl ⟨es, .inr ⟨by omega, by simp [ea]⟩⟩
    · exact .inl ⟨es, .inr ⟨by omega, by simp [ea]⟩⟩
    · exact .inr (.inr (.inr (.inr (.inr (.inr ⟨c, a, b, r, rfl, c6.1, ea, es⟩)))))
  · refine .inl ⟨?_, .inl ?_⟩
    · unfold stepT; rw [if_neg c1, if_neg c2, if_neg c3, if_neg c4, if_neg c5, if_neg c6]
    · unfold arityP; rw [if_neg e0, if_neg e1, if_neg c5, if_neg c6]; omega

/-- A list of nodes as cells. -/
def Fs : List (Int × Int) → List Value
  | [] => []
  | x :: xs => .int .i64 x.1 :: .int .i64 x.2 :: Fs xs
theorem Fs_length : ∀ fs : List (Int × Int), (Fs fs).length = fs.length * 2
  | [] => rfl
  | x :: xs => by simp [Fs, Fs_length xs]; omega
theorem Fs_drop : ∀ (fs : List (Int × Int)) (k : Nat), (Fs fs).drop (k * 2) = Fs (fs.drop k)
  | [], k => by simp [Fs]
  | x :: xs, 0 => by simp
  | x :: xs, k + 1 => by
    have : (k + 1) * 2 = k * 2 + 1 + 1 := by omega
    rw [this]
    simp only [Fs, List.drop_succ_cons, Fs_drop xs k]
theorem Fs_at {fs : List (Int × Int)} {k : Nat} {op n : Int} (h : fs[k]? = some (op, n)) : ((Fs fs).drop (k * 2)).take 2 = [.int .i64 op, .int .i64 n] := by
  rw [Fs_drop]
  have hk := (List.getElem?_eq_some_iff.1 h).1
  rw [List.drop_eq_getElem_cons hk]
  have : fs[k] = (op, n) := (List.getElem?_eq_some_iff.1 h).2
  rw [this]
  rfl
/-- The values of a stack's trees, the top one the last. -/
def Vs (H : Hp) : List T → List Value → Prop
  | [], vs => vs = []
  | t :: st, vs => ∃ vs' v, vs = vs' ++ [v] ∧ Vs H st vs' ∧ InT H t v
theorem Vs.ext {H H' : Hp} (h : Ext H H') : ∀ {st : List T} {vs : List Value}, Vs H st vs → Vs H' st vs
  | [], _, k => k
  | _ :: _, _, ⟨vs', v, e, k, k'⟩ => ⟨vs', v, e, k.ext h, k'.ext h⟩
theorem Vs.len {H : Hp} : ∀ {st : List T} {vs : List Value}, Vs H st vs → vs.length = st.length
  | [], _, k => by simp only [Vs] at k; subst k; rfl
  | _ :: _, _, ⟨vs', v, e, k, k'⟩ => by subst e; simp [k.len]
/-- The stack behind k nodes. -/
def TI (fs : List (Int × Int)) (k : Nat) (st : List T) : Prop := runT [] (fs.take k) = some st
theorem TI.zero (fs : List (Int × Int)) : TI fs 0 [] := rfl
theorem TI.step {fs : List (Int × Int)} {k : Nat} {st st' : List T} {op n : Int} (h : TI fs k st) (hx : fs[k]? = some (op, n)) (hs : stepT st op n = some st') : TI fs (k + 1) st' := by
  unfold TI at *
  have hk := (List.getElem?_eq_some_iff.1 hx).1
  rw [List.take_succ_eq_append_getElem hk, runT_append, h]
  have : fs[k] = (op, n) := (List.getElem?_eq_some_iff.1 hx).2
  simp [this, runT, hs]
theorem TI.bad {fs : List (Int × Int)} {k : Nat} {st : List T} {op n : Int} (h : TI fs k st) (hx : fs[k]? = some (op, n)) (hs : stepT st op n = none) : treeQ fs = none := by
  unfold TI at *
  have hk := (List.getElem?_eq_some_iff.1 hx).1
  have he : fs[k] = (op, n) := (List.getElem?_eq_some_iff.1 hx).2
  have hr : runT [] fs = none := by
    conv => lhs; rw [← List.take_append_drop k fs]
    rw [runT_append, h, List.drop_eq_getElem_cons hk, he]
    simp [runT, hs]
  unfold treeQ
  split
  · rfl
  · rw [hr]
theorem TI.done {fs : List (Int × Int)} {st : List T} (h : TI fs fs.length st) (hl : fs.length ≤ 65536) : (∃ t, st = [t] ∧ treeQ fs = some t) ∨ (st.length ≠ 1 ∧ treeQ fs = none) := by
  unfold TI at h
  rw [List.take_length] at h
  unfold treeQ
  rw [if_neg (by omega), h]
  rcases st with _ | ⟨a, _ | ⟨b, r⟩⟩
  · exact .inr ⟨by simp, rfl⟩
  · exact .inl ⟨a, rfl, rfl⟩
  · exact .inr ⟨by simp, rfl⟩
theorem TI.bnd {fs : List (Int × Int)} {k : Nat} {st : List T} (h : TI fs k st) (hl : fs.length ≤ 65536) : st.length ≤ 65536 ∧ ∀ t ∈ st, okT t ∧ size t ≤ 65536 := by
  unfold TI at h
  have h1 := stack_le h
  have h2 := runT_ok _ _ _ h (by simp)
  have h3 : (fs.take k).length ≤ 65536 := by rw [List.length_take]; omega
  exact ⟨by omega, fun t ht => ⟨h2 t ht, by have := h1.2 t ht; omega⟩⟩
end Go.Proofs.YthackanffcaejaaDoor
