/- A text's lines, each with the sign that ends it: plain Lean. -/
import Derived.Lib.Bytealg
namespace Go.LinesP
open Go
/-- The text cut behind each 10. -/
def linesL : List UInt8 → List (List UInt8)
  | [] => [[]]
  | c :: cs => if c = 10 then [c] :: linesL cs else match linesL cs with
    | [] => [[c]]
    | l :: ls => (c :: l) :: ls
theorem linesL_ne (s : List UInt8) : linesL s ≠ [] := by
  cases s with
  | nil => simp [linesL]
  | cons c cs =>
    simp only [linesL]
    split
    · simp
    · split <;> simp
theorem lines_none : ∀ {s : List UInt8}, Lib.indexByte s 10 = -1 → linesL s = [s]
  | [], _ => rfl
  | c :: cs, h => by
    unfold Lib.indexByte at h
    by_cases hc : c = 10
    · subst hc; simp at h
    · have h1 : (c == 10) = false := by simp [hc]
      rw [h1] at h
      simp only [Bool.false_eq_true, if_false] at h
      have hge := Lib.indexByte_ge cs 10
      by_cases h2 : Lib.indexByte cs 10 = -1
      · simp only [linesL, if_neg hc, lines_none h2]
      · have h3 : (Lib.indexByte cs 10 == -1) = false := by simp [h2]
        rw [h3] at h
        simp only [Bool.false_eq_true, if_false] at h
        omega
theorem lines_some : ∀ {s : List UInt8} {i : Nat}, Lib.indexByte s 10 = (i : Int) → i < s.length ∧ linesL s = s.take (i + 1) :: linesL (s.drop (i + 1))
  | [], i, h => by simp [Lib.indexByte] at h
  | c :: cs, i, h => by
    unfold Lib.indexByte at h
    by_cases hc : c = 10
    · subst hc
      simp at h
      obtain rfl : i = 0 := by omega
      simp [linesL]
    · have h1 : (c == 10) = false := by simp [hc]
      rw [h1] at h
      simp only [Bool.false_eq_true, if_false] at h
      have hge := Lib.indexByte_ge cs 10
      by_cases h2 : Lib.indexByte cs 10 = -1
      · rw [h2] at h
        simp at h
      · have h3 : (Lib.indexByte cs 10 == -1) = false := by simp [h2]
        rw [h3] at h
        simp only [Bool.false_eq_true, if_false] at h
        obtain ⟨j, rfl⟩ : ∃ j, i = j + 1 := ⟨i - 1, by omega⟩
        obtain ⟨g1, g2⟩ := lines_some (s := cs) (i := j) (by omega)
        refine ⟨by simp; omega, ?_⟩
        simp only [linesL, if_neg hc, g2, List.take_succ_cons, List.drop_succ_cons]
end Go.LinesP
