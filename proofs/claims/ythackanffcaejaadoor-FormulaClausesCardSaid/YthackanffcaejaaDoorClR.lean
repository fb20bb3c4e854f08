/- Clauses' text, read: plain Lean: numbers, literals, the head, what stands behind it. -/
import Derived.WalkKit
set_option linter.unusedSimpArgs false
set_option linter.unusedVariables false
namespace Go.ClauseP
open Go

def digP (c : UInt8) : Bool := 48 ≤ c && c ≤ 57
def valD (n : Nat) (s : List UInt8) : Nat := s.foldl (fun n c => 10 * n + (c.toNat - 48)) n
/-- A number without needless zeros. -/
def numP (s : List UInt8) : Option Nat := if s = [] ∨ (1 < s.length ∧ s.head? = some 48) ∨ s.all digP = false then none else some (valD 0 s)
/-- The same, at most that; -1: it is none. -/
def numM (most : Nat) (s : List UInt8) : Int := match numP s with
  | none => -1
  | some n => if most < n then -1 else n
theorem valD_cons (n : Nat) (c : UInt8) (s : List UInt8) : valD n (c :: s) = valD (10 * n + (c.toNat - 48)) s := by unfold valD; rw [List.foldl_cons]
theorem valD_snoc (n : Nat) (s : List UInt8) (c : UInt8) : valD n (s ++ [c]) = 10 * valD n s + (c.toNat - 48) := by simp [valD]
theorem valD_append (n : Nat) (s t : List UInt8) : valD n (s ++ t) = valD (valD n s) t := by simp [valD]
theorem ten_ne (n : Nat) : 0 < 10 ^ n := Nat.pow_pos (by decide)
theorem valD_ge : ∀ (s : List UInt8) (n : Nat), n * 10 ^ s.length ≤ valD n s
  | [], n => by simp [valD]
  | c :: s, n => by
    have h := valD_ge s (10 * n + (c.toNat - 48))
    rw [valD_cons]
    refine Nat.le_trans ?_ h
    rw [List.length_cons]
    generalize hm : s.length = k at *
    exact Nat.le_trans (Nat.le_of_eq (by rw [Nat.pow_succ, Nat.mul_comm (10 ^ k) 10, ← Nat.mul_assoc, Nat.mul_comm n 10])) (Nat.mul_le_mul_right (10 ^ k) (Nat.le_add_right _ _))
theorem valD_ge1 (s : List UInt8) (n : Nat) : n ≤ valD n s := Nat.le_trans (Nat.le_mul_of_pos_right _ (ten_ne _)) (valD_ge s n)
theorem digP_le {c : UInt8} (h : digP c = true) : 48 ≤ c.toNat ∧ c.toNat ≤ 57 := by
  simp only [digP, Bool.and_eq_true, decide_eq_true_eq, UInt8.le_iff_toNat_le] at h
  exact ⟨h.1, h.2⟩
theorem valD_lt : ∀ (s : List UInt8) (n k : Nat), s.all digP = true → n < 10 ^ k → valD n s < 10 ^ (k + s.length)
  | [], n, k, _, h => by simpa [valD] using h
  | c :: s, n, k, ha, h => by
    simp only [List.all_cons, Bool.and_eq_true] at ha
    have hc := digP_le ha.1
    have h2 := valD_lt s (10 * n + (c.toNat - 48)) (k + 1) ha.2 (by rw [Nat.pow_succ]; omega)
    rw [valD_cons, List.length_cons]
    rwa [show k + (s.length + 1) = k + 1 + s.length by omega]
theorem numP_none_empty : numP [] = none := rfl
theorem numM_empty (most : Nat) : numM most [] = -1 := rfl
theorem numM_zero {most : Nat} {s : List UInt8} (h : 1 < s.length) (h2 : s.head? = some 48) : numM most s = -1 := by
  have : numP s = none := by unfold numP; rw [if_pos (.inr (.inl ⟨h, h2⟩))]
  rw [numM, this]
theorem numM_not {most : Nat} {s : List UInt8} (h : s.all digP = false) : numM most s = -1 := by
  have : numP s = none := by unfold numP; rw [if_pos (.inr (.inr h))]
  rw [numM, this]
theorem numM_val {most : Nat} {s : List UInt8} (h0 : s ≠ []) (h1 : ¬ (1 < s.length ∧ s.head? = some 48)) (h2 : s.all digP = true) : numM most s = if most < valD 0 s then -1 else (valD 0 s : Int) := by
  have : numP s = some (valD 0 s) := by unfold numP; rw [if_neg (by rintro (h | h | h); exact h0 h; exact h1 h; rw [h2] at h; cases h)]
  rw [numM, this]
/-- A number with more than ten digits is above all that is asked. -/
theorem numM_long {most : Nat} {s : List UInt8} (hm : most < 10 ^ 10) (h : 10 < s.length) : numM most s = -1 := by
  by_cases h1 : 1 < s.length ∧ s.head? = some 48
  · exact numM_zero h1.1 h1.2
  · cases h2 : s.all digP with
    | false => exact numM_not h2
    | true =>
      have h0 : s ≠ [] := by intro e; rw [e] at h; simp at h
      rw [numM_val h0 h1 h2, if_pos]
      obtain ⟨c, t, rfl⟩ : ∃ c t, s = c :: t := by cases s with | nil => exact absurd rfl h0 | cons c t => exact ⟨c, t, rfl⟩
      simp only [List.length_cons, List.head?_cons, Option.some.injEq] at h h1
      simp only [List.all_cons, Bool.and_eq_true] at h2
      have hc := digP_le h2.1
      have hc48 : c.toNat ≠ 48 := fun e => h1 ⟨by omega, UInt8.toNat_inj.1 e⟩
      have hv := valD_ge t (10 * 0 + (c.toNat - 48))
      rw [valD_cons]
      refine Nat.lt_of_lt_of_le hm (Nat.le_trans ?_ hv)
      have h10 : 10 ^ 10 ≤ 10 ^ t.length := Nat.pow_le_pow_right (by omega) (by omega)
      exact Nat.le_trans h10 (Nat.le_mul_of_pos_left _ (by omega))
/-- Too great already. -/
theorem numM_above {most : Nat} {s t : List UInt8} (h : most < valD 0 s) : numM most (s ++ t) = -1 := by
  unfold numM numP
  split
  · rfl
  · rename_i n hn
    split at hn
    · cases hn
    · simp only [Option.some.injEq] at hn
      rw [if_pos]
      rw [← hn, valD_append]
      exact Nat.lt_of_lt_of_le h (valD_ge1 t _)
theorem numM_ge (most : Nat) (s : List UInt8) : -1 ≤ numM most s ∧ numM most s ≤ most := by
  unfold numM
  split
  · omega
  · split <;> omega

/-- A word as a literal; 0 ends a clause. -/
def litP (s : List UInt8) : Option Int :=
  if s.head? = some 45 then (if numM 2147483647 (s.drop 1) ≤ 0 then none else some (-numM 2147483647 (s.drop 1))) else (if numM 2147483647 s < 0 then none else some (numM 2147483647 s))
theorem litP_bd {s : List UInt8} {n : Int} (h : litP s = some n) : -2147483647 ≤ n ∧ n ≤ 2147483647 := by
  have h1 := numM_ge 2147483647 (s.drop 1)
  have h2 := numM_ge 2147483647 s
  unfold litP at h
  split at h
  · split at h
    · cases h
    · have h3 := Option.some.inj h
      omega
  · split at h
    · cases h
    · have h3 := Option.some.inj h
      omega

/-- A word and its place. -/
abbrev Wd := List UInt8 × Nat
def num65536 (w : Wd) : Int ⊕ Int := if numM 2147483647 w.1 < 0 then .inr 133 else if 65536 < numM 2147483647 w.1 then .inr 8 else .inl (numM 2147483647 w.1)
/-- The head's line; behind: the place behind its last word. -/
def headP (behind : Nat) : List Wd → (Int × Int) ⊕ (Int × Nat)
  | [] => .inr (135, behind)
  | w0 :: l => if w0.1 ≠ [112] then .inr (135, w0.2) else match l with
    | [] => .inr (135, behind)
    | w1 :: l => if w1.1 ≠ [99, 110, 102] then .inr (135, w1.2) else match l with
      | [] => .inr (135, behind)
      | w2 :: l => match num65536 w2 with
        | .inr e => .inr (e, w2.2)
        | .inl v => match l with
          | [] => .inr (135, behind)
          | w3 :: l => match num65536 w3 with
            | .inr e => .inr (e, w3.2)
            | .inl c => match l with
              | [] => .inl (v, c)
              | w4 :: _ => .inr (135, w4.2)
/-- What stands behind the head: the clauses' ends and the literals, or the fault. -/
def bodyP (vars count : Int) : List Wd → List Int → List Int → (List Int × List Int) ⊕ (Int × Nat)
  | [], es, ls => .inl (es, ls)
  | w :: ws, es, ls => if (es.length : Int) = count then .inr (135, w.2) else match litP w.1 with
    | none => .inr (133, w.2)
    | some n => if vars < n ∨ n < -vars then .inr (3, w.2) else if n = 0 then bodyP vars count ws (es ++ [(ls.length : Int)]) ls else if (ls.length : Int) = 1048576 then .inr (8, w.2) else bodyP vars count ws es (ls ++ [n])
/-- A value of clauses: the number of variables, the ends, the literals. -/
structure CnfV where
  vars : Int
  ends : List Int
  lits : List Int
def behindP (l : List Wd) : Nat := match l.getLast? with | some w => w.2 + w.1.length | none => 0
/-- The whole: the clauses, or the fault and its byte. -/
def cnfP (size : Nat) : List (List Wd) → CnfV ⊕ (Int × Nat)
  | [] => .inr (135, size)
  | l :: ls => match headP (behindP l) l with
    | .inr e => .inr e
    | .inl (v, c) => match bodyP v c ls.flatten [] [] with
      | .inr e => .inr e
      | .inl (es, lits) => if (es.length : Int) < c ∨ es.getLast?.getD 0 < lits.length then .inr (135, size) else .inl ⟨v, es, lits⟩
end Go.ClauseP
