/- Clauses' text, read: plain Lean: the words of each line, each with its place. -/
import Derived.Test.YthackanffcaejaaDoorCl1
set_option linter.unusedSimpArgs false
set_option linter.unusedVariables false
namespace Go.Proofs.YthackanffcaejaaDoor
open Go Go.RowKit Go.SL Go.LinesP

/-- A line's words, each with its place; off: the line's own place. -/
def wordsL (off : Nat) : List UInt8 → List (List UInt8 × Nat)
  | [] => []
  | c :: cs => if wordP c then (c :: cs.takeWhile wordP, off) :: wordsL (off + 1 + (cs.takeWhile wordP).length) (cs.drop (cs.takeWhile wordP).length) else wordsL (off + 1) cs
termination_by l => l.length
decreasing_by
  · simp only [List.length_drop, List.length_cons]; omega
  · simp
theorem wordsL_nil (off : Nat) : wordsL off [] = [] := by rw [wordsL]
theorem wordsL_gap {off : Nat} {c : UInt8} {cs : List UInt8} (h : wordP c = false) : wordsL off (c :: cs) = wordsL (off + 1) cs := by rw [wordsL, if_neg (by rw [h]; simp)]
theorem wordsL_word {off : Nat} {c : UInt8} {cs : List UInt8} (h : wordP c = true) : wordsL off (c :: cs) = (c :: cs.takeWhile wordP, off) :: wordsL (off + 1 + (cs.takeWhile wordP).length) (cs.drop (cs.takeWhile wordP).length) := by rw [wordsL, if_pos h]
/-- At place k of a line. -/
theorem words_at_gap {off k : Nat} {l : List UInt8} {c : UInt8} (hk : l[k]? = some c) (h : wordP c = false) : wordsL (off + k) (l.drop k) = wordsL (off + (k + 1)) (l.drop (k + 1)) := by
  have hl := (List.getElem?_eq_some_iff.1 hk).1
  have hc : l[k] = c := (List.getElem?_eq_some_iff.1 hk).2
  rw [List.drop_eq_getElem_cons hl, hc, wordsL_gap h]
  rfl
theorem words_at_word {off k : Nat} {l : List UInt8} {c : UInt8} (hk : l[k]? = some c) (h : wordP c = true) :
    k < runP wordP l k ∧ runP wordP l k ≤ l.length ∧ wordsL (off + k) (l.drop k) = ((l.drop k).take (runP wordP l k - k), off + k) :: wordsL (off + runP wordP l k) (l.drop (runP wordP l k)) := by
  have hl := (List.getElem?_eq_some_iff.1 hk).1
  have hc : l[k] = c := (List.getElem?_eq_some_iff.1 hk).2
  have hd : l.drop k = c :: l.drop (k + 1) := by rw [List.drop_eq_getElem_cons hl, hc]
  have hr : runP wordP l k = k + 1 + ((l.drop (k + 1)).takeWhile wordP).length := by
    rw [runP, hd, List.takeWhile_cons, h]; simp; omega
  have hle : ((l.drop (k + 1)).takeWhile wordP).length ≤ (l.drop (k + 1)).length := (List.takeWhile_sublist _).length_le
  rw [List.length_drop] at hle
  refine ⟨by omega, by omega, ?_⟩
  have htk : (l.drop k).take (runP wordP l k - k) = c :: (l.drop (k + 1)).takeWhile wordP := by
    rw [hd, hr, show k + 1 + ((l.drop (k + 1)).takeWhile wordP).length - k = ((l.drop (k + 1)).takeWhile wordP).length + 1 by omega, List.take_succ_cons]
    congr 1
    exact (List.prefix_iff_eq_take.1 (List.takeWhile_prefix _)).symm
  rw [htk, hd, wordsL_word h, hr, List.drop_drop]
  congr 2
  · omega
/-- The lines that have words and are no remarks. -/
def remark : List (List UInt8 × Nat) → Bool
  | (c :: _, _) :: _ => c == 99
  | _ => false
def keptL (ws : List (List UInt8 × Nat)) : Bool := !ws.isEmpty && !remark ws
def itemsL (off : Nat) : List (List UInt8) → List (List (List UInt8 × Nat))
  | [] => []
  | l :: ls => (if keptL (wordsL off l) then [wordsL off l] else []) ++ itemsL (off + l.length) ls
def total (ls : List (List UInt8)) : Nat := (ls.map List.length).sum
theorem itemsL_snoc : ∀ (ls : List (List UInt8)) (l : List UInt8) (off : Nat), itemsL off (ls ++ [l]) = itemsL off ls ++ (if keptL (wordsL (off + total ls) l) then [wordsL (off + total ls) l] else [])
  | [], l, off => by simp [itemsL, total]
  | k :: ls, l, off => by
    have h := itemsL_snoc ls l (off + k.length)
    simp only [List.cons_append, itemsL, h, total, List.map_cons, List.sum_cons, List.append_assoc, Nat.add_assoc]
theorem linesL_join : ∀ s : List UInt8, (linesL s).flatten = s
  | [] => rfl
  | c :: cs => by
    have ih := linesL_join cs
    simp only [linesL]
    split
    · simp [ih]
    · cases h : linesL cs with
      | nil => exact absurd h (linesL_ne cs)
      | cons l ls =>
        rw [h] at ih
        simp only [List.flatten_cons, List.cons_append] at ih ⊢
        rw [ih]
theorem line_le {s x : List UInt8} (h : x ∈ linesL s) : x.length ≤ s.length := by
  have h1 := linesL_join s
  have h2 : x.length ≤ (linesL s).flatten.length := (List.sublist_flatten_of_mem h).length_le
  rwa [h1] at h2
theorem wordsL_ne : ∀ (n : Nat) (l : List UInt8) (off : Nat), l.length ≤ n → ∀ w ∈ wordsL off l, w.1 ≠ []
  | 0, [], off, _, w, hw => by rw [wordsL_nil] at hw; cases hw
  | 0, c :: cs, off, h, w, hw => by simp at h
  | n + 1, [], off, _, w, hw => by rw [wordsL_nil] at hw; cases hw
  | n + 1, c :: cs, off, h, w, hw => by
    simp only [List.length_cons] at h
    cases hc : wordP c with
    | false =>
      rw [wordsL_gap hc] at hw
      exact wordsL_ne n cs _ (by omega) w hw
    | true =>
      rw [wordsL_word hc] at hw
      rcases List.mem_cons.1 hw with rfl | hw
      · simp
      · exact wordsL_ne n _ _ (by rw [List.length_drop]; omega) w hw
theorem linesL_len : ∀ s : List UInt8, (linesL s).length ≤ s.length + 1
  | [] => by simp [linesL]
  | c :: cs => by
    have h := linesL_len cs
    simp only [linesL]
    split
    · simp; omega
    · cases hl : linesL cs with
      | nil => exact absurd hl (linesL_ne cs)
      | cons l ls => rw [hl] at h; simp at h ⊢; omega
theorem itemsL_len : ∀ (ls : List (List UInt8)) (off : Nat), (itemsL off ls).length ≤ ls.length
  | [], off => by simp [itemsL]
  | l :: ls, off => by
    have h := itemsL_len ls (off + l.length)
    simp only [itemsL, List.length_append, List.length_cons]
    split <;> simp <;> omega
theorem total_snoc (ls : List (List UInt8)) (l : List UInt8) : total (ls ++ [l]) = total ls + l.length := by simp [total]
theorem total_flatten : ∀ ls : List (List UInt8), total ls = ls.flatten.length
  | [] => rfl
  | l :: ls => by
    have h := total_flatten ls
    simp only [total, List.map_cons, List.sum_cons, List.flatten_cons, List.length_append] at h ⊢
    omega
theorem total_le {s x : List UInt8} {pre rest : List (List UInt8)} (h : linesL s = pre ++ x :: rest) : total pre + x.length ≤ s.length := by
  have h1 := linesL_join s
  rw [h] at h1
  have h2 := congrArg List.length h1
  rw [List.flatten_append, List.length_append, List.flatten_cons, List.length_append, ← total_flatten] at h2
  omega
end Go.Proofs.YthackanffcaejaaDoor
