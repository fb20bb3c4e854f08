/- What a list of numbers chooses: plain Lean. -/
import Derived.Test.YthackanffcaejaaGreatDoorS1
import Derived.Test.YthackanffcaejaaGreatDoorSBk9
set_option linter.unusedSimpArgs false
set_option linter.unusedVariables false
namespace Go.Proofs.YthackanffcaejaaGreatDoor
open Go Go.RowKit Go.SL Go.ClauseP Go.LexP

theorem and_small (x : Int) (m : Nat) (hm : m < 9223372036854775808) : 0 ≤ bits .and .i64 x m ∧ bits .and .i64 x m ≤ m := by
  have h1 : (BitVec.ofInt 64 x &&& BitVec.ofInt 64 (m : Int)).toNat ≤ m := by
    rw [BitVec.toNat_and]
    refine Nat.le_trans Nat.and_le_right ?_
    rw [BitVec.toNat_ofInt]
    have : ((m : Int) % ((2 ^ 64 : Nat) : Int)).toNat = m := by omega
    omega
  have e : bits .and .i64 x m = IntKind.i64.wrap ((BitVec.ofInt 64 x &&& BitVec.ofInt 64 (m : Int)).toNat : Nat) := rfl
  rw [e]
  generalize (BitVec.ofInt 64 x &&& BitVec.ofInt 64 (m : Int)).toNat = n at h1
  have : IntKind.i64.wrap (n : Nat) = n := by
    have h2 : (n : Int) % (2 ^ IntKind.i64.bits : Int) = n := by show (n : Int) % (18446744073709551616 : Int) = n; omega
    unfold IntKind.wrap
    rw [h2]
    have h3 : ¬ ((2 : Int) ^ (IntKind.i64.bits - 1) ≤ (n : Int)) := by show ¬ ((9223372036854775808 : Int) ≤ (n : Int)); omega
    simp only [ge_iff_le, h3, decide_false, Bool.and_false, Bool.false_eq_true, if_false]
  rw [this]; omega
def revX (x : Int) : Bool := bits .and .i64 x 1 == 1
def decOf (x : Int) : Dec := ⟨revX x, (bits .and .i64 x 3).toNat, bits .and .i64 x 6 != 0, bits .and .i64 x 8 == 8, bits .and .i64 x 4 == 4⟩
def xAt (bs : List Int) (n : Nat) : Int := (bs[n % bs.length]?).getD 0
def decX (bs : List Int) (n : Nat) : Dec := decOf (xAt bs n)
theorem resp_at {X : Nat → Dec} {s : List UInt8} {i n : Nat} {c : UInt8} (hc : s[i]? = some c) {o : List UInt8} {k : Nat} (hk : 1 ≤ k) (h : stepR (X n) (s.drop i) = (o, k)) : resp X (s.drop i) n = o ++ resp X (s.drop (i + k)) (n + 1) := by
  obtain ⟨h1, h2⟩ := List.getElem?_eq_some_iff.1 hc
  have e : s.drop i = c :: s.drop (i + 1) := by rw [List.drop_eq_getElem_cons h1, h2]
  rw [e] at h ⊢
  rw [resp, h, List.drop_drop]
  dsimp only
  rw [show i + 1 + (k - 1) = i + k by omega]
/-- The steps, by what stands there. -/
theorem step_blank {d : Dec} {s : List UInt8} {i : Nat} (hc : s[i]? = some 32) : stepR d (s.drop i) = (blank4 d.bl, 1) := by
  obtain ⟨h1, h2⟩ := List.getElem?_eq_some_iff.1 hc
  rw [List.drop_eq_getElem_cons h1, h2]; rfl
theorem step_spelt {d : Dec} {s : List UInt8} {i : Nat} {c : UInt8} (hc : s[i]? = some c) (h32 : c ≠ 32) {p : List UInt8 × List UInt8} (hp : spellW d.rev (s.drop i) = some p) :
    stepR d (s.drop i) = if d.sub then (p.2 ++ (if p.2 = [48] ∨ p.2 = [49] ∨ d.pad8 = true then [32] else []), p.1.length) else (p.1, p.1.length) := by
  obtain ⟨h1, h2⟩ := List.getElem?_eq_some_iff.1 hc
  have e : s.drop i = c :: s.drop (i + 1) := by rw [List.drop_eq_getElem_cons h1, h2]
  rw [e] at hp ⊢
  simp only [stepR, if_neg h32, hp]
theorem step_word {d : Dec} {s : List UInt8} {i : Nat} {c : UInt8} (hc : s[i]? = some c) (h32 : c ≠ 32) (hp : spellW d.rev (s.drop i) = none) (hl : (97 ≤ c && c ≤ 122) = true) :
    stepR d (s.drop i) = ((s.drop i).takeWhile lowP, ((s.drop i).takeWhile lowP).length) := by
  obtain ⟨h1, h2⟩ := List.getElem?_eq_some_iff.1 hc
  have e : s.drop i = c :: s.drop (i + 1) := by rw [List.drop_eq_getElem_cons h1, h2]
  rw [e] at hp ⊢
  simp only [stepR, if_neg h32, hp, hl, if_true]
theorem step_plain {d : Dec} {s : List UInt8} {i : Nat} {c : UInt8} (hc : s[i]? = some c) (h32 : c ≠ 32) (hp : spellW d.rev (s.drop i) = none) (hl : (97 ≤ c && c ≤ 122) = false) :
    stepR d (s.drop i) = (c :: (if d.pad4 then [32] else []), 1) := by
  obtain ⟨h1, h2⟩ := List.getElem?_eq_some_iff.1 hc
  have e : s.drop i = c :: s.drop (i + 1) := by rw [List.drop_eq_getElem_cons h1, h2]
  rw [e] at hp ⊢
  simp only [stepR, if_neg h32, hp, hl, Bool.false_eq_true, if_false]
theorem spell_pre {rev : Bool} {s : List UInt8} {p : List UInt8 × List UInt8} (h : spellW rev s = some p) : p ∈ pairs13 ∧ p.1.isPrefixOf s = true := by
  unfold spellW at h
  have hm := List.mem_of_find?_eq_some h
  have hp := List.find?_some h
  exact ⟨by cases rev <;> simpa using hm, hp⟩
end Go.Proofs.YthackanffcaejaaGreatDoor
