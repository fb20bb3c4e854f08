/- A printed text in other spellings, with other blanks, has the same tokens: plain Lean. -/
import Derived.Test.YthackanffcaejaaGreatDoorS1
set_option linter.unusedSimpArgs false
set_option linter.unusedVariables false
namespace Go.Proofs.YthackanffcaejaaGreatDoor
open Go Go.RowKit Go.SL Go.ClauseP Go.LexP

/-- What is chosen at a step: the list's order, the blank, another spelling or not, a blank behind it, a blank behind a sign. -/
structure Dec where
  rev : Bool
  bl : Nat
  sub : Bool
  pad8 : Bool
  pad4 : Bool
def pairs13 : List (List UInt8 × List UInt8) := [([101, 120, 105, 115, 116, 115], [226, 136, 131]), ([102, 111, 114, 97, 108, 108], [226, 136, 128]), ([116, 114, 117, 101], [49]), ([102, 97, 108, 115, 101], [48]), ([60, 45, 62], [226, 134, 148]), ([45, 62], [226, 134, 146]), ([38], [226, 136, 167]), ([124], [226, 136, 168]), ([94], [226, 138, 149]), ([33], [126]), ([33], [194, 172]), ([116, 114, 117, 101], [226, 138, 164]), ([102, 97, 108, 115, 101], [226, 138, 165])]
def blank4 : Nat → List UInt8
  | 0 => [32]
  | 1 => [9]
  | 2 => [32, 13, 10, 32]
  | _ => [32, 35, 32, 115, 111, 58, 32, 40, 32, 255, 10]
def spellW (rev : Bool) (s : List UInt8) : Option (List UInt8 × List UInt8) := (if rev then pairs13.reverse else pairs13).find? fun p => p.1.isPrefixOf s
def lowP (c : UInt8) : Bool := (97 ≤ c && c ≤ 122) || digP c
def stepR (d : Dec) : List UInt8 → List UInt8 × Nat
  | [] => ([], 0)
  | c :: cs => if c = 32 then (blank4 d.bl, 1) else match spellW d.rev (c :: cs) with
    | some p => if d.sub then (p.2 ++ (if p.2 = [48] ∨ p.2 = [49] ∨ d.pad8 = true then [32] else []), p.1.length) else (p.1, p.1.length)
    | none => if (97 ≤ c && c ≤ 122) = true then ((c :: cs).takeWhile lowP, ((c :: cs).takeWhile lowP).length) else (c :: (if d.pad4 then [32] else []), 1)
def resp (X : Nat → Dec) : List UInt8 → Nat → List UInt8
  | [], _ => []
  | c :: cs, k => (stepR (X k) (c :: cs)).1 ++ resp X (cs.drop ((stepR (X k) (c :: cs)).2 - 1)) (k + 1)
termination_by s => s.length
decreasing_by simp only [List.length_drop, List.length_cons]; omega
theorem resp_nil (X : Nat → Dec) (k : Nat) : resp X [] k = [] := by rw [resp]
theorem resp_step {X : Nat → Dec} {u r o : List UInt8} {k : Nat} (hu : u ≠ []) (h : stepR (X k) (u ++ r) = (o, u.length)) : resp X (u ++ r) k = o ++ resp X r (k + 1) := by
  cases u with
  | nil => exact absurd rfl hu
  | cons c cs =>
    rw [List.cons_append] at h ⊢
    rw [resp, h]
    simp
/-- From s to s' the tokens l, however it is respelt. -/
def RT (X : Nat → Dec) (s : List UInt8) (l : List Tk) (s' : List UInt8) : Prop := ∀ k, ∃ k', Toks (resp X s k) l (resp X s' k')
theorem RT.app {X : Nat → Dec} {s s' s'' : List UInt8} {l l' : List Tk} (h : RT X s l s') (h' : RT X s' l' s'') : RT X s (l ++ l') s'' := fun k => by
  obtain ⟨k1, h1⟩ := h k
  obtain ⟨k2, h2⟩ := h' k1
  exact ⟨k2, h1.app h2⟩
theorem RT.nil (X : Nat → Dec) (s : List UInt8) : RT X s [] s := fun k => ⟨k, rfl⟩
theorem skip_blank4 (n : Nat) (z : List UInt8) : nextS (blank4 n ++ z) = nextS z := by
  have key : ∀ (l : List UInt8), (∀ z, skipS false (l ++ z) = l.length + skipS false z) → nextS (l ++ z) = nextS z := by
    intro l h
    unfold nextS
    rw [h z, ← List.drop_drop, List.drop_left]
  have e : ∀ m k : Nat, 1 + m + k = 1 + (m + k) := fun _ _ => by omega
  unfold blank4
  split
  · exact key [32] fun z => rfl
  · exact key [9] fun z => rfl
  · refine key [32, 13, 10, 32] fun z => ?_
    show 1 + (1 + (1 + (1 + skipS false z))) = 4 + skipS false z
    omega
  · refine key [32, 35, 32, 115, 111, 58, 32, 40, 32, 255, 10] fun z => ?_
    show 1 + (1 + (1 + (1 + (1 + (1 + (1 + (1 + (1 + (1 + (1 + skipS false z)))))))))) = 11 + skipS false z
    omega
theorem RT.blank (X : Nat → Dec) (r : List UInt8) : RT X (32 :: r) [] r := fun k => ⟨k + 1, by
  have := resp_step (X := X) (u := [32]) (r := r) (k := k) (by simp) rfl
  rw [show 32 :: r = [32] ++ r from rfl, this]
  exact skip_blank4 _ _⟩
/-- A sign that has other spellings. -/
theorem RT.sign {X : Nat → Dec} {u : List UInt8} {tk : Tk} (hu : u ≠ []) (h32 : u.head? ≠ some 32) (r : List UInt8)
    (h : ∀ rev, ∃ p, spellW rev (u ++ r) = some (u, p) ∧ (p ≠ [48] ∧ p ≠ [49]) ∧ (∀ z, nextS (p ++ z) = (tk, z))) (h0 : ∀ z, nextS (u ++ z) = (tk, z)) : RT X (u ++ r) [tk] r := fun k => by
  obtain ⟨p, h1, h2, h3⟩ := h (X k).rev
  refine ⟨k + 1, ?_⟩
  have hs : stepR (X k) (u ++ r) = (if (X k).sub then p ++ (if (X k).pad8 = true then [32] else []) else u, u.length) := by
    cases u with
    | nil => exact absurd rfl hu
    | cons c cs =>
      have hc : c ≠ 32 := fun e => h32 (by rw [e]; rfl)
      rw [List.cons_append] at h1 ⊢
      simp only [stepR, if_neg hc, h1]
      split
      · simp only [h2.1, h2.2, false_or]
      · rfl
  rw [resp_step hu hs]
  split
  · split
    · rw [List.append_assoc]
      exact (Toks.one (h3 ([32] ++ resp X r (k + 1)))).end_blank
    · rw [List.append_nil]; exact .one (h3 _)
  · exact .one (h0 _)
/-- A sign that has none. -/
theorem RT.plain {X : Nat → Dec} {c : UInt8} {tk : Tk} (r : List UInt8) (h32 : c ≠ 32) (hl : (97 ≤ c && c ≤ 122) = false) (h : ∀ rev, spellW rev (c :: r) = none) (h0 : ∀ z, nextS (c :: z) = (tk, z)) : RT X (c :: r) [tk] r := fun k => by
  refine ⟨k + 1, ?_⟩
  have hs : stepR (X k) ([c] ++ r) = (c :: (if (X k).pad4 then [32] else []), 1) := by
    show stepR (X k) (c :: r) = _
    simp only [stepR, if_neg h32, h, hl, Bool.false_eq_true, if_false]
  rw [show c :: r = [c] ++ r from rfl, resp_step (by simp) hs]
  split
  · exact (Toks.one (h0 (32 :: resp X r (k + 1)))).end_blank
  · exact .one (h0 _)
theorem low_of_digit {c : UInt8} (h : digP c = true) : lowP c = true := by simp [lowP, h]
/-- A word that has no other spelling. -/
theorem RT.word {X : Nat → Dec} {c : UInt8} {w r : List UInt8} {tk : Tk} (hc : (97 ≤ c && c ≤ 122) = true) (h : ∀ rev, spellW rev (c :: w ++ r) = none) (hw : ∀ d ∈ c :: w, lowP d = true) (hr : Sep r)
    (h0 : ∀ z, Sep z → nextS (c :: w ++ z) = (tk, z)) (hsr : ∀ k, Sep (resp X r k)) : RT X (c :: w ++ r) [tk] r := fun k => by
  refine ⟨k + 1, ?_⟩
  have h32 : c ≠ 32 := fun e => by subst e; revert hc; decide
  have ht : (c :: w ++ r).takeWhile lowP = c :: w := take_sep _ _ hw fun d hd => by
    have := hr d hd
    cases hx : lowP d with
    | false => rfl
    | true =>
      exfalso
      have h2 : ldP d = true := by
        simp only [lowP, Bool.or_eq_true, Bool.and_eq_true] at hx
        rcases hx with hx | hx
        · simp [ldP, letP, hx.1, hx.2]
        · simp [ldP, hx]
      rw [h2] at this; cases this
  have hs : stepR (X k) (c :: w ++ r) = (c :: w, (c :: w).length) := by
    have := h (X k).rev
    rw [List.cons_append] at ht this ⊢
    simp only [stepR, if_neg h32, this, hc, if_true, ht]
  rw [resp_step (by simp) hs]
  exact .one (h0 _ (hsr _))
/-- A word that has other spellings. -/
theorem RT.spelt {X : Nat → Dec} {u r : List UInt8} {tk : Tk} (hu : u ≠ []) (h32 : u.head? ≠ some 32)
    (h : ∀ rev, ∃ p, spellW rev (u ++ r) = some (u, p) ∧ ∀ z, nextS (p ++ (if p = [48] ∨ p = [49] then 32 :: z else z)) = (tk, if p = [48] ∨ p = [49] then 32 :: z else z)) (h0 : ∀ z, Sep z → nextS (u ++ z) = (tk, z)) (hsr : ∀ k, Sep (resp X r k)) : RT X (u ++ r) [tk] r := fun k => by
  obtain ⟨p, h1, h3⟩ := h (X k).rev
  refine ⟨k + 1, ?_⟩
  have hs : stepR (X k) (u ++ r) = (if (X k).sub then p ++ (if p = [48] ∨ p = [49] ∨ (X k).pad8 = true then [32] else []) else u, u.length) := by
    cases u with
    | nil => exact absurd rfl hu
    | cons c cs =>
      have hc : c ≠ 32 := fun e => h32 (by rw [e]; rfl)
      rw [List.cons_append] at h1 ⊢
      simp only [stepR, if_neg hc, h1]
      split <;> rfl
  rw [resp_step hu hs]
  split
  · by_cases hp : p = [48] ∨ p = [49]
    · have hp2 : p = [48] ∨ p = [49] ∨ (X k).pad8 = true := by rcases hp with hp | hp <;> simp [hp]
      rw [if_pos hp2, List.append_assoc]
      have := h3 (resp X r (k + 1))
      rw [if_pos hp] at this
      exact (Toks.one this).end_blank
    · have e : (p = [48] ∨ p = [49] ∨ (X k).pad8 = true) ↔ (X k).pad8 = true := by
        constructor
        · rintro (h | h | h)
          · exact absurd (.inl h) hp
          · exact absurd (.inr h) hp
          · exact h
        · exact fun h => .inr (.inr h)
      simp only [hp, if_false] at h3
      by_cases h8 : (X k).pad8 = true
      · rw [if_pos (e.2 h8), List.append_assoc]
        exact (Toks.one (h3 ([32] ++ resp X r (k + 1)))).end_blank
      · rw [if_neg (fun x => h8 (e.1 x)), List.append_nil]; exact .one (h3 _)
  · exact .one (h0 _ (hsr _))
end Go.Proofs.YthackanffcaejaaGreatDoor
