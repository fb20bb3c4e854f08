/- A fault that is not at the end stays, whatever comes behind a blank: plain Lean. -/
import Derived.Test.YthackanffcaejaaGreatDoorO1
import Derived.Test.YthackanffcaejaaGreatDoorO20
set_option linter.unusedSimpArgs false
set_option linter.unusedVariables false
set_option linter.unusedSectionVars false
namespace Go.Proofs.YthackanffcaejaaGreatDoor
section
open Go Go.RowKit Go.SL Go.ClauseP Go.LexP

theorem jh : ∀ (d x : List UInt8) (b : Bool), Yx b d < d.length → Yx b (d ++ x) = Yx b d
  | [], x, b, h => by cases b <;> simp [Yx] at h
  | c :: d, x, true, h => by
    simp only [Yx, List.cons_append, List.length_cons] at h ⊢
    by_cases hc : c = 10
    · simp only [hc, if_true] at h ⊢; rw [jh d x false (by omega)]
    · simp only [hc, if_false] at h ⊢; rw [jh d x true (by omega)]
  | c :: d, x, false, h => by
    simp only [Yx, List.cons_append, List.length_cons] at h ⊢
    by_cases hb : kQ c = true
    · simp only [hb, if_true] at h ⊢; rw [jh d x false (by omega)]
    · simp only [hb, if_false, Bool.false_eq_true] at h ⊢
      by_cases hc : c = 35
      · simp only [hc, if_true] at h ⊢; rw [jh d x true (by omega)]
      · simp only [hc, if_false] at h ⊢
theorem JS {p : UInt8 → Bool} (hp : p 32 = false) : ∀ (d x : List UInt8), (d ++ 32 :: x).takeWhile p = d.takeWhile p
  | [], x => by simp [List.takeWhile, hp]
  | c :: d, x => by
    rw [List.cons_append, List.takeWhile_cons, List.takeWhile_cons, JS hp d x]
theorem Xz : ∀ (s d x : List UInt8), (∀ c ∈ s, c ≠ 32) → s.isPrefixOf (d ++ 32 :: x) = s.isPrefixOf d
  | [], d, x, _ => by simp
  | c :: s, [], x, h => by
    have : (c == 32) = false := by simpa using h c (.head _)
    simp [List.isPrefixOf, this]
  | c :: s, e :: d, x, h => by
    simp only [List.cons_append, List.isPrefixOf]
    rw [Xz s d x fun c hc => h c (.tail _ hc)]
theorem UL (d x : List UInt8) : ∀ l : List (List UInt8 × Tk), (∀ s ∈ l, ∀ c ∈ s.1, c ≠ 32) → l.find? (fun s => s.1.isPrefixOf (d ++ 32 :: x)) = l.find? fun s => s.1.isPrefixOf d
  | [], _ => rfl
  | s :: l, h => by
    rw [List.find?_cons, List.find?_cons, Xz s.1 d x (h s (.head _)), UL d x l fun s hs => h s (.tail _ hs)]
theorem sign_more (d x : List UInt8) : kD (d ++ 32 :: x) = kD d := UL d x _ (by decide)
theorem gl (c : UInt8) (d x : List UInt8) : Yj (c :: d ++ 32 :: x) = Yj (c :: d) := by
  have h1 := JS (p := ldP) (by decide) (c :: d) x
  have h2 := JS (p := Yn) (by decide) (c :: d) x
  have h3 := sign_more (c :: d) x
  rw [List.cons_append] at *
  simp only [Yj, h1, h2, h3]
theorem UN (text more : List UInt8) (k : Nat) (hk : k ≤ text.length) (h : Yh text k < text.length) : yS (text ++ 32 :: more) k = yS text k ∧ Yh (text ++ 32 :: more) k = Yh text k := by
  have e1 : (text ++ 32 :: more).drop k = text.drop k ++ 32 :: more := List.drop_append_of_le_length hk
  have hl : (text.drop k).length = text.length - k := List.length_drop
  have e2 : Yh (text ++ 32 :: more) k = Yh text k := by
    unfold Yh at h ⊢
    rw [e1, jh _ _ _ (by omega)]
  refine ⟨?_, e2⟩
  have e3 : (text ++ 32 :: more).drop (Yh text k) = text.drop (Yh text k) ++ 32 :: more := List.drop_append_of_le_length (by omega)
  unfold yS
  have hl2 : (text ++ 32 :: more).length = text.length + (more.length + 1) := by simp
  rw [e2, if_neg (by omega), if_neg (by omega), e3]
  obtain ⟨c, d, hd⟩ : ∃ c d, text.drop (Yh text k) = c :: d := by
    cases hd : text.drop (Yh text k) with
    | nil => have := congrArg List.length hd; simp at this; omega
    | cons c d => exact ⟨c, d, rfl⟩
  rw [hd, gl c d more]
theorem next_at (text : List UInt8) (k : Nat) (hk : k ≤ text.length) : (yS text k).at_ = Yh text k := by
  unfold yS; split
  · rename_i h; exact h.symm
  · rfl
theorem run_more {text more : List UInt8} {m : MS} {w q : Int} {t : TokR} {r : Ans} (h : MRun text m w q t r) : ∀ (k : Nat) (e : Int) (a : Nat), k ≤ text.length → t = yS text k → r = .inl (e, a) → a < text.length → MRun (text ++ 32 :: more) m w q (yS (text ++ 32 :: more) k) (.inl (e, a)) := by
  induction h with
  | @err m w q t e' hs =>
    intro k e a hk ht hr ha
    injection hr with hr; injection hr with h1 h2
    subst h1; subst h2; subst ht
    rw [next_at text k hk] at ha
    have h3 := (UN text more k hk ha).1
    have := MRun.err (text := text ++ 32 :: more) (t := yS text k) hs
    rwa [← h3] at this ⊢
  | done hs => intro k e a hk ht hr; cases hr
  | @go m w q t m' w' q' r hs hr0 ih =>
    intro k e a hk ht hr ha
    subst ht
    have hlt : Yh text k < text.length := by
      by_cases hc : Yh text k < text.length
      · exact hc
      · exfalso
        have h1 := jb text k hk
        have hf : (yS text k).tk = .fin := by unfold yS; rw [if_pos (by omega)]
        rw [hf] at hs
        simp only [yB] at hs
        split at hs
        · generalize Yd m.st m.out m.opn = x at hs
          obtain ⟨S, o, k⟩ := x
          cases S <;> cases hs
        · cases hs
    have h3 := (UN text more k hk hlt).1
    refine .go (m' := m') (w' := w') (q' := q') (by rw [h3]; exact hs) ?_
    rw [h3]
    exact ih _ e a (Jp text k hk) rfl hr ha
theorem gF {text more : List UInt8} {r r' : (Int × Nat) ⊕ T} {e : Int} {a : Nat} (h : kr text r) (h' : kr (text ++ 32 :: more) r') (hr : r = .inl (e, a)) (ha : a < text.length) : r' = .inl (e, a) := by
  have h1 := run_more (more := more) (kR h) 0 e a (Nat.zero_le _) rfl (by rw [hr]; rfl) ha
  have h2 := (kR h').det h1
  cases r' with
  | inl x => injection h2 with h2; rw [h2]
  | inr x => cases h2
end
end Go.Proofs.YthackanffcaejaaGreatDoor
