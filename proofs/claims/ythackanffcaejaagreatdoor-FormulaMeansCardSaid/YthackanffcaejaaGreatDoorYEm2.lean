/- Where the nodes of a tree lie, and how deep its quantifiers stand: plain Lean. -/
import Derived.Test.YthackanffcaejaaGreatDoorY1
import Derived.Test.YthackanffcaejaaGreatDoorYEm1
set_option linter.unusedSimpArgs false
set_option linter.unusedVariables false
set_option maxRecDepth 20000
namespace Go.Proofs.YthackanffcaejaaGreatDoor
open Go Go.RowKit Go.SL

section
variable {fs : List (Int × Int)} {fr : List Int}
theorem rootEq {t t2 : T} {s s2 : Nat} (h1 : Sub fs fr s t) (h2 : Sub fs fr s2 t2) (he : s + size t = s2 + size t2) : s = s2 ∧ rootOp t = rootOp t2 ∧ rootN t = rootN t2 := by
  have r1 := h1.root
  have r2 := h2.root
  rw [he] at r1
  have e1 := r1.1.symm.trans r2.1
  have e2 := r1.2.symm.trans r2.2
  simp at e1 e2
  exact ⟨by omega, e1.1, e1.2⟩
theorem Sub_inj : ∀ (t t2 : T) {s s2 : Nat}, okT t → okT t2 → Sub fs fr s t → Sub fs fr s2 t2 → s + size t = s2 + size t2 → t = t2 := by
  intro t
  induction t with
  | cst n =>
    intro t2 s s2 k1 k2 h1 h2 he
    obtain ⟨hs, ho, hn⟩ := rootEq h1 h2 he
    cases t2 <;> simp only [rootOp, rootN, okT] at ho hn k2 <;> first | (subst hn; rfl) | (exfalso; omega)
  | var n =>
    intro t2 s s2 k1 k2 h1 h2 he
    obtain ⟨hs, ho, hn⟩ := rootEq h1 h2 he
    cases t2 <;> simp only [rootOp, rootN, okT] at ho hn k2 <;> first | (subst hn; rfl) | (exfalso; omega)
  | neg a ih =>
    intro t2 s s2 k1 k2 h1 h2 he
    obtain ⟨hs, ho, hn⟩ := rootEq h1 h2 he
    cases t2 with
    | neg a2 =>
      simp only [size] at he
      rw [ih a2 k1 k2 h1.1 h2.1 (by omega)]
    | _ => simp only [rootOp, rootN, okT] at ho hn k2; exfalso; omega
  | qu op v a ih =>
    intro t2 s s2 k1 k2 h1 h2 he
    obtain ⟨hs, ho, hn⟩ := rootEq h1 h2 he
    cases t2 with
    | qu op2 v2 a2 =>
      simp only [size] at he
      simp only [rootOp, rootN] at ho hn
      subst ho; subst hn
      rw [ih a2 k1.2.2.2 k2.2.2.2 h1.1 h2.1 (by omega)]
    | _ => simp only [rootOp, rootN, okT] at ho hn k1 k2; exfalso; omega
  | bin op a b iha ihb =>
    intro t2 s s2 k1 k2 h1 h2 he
    obtain ⟨hs, ho, hn⟩ := rootEq h1 h2 he
    cases t2 with
    | bin op2 a2 b2 =>
      simp only [size] at he
      simp only [rootOp] at ho
      subst ho
      obtain rfl := ihb b2 k1.2.2.2 k2.2.2.2 h1.2.1 h2.2.1 (by omega)
      rw [iha a2 k1.2.2.1 k2.2.2.1 h1.1 h2.1 (by omega)]
    | _ => simp only [rootOp, rootN, okT] at ho hn k1 k2; exfalso; omega
  | ite c a b ihc iha ihb =>
    intro t2 s s2 k1 k2 h1 h2 he
    obtain ⟨hs, ho, hn⟩ := rootEq h1 h2 he
    cases t2 with
    | ite c2 a2 b2 =>
      simp only [size] at he
      obtain rfl := ihb b2 k1.2.2 k2.2.2 h1.2.2.1 h2.2.2.1 (by omega)
      obtain rfl := iha a2 k1.2.1 k2.2.1 h1.2.1 h2.2.1 (by omega)
      rw [ihc c2 k1.1 k2.1 h1.1 h2.1 (by omega)]
    | _ => simp only [rootOp, rootN, okT] at ho hn k1 k2; exfalso; omega
theorem Sub_at : ∀ (t : T) {s i : Nat}, okT t → Sub fs fr s t → s ≤ i → i < s + size t → ∃ (s' : Nat) (t' : T), okT t' ∧ Sub fs fr s' t' ∧ s ≤ s' ∧ s' + size t' = i + 1
  | .cst n, s, i, k, h, h1, h2 => ⟨s, .cst n, k, h, Nat.le_refl _, by simp only [size] at h2 ⊢; omega⟩
  | .var n, s, i, k, h, h1, h2 => ⟨s, .var n, k, h, Nat.le_refl _, by simp only [size] at h2 ⊢; omega⟩
  | .neg a, s, i, k, h, h1, h2 => by
    simp only [size] at h2
    by_cases c : i < s + size a
    · exact Sub_at a k h.1 h1 c
    · exact ⟨s, .neg a, k, h, Nat.le_refl _, by simp only [size]; omega⟩
  | .qu op v a, s, i, k, h, h1, h2 => by
    simp only [size] at h2
    by_cases c : i < s + size a
    · exact Sub_at a k.2.2.2 h.1 h1 c
    · exact ⟨s, .qu op v a, k, h, Nat.le_refl _, by simp only [size]; omega⟩
  | .bin op a b, s, i, k, h, h1, h2 => by
    simp only [size] at h2
    by_cases c : i < s + size a
    · exact Sub_at a k.2.2.1 h.1 h1 c
    by_cases c2 : i < s + size a + size b
    · obtain ⟨s', t', q1, q2, q3, q4⟩ := Sub_at b k.2.2.2 h.2.1 (by omega) c2
      exact ⟨s', t', q1, q2, by omega, q4⟩
    · exact ⟨s, .bin op a b, k, h, Nat.le_refl _, by simp only [size]; omega⟩
  | .ite c a b, s, i, k, h, h1, h2 => by
    simp only [size] at h2
    by_cases c0 : i < s + size c
    · exact Sub_at c k.1 h.1 h1 c0
    by_cases c1 : i < s + size c + size a
    · obtain ⟨s', t', q1, q2, q3, q4⟩ := Sub_at a k.2.1 h.2.1 (by omega) c1
      exact ⟨s', t', q1, q2, by omega, q4⟩
    by_cases c2 : i < s + size c + size a + size b
    · obtain ⟨s', t', q1, q2, q3, q4⟩ := Sub_at b k.2.2 h.2.2.1 (by omega) c2
      exact ⟨s', t', q1, q2, by omega, q4⟩
    · exact ⟨s, .ite c a b, k, h, Nat.le_refl _, by simp only [size]; omega⟩
/-- The greatest of what stands below. -/
def accm (dv : Nat → Int) : Nat → Int
  | 0 => 0
  | q + 1 => max (accm dv q) (dv q)
/-- A node below another one. -/
def Kid (fs : List (Int × Int)) (fr : List Int) (top : Nat) (z nx d : Int) : Prop := ∃ (s : Nat) (t : T), okT t ∧ Sub fs fr s t ∧ z = ((s + size t - 1 : Nat) : Int) ∧ s + size t ≤ top ∧ nx = (s : Int) - 1 ∧ d = (nst t : Int) ∧ fr[s + size t - 1]? = some (s : Int)
theorem Kid.of {s top : Nat} {t : T} (k : okT t) (h : Sub fs fr s t) (ht : s + size t ≤ top) : Kid fs fr top ((s + size t - 1 : Nat) : Int) ((s : Int) - 1) (nst t : Int) := ⟨s, t, k, h, rfl, ht, rfl, rfl, h.root.2⟩
theorem kidsAt {t : T} {s i : Nat} (k : okT t) (h : Sub fs fr s t) (hi : s + size t = i + 1) : ∃ (m : Nat) (kp dv : Nat → Int), m ≤ 3 ∧ arR (rootOp t) = (m : Int) ∧ kp 0 = (i : Int) - 1 ∧ (∀ q, q < m → Kid fs fr i (kp q) (kp (q + 1)) (dv q)) ∧ (nst t : Int) = accm dv m + (if quP (rootOp t) then 1 else 0) := by
  cases t with
  | cst n => exact ⟨0, fun _ => (i : Int) - 1, fun _ => 0, by omega, rfl, rfl, fun q hq => absurd hq (by omega), rfl⟩
  | var n => exact ⟨0, fun _ => (i : Int) - 1, fun _ => 0, by omega, rfl, rfl, fun q hq => absurd hq (by omega), rfl⟩
  | neg a =>
    simp only [size] at hi
    have hp := size_pos a
    refine ⟨1, fun | 0 => ((s + size a - 1 : Nat) : Int) | _ => (s : Int) - 1, fun _ => (nst a : Int), by omega, rfl, by show ((s + size a - 1 : Nat) : Int) = _; omega, fun q hq => ?_, ?_⟩
    · obtain rfl : q = 0 := by omega
      exact Kid.of k h.1 (by omega)
    · simp only [accm, rootOp, nst, show quP 3 = false from rfl]; simp
  | qu op v a =>
    simp only [size] at hi
    have hp := size_pos a
    refine ⟨1, fun | 0 => ((s + size a - 1 : Nat) : Int) | _ => (s : Int) - 1, fun _ => (nst a : Int), by omega, ?_, by show ((s + size a - 1 : Nat) : Int) = _; omega, fun q hq => ?_, ?_⟩
    · obtain ⟨rfl | rfl, _⟩ := k <;> rfl
    · obtain rfl : q = 0 := by omega
      exact Kid.of k.2.2.2 h.1 (by omega)
    · have hq : quP op = true := by obtain ⟨rfl | rfl, _⟩ := k <;> rfl
      simp only [accm, rootOp, nst, hq]; simp; omega
  | bin op a b =>
    simp only [size] at hi
    have hp := size_pos a
    have hp2 := size_pos b
    obtain ⟨k1, k2, k3, k4⟩ := k
    refine ⟨2, fun | 0 => ((s + size a + size b - 1 : Nat) : Int) | 1 => ((s + size a - 1 : Nat) : Int) | _ => (s : Int) - 1, fun | 0 => (nst b : Int) | _ => (nst a : Int), by omega, ?_, by show ((s + size a + size b - 1 : Nat) : Int) = _; omega, fun q hq => ?_, ?_⟩
    · rcases five k1 k2 with rfl | rfl | rfl | rfl | rfl <;> rfl
    · match q, hq with
      | 0, _ =>
        have := Kid.of (top := i) k4 h.2.1 (by omega)
        rwa [show (((s + size a : Nat) : Int) - 1) = ((s + size a - 1 : Nat) : Int) by omega] at this
      | 1, _ => exact Kid.of k3 h.1 (by omega)
    · have hq : quP op = false := by rcases five k1 k2 with rfl | rfl | rfl | rfl | rfl <;> rfl
      simp only [accm, rootOp, nst, hq]; simp; omega
  | ite c a b =>
    simp only [size] at hi
    have hp := size_pos a
    have hp2 := size_pos b
    have hp3 := size_pos c
    obtain ⟨k1, k2, k3⟩ := k
    refine ⟨3, fun | 0 => ((s + size c + size a + size b - 1 : Nat) : Int) | 1 => ((s + size c + size a - 1 : Nat) : Int) | 2 => ((s + size c - 1 : Nat) : Int) | _ => (s : Int) - 1, fun | 0 => (nst b : Int) | 1 => (nst a : Int) | _ => (nst c : Int), by omega, rfl, by show ((s + size c + size a + size b - 1 : Nat) : Int) = _; omega, fun q hq => ?_, ?_⟩
    · match q, hq with
      | 0, _ =>
        have := Kid.of (top := i) k3 h.2.2.1 (by omega)
        rwa [show (((s + size c + size a : Nat) : Int) - 1) = ((s + size c + size a - 1 : Nat) : Int) by omega] at this
      | 1, _ =>
        have := Kid.of (top := i) k2 h.2.1 (by omega)
        rwa [show (((s + size c : Nat) : Int) - 1) = ((s + size c - 1 : Nat) : Int) by omega] at this
      | 2, _ => exact Kid.of k1 h.1 (by omega)
    · simp only [accm, rootOp, nst, show quP 11 = false from rfl]; simp; omega
/-- What is known of the nodes ahead of i. -/
def Dn (fs : List (Int × Int)) (fr : List Int) (i : Nat) (D : List Int) : Prop := ∀ (s : Nat) (t : T), okT t → Sub fs fr s t → s + size t ≤ i → D[s + size t - 1]? = some (nst t : Int)
theorem Dn.step {i : Nat} {D : List Int} {s : Nat} {t : T} (h : Dn fs fr i D) (k : okT t) (hs : Sub fs fr s t) (hi : s + size t = i + 1) (hl : i < D.length) : Dn fs fr (i + 1) (D.set i (nst t : Int)) := by
  intro s2 t2 k2 h2 hi2
  have hp := size_pos t2
  by_cases e : s2 + size t2 = i + 1
  · obtain rfl := Sub_inj t t2 k k2 hs h2 (by omega)
    rw [show s2 + size t - 1 = i by omega, List.getElem?_set_self hl]
  · rw [List.getElem?_set_ne (by omega)]
    exact h s2 t2 k2 h2 (by omega)
theorem Dn.zero (D : List Int) : Dn fs fr 0 D := fun s t _ _ h => absurd h (by have := size_pos t; omega)
theorem accm_le {dv : Nat → Int} {m : Nat} {B : Int} (hB : 0 ≤ B) (h : ∀ q, q < m → 0 ≤ dv q ∧ dv q ≤ B) : ∀ q, q ≤ m → 0 ≤ accm dv q ∧ accm dv q ≤ B
  | 0, _ => by simp only [accm]; omega
  | q + 1, hq => by
    have h1 := accm_le hB h q (by omega)
    have h2 := h q (by omega)
    simp only [accm]; omega
end
end Go.Proofs.YthackanffcaejaaGreatDoor
