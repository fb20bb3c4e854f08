/- The document's view of a formula's list: where each subtree begins; plain Lean. -/
import Derived.Test.YthackanffcaejaaDoorFormP
set_option linter.unusedSimpArgs false
set_option linter.unusedVariables false
set_option linter.unusedSectionVars false
namespace Go.Proofs.YthackanffcaejaaDoor
open Go Go.RowKit Go.SL

def rootOp : T → Int
  | .cst _ => 1
  | .var _ => 2
  | .neg _ => 3
  | .qu op _ _ => op
  | .bin op _ _ => op
  | .ite _ _ _ => 11
def rootN : T → Int
  | .cst n => n
  | .var v => v
  | .qu _ v _ => v
  | _ => 0
def kids : T → List T
  | .cst _ => []
  | .var _ => []
  | .neg a => [a]
  | .qu _ _ a => [a]
  | .bin _ a b => [a, b]
  | .ite c a b => [c, a, b]
/-- The subtree t begins at node s. -/
def Sub (fs : List (Int × Int)) (fr : List Int) (s : Nat) : T → Prop
  | .cst n => fs[s]? = some (1, n) ∧ fr[s]? = some (s : Int)
  | .var v => fs[s]? = some (2, v) ∧ fr[s]? = some (s : Int)
  | .neg a => Sub fs fr s a ∧ fs[s + size a]? = some (3, 0) ∧ fr[s + size a]? = some (s : Int)
  | .qu op v a => Sub fs fr s a ∧ fs[s + size a]? = some (op, v) ∧ fr[s + size a]? = some (s : Int)
  | .bin op a b => Sub fs fr s a ∧ Sub fs fr (s + size a) b ∧ fs[s + size a + size b]? = some (op, 0) ∧ fr[s + size a + size b]? = some (s : Int)
  | .ite c a b => Sub fs fr s c ∧ Sub fs fr (s + size c) a ∧ Sub fs fr (s + size c + size a) b ∧ fs[s + size c + size a + size b]? = some (11, 0) ∧ fr[s + size c + size a + size b]? = some (s : Int)
theorem Sub.root {fs : List (Int × Int)} {fr : List Int} {s : Nat} {t : T} (h : Sub fs fr s t) : fs[s + size t - 1]? = some (rootOp t, rootN t) ∧ fr[s + size t - 1]? = some (s : Int) := by
  cases t with
  | cst n => exact h
  | var n => exact h
  | neg a => exact ⟨h.2.1, h.2.2⟩
  | qu op v a => exact ⟨h.2.1, h.2.2⟩
  | bin op a b => exact ⟨by simpa [size, rootOp, rootN, ← Nat.add_assoc] using h.2.2.1, by simpa [size, ← Nat.add_assoc] using h.2.2.2⟩
  | ite c a b => exact ⟨by simpa [size, rootOp, rootN, ← Nat.add_assoc] using h.2.2.2.1, by simpa [size, ← Nat.add_assoc] using h.2.2.2.2⟩
theorem Sub.set {fs : List (Int × Int)} {fr : List Int} {i : Nat} {v : Int} : ∀ {t : T} {s : Nat}, Sub fs fr s t → s + size t ≤ i → Sub fs (fr.set i v) s t
  | .cst _, s, h, hi => ⟨h.1, by rw [List.getElem?_set_ne (by simp [size] at hi; omega)]; exact h.2⟩
  | .var _, s, h, hi => ⟨h.1, by rw [List.getElem?_set_ne (by simp [size] at hi; omega)]; exact h.2⟩
  | .neg a, s, h, hi => ⟨h.1.set (by simp [size] at hi; omega), h.2.1, by rw [List.getElem?_set_ne (by simp [size] at hi; omega)]; exact h.2.2⟩
  | .qu _ _ a, s, h, hi => ⟨h.1.set (by simp [size] at hi; omega), h.2.1, by rw [List.getElem?_set_ne (by simp [size] at hi; omega)]; exact h.2.2⟩
  | .bin _ a b, s, h, hi => ⟨h.1.set (by simp [size] at hi; omega), h.2.1.set (by simp [size] at hi; omega), h.2.2.1, by rw [List.getElem?_set_ne (by simp [size] at hi; omega)]; exact h.2.2.2⟩
  | .ite c a b, s, h, hi => ⟨h.1.set (by simp [size] at hi; omega), h.2.1.set (by simp [size] at hi; omega), h.2.2.1.set (by simp [size] at hi; omega), h.2.2.2.1, by rw [List.getElem?_set_ne (by simp [size] at hi; omega)]; exact h.2.2.2.2⟩
def Subs (fs : List (Int × Int)) (fr : List Int) : List T → Prop
  | [] => True
  | t :: st => Subs fs fr st ∧ Sub fs fr (sumSz st) t
def roots : List T → List Int
  | [] => []
  | t :: st => roots st ++ [((sumSz st + size t - 1 : Nat) : Int)]
theorem roots_length : ∀ st : List T, (roots st).length = st.length
  | [] => rfl
  | t :: st => by simp [roots, roots_length st]
theorem Subs.set {fs : List (Int × Int)} {fr : List Int} {i : Nat} {v : Int} : ∀ {st : List T}, Subs fs fr st → sumSz st ≤ i → Subs fs (fr.set i v) st
  | [], _, _ => trivial
  | t :: st, h, hi => by
    simp only [sumSz, List.map_cons, List.sum_cons] at hi
    exact ⟨h.1.set (by unfold sumSz; omega), h.2.set (by unfold sumSz; omega)⟩

/-! ### What stands in brackets -/
def bindsP (op : Int) : Int := if op = 6 then 5 else if op = 8 then 4 else if op = 7 then 3 else if op = 9 then 2 else 1
def twoP (op : Int) : Bool := decide (6 ≤ op) && decide (op ≤ 10)
def firstP (op root : Int) : Bool := if twoP root = false ∨ op = 10 then false else if op = 9 then decide (root = 9) || decide (root = 10) else decide (bindsP root < bindsP op)
def secondP (op root : Int) : Bool := if twoP root = false then false else if op = 9 ∨ op = 10 then decide (root = 10) else decide (bindsP root ≤ bindsP op)
def quP (op : Int) : Bool := decide (op = 4) || decide (op = 5)
theorem five {o : Int} (h1 : 6 ≤ o) (h2 : o ≤ 10) : o = 6 ∨ o = 7 ∨ o = 8 ∨ o = 9 ∨ o = 10 := by omega
theorem brk_neg {a : T} (h : okT a) (last : Bool) : (twoP (rootOp a) || (quP (rootOp a) && !last)) = brkP 3 0 a last := by
  cases a with
  | qu op v b => obtain ⟨rfl | rfl, _⟩ := h <;> cases last <;> rfl
  | bin op b c => obtain ⟨h1, h2, _⟩ := h; rcases five h1 h2 with rfl | rfl | rfl | rfl | rfl <;> cases last <;> rfl
  | _ => cases last <;> rfl
theorem brk_first {op : Int} (h1 : 6 ≤ op) (h2 : op ≤ 10) {a : T} (h : okT a) : (firstP op (rootOp a) || (quP (rootOp a) && !false)) = brkP op 0 a false := by
  cases a with
  | qu o v b => obtain ⟨rfl | rfl, _⟩ := h <;> rcases five h1 h2 with rfl | rfl | rfl | rfl | rfl <;> rfl
  | bin o b c =>
    obtain ⟨g1, g2, _⟩ := h
    rcases five g1 g2 with rfl | rfl | rfl | rfl | rfl <;> rcases five h1 h2 with rfl | rfl | rfl | rfl | rfl <;> rfl
  | _ => rcases five h1 h2 with rfl | rfl | rfl | rfl | rfl <;> rfl
theorem brk_second {op : Int} (h1 : 6 ≤ op) (h2 : op ≤ 10) {a : T} (h : okT a) (last : Bool) : (secondP op (rootOp a) || (quP (rootOp a) && !last)) = brkP op 1 a last := by
  cases a with
  | qu o v b => obtain ⟨rfl | rfl, _⟩ := h <;> rcases five h1 h2 with rfl | rfl | rfl | rfl | rfl <;> cases last <;> rfl
  | bin o b c =>
    obtain ⟨g1, g2, _⟩ := h
    rcases five g1 g2 with rfl | rfl | rfl | rfl | rfl <;> rcases five h1 h2 with rfl | rfl | rfl | rfl | rfl <;> cases last <;> rfl
  | _ => rcases five h1 h2 with rfl | rfl | rfl | rfl | rfl <;> cases last <;> rfl
def lkd (t : T) (last : Bool) : Int := if last then (look t).1 else (look t).2
def opB (t : T) (br last : Bool) : List UInt8 := if br then [40] ++ wr t true ++ [41] else wr t last
def lkB (t : T) (br last : Bool) : Int := if br then 1 + lkd t true else lkd t last
theorem opB_opd (op side : Int) (t : T) (last : Bool) : opB t (brkP op side t last) last = opd op side t last := rfl
theorem lkB_cnt (op side : Int) (t : T) (last : Bool) : lkB t (brkP op side t last) last = cnt op side t last (look t) := by
  unfold lkB cnt lkd; cases brkP op side t last <;> cases last <;> rfl
theorem lkd_neg (a : T) (last : Bool) : lkd (.neg a) last = 1 + cnt 3 0 a last (look a) := by cases last <;> rfl
theorem lkd_qu (op v : Int) (a : T) (last : Bool) : lkd (.qu op v a) last = 1 + lkd a true := by cases last <;> rfl
theorem lkd_bin (op : Int) (a b : T) (last : Bool) : lkd (.bin op a b) last = max (cnt op 0 a false (look a)) (cnt op 1 b last (look b)) := by cases last <;> rfl
theorem lkd_ite (c a b : T) (last : Bool) : lkd (.ite c a b) last = 1 + max (max (lkd c true) (lkd a true)) (lkd b true) := by cases last <;> rfl
theorem lkd_le (t : T) (last : Bool) : 0 ≤ lkd t last ∧ lkd t last ≤ 2 * size t := by
  have := look_le t
  cases last <;> simp [lkd] <;> omega
end Go.Proofs.YthackanffcaejaaDoor
