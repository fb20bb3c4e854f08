/- What a quantifier over a formula says: plain Lean. -/
import Derived.Test.YthackanffcaejaaGreatDoorZ1
import Derived.Test.YthackanffcaejaaGreatDoorYEm1
set_option linter.unusedSimpArgs false
set_option linter.unusedVariables false
set_option maxRecDepth 20000
namespace Go.Proofs.YthackanffcaejaaGreatDoor
open Go Go.RowKit Go.SL

section
variable {f : List (Int × Int)} {bits : List Bool} (hf : (evalP f bits).2 = 0)
include hf
theorem means_qu2 {v : Nat} (hv : v < 65536) {l l2 : List Bool} (hl : Grw bits l) (hvl : v < l.length) (hl2 : Grw bits l2) (hvl2 : v < l2.length) : (evalP (f ++ [(4, (v : Int))]) bits).2 ≠ 0 ∨ ((evalP (f ++ [(5, (v : Int))]) bits).2 = 0 ∧ (evalP (f ++ [(4, (v : Int))]) bits).1 = ((evalP f (l.set v false)).1 || (evalP f (l2.set v true)).1) ∧ (evalP (f ++ [(5, (v : Int))]) bits).1 = ((evalP f (l.set v false)).1 && (evalP f (l2.set v true)).1)) := by
  by_cases h0 : (evalP (f ++ [(4, (v : Int))]) bits).2 = 0
  · right
    obtain ⟨a, ha, na, ea⟩ := evalP_ok hf
    obtain ⟨ka, pa⟩ := treeP_post ha
    obtain ⟨t, ht, nt, et⟩ := evalP_ok h0
    obtain rfl := treeP_run ht (u := .qu 4 v a) ⟨.inl rfl, by omega, by omega, ka⟩ (by rw [pa]; rfl)
    have hq := treeQ_some (treeP_some ht).1
    have h5 : treeP (f ++ [(5, (v : Int))]) = some (.qu 5 v a) := by
      have h1 : treeQ (f ++ [(5, (v : Int))]) = some (.qu 5 v a) := by
        have h2 : f ++ [(5, (v : Int))] = post (.qu 5 v a) := by rw [pa]; rfl
        have hl5 : ¬ (post (.qu 5 (v : Int) a)).length > 65536 := by
          rw [← h2]; have := hq.1; simp at this ⊢; omega
        rw [h2]
        unfold treeQ
        rw [if_neg hl5, runT_back (.qu 5 v a) [] ⟨.inr rfl, by omega, by omega, ka⟩]
      have h3 := (treeP_some ht).2
      have h4 : (look (.qu 5 (v : Int) a)).1 = (look (.qu 4 (v : Int) a)).1 := rfl
      unfold treeP
      rw [h1]
      simp only [Option.bind_some]
      rw [if_neg (by omega)]
    have e5 : evalP (f ++ [(5, (v : Int))]) bits = (evT (.qu 5 v a) (envD bits), 0) := by
      unfold evalP
      rw [h5]
      have : ¬ nst (.qu 5 (v : Int) a) > 8 := by simp only [nst] at nt ⊢; omega
      simp only [if_neg this]
    rw [et, e5, ea, ea, ev_set ka hvl, ev_set ka hvl2, hl.env, hl2.env]
    exact ⟨rfl, rfl, rfl⟩
  · exact .inl h0
end
end Go.Proofs.YthackanffcaejaaGreatDoor
