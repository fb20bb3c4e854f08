/- A list of truths as an argument: what it reads as, turned to a view of what stood when the call began. -/
import Derived.Test.YthackanffcaejaaGreatDoorY1
import Derived.Test.YthackanffcaejaaGreatDoorYEv3
set_option linter.unusedVariables false
set_option linter.unusedSimpArgs false
set_option maxRecDepth 20000
namespace Go.Proofs.YthackanffcaejaaGreatDoor
open Go Go.RowKit Go.SL Go.ChangeShapes Go.WideShapes

theorem cellsB1 : Tryz.prog.cellsOf 4 = 1 := by kernel_rfl
section
variable {H : Type} {enc : TypeId × Value → H} {W : World}
theorem argBools {fuel : Nat} {cs : List Value} {x : DataW H × List MemPlace} (h : DataW.trod enc Tryz.prog W 0 (fun _ => true) true fuel 42 cs = some x) :
    ∃ (ad : Option Addr) (bs : List Bool) (cap : Nat), cs = [.slice ad bs.length cap] ∧ (ad = none → cap = 0 ∧ bs.length = 0) ∧ Rd (base W) ad (BV bs) ∧ (∀ m, (∀ n ∈ x.1.weights Tryz.prog 42, n ≤ m) → bs.length * Tryz.prog.bytesOf 4 ≤ m) := by
  rcases DataW.trod_slice Tryz.underlying42 h with ⟨rfl, rfl⟩ | ⟨a, len, cap, elems, rest, n, _, rfl, rfl, hb, hl, hm, hlen, hel, hsp, hns⟩
  · exact ⟨none, [], 0, rfl, fun _ => ⟨rfl, rfl⟩, rd_nil _ _, fun m _ => by simp⟩
  · have each : ∀ i, ∃ b : Bool, i < len → W.cell? (a.add i) = some (.bool b) := by
      intro i
      by_cases hi : i < len
      · have h1 := hel i hi
        rw [List.getElem?_eq_getElem (show i < elems.length by omega), Option.bind_eq_some_iff] at h1
        obtain ⟨cs', hcs, hy⟩ := h1
        obtain ⟨b, rfl, _⟩ := DataW.trod_bool Tryz.underlying4 hy
        rw [cellsB1, Nat.mul_one] at hcs
        obtain ⟨_, _, hcell⟩ := World.cells?_some hcs
        refine ⟨b, fun _ => ?_⟩
        have h2 := hcell 0 (by omega)
        have h3 : (a.add i).add 0 = a.add i := by simp [Addr.add]
        rw [h3] at h2
        simpa using h2
      · exact ⟨false, fun h => absurd h hi⟩
    obtain ⟨f, hf⟩ := Classical.axiomOfChoice each
    have hfl : ((List.range len).map f).length = len := by simp
    refine ⟨some a, (List.range len).map f, cap, by rw [hfl], (fun h => nomatch h), rd_base fun j v hv => ?_, fun m hmw => ?_⟩
    · have hj := (List.getElem?_eq_some_iff.1 hv).1
      have hj2 : j < len := by simpa [BV] using hj
      have hv2 : some (Value.bool (f j)) = some v := by rw [← hv]; simp [BV, hj2]
      rw [hf j hj2, hv2]
    · have h1 := hmw ((elems.length + rest.length) * Tryz.prog.bytesOf 4) (by simp [DataW.weights, Tryz.underlying42])
      rw [hfl]
      have h2 : len * Tryz.prog.bytesOf 4 ≤ (elems.length + rest.length) * Tryz.prog.bytesOf 4 := Nat.mul_le_mul_right _ (by omega)
      omega
end
end Go.Proofs.YthackanffcaejaaGreatDoor
