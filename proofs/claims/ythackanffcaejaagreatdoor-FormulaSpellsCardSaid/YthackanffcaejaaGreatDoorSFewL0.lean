/- Pieces of strings. -/
import Derived.Test.YthackanffcaejaaGreatDoorS1
set_option linter.unusedVariables false
namespace Go.Proofs.YthackanffcaejaaGreatDoor
open Go Go.RowKit Go.SL
theorem ex_midS (x : List UInt8) (k q : Nat) : (⟨x.toArray⟩ : ByteArray).extract k q = ⟨((x.take q).drop k).toArray⟩ := by
  apply ByteArray.ext
  rw [List.drop_take]
  simp only [ByteArray.data_extract, List.extract_toArray, List.extract_eq_take_drop]
end Go.Proofs.YthackanffcaejaaGreatDoor
