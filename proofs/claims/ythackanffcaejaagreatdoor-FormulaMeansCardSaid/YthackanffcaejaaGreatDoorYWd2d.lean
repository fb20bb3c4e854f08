/- The document's truth, whole. -/
import Derived.Test.YthackanffcaejaaGreatDoorY1
import Derived.Test.YthackanffcaejaaGreatDoorYWd2b
import Derived.Test.YthackanffcaejaaGreatDoorYWd2c
set_option linter.unusedSimpArgs false
set_option linter.unusedVariables false
set_option linter.unusedSectionVars false
set_option maxRecDepth 20000
namespace Go.Proofs.YthackanffcaejaaGreatDoor
open Go Go.RowKit Go.SL

section
variable (fs : List (Int × Int)) (fr : List Int)
theorem truthM : ∀ t : T, okT t → TrM fs fr t
  | .cst n, h => trCst fs fr n h
  | .var n, h => trVar fs fr n h
  | .neg a, h => trNeg fs fr a (truthM a h)
  | .qu op v a, h => trQu fs fr op v a h (truthM a h.2.2.2)
  | .bin op a b, h => trBin fs fr op a b h (truthM a h.2.2.1) (truthM b h.2.2.2)
  | .ite c a b, h => trIte fs fr c a b (truthM c h.1) (truthM a h.2.1) (truthM b h.2.2)
end
end Go.Proofs.YthackanffcaejaaGreatDoor
