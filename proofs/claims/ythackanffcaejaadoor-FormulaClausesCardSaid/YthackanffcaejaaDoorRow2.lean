/- Listed tables whose elements are integers or structs of integers. -/
import Derived.Test.YthackanffcaejaaDoorRow
set_option linter.unusedVariables false
namespace Go.SL
open Go Go.RowKit
/-- The cells of a table, of integers or of structs of integers. -/
def cells1 : DataW Unit → List Value
  | .lit (.int k n) => [Value.int k n]
  | .agg ps => ps.map fun | .lit (.int k n) => Value.int k n | _ => undef
  | _ => []
def cells2 : DataW Unit → Array Value
  | .agg ps => (ps.flatMap cells1).toArray
  | _ => #[]
noncomputable def laidTabs2 (P : Program) (os : Os) : List (Nat × DataW Unit) → World
  | [] => World.holding P os ⟨#[], #[], []⟩
  | (g, d) :: r => { laidTabs2 P os r with heap := (laidTabs2 P os r).heap.modify g fun
      | .cells _ t frozen => .cells (cells2 d) t frozen
      | o => o }
end Go.SL
