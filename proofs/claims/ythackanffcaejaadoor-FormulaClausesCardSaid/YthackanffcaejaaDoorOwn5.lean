/- The address of a field of a slice's element, in a region whose order is open. -/
import Derived.Test.YthackanffcaejaaDoorOwn4
set_option linter.unusedVariables false
set_option linter.unusedSimpArgs false
namespace Go.SL
open Go Go.RowKit
section
variable {P : Program} {w : World} {ad : Option Addr}
theorem draw_fa {o : Oper} {s : TypeId} {x : Operand} {f : Nat} (ho : o.op = .fieldAddr s x f) {ρ : Operand → Value} {j : Nat} (hx : ρ x = .pointer (some (adr ad j))) (hsp : ∃ aa, ad = some aa ∧ aa.spot = none) {k : Nat} (hf : fieldOff P s f = some k) :
    (execOp ρ o).run P w = .ok (.value (.pointer (some (adr ad (j + k))))) w := by
  have h := run_op_fieldAddr (w := w) ho hx hf
  obtain ⟨aa, rfl, hs⟩ := hsp
  simp only [adr, Option.getD_some, add_add _ hs] at h ⊢
  exact h
theorem wrapI {n : Int} (h0 : -9223372036854775808 ≤ n) (h1 : n ≤ 9223372036854775807) : IntKind.i64.wrap n = n := by
  simp [IntKind.wrap, IntKind.bits, IntKind.signed]; omega
end
end Go.SL
