/-
  DERIVED. GIVEN WITH THE SEED: THE CARDS: each row of YteopodbkhgcpmaaGreatDoorRows.lean that lists a variable, with what it lists TIED to the program's text (the seventh form; the later family's looks); each row that meets fmt, with fmt's text TOLD by the authors' own Lean function (tested against real Go, not proved from fmt's source: count such statements apart). THE CARD IS WHAT COUNTS. Prove the row's statement (the work); the ties are given (YteopodbkhgcpmaaGreatDoorTie.lean); close each card by the builder's one call (the guide's Derived/Test/ToyasCard.lean, 'card_holds'). Laid BY PROGRAM, IN A SANDBOX (cutbox-door.mjs). By AI agents, Wed Nov 11 2026. No macro, syntax, notation, axiom, sorry.
-/
import Derived.Test.YteopodbkhgcpmaaGreatDoorRows
import GoSem.ClaimSeven
namespace Go.Proofs.YteopodbkhgcpmaaGreatDoor
namespace Rows

/-- THE TIED CARD OF 'stratalaw13.FormulaFresh'. -/
def formulaFreshCard : Claim7 := { stood := { row := formulaFreshRow, standIns := [], harness := (true, "9883434ab96519895d5a3fe072bab953dd7301e314188e4191bb8f6d92fa1ca2"), looks := true }, kinds := [], alts := [], laidByText := true, laidKinds := [.data, .data, .data, .data, .data, .data, .pinned], laidTests := true, laidLooks := .later }
def FormulaFreshCardSaid : Prop := Claim7.holds Tryz.pinned (.plain (OpenSpec.ofChange formulaFreshSpec)) formulaFreshCard

/-- THE SECOND FORM's CARD OF 'stratalaw13.FormulaFresh'. -/
def formulaFreshUptoCard : Claim7 := { stood := { row := formulaFreshUptoRow, standIns := [], harness := (true, "9883434ab96519895d5a3fe072bab953dd7301e314188e4191bb8f6d92fa1ca2"), looks := true }, kinds := [], alts := [], laidByText := true, laidKinds := [.data, .data, .data, .data, .data, .data, .pinned], laidTests := true, laidLooks := .later }
def FormulaFreshUptoCardSaid : Prop := Claim7.holds Tryz.pinned (.plain (OpenSpec.upto formulaFreshSpec)) formulaFreshUptoCard
end Rows
end Go.Proofs.YteopodbkhgcpmaaGreatDoor
