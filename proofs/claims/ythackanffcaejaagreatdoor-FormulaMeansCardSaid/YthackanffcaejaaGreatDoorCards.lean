/-
  DERIVED. GIVEN WITH THE SEED: THE CARDS: each row of YthackanffcaejaaGreatDoorRows.lean that lists a variable, with what it lists TIED to the program's text (the seventh form; the later family's looks); each row that meets fmt, with fmt's text TOLD by the authors' own Lean function (tested against real Go, not proved from fmt's source: count such statements apart). THE CARD IS WHAT COUNTS. Prove the row's statement (the work); the ties are given (YthackanffcaejaaGreatDoorTie.lean); close each card by the builder's one call (the guide's Derived/Test/ToyasCard.lean, 'card_holds'). Laid BY PROGRAM, IN A SANDBOX (cutbox-door.mjs). By AI agents, Wed Nov 11 2026. No macro, syntax, notation, axiom, sorry.
-/
import Derived.Test.YthackanffcaejaaGreatDoorRows
import GoSem.ClaimSeven
namespace Go.Proofs.YthackanffcaejaaGreatDoor
namespace Rows

/-- THE TIED CARD OF 'stratalaw13.FormulaBack'. -/
def formulaBackCard : Claim7 := { stood := { row := formulaBackRow, standIns := [], harness := (true, "4268e926f07fd8397468b24f49a9599fec10a72a7ec660fd5cc85d56a74f134f"), looks := true }, kinds := [], alts := [], laidByText := true, laidKinds := [.data, .data, .data, .data], laidTests := true, laidLooks := .later }
def FormulaBackCardSaid : Prop := Claim7.holds Tryz.pinned (.plain (OpenSpec.ofChange formulaBackSpec)) formulaBackCard

/-- THE TIED CARD OF 'stratalaw13.FormulaSpells'. -/
def formulaSpellsCard : Claim7 := { stood := { row := formulaSpellsRow, standIns := [], harness := (true, "4268e926f07fd8397468b24f49a9599fec10a72a7ec660fd5cc85d56a74f134f"), looks := true }, kinds := [], alts := [], laidByText := true, laidKinds := [.data, .data, .data, .data], laidTests := true, laidLooks := .later }
def FormulaSpellsCardSaid : Prop := Claim7.holds Tryz.pinned (.plain (OpenSpec.ofChange formulaSpellsSpec)) formulaSpellsCard

/-- THE TIED CARD OF 'stratalaw13.FormulaFewest'. -/
def formulaFewestCard : Claim7 := { stood := { row := formulaFewestRow, standIns := [], harness := (true, "4268e926f07fd8397468b24f49a9599fec10a72a7ec660fd5cc85d56a74f134f"), looks := true }, kinds := [], alts := [], laidByText := true, laidKinds := [.data, .data, .data, .data], laidTests := true, laidLooks := .later }
def FormulaFewestCardSaid : Prop := Claim7.holds Tryz.pinned (.plain (OpenSpec.ofChange formulaFewestSpec)) formulaFewestCard

/-- THE TIED CARD OF 'stratalaw13.FormulaPrefix'. -/
def formulaPrefixCard : Claim7 := { stood := { row := formulaPrefixRow, standIns := [], harness := (true, "4268e926f07fd8397468b24f49a9599fec10a72a7ec660fd5cc85d56a74f134f"), looks := true }, kinds := [], alts := [], laidByText := true, laidKinds := [.data, .data, .data, .data, .data], laidTests := true, laidLooks := .later }
def FormulaPrefixCardSaid : Prop := Claim7.holds Tryz.pinned (.plain (OpenSpec.ofChange formulaPrefixSpec)) formulaPrefixCard

/-- THE TIED CARD OF 'stratalaw13.FormulaOnce'. -/
def formulaOnceCard : Claim7 := { stood := { row := formulaOnceRow, standIns := [], harness := (true, "4268e926f07fd8397468b24f49a9599fec10a72a7ec660fd5cc85d56a74f134f"), looks := true }, kinds := [], alts := [], laidByText := true, laidKinds := [.data, .data, .data, .data, .data], laidTests := true, laidLooks := .later }
def FormulaOnceCardSaid : Prop := Claim7.holds Tryz.pinned (.plain (OpenSpec.ofChange formulaOnceSpec)) formulaOnceCard

/-- THE TIED CARD OF 'stratalaw13.FormulaSays'. -/
def formulaSaysCard : Claim7 := { stood := { row := formulaSaysRow, standIns := [], harness := (true, "4268e926f07fd8397468b24f49a9599fec10a72a7ec660fd5cc85d56a74f134f"), looks := true }, kinds := [], alts := [], laidByText := true, laidKinds := [.data, .data, .data, .data], laidTests := true, laidLooks := .later }
def FormulaSaysCardSaid : Prop := Claim7.holds Tryz.pinned (.plain (OpenSpec.ofChange formulaSaysSpec)) formulaSaysCard

/-- THE TIED CARD OF 'stratalaw13.FormulaMeans'. -/
def formulaMeansCard : Claim7 := { stood := { row := formulaMeansRow, standIns := [], harness := (true, "4268e926f07fd8397468b24f49a9599fec10a72a7ec660fd5cc85d56a74f134f"), looks := true }, kinds := [], alts := [], laidByText := true, laidKinds := [.data, .data, .data, .data], laidTests := true, laidLooks := .later }
def FormulaMeansCardSaid : Prop := Claim7.holds Tryz.pinned (.plain (OpenSpec.ofChange formulaMeansSpec)) formulaMeansCard

/-- THE TIED CARD OF 'stratalaw13.FormulaFresh'. -/
def formulaFreshCard : Claim7 := { stood := { row := formulaFreshRow, standIns := [], harness := (true, "4268e926f07fd8397468b24f49a9599fec10a72a7ec660fd5cc85d56a74f134f"), looks := true }, kinds := [], alts := [], laidByText := true, laidKinds := [.data, .data, .data, .data, .data, .data, .pinned], laidTests := true, laidLooks := .later }
def FormulaFreshCardSaid : Prop := Claim7.holds Tryz.pinned (.plain (OpenSpec.ofChange formulaFreshSpec)) formulaFreshCard

/-- THE SECOND FORM's CARD OF 'stratalaw13.FormulaBack'. -/
def formulaBackUptoCard : Claim7 := { stood := { row := formulaBackUptoRow, standIns := [], harness := (true, "4268e926f07fd8397468b24f49a9599fec10a72a7ec660fd5cc85d56a74f134f"), looks := true }, kinds := [], alts := [], laidByText := true, laidKinds := [.data, .data, .data, .data], laidTests := true, laidLooks := .later }
def FormulaBackUptoCardSaid : Prop := Claim7.holds Tryz.pinned (.plain (OpenSpec.upto formulaBackSpec)) formulaBackUptoCard

/-- THE SECOND FORM's CARD OF 'stratalaw13.FormulaSpells'. -/
def formulaSpellsUptoCard : Claim7 := { stood := { row := formulaSpellsUptoRow, standIns := [], harness := (true, "4268e926f07fd8397468b24f49a9599fec10a72a7ec660fd5cc85d56a74f134f"), looks := true }, kinds := [], alts := [], laidByText := true, laidKinds := [.data, .data, .data, .data], laidTests := true, laidLooks := .later }
def FormulaSpellsUptoCardSaid : Prop := Claim7.holds Tryz.pinned (.plain (OpenSpec.upto formulaSpellsSpec)) formulaSpellsUptoCard

/-- THE SECOND FORM's CARD OF 'stratalaw13.FormulaFewest'. -/
def formulaFewestUptoCard : Claim7 := { stood := { row := formulaFewestUptoRow, standIns := [], harness := (true, "4268e926f07fd8397468b24f49a9599fec10a72a7ec660fd5cc85d56a74f134f"), looks := true }, kinds := [], alts := [], laidByText := true, laidKinds := [.data, .data, .data, .data], laidTests := true, laidLooks := .later }
def FormulaFewestUptoCardSaid : Prop := Claim7.holds Tryz.pinned (.plain (OpenSpec.upto formulaFewestSpec)) formulaFewestUptoCard

/-- THE SECOND FORM's CARD OF 'stratalaw13.FormulaPrefix'. -/
def formulaPrefixUptoCard : Claim7 := { stood := { row := formulaPrefixUptoRow, standIns := [], harness := (true, "4268e926f07fd8397468b24f49a9599fec10a72a7ec660fd5cc85d56a74f134f"), looks := true }, kinds := [], alts := [], laidByText := true, laidKinds := [.data, .data, .data, .data, .data], laidTests := true, laidLooks := .later }
def FormulaPrefixUptoCardSaid : Prop := Claim7.holds Tryz.pinned (.plain (OpenSpec.upto formulaPrefixSpec)) formulaPrefixUptoCard

/-- THE SECOND FORM's CARD OF 'stratalaw13.FormulaOnce'. -/
def formulaOnceUptoCard : Claim7 := { stood := { row := formulaOnceUptoRow, standIns := [], harness := (true, "4268e926f07fd8397468b24f49a9599fec10a72a7ec660fd5cc85d56a74f134f"), looks := true }, kinds := [], alts := [], laidByText := true, laidKinds := [.data, .data, .data, .data, .data], laidTests := true, laidLooks := .later }
def FormulaOnceUptoCardSaid : Prop := Claim7.holds Tryz.pinned (.plain (OpenSpec.upto formulaOnceSpec)) formulaOnceUptoCard

/-- THE SECOND FORM's CARD OF 'stratalaw13.FormulaSays'. -/
def formulaSaysUptoCard : Claim7 := { stood := { row := formulaSaysUptoRow, standIns := [], harness := (true, "4268e926f07fd8397468b24f49a9599fec10a72a7ec660fd5cc85d56a74f134f"), looks := true }, kinds := [], alts := [], laidByText := true, laidKinds := [.data, .data, .data, .data], laidTests := true, laidLooks := .later }
def FormulaSaysUptoCardSaid : Prop := Claim7.holds Tryz.pinned (.plain (OpenSpec.upto formulaSaysSpec)) formulaSaysUptoCard

/-- THE SECOND FORM's CARD OF 'stratalaw13.FormulaMeans'. -/
def formulaMeansUptoCard : Claim7 := { stood := { row := formulaMeansUptoRow, standIns := [], harness := (true, "4268e926f07fd8397468b24f49a9599fec10a72a7ec660fd5cc85d56a74f134f"), looks := true }, kinds := [], alts := [], laidByText := true, laidKinds := [.data, .data, .data, .data], laidTests := true, laidLooks := .later }
def FormulaMeansUptoCardSaid : Prop := Claim7.holds Tryz.pinned (.plain (OpenSpec.upto formulaMeansSpec)) formulaMeansUptoCard

/-- THE SECOND FORM's CARD OF 'stratalaw13.FormulaFresh'. -/
def formulaFreshUptoCard : Claim7 := { stood := { row := formulaFreshUptoRow, standIns := [], harness := (true, "4268e926f07fd8397468b24f49a9599fec10a72a7ec660fd5cc85d56a74f134f"), looks := true }, kinds := [], alts := [], laidByText := true, laidKinds := [.data, .data, .data, .data, .data, .data, .pinned], laidTests := true, laidLooks := .later }
def FormulaFreshUptoCardSaid : Prop := Claim7.holds Tryz.pinned (.plain (OpenSpec.upto formulaFreshSpec)) formulaFreshUptoCard
end Rows
end Go.Proofs.YthackanffcaejaaGreatDoor
