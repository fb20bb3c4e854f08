/-
  DERIVED. GIVEN WITH THE SEED: THE CARDS: each row of YthackanffcaejaaDoorRows.lean that lists a variable, with what it lists TIED to the program's text (the seventh form; the later family's looks); each row that meets fmt, with fmt's text TOLD by the authors' own Lean function (tested against real Go, not proved from fmt's source: count such statements apart). THE CARD IS WHAT COUNTS. Prove the row's statement (the work); the ties are given (YthackanffcaejaaDoorTie.lean); close each card by the builder's one call (the guide's Derived/Test/ToyasCard.lean, 'card_holds'). Laid BY PROGRAM, IN A SANDBOX (cutbox-door.mjs). By AI agents, Wed Nov 11 2026. No macro, syntax, notation, axiom, sorry.
-/
import Derived.Test.YthackanffcaejaaDoorRows
import GoSem.ClaimSeven
namespace Go.Proofs.YthackanffcaejaaDoor
namespace Rows

/-- THE TIED CARD OF 'stratalaw13.FormulaWrites'. -/
def formulaWritesCard : Claim7 := { stood := { row := formulaWritesRow, standIns := [], harness := (true, "c0f5ffc5883bf1fd65aff4cce9eedb39e819759fe12cf618325cef8e2697c3f0"), looks := true }, kinds := [], alts := [], laidByText := true, laidKinds := [.data, .data, .data], laidTests := true, laidLooks := .later }
def FormulaWritesCardSaid : Prop := Claim7.holds Tryd.pinned (.plain (OpenSpec.ofChange formulaWritesSpec)) formulaWritesCard

/-- THE TIED CARD OF 'stratalaw13.FormulaClauses'. -/
def formulaClausesCard : Claim7 := { stood := { row := formulaClausesRow, standIns := [], harness := (true, "c0f5ffc5883bf1fd65aff4cce9eedb39e819759fe12cf618325cef8e2697c3f0"), looks := true }, kinds := [], alts := [], laidByText := true, laidKinds := [.data, .pinned], laidTests := true, laidLooks := .later }
def FormulaClausesCardSaid : Prop := Claim7.holds Tryd.pinned (.plain (OpenSpec.ofChange formulaClausesSpec)) formulaClausesCard

/-- THE TIED CARD OF 'stratalaw13.FormulaCnfBack'. -/
def formulaCnfBackCard : Claim7 := { stood := { row := formulaCnfBackRow, standIns := [], harness := (true, "c0f5ffc5883bf1fd65aff4cce9eedb39e819759fe12cf618325cef8e2697c3f0"), looks := true }, kinds := [], alts := [], laidByText := true, laidKinds := [.data, .data, .data, .data, .pinned], laidTests := true, laidLooks := .later }
def FormulaCnfBackCardSaid : Prop := Claim7.holds Tryd.pinned (.plain (OpenSpec.ofChange formulaCnfBackSpec)) formulaCnfBackCard

/-- THE TIED CARD OF 'stratalaw13.FormulaPrints'. -/
def formulaPrintsCard : Claim7 := { stood := { row := formulaPrintsRow, standIns := [], harness := (true, "c0f5ffc5883bf1fd65aff4cce9eedb39e819759fe12cf618325cef8e2697c3f0"), looks := true }, kinds := [], alts := [], laidByText := true, laidKinds := [.data, .data, .data], laidTests := true, laidLooks := .later }
def FormulaPrintsCardSaid : Prop := Claim7.holds Tryd.pinned (.plain (OpenSpec.ofChange formulaPrintsSpec)) formulaPrintsCard

/-- THE TIED CARD OF 'stratalaw13.FormulaReads'. -/
def formulaReadsCard : Claim7 := { stood := { row := formulaReadsRow, standIns := [], harness := (true, "c0f5ffc5883bf1fd65aff4cce9eedb39e819759fe12cf618325cef8e2697c3f0"), looks := true }, kinds := [], alts := [], laidByText := true, laidKinds := [.data, .data], laidTests := true, laidLooks := .later }
def FormulaReadsCardSaid : Prop := Claim7.holds Tryd.pinned (.plain (OpenSpec.ofChange formulaReadsSpec)) formulaReadsCard

/-- THE SECOND FORM's CARD OF 'stratalaw13.FormulaWrites'. -/
def formulaWritesUptoCard : Claim7 := { stood := { row := formulaWritesUptoRow, standIns := [], harness := (true, "c0f5ffc5883bf1fd65aff4cce9eedb39e819759fe12cf618325cef8e2697c3f0"), looks := true }, kinds := [], alts := [], laidByText := true, laidKinds := [.data, .data, .data], laidTests := true, laidLooks := .later }
def FormulaWritesUptoCardSaid : Prop := Claim7.holds Tryd.pinned (.plain (OpenSpec.upto formulaWritesSpec)) formulaWritesUptoCard

/-- THE SECOND FORM's CARD OF 'stratalaw13.FormulaClauses'. -/
def formulaClausesUptoCard : Claim7 := { stood := { row := formulaClausesUptoRow, standIns := [], harness := (true, "c0f5ffc5883bf1fd65aff4cce9eedb39e819759fe12cf618325cef8e2697c3f0"), looks := true }, kinds := [], alts := [], laidByText := true, laidKinds := [.data, .pinned], laidTests := true, laidLooks := .later }
def FormulaClausesUptoCardSaid : Prop := Claim7.holds Tryd.pinned (.plain (OpenSpec.upto formulaClausesSpec)) formulaClausesUptoCard

/-- THE SECOND FORM's CARD OF 'stratalaw13.FormulaCnfBack'. -/
def formulaCnfBackUptoCard : Claim7 := { stood := { row := formulaCnfBackUptoRow, standIns := [], harness := (true, "c0f5ffc5883bf1fd65aff4cce9eedb39e819759fe12cf618325cef8e2697c3f0"), looks := true }, kinds := [], alts := [], laidByText := true, laidKinds := [.data, .data, .data, .data, .pinned], laidTests := true, laidLooks := .later }
def FormulaCnfBackUptoCardSaid : Prop := Claim7.holds Tryd.pinned (.plain (OpenSpec.upto formulaCnfBackSpec)) formulaCnfBackUptoCard

/-- THE SECOND FORM's CARD OF 'stratalaw13.FormulaPrints'. -/
def formulaPrintsUptoCard : Claim7 := { stood := { row := formulaPrintsUptoRow, standIns := [], harness := (true, "c0f5ffc5883bf1fd65aff4cce9eedb39e819759fe12cf618325cef8e2697c3f0"), looks := true }, kinds := [], alts := [], laidByText := true, laidKinds := [.data, .data, .data], laidTests := true, laidLooks := .later }
def FormulaPrintsUptoCardSaid : Prop := Claim7.holds Tryd.pinned (.plain (OpenSpec.upto formulaPrintsSpec)) formulaPrintsUptoCard

/-- THE SECOND FORM's CARD OF 'stratalaw13.FormulaReads'. -/
def formulaReadsUptoCard : Claim7 := { stood := { row := formulaReadsUptoRow, standIns := [], harness := (true, "c0f5ffc5883bf1fd65aff4cce9eedb39e819759fe12cf618325cef8e2697c3f0"), looks := true }, kinds := [], alts := [], laidByText := true, laidKinds := [.data, .data], laidTests := true, laidLooks := .later }
def FormulaReadsUptoCardSaid : Prop := Claim7.holds Tryd.pinned (.plain (OpenSpec.upto formulaReadsSpec)) formulaReadsUptoCard
end Rows
end Go.Proofs.YthackanffcaejaaDoor
