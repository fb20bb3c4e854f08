/- A part of the proof: KnD. -/
import Derived.Test.YthackanffcaejaaGreatDoorO1
import Derived.Test.YthackanffcaejaaGreatDoorO27
set_option linter.unusedSimpArgs false
set_option linter.unusedVariables false
set_option linter.unusedSectionVars false
namespace Go.Proofs.YthackanffcaejaaGreatDoor
section
open Go Go.RowKit Go.SL Go.ClauseP Go.LexP

theorem uo {text : List UInt8} (hl : text.length ≤ 1048576) {a : Ans} (ha : MRun text m00 0 0 (yS text 0) a) (w0 w : World) (hSig : XR w0) (R : List HP) (hbm : YT w0 ∈ R) (hS : Sat w0 w R) :
    Calls Tryz.prog 19 #[.string ⟨text.toArray⟩] w fun e w' => fnQ text w0 R e w' a :=
  (parseD text hl w0 w hSig R hbm hS).mono fun e w' ⟨r, h1, h2⟩ => by rw [← h1.det ha]; exact h2
end
end Go.Proofs.YthackanffcaejaaGreatDoor
