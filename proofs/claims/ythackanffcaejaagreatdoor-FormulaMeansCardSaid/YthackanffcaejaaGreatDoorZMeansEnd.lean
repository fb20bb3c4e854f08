/- FormulaMeans: the law, whole. -/
import Derived.Test.YthackanffcaejaaGreatDoorZMeansN
import Derived.Test.YthackanffcaejaaGreatDoorZMeansP
set_option linter.unusedSimpArgs false
set_option linter.unusedVariables false
set_option linter.unusedSectionVars false
namespace Go.Proofs.YthackanffcaejaaGreatDoor
open Go Go.RowKit Go.SL Go.ClauseP Go.LexP

section
variable (f : List (Int × Int)) (hf : f.length ≤ 8796093022200) (g : List (Int × Int)) (hg : g.length ≤ 8796093022200) (bits : List Bool) (hbl : bits.length ≤ 140737488355328) (adf : Option Addr) (capf : Nat) (adg : Option Addr) (capg : Nat) (adB : Option Addr) (capB : Nat) (w0 : World) (hrf : Rd (base w0) adf (Fs f)) (hrg : Rd (base w0) adg (Fs g)) (hrB : Rd (base w0) adB (BV bits)) (hnf : adf = none → capf = 0 ∧ f.length = 0) (hng : adg = none → capg = 0 ∧ g.length = 0) (hnB : adB = none → capB = 0 ∧ bits.length = 0) (htb : Tab w0) (hSE : SigE w0) (v : Int) (hv0 : -9223372036854775808 ≤ v) (hv1 : v ≤ 9223372036854775807)
include hf hg hbl hrf hrg hrB hnf hng hnB htb hSE hv0 hv1
theorem meansLaw : Calls Tryz.prog 9 #[.slice adf f.length capf, .slice adg g.length capg, .int .i64 v, .slice adB bits.length capB] w0 fun e w' => e = .returned (.bool true) ∧ Sat w0 w' [base w0] := by
  by_cases hcf : (evalP f bits).2 = 0
  · by_cases hcg : (evalP g bits).2 = 0
    · by_cases h : v < 0
      · have hm : (-(v + 1)).tmod 1000 = (((-(v + 1)).toNat % 1000 : Nat) : Int) := by
          rw [Int.tmod_eq_emod_of_nonneg (by omega)]; omega
        exact meansGoodN f hf g hg bits hbl adf capf adg capg adB capB w0 hrf hrg hrB hnf hng hnB htb hSE v hv0 hv1 hcf hcg _ (Nat.mod_lt _ (by decide)) h hm
      · have hm : v.tmod 1000 = ((v.toNat % 1000 : Nat) : Int) := by
          rw [Int.tmod_eq_emod_of_nonneg (by omega)]; omega
        exact meansGoodP f hf g hg bits hbl adf capf adg capg adB capB w0 hrf hrg hrB hnf hng hnB htb hSE v hv0 hv1 hcf hcg _ (Nat.mod_lt _ (by decide)) h hm
    · exact meansBad f hf g hg bits hbl adf capf adg capg adB capB w0 hrf hrg hrB hnf hng hnB htb hSE v hv0 hv1 (.inr ⟨hcf, hcg⟩)
  · exact meansBad f hf g hg bits hbl adf capf adg capg adB capB w0 hrf hrg hrB hnf hng hnB htb hSE v hv0 hv1 (.inl hcf)
end
end Go.Proofs.YthackanffcaejaaGreatDoor
