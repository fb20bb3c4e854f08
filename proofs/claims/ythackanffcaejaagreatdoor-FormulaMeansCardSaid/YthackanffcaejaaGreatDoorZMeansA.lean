/- FormulaMeans: the law's walk. -/
import Derived.Test.YthackanffcaejaaGreatDoorZ1
import Derived.Test.YthackanffcaejaaGreatDoorZMn1
import Derived.Test.YthackanffcaejaaGreatDoorZEm3
import Derived.Test.YthackanffcaejaaGreatDoorYEv6
import Derived.Test.YthackanffcaejaaGreatDoorYWd4
set_option linter.unusedSimpArgs false
set_option linter.unusedVariables false
set_option linter.unusedSectionVars false
set_option maxRecDepth 20000
namespace Go.Proofs.YthackanffcaejaaGreatDoor
open Go Go.RowKit Go.SL Go.ClauseP Go.LexP

section
variable (f : List (Int × Int)) (hf : f.length ≤ 8796093022200) (g : List (Int × Int)) (hg : g.length ≤ 8796093022200) (bits : List Bool) (hbl : bits.length ≤ 140737488355328) (adf : Option Addr) (capf : Nat) (adg : Option Addr) (capg : Nat) (adB : Option Addr) (capB : Nat) (w0 : World) (hrf : Rd (base w0) adf (Fs f)) (hrg : Rd (base w0) adg (Fs g)) (hrB : Rd (base w0) adB (BV bits)) (hnf : adf = none → capf = 0 ∧ f.length = 0) (hng : adg = none → capg = 0 ∧ g.length = 0) (hnB : adB = none → capB = 0 ∧ bits.length = 0) (htb : Tab w0) (hSE : SigE w0) (v : Int) (hv0 : -9223372036854775808 ≤ v) (hv1 : v ≤ 9223372036854775807)
include hf hg hbl hrf hrg hrB hnf hng hnB htb hSE hv0 hv1
set_option maxHeartbeats 4000000 in
theorem meansBad (hc : (evalP f bits).2 ≠ 0 ∨ (evalP f bits).2 = 0 ∧ (evalP g bits).2 ≠ 0) : Calls Tryz.prog 9 #[.slice adf f.length capf, .slice adg g.length capg, .int .i64 v, .slice adB bits.length capB] w0 fun e w' => e = .returned (.bool true) ∧ Sat w0 w' [base w0] := by
  have hS := Sat.start w0
  have AC := fun w1 R hm h => aliveC w0 w1 R hm hSE htb h
  have EF := fun w1 R h hA => evalE f (by omega) adf capf w0 w1 R h (A := base w0) hA hrf bits adB capB hbl (B := base w0) hA hrB
  have EG := fun w1 R h hA => evalE g (by omega) adg capg w0 w1 R h (A := base w0) hA hrg bits adB capB hbl (B := base w0) hA hrB
  have DF := fun w1 R h hA => evalD f (by omega) adf capf w0 w1 R h (A := base w0) hA hrf bits adB capB hbl (B := base w0) hA hrB
  have DG := fun w1 R h hA => evalD g (by omega) adg capg w0 w1 R h (A := base w0) hA hrg bits adB capB hbl (B := base w0) hA hrB
  generalize evalP f bits = E at *
  generalize evalP g bits = G at *
  obtain ⟨E1, E2⟩ := E
  obtain ⟨G1, G2⟩ := G
  clear hnf hng hnB
  by_cases hv : v < 0
  all_goals
    rcases hc with hc | ⟨hc, hc2⟩
    · have hc3 : (E2 != 0) = true := by simpa using hc
      go_enter Tryz.func9, Tryz.ntmps9
      go_wp2_with (first | (go_at_call 11; refine (AC _ _ mem_hd hS).mono ?_; clear hS; rintro e w ⟨rfl, hS⟩) | ((go_at_call 22); (first | ((with_reducible refine (EF _ _ hS mem_hd).mono ?_); clear EF) | ((with_reducible refine (EG _ _ hS mem_hd).mono ?_); clear EG)); clear hS; rintro e w ⟨rfl, hS⟩) | ((go_at_call 23); (first | ((with_reducible refine (DF _ _ hS mem_hd).mono ?_); clear DF) | ((with_reducible refine (DG _ _ hS mem_hd).mono ?_); clear DG)); clear hS; rintro e w ⟨rfl, hS⟩))
      go_ret
      exact ⟨rfl, hS⟩
    · dsimp only at hc
      subst hc
      have hc3 : (G2 != 0) = true := by simpa using hc2
      go_enter Tryz.func9, Tryz.ntmps9
      go_wp2_with (first | (go_at_call 11; refine (AC _ _ mem_hd hS).mono ?_; clear hS; rintro e w ⟨rfl, hS⟩) | ((go_at_call 22); (first | ((with_reducible refine (EF _ _ hS mem_hd).mono ?_); clear EF) | ((with_reducible refine (EG _ _ hS mem_hd).mono ?_); clear EG)); clear hS; rintro e w ⟨rfl, hS⟩) | ((go_at_call 23); (first | ((with_reducible refine (DF _ _ hS mem_hd).mono ?_); clear DF) | ((with_reducible refine (DG _ _ hS mem_hd).mono ?_); clear DG)); clear hS; rintro e w ⟨rfl, hS⟩))
      go_ret
      exact ⟨rfl, hS⟩
/-- A larger formula's calls. -/
structure Big (L : List (Int × Int)) (P1 : Bool) (P2 : Int) (O : Bool) : Prop where
  ev : ∀ AD CAP w1 R, Sat w0 w1 (own 50 2 AD L.length CAP (Fs L) :: R) → base w0 ∈ R → Calls Tryz.prog 22 #[.slice AD L.length CAP, .slice adB bits.length capB] w1 fun e w' => e = .returned (.tuple #[.bool P1, .int .i64 P2]) ∧ Sat w0 w' (own 50 2 AD L.length CAP (Fs L) :: R)
  dev : ∀ AD CAP w1 R, Sat w0 w1 (own 50 2 AD L.length CAP (Fs L) :: R) → base w0 ∈ R → Calls Tryz.prog 23 #[.slice AD L.length CAP, .slice adB bits.length capB] w1 fun e w' => e = .returned (.tuple #[.bool P1, .int .i64 P2]) ∧ Sat w0 w' (own 50 2 AD L.length CAP (Fs L) :: R)
  fm : ∀ AD CAP w1 R, Sat w0 w1 (own 50 2 AD L.length CAP (Fs L) :: R) → Calls Tryz.prog 12 #[.slice AD L.length CAP] w1 fun e w' => e = .returned (.bool O) ∧ Sat w0 w' (own 50 2 AD L.length CAP (Fs L) :: R)
omit hf hg hrf hrg hnf hng hnB htb hSE hv0 hv1 in
theorem big (L : List (Int × Int)) (hL : L.length ≤ 1000000) : Big bits adB capB w0 L (evalP L bits).1 (evalP L bits).2 (treeP L).isSome where
  ev := fun AD CAP w1 R h hB => evalE L (by omega) AD CAP w0 w1 _ h mem_hd Rd.of_own bits adB capB hbl (B := base w0) (mem_tl hB) hrB
  dev := fun AD CAP w1 R h hB => evalD L (by omega) AD CAP w0 w1 _ h mem_hd Rd.of_own bits adB capB hbl (B := base w0) (mem_tl hB) hrB
  fm := fun AD CAP w1 R h => formedD L (by omega) AD CAP w0 w1 _ h mem_hd Rd.of_own
end
end Go.Proofs.YthackanffcaejaaGreatDoor
