/- FormulaBack: the law's walk. -/
import Derived.Test.YthackanffcaejaaGreatDoorM1
import Derived.Test.YthackanffcaejaaGreatDoorM18
import Derived.Test.YthackanffcaejaaGreatDoorM21
set_option linter.unusedSimpArgs false
set_option linter.unusedVariables false
set_option maxRecDepth 20000
namespace Go.Proofs.YthackanffcaejaaGreatDoor
open Go Go.RowKit Go.SL Go.ClauseP Go.LexP

set_option maxHeartbeats 4000000 in
theorem backLaw (fs : List (Int × Int)) (hl : fs.length ≤ 8796093022200) (ad : Option Addr) (cap : Nat) (w : World) (hr : Rd (base w) ad (Fs fs)) (htb : Tab w) (hSE : SigE w) : Calls Tryz.prog 3 #[.slice ad fs.length cap] w fun e w' => e = .returned (.bool true) ∧ Sat w w' [base w] := by
  have hS := Sat.start w
  have AC := fun w1 R hm h => aliveC w w1 R hm hSE htb h
  have FD := fun w1 R h hA => formedD fs (by omega) ad cap w w1 R h (A := base w) hA hr
  have PD := fun w1 R h hA => printD fs (by omega) ad cap w w1 R h (A := base w) hA hr
  have PE := fun w1 R h hA => printE fs (by omega) ad cap w w1 R h (A := base w) hA hr hA htb
  cases ht : treeP fs with
  | none =>
    simp only [ht, Option.isSome_none] at FD
    clear ht
    go_enter Tryz.func3, Tryz.ntmps3
    go_wp2_with (first | (go_at_call 11; refine (AC _ _ mem_hd hS).mono ?_; clear hS; rintro e w ⟨rfl, hS⟩) | (go_at_call 12; refine (FD _ _ hS mem_hd).mono ?_; clear hS; rintro e w ⟨rfl, hS⟩))
    go_ret
    exact ⟨rfl, hS⟩
  | some t =>
    have hp : printsP fs = if (wr t true).length > 1048576 then ([], 5) else (wr t true, 0) := by unfold printsP; rw [ht]
    simp only [ht, Option.isSome_some] at FD
    by_cases hlong : (wr t true).length > 1048576
    · rw [if_pos hlong] at hp
      simp only [hp] at PD PE
      clear ht hp hlong
      go_enter Tryz.func3, Tryz.ntmps3
      go_wp2_with (first | (go_at_call 11; refine (AC _ _ mem_hd hS).mono ?_; clear hS; rintro e w ⟨rfl, hS⟩) | (go_at_call 12; refine (FD _ _ hS mem_hd).mono ?_; clear hS; rintro e w ⟨rfl, hS⟩) | (go_at_call 13; refine (PD _ _ hS mem_hd).mono ?_; clear hS; rintro e w ⟨rfl, hS⟩) | (go_at_call 14; refine (PE _ _ hS mem_hd).mono ?_; clear hS; rintro e w ⟨rfl, hS⟩))
      go_ret
      exact ⟨rfl, hS⟩
    · rw [if_neg hlong] at hp
      simp only [hp] at PD PE
      have PK := fun w1 R hm h => parseKnown (text := wr t true) (by omega) (fun r h => back_parse ht h) w w1 hSE R hm h
      have SM := fun ad2 cap2 w1 R h => sameT fs hl ad cap ad2 cap2 w w1 R h (A := base w) (B := own 50 2 ad2 fs.length cap2 (Fs fs))
      clear ht hp hlong
      generalize wr t true = s at *
      go_enter Tryz.func3, Tryz.ntmps3
      go_wp2_with (first | ((with_reducible apply arm_alloc hS); (first | with_reducible exact wanted_none | exact wanted_guard rfl rfl); (with_reducible first | exact z22 | exact z29 | exact z31 | exact z50); clear hS; intro NB w hS; (try simp only [Act.put, q1, q2, q3])) | ((with_reducible apply arm_storeN hS); (first | with_reducible exact wanted_none | exact wanted_guard rfl rfl); (first | exact ev_tmp rfl | exact ev_const); (first | exact ev_tmp rfl | exact ev_const); (repeat (with_reducible first | exact mem_hd | apply mem_tl)); rfl; (first | (focus (simp; done)) | (simp; omega) | omega); (repeat (with_reducible first | exact Upd.hd | apply Upd.tl)); rfl; (with_reducible first | exact sz29 | exact sz31 | exact sz50); rfl; clear hS; intro w hS; (try simp only [setFrom, q2, q3] at hS); (try simp only [Act.put, q1, q2, q3])) | ((with_reducible apply arm_load hS); (first | with_reducible exact wanted_none | exact wanted_guard rfl rfl); (first | exact ev_tmp rfl | exact ev_const); (repeat (with_reducible first | exact mem_hd | apply mem_tl)); rfl; decide +kernel; (try simp only [Act.put, q1, q2, q3])) | ((with_reducible apply arm_loadN hS); (first | with_reducible exact wanted_none | exact wanted_guard rfl rfl); (first | exact ev_tmp rfl | exact ev_const); (repeat (with_reducible first | exact mem_hd | apply mem_tl)); (with_reducible first | exact sz29 | exact sz31 | exact sz50); decide +kernel; rfl; rfl; (try simp only [Act.put, q1, q2, q3])) | (go_at_call 11; refine (AC _ _ mem_hd hS).mono ?_; clear hS; rintro e w ⟨rfl, hS⟩) | (go_at_call 12; refine (FD _ _ hS mem_hd).mono ?_; clear hS; rintro e w ⟨rfl, hS⟩) | (go_at_call 13; refine (PD _ _ hS mem_hd).mono ?_; clear hS; rintro e w ⟨rfl, hS⟩) | (go_at_call 14; refine (PE _ _ hS mem_hd).mono ?_; clear hS; rintro e w ⟨rfl, hS⟩) | (go_at_call 15; refine (PK _ _ (by (repeat (with_reducible first | exact mem_hd | apply mem_tl))) hS).mono ?_; clear hS; rintro e w ⟨ad2, cap2, rfl, hS⟩) | (go_at_call 16; refine (SM _ _ _ _ hS (by (repeat (with_reducible first | exact mem_hd | apply mem_tl))) (by (repeat (with_reducible first | exact mem_hd | apply mem_tl))) hr Rd.of_own).mono ?_; clear hS; rintro e w ⟨rfl, hS⟩))
      go_ret
      exact ⟨rfl, hS.sb (by (repeat (first | with_reducible exact Sb.refl | with_reducible exact Sb.nil | (with_reducible refine Sb.take (by (repeat (with_reducible first | exact Rem.hd | apply Rem.tl)); done) ?_) | with_reducible apply Sb.skip)))⟩
end Go.Proofs.YthackanffcaejaaGreatDoor
