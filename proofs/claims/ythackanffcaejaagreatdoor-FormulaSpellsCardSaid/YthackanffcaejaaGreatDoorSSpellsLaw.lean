/- FormulaSpells: the law's walk. -/
import Derived.Test.YthackanffcaejaaGreatDoorS1
import Derived.Test.YthackanffcaejaaGreatDoorSSpl3
set_option linter.unusedSimpArgs false
set_option linter.unusedVariables false
set_option linter.unusedSectionVars false
set_option maxRecDepth 20000
namespace Go.Proofs.YthackanffcaejaaGreatDoor
open Go Go.RowKit Go.SL Go.ClauseP Go.LexP

set_option maxHeartbeats 4000000 in
theorem spellsLaw (fs : List (Int × Int)) (hl : fs.length ≤ 8796093022200) (bs : List Int) (hbl : bs.length ≤ 17592186044400) (ad : Option Addr) (cap : Nat) (adb : Option Addr) (capb : Nat) (w : World) (hr : Rd (base w) ad (Fs fs)) (hrb : Rd (base w) adb (Is bs)) (htb : Tab w) (hSE : SigE w) : Calls Tryz.prog 4 #[.slice ad fs.length cap, .slice adb bs.length capb] w fun e w' => e = .returned (.bool true) ∧ Sat w w' [base w] := by
  have hS := Sat.start w
  have AC := fun w1 R hm h => aliveC w w1 R hm hSE htb h
  have PD := fun w1 R h hA => printD fs (by omega) ad cap w w1 R h (A := base w) hA hr
  have hfail : ∀ c : Int, c ≠ 0 → printsP fs = ([], c) → Calls Tryz.prog 4 #[.slice ad fs.length cap, .slice adb bs.length capb] w fun e w' => e = .returned (.bool true) ∧ Sat w w' [base w] := by
    intro c hc hp
    simp only [hp] at PD
    have hcn : (c != 0) = true := by simp [hc]
    have hcb : (c == 0) = false := by simp [hc]
    clear hp hc
    go_enter Tryz.func4, Tryz.ntmps4
    go_wp2_with (first | (go_at_call 11; refine (AC _ _ mem_hd hS).mono ?_; clear hS; rintro e w ⟨rfl, hS⟩) | (go_at_call 13; refine (PD _ _ hS mem_hd).mono ?_; clear hS; rintro e w ⟨rfl, hS⟩))
    go_ret
    exact ⟨rfl, hS⟩
  cases ht : treeP fs with
  | none => exact hfail 134 (by decide) (by unfold printsP; rw [ht])
  | some t =>
    have hp : printsP fs = if (wr t true).length > 1048576 then ([], 5) else (wr t true, 0) := by unfold printsP; rw [ht]
    by_cases hlong : (wr t true).length > 1048576
    · rw [if_pos hlong] at hp
      exact hfail 5 (by decide) hp
    · rw [if_neg hlong] at hp
      simp only [hp] at PD
      have RC := fun w1 R h hA => respeltC (wr t true) (by omega) bs hbl adb capb w w1 R h (A := base w) hA hrb
      have hpk : ∀ r, ParseR (resp (decX bs) (wr t true) 0) r → ansT r = .inr fs := fun r h => respelt_parse (decX bs) ht h
      clear hfail ht hp hlong
      generalize wr t true = s at *
      generalize resp (decX bs) s 0 = o at *
      by_cases hol : o.length ≤ 1048576
      · have PK := fun w1 R hm h => parseKnown (text := o) hol hpk w w1 hSE R hm h
        simp only [fnQ] at PK
        have SM := fun ad2 cap2 w1 R h => sameT fs hl ad cap ad2 cap2 w w1 R h (A := base w) (B := own 50 2 ad2 fs.length cap2 (Fs fs))
        have hoi : ¬ (1048576 : Int) < (o.length : Int) := by omega
        clear hpk
        go_enter Tryz.func4, Tryz.ntmps4
        go_wp2_with (first | ((with_reducible apply arm_alloc hS); (first | with_reducible exact wanted_none | exact wanted_guard rfl rfl); (with_reducible first | exact z22 | exact z29 | exact z31 | exact z50); clear hS; intro NB w hS; (try simp only [Act.put, q1, q2, q3])) | ((with_reducible apply arm_storeN hS); (first | with_reducible exact wanted_none | exact wanted_guard rfl rfl); (first | exact ev_tmp rfl | exact ev_const); (first | exact ev_tmp rfl | exact ev_const); (repeat (with_reducible first | exact mem_hd | apply mem_tl)); rfl; (first | (focus (simp; done)) | (simp; omega) | omega); (repeat (with_reducible first | exact Upd.hd | apply Upd.tl)); rfl; (with_reducible first | exact sz29 | exact sz31 | exact sz50); rfl; clear hS; intro w hS; (try simp only [setFrom, q2, q3] at hS); (try simp only [Act.put, q1, q2, q3])) | ((with_reducible apply arm_load hS); (first | with_reducible exact wanted_none | exact wanted_guard rfl rfl); (first | exact ev_tmp rfl | exact ev_const); (repeat (with_reducible first | exact mem_hd | apply mem_tl)); rfl; decide +kernel; (try simp only [Act.put, q1, q2, q3])) | ((with_reducible apply arm_loadN hS); (first | with_reducible exact wanted_none | exact wanted_guard rfl rfl); (first | exact ev_tmp rfl | exact ev_const); (repeat (with_reducible first | exact mem_hd | apply mem_tl)); (with_reducible first | exact sz29 | exact sz31 | exact sz50); decide +kernel; rfl; rfl; (try simp only [Act.put, q1, q2, q3])) | ((with_reducible apply arm_fieldAddrE); (first | with_reducible exact wanted_none | exact wanted_guard rfl rfl); (first | exact ev_tmp rfl | exact ev_const); (first | exact hS.ownNN (by (repeat (with_reducible first | exact mem_hd | apply mem_tl))) (by omega) | exact Sat.rdAd2 (by assumption) hS (by ((repeat (with_reducible first | exact mem_hd | apply mem_tl))); try assumption) (by first | (simp only [Is_length, Bs_length, List.length_take, List.length_drop]; omega) | omega | (simp; omega) | (simp; done)) | assumption); (with_reducible first | exact fo29_0 | exact fo29_1 | exact fo31_0 | exact fo31_1 | exact fo50_0 | exact fo50_1); (try simp only [Act.put, q1, q2, q3])) | (go_at_call 11; refine (AC _ _ mem_hd hS).mono ?_; clear hS; rintro e w ⟨rfl, hS⟩) | (go_at_call 13; refine (PD _ _ hS mem_hd).mono ?_; clear hS; rintro e w ⟨rfl, hS⟩) | (go_at_call 17; refine (RC _ _ hS mem_hd).mono ?_; clear hS; rintro e w ⟨rfl, hS⟩) | (go_at_call 15; refine (PK _ _ (by (repeat (with_reducible first | exact mem_hd | apply mem_tl))) hS).mono ?_; clear hS; rintro e w ⟨ad2, cap2, rfl, hS⟩) | (go_at_call 16; refine (SM _ _ _ _ hS (by (repeat (with_reducible first | exact mem_hd | apply mem_tl))) (by (repeat (with_reducible first | exact mem_hd | apply mem_tl))) hr Rd.of_own).mono ?_; clear hS; rintro e w ⟨rfl, hS⟩))
        go_ret
        exact ⟨rfl, hS.sb (by (repeat (first | with_reducible exact Sb.refl | with_reducible exact Sb.nil | (with_reducible refine Sb.take (by (repeat (with_reducible first | exact Rem.hd | apply Rem.tl)); done) ?_) | with_reducible apply Sb.skip)))⟩
      · have hoi : (1048576 : Int) < (o.length : Int) := by omega
        clear hpk hol
        go_enter Tryz.func4, Tryz.ntmps4
        go_wp2_with (first | (go_at_call 11; refine (AC _ _ mem_hd hS).mono ?_; clear hS; rintro e w ⟨rfl, hS⟩) | (go_at_call 13; refine (PD _ _ hS mem_hd).mono ?_; clear hS; rintro e w ⟨rfl, hS⟩) | (go_at_call 17; refine (RC _ _ hS mem_hd).mono ?_; clear hS; rintro e w ⟨rfl, hS⟩))
        go_ret
        exact ⟨rfl, hS⟩
end Go.Proofs.YthackanffcaejaaGreatDoor
