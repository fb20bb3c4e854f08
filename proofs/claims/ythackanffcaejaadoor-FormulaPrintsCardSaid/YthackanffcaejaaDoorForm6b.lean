/- Package formula: arity, part b. -/
import Derived.Test.YthackanffcaejaaDoorFormP
set_option linter.unusedSimpArgs false
set_option linter.unusedVariables false
set_option linter.unusedSectionVars false
set_option maxRecDepth 20000
namespace Go.Proofs.YthackanffcaejaaDoor
open Go Go.RowKit Go.SL

set_option maxHeartbeats 4000000 in
theorem ar7 (n : Int) (g0 : (n == 0) = false) (w0 w : World) (Hs : List HP) (hS : Sat w0 w Hs) : Calls Tryd.prog 70 #[.agg #[.int .i64 3, .int .i64 n]] w fun e w' => e = .returned (.int .i64 (-1)) ∧ Sat w0 w' Hs := by
    go_enter Tryd.func70, Tryd.ntmps70
    go_wp2_with (first | (((with_reducible apply (arm_box hS)); (first | with_reducible exact wanted_none | exact wanted_guard rfl rfl); (first | exact ev_tmp rfl | exact ev_const); (first | with_reducible exact cells_agg | exact cells_one rfl); clear hS; intro NB w hS; (try simp only [Act.put, List.setIfInBounds_toArray, List.set_cons_zero, List.set_cons_succ])); have c0 := hS.cell mem_hd (off := 0) rfl; have c1 := hS.cell mem_hd (off := 1) rfl))
    go_ret
    exact ⟨rfl, hS.drop⟩
set_option maxHeartbeats 4000000 in
theorem ar8 (n : Int) (g : decide (0 ≤ n) = false) (w0 w : World) (Hs : List HP) (hS : Sat w0 w Hs) : Calls Tryd.prog 70 #[.agg #[.int .i64 4, .int .i64 n]] w fun e w' => e = .returned (.int .i64 (-1)) ∧ Sat w0 w' Hs := by
    go_enter Tryd.func70, Tryd.ntmps70
    go_wp2_with (first | (((with_reducible apply (arm_box hS)); (first | with_reducible exact wanted_none | exact wanted_guard rfl rfl); (first | exact ev_tmp rfl | exact ev_const); (first | with_reducible exact cells_agg | exact cells_one rfl); clear hS; intro NB w hS; (try simp only [Act.put, List.setIfInBounds_toArray, List.set_cons_zero, List.set_cons_succ])); have c0 := hS.cell mem_hd (off := 0) rfl; have c1 := hS.cell mem_hd (off := 1) rfl))
    go_ret
    exact ⟨rfl, hS.drop⟩
set_option maxHeartbeats 4000000 in
theorem ar9 (n : Int) (g : decide (0 ≤ n) = true) (g2 : decide (n < 65536) = true) (w0 w : World) (Hs : List HP) (hS : Sat w0 w Hs) : Calls Tryd.prog 70 #[.agg #[.int .i64 4, .int .i64 n]] w fun e w' => e = .returned (.int .i64 (1)) ∧ Sat w0 w' Hs := by
    go_enter Tryd.func70, Tryd.ntmps70
    go_wp2_with (first | (((with_reducible apply (arm_box hS)); (first | with_reducible exact wanted_none | exact wanted_guard rfl rfl); (first | exact ev_tmp rfl | exact ev_const); (first | with_reducible exact cells_agg | exact cells_one rfl); clear hS; intro NB w hS; (try simp only [Act.put, List.setIfInBounds_toArray, List.set_cons_zero, List.set_cons_succ])); have c0 := hS.cell mem_hd (off := 0) rfl; have c1 := hS.cell mem_hd (off := 1) rfl))
    go_ret
    exact ⟨rfl, hS.drop⟩
set_option maxHeartbeats 4000000 in
theorem ar10 (n : Int) (g : decide (0 ≤ n) = true) (g2 : decide (n < 65536) = false) (w0 w : World) (Hs : List HP) (hS : Sat w0 w Hs) : Calls Tryd.prog 70 #[.agg #[.int .i64 4, .int .i64 n]] w fun e w' => e = .returned (.int .i64 (-1)) ∧ Sat w0 w' Hs := by
    go_enter Tryd.func70, Tryd.ntmps70
    go_wp2_with (first | (((with_reducible apply (arm_box hS)); (first | with_reducible exact wanted_none | exact wanted_guard rfl rfl); (first | exact ev_tmp rfl | exact ev_const); (first | with_reducible exact cells_agg | exact cells_one rfl); clear hS; intro NB w hS; (try simp only [Act.put, List.setIfInBounds_toArray, List.set_cons_zero, List.set_cons_succ])); have c0 := hS.cell mem_hd (off := 0) rfl; have c1 := hS.cell mem_hd (off := 1) rfl))
    go_ret
    exact ⟨rfl, hS.drop⟩
set_option maxHeartbeats 4000000 in
theorem ar11 (n : Int) (g : decide (0 ≤ n) = false) (w0 w : World) (Hs : List HP) (hS : Sat w0 w Hs) : Calls Tryd.prog 70 #[.agg #[.int .i64 5, .int .i64 n]] w fun e w' => e = .returned (.int .i64 (-1)) ∧ Sat w0 w' Hs := by
    go_enter Tryd.func70, Tryd.ntmps70
    go_wp2_with (first | (((with_reducible apply (arm_box hS)); (first | with_reducible exact wanted_none | exact wanted_guard rfl rfl); (first | exact ev_tmp rfl | exact ev_const); (first | with_reducible exact cells_agg | exact cells_one rfl); clear hS; intro NB w hS; (try simp only [Act.put, List.setIfInBounds_toArray, List.set_cons_zero, List.set_cons_succ])); have c0 := hS.cell mem_hd (off := 0) rfl; have c1 := hS.cell mem_hd (off := 1) rfl))
    go_ret
    exact ⟨rfl, hS.drop⟩
set_option maxHeartbeats 4000000 in
theorem ar12 (n : Int) (g : decide (0 ≤ n) = true) (g2 : decide (n < 65536) = true) (w0 w : World) (Hs : List HP) (hS : Sat w0 w Hs) : Calls Tryd.prog 70 #[.agg #[.int .i64 5, .int .i64 n]] w fun e w' => e = .returned (.int .i64 (1)) ∧ Sat w0 w' Hs := by
    go_enter Tryd.func70, Tryd.ntmps70
    go_wp2_with (first | (((with_reducible apply (arm_box hS)); (first | with_reducible exact wanted_none | exact wanted_guard rfl rfl); (first | exact ev_tmp rfl | exact ev_const); (first | with_reducible exact cells_agg | exact cells_one rfl); clear hS; intro NB w hS; (try simp only [Act.put, List.setIfInBounds_toArray, List.set_cons_zero, List.set_cons_succ])); have c0 := hS.cell mem_hd (off := 0) rfl; have c1 := hS.cell mem_hd (off := 1) rfl))
    go_ret
    exact ⟨rfl, hS.drop⟩
set_option maxHeartbeats 4000000 in
theorem ar13 (n : Int) (g : decide (0 ≤ n) = true) (g2 : decide (n < 65536) = false) (w0 w : World) (Hs : List HP) (hS : Sat w0 w Hs) : Calls Tryd.prog 70 #[.agg #[.int .i64 5, .int .i64 n]] w fun e w' => e = .returned (.int .i64 (-1)) ∧ Sat w0 w' Hs := by
    go_enter Tryd.func70, Tryd.ntmps70
    go_wp2_with (first | (((with_reducible apply (arm_box hS)); (first | with_reducible exact wanted_none | exact wanted_guard rfl rfl); (first | exact ev_tmp rfl | exact ev_const); (first | with_reducible exact cells_agg | exact cells_one rfl); clear hS; intro NB w hS; (try simp only [Act.put, List.setIfInBounds_toArray, List.set_cons_zero, List.set_cons_succ])); have c0 := hS.cell mem_hd (off := 0) rfl; have c1 := hS.cell mem_hd (off := 1) rfl))
    go_ret
    exact ⟨rfl, hS.drop⟩
end Go.Proofs.YthackanffcaejaaDoor
