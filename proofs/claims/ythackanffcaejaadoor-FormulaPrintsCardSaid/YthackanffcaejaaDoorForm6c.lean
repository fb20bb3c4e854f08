/- Package formula: arity, part c. -/
import Derived.Test.YthackanffcaejaaDoorFormP
set_option linter.unusedSimpArgs false
set_option linter.unusedVariables false
set_option linter.unusedSectionVars false
set_option maxRecDepth 20000
namespace Go.Proofs.YthackanffcaejaaDoor
open Go Go.RowKit Go.SL

set_option maxHeartbeats 4000000 in
theorem ar14 (op : Int) (k1 : (op == 1) = false) (k2 : (op == 2) = false) (k3 : (op == 3) = false) (k4 : (op == 4) = false) (k5 : (op == 5) = false) (k6 : decide (6 ≤ op) = true) (k7 : decide (op ≤ 10) = true) (w0 w : World) (Hs : List HP) (hS : Sat w0 w Hs) : Calls Tryd.prog 70 #[.agg #[.int .i64 op, .int .i64 0]] w fun e w' => e = .returned (.int .i64 (2)) ∧ Sat w0 w' Hs := by
    go_enter Tryd.func70, Tryd.ntmps70
    go_wp2_with (first | (((with_reducible apply (arm_box hS)); (first | with_reducible exact wanted_none | exact wanted_guard rfl rfl); (first | exact ev_tmp rfl | exact ev_const); (first | with_reducible exact cells_agg | exact cells_one rfl); clear hS; intro NB w hS; (try simp only [Act.put, List.setIfInBounds_toArray, List.set_cons_zero, List.set_cons_succ])); have c0 := hS.cell mem_hd (off := 0) rfl; have c1 := hS.cell mem_hd (off := 1) rfl))
    go_ret
    exact ⟨rfl, hS.drop⟩
set_option maxHeartbeats 4000000 in
theorem ar15 (op n : Int) (g0 : (n == 0) = false) (k1 : (op == 1) = false) (k2 : (op == 2) = false) (k3 : (op == 3) = false) (k4 : (op == 4) = false) (k5 : (op == 5) = false) (k11 : (op == 11) = false) (k6 : decide (6 ≤ op) = true) (k7 : decide (op ≤ 10) = true) (w0 w : World) (Hs : List HP) (hS : Sat w0 w Hs) : Calls Tryd.prog 70 #[.agg #[.int .i64 op, .int .i64 n]] w fun e w' => e = .returned (.int .i64 (-1)) ∧ Sat w0 w' Hs := by
    go_enter Tryd.func70, Tryd.ntmps70
    go_wp2_with (first | (((with_reducible apply (arm_box hS)); (first | with_reducible exact wanted_none | exact wanted_guard rfl rfl); (first | exact ev_tmp rfl | exact ev_const); (first | with_reducible exact cells_agg | exact cells_one rfl); clear hS; intro NB w hS; (try simp only [Act.put, List.setIfInBounds_toArray, List.set_cons_zero, List.set_cons_succ])); have c0 := hS.cell mem_hd (off := 0) rfl; have c1 := hS.cell mem_hd (off := 1) rfl))
    go_ret
    exact ⟨rfl, hS.drop⟩
set_option maxHeartbeats 4000000 in
theorem ar16   (w0 w : World) (Hs : List HP) (hS : Sat w0 w Hs) : Calls Tryd.prog 70 #[.agg #[.int .i64 11, .int .i64 0]] w fun e w' => e = .returned (.int .i64 (3)) ∧ Sat w0 w' Hs := by
    go_enter Tryd.func70, Tryd.ntmps70
    go_wp2_with (first | (((with_reducible apply (arm_box hS)); (first | with_reducible exact wanted_none | exact wanted_guard rfl rfl); (first | exact ev_tmp rfl | exact ev_const); (first | with_reducible exact cells_agg | exact cells_one rfl); clear hS; intro NB w hS; (try simp only [Act.put, List.setIfInBounds_toArray, List.set_cons_zero, List.set_cons_succ])); have c0 := hS.cell mem_hd (off := 0) rfl; have c1 := hS.cell mem_hd (off := 1) rfl))
    go_ret
    exact ⟨rfl, hS.drop⟩
set_option maxHeartbeats 4000000 in
theorem ar17 (n : Int) (g0 : (n == 0) = false) (w0 w : World) (Hs : List HP) (hS : Sat w0 w Hs) : Calls Tryd.prog 70 #[.agg #[.int .i64 11, .int .i64 n]] w fun e w' => e = .returned (.int .i64 (-1)) ∧ Sat w0 w' Hs := by
    go_enter Tryd.func70, Tryd.ntmps70
    go_wp2_with (first | (((with_reducible apply (arm_box hS)); (first | with_reducible exact wanted_none | exact wanted_guard rfl rfl); (first | exact ev_tmp rfl | exact ev_const); (first | with_reducible exact cells_agg | exact cells_one rfl); clear hS; intro NB w hS; (try simp only [Act.put, List.setIfInBounds_toArray, List.set_cons_zero, List.set_cons_succ])); have c0 := hS.cell mem_hd (off := 0) rfl; have c1 := hS.cell mem_hd (off := 1) rfl))
    go_ret
    exact ⟨rfl, hS.drop⟩
set_option maxHeartbeats 4000000 in
theorem ar18 (op n : Int) (k1 : (op == 1) = false) (k2 : (op == 2) = false) (k3 : (op == 3) = false) (k4 : (op == 4) = false) (k5 : (op == 5) = false) (k11 : (op == 11) = false) (k6 : decide (6 ≤ op) = false) (w0 w : World) (Hs : List HP) (hS : Sat w0 w Hs) : Calls Tryd.prog 70 #[.agg #[.int .i64 op, .int .i64 n]] w fun e w' => e = .returned (.int .i64 (-1)) ∧ Sat w0 w' Hs := by
    go_enter Tryd.func70, Tryd.ntmps70
    go_wp2_with (first | (((with_reducible apply (arm_box hS)); (first | with_reducible exact wanted_none | exact wanted_guard rfl rfl); (first | exact ev_tmp rfl | exact ev_const); (first | with_reducible exact cells_agg | exact cells_one rfl); clear hS; intro NB w hS; (try simp only [Act.put, List.setIfInBounds_toArray, List.set_cons_zero, List.set_cons_succ])); have c0 := hS.cell mem_hd (off := 0) rfl; have c1 := hS.cell mem_hd (off := 1) rfl))
    go_ret
    exact ⟨rfl, hS.drop⟩
set_option maxHeartbeats 4000000 in
theorem ar19 (op n : Int) (k1 : (op == 1) = false) (k2 : (op == 2) = false) (k3 : (op == 3) = false) (k4 : (op == 4) = false) (k5 : (op == 5) = false) (k11 : (op == 11) = false) (k6 : decide (6 ≤ op) = true) (k7 : decide (op ≤ 10) = false) (w0 w : World) (Hs : List HP) (hS : Sat w0 w Hs) : Calls Tryd.prog 70 #[.agg #[.int .i64 op, .int .i64 n]] w fun e w' => e = .returned (.int .i64 (-1)) ∧ Sat w0 w' Hs := by
    go_enter Tryd.func70, Tryd.ntmps70
    go_wp2_with (first | (((with_reducible apply (arm_box hS)); (first | with_reducible exact wanted_none | exact wanted_guard rfl rfl); (first | exact ev_tmp rfl | exact ev_const); (first | with_reducible exact cells_agg | exact cells_one rfl); clear hS; intro NB w hS; (try simp only [Act.put, List.setIfInBounds_toArray, List.set_cons_zero, List.set_cons_succ])); have c0 := hS.cell mem_hd (off := 0) rfl; have c1 := hS.cell mem_hd (off := 1) rfl))
    go_ret
    exact ⟨rfl, hS.drop⟩
end Go.Proofs.YthackanffcaejaaDoor
