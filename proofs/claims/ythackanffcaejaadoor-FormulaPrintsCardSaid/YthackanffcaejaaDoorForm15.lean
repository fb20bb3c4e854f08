/- The document's starts: where each subtree begins. -/
import Derived.Test.YthackanffcaejaaDoorFormR
import Derived.Test.YthackanffcaejaaDoorFormT
import Derived.Test.YthackanffcaejaaDoorOwn6
import Derived.Test.YthackanffcaejaaDoorMore
import Derived.Test.YthackanffcaejaaDoorTy
set_option linter.unusedSimpArgs false
set_option linter.unusedVariables false
set_option linter.unusedSectionVars false
set_option maxRecDepth 20000
namespace Go.Proofs.YthackanffcaejaaDoor
open Go Go.RowKit Go.SL

def arR (op : Int) : Int := if op = 1 ∨ op = 2 then 0 else if 3 ≤ op ∧ op ≤ 5 then 1 else if 6 ≤ op ∧ op ≤ 10 then 2 else if op = 11 then 3 else -1
def ndR (op n : Int) : Bool := if op = 1 then decide (n = 0) || decide (n = 1) else if op = 2 ∨ op = 4 ∨ op = 5 then decide (0 ≤ n) && decide (n < 65536) else decide (0 < arR op) && decide (n = 0)
theorem nd_yes {op n : Int} (h : ndR op n = true) : arityP op n = arR op := by
  unfold ndR at h
  split at h
  · rename_i h1
    subst h1
    have hn : n = 0 ∨ n = 1 := by simpa using h
    unfold arityP
    rw [if_pos (.inl ⟨rfl, hn⟩)]; rfl
  split at h
  · rename_i h1 h2
    have hn : 0 ≤ n ∧ n < 65536 := by simpa using h
    unfold arityP arR
    rcases h2 with rfl | rfl | rfl
    · rw [if_pos (.inr ⟨rfl, hn⟩)]; rfl
    · rw [if_neg (by omega), if_pos (.inr ⟨.inl rfl, hn⟩)]; rfl
    · rw [if_neg (by omega), if_pos (.inr ⟨.inr rfl, hn⟩)]; rfl
  · have hn : 0 < arR op ∧ n = 0 := by simpa using h
    obtain ⟨h3, rfl⟩ := hn
    unfold arityP
    unfold arR at h3 ⊢
    (repeat' split) <;> (repeat' split at h3) <;> omega
theorem nd_no {op n : Int} (h : ndR op n = false) : arityP op n < 0 := by
  unfold ndR at h
  split at h
  · rename_i h1
    subst h1
    have hn : ¬ n = 0 ∧ ¬ n = 1 := by simpa using h
    unfold arityP; (repeat' split) <;> omega
  split at h
  · rename_i h1 h2
    have hn : 0 ≤ n → ¬ n < 65536 := by simpa using h
    unfold arityP; (repeat' split) <;> omega
  · have hn : 0 < arR op → ¬ n = 0 := by simpa using h
    unfold arityP
    unfold arR at hn
    (repeat' split) <;> (repeat' split at hn) <;> omega
theorem arR_cases (op : Int) : (op = 1 ∨ op = 2) ∧ arR op = 0 ∨ (¬ op = 1 ∧ ¬ op = 2) ∧ (3 ≤ op ∧ op ≤ 5) ∧ arR op = 1 ∨ (¬ op = 1 ∧ ¬ op = 2) ∧ (6 ≤ op ∧ op ≤ 10) ∧ arR op = 2 ∨ op = 11 ∧ arR op = 3 ∨ (¬ op = 1 ∧ ¬ op = 2) ∧ ¬ op = 11 ∧ (op < 3 ∨ 11 < op) ∧ arR op = -1 := by
  unfold arR; (repeat' split) <;> omega

theorem arityR (op : Int) (w0 w : World) (Hs : List HP) (hS : Sat w0 w Hs) : Calls Tryd.prog 104 #[.int .i64 op] w fun e w' => e = .returned (.int .i64 (arR op)) ∧ Sat w0 w' Hs := by
  rcases arR_cases op with ⟨h, ha⟩ | ⟨⟨n1, n2⟩, ⟨h1, h2⟩, ha⟩ | ⟨⟨n1, n2⟩, ⟨h1, h2⟩, ha⟩ | ⟨h, ha⟩ | ⟨⟨n1, n2⟩, n3, h, ha⟩ <;> rw [ha] <;> clear ha
  · rcases h with rfl | rfl
    all_goals
      go_enter Tryd.func104, Tryd.ntmps104
      go_wp2
      go_ret
      exact ⟨rfl, hS⟩
  · have g1 : (op == 1) = false := by simp [n1]
    have g2 : (op == 2) = false := by simp [n2]
    clear n1 n2
    go_enter Tryd.func104, Tryd.ntmps104
    go_wp2
    go_ret
    exact ⟨rfl, hS⟩
  · have g1 : (op == 1) = false := by simp [n1]
    have g2 : (op == 2) = false := by simp [n2]
    have g3 : 3 ≤ op := by omega
    have g4 : ¬ op ≤ 5 := by omega
    clear n1 n2
    go_enter Tryd.func104, Tryd.ntmps104
    go_wp2
    go_ret
    exact ⟨rfl, hS⟩
  · subst h
    go_enter Tryd.func104, Tryd.ntmps104
    go_wp2
    go_ret
    exact ⟨rfl, hS⟩
  · have g1 : (op == 1) = false := by simp [n1]
    have g2 : (op == 2) = false := by simp [n2]
    have g5 : (op == 11) = false := by simp [n3]
    clear n1 n2 n3
    rcases h with h | h
    · have g3 : ¬ 3 ≤ op := by omega
      have g4 : ¬ 6 ≤ op := by omega
      clear h
      go_enter Tryd.func104, Tryd.ntmps104
      go_wp2
      go_ret
      exact ⟨rfl, hS⟩
    · have g3 : 3 ≤ op := by omega
      have g4 : ¬ op ≤ 5 := by omega
      have g6 : 6 ≤ op := by omega
      have g7 : ¬ op ≤ 10 := by omega
      clear h
      go_enter Tryd.func104, Tryd.ntmps104
      go_wp2
      go_ret
      exact ⟨rfl, hS⟩
set_option maxHeartbeats 4000000 in
theorem nodeR (op n : Int) (w0 w : World) (Hs : List HP) (hS : Sat w0 w Hs) : Calls Tryd.prog 103 #[.agg #[.int .i64 op, .int .i64 n]] w fun e w' => e = .returned (.bool (ndR op n)) ∧ Sat w0 w' Hs := by
  have pf : ∀ r, ndR op n = r → Calls Tryd.prog 103 #[.agg #[.int .i64 op, .int .i64 n]] w (fun e w' => e = .returned (.bool r) ∧ Sat w0 w' Hs) → Calls Tryd.prog 103 #[.agg #[.int .i64 op, .int .i64 n]] w fun e w' => e = .returned (.bool (ndR op n)) ∧ Sat w0 w' Hs := fun r h k => by rw [h]; exact k
  by_cases o1 : op = 1
  · subst o1
    by_cases q0 : n = 0
    · subst q0
      refine pf true rfl ?_
      go_enter Tryd.func103, Tryd.ntmps103
      go_wp2_with (first | ((with_reducible apply (arm_box hS)); (first | with_reducible exact wanted_none | exact wanted_guard rfl rfl); (first | exact ev_tmp rfl | exact ev_const); (first | with_reducible exact cells_agg | exact cells_one rfl); clear hS; intro NB w hS; (try simp only [Act.put, List.setIfInBounds_toArray, List.set_cons_zero, List.set_cons_succ])) | ((with_reducible apply (arm_load hS)); (first | with_reducible exact wanted_none | exact wanted_guard rfl rfl); (first | exact ev_tmp rfl | exact ev_const); (repeat (first | with_reducible exact mem_hd | with_reducible apply mem_tl)); rfl; decide +kernel; (try simp only [Act.put, List.setIfInBounds_toArray, List.set_cons_zero, List.set_cons_succ])))
      go_ret
      exact ⟨rfl, hS.drop⟩
    · refine pf (n == 1) (by by_cases h : n = 1 <;> simp [ndR, q0, h]) ?_
      have g0 : (n == 0) = false := by simp [q0]
      clear q0 pf
      go_enter Tryd.func103, Tryd.ntmps103
      go_wp2_with (first | ((with_reducible apply (arm_box hS)); (first | with_reducible exact wanted_none | exact wanted_guard rfl rfl); (first | exact ev_tmp rfl | exact ev_const); (first | with_reducible exact cells_agg | exact cells_one rfl); clear hS; intro NB w hS; (try simp only [Act.put, List.setIfInBounds_toArray, List.set_cons_zero, List.set_cons_succ])) | ((with_reducible apply (arm_load hS)); (first | with_reducible exact wanted_none | exact wanted_guard rfl rfl); (first | exact ev_tmp rfl | exact ev_const); (repeat (first | with_reducible exact mem_hd | with_reducible apply mem_tl)); rfl; decide +kernel; (try simp only [Act.put, List.setIfInBounds_toArray, List.set_cons_zero, List.set_cons_succ])))
      go_ret
      exact ⟨by rfl, hS.drop⟩
  by_cases o2 : op = 2 ∨ op = 4 ∨ op = 5
  · by_cases q0 : 0 ≤ n
    · by_cases q1 : n < 65536
      · refine pf true (by simp [ndR, o1, o2, q0, q1]) ?_
        clear o1 pf
        rcases o2 with rfl | rfl | rfl
        all_goals
          go_enter Tryd.func103, Tryd.ntmps103
          go_wp2_with (first | ((with_reducible apply (arm_box hS)); (first | with_reducible exact wanted_none | exact wanted_guard rfl rfl); (first | exact ev_tmp rfl | exact ev_const); (first | with_reducible exact cells_agg | exact cells_one rfl); clear hS; intro NB w hS; (try simp only [Act.put, List.setIfInBounds_toArray, List.set_cons_zero, List.set_cons_succ])) | ((with_reducible apply (arm_load hS)); (first | with_reducible exact wanted_none | exact wanted_guard rfl rfl); (first | exact ev_tmp rfl | exact ev_const); (repeat (first | with_reducible exact mem_hd | with_reducible apply mem_tl)); rfl; decide +kernel; (try simp only [Act.put, List.setIfInBounds_toArray, List.set_cons_zero, List.set_cons_succ])))
          go_ret
          exact ⟨by rfl, hS.drop⟩
      · refine pf false (by simp [ndR, o1, o2, q0, q1]) ?_
        clear o1 pf
        rcases o2 with rfl | rfl | rfl
        all_goals
          go_enter Tryd.func103, Tryd.ntmps103
          go_wp2_with (first | ((with_reducible apply (arm_box hS)); (first | with_reducible exact wanted_none | exact wanted_guard rfl rfl); (first | exact ev_tmp rfl | exact ev_const); (first | with_reducible exact cells_agg | exact cells_one rfl); clear hS; intro NB w hS; (try simp only [Act.put, List.setIfInBounds_toArray, List.set_cons_zero, List.set_cons_succ])) | ((with_reducible apply (arm_load hS)); (first | with_reducible exact wanted_none | exact wanted_guard rfl rfl); (first | exact ev_tmp rfl | exact ev_const); (repeat (first | with_reducible exact mem_hd | with_reducible apply mem_tl)); rfl; decide +kernel; (try simp only [Act.put, List.setIfInBounds_toArray, List.set_cons_zero, List.set_cons_succ])))
          go_ret
          exact ⟨by rfl, hS.drop⟩
    · refine pf false (by simp [ndR, o1, o2, q0]) ?_
      clear o1 pf
      rcases o2 with rfl | rfl | rfl
      all_goals
        go_enter Tryd.func103, Tryd.ntmps103
        go_wp2_with (first | ((with_reducible apply (arm_box hS)); (first | with_reducible exact wanted_none | exact wanted_guard rfl rfl); (first | exact ev_tmp rfl | exact ev_const); (first | with_reducible exact cells_agg | exact cells_one rfl); clear hS; intro NB w hS; (try simp only [Act.put, List.setIfInBounds_toArray, List.set_cons_zero, List.set_cons_succ])) | ((with_reducible apply (arm_load hS)); (first | with_reducible exact wanted_none | exact wanted_guard rfl rfl); (first | exact ev_tmp rfl | exact ev_const); (repeat (first | with_reducible exact mem_hd | with_reducible apply mem_tl)); rfl; decide +kernel; (try simp only [Act.put, List.setIfInBounds_toArray, List.set_cons_zero, List.set_cons_succ])))
        go_ret
        exact ⟨by rfl, hS.drop⟩
  · have AR := arityR op
    have g1 : (op == 1) = false := by simp [o1]
    have g2 : (op == 2) = false := by simp; omega
    have g4 : (op == 4) = false := by simp; omega
    have g5 : (op == 5) = false := by simp; omega
    by_cases q0 : 0 < arR op
    · refine pf (n == 0) (by by_cases h : n = 0 <;> simp [ndR, o1, o2, q0, h]) ?_
      clear o1 o2 pf
      generalize arR op = k at *
      go_enter Tryd.func103, Tryd.ntmps103
      go_wp2_with (first | ((with_reducible apply (arm_box hS)); (first | with_reducible exact wanted_none | exact wanted_guard rfl rfl); (first | exact ev_tmp rfl | exact ev_const); (first | with_reducible exact cells_agg | exact cells_one rfl); clear hS; intro NB w hS; (try simp only [Act.put, List.setIfInBounds_toArray, List.set_cons_zero, List.set_cons_succ])) | ((with_reducible apply (arm_load hS)); (first | with_reducible exact wanted_none | exact wanted_guard rfl rfl); (first | exact ev_tmp rfl | exact ev_const); (repeat (first | with_reducible exact mem_hd | with_reducible apply mem_tl)); rfl; decide +kernel; (try simp only [Act.put, List.setIfInBounds_toArray, List.set_cons_zero, List.set_cons_succ])) | (go_at_call 104; refine (AR _ _ _ hS).mono ?_; clear hS; rintro e w ⟨rfl, hS⟩))
      go_ret
      exact ⟨by rfl, hS.drop⟩
    · refine pf false (by simp [ndR, o1, o2, q0]) ?_
      clear o1 o2 pf
      generalize arR op = k at *
      go_enter Tryd.func103, Tryd.ntmps103
      go_wp2_with (first | ((with_reducible apply (arm_box hS)); (first | with_reducible exact wanted_none | exact wanted_guard rfl rfl); (first | exact ev_tmp rfl | exact ev_const); (first | with_reducible exact cells_agg | exact cells_one rfl); clear hS; intro NB w hS; (try simp only [Act.put, List.setIfInBounds_toArray, List.set_cons_zero, List.set_cons_succ])) | ((with_reducible apply (arm_load hS)); (first | with_reducible exact wanted_none | exact wanted_guard rfl rfl); (first | exact ev_tmp rfl | exact ev_const); (repeat (first | with_reducible exact mem_hd | with_reducible apply mem_tl)); rfl; decide +kernel; (try simp only [Act.put, List.setIfInBounds_toArray, List.set_cons_zero, List.set_cons_succ])) | (go_at_call 104; refine (AR _ _ _ hS).mono ?_; clear hS; rintro e w ⟨rfl, hS⟩))
      go_ret
      exact ⟨by rfl, hS.drop⟩
end Go.Proofs.YthackanffcaejaaDoor
