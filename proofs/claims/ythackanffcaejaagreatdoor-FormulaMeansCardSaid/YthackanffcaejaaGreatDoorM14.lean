/- A part of the proof: Lv10 Lv11 Form6a Form6b Form6c. -/
import Derived.Test.YthackanffcaejaaGreatDoorM1
import Derived.Test.YthackanffcaejaaGreatDoorM4
import Derived.Test.YthackanffcaejaaGreatDoorM6
import Derived.Test.YthackanffcaejaaGreatDoorM7
import Derived.Test.YthackanffcaejaaGreatDoorM8
import Derived.Test.YthackanffcaejaaGreatDoorM11
import Derived.Test.YthackanffcaejaaGreatDoorM13
section
set_option linter.unusedSimpArgs false
set_option linter.unusedVariables false
set_option maxRecDepth 20000
namespace Go.Proofs.YthackanffcaejaaGreatDoor
open Go Go.RowKit Go.SL
-- ACT2

theorem Fs_append : ∀ (a b : List (Int × Int)), Fs (a ++ b) = Fs a ++ Fs b
  | [], b => rfl
  | x :: a, b => by simp [Fs, Fs_append a b]
def LsM (t : T) : Prop := ∀ (ad : Option Addr) (n cap : Nat) (fs : List (Int × Int)) (v : Value) (H : Hp) (w0 w : World) (R : List HP), Sat w0 w (own 50 2 ad n cap (Fs fs) :: R) → fz H ∈ R → InT H t v → n + size t ≤ 1000000 →
  Calls Tryz.prog 41 #[.slice ad n cap, v] w fun e w' => ∃ ad' cap', e = .returned (.slice ad' (n + size t) cap') ∧ Sat w0 w' (own 50 2 ad' (n + size t) cap' (Fs (fs ++ post t)) :: R)
theorem listC0 (c : Int) : LsM (.cst c) := by
  rintro ad n cap fs v H w0 w R hS hm ⟨b, rfl, hb⟩ hsz
  simp only [size] at hsz
  have c2 : celH H b 2 = some (.int .i64 c) := by simp [celH, hb]
  clear hb
  go_enter Tryz.func41, Tryz.ntmps41
  go_wp2_with (first | ((with_reducible apply arm_assertY); exact wanted_none; exact ev_tmp rfl; exact Tryz.underlying132; (try simp only [Act.put, q1, q2, q3])) | ((with_reducible apply arm_loadF hS); exact wanted_none; exact ev_tmp rfl; assumption; (((repeat (with_reducible apply mem_tl))); (try assumption)); decide +kernel; (try simp only [Act.put, q1, q2, q3])) | ((with_reducible apply arm_build1 hS); exact wanted_none; exact E22; exact ev_tmp rfl; exact cells_agg; rfl; decide; clear hS; intro NB w hS; (try simp only [Act.put, q1, q2, q3])) | ((with_reducible apply arm_appendB hS); exact wanted_none; exact ev_tmp rfl; exact ev_tmp rfl; exact E22; (repeat (with_reducible first | exact Rem.hd | apply Rem.tl)); (repeat (with_reducible apply Rem.tl)); rfl; rfl; (omega); (omega); clear hS; intro AD CAP w hS; (try simp only [Nat.zero_add, List.nil_append] at hS); (try simp only [Act.put, q1, q2, q3])))
  go_ret
  refine ⟨AD, CAP, rfl, ?_⟩
  rw [Fs_append]
  exact hS
theorem listV0 (c : Int) : LsM (.var c) := by
  rintro ad n cap fs v H w0 w R hS hm ⟨b, rfl, hb⟩ hsz
  simp only [size] at hsz
  have c2 : celH H b 2 = some (.int .i64 c) := by simp [celH, hb]
  clear hb
  go_enter Tryz.func41, Tryz.ntmps41
  go_wp2_with (first | ((with_reducible apply arm_assertY); exact wanted_none; exact ev_tmp rfl; exact Tryz.underlying137; (try simp only [Act.put, q1, q2, q3])) | ((with_reducible apply arm_assertN); exact wanted_none; exact ev_tmp rfl; (decide); exact Tryz.underlying132; kernel_rfl; (try simp only [Act.put, q1, q2, q3])) | ((with_reducible apply arm_loadF hS); exact wanted_none; exact ev_tmp rfl; assumption; (((repeat (with_reducible apply mem_tl))); (try assumption)); decide +kernel; (try simp only [Act.put, q1, q2, q3])) | ((with_reducible apply arm_build1 hS); exact wanted_none; exact E22; exact ev_tmp rfl; exact cells_agg; rfl; decide; clear hS; intro NB w hS; (try simp only [Act.put, q1, q2, q3])) | ((with_reducible apply arm_appendB hS); exact wanted_none; exact ev_tmp rfl; exact ev_tmp rfl; exact E22; (repeat (with_reducible first | exact Rem.hd | apply Rem.tl)); (repeat (with_reducible apply Rem.tl)); rfl; rfl; (omega); (omega); clear hS; intro AD CAP w hS; (try simp only [Nat.zero_add, List.nil_append] at hS); (try simp only [Act.put, q1, q2, q3])))
  go_ret
  refine ⟨AD, CAP, rfl, ?_⟩
  rw [Fs_append]
  exact hS
theorem listN (a : T) (ih : LsM a) : LsM (.neg a) := by
  rintro ad n cap fs v H w0 w R hS hm ⟨va, hva, b, rfl, hb⟩ hsz
  simp only [size] at hsz
  have c2 : celH H b 2 = some va := by simp [celH, hb]
  have IH := fun w R hS hm => ih ad n cap fs va H w0 w R hS hm hva (by omega)
  clear hb ih
  go_enter Tryz.func41, Tryz.ntmps41
  go_wp2_with (first | ((with_reducible apply arm_assertY); exact wanted_none; exact ev_tmp rfl; exact Tryz.underlying151; (try simp only [Act.put, q1, q2, q3])) | ((with_reducible apply arm_assertN); exact wanted_none; exact ev_tmp rfl; (decide); (with_reducible first | exact Tryz.underlying132 | exact Tryz.underlying137); kernel_rfl; (try simp only [Act.put, q1, q2, q3])) | ((with_reducible apply arm_loadF hS); exact wanted_none; exact ev_tmp rfl; assumption; (((repeat (with_reducible apply mem_tl))); (try assumption)); decide +kernel; (try simp only [Act.put, q1, q2, q3])) | ((with_reducible apply arm_build1 hS); exact wanted_none; exact E22; exact ev_tmp rfl; exact cells_agg; rfl; decide; clear hS; intro NB w hS; (try simp only [Act.put, q1, q2, q3])) | ((with_reducible apply arm_appendB hS); exact wanted_none; exact ev_tmp rfl; exact ev_tmp rfl; exact E22; (repeat (with_reducible first | exact Rem.hd | apply Rem.tl)); (repeat (with_reducible apply Rem.tl)); rfl; rfl; (omega); (omega); clear hS; intro AD CAP w hS; (try simp only [Nat.zero_add, List.nil_append] at hS); (try simp only [Act.put, q1, q2, q3])) | (go_at_call 41; refine (IH _ _ (hS.front (by (repeat (with_reducible exact Rem.hd)))) (by ((repeat (with_reducible apply mem_tl)); (try assumption)))).mono ?_; clear hS IH; rintro e w ⟨ad1, cap1, rfl, hS⟩))
  go_ret
  refine ⟨AD, CAP, rfl, ?_⟩
  rw [show fs ++ post (.neg a) = fs ++ post a ++ [(3, 0)] by simp [post], Fs_append]
  exact hS
set_option maxHeartbeats 2000000 in
theorem listQ (op x : Int) (a : T) (ih : LsM a) : LsM (.qu op x a) := by
  rintro ad n cap fs v H w0 w R hS hm ⟨va, hva, b, rfl, hb⟩ hsz
  simp only [size] at hsz
  have c1 : celH H b 2 = some (.int .i64 op) := by simp [celH, hb]
  have c2 : celH H b 3 = some (.int .i64 x) := by simp [celH, hb]
  have c3 : celH H b 4 = some va := by simp [celH, hb]
  have IH := fun w R hS hm => ih ad n cap fs va H w0 w R hS hm hva (by omega)
  clear hb ih
  go_enter Tryz.func41, Tryz.ntmps41
  go_wp2_with (first | ((with_reducible apply Cont.intro); (focus (apply Or.inr; apply (Sat.sb hS); (repeat (with_reducible first | exact Sb.refl | apply Sb.skip)); done)); intro hR hC) | ((first | ((with_reducible apply draw_pure (i := 0)); (simp only [q4, q6, q5]; with_reducible rfl); kernel_rfl; kernel_rfl; decide +kernel; rfl; exact hC; exact (fun _ _ _ h => h); exact hR; with_reducible exact wanted_none) | ((with_reducible apply draw_pure (i := 1)); (simp only [q4, q6, q5]; with_reducible rfl); kernel_rfl; kernel_rfl; decide +kernel; rfl; exact hC; exact (fun _ _ _ h => h); exact hR; with_reducible exact wanted_none) | ((with_reducible apply draw_pure (i := 2)); (simp only [q4, q6, q5]; with_reducible rfl); kernel_rfl; kernel_rfl; decide +kernel; rfl; exact hC; exact (fun _ _ _ h => h); exact hR; with_reducible exact wanted_none) | ((with_reducible apply draw_pure (i := 6)); (simp only [q4, q6, q5]; with_reducible rfl); kernel_rfl; kernel_rfl; decide +kernel; rfl; exact hC; exact (fun _ _ _ h => h); exact hR; with_reducible exact wanted_none) | ((with_reducible apply draw_pure (i := 7)); (simp only [q4, q6, q5]; with_reducible rfl); kernel_rfl; kernel_rfl; decide +kernel; rfl; exact hC; exact (fun _ _ _ h => h); exact hR; with_reducible exact wanted_none) | ((with_reducible apply draw_pure (i := 10)); (simp only [q4, q6, q5]; with_reducible rfl); kernel_rfl; kernel_rfl; decide +kernel; rfl; exact hC; exact (fun _ _ _ h => h); exact hR; with_reducible exact wanted_none) | ((with_reducible apply draw_pure (i := 11)); (simp only [q4, q6, q5]; with_reducible rfl); kernel_rfl; kernel_rfl; decide +kernel; rfl; exact hC; exact (fun _ _ _ h => h); exact hR; with_reducible exact wanted_none) | ((with_reducible apply draw_pure (i := 14)); (simp only [q4, q6, q5]; with_reducible rfl); kernel_rfl; kernel_rfl; decide +kernel; rfl; exact hC; exact (fun _ _ _ h => h); exact hR; with_reducible exact wanted_none) | ((with_reducible apply draw_pure (i := 17)); (simp only [q4, q6, q5]; with_reducible rfl); kernel_rfl; kernel_rfl; decide +kernel; rfl; exact hC; exact (fun _ _ _ h => h); exact hR; with_reducible exact wanted_none)); (intro w; first | (go_simp; done) | (go_simp; rw [wrapI (by omega) (by omega)]) | (go_simp; with_reducible rfl) | (go_simp; rfl)); (clear hR hC; intro hR hC); (try simp only [Act.put, q1, q2, q3])) | ((first | ((with_reducible apply draw_pure (i := 3)); (simp only [q4, q6, q5]; with_reducible rfl); kernel_rfl; kernel_rfl; decide +kernel; rfl; exact hC; exact (fun _ _ _ h => h); exact hR; with_reducible exact wanted_none) | ((with_reducible apply draw_pure (i := 8)); (simp only [q4, q6, q5]; with_reducible rfl); kernel_rfl; kernel_rfl; decide +kernel; rfl; exact hC; exact (fun _ _ _ h => h); exact hR; with_reducible exact wanted_none) | ((with_reducible apply draw_pure (i := 12)); (simp only [q4, q6, q5]; with_reducible rfl); kernel_rfl; kernel_rfl; decide +kernel; rfl; exact hC; exact (fun _ _ _ h => h); exact hR; with_reducible exact wanted_none)); (intro w; first | (exact draw_fa rfl (by (exact ev_const)) (by assumption) (by with_reducible exact fo50_0)) | (go_simp; done) | (go_simp; rw [wrapI (by omega) (by omega)]) | (go_simp; with_reducible rfl) | (go_simp; rfl)); (clear hR hC; intro hR hC); (try simp only [Act.put, q1, q2, q3])) | ((first | ((with_reducible apply draw_read (i := 4)); (simp only [q4, q6, q5]; with_reducible rfl); kernel_rfl; kernel_rfl; decide +kernel; kernel_rfl; rfl; exact hC; exact (fun _ _ _ h => h); exact hR; kernel_rfl; with_reducible exact wanted_none) | ((with_reducible apply draw_read (i := 9)); (simp only [q4, q6, q5]; with_reducible rfl); kernel_rfl; kernel_rfl; decide +kernel; kernel_rfl; rfl; exact hC; exact (fun _ _ _ h => h); exact hR; kernel_rfl; with_reducible exact wanted_none) | ((with_reducible apply draw_read (i := 13)); (simp only [q4, q6, q5]; with_reducible rfl); kernel_rfl; kernel_rfl; decide +kernel; kernel_rfl; rfl; exact hC; exact (fun _ _ _ h => h); exact hR; kernel_rfl; with_reducible exact wanted_none)); (intro w hS; (apply run_op_load rfl (by (exact ev_tmp rfl))); first | exact run_loadVar1 (by decide +kernel) (hS.cell (by (repeat (with_reducible apply mem_tl))) rfl) | exact run_loadVar1 (by decide +kernel) ((hS.ownCell (by (repeat (with_reducible apply mem_tl))) (by (rfl))).1) | exact run_loadVar1 (by decide +kernel) (Sat.rdCell2 (by assumption) hS (by ((repeat (with_reducible apply mem_tl))); try assumption) (by (rfl))) | exact run_loadVar1 (by decide +kernel) (hS.baseCell (by ((repeat (with_reducible apply mem_tl))); try assumption) (by assumption)) | exact run_loadVar1 (by decide +kernel) (fzC (by assumption) hS (by ((repeat (with_reducible apply mem_tl))); try assumption)) | exact run_loadRN hS (by assumption) (by ((repeat (with_reducible apply mem_tl))); try assumption) (by assumption) (by rfl) (by with_reducible exact sz50) (by decide +kernel) (by decide) | exact hS.loadWhole (by (repeat (with_reducible apply mem_tl))) (by kernel_rfl) (by kernel_rfl)); (clear hR hC; intro hR hC); (try simp only [Act.put, q1, q2, q3])) | ((with_reducible apply draw_act (i := 5)); (simp only [q4, q6, q5]; with_reducible rfl); decide +kernel; exact hC; clear hR hC) | ((with_reducible apply draw_act (i := 15)); (simp only [q4, q6, q5]; with_reducible rfl); decide +kernel; exact hC; clear hR hC) | ((with_reducible apply draw_act (i := 16)); (simp only [q4, q6, q5]; with_reducible rfl); decide +kernel; exact hC; clear hR hC) | ((with_reducible apply draw_act2 (i := 5) (i2 := 15)); (simp only [q4, q6, q5]; with_reducible rfl); (simp only [q4, q6, q5]; with_reducible rfl); decide +kernel; exact hC; (all_goals (clear hR hC))) | ((with_reducible apply draw_done); decide +kernel; clear hR hC) | (refine draw_rem (own 50 2 ad n cap (Fs fs)) 13 18 hS (by (repeat (with_reducible first | exact Rem.hd | apply Rem.tl)); done) (by kernel_rfl) [] rfl ?_; clear hS; intro w hS hR hC) | ((with_reducible apply arm_assertY); exact wanted_none; exact ev_tmp rfl; exact Tryz.underlying156; (try simp only [Act.put, q1, q2, q3])) | ((with_reducible apply arm_assertN); exact wanted_none; exact ev_tmp rfl; (decide); (with_reducible first | exact Tryz.underlying132 | exact Tryz.underlying137 | exact Tryz.underlying151); kernel_rfl; (try simp only [Act.put, q1, q2, q3])) | ((with_reducible apply arm_build1 hS); exact wanted_none; exact E22; exact ev_tmp rfl; exact cells_agg; rfl; decide; clear hS; intro NB w hS; (try simp only [Act.put, q1, q2, q3])) | ((with_reducible apply arm_appendB hS); exact wanted_none; exact ev_tmp rfl; exact ev_tmp rfl; exact E22; (repeat (with_reducible first | exact Rem.hd | apply Rem.tl)); (repeat (with_reducible apply Rem.tl)); rfl; rfl; (omega); (omega); clear hS; intro AD CAP w hS; (try simp only [Nat.zero_add, List.nil_append] at hS); (try simp only [Act.put, q1, q2, q3])) | (go_at_call 41; refine (IH _ _ (hS.front (by (repeat (with_reducible first | exact Rem.hd | apply Rem.tl)))) (by ((repeat (with_reducible apply mem_tl)); (try assumption)))).mono ?_; clear hS IH; rintro e w ⟨ad1, cap1, rfl, hS⟩))
  all_goals
    go_ret
    refine ⟨_, _, rfl, ?_⟩
    rw [show fs ++ post (.qu op x a) = fs ++ post a ++ [(op, x)] by simp [post], Fs_append]
    exact hS
set_option maxHeartbeats 4000000 in
theorem listB (op : Int) (x y : T) (ih1 : LsM x) (ih2 : LsM y) : LsM (.bin op x y) := by
  rintro ad n cap fs v H w0 w R hS hm ⟨va, vb, hva, hvb, b, rfl, hb⟩ hsz
  simp only [size] at hsz
  have c1 : celH H b 2 = some (.int .i64 op) := by simp [celH, hb]
  have c2 : celH H b 3 = some va := by simp [celH, hb]
  have c3 : celH H b 4 = some vb := by simp [celH, hb]
  have I1 := fun w R hS hm => ih1 ad n cap fs va H w0 w R hS hm hva (by omega)
  have I2 := fun ad1 cap1 w R hS hm => ih2 ad1 (n + size x) cap1 (fs ++ post x) vb H w0 w R hS hm hvb (by omega)
  clear hb ih1 ih2
  go_enter Tryz.func41, Tryz.ntmps41
  go_wp2_with (first | ((with_reducible apply Cont.intro); (focus (apply Or.inr; apply (Sat.sb hS); (repeat (with_reducible first | exact Sb.refl | apply Sb.skip)); done)); intro hR hC) | ((first | ((with_reducible apply draw_pure (i := 0)); (simp only [q4, q6, q5]; with_reducible rfl); kernel_rfl; kernel_rfl; decide +kernel; rfl; exact hC; exact (fun _ _ _ h => h); exact hR; with_reducible exact wanted_none) | ((with_reducible apply draw_pure (i := 1)); (simp only [q4, q6, q5]; with_reducible rfl); kernel_rfl; kernel_rfl; decide +kernel; rfl; exact hC; exact (fun _ _ _ h => h); exact hR; with_reducible exact wanted_none) | ((with_reducible apply draw_pure (i := 2)); (simp only [q4, q6, q5]; with_reducible rfl); kernel_rfl; kernel_rfl; decide +kernel; rfl; exact hC; exact (fun _ _ _ h => h); exact hR; with_reducible exact wanted_none) | ((with_reducible apply draw_pure (i := 6)); (simp only [q4, q6, q5]; with_reducible rfl); kernel_rfl; kernel_rfl; decide +kernel; rfl; exact hC; exact (fun _ _ _ h => h); exact hR; with_reducible exact wanted_none) | ((with_reducible apply draw_pure (i := 7)); (simp only [q4, q6, q5]; with_reducible rfl); kernel_rfl; kernel_rfl; decide +kernel; rfl; exact hC; exact (fun _ _ _ h => h); exact hR; with_reducible exact wanted_none) | ((with_reducible apply draw_pure (i := 11)); (simp only [q4, q6, q5]; with_reducible rfl); kernel_rfl; kernel_rfl; decide +kernel; rfl; exact hC; exact (fun _ _ _ h => h); exact hR; with_reducible exact wanted_none) | ((with_reducible apply draw_pure (i := 12)); (simp only [q4, q6, q5]; with_reducible rfl); kernel_rfl; kernel_rfl; decide +kernel; rfl; exact hC; exact (fun _ _ _ h => h); exact hR; with_reducible exact wanted_none) | ((with_reducible apply draw_pure (i := 15)); (simp only [q4, q6, q5]; with_reducible rfl); kernel_rfl; kernel_rfl; decide +kernel; rfl; exact hC; exact (fun _ _ _ h => h); exact hR; with_reducible exact wanted_none) | ((with_reducible apply draw_pure (i := 18)); (simp only [q4, q6, q5]; with_reducible rfl); kernel_rfl; kernel_rfl; decide +kernel; rfl; exact hC; exact (fun _ _ _ h => h); exact hR; with_reducible exact wanted_none)); (intro w; first | (go_simp; done) | (go_simp; rw [wrapI (by omega) (by omega)]) | (go_simp; with_reducible rfl) | (go_simp; rfl)); (clear hR hC; intro hR hC); (try simp only [Act.put, q1, q2, q3])) | ((first | ((with_reducible apply draw_pure (i := 3)); (simp only [q4, q6, q5]; with_reducible rfl); kernel_rfl; kernel_rfl; decide +kernel; rfl; exact hC; exact (fun _ _ _ h => h); exact hR; with_reducible exact wanted_none) | ((with_reducible apply draw_pure (i := 8)); (simp only [q4, q6, q5]; with_reducible rfl); kernel_rfl; kernel_rfl; decide +kernel; rfl; exact hC; exact (fun _ _ _ h => h); exact hR; with_reducible exact wanted_none) | ((with_reducible apply draw_pure (i := 13)); (simp only [q4, q6, q5]; with_reducible rfl); kernel_rfl; kernel_rfl; decide +kernel; rfl; exact hC; exact (fun _ _ _ h => h); exact hR; with_reducible exact wanted_none)); (intro w; first | (exact draw_fa rfl (by (exact ev_const)) (by assumption) (by with_reducible exact fo50_0)) | (go_simp; done) | (go_simp; rw [wrapI (by omega) (by omega)]) | (go_simp; with_reducible rfl) | (go_simp; rfl)); (clear hR hC; intro hR hC); (try simp only [Act.put, q1, q2, q3])) | ((first | ((with_reducible apply draw_read (i := 4)); (simp only [q4, q6, q5]; with_reducible rfl); kernel_rfl; kernel_rfl; decide +kernel; kernel_rfl; rfl; exact hC; exact (fun _ _ _ h => h); exact hR; kernel_rfl; with_reducible exact wanted_none) | ((with_reducible apply draw_read (i := 9)); (simp only [q4, q6, q5]; with_reducible rfl); kernel_rfl; kernel_rfl; decide +kernel; kernel_rfl; rfl; exact hC; exact (fun _ _ _ h => h); exact hR; kernel_rfl; with_reducible exact wanted_none) | ((with_reducible apply draw_read (i := 14)); (simp only [q4, q6, q5]; with_reducible rfl); kernel_rfl; kernel_rfl; decide +kernel; kernel_rfl; rfl; exact hC; exact (fun _ _ _ h => h); exact hR; kernel_rfl; with_reducible exact wanted_none)); (intro w hS; (apply run_op_load rfl (by (exact ev_tmp rfl))); first | exact run_loadVar1 (by decide +kernel) (hS.cell (by (repeat (with_reducible apply mem_tl))) rfl) | exact run_loadVar1 (by decide +kernel) ((hS.ownCell (by (repeat (with_reducible apply mem_tl))) (by (rfl))).1) | exact run_loadVar1 (by decide +kernel) (Sat.rdCell2 (by assumption) hS (by ((repeat (with_reducible apply mem_tl))); try assumption) (by (rfl))) | exact run_loadVar1 (by decide +kernel) (hS.baseCell (by ((repeat (with_reducible apply mem_tl))); try assumption) (by assumption)) | exact run_loadVar1 (by decide +kernel) (fzC (by assumption) hS (by ((repeat (with_reducible apply mem_tl))); try assumption)) | exact run_loadRN hS (by assumption) (by ((repeat (with_reducible apply mem_tl))); try assumption) (by assumption) (by rfl) (by with_reducible exact sz50) (by decide +kernel) (by decide) | exact hS.loadWhole (by (repeat (with_reducible apply mem_tl))) (by kernel_rfl) (by kernel_rfl)); (clear hR hC; intro hR hC); (try simp only [Act.put, q1, q2, q3])) | ((with_reducible apply draw_act (i := 5)); (simp only [q4, q6, q5]; with_reducible rfl); decide +kernel; exact hC; clear hR hC) | ((with_reducible apply draw_act (i := 10)); (simp only [q4, q6, q5]; with_reducible rfl); decide +kernel; exact hC; clear hR hC) | ((with_reducible apply draw_act (i := 16)); (simp only [q4, q6, q5]; with_reducible rfl); decide +kernel; exact hC; clear hR hC) | ((with_reducible apply draw_act (i := 17)); (simp only [q4, q6, q5]; with_reducible rfl); decide +kernel; exact hC; clear hR hC) | ((with_reducible apply draw_act2 (i := 5) (i2 := 16)); (simp only [q4, q6, q5]; with_reducible rfl); (simp only [q4, q6, q5]; with_reducible rfl); decide +kernel; exact hC; (all_goals (clear hR hC))) | ((with_reducible apply draw_act2 (i := 10) (i2 := 16)); (simp only [q4, q6, q5]; with_reducible rfl); (simp only [q4, q6, q5]; with_reducible rfl); decide +kernel; exact hC; (all_goals (clear hR hC))) | ((with_reducible apply draw_done); decide +kernel; clear hR hC) | (refine draw_rem (own 50 2 ad n cap (Fs fs)) 16 19 hS (by (repeat (with_reducible first | exact Rem.hd | apply Rem.tl)); done) (by kernel_rfl) [] rfl ?_; clear hS; intro w hS hR hC) | ((with_reducible apply arm_assertY); exact wanted_none; exact ev_tmp rfl; exact Tryz.underlying160; (try simp only [Act.put, q1, q2, q3])) | ((with_reducible apply arm_assertN); exact wanted_none; exact ev_tmp rfl; (decide); (with_reducible first | exact Tryz.underlying132 | exact Tryz.underlying137 | exact Tryz.underlying151 | exact Tryz.underlying156); kernel_rfl; (try simp only [Act.put, q1, q2, q3])) | ((with_reducible apply arm_build1 hS); exact wanted_none; exact E22; exact ev_tmp rfl; exact cells_agg; rfl; decide; clear hS; intro NB w hS; (try simp only [Act.put, q1, q2, q3])) | ((with_reducible apply arm_appendB hS); exact wanted_none; exact ev_tmp rfl; exact ev_tmp rfl; exact E22; (repeat (with_reducible first | exact Rem.hd | apply Rem.tl)); (repeat (with_reducible apply Rem.tl)); rfl; rfl; (omega); (omega); clear hS; intro AD CAP w hS; (try simp only [Nat.zero_add, List.nil_append] at hS); (try simp only [Act.put, q1, q2, q3])) | ((go_at_call 41); (first | (refine (I1 _ _ (hS.front (by (repeat (with_reducible first | exact Rem.hd | apply Rem.tl)))) (by ((repeat (with_reducible apply mem_tl)); (try assumption)))).mono ?_; clear hS I1; rintro e w ⟨ad1, cap1, rfl, hS⟩) | (refine (I2 _ _ _ _ (hS.front (by (repeat (with_reducible first | exact Rem.hd | apply Rem.tl)))) (by ((repeat (with_reducible apply mem_tl)); (try assumption)))).mono ?_; clear hS I2; rintro e w ⟨ad2, cap2, rfl, hS⟩))))
  all_goals
    go_ret
    have e : n + size x + size y + 1 = n + size (.bin op x y) := by simp only [size]; omega
    rw [← e]
    refine ⟨_, _, rfl, ?_⟩
    rw [show fs ++ post (.bin op x y) = fs ++ post x ++ post y ++ [(op, 0)] by simp [post], Fs_append]
    exact hS
set_option maxHeartbeats 4000000 in
theorem listI (x y z : T) (ih1 : LsM x) (ih2 : LsM y) (ih3 : LsM z) : LsM (.ite x y z) := by
  rintro ad n cap fs v H w0 w R hS hm ⟨va, vb, vc, hva, hvb, hvc, b, rfl, hb⟩ hsz
  simp only [size] at hsz
  have c1 : celH H b 2 = some va := by simp [celH, hb]
  have c2 : celH H b 3 = some vb := by simp [celH, hb]
  have c3 : celH H b 4 = some vc := by simp [celH, hb]
  have I1 := fun w R hS hm => ih1 ad n cap fs va H w0 w R hS hm hva (by omega)
  have I2 := fun ad1 cap1 w R hS hm => ih2 ad1 (n + size x) cap1 (fs ++ post x) vb H w0 w R hS hm hvb (by omega)
  have I3 := fun ad1 cap1 w R hS hm => ih3 ad1 (n + size x + size y) cap1 (fs ++ post x ++ post y) vc H w0 w R hS hm hvc (by omega)
  clear hb ih1 ih2 ih3
  go_enter Tryz.func41, Tryz.ntmps41
  go_wp2_with (first | ((with_reducible apply Cont.intro); (focus (apply Or.inr; apply (Sat.sb hS); (repeat (with_reducible first | exact Sb.refl | apply Sb.skip)); done)); intro hR hC) | ((first | ((with_reducible apply draw_pure (i := 0)); (simp only [q4, q6, q5]; with_reducible rfl); kernel_rfl; kernel_rfl; decide +kernel; rfl; exact hC; exact (fun _ _ _ h => h); exact hR; with_reducible exact wanted_none) | ((with_reducible apply draw_pure (i := 1)); (simp only [q4, q6, q5]; with_reducible rfl); kernel_rfl; kernel_rfl; decide +kernel; rfl; exact hC; exact (fun _ _ _ h => h); exact hR; with_reducible exact wanted_none) | ((with_reducible apply draw_pure (i := 2)); (simp only [q4, q6, q5]; with_reducible rfl); kernel_rfl; kernel_rfl; decide +kernel; rfl; exact hC; exact (fun _ _ _ h => h); exact hR; with_reducible exact wanted_none) | ((with_reducible apply draw_pure (i := 6)); (simp only [q4, q6, q5]; with_reducible rfl); kernel_rfl; kernel_rfl; decide +kernel; rfl; exact hC; exact (fun _ _ _ h => h); exact hR; with_reducible exact wanted_none) | ((with_reducible apply draw_pure (i := 7)); (simp only [q4, q6, q5]; with_reducible rfl); kernel_rfl; kernel_rfl; decide +kernel; rfl; exact hC; exact (fun _ _ _ h => h); exact hR; with_reducible exact wanted_none) | ((with_reducible apply draw_pure (i := 11)); (simp only [q4, q6, q5]; with_reducible rfl); kernel_rfl; kernel_rfl; decide +kernel; rfl; exact hC; exact (fun _ _ _ h => h); exact hR; with_reducible exact wanted_none) | ((with_reducible apply draw_pure (i := 12)); (simp only [q4, q6, q5]; with_reducible rfl); kernel_rfl; kernel_rfl; decide +kernel; rfl; exact hC; exact (fun _ _ _ h => h); exact hR; with_reducible exact wanted_none) | ((with_reducible apply draw_pure (i := 16)); (simp only [q4, q6, q5]; with_reducible rfl); kernel_rfl; kernel_rfl; decide +kernel; rfl; exact hC; exact (fun _ _ _ h => h); exact hR; with_reducible exact wanted_none) | ((with_reducible apply draw_pure (i := 19)); (simp only [q4, q6, q5]; with_reducible rfl); kernel_rfl; kernel_rfl; decide +kernel; rfl; exact hC; exact (fun _ _ _ h => h); exact hR; with_reducible exact wanted_none)); (intro w; first | (go_simp; done) | (go_simp; rw [wrapI (by omega) (by omega)]) | (go_simp; with_reducible rfl) | (go_simp; rfl)); (clear hR hC; intro hR hC); (try simp only [Act.put, q1, q2, q3])) | ((first | ((with_reducible apply draw_pure (i := 3)); (simp only [q4, q6, q5]; with_reducible rfl); kernel_rfl; kernel_rfl; decide +kernel; rfl; exact hC; exact (fun _ _ _ h => h); exact hR; with_reducible exact wanted_none) | ((with_reducible apply draw_pure (i := 8)); (simp only [q4, q6, q5]; with_reducible rfl); kernel_rfl; kernel_rfl; decide +kernel; rfl; exact hC; exact (fun _ _ _ h => h); exact hR; with_reducible exact wanted_none) | ((with_reducible apply draw_pure (i := 13)); (simp only [q4, q6, q5]; with_reducible rfl); kernel_rfl; kernel_rfl; decide +kernel; rfl; exact hC; exact (fun _ _ _ h => h); exact hR; with_reducible exact wanted_none)); (intro w; first | (exact draw_fa rfl (by (exact ev_const)) (by assumption) (by with_reducible exact fo50_0)) | (go_simp; done) | (go_simp; rw [wrapI (by omega) (by omega)]) | (go_simp; with_reducible rfl) | (go_simp; rfl)); (clear hR hC; intro hR hC); (try simp only [Act.put, q1, q2, q3])) | ((first | ((with_reducible apply draw_read (i := 4)); (simp only [q4, q6, q5]; with_reducible rfl); kernel_rfl; kernel_rfl; decide +kernel; kernel_rfl; rfl; exact hC; exact (fun _ _ _ h => h); exact hR; kernel_rfl; with_reducible exact wanted_none) | ((with_reducible apply draw_read (i := 9)); (simp only [q4, q6, q5]; with_reducible rfl); kernel_rfl; kernel_rfl; decide +kernel; kernel_rfl; rfl; exact hC; exact (fun _ _ _ h => h); exact hR; kernel_rfl; with_reducible exact wanted_none) | ((with_reducible apply draw_read (i := 14)); (simp only [q4, q6, q5]; with_reducible rfl); kernel_rfl; kernel_rfl; decide +kernel; kernel_rfl; rfl; exact hC; exact (fun _ _ _ h => h); exact hR; kernel_rfl; with_reducible exact wanted_none)); (intro w hS; (apply run_op_load rfl (by (exact ev_tmp rfl))); first | exact run_loadVar1 (by decide +kernel) (hS.cell (by (repeat (with_reducible apply mem_tl))) rfl) | exact run_loadVar1 (by decide +kernel) ((hS.ownCell (by (repeat (with_reducible apply mem_tl))) (by (rfl))).1) | exact run_loadVar1 (by decide +kernel) (Sat.rdCell2 (by assumption) hS (by ((repeat (with_reducible apply mem_tl))); try assumption) (by (rfl))) | exact run_loadVar1 (by decide +kernel) (hS.baseCell (by ((repeat (with_reducible apply mem_tl))); try assumption) (by assumption)) | exact run_loadVar1 (by decide +kernel) (fzC (by assumption) hS (by ((repeat (with_reducible apply mem_tl))); try assumption)) | exact run_loadRN hS (by assumption) (by ((repeat (with_reducible apply mem_tl))); try assumption) (by assumption) (by rfl) (by with_reducible exact sz50) (by decide +kernel) (by decide) | exact hS.loadWhole (by (repeat (with_reducible apply mem_tl))) (by kernel_rfl) (by kernel_rfl)); (clear hR hC; intro hR hC); (try simp only [Act.put, q1, q2, q3])) | ((with_reducible apply draw_act (i := 5)); (simp only [q4, q6, q5]; with_reducible rfl); decide +kernel; exact hC; clear hR hC) | ((with_reducible apply draw_act (i := 10)); (simp only [q4, q6, q5]; with_reducible rfl); decide +kernel; exact hC; clear hR hC) | ((with_reducible apply draw_act (i := 15)); (simp only [q4, q6, q5]; with_reducible rfl); decide +kernel; exact hC; clear hR hC) | ((with_reducible apply draw_act (i := 17)); (simp only [q4, q6, q5]; with_reducible rfl); decide +kernel; exact hC; clear hR hC) | ((with_reducible apply draw_act (i := 18)); (simp only [q4, q6, q5]; with_reducible rfl); decide +kernel; exact hC; clear hR hC) | ((with_reducible apply draw_act2 (i := 5) (i2 := 17)); (simp only [q4, q6, q5]; with_reducible rfl); (simp only [q4, q6, q5]; with_reducible rfl); decide +kernel; exact hC; (all_goals (clear hR hC))) | ((with_reducible apply draw_act2 (i := 10) (i2 := 17)); (simp only [q4, q6, q5]; with_reducible rfl); (simp only [q4, q6, q5]; with_reducible rfl); decide +kernel; exact hC; (all_goals (clear hR hC))) | ((with_reducible apply draw_act2 (i := 15) (i2 := 17)); (simp only [q4, q6, q5]; with_reducible rfl); (simp only [q4, q6, q5]; with_reducible rfl); decide +kernel; exact hC; (all_goals (clear hR hC))) | ((with_reducible apply draw_done); decide +kernel; clear hR hC) | (refine draw_rem (own 50 2 ad n cap (Fs fs)) 19 20 hS (by (repeat (with_reducible first | exact Rem.hd | apply Rem.tl)); done) (by kernel_rfl) [] rfl ?_; clear hS; intro w hS hR hC) | ((with_reducible apply arm_assertY); exact wanted_none; exact ev_tmp rfl; exact Tryz.underlying163; (try simp only [Act.put, q1, q2, q3])) | ((with_reducible apply arm_assertN); exact wanted_none; exact ev_tmp rfl; (decide); (with_reducible first | exact Tryz.underlying132 | exact Tryz.underlying137 | exact Tryz.underlying151 | exact Tryz.underlying156 | exact Tryz.underlying160); kernel_rfl; (try simp only [Act.put, q1, q2, q3])) | ((with_reducible apply arm_build1 hS); exact wanted_none; exact E22; exact ev_tmp rfl; exact cells_agg; rfl; decide; clear hS; intro NB w hS; (try simp only [Act.put, q1, q2, q3])) | ((with_reducible apply arm_appendB hS); exact wanted_none; exact ev_tmp rfl; exact ev_tmp rfl; exact E22; (repeat (with_reducible first | exact Rem.hd | apply Rem.tl)); (repeat (with_reducible apply Rem.tl)); rfl; rfl; (omega); (omega); clear hS; intro AD CAP w hS; (try simp only [Nat.zero_add, List.nil_append] at hS); (try simp only [Act.put, q1, q2, q3])) | ((go_at_call 41); (first | (refine (I1 _ _ (hS.front (by (repeat (with_reducible first | exact Rem.hd | apply Rem.tl)))) (by ((repeat (with_reducible apply mem_tl)); (try assumption)))).mono ?_; clear hS I1; rintro e w ⟨ad1, cap1, rfl, hS⟩) | (refine (I2 _ _ _ _ (hS.front (by (repeat (with_reducible first | exact Rem.hd | apply Rem.tl)))) (by ((repeat (with_reducible apply mem_tl)); (try assumption)))).mono ?_; clear hS I2; rintro e w ⟨ad2, cap2, rfl, hS⟩) | (refine (I3 _ _ _ _ (hS.front (by (repeat (with_reducible first | exact Rem.hd | apply Rem.tl)))) (by ((repeat (with_reducible apply mem_tl)); (try assumption)))).mono ?_; clear hS I3; rintro e w ⟨ad3, cap3, rfl, hS⟩))))
  all_goals
    go_ret
    have e : n + size x + size y + size z + 1 = n + size (.ite x y z) := by simp only [size]; omega
    rw [← e]
    refine ⟨_, _, rfl, ?_⟩
    rw [show fs ++ post (.ite x y z) = fs ++ post x ++ post y ++ post z ++ [(11, 0)] by simp [post], Fs_append]
    exact hS
theorem listM : ∀ t : T, LsM t
  | .cst c => listC0 c
  | .var c => listV0 c
  | .neg a => listN a (listM a)
  | .qu op x a => listQ op x a (listM a)
  | .bin op x y => listB op x y (listM x) (listM y)
  | .ite x y z => listI x y z (listM x) (listM y) (listM z)
end Go.Proofs.YthackanffcaejaaGreatDoor
end
section
set_option linter.unusedSimpArgs false
set_option linter.unusedVariables false
set_option maxRecDepth 20000
namespace Go.Proofs.YthackanffcaejaaGreatDoor
open Go Go.RowKit Go.SL Go.ClauseP Go.LexP

def fnQ (text : List UInt8) (w0 : World) (R : List HP) (e : Ending) (w' : World) : Ans → Prop
  | .inr out => ∃ (ad : Option Addr) (cap : Nat), e = .returned (.tuple #[.slice ad out.length cap, .agg #[.int .i64 0, .int .i64 0, .int .i64 0]]) ∧ Sat w0 w' (own 50 2 ad out.length cap (Fs out) :: R)
  | .inl (c, a) => e = .returned (.tuple #[.slice none 0 0, .agg #[.int .i64 c, .int .i64 (spotP text a).1, .int .i64 (spotP text a).2]]) ∧ Sat w0 w' R
theorem parse_of {text : List UInt8} {r' : Rt} {r1 : Rp} (h1 : advP text p00 = r1) (h : thenR text (.lvl 1) r1 r') : ParseR text (endR text r') ∧ (∀ e, thenP (rpR r') (needP text 0) = .inl e → endR text r' = .inl e) ∧ ∀ q, thenP (rpR r') (needP text 0) = .inr q → ∃ x q0, r' = .inr (x, q0) ∧ endR text r' = .inr x := by
  have hp : ParseR text (endR text r') := by
    unfold ParseR
    rw [h1]
    cases r1 with
    | inl e =>
      have h : r' = .inl e := h
      rw [h]; rfl
    | inr p => exact ⟨r', h, rfl⟩
  refine ⟨hp, ?_⟩
  rcases r' with e | ⟨x, q⟩
  · exact ⟨fun e' he => (by injection he with he; rw [he]; rfl), fun q hq => (nomatch hq)⟩
  · refine ⟨fun e' he => ?_, fun q' hq => ⟨x, q, rfl, ?_⟩⟩
    · have he : needP text 0 q = .inl e' := he
      simp only [endR, he]
    · have hq : needP text 0 q = .inr q' := hq
      simp only [endR, hq]
theorem results_tmp_cell {P : Program} {w : World} {fn : Func} {t t' : Tmp} {T : TypeId} (h : fn.results = #[.tmp t, .cell t' T]) {tmps : Array Value} {ad : Addr} {v v' : Value} (hp : tmps.getD t undef = v) (hp' : tmps.getD t' undef = .pointer (some ad)) (hl : (loadVar T ad).run P w = .ok v' w) :
    (results fn tmps).run P w = .ok (.tuple #[v, v']) w := by
  rw [Array.getD_eq_getD_getElem?] at hp hp'
  simp [results, h, hp, hp', asAddr, hl]
theorem nds_of {w0 w : World} {R : List HP} {B : Nat} {text : List UInt8} {lo hi : Nat} {r : Rp} (h : aftN w0 w R B text lo hi r) : ∀ q, r = .inr q → q.nds ≤ 65536 := by
  rintro q rfl
  exact h.1.2.1
theorem meas_le (text : List UInt8) (p : Ps) : meas text p ≤ text.length + 1 := by unfold meas; split <;> omega
set_option maxHeartbeats 8000000 in
theorem parseF (text : List UInt8) (hl : text.length ≤ 1048576) (w0 w : World) (hSig : SigE w0) (R : List HP) (hbm : base w0 ∈ R) (hS : Sat w0 w R) :
    Calls Tryz.prog 15 #[.string ⟨text.toArray⟩] w fun e w' => ∃ r, ParseR text r ∧ fnQ text w0 R e w' (ansT r) := by
  have hli : (text.length : Int) ≤ 1048576 := by omega
  have AX := fun B w R hm h => advX B text hl 0 (.inr p00) w0 w hSig R hm h
  have LX := fun B r w R H hm hq h => lvX text _ 1 _ (formulaX text hl (text.length + 1)) (formulaDD text) B 0 r w0 w hSig R H hm hq h
  have NX := fun B r w R hm h => needX B text hl 0 0 r w0 w hSig R hm h
  have hp0 : PsB text p00 := ⟨Nat.zero_le _, Nat.zero_le _, Nat.zero_le _, trivial⟩
  replace hS := hS.fzNil
  go_enter Tryz.func15, Tryz.ntmps15
  go_wp2_with (first | ((with_reducible apply arm_box hS); exact wanted_none; exact ev_tmp rfl; exact cells_agg; clear hS; intro PB w hS; (try simp only [Act.put, q1, q2, q3])) | ((with_reducible apply arm_alloc hS); exact wanted_none; exact z31; clear hS; intro FB w hS; (try simp only [Act.put, q1, q2, q3])))
  have hS1 : Sat w0 w (blk PB 82 (alV text p00) :: fz (fun _ => none) :: blk FB 31 [.int .i64 0, .int .i64 0, .int .i64 0] :: R) := hS.sb (by unfold alV psV p00; simp only [tokE, Int.natCast_zero]; (repeat (first | with_reducible exact Sb.refl | (with_reducible refine Sb.take (by (repeat (with_reducible first | exact Rem.hd | apply Rem.tl)); done) ?_))))
  refine (AX PB _ _ (by ((repeat (with_reducible apply mem_tl)); (try assumption))) ⟨hp0, rfl, hS1⟩).mono ?_
  clear hS hS1
  rintro e w ⟨rfl, hA⟩
  go_wp2_with fail
  refine (LX PB _ _ _ _ (by ((repeat (with_reducible apply mem_tl)); (try assumption))) (fun q _ => meas_le text q) hA).mono ?_
  clear hA
  rintro e w ⟨v1, rfl, r1, H1, hth1, hx1, hv1, htr1, hA⟩
  have hnd := nds_of hA
  go_wp2_with fail
  refine (NX PB _ _ _ (by ((repeat (with_reducible apply mem_tl)); (try assumption))) hA).mono ?_
  clear hA
  rintro e w ⟨rfl, hA⟩
  obtain ⟨z1, z2, z3⟩ := parse_of rfl hth1
  have hth0 := hth1
  clear hth1
  cases hr : thenP (rpR r1) (needP text 0) with
  | inl x =>
    obtain ⟨d, a⟩ := x
    have hen := z2 (d, a) hr
    rw [hr] at hA
    rw [hen] at z1
    have hpl := start_place (parse_law z1) (e := d) (a := a) rfl
    obtain ⟨h0, k, n, tat, te, fin, o, nd, h1, h2, h3, h4, hS⟩ := dead_cells hA
    have hd3 : (d != 0) = true := by simpa using h0
    have PL := fun w Hs hS => placeC text a hpl hl w0 w Hs hS
    have Z1 := hid z1
    clear hA z1 z2 z3 hen hr htr1 hth0 hnd
    generalize hsp : spotP text a = sp at *
    obtain ⟨l, c⟩ := sp
    dsimp only at PL
    have HSP := hid hsp
    clear hsp
    go_wp2_with (first | ((with_reducible apply Cont.intro); (first | (focus (apply Or.inr; apply (Sat.sb hS); (repeat (first | with_reducible exact Sb.refl | (with_reducible refine Sb.take (by (repeat (with_reducible first | exact Rem.hd | apply Rem.tl)); done) ?_) | with_reducible apply Sb.skip)); done)) | (exact Or.inl (by kernel_rfl))); intro hR hC) | ((first | ((with_reducible apply draw_pure (i := 0)); (simp only [q4, q6, q5]; with_reducible rfl); kernel_rfl; kernel_rfl; decide +kernel; rfl; exact hC; exact (fun _ _ _ h => h); exact hR; with_reducible exact wanted_none) | ((with_reducible apply draw_pure (i := 1)); (simp only [q4, q6, q5]; with_reducible rfl); kernel_rfl; kernel_rfl; decide +kernel; rfl; exact hC; exact (fun _ _ _ h => h); exact hR; with_reducible exact wanted_none) | ((with_reducible apply draw_pure (i := 4)); (simp only [q4, q6, q5]; with_reducible rfl); kernel_rfl; kernel_rfl; decide +kernel; rfl; exact hC; exact (fun _ _ _ h => h); exact hR; with_reducible exact wanted_none) | ((with_reducible apply draw_pure (i := 5)); (simp only [q4, q6, q5]; with_reducible rfl); kernel_rfl; kernel_rfl; decide +kernel; rfl; exact hC; exact (fun _ _ _ h => h); exact hR; with_reducible exact wanted_none) | ((with_reducible apply draw_pure (i := 6)); (simp only [q4, q6, q5]; with_reducible rfl); kernel_rfl; kernel_rfl; decide +kernel; rfl; exact hC; exact (fun _ _ _ h => h); exact hR; with_reducible exact wanted_none) | ((with_reducible apply draw_pure (i := 10)); (simp only [q4, q6, q5]; with_reducible rfl); kernel_rfl; kernel_rfl; decide +kernel; rfl; exact hC; exact (fun _ _ _ h => h); exact hR; with_reducible exact wanted_none) | ((with_reducible apply draw_pure (i := 11)); (simp only [q4, q6, q5]; with_reducible rfl); kernel_rfl; kernel_rfl; decide +kernel; rfl; exact hC; exact (fun _ _ _ h => h); exact hR; with_reducible exact wanted_none)); (intro w; first | (go_simp; done) | (go_simp; rw [wrapI (by omega) (by omega)]) | (go_simp; with_reducible rfl) | (go_simp; rfl)); (clear hR hC; intro hR hC); (try simp only [Act.put, q1, q2, q3])) | ((first | ((with_reducible apply draw_pure (i := 2)); (simp only [q4, q6, q5]; with_reducible rfl); kernel_rfl; kernel_rfl; decide +kernel; rfl; exact hC; exact (fun _ _ _ h => h); exact hR; with_reducible exact wanted_none) | ((with_reducible apply draw_pure (i := 7)); (simp only [q4, q6, q5]; with_reducible rfl); kernel_rfl; kernel_rfl; decide +kernel; rfl; exact hC; exact (fun _ _ _ h => h); exact hR; with_reducible exact wanted_none)); (intro w; first | (exact draw_fa rfl (by (exact ev_const)) (by assumption) (by with_reducible exact fo82_6)) | (go_simp; done) | (go_simp; rw [wrapI (by omega) (by omega)]) | (go_simp; with_reducible rfl) | (go_simp; rfl)); (clear hR hC; intro hR hC); (try simp only [Act.put, q1, q2, q3])) | ((first | ((with_reducible apply draw_read (i := 3)); (simp only [q4, q6, q5]; with_reducible rfl); kernel_rfl; kernel_rfl; decide +kernel; kernel_rfl; rfl; exact hC; exact (fun _ _ _ h => h); exact hR; kernel_rfl; with_reducible exact wanted_none) | ((with_reducible apply draw_read (i := 8)); (simp only [q4, q6, q5]; with_reducible rfl); kernel_rfl; kernel_rfl; decide +kernel; kernel_rfl; rfl; exact hC; exact (fun _ _ _ h => h); exact hR; kernel_rfl; with_reducible exact wanted_none)); (intro w hS; (apply run_op_load rfl (by (exact ev_tmp rfl))); first | exact run_loadVar1 (by decide +kernel) (hS.cell (by (repeat (with_reducible exact mem_hd))) rfl) | exact run_loadVar1 (by decide +kernel) ((hS.ownCell (by (repeat (with_reducible apply mem_tl))) (by (rfl))).1) | exact run_loadVar1 (by decide +kernel) (Sat.rdCell2 (by assumption) hS (by ((repeat (with_reducible apply mem_tl))); try assumption) (by (rfl))) | exact run_loadVar1 (by decide +kernel) (hS.baseCell (by ((repeat (with_reducible apply mem_tl))); try assumption) (by assumption)) | exact run_loadVar1 (by decide +kernel) (fzC (by assumption) hS (by ((repeat (with_reducible apply mem_tl))); try assumption)) | exact run_loadRN hS (by assumption) (by ((repeat (with_reducible apply mem_tl))); try assumption) (by assumption) (by rfl) (by with_reducible exact sz82) (by decide +kernel) (by decide) | exact hS.loadWhole (by (repeat (with_reducible apply mem_tl))) (by kernel_rfl) (by kernel_rfl)); (clear hR hC; intro hR hC); (try simp only [Act.put, q1, q2, q3])) | ((with_reducible apply draw_act (i := 9)); (simp only [q4, q6, q5]; with_reducible rfl); decide +kernel; exact hC; clear hR hC) | ((with_reducible apply draw_act (i := 12)); (simp only [q4, q6, q5]; with_reducible rfl); decide +kernel; exact hC; clear hR hC) | ((with_reducible apply draw_done); decide +kernel; clear hR hC) | (refine draw_sat 8 13 hS (by kernel_rfl) [12] rfl ?_; clear hS; intro w hS hR hC) | ((with_reducible apply arm_load hS); exact wanted_none; exact ev_tmp rfl; (repeat (with_reducible exact mem_hd)); rfl; decide +kernel; (try simp only [Act.put, q1, q2, q3])) | ((with_reducible apply arm_storeN hS); exact wanted_none; exact ev_tmp rfl; exact ev_tmp rfl; (repeat (with_reducible first | exact mem_hd | apply mem_tl)); rfl; (focus (simp; done)); (repeat (with_reducible first | exact Upd.hd | apply Upd.tl)); rfl; exact sz31; rfl; clear hS; intro w hS; (try simp only [setFrom, q2, q3] at hS); (try simp only [Act.put, q1, q2, q3])) | (go_at_call 40; refine (PL _ _ hS).mono ?_; clear hS; rintro e w ⟨rfl, hS⟩))
    refine bodyPost_ret (results_tmp_cell rfl rfl rfl (hS.loadWhole (by (repeat (with_reducible first | exact mem_hd | apply mem_tl))) (by kernel_rfl) (by kernel_rfl))) rfl ?_
    exact ⟨.inl (d, a), Z1.out, by rw [HSP.out]; rfl, hS.sb (by (repeat (with_reducible first | exact Sb.refl | apply Sb.skip)))⟩
  | inr q =>
    obtain ⟨x, q0, rfl, hen⟩ := z3 q hr
    rw [hr] at hA
    obtain ⟨u1, u2, u3, u4⟩ := htr1 x q0 rfl
    have hsx : size x ≤ 65536 := by
      have h1 := hnd q0 rfl
      obtain ⟨p1, hp1⟩ : ∃ p1, advP text p00 = .inr p1 := by
        cases h : advP text p00 with
        | inl e => rw [show thenP (.inr p00) (advP text) = .inl e from h] at hth0; cases hth0
        | inr p1 => exact ⟨p1, rfl⟩
      have h2 := (u4 p1 hp1).2
      omega
    rw [hen] at z1
    obtain ⟨k, n, tat, te, fin, o, nd, d, a, c1, c2, c3, c4, hlk, hqq, hS⟩ := hA.cells
    obtain ⟨_, rfl⟩ := hlk
    have LM := fun w R hS hm => listM x none 0 0 [] v1 H1 w0 w R hS hm u2 (by omega)
    simp only [Nat.zero_add, List.nil_append] at LM
    have Z1 := hid z1
    have hS2 := hS.ownNil 50 2
    clear hA z1 z2 z3 hen hr htr1 hS hnd hth0 u4 hqq u1
    have hS := hS2
    clear hS2
    go_wp2_with (first | ((with_reducible apply arm_load hS); exact wanted_none; exact ev_tmp rfl; (repeat (with_reducible first | exact mem_hd | apply mem_tl)); rfl; decide +kernel; (try simp only [Act.put, q1, q2, q3])) | ((with_reducible apply arm_storeN hS); exact wanted_none; exact ev_tmp rfl; exact ev_tmp rfl; (repeat (with_reducible first | exact mem_hd | apply mem_tl)); rfl; (focus (simp; done)); (repeat (with_reducible first | exact Upd.hd | apply Upd.tl)); rfl; exact sz31; rfl; clear hS; intro w hS; (try simp only [setFrom, q2, q3] at hS); (try simp only [Act.put, q1, q2, q3])) | (go_at_call 41; refine (LM _ _ hS (by (repeat (with_reducible first | exact mem_hd | apply mem_tl)))).mono ?_; clear hS; rintro e w ⟨ad1, cap1, rfl, hS⟩))
    refine bodyPost_ret (results_tmp_cell rfl rfl rfl (hS.loadWhole (by (repeat (with_reducible first | exact mem_hd | apply mem_tl))) (by kernel_rfl) (by kernel_rfl))) rfl ?_
    refine ⟨.inr x, Z1.out, ad1, cap1, ?_, ?_⟩
    · simp only [ansT, post_len]; rfl
    · simp only [ansT, post_len]; exact hS.sb (by (repeat (first | with_reducible exact Sb.refl | (with_reducible refine Sb.take (by (repeat (with_reducible first | exact Rem.hd | apply Rem.tl)); done) ?_) | with_reducible apply Sb.skip)))
end Go.Proofs.YthackanffcaejaaGreatDoor
end
section
set_option linter.unusedSimpArgs false
set_option linter.unusedVariables false
set_option linter.unusedSectionVars false
set_option maxRecDepth 20000
namespace Go.Proofs.YthackanffcaejaaGreatDoor
open Go Go.RowKit Go.SL

set_option maxHeartbeats 4000000 in
theorem ar0   (w0 w : World) (Hs : List HP) (hS : Sat w0 w Hs) : Calls Tryz.prog 68 #[.agg #[.int .i64 1, .int .i64 0]] w fun e w' => e = .returned (.int .i64 (0)) ∧ Sat w0 w' Hs := by
    go_enter Tryz.func68, Tryz.ntmps68
    go_wp2_with (((with_reducible apply arm_box hS); exact wanted_none; exact ev_tmp rfl; exact cells_agg; clear hS; intro NB w hS; (try simp only [Act.put, q1, q2, q3])); have c0 := hS.cell mem_hd (off := 0) rfl; have c1 := hS.cell mem_hd (off := 1) rfl)
    go_ret
    exact ⟨rfl, hS.drop⟩
set_option maxHeartbeats 4000000 in
theorem ar1   (w0 w : World) (Hs : List HP) (hS : Sat w0 w Hs) : Calls Tryz.prog 68 #[.agg #[.int .i64 1, .int .i64 1]] w fun e w' => e = .returned (.int .i64 (0)) ∧ Sat w0 w' Hs := by
    go_enter Tryz.func68, Tryz.ntmps68
    go_wp2_with (((with_reducible apply arm_box hS); exact wanted_none; exact ev_tmp rfl; exact cells_agg; clear hS; intro NB w hS; (try simp only [Act.put, q1, q2, q3])); have c0 := hS.cell mem_hd (off := 0) rfl; have c1 := hS.cell mem_hd (off := 1) rfl)
    go_ret
    exact ⟨rfl, hS.drop⟩
set_option maxHeartbeats 4000000 in
theorem ar2 (n : Int) (g0 : (n == 0) = false) (g1 : (n == 1) = false) (w0 w : World) (Hs : List HP) (hS : Sat w0 w Hs) : Calls Tryz.prog 68 #[.agg #[.int .i64 1, .int .i64 n]] w fun e w' => e = .returned (.int .i64 (-1)) ∧ Sat w0 w' Hs := by
    go_enter Tryz.func68, Tryz.ntmps68
    go_wp2_with (((with_reducible apply arm_box hS); exact wanted_none; exact ev_tmp rfl; exact cells_agg; clear hS; intro NB w hS; (try simp only [Act.put, q1, q2, q3])); have c0 := hS.cell mem_hd (off := 0) rfl; have c1 := hS.cell mem_hd (off := 1) rfl)
    go_ret
    exact ⟨rfl, hS.drop⟩
set_option maxHeartbeats 4000000 in
theorem ar3 (n : Int) (g : decide (0 ≤ n) = false) (w0 w : World) (Hs : List HP) (hS : Sat w0 w Hs) : Calls Tryz.prog 68 #[.agg #[.int .i64 2, .int .i64 n]] w fun e w' => e = .returned (.int .i64 (-1)) ∧ Sat w0 w' Hs := by
    go_enter Tryz.func68, Tryz.ntmps68
    go_wp2_with (((with_reducible apply arm_box hS); exact wanted_none; exact ev_tmp rfl; exact cells_agg; clear hS; intro NB w hS; (try simp only [Act.put, q1, q2, q3])); have c0 := hS.cell mem_hd (off := 0) rfl; have c1 := hS.cell mem_hd (off := 1) rfl)
    go_ret
    exact ⟨rfl, hS.drop⟩
set_option maxHeartbeats 4000000 in
theorem ar4 (n : Int) (g : decide (0 ≤ n) = true) (g2 : decide (n < 65536) = true) (w0 w : World) (Hs : List HP) (hS : Sat w0 w Hs) : Calls Tryz.prog 68 #[.agg #[.int .i64 2, .int .i64 n]] w fun e w' => e = .returned (.int .i64 (0)) ∧ Sat w0 w' Hs := by
    go_enter Tryz.func68, Tryz.ntmps68
    go_wp2_with (((with_reducible apply arm_box hS); exact wanted_none; exact ev_tmp rfl; exact cells_agg; clear hS; intro NB w hS; (try simp only [Act.put, q1, q2, q3])); have c0 := hS.cell mem_hd (off := 0) rfl; have c1 := hS.cell mem_hd (off := 1) rfl)
    go_ret
    exact ⟨rfl, hS.drop⟩
set_option maxHeartbeats 4000000 in
theorem ar5 (n : Int) (g : decide (0 ≤ n) = true) (g2 : decide (n < 65536) = false) (w0 w : World) (Hs : List HP) (hS : Sat w0 w Hs) : Calls Tryz.prog 68 #[.agg #[.int .i64 2, .int .i64 n]] w fun e w' => e = .returned (.int .i64 (-1)) ∧ Sat w0 w' Hs := by
    go_enter Tryz.func68, Tryz.ntmps68
    go_wp2_with (((with_reducible apply arm_box hS); exact wanted_none; exact ev_tmp rfl; exact cells_agg; clear hS; intro NB w hS; (try simp only [Act.put, q1, q2, q3])); have c0 := hS.cell mem_hd (off := 0) rfl; have c1 := hS.cell mem_hd (off := 1) rfl)
    go_ret
    exact ⟨rfl, hS.drop⟩
set_option maxHeartbeats 4000000 in
theorem ar6   (w0 w : World) (Hs : List HP) (hS : Sat w0 w Hs) : Calls Tryz.prog 68 #[.agg #[.int .i64 3, .int .i64 0]] w fun e w' => e = .returned (.int .i64 (1)) ∧ Sat w0 w' Hs := by
    go_enter Tryz.func68, Tryz.ntmps68
    go_wp2_with (((with_reducible apply arm_box hS); exact wanted_none; exact ev_tmp rfl; exact cells_agg; clear hS; intro NB w hS; (try simp only [Act.put, q1, q2, q3])); have c0 := hS.cell mem_hd (off := 0) rfl; have c1 := hS.cell mem_hd (off := 1) rfl)
    go_ret
    exact ⟨rfl, hS.drop⟩
end Go.Proofs.YthackanffcaejaaGreatDoor
end
section
set_option linter.unusedSimpArgs false
set_option linter.unusedVariables false
set_option linter.unusedSectionVars false
set_option maxRecDepth 20000
namespace Go.Proofs.YthackanffcaejaaGreatDoor
open Go Go.RowKit Go.SL

set_option maxHeartbeats 4000000 in
theorem ar7 (n : Int) (g0 : (n == 0) = false) (w0 w : World) (Hs : List HP) (hS : Sat w0 w Hs) : Calls Tryz.prog 68 #[.agg #[.int .i64 3, .int .i64 n]] w fun e w' => e = .returned (.int .i64 (-1)) ∧ Sat w0 w' Hs := by
    go_enter Tryz.func68, Tryz.ntmps68
    go_wp2_with (((with_reducible apply arm_box hS); exact wanted_none; exact ev_tmp rfl; exact cells_agg; clear hS; intro NB w hS; (try simp only [Act.put, q1, q2, q3])); have c0 := hS.cell mem_hd (off := 0) rfl; have c1 := hS.cell mem_hd (off := 1) rfl)
    go_ret
    exact ⟨rfl, hS.drop⟩
set_option maxHeartbeats 4000000 in
theorem ar8 (n : Int) (g : decide (0 ≤ n) = false) (w0 w : World) (Hs : List HP) (hS : Sat w0 w Hs) : Calls Tryz.prog 68 #[.agg #[.int .i64 4, .int .i64 n]] w fun e w' => e = .returned (.int .i64 (-1)) ∧ Sat w0 w' Hs := by
    go_enter Tryz.func68, Tryz.ntmps68
    go_wp2_with (((with_reducible apply arm_box hS); exact wanted_none; exact ev_tmp rfl; exact cells_agg; clear hS; intro NB w hS; (try simp only [Act.put, q1, q2, q3])); have c0 := hS.cell mem_hd (off := 0) rfl; have c1 := hS.cell mem_hd (off := 1) rfl)
    go_ret
    exact ⟨rfl, hS.drop⟩
set_option maxHeartbeats 4000000 in
theorem ar9 (n : Int) (g : decide (0 ≤ n) = true) (g2 : decide (n < 65536) = true) (w0 w : World) (Hs : List HP) (hS : Sat w0 w Hs) : Calls Tryz.prog 68 #[.agg #[.int .i64 4, .int .i64 n]] w fun e w' => e = .returned (.int .i64 (1)) ∧ Sat w0 w' Hs := by
    go_enter Tryz.func68, Tryz.ntmps68
    go_wp2_with (((with_reducible apply arm_box hS); exact wanted_none; exact ev_tmp rfl; exact cells_agg; clear hS; intro NB w hS; (try simp only [Act.put, q1, q2, q3])); have c0 := hS.cell mem_hd (off := 0) rfl; have c1 := hS.cell mem_hd (off := 1) rfl)
    go_ret
    exact ⟨rfl, hS.drop⟩
set_option maxHeartbeats 4000000 in
theorem ar10 (n : Int) (g : decide (0 ≤ n) = true) (g2 : decide (n < 65536) = false) (w0 w : World) (Hs : List HP) (hS : Sat w0 w Hs) : Calls Tryz.prog 68 #[.agg #[.int .i64 4, .int .i64 n]] w fun e w' => e = .returned (.int .i64 (-1)) ∧ Sat w0 w' Hs := by
    go_enter Tryz.func68, Tryz.ntmps68
    go_wp2_with (((with_reducible apply arm_box hS); exact wanted_none; exact ev_tmp rfl; exact cells_agg; clear hS; intro NB w hS; (try simp only [Act.put, q1, q2, q3])); have c0 := hS.cell mem_hd (off := 0) rfl; have c1 := hS.cell mem_hd (off := 1) rfl)
    go_ret
    exact ⟨rfl, hS.drop⟩
set_option maxHeartbeats 4000000 in
theorem ar11 (n : Int) (g : decide (0 ≤ n) = false) (w0 w : World) (Hs : List HP) (hS : Sat w0 w Hs) : Calls Tryz.prog 68 #[.agg #[.int .i64 5, .int .i64 n]] w fun e w' => e = .returned (.int .i64 (-1)) ∧ Sat w0 w' Hs := by
    go_enter Tryz.func68, Tryz.ntmps68
    go_wp2_with (((with_reducible apply arm_box hS); exact wanted_none; exact ev_tmp rfl; exact cells_agg; clear hS; intro NB w hS; (try simp only [Act.put, q1, q2, q3])); have c0 := hS.cell mem_hd (off := 0) rfl; have c1 := hS.cell mem_hd (off := 1) rfl)
    go_ret
    exact ⟨rfl, hS.drop⟩
set_option maxHeartbeats 4000000 in
theorem ar12 (n : Int) (g : decide (0 ≤ n) = true) (g2 : decide (n < 65536) = true) (w0 w : World) (Hs : List HP) (hS : Sat w0 w Hs) : Calls Tryz.prog 68 #[.agg #[.int .i64 5, .int .i64 n]] w fun e w' => e = .returned (.int .i64 (1)) ∧ Sat w0 w' Hs := by
    go_enter Tryz.func68, Tryz.ntmps68
    go_wp2_with (((with_reducible apply arm_box hS); exact wanted_none; exact ev_tmp rfl; exact cells_agg; clear hS; intro NB w hS; (try simp only [Act.put, q1, q2, q3])); have c0 := hS.cell mem_hd (off := 0) rfl; have c1 := hS.cell mem_hd (off := 1) rfl)
    go_ret
    exact ⟨rfl, hS.drop⟩
set_option maxHeartbeats 4000000 in
theorem ar13 (n : Int) (g : decide (0 ≤ n) = true) (g2 : decide (n < 65536) = false) (w0 w : World) (Hs : List HP) (hS : Sat w0 w Hs) : Calls Tryz.prog 68 #[.agg #[.int .i64 5, .int .i64 n]] w fun e w' => e = .returned (.int .i64 (-1)) ∧ Sat w0 w' Hs := by
    go_enter Tryz.func68, Tryz.ntmps68
    go_wp2_with (((with_reducible apply arm_box hS); exact wanted_none; exact ev_tmp rfl; exact cells_agg; clear hS; intro NB w hS; (try simp only [Act.put, q1, q2, q3])); have c0 := hS.cell mem_hd (off := 0) rfl; have c1 := hS.cell mem_hd (off := 1) rfl)
    go_ret
    exact ⟨rfl, hS.drop⟩
end Go.Proofs.YthackanffcaejaaGreatDoor
end
section
set_option linter.unusedSimpArgs false
set_option linter.unusedVariables false
set_option linter.unusedSectionVars false
set_option maxRecDepth 20000
namespace Go.Proofs.YthackanffcaejaaGreatDoor
open Go Go.RowKit Go.SL

set_option maxHeartbeats 4000000 in
theorem ar14 (op : Int) (k1 : (op == 1) = false) (k2 : (op == 2) = false) (k3 : (op == 3) = false) (k4 : (op == 4) = false) (k5 : (op == 5) = false) (k6 : decide (6 ≤ op) = true) (k7 : decide (op ≤ 10) = true) (w0 w : World) (Hs : List HP) (hS : Sat w0 w Hs) : Calls Tryz.prog 68 #[.agg #[.int .i64 op, .int .i64 0]] w fun e w' => e = .returned (.int .i64 (2)) ∧ Sat w0 w' Hs := by
    go_enter Tryz.func68, Tryz.ntmps68
    go_wp2_with (((with_reducible apply arm_box hS); exact wanted_none; exact ev_tmp rfl; exact cells_agg; clear hS; intro NB w hS; (try simp only [Act.put, q1, q2, q3])); have c0 := hS.cell mem_hd (off := 0) rfl; have c1 := hS.cell mem_hd (off := 1) rfl)
    go_ret
    exact ⟨rfl, hS.drop⟩
set_option maxHeartbeats 4000000 in
theorem ar15 (op n : Int) (g0 : (n == 0) = false) (k1 : (op == 1) = false) (k2 : (op == 2) = false) (k3 : (op == 3) = false) (k4 : (op == 4) = false) (k5 : (op == 5) = false) (k11 : (op == 11) = false) (k6 : decide (6 ≤ op) = true) (k7 : decide (op ≤ 10) = true) (w0 w : World) (Hs : List HP) (hS : Sat w0 w Hs) : Calls Tryz.prog 68 #[.agg #[.int .i64 op, .int .i64 n]] w fun e w' => e = .returned (.int .i64 (-1)) ∧ Sat w0 w' Hs := by
    go_enter Tryz.func68, Tryz.ntmps68
    go_wp2_with (((with_reducible apply arm_box hS); exact wanted_none; exact ev_tmp rfl; exact cells_agg; clear hS; intro NB w hS; (try simp only [Act.put, q1, q2, q3])); have c0 := hS.cell mem_hd (off := 0) rfl; have c1 := hS.cell mem_hd (off := 1) rfl)
    go_ret
    exact ⟨rfl, hS.drop⟩
set_option maxHeartbeats 4000000 in
theorem ar16   (w0 w : World) (Hs : List HP) (hS : Sat w0 w Hs) : Calls Tryz.prog 68 #[.agg #[.int .i64 11, .int .i64 0]] w fun e w' => e = .returned (.int .i64 (3)) ∧ Sat w0 w' Hs := by
    go_enter Tryz.func68, Tryz.ntmps68
    go_wp2_with (((with_reducible apply arm_box hS); exact wanted_none; exact ev_tmp rfl; exact cells_agg; clear hS; intro NB w hS; (try simp only [Act.put, q1, q2, q3])); have c0 := hS.cell mem_hd (off := 0) rfl; have c1 := hS.cell mem_hd (off := 1) rfl)
    go_ret
    exact ⟨rfl, hS.drop⟩
set_option maxHeartbeats 4000000 in
theorem ar17 (n : Int) (g0 : (n == 0) = false) (w0 w : World) (Hs : List HP) (hS : Sat w0 w Hs) : Calls Tryz.prog 68 #[.agg #[.int .i64 11, .int .i64 n]] w fun e w' => e = .returned (.int .i64 (-1)) ∧ Sat w0 w' Hs := by
    go_enter Tryz.func68, Tryz.ntmps68
    go_wp2_with (((with_reducible apply arm_box hS); exact wanted_none; exact ev_tmp rfl; exact cells_agg; clear hS; intro NB w hS; (try simp only [Act.put, q1, q2, q3])); have c0 := hS.cell mem_hd (off := 0) rfl; have c1 := hS.cell mem_hd (off := 1) rfl)
    go_ret
    exact ⟨rfl, hS.drop⟩
set_option maxHeartbeats 4000000 in
theorem ar18 (op n : Int) (k1 : (op == 1) = false) (k2 : (op == 2) = false) (k3 : (op == 3) = false) (k4 : (op == 4) = false) (k5 : (op == 5) = false) (k11 : (op == 11) = false) (k6 : decide (6 ≤ op) = false) (w0 w : World) (Hs : List HP) (hS : Sat w0 w Hs) : Calls Tryz.prog 68 #[.agg #[.int .i64 op, .int .i64 n]] w fun e w' => e = .returned (.int .i64 (-1)) ∧ Sat w0 w' Hs := by
    go_enter Tryz.func68, Tryz.ntmps68
    go_wp2_with (((with_reducible apply arm_box hS); exact wanted_none; exact ev_tmp rfl; exact cells_agg; clear hS; intro NB w hS; (try simp only [Act.put, q1, q2, q3])); have c0 := hS.cell mem_hd (off := 0) rfl; have c1 := hS.cell mem_hd (off := 1) rfl)
    go_ret
    exact ⟨rfl, hS.drop⟩
set_option maxHeartbeats 4000000 in
theorem ar19 (op n : Int) (k1 : (op == 1) = false) (k2 : (op == 2) = false) (k3 : (op == 3) = false) (k4 : (op == 4) = false) (k5 : (op == 5) = false) (k11 : (op == 11) = false) (k6 : decide (6 ≤ op) = true) (k7 : decide (op ≤ 10) = false) (w0 w : World) (Hs : List HP) (hS : Sat w0 w Hs) : Calls Tryz.prog 68 #[.agg #[.int .i64 op, .int .i64 n]] w fun e w' => e = .returned (.int .i64 (-1)) ∧ Sat w0 w' Hs := by
    go_enter Tryz.func68, Tryz.ntmps68
    go_wp2_with (((with_reducible apply arm_box hS); exact wanted_none; exact ev_tmp rfl; exact cells_agg; clear hS; intro NB w hS; (try simp only [Act.put, q1, q2, q3])); have c0 := hS.cell mem_hd (off := 0) rfl; have c1 := hS.cell mem_hd (off := 1) rfl)
    go_ret
    exact ⟨rfl, hS.drop⟩
end Go.Proofs.YthackanffcaejaaGreatDoor
end
