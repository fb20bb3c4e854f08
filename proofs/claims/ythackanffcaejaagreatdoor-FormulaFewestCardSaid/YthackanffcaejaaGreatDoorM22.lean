/- A part of the proof: SameG RdN Bk5 Bk6 Partner. -/
import Derived.Test.YthackanffcaejaaGreatDoorM1
import Derived.Test.YthackanffcaejaaGreatDoorM3
import Derived.Test.YthackanffcaejaaGreatDoorM4
import Derived.Test.YthackanffcaejaaGreatDoorM8
import Derived.Test.YthackanffcaejaaGreatDoorM9
import Derived.Test.YthackanffcaejaaGreatDoorM18
section
set_option linter.unusedSimpArgs false
set_option linter.unusedVariables false
set_option linter.unusedSectionVars false
set_option maxRecDepth 20000
namespace Go.Proofs.YthackanffcaejaaGreatDoor
open Go Go.RowKit Go.SL

theorem take_ne {α : Type} {xs ys : List α} {k : Nat} {x y : α} (hx : xs[k]? = some x) (hy : ys[k]? = some y) (h : x ≠ y) : xs ≠ ys := fun e => h (by rw [e, hy] at hx; injection hx with hx; exact hx.symm)
set_option maxHeartbeats 2000000 in
theorem sameG (fs gs : List (Int × Int)) (hl : fs.length ≤ 8796093022200) (hl2 : gs.length ≤ 8796093022200) (ad : Option Addr) (cap : Nat) (ad2 : Option Addr) (cap2 : Nat) (w0 w : World) (Hs : List HP) (hS : Sat w0 w Hs) {A B : HP} (hA : A ∈ Hs) (hB : B ∈ Hs) (hr : Rd A ad (Fs fs)) (hr2 : Rd B ad2 (Fs gs)) :
    Calls Tryz.prog 16 #[.slice ad fs.length cap, .slice ad2 gs.length cap2] w fun e w' => e = .returned (.bool (decide (fs = gs))) ∧ Sat w0 w' Hs := by
  by_cases hne : fs.length = gs.length
  case neg =>
    have hd : decide (fs = gs) = false := decide_eq_false fun e => hne (by rw [e])
    have hb : ((fs.length : Int) != (gs.length : Int)) = true := by simp; omega
    rw [hd]
    go_enter Tryz.func16, Tryz.ntmps16
    go_wp2
    go_ret
    exact ⟨rfl, hS⟩
  have hb : ((fs.length : Int) != (gs.length : Int)) = false := by simp; omega
  obtain ⟨D, hD⟩ : ∃ D, D = decide (fs = gs) := ⟨_, rfl⟩
  rw [← hD]
  have HD := hid hD
  clear hD
  go_enter Tryz.func16, Tryz.ntmps16
  go_wp2
  go_loopw [5] (fun i wr => ∃ k : Nat, i = .int .i64 k ∧ k ≤ fs.length ∧ fs.take k = gs.take k ∧ Sat w0 wr Hs) (fun i _ => fs.length - (intOf i).toNat)
  case atStart => exact ⟨0, rfl, by omega, by simp, hS⟩
  case round =>
    clear hS
    obtain ⟨k, rfl, hk, htk, hS⟩ := hrel
    by_cases hlt : k < fs.length
    · obtain ⟨⟨op, n⟩, hx⟩ : ∃ x, fs[k]? = some x := ⟨_, List.getElem?_eq_getElem hlt⟩
      obtain ⟨⟨op2, n2⟩, hx2⟩ : ∃ x, gs[k]? = some x := ⟨_, List.getElem?_eq_getElem (by omega)⟩
      have hfd := Fs_at hx
      have hfd2 := Fs_at hx2
      have hne1 : ∃ aa, ad = some aa ∧ aa.spot = none := Sat.rdAd2 hr hS hA (by rw [Fs_length]; omega)
      have hne2 : ∃ aa, ad2 = some aa ∧ aa.spot = none := Sat.rdAd2 hr2 hS hB (by rw [Fs_length]; omega)
      by_cases hq : op = op2 ∧ n = n2
      · obtain ⟨rfl, rfl⟩ := hq
        have HT := hid (show fs.take (k + 1) = gs.take (k + 1) by rw [List.take_add_one, List.take_add_one, htk, hx, hx2])
        clear hx hx2 htk
        go_wp2_with (first | ((with_reducible apply Cont.intro); (first | (focus (apply Or.inr; apply (Sat.sb hS); (repeat (first | with_reducible exact Sb.refl | with_reducible exact Sb.nil | (with_reducible refine Sb.take (by (repeat (with_reducible first | exact Rem.hd | apply Rem.tl)); done) ?_) | with_reducible apply Sb.skip)); done)) | (exact Or.inl (by kernel_rfl))); intro hR hC) | ((first | ((with_reducible apply draw_pure (i := 0)); (simp only [q4, q6, q5]; with_reducible rfl); kernel_rfl; kernel_rfl; decide +kernel; rfl; exact hC; exact (fun _ _ _ h => h); exact hR; with_reducible exact wanted_none) | ((with_reducible apply draw_pure (i := 1)); (simp only [q4, q6, q5]; with_reducible rfl); kernel_rfl; kernel_rfl; decide +kernel; rfl; exact hC; exact (fun _ _ _ h => h); exact hR; with_reducible exact wanted_none) | ((with_reducible apply draw_pure (i := 4)); (simp only [q4, q6, q5]; with_reducible rfl); kernel_rfl; kernel_rfl; decide +kernel; rfl; exact hC; exact (fun _ _ _ h => h); exact hR; with_reducible exact wanted_none) | ((with_reducible apply draw_pure (i := 5)); (simp only [q4, q6, q5]; with_reducible rfl); kernel_rfl; kernel_rfl; decide +kernel; rfl; exact hC; exact (fun _ _ _ h => h); exact hR; with_reducible exact wanted_none) | ((with_reducible apply draw_pure (i := 8)); (simp only [q4, q6, q5]; with_reducible rfl); kernel_rfl; kernel_rfl; decide +kernel; rfl; exact hC; exact (fun _ _ _ h => h); exact hR; with_reducible exact wanted_none)); (intro w; first | (go_simp; done) | (go_simp; rw [wrapI (by omega) (by omega)]) | (go_simp; with_reducible rfl) | (go_simp; rfl)); (clear hR hC; intro hR hC); (try simp only [Act.put, q1, q2, q3])) | ((first | ((with_reducible apply draw_pure (i := 2)); (simp only [q4, q6, q5]; with_reducible rfl); kernel_rfl; kernel_rfl; decide +kernel; rfl; exact hC; exact (fun _ _ _ h => h); exact hR; with_reducible exact wanted_none) | ((with_reducible apply draw_pure (i := 6)); (simp only [q4, q6, q5]; with_reducible rfl); kernel_rfl; kernel_rfl; decide +kernel; rfl; exact hC; exact (fun _ _ _ h => h); exact hR; with_reducible exact wanted_none)); (intro w; first | (with_reducible exact draw_ia E22 rfl (by (first | exact ev_tmp rfl | exact ev_const)) (by (first | exact ev_tmp rfl | exact ev_const)) (by (first | omega | (focus (simp; done)) | (simp; omega))) (by (first | omega | (focus (simp; done)) | (simp; omega))) (by (first | exact hS.ownNN (by (repeat (with_reducible first | exact mem_hd | apply mem_tl))) (by omega) | exact Sat.rdAd2 (by assumption) hS (by ((repeat (with_reducible first | exact mem_hd | apply mem_tl))); try assumption) (by first | (simp only [Is_length, Bs_length, List.length_take, List.length_drop]; omega) | omega | (simp; omega) | (simp; done)) | assumption)) (by (first | (simp only [Int.toNat_natCast, Nat.mul_one, Nat.zero_add, tn_sub, tn_sub1, tn_sub2, tn_sub3, tn_add, tn_add1, tn_add2]; rfl) | rfl))) | (go_simp; done) | (go_simp; rw [wrapI (by omega) (by omega)]) | (go_simp; with_reducible rfl)); (clear hR hC; intro hR hC); (try simp only [Act.put, q1, q2, q3])) | ((first | ((with_reducible apply draw_read (i := 3)); (simp only [q4, q6, q5]; with_reducible rfl); kernel_rfl; kernel_rfl; decide +kernel; kernel_rfl; rfl; exact hC; exact (fun _ _ _ h => h); exact hR; kernel_rfl; with_reducible exact wanted_none) | ((with_reducible apply draw_read (i := 7)); (simp only [q4, q6, q5]; with_reducible rfl); kernel_rfl; kernel_rfl; decide +kernel; kernel_rfl; rfl; exact hC; exact (fun _ _ _ h => h); exact hR; kernel_rfl; with_reducible exact wanted_none)); (intro w hS; (apply run_op_load rfl (by first | (first | exact ev_tmp rfl | exact ev_const) | rfl)); first | exact run_loadVar1 (by decide +kernel) (hS.cell (by (repeat (with_reducible first | exact mem_hd | apply mem_tl))) rfl) | exact run_loadVar1 (by decide +kernel) ((hS.ownCell (by (repeat (with_reducible first | exact mem_hd | apply mem_tl))) (by (first | assumption | exact Is_at (by assumption) | exact Bs_at (by assumption) | rfl | (simp; done)))).1) | exact run_loadVar1 (by decide +kernel) (Sat.rdCell2 (by assumption) hS (by ((repeat (with_reducible first | exact mem_hd | apply mem_tl))); try assumption) (by (first | assumption | exact Is_at (by assumption) | exact Bs_at (by assumption) | rfl | (simp; done)))) | exact run_loadVar1 (by decide +kernel) (hS.baseCell (by ((repeat (with_reducible first | exact mem_hd | apply mem_tl))); try assumption) (by assumption)) | exact run_loadVar1 (by decide +kernel) (fzC (by assumption) hS (by ((repeat (with_reducible first | exact mem_hd | apply mem_tl))); try assumption)) | exact run_loadRN hS (by assumption) (by ((repeat (with_reducible first | exact mem_hd | apply mem_tl))); try assumption) (by assumption) (by rfl) (by first | with_reducible exact sz50) (by decide +kernel) (by decide) | exact hS.loadWhole (by (repeat (with_reducible first | exact mem_hd | apply mem_tl))) (by kernel_rfl) (by kernel_rfl)); (clear hR hC; intro hR hC); (try simp only [Act.put, q1, q2, q3])) | ((with_reducible apply draw_done); decide +kernel; clear hR hC) | (refine draw_sat 6 9 hS (by kernel_rfl) [] rfl ?_; clear hS; intro w hS hR hC) | ((with_reducible apply arm_indexAddr); (first | with_reducible exact wanted_none | exact wanted_guard rfl rfl); (first | exact ev_tmp rfl | exact ev_const); (first | exact ev_tmp rfl | exact ev_const); (first | with_reducible exact E22); (first | omega | (focus (simp; done)) | (simp; omega)); (first | omega | (focus (simp; done)) | (simp; omega)); (first | exact hS.ownNN (by (repeat (with_reducible first | exact mem_hd | apply mem_tl))) (by omega) | exact Sat.rdAd2 (by assumption) hS (by ((repeat (with_reducible first | exact mem_hd | apply mem_tl))); try assumption) (by first | (simp only [Is_length, Bs_length, List.length_take, List.length_drop]; omega) | omega | (simp; omega) | (simp; done)) | assumption); (first | (simp only [Int.toNat_natCast, Nat.mul_one, Nat.zero_add, tn_sub, tn_sub1, tn_sub2, tn_sub3, tn_add, tn_add1, tn_add2]; rfl) | rfl); (try simp only [Act.put, q1, q2, q3])) | ((with_reducible apply arm_loadRN hS); (first | with_reducible exact wanted_none | exact wanted_guard rfl rfl); (first | exact ev_tmp rfl | exact ev_const); assumption; (((repeat (with_reducible first | exact mem_hd | apply mem_tl))); (try assumption)); assumption; rfl; (first | with_reducible exact sz50); decide +kernel; decide; (try simp only [Act.put, q1, q2, q3])))
        go_roundw
        case rel => exact ⟨k + 1, by go_num, by omega, HT.out, hS⟩
        case measure => simp [intOf]; omega
      · have HF := hid (show D = false by rw [HD.out]; exact decide_eq_false (take_ne hx hx2 fun e => hq (by injection e with e1 e2; exact ⟨e1, e2⟩)))
        clear hx hx2 htk
        by_cases h1 : op = op2
        · subst h1
          have h2 : ¬ n = n2 := fun e => hq ⟨rfl, e⟩
          have h3 : (n == n2) = false := beq_eq_false_iff_ne.2 h2
          clear hq
          go_wp2_with (first | ((with_reducible apply Cont.intro); (first | (focus (apply Or.inr; apply (Sat.sb hS); (repeat (first | with_reducible exact Sb.refl | with_reducible exact Sb.nil | (with_reducible refine Sb.take (by (repeat (with_reducible first | exact Rem.hd | apply Rem.tl)); done) ?_) | with_reducible apply Sb.skip)); done)) | (exact Or.inl (by kernel_rfl))); intro hR hC) | ((first | ((with_reducible apply draw_pure (i := 0)); (simp only [q4, q6, q5]; with_reducible rfl); kernel_rfl; kernel_rfl; decide +kernel; rfl; exact hC; exact (fun _ _ _ h => h); exact hR; with_reducible exact wanted_none) | ((with_reducible apply draw_pure (i := 1)); (simp only [q4, q6, q5]; with_reducible rfl); kernel_rfl; kernel_rfl; decide +kernel; rfl; exact hC; exact (fun _ _ _ h => h); exact hR; with_reducible exact wanted_none) | ((with_reducible apply draw_pure (i := 4)); (simp only [q4, q6, q5]; with_reducible rfl); kernel_rfl; kernel_rfl; decide +kernel; rfl; exact hC; exact (fun _ _ _ h => h); exact hR; with_reducible exact wanted_none) | ((with_reducible apply draw_pure (i := 5)); (simp only [q4, q6, q5]; with_reducible rfl); kernel_rfl; kernel_rfl; decide +kernel; rfl; exact hC; exact (fun _ _ _ h => h); exact hR; with_reducible exact wanted_none) | ((with_reducible apply draw_pure (i := 8)); (simp only [q4, q6, q5]; with_reducible rfl); kernel_rfl; kernel_rfl; decide +kernel; rfl; exact hC; exact (fun _ _ _ h => h); exact hR; with_reducible exact wanted_none)); (intro w; first | (go_simp; done) | (go_simp; rw [wrapI (by omega) (by omega)]) | (go_simp; with_reducible rfl) | (go_simp; rfl)); (clear hR hC; intro hR hC); (try simp only [Act.put, q1, q2, q3])) | ((first | ((with_reducible apply draw_pure (i := 2)); (simp only [q4, q6, q5]; with_reducible rfl); kernel_rfl; kernel_rfl; decide +kernel; rfl; exact hC; exact (fun _ _ _ h => h); exact hR; with_reducible exact wanted_none) | ((with_reducible apply draw_pure (i := 6)); (simp only [q4, q6, q5]; with_reducible rfl); kernel_rfl; kernel_rfl; decide +kernel; rfl; exact hC; exact (fun _ _ _ h => h); exact hR; with_reducible exact wanted_none)); (intro w; first | (with_reducible exact draw_ia E22 rfl (by (first | exact ev_tmp rfl | exact ev_const)) (by (first | exact ev_tmp rfl | exact ev_const)) (by (first | omega | (focus (simp; done)) | (simp; omega))) (by (first | omega | (focus (simp; done)) | (simp; omega))) (by (first | exact hS.ownNN (by (repeat (with_reducible first | exact mem_hd | apply mem_tl))) (by omega) | exact Sat.rdAd2 (by assumption) hS (by ((repeat (with_reducible first | exact mem_hd | apply mem_tl))); try assumption) (by first | (simp only [Is_length, Bs_length, List.length_take, List.length_drop]; omega) | omega | (simp; omega) | (simp; done)) | assumption)) (by (first | (simp only [Int.toNat_natCast, Nat.mul_one, Nat.zero_add, tn_sub, tn_sub1, tn_sub2, tn_sub3, tn_add, tn_add1, tn_add2]; rfl) | rfl))) | (go_simp; done) | (go_simp; rw [wrapI (by omega) (by omega)]) | (go_simp; with_reducible rfl)); (clear hR hC; intro hR hC); (try simp only [Act.put, q1, q2, q3])) | ((first | ((with_reducible apply draw_read (i := 3)); (simp only [q4, q6, q5]; with_reducible rfl); kernel_rfl; kernel_rfl; decide +kernel; kernel_rfl; rfl; exact hC; exact (fun _ _ _ h => h); exact hR; kernel_rfl; with_reducible exact wanted_none) | ((with_reducible apply draw_read (i := 7)); (simp only [q4, q6, q5]; with_reducible rfl); kernel_rfl; kernel_rfl; decide +kernel; kernel_rfl; rfl; exact hC; exact (fun _ _ _ h => h); exact hR; kernel_rfl; with_reducible exact wanted_none)); (intro w hS; (apply run_op_load rfl (by first | (first | exact ev_tmp rfl | exact ev_const) | rfl)); first | exact run_loadVar1 (by decide +kernel) (hS.cell (by (repeat (with_reducible first | exact mem_hd | apply mem_tl))) rfl) | exact run_loadVar1 (by decide +kernel) ((hS.ownCell (by (repeat (with_reducible first | exact mem_hd | apply mem_tl))) (by (first | assumption | exact Is_at (by assumption) | exact Bs_at (by assumption) | rfl | (simp; done)))).1) | exact run_loadVar1 (by decide +kernel) (Sat.rdCell2 (by assumption) hS (by ((repeat (with_reducible first | exact mem_hd | apply mem_tl))); try assumption) (by (first | assumption | exact Is_at (by assumption) | exact Bs_at (by assumption) | rfl | (simp; done)))) | exact run_loadVar1 (by decide +kernel) (hS.baseCell (by ((repeat (with_reducible first | exact mem_hd | apply mem_tl))); try assumption) (by assumption)) | exact run_loadVar1 (by decide +kernel) (fzC (by assumption) hS (by ((repeat (with_reducible first | exact mem_hd | apply mem_tl))); try assumption)) | exact run_loadRN hS (by assumption) (by ((repeat (with_reducible first | exact mem_hd | apply mem_tl))); try assumption) (by assumption) (by rfl) (by first | with_reducible exact sz50) (by decide +kernel) (by decide) | exact hS.loadWhole (by (repeat (with_reducible first | exact mem_hd | apply mem_tl))) (by kernel_rfl) (by kernel_rfl)); (clear hR hC; intro hR hC); (try simp only [Act.put, q1, q2, q3])) | ((with_reducible apply draw_done); decide +kernel; clear hR hC) | (refine draw_sat 6 9 hS (by kernel_rfl) [] rfl ?_; clear hS; intro w hS hR hC) | ((with_reducible apply arm_indexAddr); (first | with_reducible exact wanted_none | exact wanted_guard rfl rfl); (first | exact ev_tmp rfl | exact ev_const); (first | exact ev_tmp rfl | exact ev_const); (first | with_reducible exact E22); (first | omega | (focus (simp; done)) | (simp; omega)); (first | omega | (focus (simp; done)) | (simp; omega)); (first | exact hS.ownNN (by (repeat (with_reducible first | exact mem_hd | apply mem_tl))) (by omega) | exact Sat.rdAd2 (by assumption) hS (by ((repeat (with_reducible first | exact mem_hd | apply mem_tl))); try assumption) (by first | (simp only [Is_length, Bs_length, List.length_take, List.length_drop]; omega) | omega | (simp; omega) | (simp; done)) | assumption); (first | (simp only [Int.toNat_natCast, Nat.mul_one, Nat.zero_add, tn_sub, tn_sub1, tn_sub2, tn_sub3, tn_add, tn_add1, tn_add2]; rfl) | rfl); (try simp only [Act.put, q1, q2, q3])) | ((with_reducible apply arm_loadRN hS); (first | with_reducible exact wanted_none | exact wanted_guard rfl rfl); (first | exact ev_tmp rfl | exact ev_const); assumption; (((repeat (with_reducible first | exact mem_hd | apply mem_tl))); (try assumption)); assumption; rfl; (first | with_reducible exact sz50); decide +kernel; decide; (try simp only [Act.put, q1, q2, q3])))
          go_ret
          exact ⟨by rw [HF.out]; rfl, hS⟩
        · have h3 : (op == op2) = false := beq_eq_false_iff_ne.2 h1
          clear hq
          go_wp2_with (first | ((with_reducible apply Cont.intro); (first | (focus (apply Or.inr; apply (Sat.sb hS); (repeat (first | with_reducible exact Sb.refl | with_reducible exact Sb.nil | (with_reducible refine Sb.take (by (repeat (with_reducible first | exact Rem.hd | apply Rem.tl)); done) ?_) | with_reducible apply Sb.skip)); done)) | (exact Or.inl (by kernel_rfl))); intro hR hC) | ((first | ((with_reducible apply draw_pure (i := 0)); (simp only [q4, q6, q5]; with_reducible rfl); kernel_rfl; kernel_rfl; decide +kernel; rfl; exact hC; exact (fun _ _ _ h => h); exact hR; with_reducible exact wanted_none) | ((with_reducible apply draw_pure (i := 1)); (simp only [q4, q6, q5]; with_reducible rfl); kernel_rfl; kernel_rfl; decide +kernel; rfl; exact hC; exact (fun _ _ _ h => h); exact hR; with_reducible exact wanted_none) | ((with_reducible apply draw_pure (i := 4)); (simp only [q4, q6, q5]; with_reducible rfl); kernel_rfl; kernel_rfl; decide +kernel; rfl; exact hC; exact (fun _ _ _ h => h); exact hR; with_reducible exact wanted_none) | ((with_reducible apply draw_pure (i := 5)); (simp only [q4, q6, q5]; with_reducible rfl); kernel_rfl; kernel_rfl; decide +kernel; rfl; exact hC; exact (fun _ _ _ h => h); exact hR; with_reducible exact wanted_none) | ((with_reducible apply draw_pure (i := 8)); (simp only [q4, q6, q5]; with_reducible rfl); kernel_rfl; kernel_rfl; decide +kernel; rfl; exact hC; exact (fun _ _ _ h => h); exact hR; with_reducible exact wanted_none)); (intro w; first | (go_simp; done) | (go_simp; rw [wrapI (by omega) (by omega)]) | (go_simp; with_reducible rfl) | (go_simp; rfl)); (clear hR hC; intro hR hC); (try simp only [Act.put, q1, q2, q3])) | ((first | ((with_reducible apply draw_pure (i := 2)); (simp only [q4, q6, q5]; with_reducible rfl); kernel_rfl; kernel_rfl; decide +kernel; rfl; exact hC; exact (fun _ _ _ h => h); exact hR; with_reducible exact wanted_none) | ((with_reducible apply draw_pure (i := 6)); (simp only [q4, q6, q5]; with_reducible rfl); kernel_rfl; kernel_rfl; decide +kernel; rfl; exact hC; exact (fun _ _ _ h => h); exact hR; with_reducible exact wanted_none)); (intro w; first | (with_reducible exact draw_ia E22 rfl (by (first | exact ev_tmp rfl | exact ev_const)) (by (first | exact ev_tmp rfl | exact ev_const)) (by (first | omega | (focus (simp; done)) | (simp; omega))) (by (first | omega | (focus (simp; done)) | (simp; omega))) (by (first | exact hS.ownNN (by (repeat (with_reducible first | exact mem_hd | apply mem_tl))) (by omega) | exact Sat.rdAd2 (by assumption) hS (by ((repeat (with_reducible first | exact mem_hd | apply mem_tl))); try assumption) (by first | (simp only [Is_length, Bs_length, List.length_take, List.length_drop]; omega) | omega | (simp; omega) | (simp; done)) | assumption)) (by (first | (simp only [Int.toNat_natCast, Nat.mul_one, Nat.zero_add, tn_sub, tn_sub1, tn_sub2, tn_sub3, tn_add, tn_add1, tn_add2]; rfl) | rfl))) | (go_simp; done) | (go_simp; rw [wrapI (by omega) (by omega)]) | (go_simp; with_reducible rfl)); (clear hR hC; intro hR hC); (try simp only [Act.put, q1, q2, q3])) | ((first | ((with_reducible apply draw_read (i := 3)); (simp only [q4, q6, q5]; with_reducible rfl); kernel_rfl; kernel_rfl; decide +kernel; kernel_rfl; rfl; exact hC; exact (fun _ _ _ h => h); exact hR; kernel_rfl; with_reducible exact wanted_none) | ((with_reducible apply draw_read (i := 7)); (simp only [q4, q6, q5]; with_reducible rfl); kernel_rfl; kernel_rfl; decide +kernel; kernel_rfl; rfl; exact hC; exact (fun _ _ _ h => h); exact hR; kernel_rfl; with_reducible exact wanted_none)); (intro w hS; (apply run_op_load rfl (by first | (first | exact ev_tmp rfl | exact ev_const) | rfl)); first | exact run_loadVar1 (by decide +kernel) (hS.cell (by (repeat (with_reducible first | exact mem_hd | apply mem_tl))) rfl) | exact run_loadVar1 (by decide +kernel) ((hS.ownCell (by (repeat (with_reducible first | exact mem_hd | apply mem_tl))) (by (first | assumption | exact Is_at (by assumption) | exact Bs_at (by assumption) | rfl | (simp; done)))).1) | exact run_loadVar1 (by decide +kernel) (Sat.rdCell2 (by assumption) hS (by ((repeat (with_reducible first | exact mem_hd | apply mem_tl))); try assumption) (by (first | assumption | exact Is_at (by assumption) | exact Bs_at (by assumption) | rfl | (simp; done)))) | exact run_loadVar1 (by decide +kernel) (hS.baseCell (by ((repeat (with_reducible first | exact mem_hd | apply mem_tl))); try assumption) (by assumption)) | exact run_loadVar1 (by decide +kernel) (fzC (by assumption) hS (by ((repeat (with_reducible first | exact mem_hd | apply mem_tl))); try assumption)) | exact run_loadRN hS (by assumption) (by ((repeat (with_reducible first | exact mem_hd | apply mem_tl))); try assumption) (by assumption) (by rfl) (by first | with_reducible exact sz50) (by decide +kernel) (by decide) | exact hS.loadWhole (by (repeat (with_reducible first | exact mem_hd | apply mem_tl))) (by kernel_rfl) (by kernel_rfl)); (clear hR hC; intro hR hC); (try simp only [Act.put, q1, q2, q3])) | ((with_reducible apply draw_done); decide +kernel; clear hR hC) | (refine draw_sat 6 9 hS (by kernel_rfl) [] rfl ?_; clear hS; intro w hS hR hC) | ((with_reducible apply arm_indexAddr); (first | with_reducible exact wanted_none | exact wanted_guard rfl rfl); (first | exact ev_tmp rfl | exact ev_const); (first | exact ev_tmp rfl | exact ev_const); (first | with_reducible exact E22); (first | omega | (focus (simp; done)) | (simp; omega)); (first | omega | (focus (simp; done)) | (simp; omega)); (first | exact hS.ownNN (by (repeat (with_reducible first | exact mem_hd | apply mem_tl))) (by omega) | exact Sat.rdAd2 (by assumption) hS (by ((repeat (with_reducible first | exact mem_hd | apply mem_tl))); try assumption) (by first | (simp only [Is_length, Bs_length, List.length_take, List.length_drop]; omega) | omega | (simp; omega) | (simp; done)) | assumption); (first | (simp only [Int.toNat_natCast, Nat.mul_one, Nat.zero_add, tn_sub, tn_sub1, tn_sub2, tn_sub3, tn_add, tn_add1, tn_add2]; rfl) | rfl); (try simp only [Act.put, q1, q2, q3])) | ((with_reducible apply arm_loadRN hS); (first | with_reducible exact wanted_none | exact wanted_guard rfl rfl); (first | exact ev_tmp rfl | exact ev_const); assumption; (((repeat (with_reducible first | exact mem_hd | apply mem_tl))); (try assumption)); assumption; rfl; (first | with_reducible exact sz50); decide +kernel; decide; (try simp only [Act.put, q1, q2, q3])))
          go_ret
          exact ⟨by rw [HF.out]; rfl, hS⟩
    · have HT := hid (show D = true by
        rw [HD.out]
        refine decide_eq_true ?_
        rw [List.take_of_length_le (by omega), List.take_of_length_le (by omega)] at htk
        exact htk)
      clear htk
      go_wp2
      go_ret
      exact ⟨by rw [HT.out]; rfl, hS⟩
end Go.Proofs.YthackanffcaejaaGreatDoor
end
section
set_option linter.unusedSimpArgs false
set_option linter.unusedVariables false
namespace Go.Proofs.YthackanffcaejaaGreatDoor
open Go Go.RowKit Go.SL Go.ClauseP Go.LexP

theorem run_len {text : List UInt8} {m : MS} {w q : Int} {t : TokR} {r : Ans} (h : MRun text m w q t r) : MInv m → ∀ o, r = .inr o → o.length ≤ 65536 := by
  induction h with
  | err hs => intro _ o e; cases e
  | @done m w q t o hs =>
    intro hi o' e
    injection e with e; subst e
    have h3 : Inv3 m.nds (m.st, m.out, m.opn) := ⟨hi.1, hi.2.1, hi.2.2.1⟩
    have h4 := inner_inv _ _ _ h3
    have h5 := hi.2.2.2
    cases t with
    | mk tk at_ fin =>
      dsimp only at hs
      cases tk with
      | fin =>
        simp only [mstep] at hs
        split at hs
        · generalize innerM m.st m.out m.opn = x at *
          obtain ⟨S, o1, k⟩ := x
          cases S with
          | nil => injection hs with hs; subst hs; have := h4.2.1; simp [sN] at this; omega
          | cons a S => cases hs
        · cases hs
      | op o => simp only [mstep, makesM] at hs; split at hs <;> (try split at hs) <;> cases hs
      | cls =>
        simp only [mstep] at hs; split at hs
        · generalize innerM m.st m.out m.opn = x at hs
          obtain ⟨S, o1, k⟩ := x
          rcases S with _ | ⟨a, S⟩
          · cases hs
          · cases a <;> simp only [closeM] at hs <;> (try split at hs) <;> cases hs
        · cases hs
      | comma =>
        simp only [mstep] at hs; split at hs
        · generalize innerM m.st m.out m.opn = x at hs
          obtain ⟨S, o1, k⟩ := x
          rcases S with _ | ⟨a, S⟩
          · cases hs
          · cases a <;> simp only [commaM] at hs <;> (try split at hs) <;> cases hs
        · split at hs <;> cases hs
      | _ => simp only [mstep, makesM, opensM] at hs <;> (repeat' split at hs) <;> cases hs
  | go hs _ ih => intro hi o e; exact ih (step_inv hi hs) o e
end Go.Proofs.YthackanffcaejaaGreatDoor
end
section
set_option linter.unusedSimpArgs false
set_option linter.unusedVariables false
namespace Go.Proofs.YthackanffcaejaaGreatDoor
open Go Go.RowKit Go.SL Go.ClauseP Go.LexP

def opn1 : Tk → Nat
  | .opn => 1
  | _ => 0
theorem drop40 (l : List UInt8) (n : Nat) : (l.drop n).count 40 ≤ l.count 40 := (List.drop_sublist n l).count_le 40
theorem tokW_opn (w : List UInt8) : tokW w ≠ .opn := by
  unfold tokW
  repeat' split
  all_goals (intro h; cases h)
theorem piece_opn {d : List UInt8} (h : (pieceT d).1 = .opn) : 1 + (d.drop (pieceT d).2).count 40 ≤ d.count 40 := by
  cases d with
  | nil => cases h
  | cons c l =>
    unfold pieceT at h ⊢
    dsimp only at h ⊢
    split at h
    · exact absurd h (tokW_opn _)
    · rename_i h1
      rw [if_neg h1]
      split at h
      · dsimp only at h; split at h <;> cases h
      · rename_i h2
        rw [if_neg h2]
        split at h
        · rename_i s hs
          have hp := List.find?_some hs
          have hm := List.mem_of_find?_eq_some hs
          simp only [signs11, signs10, List.cons_append, List.nil_append, List.mem_cons, List.not_mem_nil, or_false] at hm
          rcases hm with rfl | rfl | rfl | rfl | rfl | rfl | rfl | rfl | rfl | rfl | rfl | rfl | rfl | rfl | rfl | rfl | rfl | rfl | rfl | rfl | rfl <;> first | cases h | skip
          have e : c = 40 := by simp [List.isPrefixOf] at hp; exact hp.symm
          subst e
          simp only [hs, List.length_cons, List.length_nil, List.drop_succ_cons, List.drop_zero, List.count_cons_self]
          omega
        · cases h
theorem next40 (text : List UInt8) (k : Nat) : opn1 (nextT text k).tk + (text.drop (nextT text k).fin).count 40 ≤ (text.drop k).count 40 := by
  obtain ⟨e1, e2⟩ := next_drop text k
  rw [e1, e2]
  generalize text.drop k = s
  have h1 := drop40 s (skipS false s)
  unfold nextS
  generalize s.drop (skipS false s) = d at *
  dsimp only
  have h2 := drop40 d (pieceT d).2
  by_cases h : (pieceT d).1 = .opn
  · have := piece_opn h; rw [h]; show 1 + _ ≤ _; omega
  · have : opn1 (pieceT d).1 = 0 := by
      unfold opn1; split
      · rename_i e; exact absurd e h
      · rfl
    omega
def rf (text : List UInt8) (p : Ps) : Nat := (text.drop p.fin).count 40
def rest (text : List UInt8) (p : Ps) : Nat := opn1 p.tk + rf text p
def isOp (t : Tk) : Prop := ∃ k, t = .op k
def Nxt (text : List UInt8) (p q : Ps) (dn : Nat) : Prop := Ok text q ∧ q.opn = p.opn + dn ∧ rest text q ≤ rf text p
theorem nxt_adv {text : List UInt8} {p q : Ps} (hp : Ok text p) (h : advP text p = .inr q) : Nxt text p q 0 := by
  obtain ⟨h1, h2, h3, _⟩ := advR h
  refine ⟨adv_Ok hp.2.2.2.1 hp.2.1 hp.2.2.1 h, h2, ?_⟩
  have := next40 text p.fin
  rw [← h1] at this
  exact this
theorem nxt_makes {text : List UInt8} {p q : Ps} (hp : Ok text p) (h : thenP (makesP p) (advP text) = .inr q) : Nxt text p q 0 := by
  unfold makesP at h
  by_cases hn : p.nds = 65536
  · rw [if_pos hn] at h; cases h
  · rw [if_neg hn] at h
    exact nxt_adv (p := { p with nds := p.nds + 1 }) ⟨hp.1, hp.2.1, by dsimp only; have := hp.2.2.1; omega, hp.2.2.2⟩ h
theorem nxt_opens {text : List UInt8} {p q : Ps} (hp : Ok text p) (h : thenP (opensP p) (advP text) = .inr q) : Nxt text p q 1 := by
  unfold opensP at h
  by_cases hn : p.opn = 64
  · rw [if_pos hn] at h; cases h
  · rw [if_neg hn] at h
    have := nxt_adv (p := { p with opn := p.opn + 1 }) ⟨hp.1, by dsimp only; have := hp.2.1; omega, hp.2.2.1, hp.2.2.2⟩ h
    exact this
theorem nxt_both {text : List UInt8} {p q : Ps} (hp : Ok text p) (h : thenP (thenP (opensP p) makesP) (advP text) = .inr q) : Nxt text p q 1 := by
  unfold opensP at h
  by_cases hn : p.opn = 64
  · rw [if_pos hn] at h; cases h
  · rw [if_neg hn] at h
    exact nxt_makes (p := { p with opn := p.opn + 1 }) ⟨hp.1, by dsimp only; have := hp.2.1; omega, hp.2.2.1, hp.2.2.2⟩ h
theorem nxt_need {text : List UInt8} {p q : Ps} {k : Int} (hp : Ok text p) (h : needP text k p = .inr q) : Nxt text p q 0 ∧ knd p = k := by
  unfold needP at h
  by_cases hk : knd p = k
  · rw [if_pos hk] at h; exact ⟨nxt_adv hp h, hk⟩
  · rw [if_neg hk] at h; cases h
theorem nxt_ite {text : List UInt8} {p q : Ps} (hp : Ok text p) (h : thenP (thenP (thenP (opensP p) makesP) (advP text)) (needP text 9) = .inr q) : Ok text q ∧ q.opn = p.opn + 1 ∧ 1 + rest text q ≤ rf text p := by
  cases h1 : thenP (thenP (opensP p) makesP) (advP text) with
  | inl e => rw [h1] at h; cases h
  | inr p1 =>
    rw [h1] at h
    obtain ⟨a1, a2, a3⟩ := nxt_both hp h1
    obtain ⟨⟨b1, b2, b3⟩, hk⟩ := nxt_need a1 (show needP text 9 p1 = .inr q from h)
    have ht := (knd_opn a1.1).1 hk
    have e : rest text p1 = 1 + rf text p1 := by unfold rest; rw [ht]; rfl
    refine ⟨b1, by omega, by omega⟩
theorem vars_nxt {text : List UInt8} {p : Ps} {vs : List Int} {r : (Int × Nat) ⊕ (List Int × Ps)} (h : Vars text p vs r) : ∀ vs' q, r = .inr (vs', q) → Ok text p → (∀ v ∈ vs, 0 ≤ v ∧ v < 65536) → vs' ≠ [] ∧ (∀ v ∈ vs', 0 ≤ v ∧ v < 65536) ∧ Ok text q ∧ q.opn + vs.length = p.opn + vs'.length ∧ rest text q ≤ rf text p := by
  induction h with
  | adv ha => intro vs' q e; cases e
  | tok ha hn => intro vs' q e; cases e
  | open_ ha ht hb => intro vs' q e; cases e
  | @more p vs q1 n q2 r ha ht hb hc _ ih =>
    intro vs' q e hp hv
    obtain ⟨a1, a2, a3⟩ := nxt_adv hp ha
    obtain ⟨b1, b2, b3⟩ := nxt_both a1 hb
    have hn : 0 ≤ n ∧ n < 65536 := by have := a1.1; rw [ht] at this; exact this
    obtain ⟨c1, c2, c3, c4, c5⟩ := ih vs' q e b1 (fun v hm => by
      rcases List.mem_append.1 hm with hm | hm
      · exact hv v hm
      · simp at hm; subst hm; exact hn)
    have r1 : rf text q1 ≤ rest text q1 := Nat.le_add_left _ _
    have r2 : rf text q2 ≤ rest text q2 := Nat.le_add_left _ _
    refine ⟨c1, c2, c3, ?_, by omega⟩
    simp only [List.length_append, List.length_cons, List.length_nil] at c4
    omega
  | @done p vs q1 n q2 ha ht hb hc =>
    intro vs' q e hp hv
    obtain ⟨a1, a2, a3⟩ := nxt_adv hp ha
    obtain ⟨b1, b2, b3⟩ := nxt_both a1 hb
    have hn : 0 ≤ n ∧ n < 65536 := by have := a1.1; rw [ht] at this; exact this
    cases hx : needP text 12 q2 with
    | inl x => rw [hx] at e; cases e
    | inr q3 =>
      rw [hx] at e
      injection e with e; injection e with e1 e2
      subst e1; subst e2
      obtain ⟨⟨c1, c2, c3⟩, _⟩ := nxt_need b1 hx
      have r1 : rf text q1 ≤ rest text q1 := Nat.le_add_left _ _
      have r2 : rf text q2 ≤ rest text q2 := Nat.le_add_left _ _
      refine ⟨by simp, fun v hm => ?_, c1, by simp only [List.length_append, List.length_cons, List.length_nil]; omega, by omega⟩
      rcases List.mem_append.1 hm with hm | hm
      · exact hv v hm
      · simp at hm; subst hm; exact hn
theorem quT_ok {op : Int} (ho : op = 4 ∨ op = 5) {x : T} (hx : okT x) : ∀ vs : List Int, (∀ v ∈ vs, 0 ≤ v ∧ v < 65536) → okT (quT op vs x)
  | [], _ => hx
  | v :: vs, h => ⟨ho, (h v (.head _)).1, (h v (.head _)).2, quT_ok ho hx vs fun u hu => h u (.tail _ hu)⟩
theorem quT_look (op : Int) (x : T) : ∀ vs : List Int, (look (quT op vs x)).1 = vs.length + (look x).1
  | [] => by simp [quT]
  | v :: vs => by
    have := quT_look op x vs
    simp only [quT, List.foldr_cons, look, List.length_cons] at this ⊢
    rw [this]; push_cast; omega
theorem quT_B {op : Int} (ho : op = 4 ∨ op = 5) {x : T} (hx : okT x) : ∀ vs : List Int, (∀ v ∈ vs, 0 ≤ v ∧ v < 65536) → nB (quT op vs x) true = nB x true
  | [], _ => rfl
  | v :: vs, h => by
    have := quT_B ho hx vs fun u hu => h u (.tail _ hu)
    rw [← this]
    exact B_qu (quT_ok ho hx (v :: vs) h) true
def St (text : List UInt8) (b : Nat) (p0 : Ps) (x : T) (p : Ps) : Prop :=
  okT x ∧ Ok text p ∧ p.opn = p0.opn ∧ ∀ last, (last = false → isOp p.tk) → (p0.opn : Int) + dp b last x ≤ 64 ∧ cb b last x + rest text p ≤ rest text p0
theorem St.down {text : List UInt8} {b c : Nat} {p0 p : Ps} {x : T} (h : St text c p0 x p) (hb : b ≤ c) : St text b p0 x p := by
  obtain ⟨h1, h2, h3, h4⟩ := h
  refine ⟨h1, h2, h3, fun last hl => ?_⟩
  obtain ⟨k1, k2⟩ := h4 last hl
  have := dp_mono hb last x
  have := cb_mono hb last h1
  omega
def sum3 (rest : List T) : Nat := (rest.map (cb 3 false)).sum
def SI (text : List UInt8) (p0 : Ps) (x : T) (ys : List T) (p : Ps) : Prop :=
  okT x ∧ (∀ y ∈ ys, okT y) ∧ Ok text p ∧ p.opn = p0.opn ∧ (∀ y ∈ ys, (p0.opn : Int) + dp 3 false y ≤ 64) ∧ ∀ last, (last = false → isOp p.tk) → (p0.opn : Int) + dp 3 last x ≤ 64 ∧ sum3 ys + cb 3 last x + rest text p ≤ rest text p0
theorem impT_ok : ∀ (ys : List T) (x : T), okT x → (∀ y ∈ ys, okT y) → okT (impT (x :: ys))
  | [], x, hx, _ => hx
  | y :: ys, x, hx, hy => impT_ok ys (.bin 9 y x) ⟨by omega, by omega, hy y (.head _), hx⟩ fun z hz => hy z (.tail _ hz)
theorem impT_dp (last : Bool) (M : Int) : ∀ (ys : List T) (x : T), okT x → (∀ y ∈ ys, okT y) → (∀ y ∈ ys, dp 3 false y ≤ M) → dp 2 last x ≤ M → dp 2 last (impT (x :: ys)) ≤ M
  | [], x, _, _, _, h => h
  | y :: ys, x, hx, hy, h1, h2 => by
    have hk : okT (.bin 9 y x) := ⟨by omega, by omega, hy y (.head _), hx⟩
    refine impT_dp last M ys (.bin 9 y x) hk (fun z hz => hy z (.tail _ hz)) (fun z hz => h1 z (.tail _ hz)) ?_
    rw [dp_bin hk (by decide)]
    have := h1 y (.head _)
    show max (dp 3 false y) (dp 2 last x) ≤ M
    omega
theorem impT_cb (last : Bool) : ∀ (ys : List T) (x : T), okT x → (∀ y ∈ ys, okT y) → cb 2 last (impT (x :: ys)) = sum3 ys + cb 2 last x
  | [], x, _, _ => by simp [sum3, impT]
  | y :: ys, x, hx, hy => by
    have hk : okT (.bin 9 y x) := ⟨by omega, by omega, hy y (.head _), hx⟩
    have := impT_cb last ys (.bin 9 y x) hk fun z hz => hy z (.tail _ hz)
    show cb 2 last (impT (.bin 9 y x :: ys)) = _
    rw [this, cb_bin hk (by decide)]
    show sum3 ys + (cb 3 false y + cb 2 last x) = _
    simp only [sum3, List.map_cons, List.sum_cons]; omega
def Mo (text : List UInt8) : Tsk → Ps → Rt → Prop
  | _, _, .inl _ => True
  | .lvl b, p, .inr (x, q) => Ok text p → b ≤ 6 → St text b p x q
  | .loop b x, p, .inr (y, q) => b = 1 ∨ b = 3 ∨ b = 4 ∨ b = 5 → ∀ p0, St text b p0 x p → St text b p0 y q
  | .imps xs, p, .inr (y, q) => ∀ x ys p0, xs = x :: ys → SI text p0 x ys p → St text 2 p0 y q
theorem leaf_st {text : List UInt8} {p q : Ps} {x : T} (hx : okT x) (hd : ∀ last, dp 6 last x = 0) (hc : ∀ last, cb 6 last x = 0) (h : Nxt text p q 0) (hp : Ok text p) : St text 6 p x q := by
  obtain ⟨h1, h2, h3⟩ := h
  refine ⟨hx, h1, h2, fun last _ => ?_⟩
  rw [hd, hc]
  have := hp.2.1
  have r1 : rf text p ≤ rest text p := Nat.le_add_left _ _
  exact ⟨by omega, by omega⟩
theorem lvl1_noop {text : List UInt8} {p q : Ps} {x : T} (hp : Ok text p) (h : RD text (.lvl 1) p (.inr (x, q))) : ¬ isOp q.tk := by
  obtain ⟨_, _, pend, o', q', _, h4, _⟩ := law h hp [] [] 0 trivial
  rintro ⟨k, hk⟩
  exact h4.noop k hk
theorem tk_rest {text : List UInt8} {p : Ps} (h : p.tk ≠ .opn) : rest text p = rf text p := by
  unfold rest opn1
  split
  · rename_i e; exact absurd e h
  · omega
theorem read_nest {text : List UInt8} {tsk : Tsk} {p : Ps} {r : Rt} (h : RD text tsk p r) : Mo text tsk p r := by
  induction h with
  | @lvlK b p x q1 r hb _ _ ih1 ih2 =>
    rcases r with e | ⟨y, q⟩
    · trivial
    intro hp h6
    have h1 := ih1 hp (fourC hb)
    exact ih2 hb p (h1.down (by omega))
  | @loopN b x q1 hk => intro hb p0 h; exact h
  | @loopK b x q1 q2 y q3 r hk ha _ _ ih1 ih2 =>
    rcases r with e | ⟨z, q⟩
    · trivial
    intro hb p0 hs
    obtain ⟨s1, s2, s3, s4⟩ := hs
    obtain ⟨a1, a2, a3⟩ := nxt_makes s2 ha
    obtain ⟨t1, t2, t3, t4⟩ := ih1 a1 (fourC hb)
    have ht : q1.tk = .op (oOf b) := (knd_op s2.1 hb).1 hk
    obtain ⟨u1, u2⟩ := s4 false fun _ => ⟨_, ht⟩
    have e := bnd_oOf hb
    have e9 := oOf_ne hb
    have eL : lB (oOf b) = b := by unfold lB; rw [if_neg e9, e]
    have eR : rB (oOf b) = b + 1 := by unfold rB; rw [if_neg e9, e]
    have ho : 6 ≤ oOf b ∧ oOf b ≤ 10 := by have := s2.1; rw [ht] at this; exact this
    have hok : okT (.bin (oOf b) x y) := ⟨ho.1, ho.2, s1, t1⟩
    have r1 : rest text q1 = rf text q1 := tk_rest (by rw [ht]; simp)
    refine ih2 hb p0 ⟨hok, t2, by omega, fun last hl => ?_⟩
    obtain ⟨v1, v2⟩ := t4 last hl
    rw [dp_bin hok (by omega), cb_bin hok (by omega), eL, eR]
    omega
  | @impK p x q1 r _ _ ih1 ih2 =>
    rcases r with e | ⟨y, q⟩
    · trivial
    intro hp h6
    obtain ⟨s1, s2, s3, s4⟩ := ih1 hp (by omega)
    exact ih2 x [] p rfl ⟨s1, fun _ h => (nomatch h), s2, s3, fun _ h => (nomatch h), fun last hl => by
      have := s4 last hl
      simp only [sum3, List.map_nil, List.sum_nil]; omega⟩
  | @impsN xs q1 hk =>
    intro x ys p0 e hs
    subst e
    obtain ⟨s1, s2, s3, s4, s5, s6⟩ := hs
    refine ⟨impT_ok ys x s1 s2, s3, s4, fun last hl => ?_⟩
    obtain ⟨v1, v2⟩ := s6 last hl
    have h1 := dp_mono (b := 2) (c := 3) (by omega) last x
    have h2 := cb_mono (b := 2) (c := 3) (by omega) last s1
    have h3 := impT_dp last (64 - p0.opn) ys x s1 s2 (fun y hy => by have := s5 y hy; omega) (by omega)
    rw [impT_cb last ys x s1 s2]
    omega
  | @impsK xs q1 q2 y q3 r hk ha _ _ ih1 ih2 =>
    rcases r with e | ⟨z, q⟩
    · trivial
    intro x ys p0 e hs
    subst e
    obtain ⟨s1, s2, s3, s4, s5, s6⟩ := hs
    have ht : q1.tk = .op 9 := (knd_imp s3.1).1 hk
    obtain ⟨u1, u2⟩ := s6 false fun _ => ⟨_, ht⟩
    obtain ⟨a1, a2, a3⟩ := nxt_makes s3 ha
    obtain ⟨t1, t2, t3, t4⟩ := ih1 a1 (by omega)
    have r1 : rest text q1 = rf text q1 := tk_rest (by rw [ht]; simp)
    refine ih2 y (x :: ys) p0 rfl ⟨t1, fun z hz => ?_, t2, by omega, fun z hz => ?_, fun last hl => ?_⟩
    · rcases List.mem_cons.1 hz with rfl | hz
      · exact s1
      · exact s2 z hz
    · rcases List.mem_cons.1 hz with rfl | hz
      · exact u1
      · exact s5 z hz
    · obtain ⟨v1, v2⟩ := t4 last hl
      have e : sum3 (x :: ys) = cb 3 false x + sum3 ys := by simp [sum3]
      rw [e]
      omega
  | @notK p q1 x q2 ht ha _ ih =>
    intro hp h6
    obtain ⟨a1, a2, a3⟩ := nxt_both hp ha
    obtain ⟨t1, t2, t3, t4⟩ := ih a1 (by omega)
    refine ⟨t1, ⟨t2.1, by dsimp only; have := t2.2.1; omega, t2.2.2⟩, by dsimp only; omega, fun last hl => ?_⟩
    obtain ⟨v1, v2⟩ := t4 last hl
    have r1 : rest text p = rf text p := tk_rest (by rw [ht]; simp)
    have e : cb 6 last (.neg x) = cb 6 last x := by rw [← B_neg x last]; rfl
    rw [dp_neg, e]
    have r2 : rest text { q2 with opn := q2.opn - 1 } = rest text q2 := rfl
    omega
  | @quK p op vs q1 x q2 ht hv h0 ih =>
    intro hp h6
    obtain ⟨a0, a1, a2, a3, a4⟩ := vars_nxt hv vs q1 rfl hp fun _ h => (nomatch h)
    obtain ⟨t1, t2, t3, t4⟩ := ih a2 (by omega)
    have hno := lvl1_noop a2 h0
    have ho : op = 4 ∨ op = 5 := by have := hp.1; rw [ht] at this; exact this
    have hok := quT_ok ho t1 vs a1
    refine ⟨hok, ⟨t2.1, by dsimp only; have := t2.2.1; omega, t2.2.2⟩, ?_, fun last hl => ?_⟩
    · show q2.opn - vs.length = p.opn
      simp only [List.length_nil] at a3; omega
    have hlast : last = true := by
      cases last with
      | true => rfl
      | false => exact absurd (hl rfl) hno
    subst hlast
    obtain ⟨v1, v2⟩ := t4 true fun h => by cases h
    rw [dp1] at v1
    rw [cb1] at v2
    have e1 : dp 6 true (quT op vs x) = (look (quT op vs x)).1 := by
      cases vs with
      | nil => exact absurd rfl a0
      | cons v vs => rfl
    have e2 : cb 6 true (quT op vs x) = nB (quT op vs x) true := by
      cases vs with
      | nil => exact absurd rfl a0
      | cons v vs => rfl
    rw [e1, e2, quT_look, quT_B ho t1 vs a1]
    have r1 : rest text p = rf text p := tk_rest (by rw [ht]; simp)
    have r2 : rest text { q2 with opn := q2.opn - vs.length } = rest text q2 := rfl
    simp only [List.length_nil] at a3
    omega
  | @cst p n ht =>
    cases ha : thenP (makesP p) (advP text) with
    | inl e => trivial
    | inr q =>
      intro hp h6
      have hn : n = 0 ∨ n = 1 := by have := hp.1; rw [ht] at this; exact this
      exact leaf_st hn (fun last => by cases last <;> rfl) (fun last => by simp [cb, needs, nB, wr_cst]; split <;> decide) (nxt_makes hp ha) hp
  | @var p n ht =>
    cases ha : thenP (makesP p) (advP text) with
    | inl e => trivial
    | inr q =>
      intro hp h6
      have hn : 0 ≤ n ∧ n < 65536 := by have := hp.1; rw [ht] at this; exact this
      exact leaf_st hn (fun last => by cases last <;> rfl) (fun last => by simp [cb, needs, nB, wr_var, no40_itoa n hn.1]) (nxt_makes hp ha) hp
  | @opnK p q1 x q2 ht ha h0 ih =>
    cases hx : needP text 10 q2 with
    | inl e => trivial
    | inr q3 =>
      intro hp h6
      obtain ⟨a1, a2, a3⟩ := nxt_opens hp ha
      obtain ⟨t1, t2, t3, t4⟩ := ih a1 (by omega)
      obtain ⟨⟨b1, b2, b3⟩, _⟩ := nxt_need t2 hx
      obtain ⟨v1, v2⟩ := t4 true fun h => by cases h
      rw [dp1] at v1
      rw [cb1] at v2
      refine ⟨t1, ⟨b1.1, by dsimp only; have := b1.2.1; omega, b1.2.2⟩, by dsimp only; omega, fun last hl => ?_⟩
      have h1 := dp_le 6 last x
      have h2 := cb_le t1 6 last
      have r1 : rest text p = 1 + rf text p := by unfold rest; rw [ht]; rfl
      have r2 : rest text { q3 with opn := q3.opn - 1 } = rest text q3 := rfl
      have r3 : rf text q2 ≤ rest text q2 := Nat.le_add_left _ _
      omega
  | @iteK p q c q1 q2 a q3 q4 b q5 ht ha _ hn1 _ hn2 _ ih1 ih2 ih3 =>
    cases hx : needP text 10 q5 with
    | inl e => trivial
    | inr q6 =>
      intro hp h6
      obtain ⟨a1, a2, a3⟩ := nxt_ite hp ha
      obtain ⟨c1, c2, c3, c4⟩ := ih1 a1 (by omega)
      obtain ⟨⟨b1, b2, b3⟩, _⟩ := nxt_need c2 hn1
      obtain ⟨d1, d2, d3, d4⟩ := ih2 b1 (by omega)
      obtain ⟨⟨e1, e2, e3⟩, _⟩ := nxt_need d2 hn2
      obtain ⟨f1, f2, f3, f4⟩ := ih3 e1 (by omega)
      obtain ⟨⟨g1, g2, g3⟩, _⟩ := nxt_need f2 hx
      obtain ⟨v1, v2⟩ := c4 true fun h => by cases h
      obtain ⟨w1, w2⟩ := d4 true fun h => by cases h
      obtain ⟨z1, z2⟩ := f4 true fun h => by cases h
      rw [dp1] at v1 w1 z1
      rw [cb1] at v2 w2 z2
      have r1 : rest text p = rf text p := tk_rest (by rw [ht]; simp)
      have r2 : rest text { q6 with opn := q6.opn - 1 } = rest text q6 := rfl
      have r3 : rf text q1 ≤ rest text q1 := Nat.le_add_left _ _
      have r4 : rf text q3 ≤ rest text q3 := Nat.le_add_left _ _
      have r5 : rf text q5 ≤ rest text q5 := Nat.le_add_left _ _
      refine ⟨⟨c1, d1, f1⟩, ⟨g1.1, by dsimp only; have := g1.2.1; omega, g1.2.2⟩, by dsimp only; omega, fun last hl => ?_⟩
      have k1 : dp 6 last (.ite c a b) = 1 + max (max (look c).1 (look a).1) (look b).1 := by cases last <;> rfl
      have k2 : cb 6 last (.ite c a b) = 1 + nB c true + nB a true + nB b true := by rw [← B_ite c a b last]; rfl
      rw [k1, k2]
      omega
  | _ => trivial
theorem parse_formed {text : List UInt8} {x : T} (h : ParseR text (.inr x)) : okT x ∧ size x ≤ 65536 ∧ (look x).1 ≤ 64 ∧ (wr x true).count 40 ≤ text.count 40 := by
  have hm := run_len (parse_law h) MInv.start (post x) rfl
  rw [post_len] at hm
  unfold ParseR at h
  cases ha : advP text p00 with
  | inl e => rw [ha] at h; cases h
  | inr p =>
    rw [ha] at h
    obtain ⟨r1, hrd, he⟩ := h
    have hp := adv_Ok (p := p00) (Nat.zero_le _) (Nat.zero_le _) (Nat.zero_le _) ha
    obtain ⟨h1, h2, h3, _⟩ := advR ha
    have h40 := next40 text p00.fin
    rw [← h1] at h40
    rcases r1 with e | ⟨y, q⟩
    · cases he
    · have hxy : x = y := by
        simp only [endR] at he
        split at he
        · cases he
        · injection he
      subst hxy
      obtain ⟨s1, s2, s3, s4⟩ := read_nest hrd hp (by omega)
      obtain ⟨v1, v2⟩ := s4 true fun h => by cases h
      rw [dp1] at v1
      rw [cb1] at v2
      refine ⟨s1, hm, by omega, ?_⟩
      have : rest text p ≤ text.count 40 := h40
      show nB x true ≤ _
      omega
theorem parse_fewest {text : List UInt8} {t x : T} (ht : okT t) (h : ParseR text (.inr x)) (hc : text.count 40 < (wr t true).count 40) : post x ≠ post t := by
  obtain ⟨h1, h2, h3, h4⟩ := parse_formed h
  intro e
  rw [post_inj h1 ht e] at h4
  omega
end Go.Proofs.YthackanffcaejaaGreatDoor
end
section
set_option linter.unusedSimpArgs false
set_option linter.unusedVariables false
namespace Go.Proofs.YthackanffcaejaaGreatDoor
open Go Go.RowKit Go.SL Go.ClauseP Go.LexP

def net1 (c : UInt8) : Int := if c = 40 then 1 else if c = 41 then -1 else 0
def net : List UInt8 → Int
  | [] => 0
  | c :: cs => net1 c + net cs
theorem net_app : ∀ a b : List UInt8, net (a ++ b) = net a + net b
  | [], b => by simp [net]
  | c :: a, b => by simp only [List.cons_append, net, net_app a b]; omega
def Bal (l : List UInt8) : Prop := net l = 0 ∧ ∀ a b, l = a ++ b → 0 ≤ net a
theorem Bal.app {x y : List UInt8} (hx : Bal x) (hy : Bal y) : Bal (x ++ y) := by
  refine ⟨by rw [net_app, hx.1, hy.1]; rfl, fun a b e => ?_⟩
  rcases List.append_eq_append_iff.1 e with ⟨c, rfl, h2⟩ | ⟨c, h1, h2⟩
  · rw [net_app, hx.1]
    have := hy.2 c b h2
    omega
  · exact hx.2 a c h1
theorem bal_plain : ∀ l : List UInt8, (∀ c ∈ l, c ≠ 40 ∧ c ≠ 41) → Bal l
  | l, h => by
    have key : ∀ l : List UInt8, (∀ c ∈ l, c ≠ 40 ∧ c ≠ 41) → net l = 0 := by
      intro l
      induction l with
      | nil => intro _; rfl
      | cons c l ih =>
        intro h
        have h1 := h c (.head _)
        simp only [net, net1, h1.1, h1.2, if_false, ih fun x hx => h x (.tail _ hx)]; rfl
    refine ⟨key l h, fun a b e => ?_⟩
    rw [key a fun c hc => h c (by rw [e]; exact List.mem_append_left _ hc)]; exact Int.le_refl _
theorem Bal.brk {x : List UInt8} (hx : Bal x) : Bal ([40] ++ x ++ [41]) := by
  refine ⟨?_, fun a b e => ?_⟩
  · rw [net_app, net_app, hx.1]; rfl
  · cases a with
    | nil => exact Int.le_refl _
    | cons c a =>
      simp only [List.cons_append, List.nil_append, List.cons.injEq] at e
      obtain ⟨rfl, e⟩ := e
      have h1 : net1 40 = 1 := rfl
      simp only [net, h1]
      rcases List.append_eq_append_iff.1 e with ⟨d, rfl, h2⟩ | ⟨d, h3, h2⟩
      · rw [net_app, hx.1]
        cases d with
        | nil => decide
        | cons y d =>
          simp only [List.cons_append, List.cons.injEq] at h2
          obtain ⟨rfl, h2⟩ := h2
          have : d = [] := (List.append_eq_nil_iff.1 h2.symm).1
          subst this
          decide
      · have := hx.2 a d h3; omega
theorem bal_itoa (v : Int) (h : 0 ≤ v) : Bal (Lib.itoa v) := by
  refine bal_plain _ fun c hc => ?_
  rw [itoa_dec v h] at hc
  have := List.all_eq_true.1 (dec_ok v.toNat).1 c hc
  constructor <;> (intro e; subst e; revert this; decide)
theorem bal_spell (op : Int) : Bal (spellP op) := by
  refine bal_plain _ ?_
  unfold spellP
  repeat' split
  all_goals decide
theorem bal_lit (l : List UInt8) (h : l.all (fun c => c != 40 && c != 41) = true) : Bal l := bal_plain l fun c hc => by
  have := List.all_eq_true.1 h c hc
  simpa using this
theorem bal_opd {x : T} (h : ∀ last, Bal (wr x last)) (op side : Int) (last : Bool) : Bal (opd op side x last) := by
  unfold opd
  split
  · exact (h true).brk
  · exact h last
theorem bal_wr : ∀ t : T, okT t → (∀ last, Bal (wr t last)) ∧ ∀ op, Bal (chain op t)
  | .cst n, h => by
    have h1 : ∀ last, Bal (wr (.cst n) last) := fun last => by rw [wr_cst]; split <;> exact bal_lit _ (by decide)
    exact ⟨h1, fun op => by rw [chain_end rfl]; exact (bal_lit [58, 32] (by decide)).app (h1 true)⟩
  | .var v, h => by
    have h1 : ∀ last, Bal (wr (.var v) last) := fun last => by rw [wr_var]; exact (bal_lit [120] (by decide)).app (bal_itoa v h.1)
    exact ⟨h1, fun op => by rw [chain_end rfl]; exact (bal_lit [58, 32] (by decide)).app (h1 true)⟩
  | .neg a, h => by
    have h1 : ∀ last, Bal (wr (.neg a) last) := fun last => by rw [wr_neg]; exact (bal_lit [33] (by decide)).app (bal_opd (bal_wr a h).1 3 0 last)
    exact ⟨h1, fun op => by rw [chain_end rfl]; exact (bal_lit [58, 32] (by decide)).app (h1 true)⟩
  | .qu op v a, h => by
    have ih := bal_wr a h.2.2.2
    have h1 : ∀ last, Bal (wr (.qu op v a) last) := fun last => by rw [wr_qu]; exact (((bal_spell op).app (bal_lit [120] (by decide))).app (bal_itoa v h.2.1)).app (ih.2 op)
    refine ⟨h1, fun op' => ?_⟩
    by_cases e : op' = op
    · subst e; rw [chain_same]; exact ((bal_lit [44, 32, 120] (by decide)).app (bal_itoa v h.2.1)).app (ih.2 op')
    · rw [chain_end (by simp [isQu]; exact fun x => e x.symm)]; exact (bal_lit [58, 32] (by decide)).app (h1 true)
  | .bin op a b, h => by
    have h1 : ∀ last, Bal (wr (.bin op a b) last) := fun last => by
      rw [wr_bin]; exact ((bal_opd (bal_wr a h.2.2.1).1 op 0 false).app (bal_spell op)).app (bal_opd (bal_wr b h.2.2.2).1 op 1 last)
    exact ⟨h1, fun op => by rw [chain_end rfl]; exact (bal_lit [58, 32] (by decide)).app (h1 true)⟩
  | .ite c a b, h => by
    have h1 : ∀ last, Bal (wr (.ite c a b) last) := fun last => by
      rw [wr_ite]
      have e : [105, 116, 101, 40] ++ wr c true ++ [44, 32] ++ wr a true ++ [44, 32] ++ wr b true ++ [41] = [105, 116, 101] ++ ([40] ++ (wr c true ++ [44, 32] ++ wr a true ++ [44, 32] ++ wr b true) ++ [41]) := by simp
      rw [e]
      exact (bal_lit [105, 116, 101] (by decide)).app (((((bal_wr c h.1).1 true).app (bal_lit [44, 32] (by decide))).app ((bal_wr a h.2.1).1 true)).app (bal_lit [44, 32] (by decide)) |>.app ((bal_wr b h.2.2).1 true)).brk
    exact ⟨h1, fun op => by rw [chain_end rfl]; exact (bal_lit [58, 32] (by decide)).app (h1 true)⟩
def partG : List UInt8 → Int → Nat → Nat
  | [], _, k => k
  | c :: cs, n, k => if c = 40 then partG cs (n + 1) (k + 1) else if c = 41 then (if n - 1 = 0 then k else partG cs (n - 1) (k + 1)) else partG cs n (k + 1)
theorem partG_at : ∀ (cs : List UInt8) (n : Int) (k : Nat), k ≤ partG cs n k ∧ partG cs n k ≤ k + cs.length ∧ (partG cs n k < k + cs.length → cs[partG cs n k - k]? = some 41)
  | [], n, k => by simp [partG]
  | c :: cs, n, k => by
    have up : ∀ m, k ≤ partG cs m (k + 1) ∧ partG cs m (k + 1) ≤ k + (c :: cs).length ∧ (partG cs m (k + 1) < k + (c :: cs).length → (c :: cs)[partG cs m (k + 1) - k]? = some 41) := by
      intro m
      obtain ⟨h1, h2, h3⟩ := partG_at cs m (k + 1)
      refine ⟨by omega, by simp; omega, fun h => ?_⟩
      have h4 := h3 (by simp at h; omega)
      have e : partG cs m (k + 1) - k = (partG cs m (k + 1) - (k + 1)) + 1 := by omega
      rw [e, List.getElem?_cons_succ]; exact h4
    simp only [partG]
    split
    · exact up _
    · split
      · rename_i h41
        split
        · refine ⟨Nat.le_refl _, by omega, fun _ => ?_⟩
          rw [Nat.sub_self, h41]; rfl
        · exact up _
      · exact up _
theorem partG_lt : ∀ (cs : List UInt8) (n : Int) (k : Nat), 1 ≤ n → n + net cs ≤ 0 → partG cs n k < k + cs.length
  | [], n, k, h1, h2 => by simp [net] at h2; omega
  | c :: cs, n, k, h1, h2 => by
    simp only [net, net1] at h2
    simp only [partG, List.length_cons]
    split
    · rename_i h; rw [if_pos h] at h2
      have := partG_lt cs (n + 1) (k + 1) (by omega) (by omega); omega
    · rename_i h
      rw [if_neg h] at h2
      split
      · rename_i h'; rw [if_pos h'] at h2
        split
        · omega
        · have := partG_lt cs (n - 1) (k + 1) (by omega) (by omega); omega
      · rename_i h'; rw [if_neg h'] at h2
        have := partG_lt cs n (k + 1) h1 (by omega); omega
theorem Bal.partner {s : List UInt8} (h : Bal s) {i : Nat} (hi : s[i]? = some 40) : i < partG (s.drop i) 0 i ∧ partG (s.drop i) 0 i < s.length ∧ s[partG (s.drop i) 0 i]? = some 41 := by
  have hlt := (List.getElem?_eq_some_iff.1 hi).1
  obtain ⟨cs, hcs⟩ : ∃ cs, s.drop i = 40 :: cs := by
    rw [List.drop_eq_getElem_cons hlt]
    have := (List.getElem?_eq_some_iff.1 hi).2
    rw [this]; exact ⟨_, rfl⟩
  have hlen : (s.drop i).length = s.length - i := List.length_drop
  rw [hcs, List.length_cons] at hlen
  have hn : net (s.take i) + net (s.drop i) = 0 := by rw [← net_app, List.take_append_drop]; exact h.1
  have hp := h.2 (s.take i) (s.drop i) (List.take_append_drop i s).symm
  rw [hcs] at hn
  have h40 : net1 40 = 1 := rfl
  simp only [net, h40] at hn
  have e : partG (s.drop i) 0 i = partG cs 1 (i + 1) := by rw [hcs]; simp [partG]
  rw [e]
  obtain ⟨h1, h2, h3⟩ := partG_at cs 1 (i + 1)
  have h4 := partG_lt cs 1 (i + 1) (by omega) (by omega)
  have h5 := h3 h4
  refine ⟨by omega, by omega, ?_⟩
  have h6 : (s.drop i)[partG cs 1 (i + 1) - i]? = some 41 := by
    rw [hcs, show partG cs 1 (i + 1) - i = (partG cs 1 (i + 1) - (i + 1)) + 1 by omega, List.getElem?_cons_succ]; exact h5
  rw [List.getElem?_drop] at h6
  rwa [show i + (partG cs 1 (i + 1) - i) = partG cs 1 (i + 1) by omega] at h6
def strip (s : List UInt8) (i k : Nat) : List UInt8 := s.take i ++ (s.take k).drop (i + 1) ++ s.drop (k + 1)
theorem strip_len {s : List UInt8} {i k : Nat} (h1 : i < k) (h2 : k < s.length) : (strip s i k).length + 2 = s.length := by
  simp [strip]; omega
theorem strip_count {s : List UInt8} {i k : Nat} (h0 : s[i]? = some 40) (h1 : i < k) (h2 : k < s.length) : (strip s i k).count 40 < s.count 40 := by
  have e1 : s = s.take i ++ (s.drop i) := (List.take_append_drop i s).symm
  have hlt := (List.getElem?_eq_some_iff.1 h0).1
  have e2 : s.drop i = 40 :: s.drop (i + 1) := by
    rw [List.drop_eq_getElem_cons hlt, (List.getElem?_eq_some_iff.1 h0).2]
  have e3 : s.drop (i + 1) = (s.drop (i + 1)).take (k - (i + 1)) ++ (s.drop (i + 1)).drop (k - (i + 1)) := (List.take_append_drop _ _).symm
  have e4 : (s.drop (i + 1)).drop (k - (i + 1)) = s.drop k := by rw [List.drop_drop]; congr 1; omega
  have e5 : (s.take k).drop (i + 1) = (s.drop (i + 1)).take (k - (i + 1)) := by rw [List.drop_take]
  have e6 : (s.drop (k + 1)).count 40 ≤ (s.drop k).count 40 := by
    have : s.drop (k + 1) = (s.drop k).drop 1 := by rw [List.drop_drop]
    rw [this]; exact drop40 _ _
  have hc : s.count 40 = (s.take i).count 40 + (1 + (((s.drop (i + 1)).take (k - (i + 1))).count 40 + (s.drop k).count 40)) := by
    conv => lhs; rw [e1, List.count_append, e2, List.count_cons_self, e3, List.count_append, e4]
    omega
  unfold strip
  rw [List.count_append, List.count_append, e5]
  omega
end Go.Proofs.YthackanffcaejaaGreatDoor
end
section
set_option linter.unusedSimpArgs false
set_option linter.unusedVariables false
set_option maxRecDepth 20000
namespace Go.Proofs.YthackanffcaejaaGreatDoor
open Go Go.RowKit Go.SL Go.ClauseP Go.LexP

theorem partG_cons {s : List UInt8} {k : Nat} {c : UInt8} (h : s[k]? = some c) (n : Int) : partG (s.drop k) n k = if c = 40 then partG (s.drop (k + 1)) (n + 1) (k + 1) else if c = 41 then (if n - 1 = 0 then k else partG (s.drop (k + 1)) (n - 1) (k + 1)) else partG (s.drop (k + 1)) n (k + 1) := by
  obtain ⟨h1, h2⟩ := List.getElem?_eq_some_iff.1 h
  rw [List.drop_eq_getElem_cons h1, h2]; rfl
set_option maxHeartbeats 2000000 in
theorem partnerC (s : List UInt8) (hl : s.length ≤ 1048576) (i : Nat) (hi : i ≤ s.length) (w0 w : World) (Hs : List HP) (hS : Sat w0 w Hs) :
    Calls Tryz.prog 18 #[.string ⟨s.toArray⟩, .int .i64 i] w fun e w' => e = .returned (.int .i64 (partG (s.drop i) 0 i : Nat)) ∧ Sat w0 w' Hs := by
  obtain ⟨R, hR⟩ : ∃ R, R = partG (s.drop i) 0 i := ⟨_, rfl⟩
  rw [← hR]
  have HR := hid hR.symm
  clear hR
  go_enter Tryz.func18, Tryz.ntmps18
  go_wp2
  go_loopw [5, 6] (fun nv kv wr => ∃ (k : Nat) (n : Int), nv = .int .i64 n ∧ kv = .int .i64 k ∧ k ≤ s.length ∧ -(k : Int) ≤ n ∧ n ≤ k ∧ Hid (partG (s.drop k) n k = R) ∧ i ≤ k ∧ Sat w0 wr Hs) (fun _ kv _ => s.length - (intOf kv).toNat)
  case atStart => exact ⟨i, 0, rfl, rfl, hi, by omega, by omega, HR, Nat.le_refl _, hS⟩
  case round =>
    clear hS
    obtain ⟨k, n, rfl, rfl, hk, hn1, hn2, HQ, hik, hS⟩ := hrel
    by_cases hlt : k < s.length
    · obtain ⟨c, hc⟩ : ∃ c, s[k]? = some c := ⟨_, List.getElem?_eq_getElem hlt⟩
      obtain ⟨hpk, hck⟩ := byteAt s k c hc
      have HP := hid (partG_cons hc n)
      have hkt : (k : Int) < (s.length : Int) := by omega
      have e40 := u8_eq c 40 40 rfl
      have e41 := u8_eq c 41 41 rfl
      clear hc
      by_cases h40 : c = 40
      · rw [show (c == 40) = true by simp [h40]] at e40
        rw [show (c == 41) = false by rw [h40]; rfl] at e41
        have HQ2 : Hid (partG (s.drop (k + 1)) (n + 1) (k + 1) = R) := hid (by have := HP.out; rw [if_pos h40, HQ.out] at this; exact this.symm)
        clear HP HQ h40
        go_wp2
        go_roundw
        case rel => exact ⟨k + 1, n + 1, by go_num, by go_num, by omega, by omega, by omega, HQ2, by omega, hS⟩
        case measure => simp [intOf]; omega
      · rw [show (c == 40) = false by simp [h40]] at e40
        by_cases h41 : c = 41
        · rw [show (c == 41) = true by simp [h41]] at e41
          by_cases hn0 : n - 1 = 0
          · have HQ2 : Hid (k = R) := hid (by have := HP.out; rw [if_neg h40, if_pos h41, if_pos hn0, HQ.out] at this; exact this.symm)
            have e0 : (n - 1 == 0) = true := by simp [hn0]
            clear HP HQ h40 h41
            go_wp2
            go_ret
            exact ⟨by rw [← HQ2.out]; rfl, hS⟩
          · have HQ2 : Hid (partG (s.drop (k + 1)) (n - 1) (k + 1) = R) := hid (by have := HP.out; rw [if_neg h40, if_pos h41, if_neg hn0, HQ.out] at this; exact this.symm)
            have e0 : (n - 1 == 0) = false := by simp [hn0]
            clear HP HQ h40 h41
            go_wp2
            go_roundw
            case rel => exact ⟨k + 1, n - 1, by go_num, by go_num, by omega, by omega, by omega, HQ2, by omega, hS⟩
            case measure => simp [intOf]; omega
        · rw [show (c == 41) = false by simp [h41]] at e41
          have HQ2 : Hid (partG (s.drop (k + 1)) n (k + 1) = R) := hid (by have := HP.out; rw [if_neg h40, if_neg h41, HQ.out] at this; exact this.symm)
          clear HP HQ h40 h41
          go_wp2
          go_roundw
          case rel => exact ⟨k + 1, n, by go_num, by go_num, by omega, by omega, by omega, HQ2, by omega, hS⟩
          case measure => simp [intOf]; omega
    · have HQ2 : Hid (s.length = R) := hid (by have := HQ.out; rw [List.drop_eq_nil_of_le (by omega)] at this; rw [show s.length = k by omega]; exact this)
      clear HQ
      go_wp2
      go_ret
      exact ⟨by rw [← HQ2.out]; rfl, hS⟩
end Go.Proofs.YthackanffcaejaaGreatDoor
end
