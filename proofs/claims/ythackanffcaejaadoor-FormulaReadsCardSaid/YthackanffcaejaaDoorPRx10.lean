/- FormulaReads: the law's walk. -/
import Derived.Test.YthackanffcaejaaDoorM1
import Derived.Test.YthackanffcaejaaDoorM19
import Derived.Test.YthackanffcaejaaDoorM20
set_option linter.unusedSimpArgs false
set_option linter.unusedVariables false
set_option maxRecDepth 20000
namespace Go.Proofs.YthackanffcaejaaDoor
open Go Go.RowKit Go.SL Go.ClauseP Go.LexP

set_option maxHeartbeats 4000000 in
theorem readsLong (text : List UInt8) (ht : text.length ≤ 140737488351232) (hlong : 1048576 < text.length) (w : World) : Calls Tryd.prog 7 #[.string ⟨text.toArray⟩] w fun e w' => e = .returned (.bool true) ∧ Sat w w' [base w] := by
  have hS := (Sat.start w).ownNil 77 2
  have PE := fun w1 R h => parseL text ht hlong w w1 R h
  have PD := fun w1 R h => parseDL text ht hlong w w1 R h
  have S0 := fun w1 R h => sameT [] (by simp) none 0 none 0 w w1 R h (A := own 77 2 none 0 0 []) (B := own 77 2 none 0 0 [])
  go_enter Tryd.func7, Tryd.ntmps7
  go_wp2_with (first | ((with_reducible apply arm_alloc hS); (first | with_reducible exact wanted_none | exact wanted_guard rfl rfl); (with_reducible first | exact z31 | exact z33 | exact z37 | exact z77); clear hS; intro NB w hS; (try simp only [Act.put, q1, q2, q3])) | ((with_reducible apply arm_storeN hS); (first | with_reducible exact wanted_none | exact wanted_guard rfl rfl); (first | exact ev_tmp rfl | exact ev_const); (first | exact ev_tmp rfl | exact ev_const); (repeat (with_reducible first | exact mem_hd | apply mem_tl)); rfl; (first | (focus (simp; done)) | (simp; omega) | omega); (repeat (with_reducible first | exact Upd.hd | apply Upd.tl)); rfl; (with_reducible first | exact sz31 | exact sz33 | exact sz77); rfl; clear hS; intro w hS; (try simp only [setFrom, q2, q3] at hS); (try simp only [Act.put, q1, q2, q3])) | ((with_reducible apply arm_load hS); (first | with_reducible exact wanted_none | exact wanted_guard rfl rfl); (first | exact ev_tmp rfl | exact ev_const); (repeat (with_reducible first | exact mem_hd | apply mem_tl)); rfl; decide +kernel; (try simp only [Act.put, q1, q2, q3])) | ((with_reducible apply arm_loadN hS); (first | with_reducible exact wanted_none | exact wanted_guard rfl rfl); (first | exact ev_tmp rfl | exact ev_const); (repeat (with_reducible first | exact mem_hd | apply mem_tl)); (with_reducible first | exact sz31 | exact sz33 | exact sz77); decide +kernel; rfl; rfl; (try simp only [Act.put, q1, q2, q3])) | (go_at_call 23; refine (PE _ _ hS).mono ?_; clear hS; rintro e w ⟨rfl, hS⟩) | (go_at_call 24; refine (PD _ _ hS).mono ?_; clear hS; rintro e w ⟨rfl, hS⟩) | (go_at_call 25; refine (S0 _ _ hS (by (repeat (with_reducible first | exact mem_hd | apply mem_tl))) (by (repeat (with_reducible first | exact mem_hd | apply mem_tl))) Rd.of_own Rd.of_own).mono ?_; clear hS; rintro e w ⟨rfl, hS⟩))
  go_ret
  exact ⟨rfl, hS.sb (by (repeat (first | with_reducible exact Sb.refl | with_reducible exact Sb.nil | (with_reducible refine Sb.take (by (repeat (with_reducible first | exact Rem.hd | apply Rem.tl)); done) ?_) | with_reducible apply Sb.skip)))⟩
set_option maxHeartbeats 4000000 in
theorem readsLaw (text : List UInt8) (ht : text.length ≤ 140737488351232) (w : World) (hSE : SigE w) (hSR : SigR w) : Calls Tryd.prog 7 #[.string ⟨text.toArray⟩] w fun e w' => e = .returned (.bool true) ∧ Sat w w' [base w] := by
  by_cases hlong : 1048576 < text.length
  · exact readsLong text ht hlong w
  have hl : text.length ≤ 1048576 := by omega
  clear hlong
  have hS := (Sat.start w).ownNil 77 2
  have PE := fun w1 R hm h => parseF text hl w w1 hSE R hm h
  have PD := fun w1 R hm h => parseD text hl w w1 hSR R hm h
  go_enter Tryd.func7, Tryd.ntmps7
  go_wp2_with (first | ((with_reducible apply arm_alloc hS); (first | with_reducible exact wanted_none | exact wanted_guard rfl rfl); (with_reducible first | exact z31 | exact z33 | exact z37 | exact z77); clear hS; intro NB w hS; (try simp only [Act.put, q1, q2, q3])))
  refine (PE _ _ (by ((repeat (with_reducible first | exact mem_hd | apply mem_tl)); (try assumption))) hS).mono ?_
  clear hS PE
  rintro e w1 ⟨r, hpr, hq⟩
  have hrun := parse_law hpr
  clear hpr
  generalize ansT r = a at *
  have PD' := fun w1 R hm h => (PD w1 R hm h).mono fun e w' (hx : ∃ r, MRun text m00 0 0 (nextT text 0) r ∧ fnQ text w R e w' r) => (show fnQ text w R e w' a by obtain ⟨r, h1, h2⟩ := hx; rw [hrun.det h1]; exact h2)
  clear PD
  rcases a with ⟨c, p⟩ | out
  · clear hrun
    obtain ⟨rfl, hS⟩ := hq
    simp only [fnQ] at PD'
    generalize spotP text p = sp at *
    obtain ⟨sl, sc⟩ := sp
    dsimp only at PD' ⊢
    have S0 := fun w1 R h => sameT [] (by simp) none 0 none 0 w w1 R h (A := own 77 2 none 0 0 []) (B := own 77 2 none 0 0 [])
    go_wp2_with (first | ((with_reducible apply arm_alloc hS); (first | with_reducible exact wanted_none | exact wanted_guard rfl rfl); (with_reducible first | exact z31 | exact z33 | exact z37 | exact z77); clear hS; intro NB w hS; (try simp only [Act.put, q1, q2, q3])) | ((with_reducible apply arm_storeN hS); (first | with_reducible exact wanted_none | exact wanted_guard rfl rfl); (first | exact ev_tmp rfl | exact ev_const); (first | exact ev_tmp rfl | exact ev_const); (repeat (with_reducible first | exact mem_hd | apply mem_tl)); rfl; (first | (focus (simp; done)) | (simp; omega) | omega); (repeat (with_reducible first | exact Upd.hd | apply Upd.tl)); rfl; (with_reducible first | exact sz31 | exact sz33 | exact sz77); rfl; clear hS; intro w hS; (try simp only [setFrom, q2, q3] at hS); (try simp only [Act.put, q1, q2, q3])) | ((with_reducible apply arm_load hS); (first | with_reducible exact wanted_none | exact wanted_guard rfl rfl); (first | exact ev_tmp rfl | exact ev_const); (repeat (with_reducible first | exact mem_hd | apply mem_tl)); rfl; decide +kernel; (try simp only [Act.put, q1, q2, q3])) | ((with_reducible apply arm_loadN hS); (first | with_reducible exact wanted_none | exact wanted_guard rfl rfl); (first | exact ev_tmp rfl | exact ev_const); (repeat (with_reducible first | exact mem_hd | apply mem_tl)); (with_reducible first | exact sz31 | exact sz33 | exact sz77); decide +kernel; rfl; rfl; (try simp only [Act.put, q1, q2, q3])) | (go_at_call 24; refine (PD' _ _ (by ((repeat (with_reducible first | exact mem_hd | apply mem_tl)); (try assumption))) hS).mono ?_; clear hS; rintro e w ⟨rfl, hS⟩) | (go_at_call 25; refine (S0 _ _ hS (by (repeat (with_reducible first | exact mem_hd | apply mem_tl))) (by (repeat (with_reducible first | exact mem_hd | apply mem_tl))) Rd.of_own Rd.of_own).mono ?_; clear hS; rintro e w ⟨rfl, hS⟩))
    go_ret
    exact ⟨rfl, hS.sb (by (repeat (first | with_reducible exact Sb.refl | with_reducible exact Sb.nil | (with_reducible refine Sb.take (by (repeat (with_reducible first | exact Rem.hd | apply Rem.tl)); done) ?_) | with_reducible apply Sb.skip)))⟩
  · have hol : out.length ≤ 8796093022200 := by have := run_len hrun MInv.start out rfl; omega
    clear hrun
    obtain ⟨ad, cap, rfl, hS⟩ := hq
    simp only [fnQ] at PD'
    have SM := fun ad2 cap2 w1 R h => sameT out hol ad cap ad2 cap2 w w1 R h (A := own 77 2 ad out.length cap (Fs out)) (B := own 77 2 ad2 out.length cap2 (Fs out))
    go_wp2_with (first | ((with_reducible apply arm_alloc hS); (first | with_reducible exact wanted_none | exact wanted_guard rfl rfl); (with_reducible first | exact z31 | exact z33 | exact z37 | exact z77); clear hS; intro NB w hS; (try simp only [Act.put, q1, q2, q3])) | ((with_reducible apply arm_storeN hS); (first | with_reducible exact wanted_none | exact wanted_guard rfl rfl); (first | exact ev_tmp rfl | exact ev_const); (first | exact ev_tmp rfl | exact ev_const); (repeat (with_reducible first | exact mem_hd | apply mem_tl)); rfl; (first | (focus (simp; done)) | (simp; omega) | omega); (repeat (with_reducible first | exact Upd.hd | apply Upd.tl)); rfl; (with_reducible first | exact sz31 | exact sz33 | exact sz77); rfl; clear hS; intro w hS; (try simp only [setFrom, q2, q3] at hS); (try simp only [Act.put, q1, q2, q3])) | ((with_reducible apply arm_load hS); (first | with_reducible exact wanted_none | exact wanted_guard rfl rfl); (first | exact ev_tmp rfl | exact ev_const); (repeat (with_reducible first | exact mem_hd | apply mem_tl)); rfl; decide +kernel; (try simp only [Act.put, q1, q2, q3])) | ((with_reducible apply arm_loadN hS); (first | with_reducible exact wanted_none | exact wanted_guard rfl rfl); (first | exact ev_tmp rfl | exact ev_const); (repeat (with_reducible first | exact mem_hd | apply mem_tl)); (with_reducible first | exact sz31 | exact sz33 | exact sz77); decide +kernel; rfl; rfl; (try simp only [Act.put, q1, q2, q3])) | (go_at_call 24; refine (PD' _ _ (by ((repeat (with_reducible first | exact mem_hd | apply mem_tl)); (try assumption))) hS).mono ?_; clear hS; rintro e w ⟨ad2, cap2, rfl, hS⟩) | (go_at_call 25; refine (SM _ _ _ _ hS (by (repeat (with_reducible first | exact mem_hd | apply mem_tl))) (by (repeat (with_reducible first | exact mem_hd | apply mem_tl))) Rd.of_own Rd.of_own).mono ?_; clear hS; rintro e w ⟨rfl, hS⟩))
    go_ret
    exact ⟨rfl, hS.sb (by (repeat (first | with_reducible exact Sb.refl | with_reducible exact Sb.nil | (with_reducible refine Sb.take (by (repeat (with_reducible first | exact Rem.hd | apply Rem.tl)); done) ?_) | with_reducible apply Sb.skip)))⟩
end Go.Proofs.YthackanffcaejaaDoor
