/- FormulaCnfBack: the law's walk. -/
import Derived.Test.YthackanffcaejaaDoorCnf3
import Derived.Test.YthackanffcaejaaDoorMore
import Derived.Test.YthackanffcaejaaDoorCls
import Derived.Test.YthackanffcaejaaDoorCb1
set_option linter.unusedSimpArgs false
set_option linter.unusedVariables false
set_option linter.unusedSectionVars false
set_option maxRecDepth 20000
namespace Go.Proofs.YthackanffcaejaaDoor
open Go Go.RowKit Go.SL Go.ClauseP

theorem prints_cases (v : Int) (es ls : List Int) : (∃ x : Int, x ≠ 0 ∧ CnfP.prints v es ls = ([], x)) ∨ (∃ t, CnfP.prints v es ls = (t, 0) ∧ t.length ≤ 1048576 ∧ resP t = .inl ⟨v, es, ls⟩) := by
  unfold CnfP.prints
  cases hf : CnfP.formed v es ls with
  | false => exact .inl ⟨134, by omega, by simp⟩
  | true =>
    by_cases h : (CnfP.text v es ls).length > 1048576
    · exact .inl ⟨5, by omega, by simp [h]⟩
    · exact .inr ⟨CnfP.text v es ls, by simp [h], by omega, cnf_back v es ls hf (by omega)⟩
section
variable (v : Int) (es ls : List Int) (hv0 : -9223372036854775808 ≤ v) (hv1 : v ≤ 9223372036854775807) (he : es.length ≤ 17592186044416) (hl : ls.length ≤ 17592186044416)
variable (w : World) {ad1 ad2 : Option Addr} {c1 c2 : Nat} (r1 : Rd (base w) ad1 (Is es)) (r2 : Rd (base w) ad2 (Is ls)) (hlc : ls.length ≤ c2)
variable (ht : Tab w)
include hv0 hv1 he hl r1 r2 hlc ht

set_option maxHeartbeats 2000000 in
theorem backLaw : Calls Tryd.prog 5 #[.agg #[.int .i64 v, .slice ad1 es.length c1, .slice ad2 ls.length c2]] w fun e w' => e = .returned (.bool true) ∧ Sat w w' [base w] := by
  have hS := Sat.start w
  have PE := fun w' Hs hS' (hm : base w ∈ Hs) => printC (c1 := c1) v es ls hv0 hv1 (by omega) (by omega) w w' Hs hS' hm hm r1 r2 hlc hm ht
  have PR := fun w' Hs hS' (hm : base w ∈ Hs) => printR (c1 := c1) v es ls hv0 hv1 (by omega) (by omega) w w' Hs hS' hm hm r1 r2 hlc hm ht
  have P1 : ∀ (w' : World) (R : List HP), Sat w w' R → Calls Tryd.prog 13 #[.string ⟨#[112, 32, 99, 110, 102, 32, 50, 32, 50, 10, 49, 32, 45, 50, 32, 48, 32, 50, 32, 48, 10]⟩] w' (cnfQ w R (.inl ⟨2, [2, 3], [1, -2, 2]⟩)) := fun w' R hS' => by
    have := parseC liveT (by decide) w w' R hS'
    rw [live_is] at this
    exact this
  rcases prints_cases v es ls with ⟨x, hx, hp⟩ | ⟨t, hp, htl, hr⟩
  · rw [hp] at PE PR
    have hx0 : (x != 0) = true := by simp [hx]
    have hxx : (x != x) = false := by simp
    clear hp hx
    go_enter Tryd.func5, Tryd.ntmps5
    go_wp2_with (first | ((with_reducible apply (arm_box hS)); (first | with_reducible exact wanted_none | exact wanted_guard rfl rfl); (first | exact ev_tmp rfl | exact ev_const); (first | with_reducible exact cells_agg | exact cells_one rfl); clear hS; intro NB w hS; (try simp only [Act.put, List.setIfInBounds_toArray, List.set_cons_zero, List.set_cons_succ])) | ((with_reducible apply (arm_alloc hS)); (first | with_reducible exact wanted_none | exact wanted_guard rfl rfl); (first | with_reducible exact z22 | with_reducible exact z24 | with_reducible exact z33); clear hS; intro NB w hS; (try simp only [Act.put, List.setIfInBounds_toArray, List.set_cons_zero, List.set_cons_succ])) | ((with_reducible apply (arm_store hS)); (first | with_reducible exact wanted_none | exact wanted_guard rfl rfl); (first | exact ev_tmp rfl | exact ev_const); (first | exact ev_tmp rfl | exact ev_const); (repeat (first | with_reducible exact mem_hd | with_reducible apply mem_tl)); rfl; (first | (focus (simp; done)) | (simp; omega) | omega); (repeat (first | with_reducible exact Upd.hd | with_reducible apply Upd.tl)); rfl; decide +kernel; clear hS; intro w hS; (try simp only [List.set_cons_zero, List.set_cons_succ] at hS); (try simp only [Act.put, List.setIfInBounds_toArray, List.set_cons_zero, List.set_cons_succ])) | ((with_reducible apply (arm_storeN hS)); (first | with_reducible exact wanted_none | exact wanted_guard rfl rfl); (first | exact ev_tmp rfl | exact ev_const); (first | exact ev_tmp rfl | exact ev_const); (repeat (first | with_reducible exact mem_hd | with_reducible apply mem_tl)); rfl; (first | (focus (simp; done)) | (simp; omega) | omega); (repeat (first | with_reducible exact Upd.hd | with_reducible apply Upd.tl)); rfl; (first | with_reducible exact sz24 | with_reducible exact sz33); rfl; clear hS; intro w hS; (try simp only [setFrom, List.set_cons_zero, List.set_cons_succ] at hS); (try simp only [Act.put, List.setIfInBounds_toArray, List.set_cons_zero, List.set_cons_succ])) | ((with_reducible apply (arm_load hS)); (first | with_reducible exact wanted_none | exact wanted_guard rfl rfl); (first | exact ev_tmp rfl | exact ev_const); (repeat (first | with_reducible exact mem_hd | with_reducible apply mem_tl)); rfl; decide +kernel; (try simp only [Act.put, List.setIfInBounds_toArray, List.set_cons_zero, List.set_cons_succ])) | ((with_reducible apply (arm_loadN hS)); (first | with_reducible exact wanted_none | exact wanted_guard rfl rfl); (first | exact ev_tmp rfl | exact ev_const); (repeat (first | with_reducible exact mem_hd | with_reducible apply mem_tl)); (first | with_reducible exact sz24 | with_reducible exact sz33); decide +kernel; rfl; rfl; (try simp only [Act.put, List.setIfInBounds_toArray, List.set_cons_zero, List.set_cons_succ])) | (go_at_call 13; refine (P1 _ _ hS).mono ?_; clear hS; intro e w hq; obtain ⟨ad3, ad4, c3, c4, rfl, ⟨he', hl'⟩, hS⟩ := cnfQ_inl hq; clear hq) | (go_at_call 10; refine (PR _ _ hS (by (repeat (first | with_reducible exact mem_hd | with_reducible apply mem_tl)))).mono ?_; clear hS; rintro e w ⟨rfl, hS⟩) | (go_at_call 8; refine (PE _ _ hS (by (repeat (first | with_reducible exact mem_hd | with_reducible apply mem_tl)))).mono ?_; clear hS; rintro e w ⟨rfl, hS⟩))
    go_ret
    exact ⟨rfl, hS.sb (by (repeat (first | with_reducible exact Sb.refl | with_reducible exact Sb.nil | (with_reducible refine Sb.take (by (repeat (first | with_reducible exact Rem.hd | with_reducible apply Rem.tl)); done) ?_) | with_reducible apply Sb.skip)))⟩
  · rw [hp] at PE PR
    have P2 := parseC t (by omega) w
    rw [hr] at P2
    clear hp hr
    go_enter Tryd.func5, Tryd.ntmps5
    go_wp2_with (first | ((with_reducible apply (arm_box hS)); (first | with_reducible exact wanted_none | exact wanted_guard rfl rfl); (first | exact ev_tmp rfl | exact ev_const); (first | with_reducible exact cells_agg | exact cells_one rfl); clear hS; intro NB w hS; (try simp only [Act.put, List.setIfInBounds_toArray, List.set_cons_zero, List.set_cons_succ])) | ((with_reducible apply (arm_alloc hS)); (first | with_reducible exact wanted_none | exact wanted_guard rfl rfl); (first | with_reducible exact z22 | with_reducible exact z24 | with_reducible exact z33); clear hS; intro NB w hS; (try simp only [Act.put, List.setIfInBounds_toArray, List.set_cons_zero, List.set_cons_succ])) | ((with_reducible apply (arm_store hS)); (first | with_reducible exact wanted_none | exact wanted_guard rfl rfl); (first | exact ev_tmp rfl | exact ev_const); (first | exact ev_tmp rfl | exact ev_const); (repeat (first | with_reducible exact mem_hd | with_reducible apply mem_tl)); rfl; (first | (focus (simp; done)) | (simp; omega) | omega); (repeat (first | with_reducible exact Upd.hd | with_reducible apply Upd.tl)); rfl; decide +kernel; clear hS; intro w hS; (try simp only [List.set_cons_zero, List.set_cons_succ] at hS); (try simp only [Act.put, List.setIfInBounds_toArray, List.set_cons_zero, List.set_cons_succ])) | ((with_reducible apply (arm_storeN hS)); (first | with_reducible exact wanted_none | exact wanted_guard rfl rfl); (first | exact ev_tmp rfl | exact ev_const); (first | exact ev_tmp rfl | exact ev_const); (repeat (first | with_reducible exact mem_hd | with_reducible apply mem_tl)); rfl; (first | (focus (simp; done)) | (simp; omega) | omega); (repeat (first | with_reducible exact Upd.hd | with_reducible apply Upd.tl)); rfl; (first | with_reducible exact sz24 | with_reducible exact sz33); rfl; clear hS; intro w hS; (try simp only [setFrom, List.set_cons_zero, List.set_cons_succ] at hS); (try simp only [Act.put, List.setIfInBounds_toArray, List.set_cons_zero, List.set_cons_succ])) | ((with_reducible apply (arm_load hS)); (first | with_reducible exact wanted_none | exact wanted_guard rfl rfl); (first | exact ev_tmp rfl | exact ev_const); (repeat (first | with_reducible exact mem_hd | with_reducible apply mem_tl)); rfl; decide +kernel; (try simp only [Act.put, List.setIfInBounds_toArray, List.set_cons_zero, List.set_cons_succ])) | ((with_reducible apply (arm_loadN hS)); (first | with_reducible exact wanted_none | exact wanted_guard rfl rfl); (first | exact ev_tmp rfl | exact ev_const); (repeat (first | with_reducible exact mem_hd | with_reducible apply mem_tl)); (first | with_reducible exact sz24 | with_reducible exact sz33); decide +kernel; rfl; rfl; (try simp only [Act.put, List.setIfInBounds_toArray, List.set_cons_zero, List.set_cons_succ])) | (go_at_call 13; (with_reducible refine (P1 _ _ hS).mono ?_); clear hS; intro e w hq; obtain ⟨ad3, ad4, c3, c4, rfl, ⟨he', hl'⟩, hS⟩ := cnfQ_inl hq; clear hq) | (go_at_call 13; refine (P2 _ _ hS).mono ?_; clear hS; intro e w hq; obtain ⟨ad5, ad6, c5, c6, rfl, ⟨he5, hl5⟩, hS⟩ := cnfQ_inl hq; clear hq) | (go_at_call 10; refine (PR _ _ hS (by (repeat (first | with_reducible exact mem_hd | with_reducible apply mem_tl)))).mono ?_; clear hS; rintro e w ⟨rfl, hS⟩) | (go_at_call 8; refine (PE _ _ hS (by (repeat (first | with_reducible exact mem_hd | with_reducible apply mem_tl)))).mono ?_; clear hS; rintro e w ⟨rfl, hS⟩) | (go_at_call 12; refine (sameCnfE v es ls he5 hl5 _ _ _ hS (A3 := own 3 1 ad5 es.length c5 (Is es)) (A4 := own 3 1 ad6 ls.length c6 (Is ls)) (by (repeat (first | with_reducible exact mem_hd | with_reducible apply mem_tl))) (by (repeat (first | with_reducible exact mem_hd | with_reducible apply mem_tl))) (by (repeat (first | with_reducible exact mem_hd | with_reducible apply mem_tl))) (by (repeat (first | with_reducible exact mem_hd | with_reducible apply mem_tl))) r1 r2 Rd.of_own Rd.of_own).mono ?_; clear hS; rintro e w ⟨rfl, hS⟩))
    go_ret
    exact ⟨rfl, hS.sb (by (repeat (first | with_reducible exact Sb.refl | with_reducible exact Sb.nil | (with_reducible refine Sb.take (by (repeat (first | with_reducible exact Rem.hd | with_reducible apply Rem.tl)); done) ?_) | with_reducible apply Sb.skip)))⟩
end
end Go.Proofs.YthackanffcaejaaDoor
