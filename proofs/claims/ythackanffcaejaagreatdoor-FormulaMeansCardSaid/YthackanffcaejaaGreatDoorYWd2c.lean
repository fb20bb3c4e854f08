/- The document's truth: the choice. -/
import Derived.Test.YthackanffcaejaaGreatDoorY1
import Derived.Test.YthackanffcaejaaGreatDoorYWd2
set_option linter.unusedSimpArgs false
set_option linter.unusedVariables false
set_option linter.unusedSectionVars false
set_option maxRecDepth 20000
namespace Go.Proofs.YthackanffcaejaaGreatDoor
open Go Go.RowKit Go.SL

section
variable (fs : List (Int × Int)) (fr : List Int)
set_option maxHeartbeats 8000000 in
theorem trIte (c a b : T) (ih0 : TrM fs fr c) (ih1 : TrM fs fr a) (ih2 : TrM fs fr b) : TrM fs fr (.ite c a b) := by
  intro s x p af ar cf cr AF AR l w0 w R hs hb hx hP hS
  obtain ⟨x0, x1, xN, xO, xM, xF, nf, nr⟩ := treeFacts hs hb hx (hP.tail _) hS
  have rf := hP.rf
  have rr := hP.rr
  have mf := hP.mf
  have hnn := hP.hn
  have mr := hP.mr
  have hln := hP.hl
  simp only [rootOp, rootN] at xN xO xM
  simp only [size] at hb hx
  have hpa := size_pos a
  have hpb := size_pos b
  have hpc := size_pos c
  obtain ⟨z, hz⟩ : ∃ z : Int, z = ((s + size c + size a : Nat) : Int) := ⟨_, rfl⟩
  obtain ⟨u, hu⟩ : ∃ u : Int, u = ((s + size c : Nat) : Int) := ⟨_, rfl⟩
  obtain ⟨y0, y1, yN, yO, yM, yF, _, _⟩ := treeFacts (x := x - 1) hs.2.2.1 (by omega) (by omega) (hP.tail _) hS
  rw [← hz] at yF
  obtain ⟨z0, z1, zN, zO, zM, zF, _, _⟩ := treeFacts (x := z - 1) hs.2.1 (by omega) (by omega) (hP.tail _) hS
  rw [← hu] at zF
  have IC := trAt fs fr ih0 (p := p) (cf := cf) (cr := cr) hs.1 (by omega) hP l _ rfl w0 (u - 1) (by omega)
  have IA := trAt fs fr ih1 (p := p) (cf := cf) (cr := cr) hs.2.1 (by omega) hP l _ rfl w0 (z - 1) (by omega)
  have IB := trAt fs fr ih2 (p := p) (cf := cf) (cr := cr) hs.2.2.1 (by omega) hP l _ rfl w0 (x - 1) (by omega)
  have hzr : 1 ≤ z ∧ z ≤ 9000000000 := by have := hP.hn; omega
  have hur : 1 ≤ u ∧ u ≤ 9000000000 := by have := hP.hn; omega
  have hev : evT (.ite c a b) (envD l) = if evT c (envD l) then evT a (envD l) else evT b (envD l) := rfl
  obtain ⟨E, hE⟩ : ∃ E, E = evT (.ite c a b) (envD l) := ⟨_, rfl⟩
  rw [← hE]
  rw [hev] at hE
  clear hev ih0 ih1 ih2
  generalize evT c (envD l) = b0 at *
  generalize evT a (envD l) = b1 at *
  generalize evT b (envD l) = b2 at *
  obtain ⟨PA, PC, hS⟩ := open_wl hS
  have hg0 := Grw.refl l
  clear xF hx hb hs yN yO yM zN zO zM hz hu
  have HE := hid hE
  clear hE
  cases b0
  all_goals
    go_enter Tryz.func57, Tryz.ntmps57
    go_wp2_with (first | ((with_reducible apply arm_load hS); (first | with_reducible exact wanted_none | exact wanted_guard rfl rfl); (first | exact ev_tmp rfl | exact ev_const); (repeat (with_reducible first | exact mem_hd | apply mem_tl)); rfl; decide +kernel; (try simp only [Act.put, q1, q2, q3])) | ((with_reducible apply arm_indexAddr); (first | with_reducible exact wanted_none | exact wanted_guard rfl rfl); (first | exact ev_tmp rfl | exact ev_const); (first | exact ev_tmp rfl | exact ev_const); (with_reducible first | exact E22 | exact E35 | exact E42); (first | omega | (focus (simp; done)) | (simp; omega)); (first | omega | (focus (simp; done)) | (simp; omega)); (first | exact hS.ownNN (by (repeat (with_reducible first | exact mem_hd | apply mem_tl))) (by omega) | exact Sat.rdAd2 (by assumption) hS (by ((repeat (with_reducible first | exact mem_hd | apply mem_tl))); try assumption) (by first | (simp only [Is_length, Bs_length, List.length_take, List.length_drop]; omega) | omega | (simp; omega) | (simp; done)) | assumption); (first | (simp only [Int.toNat_natCast, Nat.mul_one, Nat.zero_add, tn_sub, tn_sub1, tn_sub2, tn_sub3, tn_add, tn_add1, tn_add2]; rfl) | rfl); (try simp only [Act.put, q1, q2, q3])) | ((with_reducible apply arm_fieldAddrE); (first | with_reducible exact wanted_none | exact wanted_guard rfl rfl); (first | exact ev_tmp rfl | exact ev_const); (first | exact hS.ownNN (by (repeat (with_reducible first | exact mem_hd | apply mem_tl))) (by omega) | exact Sat.rdAd2 (by assumption) hS (by ((repeat (with_reducible first | exact mem_hd | apply mem_tl))); try assumption) (by first | (simp only [Is_length, Bs_length, List.length_take, List.length_drop]; omega) | omega | (simp; omega) | (simp; done)) | assumption); (with_reducible first | exact fo50_0 | exact fo50_1 | exact fo109_0 | exact fo109_1 | exact fo109_2); (try simp only [Act.put, q1, q2, q3])) | ((with_reducible apply arm_loadE); (first | with_reducible exact wanted_none | exact wanted_guard rfl rfl); (first | exact ev_tmp rfl | exact ev_const); (first | exact (hS.ownCell (by (repeat (with_reducible first | exact mem_hd | apply mem_tl))) (by (first | assumption | exact Is_at (by assumption) | exact Bs_at (by assumption) | rfl | (simp; done)))).1 | exact Sat.rdCell2 (by assumption) hS (by ((repeat (with_reducible first | exact mem_hd | apply mem_tl))); try assumption) (by (first | assumption | exact Is_at (by assumption) | exact Bs_at (by assumption) | rfl | (simp; done)))); decide +kernel; (try simp only [Act.put, q1, q2, q3])) | ((with_reducible apply arm_loadRN hS); (first | with_reducible exact wanted_none | exact wanted_guard rfl rfl); (first | exact ev_tmp rfl | exact ev_const); assumption; (((repeat (with_reducible first | exact mem_hd | apply mem_tl))); (try assumption)); assumption; rfl; (with_reducible first | exact sz50 | exact sz109); decide +kernel; decide; (try simp only [Act.put, q1, q2, q3])) | ((with_reducible apply arm_alloc hS); (first | with_reducible exact wanted_none | exact wanted_guard rfl rfl); (with_reducible first | exact z22 | exact z35 | exact z42 | exact z50 | exact z109); clear hS; intro NB w hS; (try simp only [Act.put, q1, q2, q3])) | (((with_reducible apply arm_storeN hS); (first | with_reducible exact wanted_none | exact wanted_guard rfl rfl); (first | exact ev_tmp rfl | exact ev_const); (first | exact ev_tmp rfl | exact ev_const); (repeat (with_reducible first | exact mem_hd | apply mem_tl)); rfl; (first | (focus (simp; done)) | (simp; omega) | omega); (repeat (with_reducible first | exact Upd.hd | apply Upd.tl)); rfl; (with_reducible first | exact sz50 | exact sz109); rfl; clear hS; intro w hS; (try simp only [setFrom, q2, q3] at hS); (try simp only [Act.put, q1, q2, q3])); replace hS := mv3 hS) | ((with_reducible apply arm_store hS); (first | with_reducible exact wanted_none | exact wanted_guard rfl rfl); (first | exact ev_tmp rfl | exact ev_const); (first | exact ev_tmp rfl | exact ev_const); (repeat (with_reducible first | exact mem_hd | apply mem_tl)); rfl; (first | (focus (simp; done)) | (simp; omega) | omega); (repeat (with_reducible first | exact Upd.hd | apply Upd.tl)); rfl; decide +kernel; clear hS; intro w hS; (try simp only [q2, q3] at hS); (try simp only [Act.put, q1, q2, q3])) | ((go_at_call 57); (first | ((with_reducible refine (IC _ (by assumption) _ _ (shut_wl rfl hS)).mono ?_); clear IC) | ((with_reducible refine (IA _ (by assumption) _ _ (shut_wl rfl hS)).mono ?_); clear IA) | ((with_reducible refine (IB _ (by assumption) _ _ (shut_wl rfl hS)).mono ?_); clear IB)); clear hS; rintro e w ⟨rfl, l1, hg1, hS⟩; obtain ⟨PA1, PC1, hS⟩ := open_wl hS))
    go_ret
    exact ⟨by rw [HE.out]; rfl, _, hg1, shutw2 rfl hS⟩
end
end Go.Proofs.YthackanffcaejaaGreatDoor
