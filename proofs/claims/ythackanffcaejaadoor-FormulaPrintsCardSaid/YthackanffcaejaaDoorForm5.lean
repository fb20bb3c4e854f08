/- Package formula: the makers of nodes. -/
import Derived.Test.YthackanffcaejaaDoorForm4
set_option linter.unusedSimpArgs false
set_option linter.unusedVariables false
set_option linter.unusedSectionVars false
set_option maxRecDepth 20000
namespace Go.Proofs.YthackanffcaejaaDoor
open Go Go.RowKit Go.SL

theorem InT.form {H : Hp} {t : T} {v : Value} (h : InT H t v) : ∃ K b, v = .iface K (.pointer (some ⟨b, 0, none⟩)) := by
  obtain ⟨K, S, cs, _, ⟨b, rfl, _⟩, _⟩ := h.head; exact ⟨K, b, rfl⟩
theorem notM (a : T) (ha : opsOk a) (hsz : size a ≤ 1000000) (va : Value) (H : Hp) (hT : InT H a va) (w0 w : World) (R : List HP) (hS : Sat w0 w (fz H :: R)) :
    Calls Tryd.prog 71 #[va] w fun e w' => ∃ v, e = .returned v ∧ ∃ H', Ext H H' ∧ InT H' (.neg a) v ∧ Sat w0 w' (fz H' :: R) := by
  obtain ⟨l1, l2, l3, l4⟩ := look_le a
  obtain ⟨Ka, ba, rfl⟩ := hT.form
  have C1 := counts 3 0 (by unfold i64; omega) a ha hsz true _ H hT
  have C2 := counts 3 0 (by unfold i64; omega) a ha hsz false _ H hT
  have b1 := cnt_le (op := 3) (side := 0) (x := a) (last := true) (lk := look a) (n := 2 * size a) l1 (by omega) l3 (by omega)
  have b2 := cnt_le (op := 3) (side := 0) (x := a) (last := false) (lk := look a) (n := 2 * size a) l1 (by omega) l3 (by omega)
  have e1 : (look (.neg a)).1 = 1 + cnt 3 0 a true (look a) := rfl
  have e2 : (look (.neg a)).2 = 1 + cnt 3 0 a false (look a) := rfl
  generalize cnt 3 0 a true (look a) = n1 at *
  generalize cnt 3 0 a false (look a) = n2 at *
  have E1 := hid e1
  have E2 := hid e2
  clear e1 e2
  go_enter Tryd.func71, Tryd.ntmps71
  go_wp2_with (first | (go_at_call 100; (first | with_reducible refine (C1 _ _ _ hS (by ((repeat (first | with_reducible exact mem_hd | with_reducible apply mem_tl)); (try assumption)))).mono ?_ | with_reducible refine (C2 _ _ _ hS (by ((repeat (first | with_reducible exact mem_hd | with_reducible apply mem_tl)); (try assumption)))).mono ?_); clear hS; rintro e w ⟨rfl, hS⟩) | ((with_reducible apply (arm_box hS)); (first | with_reducible exact wanted_none | exact wanted_guard rfl rfl); (first | exact ev_tmp rfl | exact ev_const); (first | with_reducible exact cells_agg | exact cells_one rfl); clear hS; intro NB w hS; (try simp only [Act.put, List.setIfInBounds_toArray, List.set_cons_zero, List.set_cons_succ])))
  go_ret
  rw [← E1.out, ← E2.out] at hS
  obtain ⟨H', x1, x2, hS⟩ := hS.fzBlk
  exact ⟨_, rfl, H', x1, ⟨_, hT.ext x1, _, rfl, x2⟩, hS⟩
theorem quantifyM (op n : Int) (a : T) (hsz : size a ≤ 1000000) (va : Value) (H : Hp) (hT : InT H a va) (w0 w : World) (R : List HP) (hS : Sat w0 w (fz H :: R)) :
    Calls Tryd.prog 72 #[.int .i64 op, .int .i64 n, va] w fun e w' => ∃ v, e = .returned v ∧ ∃ H', Ext H H' ∧ InT H' (.qu op n a) v ∧ Sat w0 w' (fz H' :: R) := by
  obtain ⟨l1, l2, l3, l4⟩ := look_le a
  obtain ⟨Ka, ba, rfl⟩ := hT.form
  have e1 : (look (.qu op n a)).1 = 1 + (look a).1 := rfl
  have e2 : (look (.qu op n a)).2 = 1 + (look a).1 := rfl
  have E1 := hid e1
  have E2 := hid e2
  clear e1 e2
  go_enter Tryd.func72, Tryd.ntmps72
  go_wp2_with (first | ((with_reducible apply (arm_look hS)); rfl; (first | exact ev_tmp rfl | exact ev_const); assumption; (repeat (first | with_reducible exact mem_hd | with_reducible apply mem_tl)); clear hS; intro w hS; (try simp only [Act.put, List.setIfInBounds_toArray, List.set_cons_zero, List.set_cons_succ])) | ((with_reducible apply arm_field1); (first | with_reducible exact wanted_none | exact wanted_guard rfl rfl); (first | exact ev_tmp rfl | exact ev_const); (first | with_reducible exact fc7_0 | with_reducible exact fc7_1 | with_reducible exact fc7_2 | with_reducible exact fc7_3 | with_reducible exact fc8_0 | with_reducible exact fc8_1 | with_reducible exact fc8_2 | with_reducible exact fc8_3 | with_reducible exact fc13_0 | with_reducible exact fc13_1 | with_reducible exact fc14_0 | with_reducible exact fc14_1 | with_reducible exact fc18_0 | with_reducible exact fc19_0 | with_reducible exact fc23_0 | with_reducible exact fc23_1 | with_reducible exact fc23_2 | with_reducible exact fc24_0 | with_reducible exact fc24_1 | with_reducible exact fc24_2 | with_reducible exact fc30_0 | with_reducible exact fc30_1 | with_reducible exact fc31_0 | with_reducible exact fc31_1 | with_reducible exact fc32_0 | with_reducible exact fc33_0 | with_reducible exact fc48_0 | with_reducible exact fc48_1 | with_reducible exact fc49_0 | with_reducible exact fc49_1 | with_reducible exact fc72_0 | with_reducible exact fc72_1 | with_reducible exact fc72_2 | with_reducible exact fc73_0 | with_reducible exact fc73_1 | with_reducible exact fc73_2 | with_reducible exact fc76_0 | with_reducible exact fc76_1 | with_reducible exact fc77_0 | with_reducible exact fc77_1 | with_reducible exact fc85_0 | with_reducible exact fc85_1 | with_reducible exact fc85_2 | with_reducible exact fc85_3 | with_reducible exact fc85_4 | with_reducible exact fc86_0 | with_reducible exact fc86_1 | with_reducible exact fc86_2 | with_reducible exact fc86_3 | with_reducible exact fc86_4 | with_reducible exact fc88_0 | with_reducible exact fc88_1 | with_reducible exact fc88_2 | with_reducible exact fc88_3 | with_reducible exact fc89_0 | with_reducible exact fc89_1 | with_reducible exact fc89_2 | with_reducible exact fc89_3 | with_reducible exact fc90_0 | with_reducible exact fc90_2 | with_reducible exact fc90_3 | with_reducible exact fc90_4 | with_reducible exact fc90_5 | with_reducible exact fc90_6 | with_reducible exact fc91_0 | with_reducible exact fc91_2 | with_reducible exact fc91_3 | with_reducible exact fc91_4 | with_reducible exact fc91_5 | with_reducible exact fc91_6 | with_reducible exact fc97_0 | with_reducible exact fc97_1 | with_reducible exact fc97_2 | with_reducible exact fc97_3 | with_reducible exact fc98_0 | with_reducible exact fc98_1 | with_reducible exact fc98_2 | with_reducible exact fc98_3 | with_reducible exact fc99_0 | with_reducible exact fc99_1 | with_reducible exact fc99_2 | with_reducible exact fc99_3 | with_reducible exact fc100_0 | with_reducible exact fc100_1 | with_reducible exact fc100_2 | with_reducible exact fc100_3 | with_reducible exact fc105_0 | with_reducible exact fc105_1 | with_reducible exact fc105_2 | with_reducible exact fc106_0 | with_reducible exact fc106_1 | with_reducible exact fc106_2 | with_reducible exact fc116_0 | with_reducible exact fc116_1 | with_reducible exact fc117_0 | with_reducible exact fc117_1 | with_reducible exact fc124_0 | with_reducible exact fc124_1 | with_reducible exact fc125_0 | with_reducible exact fc125_1 | with_reducible exact fc126_1 | with_reducible exact fc127_1 | with_reducible exact fc129_1 | with_reducible exact fc130_1 | with_reducible exact fc140_1 | with_reducible exact fc141_1 | with_reducible exact fc143_1 | with_reducible exact fc143_2 | with_reducible exact fc143_3 | with_reducible exact fc144_1 | with_reducible exact fc144_2 | with_reducible exact fc144_3 | with_reducible exact fc147_1 | with_reducible exact fc147_2 | with_reducible exact fc147_3 | with_reducible exact fc148_1 | with_reducible exact fc148_2 | with_reducible exact fc148_3 | with_reducible exact fc150_1 | with_reducible exact fc150_2 | with_reducible exact fc150_3 | with_reducible exact fc151_1 | with_reducible exact fc151_2 | with_reducible exact fc151_3 | with_reducible exact fc161_0 | with_reducible exact fc161_1 | with_reducible exact fc161_2 | with_reducible exact fc187_0 | with_reducible exact fc187_1 | with_reducible exact fc206_0 | with_reducible exact fc206_1 | with_reducible exact fc207_0 | with_reducible exact fc207_1 | with_reducible exact fc212_0 | with_reducible exact fc212_1 | with_reducible exact fc212_2 | with_reducible exact fc212_3 | with_reducible exact fc213_0 | with_reducible exact fc213_1 | with_reducible exact fc213_2 | with_reducible exact fc213_3 | with_reducible exact fc222_0 | with_reducible exact fc222_1 | with_reducible exact fc222_2 | with_reducible exact fc222_3 | with_reducible exact fc222_4 | with_reducible exact fc222_5 | with_reducible exact fc222_6 | with_reducible exact fc222_7 | with_reducible exact fc222_8 | with_reducible exact fc222_9 | with_reducible exact fc222_10 | with_reducible exact fc223_0 | with_reducible exact fc223_1 | with_reducible exact fc223_2 | with_reducible exact fc223_3 | with_reducible exact fc223_4 | with_reducible exact fc223_5 | with_reducible exact fc223_6 | with_reducible exact fc223_7 | with_reducible exact fc223_8 | with_reducible exact fc223_9 | with_reducible exact fc223_10); rfl; (try simp only [Act.put, List.setIfInBounds_toArray, List.set_cons_zero, List.set_cons_succ])) | ((with_reducible apply (arm_box hS)); (first | with_reducible exact wanted_none | exact wanted_guard rfl rfl); (first | exact ev_tmp rfl | exact ev_const); (first | with_reducible exact cells_agg | exact cells_one rfl); clear hS; intro NB w hS; (try simp only [Act.put, List.setIfInBounds_toArray, List.set_cons_zero, List.set_cons_succ])))
  go_ret
  rw [show Value.int .i64 (1 + (look a).1) = .int .i64 (look (.qu op n a)).1 by rw [E1.out]] at hS
  obtain ⟨H', x1, x2, hS⟩ := hS.fzBlk
  exact ⟨_, rfl, H', x1, ⟨_, hT.ext x1, _, rfl, by rw [E2.out, ← E1.out]; exact x2⟩, hS⟩
theorem joinM (op : Int) (hop : i64 op) (a b : T) (ha : opsOk a) (hb : opsOk b) (hsz : size a ≤ 1000000) (hsz2 : size b ≤ 1000000) (va vb : Value) (H : Hp) (hT : InT H a va) (hT2 : InT H b vb) (w0 w : World) (R : List HP) (hS : Sat w0 w (fz H :: R)) :
    Calls Tryd.prog 73 #[.int .i64 op, va, vb] w fun e w' => ∃ v, e = .returned v ∧ ∃ H', Ext H H' ∧ InT H' (.bin op a b) v ∧ Sat w0 w' (fz H' :: R) := by
  obtain ⟨l1, l2, l3, l4⟩ := look_le a
  obtain ⟨m1, m2, m3, m4⟩ := look_le b
  obtain ⟨Ka, ba, rfl⟩ := hT.form
  obtain ⟨Kb, bb, rfl⟩ := hT2.form
  have C1 := counts op 0 hop a ha hsz false _ H hT
  have C2 := counts op 1 hop b hb hsz2 true _ H hT2
  have C3 := counts op 1 hop b hb hsz2 false _ H hT2
  have b1 := cnt_le (op := op) (side := 0) (x := a) (last := false) (lk := look a) (n := 2 * size a) l1 (by omega) l3 (by omega)
  have b2 := cnt_le (op := op) (side := 1) (x := b) (last := true) (lk := look b) (n := 2 * size b) m1 (by omega) m3 (by omega)
  have b3 := cnt_le (op := op) (side := 1) (x := b) (last := false) (lk := look b) (n := 2 * size b) m1 (by omega) m3 (by omega)
  have e1 : (look (.bin op a b)).1 = max (cnt op 0 a false (look a)) (cnt op 1 b true (look b)) := rfl
  have e2 : (look (.bin op a b)).2 = max (cnt op 0 a false (look a)) (cnt op 1 b false (look b)) := rfl
  generalize cnt op 0 a false (look a) = n1 at *
  generalize cnt op 1 b true (look b) = n2 at *
  generalize cnt op 1 b false (look b) = n3 at *
  have E1 := hid e1
  have E2 := hid e2
  clear e1 e2
  go_enter Tryd.func73, Tryd.ntmps73
  go_wp2_with (first | (go_at_call 100; (first | with_reducible refine (C1 _ _ _ hS (by ((repeat (first | with_reducible exact mem_hd | with_reducible apply mem_tl)); (try assumption)))).mono ?_ | with_reducible refine (C2 _ _ _ hS (by ((repeat (first | with_reducible exact mem_hd | with_reducible apply mem_tl)); (try assumption)))).mono ?_ | with_reducible refine (C3 _ _ _ hS (by ((repeat (first | with_reducible exact mem_hd | with_reducible apply mem_tl)); (try assumption)))).mono ?_); clear hS; rintro e w ⟨rfl, hS⟩) | ((with_reducible apply (arm_box hS)); (first | with_reducible exact wanted_none | exact wanted_guard rfl rfl); (first | exact ev_tmp rfl | exact ev_const); (first | with_reducible exact cells_agg | exact cells_one rfl); clear hS; intro NB w hS; (try simp only [Act.put, List.setIfInBounds_toArray, List.set_cons_zero, List.set_cons_succ])))
  go_ret
  rw [← E1.out, ← E2.out] at hS
  obtain ⟨H', x1, x2, hS⟩ := hS.fzBlk
  exact ⟨_, rfl, H', x1, ⟨_, _, hT.ext x1, hT2.ext x1, _, rfl, x2⟩, hS⟩
theorem iteM (c a b : T) (hsz0 : size c ≤ 1000000) (hsz : size a ≤ 1000000) (hsz2 : size b ≤ 1000000) (vc va vb : Value) (H : Hp) (hT0 : InT H c vc) (hT : InT H a va) (hT2 : InT H b vb) (w0 w : World) (R : List HP) (hS : Sat w0 w (fz H :: R)) :
    Calls Tryd.prog 74 #[vc, va, vb] w fun e w' => ∃ v, e = .returned v ∧ ∃ H', Ext H H' ∧ InT H' (.ite c a b) v ∧ Sat w0 w' (fz H' :: R) := by
  obtain ⟨k1, k2, k3, k4⟩ := look_le c
  obtain ⟨l1, l2, l3, l4⟩ := look_le a
  obtain ⟨m1, m2, m3, m4⟩ := look_le b
  obtain ⟨Kc, bc, rfl⟩ := hT0.form
  obtain ⟨Ka, ba, rfl⟩ := hT.form
  obtain ⟨Kb, bb, rfl⟩ := hT2.form
  have e1 : (look (.ite c a b)).1 = 1 + max (max (look c).1 (look a).1) (look b).1 := rfl
  have e2 : (look (.ite c a b)).2 = 1 + max (max (look c).1 (look a).1) (look b).1 := rfl
  have hmx : 0 ≤ max (max (look c).1 (look a).1) (look b).1 ∧ max (max (look c).1 (look a).1) (look b).1 ≤ 2000000 := by omega
  have E1 := hid e1
  have E2 := hid e2
  clear e1 e2
  go_enter Tryd.func74, Tryd.ntmps74
  go_wp2_with (first | ((with_reducible apply (arm_look hS)); rfl; (first | exact ev_tmp rfl | exact ev_const); (first | exact hT0 | exact hT | exact hT2); (repeat (first | with_reducible exact mem_hd | with_reducible apply mem_tl)); clear hS; intro w hS; (try simp only [Act.put, List.setIfInBounds_toArray, List.set_cons_zero, List.set_cons_succ])) | ((with_reducible apply arm_field1); (first | with_reducible exact wanted_none | exact wanted_guard rfl rfl); (first | exact ev_tmp rfl | exact ev_const); (first | with_reducible exact fc7_0 | with_reducible exact fc7_1 | with_reducible exact fc7_2 | with_reducible exact fc7_3 | with_reducible exact fc8_0 | with_reducible exact fc8_1 | with_reducible exact fc8_2 | with_reducible exact fc8_3 | with_reducible exact fc13_0 | with_reducible exact fc13_1 | with_reducible exact fc14_0 | with_reducible exact fc14_1 | with_reducible exact fc18_0 | with_reducible exact fc19_0 | with_reducible exact fc23_0 | with_reducible exact fc23_1 | with_reducible exact fc23_2 | with_reducible exact fc24_0 | with_reducible exact fc24_1 | with_reducible exact fc24_2 | with_reducible exact fc30_0 | with_reducible exact fc30_1 | with_reducible exact fc31_0 | with_reducible exact fc31_1 | with_reducible exact fc32_0 | with_reducible exact fc33_0 | with_reducible exact fc48_0 | with_reducible exact fc48_1 | with_reducible exact fc49_0 | with_reducible exact fc49_1 | with_reducible exact fc72_0 | with_reducible exact fc72_1 | with_reducible exact fc72_2 | with_reducible exact fc73_0 | with_reducible exact fc73_1 | with_reducible exact fc73_2 | with_reducible exact fc76_0 | with_reducible exact fc76_1 | with_reducible exact fc77_0 | with_reducible exact fc77_1 | with_reducible exact fc85_0 | with_reducible exact fc85_1 | with_reducible exact fc85_2 | with_reducible exact fc85_3 | with_reducible exact fc85_4 | with_reducible exact fc86_0 | with_reducible exact fc86_1 | with_reducible exact fc86_2 | with_reducible exact fc86_3 | with_reducible exact fc86_4 | with_reducible exact fc88_0 | with_reducible exact fc88_1 | with_reducible exact fc88_2 | with_reducible exact fc88_3 | with_reducible exact fc89_0 | with_reducible exact fc89_1 | with_reducible exact fc89_2 | with_reducible exact fc89_3 | with_reducible exact fc90_0 | with_reducible exact fc90_2 | with_reducible exact fc90_3 | with_reducible exact fc90_4 | with_reducible exact fc90_5 | with_reducible exact fc90_6 | with_reducible exact fc91_0 | with_reducible exact fc91_2 | with_reducible exact fc91_3 | with_reducible exact fc91_4 | with_reducible exact fc91_5 | with_reducible exact fc91_6 | with_reducible exact fc97_0 | with_reducible exact fc97_1 | with_reducible exact fc97_2 | with_reducible exact fc97_3 | with_reducible exact fc98_0 | with_reducible exact fc98_1 | with_reducible exact fc98_2 | with_reducible exact fc98_3 | with_reducible exact fc99_0 | with_reducible exact fc99_1 | with_reducible exact fc99_2 | with_reducible exact fc99_3 | with_reducible exact fc100_0 | with_reducible exact fc100_1 | with_reducible exact fc100_2 | with_reducible exact fc100_3 | with_reducible exact fc105_0 | with_reducible exact fc105_1 | with_reducible exact fc105_2 | with_reducible exact fc106_0 | with_reducible exact fc106_1 | with_reducible exact fc106_2 | with_reducible exact fc116_0 | with_reducible exact fc116_1 | with_reducible exact fc117_0 | with_reducible exact fc117_1 | with_reducible exact fc124_0 | with_reducible exact fc124_1 | with_reducible exact fc125_0 | with_reducible exact fc125_1 | with_reducible exact fc126_1 | with_reducible exact fc127_1 | with_reducible exact fc129_1 | with_reducible exact fc130_1 | with_reducible exact fc140_1 | with_reducible exact fc141_1 | with_reducible exact fc143_1 | with_reducible exact fc143_2 | with_reducible exact fc143_3 | with_reducible exact fc144_1 | with_reducible exact fc144_2 | with_reducible exact fc144_3 | with_reducible exact fc147_1 | with_reducible exact fc147_2 | with_reducible exact fc147_3 | with_reducible exact fc148_1 | with_reducible exact fc148_2 | with_reducible exact fc148_3 | with_reducible exact fc150_1 | with_reducible exact fc150_2 | with_reducible exact fc150_3 | with_reducible exact fc151_1 | with_reducible exact fc151_2 | with_reducible exact fc151_3 | with_reducible exact fc161_0 | with_reducible exact fc161_1 | with_reducible exact fc161_2 | with_reducible exact fc187_0 | with_reducible exact fc187_1 | with_reducible exact fc206_0 | with_reducible exact fc206_1 | with_reducible exact fc207_0 | with_reducible exact fc207_1 | with_reducible exact fc212_0 | with_reducible exact fc212_1 | with_reducible exact fc212_2 | with_reducible exact fc212_3 | with_reducible exact fc213_0 | with_reducible exact fc213_1 | with_reducible exact fc213_2 | with_reducible exact fc213_3 | with_reducible exact fc222_0 | with_reducible exact fc222_1 | with_reducible exact fc222_2 | with_reducible exact fc222_3 | with_reducible exact fc222_4 | with_reducible exact fc222_5 | with_reducible exact fc222_6 | with_reducible exact fc222_7 | with_reducible exact fc222_8 | with_reducible exact fc222_9 | with_reducible exact fc222_10 | with_reducible exact fc223_0 | with_reducible exact fc223_1 | with_reducible exact fc223_2 | with_reducible exact fc223_3 | with_reducible exact fc223_4 | with_reducible exact fc223_5 | with_reducible exact fc223_6 | with_reducible exact fc223_7 | with_reducible exact fc223_8 | with_reducible exact fc223_9 | with_reducible exact fc223_10); rfl; (try simp only [Act.put, List.setIfInBounds_toArray, List.set_cons_zero, List.set_cons_succ])) | ((with_reducible apply (arm_box hS)); (first | with_reducible exact wanted_none | exact wanted_guard rfl rfl); (first | exact ev_tmp rfl | exact ev_const); (first | with_reducible exact cells_agg | exact cells_one rfl); clear hS; intro NB w hS; (try simp only [Act.put, List.setIfInBounds_toArray, List.set_cons_zero, List.set_cons_succ])))
  all_goals
    go_ret
    have hX : (1 + if (if (look c).1 < (look a).1 then (look a).1 else (look c).1) < (look b).1 then (look b).1 else if (look c).1 < (look a).1 then (look a).1 else (look c).1) = (look (.ite c a b)).1 := by
      rw [E1.out]
      clear E1 E2 hS hT0 hT hT2
      (repeat' split) <;> omega
    rw [hX] at hS
    obtain ⟨H', x1, x2, hS⟩ := hS.fzBlk
    exact ⟨_, rfl, H', x1, ⟨_, _, _, hT0.ext x1, hT.ext x1, hT2.ext x1, _, rfl, by rw [E2.out, ← E1.out]; exact x2⟩, hS⟩
end Go.Proofs.YthackanffcaejaaDoor
