/- Numbers, literals and places of the document's reader of clauses. -/
import Derived.Test.YthackanffcaejaaDoorSpot
import Derived.Test.YthackanffcaejaaDoorOwn7
set_option linter.unusedSimpArgs false
set_option linter.unusedVariables false
set_option maxRecDepth 20000
namespace Go.Proofs.YthackanffcaejaaDoor
open Go Go.RowKit Go.SL Go.ClauseP
theorem numberR (most : Nat) (hm : most ≤ 2147483647) (s : List UInt8) (hs : s.length ≤ 140737488351232) (w0 w : World) (Hs : List HP) (hS : Sat w0 w Hs) :
    Calls Tryd.prog 69 #[.string ⟨s.toArray⟩, .int .i64 most] w fun e w' => e = .returned (.int .i64 (numM most s)) ∧ Sat w0 w' Hs := by
  cases h0 : s.head? with
  | none =>
    obtain rfl : s = [] := by cases s with | nil => rfl | cons a b => cases h0
    rw [numM_empty]
    clear h0
    go_enter Tryd.func69, Tryd.ntmps69
    go_wp2
    go_ret
    exact ⟨rfl, hS⟩
  | some c0 =>
    have hne : s.isEmpty = false := by cases s with | nil => cases h0 | cons a b => rfl
    have hnn : s ≠ [] := by intro e; rw [e] at hne; cases hne
    have hp : 0 < s.length := List.length_pos_iff.2 hnn
    have hpi : ((s.length : Int) == 0) = false := by simp; exact hnn
    have hpn : (s.length == 0) = false := by simp; exact hnn
    obtain ⟨hp0, hcb⟩ := byteAt s 0 c0 (by rw [← List.head?_eq_getElem?]; exact h0)
    have e48 := u8_eq c0 48 48 rfl
    by_cases hz : 1 < s.length ∧ s.head? = some 48
    · rw [numM_zero hz.1 hz.2]
      have hl1 : (1 : Int) < (s.length : Int) := by omega
      have hc0 : c0 = 48 := by rw [h0] at hz; simpa using hz.2
      rw [hc0] at e48
      rw [hc0] at hcb
      clear h0 hz hc0 hnn
      go_enter Tryd.func69, Tryd.ntmps69
      go_wp2
      go_ret
      exact ⟨rfl, hS⟩
    · have DG := fun c => digitR c w0
      have hN := fun h => numM_val (most := most) hnn hz h
      have hF := numM_not (most := most) (s := s)
      have hA : ∀ k, most < valD 0 (s.take k) → numM most s = -1 := fun k h => by
        have := numM_above (t := s.drop k) h
        rwa [List.take_append_drop] at this
      obtain ⟨R, hR⟩ : ∃ R, R = numM most s := ⟨_, rfl⟩
      rw [← hR] at hN hF hA ⊢
      have HN := hid hN
      have HF := hid hF
      have HA := hid hA
      clear hN hF hR hA
      have main : (decide ((1 : Int) < (s.length : Int)) = false ∨ ((1 : Int) < (s.length : Int) ∧ ((c0.toNat : Int) == 48) = false)) → Calls Tryd.prog 69 #[.string ⟨s.toArray⟩, .int .i64 most] w fun e w' => e = .returned (.int .i64 R) ∧ Sat w0 w' Hs := by
        clear e48 hz h0 hnn
        intro hcase
        rcases hcase with hcase | ⟨hcase, hcase2⟩
        all_goals
          go_enter Tryd.func69, Tryd.ntmps69
          go_wp2
          clear hcb hp0
          go_loopw [5, 6] (fun n i wr => ∃ k v : Nat, i = .int .i64 k ∧ k ≤ s.length ∧ n = .int .i64 v ∧ (v : Int) ≤ most ∧ Hid (v = valD 0 (s.take k) ∧ (s.take k).all digP = true) ∧ Sat w0 wr Hs) (fun _ i _ => s.length - (intOf i).toNat)
          case atStart => exact ⟨0, 0, rfl, Nat.zero_le _, rfl, by omega, hid ⟨rfl, rfl⟩, hS⟩
          case round =>
            clear hS
            obtain ⟨k, v, rfl, hk, rfl, hv, HV, hS⟩ := hrel
            by_cases hlt : k < s.length
            · obtain ⟨c, hc⟩ : ∃ c, s[k]? = some c := ⟨_, List.getElem?_eq_getElem hlt⟩
              obtain ⟨hpk, hck⟩ := byteAt s k c hc
              have HC := hid hc
              clear hc
              have DC := DG c
              cases hd : digP c with
              | true =>
                rw [hd] at DC
                obtain ⟨d1, d2⟩ := (digit_facts c).1 hd
                have HD := hid hd
                have HV2 : Hid (10 * v + (c.toNat - 48) = valD 0 (s.take (k + 1)) ∧ (s.take (k + 1)).all digP = true) := by
                  refine hid ?_
                  have ht : s.take (k + 1) = s.take k ++ [c] := by rw [List.take_add_one, HC.out]; rfl
                  rw [ht, valD_snoc, List.all_append, HV.out.2, ← HV.out.1]
                  simp [HD.out]
                clear hd
                by_cases hgt : most < 10 * v + (c.toNat - 48)
                · have HR := hid (HA.out (k + 1) (by rw [← HV2.out.1]; exact hgt))
                  have hgi : (most : Int) < 10 * (v : Int) + ((c.toNat : Int) - 48) := by omega
                  clear hgt
                  go_wp2_with (first | (go_at_call 87; refine (DC _ _ hS).mono ?_; clear hS; rintro e w ⟨rfl, hS⟩))
                  go_ret
                  exact ⟨by rw [HR.out]; rfl, hS⟩
                · have hgi : 10 * (v : Int) + ((c.toNat : Int) - 48) ≤ (most : Int) := by omega
                  clear hgt
                  go_wp2_with (first | (go_at_call 87; refine (DC _ _ hS).mono ?_; clear hS; rintro e w ⟨rfl, hS⟩))
                  go_roundw
                  case rel =>
                    refine ⟨k + 1, 10 * v + (c.toNat - 48), by go_num, by omega, ?_, by omega, HV2, hS⟩
                    go_num
                  case measure => simp [intOf]; omega
              | false =>
                rw [hd] at DC
                have HD := hid hd
                clear hd
                go_wp2_with (first | (go_at_call 87; refine (DC _ _ hS).mono ?_; clear hS; rintro e w ⟨rfl, hS⟩))
                go_ret
                have : R = -1 := HF.out (by
                  rw [List.all_eq_false]
                  exact ⟨c, List.mem_of_getElem? HC.out, by rw [HD.out]; simp⟩)
                exact ⟨by rw [this]; rfl, hS⟩
            · have hke : k = s.length := by omega
              subst hke
              have HV2 := HV.out
              rw [List.take_length] at HV2
              have hR := HN.out HV2.2
              rw [← HV2.1] at hR
              rw [if_neg (by omega)] at hR
              have HR := hid hR
              clear hR HV2
              go_wp2
              go_ret
              exact ⟨by rw [HR.out]; rfl, hS⟩
      refine main ?_
      by_cases h : 1 < s.length
      · refine .inr ⟨by omega, ?_⟩
        rw [e48]
        have : ¬ c0 = 48 := fun e => hz ⟨h, by rw [h0, e]⟩
        simp [this]
      · exact .inl (by simp; omega)
theorem spotR (text : List UInt8) (k : Nat) (hk : k ≤ text.length) (hl : text.length ≤ 1048576) (w0 w : World) (Hs : List HP) (hS : Sat w0 w Hs) :
    Calls Tryd.prog 57 #[.string ⟨text.toArray⟩, .int .i64 k] w fun e w' => e = .returned (.agg #[.int .i64 ((spotP text k).1 : Int), .int .i64 ((spotP text k).2 : Int)]) ∧ Sat w0 w' Hs := by
  go_enter Tryd.func57, Tryd.ntmps57
  (have tok_B4 : True := trivial; have tok_B5 : True := trivial; go_wp2_with (first | (have tokk := tok_B4; (clear tokk tok_B4); ((with_reducible apply (arm_alloc hS)); (first | with_reducible exact wanted_none | exact wanted_guard rfl rfl); (first | with_reducible exact z31 | with_reducible exact z47); clear hS; intro B4 w hS; (try simp only [Act.put, List.setIfInBounds_toArray, List.set_cons_zero, List.set_cons_succ]))) | (have tokk := tok_B5; (clear tokk tok_B5); ((with_reducible apply (arm_alloc hS)); (first | with_reducible exact wanted_none | exact wanted_guard rfl rfl); (first | with_reducible exact z31 | with_reducible exact z47); clear hS; intro B5 w hS; (try simp only [Act.put, List.setIfInBounds_toArray, List.set_cons_zero, List.set_cons_succ]))) | ((with_reducible apply (arm_store hS)); (first | with_reducible exact wanted_none | exact wanted_guard rfl rfl); (first | exact ev_tmp rfl | exact ev_const); (first | exact ev_tmp rfl | exact ev_const); (repeat (first | with_reducible exact mem_hd | with_reducible apply mem_tl)); rfl; (first | (focus (simp; done)) | (simp; omega) | omega); (repeat (first | with_reducible exact Upd.hd | with_reducible apply Upd.tl)); rfl; decide +kernel; clear hS; intro w hS; (try simp only [List.set_cons_zero, List.set_cons_succ] at hS); (try simp only [Act.put, List.setIfInBounds_toArray, List.set_cons_zero, List.set_cons_succ])) | ((with_reducible apply (arm_storeN hS)); (first | with_reducible exact wanted_none | exact wanted_guard rfl rfl); (first | exact ev_tmp rfl | exact ev_const); (first | exact ev_tmp rfl | exact ev_const); (repeat (first | with_reducible exact mem_hd | with_reducible apply mem_tl)); rfl; (first | (focus (simp; done)) | (simp; omega) | omega); (repeat (first | with_reducible exact Upd.hd | with_reducible apply Upd.tl)); rfl; (first | with_reducible exact sz31); rfl; clear hS; intro w hS; (try simp only [setFrom, List.set_cons_zero, List.set_cons_succ] at hS); (try simp only [Act.put, List.setIfInBounds_toArray, List.set_cons_zero, List.set_cons_succ]))))
  go_loopw [6] (fun i wr => ∃ j : Nat, i = .int .i64 j ∧ j ≤ k ∧ Sat w0 wr (blk B5 31 [.int .i64 ((spotP text j).1 : Int), .int .i64 ((spotP text j).2 : Int)] :: blk B4 31 [.int .i64 0, .int .i64 0] :: Hs)) (fun i _ => k - (intOf i).toNat)
  case atStart => exact ⟨0, rfl, Nat.zero_le _, hS⟩
  case round =>
    clear hS
    obtain ⟨j, rfl, hj, hS⟩ := hrel
    by_cases hlt : j < k
    · obtain ⟨c, hc⟩ : ∃ c, text[j]? = some c := ⟨_, List.getElem?_eq_getElem (by omega)⟩
      obtain ⟨hpk, hck⟩ := byteAt text j c hc
      have HS1 := hid (spot_succ hc)
      have hjt : (j : Int) < (text.length : Int) := by omega
      obtain ⟨b1, b2⟩ := spot_bd text j
      have e10 := u8_eq c 10 10 rfl
      clear hc
      by_cases h10 : c = 10
      · rw [show (c == 10) = true by simp [h10]] at e10
        have HS2 : Hid (spotP text (j + 1) = ((spotP text j).1 + 1, 1)) := hid (by rw [HS1.out, if_pos h10])
        clear HS1 h10
        have h1 : (spotP text (j + 1)).1 = (spotP text j).1 + 1 := by rw [HS2.out]
        have h2 : (spotP text (j + 1)).2 = 1 := by rw [HS2.out]
        generalize (spotP text j).1 = p1 at *
        generalize (spotP text j).2 = p2 at *
        have E1 := hid h1
        have E2 := hid h2
        clear h1 h2 HS2
        go_wp2_with (first | ((with_reducible apply (arm_load hS)); (first | with_reducible exact wanted_none | exact wanted_guard rfl rfl); (first | exact ev_tmp rfl | exact ev_const); (repeat (first | with_reducible exact mem_hd | with_reducible apply mem_tl)); rfl; decide +kernel; (try simp only [Act.put, List.setIfInBounds_toArray, List.set_cons_zero, List.set_cons_succ])) | ((with_reducible apply (arm_store hS)); (first | with_reducible exact wanted_none | exact wanted_guard rfl rfl); (first | exact ev_tmp rfl | exact ev_const); (first | exact ev_tmp rfl | exact ev_const); (repeat (first | with_reducible exact mem_hd | with_reducible apply mem_tl)); rfl; (first | (focus (simp; done)) | (simp; omega) | omega); (repeat (first | with_reducible exact Upd.hd | with_reducible apply Upd.tl)); rfl; decide +kernel; clear hS; intro w hS; (try simp only [List.set_cons_zero, List.set_cons_succ] at hS); (try simp only [Act.put, List.setIfInBounds_toArray, List.set_cons_zero, List.set_cons_succ])))
        go_roundw
        case rel => exact ⟨j + 1, by go_num, by omega, by rw [E1.out, E2.out]; exact hS⟩
        case measure => simp [intOf]; omega
      · rw [show (c == 10) = false by simp [h10]] at e10
        have HS2 : Hid (spotP text (j + 1) = ((spotP text j).1, (spotP text j).2 + 1)) := hid (by rw [HS1.out, if_neg h10])
        clear HS1 h10
        have h1 : (spotP text (j + 1)).1 = (spotP text j).1 := by rw [HS2.out]
        have h2 : (spotP text (j + 1)).2 = (spotP text j).2 + 1 := by rw [HS2.out]
        generalize (spotP text j).1 = p1 at *
        generalize (spotP text j).2 = p2 at *
        have E1 := hid h1
        have E2 := hid h2
        clear h1 h2 HS2
        go_wp2_with (first | ((with_reducible apply (arm_load hS)); (first | with_reducible exact wanted_none | exact wanted_guard rfl rfl); (first | exact ev_tmp rfl | exact ev_const); (repeat (first | with_reducible exact mem_hd | with_reducible apply mem_tl)); rfl; decide +kernel; (try simp only [Act.put, List.setIfInBounds_toArray, List.set_cons_zero, List.set_cons_succ])) | ((with_reducible apply (arm_store hS)); (first | with_reducible exact wanted_none | exact wanted_guard rfl rfl); (first | exact ev_tmp rfl | exact ev_const); (first | exact ev_tmp rfl | exact ev_const); (repeat (first | with_reducible exact mem_hd | with_reducible apply mem_tl)); rfl; (first | (focus (simp; done)) | (simp; omega) | omega); (repeat (first | with_reducible exact Upd.hd | with_reducible apply Upd.tl)); rfl; decide +kernel; clear hS; intro w hS; (try simp only [List.set_cons_zero, List.set_cons_succ] at hS); (try simp only [Act.put, List.setIfInBounds_toArray, List.set_cons_zero, List.set_cons_succ])))
        go_roundw
        case rel => exact ⟨j + 1, by go_num, by omega, by rw [E1.out, E2.out]; exact hS⟩
        case measure => simp [intOf]; omega
    · obtain rfl : j = k := by omega
      go_wp2_with (first | ((with_reducible apply (arm_load hS)); (first | with_reducible exact wanted_none | exact wanted_guard rfl rfl); (first | exact ev_tmp rfl | exact ev_const); (repeat (first | with_reducible exact mem_hd | with_reducible apply mem_tl)); rfl; decide +kernel; (try simp only [Act.put, List.setIfInBounds_toArray, List.set_cons_zero, List.set_cons_succ])) | ((with_reducible apply (arm_store hS)); (first | with_reducible exact wanted_none | exact wanted_guard rfl rfl); (first | exact ev_tmp rfl | exact ev_const); (first | exact ev_tmp rfl | exact ev_const); (repeat (first | with_reducible exact mem_hd | with_reducible apply mem_tl)); rfl; (first | (focus (simp; done)) | (simp; omega) | omega); (repeat (first | with_reducible exact Upd.hd | with_reducible apply Upd.tl)); rfl; decide +kernel; clear hS; intro w hS; (try simp only [List.set_cons_zero, List.set_cons_succ] at hS); (try simp only [Act.put, List.setIfInBounds_toArray, List.set_cons_zero, List.set_cons_succ])) | ((with_reducible apply (arm_loadN hS)); (first | with_reducible exact wanted_none | exact wanted_guard rfl rfl); (first | exact ev_tmp rfl | exact ev_const); (repeat (first | with_reducible exact mem_hd | with_reducible apply mem_tl)); (first | with_reducible exact sz31); decide +kernel; rfl; rfl; (try simp only [Act.put, List.setIfInBounds_toArray, List.set_cons_zero, List.set_cons_succ])) | ((with_reducible apply (arm_storeN hS)); (first | with_reducible exact wanted_none | exact wanted_guard rfl rfl); (first | exact ev_tmp rfl | exact ev_const); (first | exact ev_tmp rfl | exact ev_const); (repeat (first | with_reducible exact mem_hd | with_reducible apply mem_tl)); rfl; (first | (focus (simp; done)) | (simp; omega) | omega); (repeat (first | with_reducible exact Upd.hd | with_reducible apply Upd.tl)); rfl; (first | with_reducible exact sz31); rfl; clear hS; intro w hS; (try simp only [setFrom, List.set_cons_zero, List.set_cons_succ] at hS); (try simp only [Act.put, List.setIfInBounds_toArray, List.set_cons_zero, List.set_cons_succ])))
      refine bodyPost_ret (results_cell1 rfl rfl (hS.loadWhole (by (repeat (first | with_reducible exact mem_hd | with_reducible apply mem_tl))) (by kernel_rfl) (by kernel_rfl))) rfl ?_
      exact ⟨rfl, hS.sb (by (repeat (first | with_reducible exact Sb.refl | with_reducible exact Sb.nil | (with_reducible refine Sb.take (by (repeat (first | with_reducible exact Rem.hd | with_reducible apply Rem.tl)); done) ?_) | with_reducible apply Sb.skip)))⟩
theorem literalR (s : List UInt8) (hs : s.length ≤ 140737488351232) (w0 w : World) (Hs : List HP) (hS : Sat w0 w Hs) :
    Calls Tryd.prog 40 #[.string ⟨s.toArray⟩] w fun e w' => e = .returned (.tuple #[.int .i64 (litV (litP s)).1, .bool (litV (litP s)).2]) ∧ Sat w0 w' Hs := by
  have D1 := fun w => numberR 2147483647 (by omega) s hs w0 w
  have D2 := fun w => numberR 2147483647 (by omega) (s.drop 1) (by rw [List.length_drop]; omega) w0 w
  have b1 := numM_ge 2147483647 s
  have b2 := numM_ge 2147483647 (s.drop 1)
  obtain ⟨r, hr⟩ : ∃ r, r = litV (litP s) := ⟨_, rfl⟩
  rw [← hr]
  unfold litP litV at hr
  by_cases hm : s.head? = some 45
  · obtain ⟨t, rfl⟩ : ∃ t, s = 45 :: t := by
      cases s with
      | nil => cases hm
      | cons a b =>
        have : a = 45 := by simpa using hm
        exact ⟨b, by rw [this]⟩
    rw [if_pos hm] at hr
    obtain ⟨hp0, hcb⟩ := byteAt (45 :: t) 0 45 rfl
    have hl : ((45 :: t).length : Int) > 0 := by rw [List.length_cons]; omega
    have hl1 : 1 ≤ (45 :: t).length := by simp
    have hex : (⟨(45 :: t).toArray⟩ : ByteArray).extract 1 (45 :: t).length = ⟨t.toArray⟩ := by
      apply ByteArray.ext
      simp only [ByteArray.data_extract, List.extract_toArray, List.extract_eq_take_drop]
      simp
    have HD : (45 :: t).drop 1 = t := rfl
    rw [HD] at D2 b2 hr
    rw [← hex] at D2
    generalize (45 :: t : List UInt8) = L at *
    clear D1 b1 hm HD hex
    generalize numM 2147483647 t = n at *
    by_cases h0 : n < 0
    · rw [if_pos (by omega)] at hr
      subst hr
      go_enter Tryd.func40, Tryd.ntmps40
      go_wp2_with (first | (go_at_call 69; refine (D2 _ _ hS).mono ?_; clear hS; rintro e w ⟨rfl, hS⟩))
      go_ret2
      exact ⟨rfl, hS⟩
    · by_cases hz : n = 0
      · rw [if_pos (by omega)] at hr
        subst hr
        subst hz
        go_enter Tryd.func40, Tryd.ntmps40
        go_wp2_with (first | (go_at_call 69; refine (D2 _ _ hS).mono ?_; clear hS; rintro e w ⟨rfl, hS⟩))
        go_ret2
        exact ⟨rfl, hS⟩
      · rw [if_neg (by omega)] at hr
        subst hr
        have e0 : (n == 0) = false := by simp [hz]
        have hge : 0 ≤ n := by omega
        clear h0 hz
        go_enter Tryd.func40, Tryd.ntmps40
        go_wp2_with (first | (go_at_call 69; refine (D2 _ _ hS).mono ?_; clear hS; rintro e w ⟨rfl, hS⟩))
        go_ret2
        exact ⟨rfl, hS⟩
  · rw [if_neg hm] at hr
    clear D2 b2
    have hcase : (s = [] ∨ ∃ c, s[0]? = some c ∧ ¬ c = 45) := by
      cases s with
      | nil => exact .inl rfl
      | cons c t => exact .inr ⟨c, rfl, fun e => hm (by rw [e]; rfl)⟩
    clear hm
    generalize numM 2147483647 s = n at *
    rcases hcase with rfl | ⟨c, hc, hne⟩
    · by_cases h0 : n < 0
      · rw [if_pos (by omega)] at hr
        subst hr
        go_enter Tryd.func40, Tryd.ntmps40
        go_wp2_with (first | (go_at_call 69; refine (D1 _ _ hS).mono ?_; clear hS; rintro e w ⟨rfl, hS⟩))
        go_ret2
        exact ⟨rfl, hS⟩
      · rw [if_neg (by omega)] at hr
        subst hr
        have hge : 0 ≤ n := by omega
        clear h0
        go_enter Tryd.func40, Tryd.ntmps40
        go_wp2_with (first | (go_at_call 69; refine (D1 _ _ hS).mono ?_; clear hS; rintro e w ⟨rfl, hS⟩))
        go_ret2
        exact ⟨rfl, hS⟩
    · obtain ⟨hp0, hcb⟩ := byteAt s 0 c hc
      have hp : (s.length : Int) > 0 := by
        have := (List.getElem?_eq_some_iff.1 hc).1
        omega
      have e45 := u8_eq c 45 45 rfl
      rw [show (c == 45) = false by simp [hne]] at e45
      clear hc hne
      by_cases h0 : n < 0
      · rw [if_pos (by omega)] at hr
        subst hr
        go_enter Tryd.func40, Tryd.ntmps40
        go_wp2_with (first | (go_at_call 69; refine (D1 _ _ hS).mono ?_; clear hS; rintro e w ⟨rfl, hS⟩))
        go_ret2
        exact ⟨rfl, hS⟩
      · rw [if_neg (by omega)] at hr
        subst hr
        have hge : 0 ≤ n := by omega
        clear h0
        go_enter Tryd.func40, Tryd.ntmps40
        go_wp2_with (first | (go_at_call 69; refine (D1 _ _ hS).mono ?_; clear hS; rintro e w ⟨rfl, hS⟩))
        go_ret2
        exact ⟨rfl, hS⟩
end Go.Proofs.YthackanffcaejaaDoor
