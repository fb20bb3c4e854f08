/- Numbers and literals of clauses' texts: the engine's and the document's. -/
import Derived.Test.YthackanffcaejaaDoorCl1
import Derived.Test.YthackanffcaejaaDoorClR
import Derived.Test.YthackanffcaejaaDoorByt
set_option linter.unusedSimpArgs false
set_option linter.unusedVariables false
set_option maxRecDepth 20000
namespace Go.Proofs.YthackanffcaejaaDoor
open Go Go.RowKit Go.SL Go.ClauseP
theorem digit_facts (c : UInt8) : (digP c = true → (48 : Int) ≤ (c.toNat : Int) ∧ (c.toNat : Int) ≤ 57) ∧ (digP c = false → (c.toNat : Int) < 48 ∨ 57 < (c.toNat : Int)) := by
  constructor
  · intro h; have := digP_le h; omega
  · intro h
    by_cases h2 : 48 ≤ c.toNat ∧ c.toNat ≤ 57
    · have : digP c = true := by simp only [digP, Bool.and_eq_true, decide_eq_true_eq, UInt8.le_iff_toNat_le]; exact h2
      rw [this] at h; cases h
    · omega
theorem digitC (c : UInt8) (w0 w : World) (Hs : List HP) (hS : Sat w0 w Hs) : Calls Tryd.prog 98 #[.int .u8 c.toNat] w fun e w' => e = .returned (.bool (digP c)) ∧ Sat w0 w' Hs := by
  obtain ⟨h1, h2⟩ := digit_facts c
  cases hd : digP c with
  | true =>
    obtain ⟨a, b⟩ := h1 hd
    clear h1 h2 hd
    generalize (c.toNat : Int) = n at *
    go_enter Tryd.func98, Tryd.ntmps98
    go_wp2
    go_ret
    exact ⟨rfl, hS⟩
  | false =>
    have h := h2 hd
    clear h1 h2 hd
    generalize (c.toNat : Int) = n at *
    by_cases h48 : n < 48
    · have e1 : decide ((48 : Int) ≤ n) = false := by simp; omega
      go_enter Tryd.func98, Tryd.ntmps98
      go_wp2
      go_ret
      exact ⟨rfl, hS⟩
    · have h57 : decide (n ≤ 57) = false := by simp; omega
      have h48' : 48 ≤ n := by omega
      clear h h48
      go_enter Tryd.func98, Tryd.ntmps98
      go_wp2
      go_ret
      exact ⟨rfl, hS⟩
theorem digitR (c : UInt8) (w0 w : World) (Hs : List HP) (hS : Sat w0 w Hs) : Calls Tryd.prog 87 #[.int .u8 c.toNat] w fun e w' => e = .returned (.bool (digP c)) ∧ Sat w0 w' Hs := by
  obtain ⟨h1, h2⟩ := digit_facts c
  cases hd : digP c with
  | true =>
    obtain ⟨a, b⟩ := h1 hd
    clear h1 h2 hd
    generalize (c.toNat : Int) = n at *
    go_enter Tryd.func87, Tryd.ntmps87
    go_wp2
    go_ret
    exact ⟨rfl, hS⟩
  | false =>
    have h := h2 hd
    clear h1 h2 hd
    generalize (c.toNat : Int) = n at *
    by_cases h48 : n < 48
    · have e1 : decide ((48 : Int) ≤ n) = false := by simp; omega
      go_enter Tryd.func87, Tryd.ntmps87
      go_wp2
      go_ret
      exact ⟨rfl, hS⟩
    · have h57 : decide (n ≤ 57) = false := by simp; omega
      have h48' : 48 ≤ n := by omega
      clear h h48
      go_enter Tryd.func87, Tryd.ntmps87
      go_wp2
      go_ret
      exact ⟨rfl, hS⟩
theorem byteAt (L : List UInt8) (k : Nat) (c : UInt8) (h : L[k]? = some c) : ∃ hp : k < (⟨L.toArray⟩ : ByteArray).size, (⟨L.toArray⟩ : ByteArray)[k]'hp = c := by
  obtain ⟨h1, h2⟩ := List.getElem?_eq_some_iff.1 h
  exact ⟨by simpa [ByteArray.size] using h1, by simpa [ByteArray.getElem_eq_getElem_data] using h2⟩
theorem decimalC (most : Nat) (hm : most ≤ 2147483647) (s : List UInt8) (hs : s.length ≤ 140737488351232) (w0 w : World) (Hs : List HP) (hS : Sat w0 w Hs) :
    Calls Tryd.prog 66 #[.string ⟨s.toArray⟩, .int .i64 most] w fun e w' => e = .returned (.int .i64 (numM most s)) ∧ Sat w0 w' Hs := by
  cases h0 : s.head? with
  | none =>
    obtain rfl : s = [] := by cases s with | nil => rfl | cons a b => cases h0
    rw [numM_empty]
    clear h0
    go_enter Tryd.func66, Tryd.ntmps66
    go_wp2
    go_ret
    exact ⟨rfl, hS⟩
  | some c0 =>
    have hne : s.isEmpty = false := by cases s with | nil => cases h0 | cons a b => rfl
    have hnn : s ≠ [] := by intro e; rw [e] at hne; cases hne
    have hp : 0 < s.length := List.length_pos_iff.2 hnn
    by_cases h10 : 10 < s.length
    · rw [numM_long (by omega) h10]
      have hl : (10 : Int) < (s.length : Int) := by omega
      clear h0 hnn
      go_enter Tryd.func66, Tryd.ntmps66
      go_wp2
      go_ret
      exact ⟨rfl, hS⟩
    · obtain ⟨hp0, hcb⟩ := byteAt s 0 c0 (by rw [← List.head?_eq_getElem?]; exact h0)
      have e48 := u8_eq c0 48 48 rfl
      have hle : (s.length : Int) ≤ 10 := by omega
      by_cases hz : 1 < s.length ∧ s.head? = some 48
      · rw [numM_zero hz.1 hz.2]
        have hl1 : (1 : Int) < (s.length : Int) := by omega
        have hc0 : c0 = 48 := by rw [h0] at hz; simpa using hz.2
        rw [hc0] at e48
        rw [hc0] at hcb
        clear h0 h10 hz hc0 hnn
        go_enter Tryd.func66, Tryd.ntmps66
        go_wp2
        go_ret
        exact ⟨rfl, hS⟩
      · have DG := fun c => digitC c w0
        have hN := fun h => numM_val (most := most) hnn hz h
        have hF := numM_not (most := most) (s := s)
        obtain ⟨R, hR⟩ : ∃ R, R = numM most s := ⟨_, rfl⟩
        rw [← hR] at hN hF ⊢
        have HN := hid hN
        have HF := hid hF
        clear hN hF hR
        have hlen : s.length ≤ 10 := by omega
        have main : (decide ((1 : Int) < (s.length : Int)) = false ∨ ((1 : Int) < (s.length : Int) ∧ ((c0.toNat : Int) == 48) = false)) → Calls Tryd.prog 66 #[.string ⟨s.toArray⟩, .int .i64 most] w fun e w' => e = .returned (.int .i64 R) ∧ Sat w0 w' Hs := by
          clear e48 hz h0 h10 hnn
          intro hcase
          rcases hcase with hcase | ⟨hcase, hcase2⟩
          all_goals
            go_enter Tryd.func66, Tryd.ntmps66
            go_wp2_with (first | ((with_reducible apply (arm_bytesOf hS)); (first | with_reducible exact wanted_none | exact wanted_guard rfl rfl); (first | exact ev_tmp rfl | exact ev_const); (first | with_reducible exact E47); kernel_rfl; kernel_rfl; clear hS; intro AB AD CAP w RDB NNB hS; (try simp only [Act.put, List.setIfInBounds_toArray, List.set_cons_zero, List.set_cons_succ])))
            go_loopw [5, 28] (fun n i wr => ∃ k v : Nat, i = .int .i64 k ∧ k ≤ s.length ∧ n = .int .i64 v ∧ (v : Int) < 10 ^ k ∧ Hid (v = valD 0 (s.take k) ∧ (s.take k).all digP = true) ∧ Sat w0 wr (AB :: Hs)) (fun _ i _ => s.length - (intOf i).toNat)
            case atStart => exact ⟨0, 0, rfl, Nat.zero_le _, rfl, by decide, hid ⟨rfl, rfl⟩, hS⟩
            case round =>
              clear hS
              obtain ⟨k, v, rfl, hk, rfl, hv, HV, hS⟩ := hrel
              by_cases hlt : k < s.length
              · obtain ⟨c, hc⟩ : ∃ c, s[k]? = some c := ⟨_, List.getElem?_eq_getElem hlt⟩
                have hbs := Bs_at hc
                have HC := hid hc
                have hv10 : (v : Int) < 10000000000 := by
                  have h1 : (10 : Int) ^ k ≤ 10 ^ 10 := by exact_mod_cast Nat.pow_le_pow_right (n := 10) (by decide) (by omega)
                  have h2 : (10 : Int) ^ 10 = 10000000000 := by decide
                  omega
                have HVP := hid hv
                clear hc hv
                have DC := DG c
                cases hd : digP c with
                | true =>
                  rw [hd] at DC
                  obtain ⟨d1, d2⟩ := (digit_facts c).1 hd
                  have HD := hid hd
                  clear hd
                  go_wp2_with (first | ((with_reducible apply arm_indexAddr); (first | with_reducible exact wanted_none | exact wanted_guard rfl rfl); (first | exact ev_tmp rfl | exact ev_const); (first | exact ev_tmp rfl | exact ev_const); (first | with_reducible exact E47); (first | omega | (focus (simp; done)) | (simp; omega)); (first | omega | (focus (simp; done)) | (simp; omega)); (first | exact hS.ownNN (by (repeat (first | with_reducible exact mem_hd | with_reducible apply mem_tl))) (by omega) | exact Sat.rdAd2 (by assumption) hS (by ((repeat (first | with_reducible exact mem_hd | with_reducible apply mem_tl))); try assumption) (by first | (simp only [Is_length, Bs_length, List.length_take, List.length_drop]; omega) | omega | (simp; omega) | (simp; done)) | assumption); (first | (simp only [Int.toNat_natCast, Nat.mul_one, Nat.zero_add, tn_sub, tn_sub1, tn_sub2, tn_sub3, tn_add, tn_add1, tn_add2]; rfl) | rfl); (try simp only [Act.put, List.setIfInBounds_toArray, List.set_cons_zero, List.set_cons_succ])) | ((with_reducible apply arm_loadE); (first | with_reducible exact wanted_none | exact wanted_guard rfl rfl); (first | exact ev_tmp rfl | exact ev_const); (first | exact (hS.ownCell (by (repeat (first | with_reducible exact mem_hd | with_reducible apply mem_tl))) (by (first | assumption | exact Is_at (by assumption) | exact Bs_at (by assumption) | rfl | (simp; done)))).1 | exact Sat.rdCell2 (by assumption) hS (by ((repeat (first | with_reducible exact mem_hd | with_reducible apply mem_tl))); try assumption) (by (first | assumption | exact Is_at (by assumption) | exact Bs_at (by assumption) | rfl | (simp; done)))); decide +kernel; (try simp only [Act.put, List.setIfInBounds_toArray, List.set_cons_zero, List.set_cons_succ])) | (go_at_call 98; refine (DC _ _ hS).mono ?_; clear hS; rintro e w ⟨rfl, hS⟩))
                  go_roundw
                  case rel =>
                    refine ⟨k + 1, 10 * v + (c.toNat - 48), by go_num, by omega, ?_, ?_, hid ?_, hS⟩
                    · go_num
                    · have h1 := HVP.out
                      rw [Int.pow_succ]
                      generalize (10 : Int) ^ k = p at *
                      omega
                    · have ht : s.take (k + 1) = s.take k ++ [c] := by rw [List.take_add_one, HC.out]; rfl
                      rw [ht, valD_snoc, List.all_append, HV.out.2, ← HV.out.1]
                      simp [HD.out]
                  case measure => simp [intOf]; omega
                | false =>
                  rw [hd] at DC
                  have HD := hid hd
                  clear hd
                  go_wp2_with (first | ((with_reducible apply arm_indexAddr); (first | with_reducible exact wanted_none | exact wanted_guard rfl rfl); (first | exact ev_tmp rfl | exact ev_const); (first | exact ev_tmp rfl | exact ev_const); (first | with_reducible exact E47); (first | omega | (focus (simp; done)) | (simp; omega)); (first | omega | (focus (simp; done)) | (simp; omega)); (first | exact hS.ownNN (by (repeat (first | with_reducible exact mem_hd | with_reducible apply mem_tl))) (by omega) | exact Sat.rdAd2 (by assumption) hS (by ((repeat (first | with_reducible exact mem_hd | with_reducible apply mem_tl))); try assumption) (by first | (simp only [Is_length, Bs_length, List.length_take, List.length_drop]; omega) | omega | (simp; omega) | (simp; done)) | assumption); (first | (simp only [Int.toNat_natCast, Nat.mul_one, Nat.zero_add, tn_sub, tn_sub1, tn_sub2, tn_sub3, tn_add, tn_add1, tn_add2]; rfl) | rfl); (try simp only [Act.put, List.setIfInBounds_toArray, List.set_cons_zero, List.set_cons_succ])) | ((with_reducible apply arm_loadE); (first | with_reducible exact wanted_none | exact wanted_guard rfl rfl); (first | exact ev_tmp rfl | exact ev_const); (first | exact (hS.ownCell (by (repeat (first | with_reducible exact mem_hd | with_reducible apply mem_tl))) (by (first | assumption | exact Is_at (by assumption) | exact Bs_at (by assumption) | rfl | (simp; done)))).1 | exact Sat.rdCell2 (by assumption) hS (by ((repeat (first | with_reducible exact mem_hd | with_reducible apply mem_tl))); try assumption) (by (first | assumption | exact Is_at (by assumption) | exact Bs_at (by assumption) | rfl | (simp; done)))); decide +kernel; (try simp only [Act.put, List.setIfInBounds_toArray, List.set_cons_zero, List.set_cons_succ])) | (go_at_call 98; refine (DC _ _ hS).mono ?_; clear hS; rintro e w ⟨rfl, hS⟩))
                  go_ret
                  have : R = -1 := HF.out (by
                    rw [List.all_eq_false]
                    exact ⟨c, List.mem_of_getElem? HC.out, by rw [HD.out]; simp⟩)
                  exact ⟨by rw [this]; rfl, hS.sb (by (repeat (first | with_reducible exact Sb.refl | with_reducible exact Sb.nil | (with_reducible refine Sb.take (by (repeat (first | with_reducible exact Rem.hd | with_reducible apply Rem.tl)); done) ?_) | with_reducible apply Sb.skip)))⟩
              · have hke : k = s.length := by omega
                subst hke
                have HV2 := HV.out
                rw [List.take_length] at HV2
                have hR := HN.out HV2.2
                rw [← HV2.1] at hR
                by_cases hgt : most < v
                · rw [if_pos hgt] at hR
                  have HR := hid hR
                  have hgt2 : (most : Int) < (v : Int) := by omega
                  clear hR HV2
                  go_wp2
                  go_ret
                  exact ⟨by rw [HR.out]; rfl, hS.sb (by (repeat (first | with_reducible exact Sb.refl | with_reducible exact Sb.nil | (with_reducible refine Sb.take (by (repeat (first | with_reducible exact Rem.hd | with_reducible apply Rem.tl)); done) ?_) | with_reducible apply Sb.skip)))⟩
                · rw [if_neg hgt] at hR
                  have HR := hid hR
                  have hgt2 : (v : Int) ≤ (most : Int) := by omega
                  clear hR HV2
                  go_wp2
                  go_ret
                  exact ⟨by rw [HR.out]; rfl, hS.sb (by (repeat (first | with_reducible exact Sb.refl | with_reducible exact Sb.nil | (with_reducible refine Sb.take (by (repeat (first | with_reducible exact Rem.hd | with_reducible apply Rem.tl)); done) ?_) | with_reducible apply Sb.skip)))⟩
        refine main ?_
        by_cases h : 1 < s.length
        · refine .inr ⟨by omega, ?_⟩
          rw [e48]
          have : ¬ c0 = 48 := fun e => hz ⟨h, by rw [h0, e]⟩
          simp [this]
        · exact .inl (by simp; omega)
theorem trim_minus (s : List UInt8) : Lib.hasPrefix s [45] = (s.head? == some 45) ∧ Lib.trimPrefix s [45] = if s.head? = some 45 then s.drop 1 else s := by
  cases s with
  | nil => simp [Lib.trimPrefix, Lib.hasPrefix]
  | cons c cs =>
    by_cases h : c = 45
    · subst h; simp [Lib.trimPrefix, Lib.hasPrefix]
    · have h2 : (45 == c) = false := by simp; exact fun e => h e.symm
      have h3 : (c == 45) = false := by simp [h]
      simp [Lib.trimPrefix, Lib.hasPrefix, List.isPrefixOf, h, h2, h3]
def litV (o : Option Int) : Int × Bool := match o with | none => (0, false) | some n => (n, true)
theorem literalC (s : List UInt8) (hs : s.length ≤ 140737488351232) (w0 w : World) (Hs : List HP) (hS : Sat w0 w Hs) :
    Calls Tryd.prog 67 #[.string ⟨s.toArray⟩] w fun e w' => e = .returned (.tuple #[.int .i64 (litV (litP s)).1, .bool (litV (litP s)).2]) ∧ Sat w0 w' Hs := by
  have CP := Tryd.strings_CutPrefix ⟨s.toArray⟩ ⟨#[45]⟩
  obtain ⟨t1, t2⟩ := trim_minus s
  have D1 := fun w => decimalC 2147483647 (by omega) s hs w0 w
  have D2 := fun w => decimalC 2147483647 (by omega) (s.drop 1) (by rw [List.length_drop]; omega) w0 w
  have b1 := numM_ge 2147483647 s
  have b2 := numM_ge 2147483647 (s.drop 1)
  obtain ⟨r, hr⟩ : ∃ r, r = litV (litP s) := ⟨_, rfl⟩
  rw [← hr]
  unfold litP litV at hr
  simp only [List.toList_toArray] at CP
  rw [t1, t2] at CP
  clear t1 t2
  by_cases hm : s.head? = some 45
  · rw [if_pos hm] at CP
    rw [if_pos hm] at hr
    rw [show (s.head? == some 45) = true by simp [hm]] at CP
    clear D1 b1 hm
    generalize s.drop 1 = t at *
    generalize numM 2147483647 t = n at *
    by_cases h0 : n < 0
    · rw [if_pos (by omega)] at hr
      subst hr
      go_enter Tryd.func67, Tryd.ntmps67
      go_wp2_with (first | (go_at_call 99; refine (CP _).mono ?_; rintro e w' ⟨rfl, rfl⟩) | (go_at_call 66; refine (D2 _ _ hS).mono ?_; clear hS; rintro e w ⟨rfl, hS⟩))
      go_ret2
      exact ⟨rfl, hS⟩
    · by_cases hz : n = 0
      · rw [if_pos (by omega)] at hr
        subst hr
        subst hz
        go_enter Tryd.func67, Tryd.ntmps67
        go_wp2_with (first | (go_at_call 99; refine (CP _).mono ?_; rintro e w' ⟨rfl, rfl⟩) | (go_at_call 66; refine (D2 _ _ hS).mono ?_; clear hS; rintro e w ⟨rfl, hS⟩))
        go_ret2
        exact ⟨rfl, hS⟩
      · rw [if_neg (by omega)] at hr
        subst hr
        have e0 : (n == 0) = false := by simp [hz]
        have hge : 0 ≤ n := by omega
        clear h0 hz
        go_enter Tryd.func67, Tryd.ntmps67
        go_wp2_with (first | (go_at_call 99; refine (CP _).mono ?_; rintro e w' ⟨rfl, rfl⟩) | (go_at_call 66; refine (D2 _ _ hS).mono ?_; clear hS; rintro e w ⟨rfl, hS⟩))
        go_ret2
        exact ⟨rfl, hS⟩
  · rw [if_neg hm] at CP
    rw [if_neg hm] at hr
    rw [show (s.head? == some 45) = false by simp [hm]] at CP
    clear D2 b2 hm
    generalize numM 2147483647 s = n at *
    by_cases h0 : n < 0
    · rw [if_pos (by omega)] at hr
      subst hr
      go_enter Tryd.func67, Tryd.ntmps67
      go_wp2_with (first | (go_at_call 99; refine (CP _).mono ?_; rintro e w' ⟨rfl, rfl⟩) | (go_at_call 66; refine (D1 _ _ hS).mono ?_; clear hS; rintro e w ⟨rfl, hS⟩))
      go_ret2
      exact ⟨rfl, hS⟩
    · rw [if_neg (by omega)] at hr
      subst hr
      have hge : 0 ≤ n := by omega
      clear h0
      go_enter Tryd.func67, Tryd.ntmps67
      go_wp2_with (first | (go_at_call 99; refine (CP _).mono ?_; rintro e w' ⟨rfl, rfl⟩) | (go_at_call 66; refine (D1 _ _ hS).mono ?_; clear hS; rintro e w ⟨rfl, hS⟩))
      go_ret2
      exact ⟨rfl, hS⟩
end Go.Proofs.YthackanffcaejaaDoor
