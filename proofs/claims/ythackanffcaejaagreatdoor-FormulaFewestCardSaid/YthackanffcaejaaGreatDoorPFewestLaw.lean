/- FormulaFewest: the law's walk. -/
import Derived.Test.YthackanffcaejaaGreatDoorM1
import Derived.Test.YthackanffcaejaaGreatDoorM18
import Derived.Test.YthackanffcaejaaGreatDoorM21
import Derived.Test.YthackanffcaejaaGreatDoorM22
set_option linter.unusedSimpArgs false
set_option linter.unusedVariables false
set_option maxRecDepth 20000
namespace Go.Proofs.YthackanffcaejaaGreatDoor
open Go Go.RowKit Go.SL Go.ClauseP Go.LexP

theorem ex_mid (x : List UInt8) (k q : Nat) : (⟨x.toArray⟩ : ByteArray).extract k q = ⟨((x.take q).drop k).toArray⟩ := by
  apply ByteArray.ext
  rw [List.drop_take]
  simp only [ByteArray.data_extract, List.extract_toArray, List.extract_eq_take_drop]
theorem ex_pre (x : List UInt8) (q : Nat) : (⟨x.toArray⟩ : ByteArray).extract 0 q = ⟨(x.take q).toArray⟩ := by rw [ex_mid]; rfl
theorem ex_suf (x : List UInt8) (k : Nat) : (⟨x.toArray⟩ : ByteArray).extract k x.length = ⟨(x.drop k).toArray⟩ := by rw [ex_mid, List.take_length]
section
variable (fs : List (Int × Int)) (hl : fs.length ≤ 8796093022200) (ad : Option Addr) (cap : Nat) (w0 : World) (hr : Rd (base w0) ad (Fs fs)) (htb : Tab w0) (hSE : SigE w0)
include hl hr htb hSE
set_option maxHeartbeats 4000000 in
theorem fewestNone (c : Int) (hp : printsP fs = ([], c)) : Calls Tryz.prog 5 #[.slice ad fs.length cap] w0 fun e w' => e = .returned (.bool true) ∧ Sat w0 w' [base w0] := by
  have hS := Sat.start w0
  have AC := fun w1 R hm h => aliveC w0 w1 R hm hSE htb h
  have PD := fun w1 R h hA => printD fs (by omega) ad cap w0 w1 R h (A := base w0) hA hr
  have PE := fun w1 R h hA => printE fs (by omega) ad cap w0 w1 R h (A := base w0) hA hr hA htb
  simp only [hp] at PD PE
  clear hp
  go_enter Tryz.func5, Tryz.ntmps5
  go_wp2_with (first | (go_at_call 11; refine (AC _ _ mem_hd hS).mono ?_; clear hS; rintro e w ⟨rfl, hS⟩) | (go_at_call 13; refine (PD _ _ hS mem_hd).mono ?_; clear hS; rintro e w ⟨rfl, hS⟩) | (go_at_call 14; refine (PE _ _ hS mem_hd).mono ?_; clear hS; rintro e w ⟨rfl, hS⟩))
  go_loopw [8] (fun i wr => i = .int .i64 0 ∧ Sat w0 wr [base w0]) (fun _ _ => 0)
  case atStart => exact ⟨rfl, hS⟩
  case round =>
    clear hS
    obtain ⟨rfl, hS⟩ := hrel
    go_wp2
    go_ret
    exact ⟨rfl, hS⟩
set_option maxHeartbeats 8000000 in
theorem fewestSome (s : List UInt8) (hp : printsP fs = (s, 0)) (hls : s.length ≤ 1048576) (hB : Bal s) (hF : ∀ (t : List UInt8) (r : (Int × Nat) ⊕ T), ParseR t r → t.count 40 < s.count 40 → ∀ x, r = .inr x → fs ≠ post x ∧ (post x).length ≤ 65536) (hne : fs ≠ []) : Calls Tryz.prog 5 #[.slice ad fs.length cap] w0 fun e w' => e = .returned (.bool true) ∧ Sat w0 w' [base w0] := by
  have hS := Sat.start w0
  have AC := fun w1 R hm h => aliveC w0 w1 R hm hSE htb h
  have PD := fun w1 R h hA => printD fs (by omega) ad cap w0 w1 R h (A := base w0) hA hr
  have PE := fun w1 R h hA => printE fs (by omega) ad cap w0 w1 R h (A := base w0) hA hr hA htb
  have PC := fun k hk w1 R h => partnerC s hls k hk w0 w1 R h
  have PF := fun t ht w1 R hm h => parseF t ht w0 w1 hSE R hm h
  have SG := fun gs hg ad2 cap2 w1 R h => sameG fs gs hl hg ad cap ad2 cap2 w0 w1 R h (A := base w0) (B := own 50 2 ad2 gs.length cap2 (Fs gs))
  simp only [hp] at PD PE
  have HB := hid hB
  have HF := hid hF
  clear hp hB hF
  go_enter Tryz.func5, Tryz.ntmps5
  go_wp2_with (first | (go_at_call 11; refine (AC _ _ mem_hd hS).mono ?_; clear hS; rintro e w ⟨rfl, hS⟩) | (go_at_call 13; refine (PD _ _ hS mem_hd).mono ?_; clear hS; rintro e w ⟨rfl, hS⟩) | (go_at_call 14; refine (PE _ _ hS mem_hd).mono ?_; clear hS; rintro e w ⟨rfl, hS⟩))
  clear PD PE AC
  go_loopw [8] (fun i wr => ∃ k : Nat, i = .int .i64 k ∧ k ≤ s.length ∧ Sat w0 wr [base w0]) (fun i _ => s.length - (intOf i).toNat)
  case atStart => exact ⟨0, rfl, Nat.zero_le _, hS⟩
  case round =>
    clear hS
    obtain ⟨k, rfl, hk, hS⟩ := hrel
    by_cases hlt : k < s.length
    · obtain ⟨c, hc⟩ : ∃ c, s[k]? = some c := ⟨_, List.getElem?_eq_getElem hlt⟩
      obtain ⟨hpk, hck⟩ := byteAt s k c hc
      have hkt : (k : Int) < (s.length : Int) := by omega
      by_cases h40 : c = 40
      · have e40 : ((c.toNat : Int) != 40) = false := by rw [h40]; rfl
        obtain ⟨hq1, hq2, hq3⟩ := HB.out.partner (by rw [hc, h40])
        have HC := hid (strip_count (by rw [hc, h40]) hq1 hq2)
        have HL := strip_len hq1 hq2
        have PCk := PC k (by omega)
        have hx1 := ex_pre s k
        generalize hQ : partG (s.drop k) 0 k = q at *
        clear hQ PC HB hq3 hc
        have hx2 := ex_mid s (k + 1) q
        have hx3 := ex_suf s (q + 1)
        have hqt : (q : Int) < (s.length : Int) := by omega
        have ha1 : ((k : Int) + 1).toNat = k + 1 := by omega
        have ha2 : (0 : Int) ≤ (k : Int) + 1 := by omega
        have ha3 : (k : Int) + 1 ≤ (q : Int) := by omega
        have ha4 : (q : Int) ≤ (s.length : Int) := by omega
        have hb1 : ((q : Int) + 1).toNat = q + 1 := by omega
        have hb2 : (0 : Int) ≤ (q : Int) + 1 := by omega
        have hb3 : (q : Int) + 1 ≤ (s.length : Int) := by omega
        have PFk := PF (strip s k q) (by omega)
        have HFk := hid (fun r h => HF.out (strip s k q) r h HC.out)
        clear HF HC PF
        generalize hT : strip s k q = t at *
        have HTe := hid (show s.take k ++ ((s.take q).drop (k + 1) ++ s.drop (q + 1)) = t by rw [← List.append_assoc]; exact hT)
        clear hT
        rcases Nat.eq_zero_or_pos k with h0 | h0
        · have hn0 : ¬ (0 : Int) < (k : Int) := by omega
          have hn1 : ¬ 0 < k := by omega
          clear h0
          go_wp2_with (first | (go_at_call 18; refine (PCk _ _ hS).mono ?_; clear hS; rintro e w ⟨rfl, hS⟩) | ((with_reducible apply Cont.intro); (first | (focus (apply Or.inr; apply (Sat.sb hS); (repeat (first | with_reducible exact Sb.refl | with_reducible exact Sb.nil | (with_reducible refine Sb.take (by (repeat (with_reducible first | exact Rem.hd | apply Rem.tl)); done) ?_) | with_reducible apply Sb.skip)); done)) | (exact Or.inl (by kernel_rfl))); intro hR hC) | ((first | ((with_reducible apply draw_pure (i := 0)); (simp only [q4, q6, q5]; with_reducible rfl); kernel_rfl; kernel_rfl; decide +kernel; rfl; exact hC; exact (fun _ _ _ h => h); exact hR; with_reducible exact wanted_none) | ((with_reducible apply draw_pure (i := 1)); (simp only [q4, q6, q5]; with_reducible rfl); kernel_rfl; kernel_rfl; decide +kernel; rfl; exact hC; exact (fun _ _ _ h => h); exact hR; with_reducible exact wanted_none) | ((with_reducible apply draw_pure (i := 2)); (simp only [q4, q6, q5]; with_reducible rfl); kernel_rfl; kernel_rfl; decide +kernel; rfl; exact hC; exact (fun _ _ _ h => h); exact hR; with_reducible exact wanted_none) | ((with_reducible apply draw_pure (i := 3)); (simp only [q4, q6, q5]; with_reducible rfl); kernel_rfl; kernel_rfl; decide +kernel; rfl; exact hC; exact (fun _ _ _ h => h); exact hR; with_reducible exact wanted_none) | ((with_reducible apply draw_pure (i := 4)); (simp only [q4, q6, q5]; with_reducible rfl); kernel_rfl; kernel_rfl; decide +kernel; rfl; exact hC; exact (fun _ _ _ h => h); exact hR; with_reducible exact wanted_none) | ((with_reducible apply draw_pure (i := 6)); (simp only [q4, q6, q5]; with_reducible rfl); kernel_rfl; kernel_rfl; decide +kernel; rfl; exact hC; exact (fun _ _ _ h => h); exact hR; with_reducible exact wanted_none) | ((with_reducible apply draw_pure (i := 7)); (simp only [q4, q6, q5]; with_reducible rfl); kernel_rfl; kernel_rfl; decide +kernel; rfl; exact hC; exact (fun _ _ _ h => h); exact hR; with_reducible exact wanted_none) | ((with_reducible apply draw_pure (i := 9)); (simp only [q4, q6, q5]; with_reducible rfl); kernel_rfl; kernel_rfl; decide +kernel; rfl; exact hC; exact (fun _ _ _ h => h); exact hR; with_reducible exact wanted_none) | ((with_reducible apply draw_pure (i := 10)); (simp only [q4, q6, q5]; with_reducible rfl); kernel_rfl; kernel_rfl; decide +kernel; rfl; exact hC; exact (fun _ _ _ h => h); exact hR; with_reducible exact wanted_none) | ((with_reducible apply draw_pure (i := 12)); (simp only [q4, q6, q5]; with_reducible rfl); kernel_rfl; kernel_rfl; decide +kernel; rfl; exact hC; exact (fun _ _ _ h => h); exact hR; with_reducible exact wanted_none) | ((with_reducible apply draw_pure (i := 14)); (simp only [q4, q6, q5]; with_reducible rfl); kernel_rfl; kernel_rfl; decide +kernel; rfl; exact hC; exact (fun _ _ _ h => h); exact hR; with_reducible exact wanted_none)); (intro w; first | (go_simp; done) | (go_simp; rw [wrapI (by omega) (by omega)]) | (go_simp; with_reducible rfl) | (go_simp; rfl)); (clear hR hC; intro hR hC); (try simp only [Act.put, q1, q2, q3])) | ((first | ((with_reducible apply draw_pure (i := 5)); (simp only [q4, q6, q5]; with_reducible rfl); kernel_rfl; kernel_rfl; decide +kernel; rfl; exact hC; exact (fun _ _ _ h => h); exact hR; with_reducible exact wanted_none) | ((with_reducible apply draw_pure (i := 8)); (simp only [q4, q6, q5]; with_reducible rfl); kernel_rfl; kernel_rfl; decide +kernel; rfl; exact hC; exact (fun _ _ _ h => h); exact hR; with_reducible exact wanted_none) | ((with_reducible apply draw_pure (i := 11)); (simp only [q4, q6, q5]; with_reducible rfl); kernel_rfl; kernel_rfl; decide +kernel; rfl; exact hC; exact (fun _ _ _ h => h); exact hR; with_reducible exact wanted_none) | ((with_reducible apply draw_pure (i := 13)); (simp only [q4, q6, q5]; with_reducible rfl); kernel_rfl; kernel_rfl; decide +kernel; rfl; exact hC; exact (fun _ _ _ h => h); exact hR; with_reducible exact wanted_none)); (intro w; first | (exact run_op_addStr rfl (by (first | exact ev_tmp rfl | exact ev_const)) (by (first | exact ev_tmp rfl | exact ev_const)) (by (first | omega | (simp only [List.length_append, List.length_cons, List.length_nil]; omega) | (simp; omega)))) | (go_simp; done) | (go_simp; rw [wrapI (by omega) (by omega)]) | (go_simp; with_reducible rfl) | (go_simp; rfl)); (clear hR hC; intro hR hC); (try simp only [Act.put, q1, q2, q3])) | ((with_reducible apply draw_done); decide +kernel; clear hR hC) | (refine draw_sat 15 15 hS (by kernel_rfl) [] rfl ?_; clear hS; intro w hS hR hC))
          refine (show Calls Tryz.prog 15 #[.string ⟨(s.take k ++ ((s.take q).drop (k + 1) ++ s.drop (q + 1))).toArray⟩] _ _ by rw [HTe.out]; exact PFk _ _ (by (repeat (with_reducible first | exact mem_hd | apply mem_tl))) hS).mono ?_
          clear hS PCk PFk hx1 hx2 hx3
          rintro e w1 ⟨r, hpr, hq⟩
          have hF := HFk.out r hpr
          clear HFk
          cases r with
          | inl d =>
            obtain ⟨dc, dp⟩ := d
            obtain ⟨rfl, hS⟩ := hq
            generalize spotP t dp = sp
            obtain ⟨sl, sc⟩ := sp
            dsimp only
            clear hF hpr
            by_cases hd : dc = 0
            · have hd2 : (dc == 0) = true := by simp [hd]
              replace hS := hS.ownNil 50 2
              have SGx := SG [] (by simp) none 0
              simp only [decide_eq_false hne, List.length_nil, Fs] at SGx
              clear hd
              go_wp2_with (first | ((with_reducible apply arm_alloc hS); (first | with_reducible exact wanted_none | exact wanted_guard rfl rfl); (with_reducible first | exact z22 | exact z29 | exact z31 | exact z50); clear hS; intro NB w hS; (try simp only [Act.put, q1, q2, q3])) | ((with_reducible apply arm_storeN hS); (first | with_reducible exact wanted_none | exact wanted_guard rfl rfl); (first | exact ev_tmp rfl | exact ev_const); (first | exact ev_tmp rfl | exact ev_const); (repeat (with_reducible first | exact mem_hd | apply mem_tl)); rfl; (first | (focus (simp; done)) | (simp; omega) | omega); (repeat (with_reducible first | exact Upd.hd | apply Upd.tl)); rfl; (with_reducible first | exact sz29 | exact sz31 | exact sz50); rfl; clear hS; intro w hS; (try simp only [setFrom, q2, q3] at hS); (try simp only [Act.put, q1, q2, q3])) | ((with_reducible apply arm_load hS); (first | with_reducible exact wanted_none | exact wanted_guard rfl rfl); (first | exact ev_tmp rfl | exact ev_const); (repeat (with_reducible first | exact mem_hd | apply mem_tl)); rfl; decide +kernel; (try simp only [Act.put, q1, q2, q3])) | ((with_reducible apply arm_loadN hS); (first | with_reducible exact wanted_none | exact wanted_guard rfl rfl); (first | exact ev_tmp rfl | exact ev_const); (repeat (with_reducible first | exact mem_hd | apply mem_tl)); (with_reducible first | exact sz29 | exact sz31 | exact sz50); decide +kernel; rfl; rfl; (try simp only [Act.put, q1, q2, q3])) | ((with_reducible apply arm_fieldAddrE); (first | with_reducible exact wanted_none | exact wanted_guard rfl rfl); (first | exact ev_tmp rfl | exact ev_const); (first | exact hS.ownNN (by (repeat (with_reducible first | exact mem_hd | apply mem_tl))) (by omega) | exact Sat.rdAd2 (by assumption) hS (by ((repeat (with_reducible first | exact mem_hd | apply mem_tl))); try assumption) (by first | (simp only [Is_length, Bs_length, List.length_take, List.length_drop]; omega) | omega | (simp; omega) | (simp; done)) | assumption); (with_reducible first | exact fo29_0 | exact fo29_1 | exact fo31_0 | exact fo31_1 | exact fo50_0 | exact fo50_1); (try simp only [Act.put, q1, q2, q3])) | (go_at_call 16; refine (SGx _ _ hS (by (repeat (with_reducible first | exact mem_hd | apply mem_tl))) (by (repeat (with_reducible first | exact mem_hd | apply mem_tl))) hr Rd.of_own).mono ?_; clear hS; rintro e w ⟨rfl, hS⟩))
              go_roundw
              case rel => exact ⟨k + 1, by go_num, by omega, hS.sb (by (repeat (first | with_reducible exact Sb.refl | with_reducible exact Sb.nil | (with_reducible refine Sb.take (by (repeat (with_reducible first | exact Rem.hd | apply Rem.tl)); done) ?_) | with_reducible apply Sb.skip)))⟩
              case measure => simp [intOf]; omega
            · have hd2 : (dc == 0) = false := by simp [hd]
              go_wp2_with (first | ((with_reducible apply arm_alloc hS); (first | with_reducible exact wanted_none | exact wanted_guard rfl rfl); (with_reducible first | exact z22 | exact z29 | exact z31 | exact z50); clear hS; intro NB w hS; (try simp only [Act.put, q1, q2, q3])) | ((with_reducible apply arm_storeN hS); (first | with_reducible exact wanted_none | exact wanted_guard rfl rfl); (first | exact ev_tmp rfl | exact ev_const); (first | exact ev_tmp rfl | exact ev_const); (repeat (with_reducible first | exact mem_hd | apply mem_tl)); rfl; (first | (focus (simp; done)) | (simp; omega) | omega); (repeat (with_reducible first | exact Upd.hd | apply Upd.tl)); rfl; (with_reducible first | exact sz29 | exact sz31 | exact sz50); rfl; clear hS; intro w hS; (try simp only [setFrom, q2, q3] at hS); (try simp only [Act.put, q1, q2, q3])) | ((with_reducible apply arm_load hS); (first | with_reducible exact wanted_none | exact wanted_guard rfl rfl); (first | exact ev_tmp rfl | exact ev_const); (repeat (with_reducible first | exact mem_hd | apply mem_tl)); rfl; decide +kernel; (try simp only [Act.put, q1, q2, q3])) | ((with_reducible apply arm_loadN hS); (first | with_reducible exact wanted_none | exact wanted_guard rfl rfl); (first | exact ev_tmp rfl | exact ev_const); (repeat (with_reducible first | exact mem_hd | apply mem_tl)); (with_reducible first | exact sz29 | exact sz31 | exact sz50); decide +kernel; rfl; rfl; (try simp only [Act.put, q1, q2, q3])) | ((with_reducible apply arm_fieldAddrE); (first | with_reducible exact wanted_none | exact wanted_guard rfl rfl); (first | exact ev_tmp rfl | exact ev_const); (first | exact hS.ownNN (by (repeat (with_reducible first | exact mem_hd | apply mem_tl))) (by omega) | exact Sat.rdAd2 (by assumption) hS (by ((repeat (with_reducible first | exact mem_hd | apply mem_tl))); try assumption) (by first | (simp only [Is_length, Bs_length, List.length_take, List.length_drop]; omega) | omega | (simp; omega) | (simp; done)) | assumption); (with_reducible first | exact fo29_0 | exact fo29_1 | exact fo31_0 | exact fo31_1 | exact fo50_0 | exact fo50_1); (try simp only [Act.put, q1, q2, q3])))
              go_roundw
              case rel => exact ⟨k + 1, by go_num, by omega, hS.sb (by (repeat (first | with_reducible exact Sb.refl | with_reducible exact Sb.nil | (with_reducible refine Sb.take (by (repeat (with_reducible first | exact Rem.hd | apply Rem.tl)); done) ?_) | with_reducible apply Sb.skip)))⟩
              case measure => simp [intOf]; omega
          | inr x =>
            obtain ⟨h1, h2⟩ := hF x rfl
            obtain ⟨ad2, cap2, rfl, hS⟩ := hq
            have SGx := SG (post x) (by omega) ad2 cap2
            simp only [decide_eq_false h1] at SGx
            clear hF hpr h1
            generalize post x = out at *
            go_wp2_with (first | ((with_reducible apply arm_alloc hS); (first | with_reducible exact wanted_none | exact wanted_guard rfl rfl); (with_reducible first | exact z22 | exact z29 | exact z31 | exact z50); clear hS; intro NB w hS; (try simp only [Act.put, q1, q2, q3])) | ((with_reducible apply arm_storeN hS); (first | with_reducible exact wanted_none | exact wanted_guard rfl rfl); (first | exact ev_tmp rfl | exact ev_const); (first | exact ev_tmp rfl | exact ev_const); (repeat (with_reducible first | exact mem_hd | apply mem_tl)); rfl; (first | (focus (simp; done)) | (simp; omega) | omega); (repeat (with_reducible first | exact Upd.hd | apply Upd.tl)); rfl; (with_reducible first | exact sz29 | exact sz31 | exact sz50); rfl; clear hS; intro w hS; (try simp only [setFrom, q2, q3] at hS); (try simp only [Act.put, q1, q2, q3])) | ((with_reducible apply arm_load hS); (first | with_reducible exact wanted_none | exact wanted_guard rfl rfl); (first | exact ev_tmp rfl | exact ev_const); (repeat (with_reducible first | exact mem_hd | apply mem_tl)); rfl; decide +kernel; (try simp only [Act.put, q1, q2, q3])) | ((with_reducible apply arm_loadN hS); (first | with_reducible exact wanted_none | exact wanted_guard rfl rfl); (first | exact ev_tmp rfl | exact ev_const); (repeat (with_reducible first | exact mem_hd | apply mem_tl)); (with_reducible first | exact sz29 | exact sz31 | exact sz50); decide +kernel; rfl; rfl; (try simp only [Act.put, q1, q2, q3])) | ((with_reducible apply arm_fieldAddrE); (first | with_reducible exact wanted_none | exact wanted_guard rfl rfl); (first | exact ev_tmp rfl | exact ev_const); (first | exact hS.ownNN (by (repeat (with_reducible first | exact mem_hd | apply mem_tl))) (by omega) | exact Sat.rdAd2 (by assumption) hS (by ((repeat (with_reducible first | exact mem_hd | apply mem_tl))); try assumption) (by first | (simp only [Is_length, Bs_length, List.length_take, List.length_drop]; omega) | omega | (simp; omega) | (simp; done)) | assumption); (with_reducible first | exact fo29_0 | exact fo29_1 | exact fo31_0 | exact fo31_1 | exact fo50_0 | exact fo50_1); (try simp only [Act.put, q1, q2, q3])) | (go_at_call 16; refine (SGx _ _ hS (by (repeat (with_reducible first | exact mem_hd | apply mem_tl))) (by (repeat (with_reducible first | exact mem_hd | apply mem_tl))) hr Rd.of_own).mono ?_; clear hS; rintro e w ⟨rfl, hS⟩))
            go_roundw
            case rel => exact ⟨k + 1, by go_num, by omega, hS.sb (by (repeat (first | with_reducible exact Sb.refl | with_reducible exact Sb.nil | (with_reducible refine Sb.take (by (repeat (with_reducible first | exact Rem.hd | apply Rem.tl)); done) ?_) | with_reducible apply Sb.skip)))⟩
            case measure => simp [intOf]; omega
        · obtain ⟨j, hj⟩ : ∃ j, k = j + 1 := ⟨k - 1, by omega⟩
          have hkj : (k : Int) - 1 = (j : Int) := by omega
          obtain ⟨c', hc'⟩ : ∃ c', s[j]? = some c' := ⟨_, List.getElem?_eq_getElem (by omega)⟩
          obtain ⟨hpj, hcj⟩ := byteAt s j c' hc'
          have hjt : (j : Int) < (s.length : Int) := by omega
          have hjp : (0 : Int) < (k : Int) := by omega
          have hjs : j < s.length := by omega
          clear hj
          by_cases h101 : c' = 101
          · have e101 : ((c'.toNat : Int) == 101) = true := by rw [h101]; rfl
            clear hc' h101 hx1 hx2 hx3 PCk PFk HFk
            go_wp2
            go_roundw
            case rel => exact ⟨k + 1, by go_num, by omega, hS⟩
            case measure => simp [intOf]; omega
          · have e101 : ((c'.toNat : Int) == 101) = false := by rw [u8_eq c' 101 101 rfl]; simp [h101]
            clear hc' h101
            go_wp2_with (first | (go_at_call 18; refine (PCk _ _ hS).mono ?_; clear hS; rintro e w ⟨rfl, hS⟩) | ((with_reducible apply Cont.intro); (first | (focus (apply Or.inr; apply (Sat.sb hS); (repeat (first | with_reducible exact Sb.refl | with_reducible exact Sb.nil | (with_reducible refine Sb.take (by (repeat (with_reducible first | exact Rem.hd | apply Rem.tl)); done) ?_) | with_reducible apply Sb.skip)); done)) | (exact Or.inl (by kernel_rfl))); intro hR hC) | ((first | ((with_reducible apply draw_pure (i := 0)); (simp only [q4, q6, q5]; with_reducible rfl); kernel_rfl; kernel_rfl; decide +kernel; rfl; exact hC; exact (fun _ _ _ h => h); exact hR; with_reducible exact wanted_none) | ((with_reducible apply draw_pure (i := 1)); (simp only [q4, q6, q5]; with_reducible rfl); kernel_rfl; kernel_rfl; decide +kernel; rfl; exact hC; exact (fun _ _ _ h => h); exact hR; with_reducible exact wanted_none) | ((with_reducible apply draw_pure (i := 2)); (simp only [q4, q6, q5]; with_reducible rfl); kernel_rfl; kernel_rfl; decide +kernel; rfl; exact hC; exact (fun _ _ _ h => h); exact hR; with_reducible exact wanted_none) | ((with_reducible apply draw_pure (i := 3)); (simp only [q4, q6, q5]; with_reducible rfl); kernel_rfl; kernel_rfl; decide +kernel; rfl; exact hC; exact (fun _ _ _ h => h); exact hR; with_reducible exact wanted_none) | ((with_reducible apply draw_pure (i := 4)); (simp only [q4, q6, q5]; with_reducible rfl); kernel_rfl; kernel_rfl; decide +kernel; rfl; exact hC; exact (fun _ _ _ h => h); exact hR; with_reducible exact wanted_none) | ((with_reducible apply draw_pure (i := 6)); (simp only [q4, q6, q5]; with_reducible rfl); kernel_rfl; kernel_rfl; decide +kernel; rfl; exact hC; exact (fun _ _ _ h => h); exact hR; with_reducible exact wanted_none) | ((with_reducible apply draw_pure (i := 7)); (simp only [q4, q6, q5]; with_reducible rfl); kernel_rfl; kernel_rfl; decide +kernel; rfl; exact hC; exact (fun _ _ _ h => h); exact hR; with_reducible exact wanted_none) | ((with_reducible apply draw_pure (i := 9)); (simp only [q4, q6, q5]; with_reducible rfl); kernel_rfl; kernel_rfl; decide +kernel; rfl; exact hC; exact (fun _ _ _ h => h); exact hR; with_reducible exact wanted_none) | ((with_reducible apply draw_pure (i := 10)); (simp only [q4, q6, q5]; with_reducible rfl); kernel_rfl; kernel_rfl; decide +kernel; rfl; exact hC; exact (fun _ _ _ h => h); exact hR; with_reducible exact wanted_none) | ((with_reducible apply draw_pure (i := 12)); (simp only [q4, q6, q5]; with_reducible rfl); kernel_rfl; kernel_rfl; decide +kernel; rfl; exact hC; exact (fun _ _ _ h => h); exact hR; with_reducible exact wanted_none) | ((with_reducible apply draw_pure (i := 14)); (simp only [q4, q6, q5]; with_reducible rfl); kernel_rfl; kernel_rfl; decide +kernel; rfl; exact hC; exact (fun _ _ _ h => h); exact hR; with_reducible exact wanted_none)); (intro w; first | (go_simp; done) | (go_simp; rw [wrapI (by omega) (by omega)]) | (go_simp; with_reducible rfl) | (go_simp; rfl)); (clear hR hC; intro hR hC); (try simp only [Act.put, q1, q2, q3])) | ((first | ((with_reducible apply draw_pure (i := 5)); (simp only [q4, q6, q5]; with_reducible rfl); kernel_rfl; kernel_rfl; decide +kernel; rfl; exact hC; exact (fun _ _ _ h => h); exact hR; with_reducible exact wanted_none) | ((with_reducible apply draw_pure (i := 8)); (simp only [q4, q6, q5]; with_reducible rfl); kernel_rfl; kernel_rfl; decide +kernel; rfl; exact hC; exact (fun _ _ _ h => h); exact hR; with_reducible exact wanted_none) | ((with_reducible apply draw_pure (i := 11)); (simp only [q4, q6, q5]; with_reducible rfl); kernel_rfl; kernel_rfl; decide +kernel; rfl; exact hC; exact (fun _ _ _ h => h); exact hR; with_reducible exact wanted_none) | ((with_reducible apply draw_pure (i := 13)); (simp only [q4, q6, q5]; with_reducible rfl); kernel_rfl; kernel_rfl; decide +kernel; rfl; exact hC; exact (fun _ _ _ h => h); exact hR; with_reducible exact wanted_none)); (intro w; first | (exact run_op_addStr rfl (by (first | exact ev_tmp rfl | exact ev_const)) (by (first | exact ev_tmp rfl | exact ev_const)) (by (first | omega | (simp only [List.length_append, List.length_cons, List.length_nil]; omega) | (simp; omega)))) | (go_simp; done) | (go_simp; rw [wrapI (by omega) (by omega)]) | (go_simp; with_reducible rfl) | (go_simp; rfl)); (clear hR hC; intro hR hC); (try simp only [Act.put, q1, q2, q3])) | ((with_reducible apply draw_done); decide +kernel; clear hR hC) | (refine draw_sat 15 15 hS (by kernel_rfl) [] rfl ?_; clear hS; intro w hS hR hC))
            refine (show Calls Tryz.prog 15 #[.string ⟨(s.take k ++ ((s.take q).drop (k + 1) ++ s.drop (q + 1))).toArray⟩] _ _ by rw [HTe.out]; exact PFk _ _ (by (repeat (with_reducible first | exact mem_hd | apply mem_tl))) hS).mono ?_
            clear hS PCk PFk hx1 hx2 hx3
            rintro e w1 ⟨r, hpr, hq⟩
            have hF := HFk.out r hpr
            clear HFk
            cases r with
            | inl d =>
              obtain ⟨dc, dp⟩ := d
              obtain ⟨rfl, hS⟩ := hq
              generalize spotP t dp = sp
              obtain ⟨sl, sc⟩ := sp
              dsimp only
              clear hF hpr
              by_cases hd : dc = 0
              · have hd2 : (dc == 0) = true := by simp [hd]
                replace hS := hS.ownNil 50 2
                have SGx := SG [] (by simp) none 0
                simp only [decide_eq_false hne, List.length_nil, Fs] at SGx
                clear hd
                go_wp2_with (first | ((with_reducible apply arm_alloc hS); (first | with_reducible exact wanted_none | exact wanted_guard rfl rfl); (with_reducible first | exact z22 | exact z29 | exact z31 | exact z50); clear hS; intro NB w hS; (try simp only [Act.put, q1, q2, q3])) | ((with_reducible apply arm_storeN hS); (first | with_reducible exact wanted_none | exact wanted_guard rfl rfl); (first | exact ev_tmp rfl | exact ev_const); (first | exact ev_tmp rfl | exact ev_const); (repeat (with_reducible first | exact mem_hd | apply mem_tl)); rfl; (first | (focus (simp; done)) | (simp; omega) | omega); (repeat (with_reducible first | exact Upd.hd | apply Upd.tl)); rfl; (with_reducible first | exact sz29 | exact sz31 | exact sz50); rfl; clear hS; intro w hS; (try simp only [setFrom, q2, q3] at hS); (try simp only [Act.put, q1, q2, q3])) | ((with_reducible apply arm_load hS); (first | with_reducible exact wanted_none | exact wanted_guard rfl rfl); (first | exact ev_tmp rfl | exact ev_const); (repeat (with_reducible first | exact mem_hd | apply mem_tl)); rfl; decide +kernel; (try simp only [Act.put, q1, q2, q3])) | ((with_reducible apply arm_loadN hS); (first | with_reducible exact wanted_none | exact wanted_guard rfl rfl); (first | exact ev_tmp rfl | exact ev_const); (repeat (with_reducible first | exact mem_hd | apply mem_tl)); (with_reducible first | exact sz29 | exact sz31 | exact sz50); decide +kernel; rfl; rfl; (try simp only [Act.put, q1, q2, q3])) | ((with_reducible apply arm_fieldAddrE); (first | with_reducible exact wanted_none | exact wanted_guard rfl rfl); (first | exact ev_tmp rfl | exact ev_const); (first | exact hS.ownNN (by (repeat (with_reducible first | exact mem_hd | apply mem_tl))) (by omega) | exact Sat.rdAd2 (by assumption) hS (by ((repeat (with_reducible first | exact mem_hd | apply mem_tl))); try assumption) (by first | (simp only [Is_length, Bs_length, List.length_take, List.length_drop]; omega) | omega | (simp; omega) | (simp; done)) | assumption); (with_reducible first | exact fo29_0 | exact fo29_1 | exact fo31_0 | exact fo31_1 | exact fo50_0 | exact fo50_1); (try simp only [Act.put, q1, q2, q3])) | (go_at_call 16; refine (SGx _ _ hS (by (repeat (with_reducible first | exact mem_hd | apply mem_tl))) (by (repeat (with_reducible first | exact mem_hd | apply mem_tl))) hr Rd.of_own).mono ?_; clear hS; rintro e w ⟨rfl, hS⟩))
                go_roundw
                case rel => exact ⟨k + 1, by go_num, by omega, hS.sb (by (repeat (first | with_reducible exact Sb.refl | with_reducible exact Sb.nil | (with_reducible refine Sb.take (by (repeat (with_reducible first | exact Rem.hd | apply Rem.tl)); done) ?_) | with_reducible apply Sb.skip)))⟩
                case measure => simp [intOf]; omega
              · have hd2 : (dc == 0) = false := by simp [hd]
                go_wp2_with (first | ((with_reducible apply arm_alloc hS); (first | with_reducible exact wanted_none | exact wanted_guard rfl rfl); (with_reducible first | exact z22 | exact z29 | exact z31 | exact z50); clear hS; intro NB w hS; (try simp only [Act.put, q1, q2, q3])) | ((with_reducible apply arm_storeN hS); (first | with_reducible exact wanted_none | exact wanted_guard rfl rfl); (first | exact ev_tmp rfl | exact ev_const); (first | exact ev_tmp rfl | exact ev_const); (repeat (with_reducible first | exact mem_hd | apply mem_tl)); rfl; (first | (focus (simp; done)) | (simp; omega) | omega); (repeat (with_reducible first | exact Upd.hd | apply Upd.tl)); rfl; (with_reducible first | exact sz29 | exact sz31 | exact sz50); rfl; clear hS; intro w hS; (try simp only [setFrom, q2, q3] at hS); (try simp only [Act.put, q1, q2, q3])) | ((with_reducible apply arm_load hS); (first | with_reducible exact wanted_none | exact wanted_guard rfl rfl); (first | exact ev_tmp rfl | exact ev_const); (repeat (with_reducible first | exact mem_hd | apply mem_tl)); rfl; decide +kernel; (try simp only [Act.put, q1, q2, q3])) | ((with_reducible apply arm_loadN hS); (first | with_reducible exact wanted_none | exact wanted_guard rfl rfl); (first | exact ev_tmp rfl | exact ev_const); (repeat (with_reducible first | exact mem_hd | apply mem_tl)); (with_reducible first | exact sz29 | exact sz31 | exact sz50); decide +kernel; rfl; rfl; (try simp only [Act.put, q1, q2, q3])) | ((with_reducible apply arm_fieldAddrE); (first | with_reducible exact wanted_none | exact wanted_guard rfl rfl); (first | exact ev_tmp rfl | exact ev_const); (first | exact hS.ownNN (by (repeat (with_reducible first | exact mem_hd | apply mem_tl))) (by omega) | exact Sat.rdAd2 (by assumption) hS (by ((repeat (with_reducible first | exact mem_hd | apply mem_tl))); try assumption) (by first | (simp only [Is_length, Bs_length, List.length_take, List.length_drop]; omega) | omega | (simp; omega) | (simp; done)) | assumption); (with_reducible first | exact fo29_0 | exact fo29_1 | exact fo31_0 | exact fo31_1 | exact fo50_0 | exact fo50_1); (try simp only [Act.put, q1, q2, q3])))
                go_roundw
                case rel => exact ⟨k + 1, by go_num, by omega, hS.sb (by (repeat (first | with_reducible exact Sb.refl | with_reducible exact Sb.nil | (with_reducible refine Sb.take (by (repeat (with_reducible first | exact Rem.hd | apply Rem.tl)); done) ?_) | with_reducible apply Sb.skip)))⟩
                case measure => simp [intOf]; omega
            | inr x =>
              obtain ⟨h1, h2⟩ := hF x rfl
              obtain ⟨ad2, cap2, rfl, hS⟩ := hq
              have SGx := SG (post x) (by omega) ad2 cap2
              simp only [decide_eq_false h1] at SGx
              clear hF hpr h1
              generalize post x = out at *
              go_wp2_with (first | ((with_reducible apply arm_alloc hS); (first | with_reducible exact wanted_none | exact wanted_guard rfl rfl); (with_reducible first | exact z22 | exact z29 | exact z31 | exact z50); clear hS; intro NB w hS; (try simp only [Act.put, q1, q2, q3])) | ((with_reducible apply arm_storeN hS); (first | with_reducible exact wanted_none | exact wanted_guard rfl rfl); (first | exact ev_tmp rfl | exact ev_const); (first | exact ev_tmp rfl | exact ev_const); (repeat (with_reducible first | exact mem_hd | apply mem_tl)); rfl; (first | (focus (simp; done)) | (simp; omega) | omega); (repeat (with_reducible first | exact Upd.hd | apply Upd.tl)); rfl; (with_reducible first | exact sz29 | exact sz31 | exact sz50); rfl; clear hS; intro w hS; (try simp only [setFrom, q2, q3] at hS); (try simp only [Act.put, q1, q2, q3])) | ((with_reducible apply arm_load hS); (first | with_reducible exact wanted_none | exact wanted_guard rfl rfl); (first | exact ev_tmp rfl | exact ev_const); (repeat (with_reducible first | exact mem_hd | apply mem_tl)); rfl; decide +kernel; (try simp only [Act.put, q1, q2, q3])) | ((with_reducible apply arm_loadN hS); (first | with_reducible exact wanted_none | exact wanted_guard rfl rfl); (first | exact ev_tmp rfl | exact ev_const); (repeat (with_reducible first | exact mem_hd | apply mem_tl)); (with_reducible first | exact sz29 | exact sz31 | exact sz50); decide +kernel; rfl; rfl; (try simp only [Act.put, q1, q2, q3])) | ((with_reducible apply arm_fieldAddrE); (first | with_reducible exact wanted_none | exact wanted_guard rfl rfl); (first | exact ev_tmp rfl | exact ev_const); (first | exact hS.ownNN (by (repeat (with_reducible first | exact mem_hd | apply mem_tl))) (by omega) | exact Sat.rdAd2 (by assumption) hS (by ((repeat (with_reducible first | exact mem_hd | apply mem_tl))); try assumption) (by first | (simp only [Is_length, Bs_length, List.length_take, List.length_drop]; omega) | omega | (simp; omega) | (simp; done)) | assumption); (with_reducible first | exact fo29_0 | exact fo29_1 | exact fo31_0 | exact fo31_1 | exact fo50_0 | exact fo50_1); (try simp only [Act.put, q1, q2, q3])) | (go_at_call 16; refine (SGx _ _ hS (by (repeat (with_reducible first | exact mem_hd | apply mem_tl))) (by (repeat (with_reducible first | exact mem_hd | apply mem_tl))) hr Rd.of_own).mono ?_; clear hS; rintro e w ⟨rfl, hS⟩))
              go_roundw
              case rel => exact ⟨k + 1, by go_num, by omega, hS.sb (by (repeat (first | with_reducible exact Sb.refl | with_reducible exact Sb.nil | (with_reducible refine Sb.take (by (repeat (with_reducible first | exact Rem.hd | apply Rem.tl)); done) ?_) | with_reducible apply Sb.skip)))⟩
              case measure => simp [intOf]; omega
      · have e40 : ((c.toNat : Int) != 40) = true := by rw [u8_ne c 40 40 rfl, if_neg h40]
        clear hc h40
        go_wp2
        go_roundw
        case rel => exact ⟨k + 1, by go_num, by omega, hS⟩
        case measure => simp [intOf]; omega
    · go_wp2
      go_ret
      exact ⟨rfl, hS⟩
theorem fewestLaw : Calls Tryz.prog 5 #[.slice ad fs.length cap] w0 fun e w' => e = .returned (.bool true) ∧ Sat w0 w' [base w0] := by
  cases ht : treeP fs with
  | none => exact fewestNone fs hl ad cap w0 hr htb hSE 134 (by unfold printsP; rw [ht])
  | some t =>
    obtain ⟨h1, h2, h3, h4⟩ := formed_of ht
    have hp : printsP fs = if (wr t true).length > 1048576 then ([], 5) else (wr t true, 0) := by unfold printsP; rw [ht]
    by_cases hlong : (wr t true).length > 1048576
    · rw [if_pos hlong] at hp
      exact fewestNone fs hl ad cap w0 hr htb hSE 5 hp
    · rw [if_neg hlong] at hp
      refine fewestSome fs hl ad cap w0 hr htb hSE (wr t true) hp (by omega) ((bal_wr t h1).1 true) (fun t' r hpr hc x hx => ?_) (fun e => ?_)
      · subst hx
        refine ⟨fun e => parse_fewest h1 hpr hc (by rw [← e, h4]), ?_⟩
        rw [post_len]; exact (parse_formed hpr).2.1
      · rw [h4] at e
        have e := congrArg List.length e
        rw [post_len] at e
        have := size_pos t
        simp at e; omega
end
end Go.Proofs.YthackanffcaejaaGreatDoor
