/- FormedCnf, the engine's and the document's. -/
import Derived.Test.YthackanffcaejaaDoorCnf1
set_option linter.unusedSimpArgs false
set_option linter.unusedVariables false
set_option linter.unusedSectionVars false
set_option maxRecDepth 20000
namespace Go.Proofs.YthackanffcaejaaDoor
open Go Go.RowKit Go.SL Go.CnfP

section
variable (v : Int) (es ls : List Int) (hv0 : -9223372036854775808 ≤ v) (hv1 : v ≤ 9223372036854775807) (he : es.length ≤ 9223372036854775807) (hl : ls.length ≤ 9223372036854775807)
variable (w0 w : World) (Hs : List HP) (hS : Sat w0 w Hs) {A1 A2 : HP} (h1 : A1 ∈ Hs) (h2 : A2 ∈ Hs) {ad1 ad2 : Option Addr} {c1 c2 : Nat} (r1 : Rd A1 ad1 (Is es)) (r2 : Rd A2 ad2 (Is ls))
include hv0 hv1 he hl hS h1 h2 r1 r2

set_option maxHeartbeats 1000000 in
theorem formedC : Calls Tryd.prog 9 #[.agg #[.int .i64 v, .slice ad1 es.length c1, .slice ad2 ls.length c2]] w fun e w' => e = .returned (.bool (formed v es ls)) ∧ Sat w0 w' Hs := by
  by_cases hbad : v < 0 ∨ v > 65536 ∨ (es.length : Int) > 65536 ∨ (ls.length : Int) > 1048576
  · have hf : formed v es ls = false := by simp [formed, hbad]
    rw [hf]
    clear hf
    have hbad2 : v < 0 ∨ (¬ v < 0 ∧ v > 65536) ∨ (¬ v < 0 ∧ ¬ v > 65536 ∧ (es.length : Int) > 65536) ∨ (¬ v < 0 ∧ ¬ v > 65536 ∧ ¬ (es.length : Int) > 65536 ∧ (ls.length : Int) > 1048576) := by omega
    clear hbad
    rcases hbad2 with h | ⟨n1, h⟩ | ⟨n1, n2, h⟩ | ⟨n1, n2, n3, h⟩
    all_goals
      go_enter Tryd.func9, Tryd.ntmps9
      go_wp2_with (first | ((with_reducible apply (arm_box hS)); (first | with_reducible exact wanted_none | exact wanted_guard rfl rfl); (first | exact ev_tmp rfl | exact ev_const); (first | with_reducible exact cells_agg | exact cells_one rfl); clear hS; intro NB w hS; (try simp only [Act.put, List.setIfInBounds_toArray, List.set_cons_zero, List.set_cons_succ])) | ((with_reducible apply (arm_load hS)); (first | with_reducible exact wanted_none | exact wanted_guard rfl rfl); (first | exact ev_tmp rfl | exact ev_const); (repeat (first | with_reducible exact mem_hd | with_reducible apply mem_tl)); rfl; decide +kernel; (try simp only [Act.put, List.setIfInBounds_toArray, List.set_cons_zero, List.set_cons_succ])))
    all_goals (go_ret; exact ⟨rfl, hS.drop⟩)
  · obtain ⟨b1, b2, b3, b4⟩ : 0 ≤ v ∧ v ≤ 65536 ∧ (es.length : Int) ≤ 65536 ∧ (ls.length : Int) ≤ 1048576 := by omega
    have hf : formed v es ls = (match chk 0 es with | none => false | some fr => decide (fr = ls.length) && ls.all (okLit v)) := by simp only [formed, if_neg hbad]; rfl
    obtain ⟨F, hF⟩ : ∃ F, F = formed v es ls := ⟨_, rfl⟩
    have F1 := hid (show chk 0 es = none → F = false from fun h => by rw [hF, hf, h])
    have F2 := hid (show ∀ fr : Int, chk 0 es = some fr → fr ≠ ls.length → F = false from fun fr h h2 => by rw [hF, hf, h]; simp [h2])
    have F3 := hid (show chk 0 es = some (ls.length : Int) → F = ls.all (okLit v) from fun h => by rw [hF, hf, h]; simp)
    rw [← hF]
    clear hf hbad hF
    have n1 : ¬ v < 0 := by omega
    have n2 : ¬ v > 65536 := by omega
    have n3 : ¬ (es.length : Int) > 65536 := by omega
    have n4 : ¬ (ls.length : Int) > 1048576 := by omega
    go_enter Tryd.func9, Tryd.ntmps9
    go_wp2_with (first | ((with_reducible apply (arm_box hS)); (first | with_reducible exact wanted_none | exact wanted_guard rfl rfl); (first | exact ev_tmp rfl | exact ev_const); (first | with_reducible exact cells_agg | exact cells_one rfl); clear hS; intro NB w hS; (try simp only [Act.put, List.setIfInBounds_toArray, List.set_cons_zero, List.set_cons_succ])) | ((with_reducible apply (arm_load hS)); (first | with_reducible exact wanted_none | exact wanted_guard rfl rfl); (first | exact ev_tmp rfl | exact ev_const); (repeat (first | with_reducible exact mem_hd | with_reducible apply mem_tl)); rfl; decide +kernel; (try simp only [Act.put, List.setIfInBounds_toArray, List.set_cons_zero, List.set_cons_succ])))
    go_loopw [3, 31] (fun f i wr => ∃ (fr : Int) (k : Nat), f = .int .i64 fr ∧ i = .int .i64 k ∧ k ≤ es.length ∧ chk 0 es = chk fr (es.drop k) ∧ Sat w0 wr (blk NB 24 [.int .i64 v, .slice ad1 es.length c1, .slice ad2 ls.length c2] :: Hs)) (fun _ i _ => es.length - (intOf i).toNat)
    case atStart => exact ⟨0, 0, rfl, rfl, by omega, rfl, hS⟩
    case round =>
      clear hS
      obtain ⟨fr, k, rfl, rfl, hk, hc, hS⟩ := hrel
      by_cases hlt : k < es.length
      · obtain ⟨x, hx⟩ : ∃ x, es[k]? = some x := ⟨_, List.getElem?_eq_getElem hlt⟩
        have hdr : es.drop k = x :: es.drop (k + 1) := by
          rw [List.drop_eq_getElem_cons hlt]; simp [List.getElem?_eq_getElem hlt] at hx; rw [hx]
        rw [hdr] at hc
        simp only [chk] at hc
        have HC := hid hc
        clear hc hdr
        by_cases hxf : x < fr
        · go_wp2_with (first | ((with_reducible apply (arm_load hS)); (first | with_reducible exact wanted_none | exact wanted_guard rfl rfl); (first | exact ev_tmp rfl | exact ev_const); (repeat (first | with_reducible exact mem_hd | with_reducible apply mem_tl)); rfl; decide +kernel; (try simp only [Act.put, List.setIfInBounds_toArray, List.set_cons_zero, List.set_cons_succ])) | ((with_reducible apply arm_indexAddr); (first | with_reducible exact wanted_none | exact wanted_guard rfl rfl); (first | exact ev_tmp rfl | exact ev_const); (first | exact ev_tmp rfl | exact ev_const); (first | with_reducible exact E22 | with_reducible exact E37 | with_reducible exact E47 | with_reducible exact E60 | with_reducible exact E64 | with_reducible exact E68 | with_reducible exact E96 | with_reducible exact E121 | with_reducible exact E160 | with_reducible exact E186); (first | omega | (focus (simp; done)) | (simp; omega)); (first | omega | (focus (simp; done)) | (simp; omega)); (first | exact hS.ownNN (by (repeat (first | with_reducible exact mem_hd | with_reducible apply mem_tl))) (by omega) | exact Sat.rdAd2 (by assumption) hS (by ((repeat (first | with_reducible exact mem_hd | with_reducible apply mem_tl))); try assumption) (by first | (simp only [Is_length, Bs_length, List.length_take, List.length_drop]; omega) | omega | (simp; omega) | (simp; done)) | assumption); (first | (simp only [Int.toNat_natCast, Nat.mul_one, Nat.zero_add, tn_sub, tn_sub1, tn_sub2, tn_sub3, tn_add, tn_add1, tn_add2]; rfl) | rfl); (try simp only [Act.put, List.setIfInBounds_toArray, List.set_cons_zero, List.set_cons_succ])) | ((with_reducible apply arm_loadE); (first | with_reducible exact wanted_none | exact wanted_guard rfl rfl); (first | exact ev_tmp rfl | exact ev_const); (first | exact (hS.ownCell (by (repeat (first | with_reducible exact mem_hd | with_reducible apply mem_tl))) (by (first | assumption | exact Is_at (by assumption) | exact Bs_at (by assumption) | rfl | (simp; done)))).1 | exact Sat.rdCell2 (by assumption) hS (by ((repeat (first | with_reducible exact mem_hd | with_reducible apply mem_tl))); try assumption) (by (first | assumption | exact Is_at (by assumption) | exact Bs_at (by assumption) | rfl | (simp; done)))); decide +kernel; (try simp only [Act.put, List.setIfInBounds_toArray, List.set_cons_zero, List.set_cons_succ])))
          go_ret
          refine ⟨?_, hS.drop⟩
          rw [F1.out (by rw [HC.out, if_pos hxf])]
          rfl
        · go_wp2_with (first | ((with_reducible apply (arm_load hS)); (first | with_reducible exact wanted_none | exact wanted_guard rfl rfl); (first | exact ev_tmp rfl | exact ev_const); (repeat (first | with_reducible exact mem_hd | with_reducible apply mem_tl)); rfl; decide +kernel; (try simp only [Act.put, List.setIfInBounds_toArray, List.set_cons_zero, List.set_cons_succ])) | ((with_reducible apply arm_indexAddr); (first | with_reducible exact wanted_none | exact wanted_guard rfl rfl); (first | exact ev_tmp rfl | exact ev_const); (first | exact ev_tmp rfl | exact ev_const); (first | with_reducible exact E22 | with_reducible exact E37 | with_reducible exact E47 | with_reducible exact E60 | with_reducible exact E64 | with_reducible exact E68 | with_reducible exact E96 | with_reducible exact E121 | with_reducible exact E160 | with_reducible exact E186); (first | omega | (focus (simp; done)) | (simp; omega)); (first | omega | (focus (simp; done)) | (simp; omega)); (first | exact hS.ownNN (by (repeat (first | with_reducible exact mem_hd | with_reducible apply mem_tl))) (by omega) | exact Sat.rdAd2 (by assumption) hS (by ((repeat (first | with_reducible exact mem_hd | with_reducible apply mem_tl))); try assumption) (by first | (simp only [Is_length, Bs_length, List.length_take, List.length_drop]; omega) | omega | (simp; omega) | (simp; done)) | assumption); (first | (simp only [Int.toNat_natCast, Nat.mul_one, Nat.zero_add, tn_sub, tn_sub1, tn_sub2, tn_sub3, tn_add, tn_add1, tn_add2]; rfl) | rfl); (try simp only [Act.put, List.setIfInBounds_toArray, List.set_cons_zero, List.set_cons_succ])) | ((with_reducible apply arm_loadE); (first | with_reducible exact wanted_none | exact wanted_guard rfl rfl); (first | exact ev_tmp rfl | exact ev_const); (first | exact (hS.ownCell (by (repeat (first | with_reducible exact mem_hd | with_reducible apply mem_tl))) (by (first | assumption | exact Is_at (by assumption) | exact Bs_at (by assumption) | rfl | (simp; done)))).1 | exact Sat.rdCell2 (by assumption) hS (by ((repeat (first | with_reducible exact mem_hd | with_reducible apply mem_tl))); try assumption) (by (first | assumption | exact Is_at (by assumption) | exact Bs_at (by assumption) | rfl | (simp; done)))); decide +kernel; (try simp only [Act.put, List.setIfInBounds_toArray, List.set_cons_zero, List.set_cons_succ])))
          go_roundw
          case rel => exact ⟨x, k + 1, by go_num, by go_num, by omega, by rw [HC.out, if_neg hxf], hS⟩
          case measure => simp [intOf]; omega
      · have hk2 : k = es.length := by omega
        subst hk2
        have HC := hid (show chk 0 es = some fr by rw [hc, List.drop_length]; rfl)
        clear hc
        by_cases hfr : fr = ls.length
        · subst hfr
          have F4 := hid (F3.out HC.out)
          clear HC F1 F2 F3
          go_wp2_with (first | ((with_reducible apply (arm_load hS)); (first | with_reducible exact wanted_none | exact wanted_guard rfl rfl); (first | exact ev_tmp rfl | exact ev_const); (repeat (first | with_reducible exact mem_hd | with_reducible apply mem_tl)); rfl; decide +kernel; (try simp only [Act.put, List.setIfInBounds_toArray, List.set_cons_zero, List.set_cons_succ])))
          go_loopw [48] (fun i wr => ∃ k : Nat, i = .int .i64 k ∧ k ≤ ls.length ∧ F = (ls.drop k).all (okLit v) ∧ Sat w0 wr (blk NB 24 [.int .i64 v, .slice ad1 es.length c1, .slice ad2 ls.length c2] :: Hs)) (fun i _ => ls.length - (intOf i).toNat)
          case atStart => exact ⟨0, rfl, by omega, F4.out, hS⟩
          case round =>
            clear hS
            obtain ⟨k, rfl, hk, hc, hS⟩ := hrel
            by_cases hlt : k < ls.length
            · obtain ⟨x, hx⟩ : ∃ x, ls[k]? = some x := ⟨_, List.getElem?_eq_getElem hlt⟩
              have hdr : ls.drop k = x :: ls.drop (k + 1) := by
                rw [List.drop_eq_getElem_cons hlt]; simp [List.getElem?_eq_getElem hlt] at hx; rw [hx]
              rw [hdr] at hc
              simp only [List.all_cons] at hc
              have HC := hid hc
              clear hc hdr F4
              by_cases g1 : x = 0
              · go_wp2_with (first | ((with_reducible apply (arm_load hS)); (first | with_reducible exact wanted_none | exact wanted_guard rfl rfl); (first | exact ev_tmp rfl | exact ev_const); (repeat (first | with_reducible exact mem_hd | with_reducible apply mem_tl)); rfl; decide +kernel; (try simp only [Act.put, List.setIfInBounds_toArray, List.set_cons_zero, List.set_cons_succ])) | ((with_reducible apply arm_indexAddr); (first | with_reducible exact wanted_none | exact wanted_guard rfl rfl); (first | exact ev_tmp rfl | exact ev_const); (first | exact ev_tmp rfl | exact ev_const); (first | with_reducible exact E22 | with_reducible exact E37 | with_reducible exact E47 | with_reducible exact E60 | with_reducible exact E64 | with_reducible exact E68 | with_reducible exact E96 | with_reducible exact E121 | with_reducible exact E160 | with_reducible exact E186); (first | omega | (focus (simp; done)) | (simp; omega)); (first | omega | (focus (simp; done)) | (simp; omega)); (first | exact hS.ownNN (by (repeat (first | with_reducible exact mem_hd | with_reducible apply mem_tl))) (by omega) | exact Sat.rdAd2 (by assumption) hS (by ((repeat (first | with_reducible exact mem_hd | with_reducible apply mem_tl))); try assumption) (by first | (simp only [Is_length, Bs_length, List.length_take, List.length_drop]; omega) | omega | (simp; omega) | (simp; done)) | assumption); (first | (simp only [Int.toNat_natCast, Nat.mul_one, Nat.zero_add, tn_sub, tn_sub1, tn_sub2, tn_sub3, tn_add, tn_add1, tn_add2]; rfl) | rfl); (try simp only [Act.put, List.setIfInBounds_toArray, List.set_cons_zero, List.set_cons_succ])) | ((with_reducible apply arm_loadE); (first | with_reducible exact wanted_none | exact wanted_guard rfl rfl); (first | exact ev_tmp rfl | exact ev_const); (first | exact (hS.ownCell (by (repeat (first | with_reducible exact mem_hd | with_reducible apply mem_tl))) (by (first | assumption | exact Is_at (by assumption) | exact Bs_at (by assumption) | rfl | (simp; done)))).1 | exact Sat.rdCell2 (by assumption) hS (by ((repeat (first | with_reducible exact mem_hd | with_reducible apply mem_tl))); try assumption) (by (first | assumption | exact Is_at (by assumption) | exact Bs_at (by assumption) | rfl | (simp; done)))); decide +kernel; (try simp only [Act.put, List.setIfInBounds_toArray, List.set_cons_zero, List.set_cons_succ])))
                go_ret
                refine ⟨?_, hS.drop⟩
                rw [HC.out]; simp [okLit, g1]
              · have g1b : (x == 0) = false := by simp [g1]
                by_cases g2 : x < -v
                · go_wp2_with (first | ((with_reducible apply (arm_load hS)); (first | with_reducible exact wanted_none | exact wanted_guard rfl rfl); (first | exact ev_tmp rfl | exact ev_const); (repeat (first | with_reducible exact mem_hd | with_reducible apply mem_tl)); rfl; decide +kernel; (try simp only [Act.put, List.setIfInBounds_toArray, List.set_cons_zero, List.set_cons_succ])) | ((with_reducible apply arm_indexAddr); (first | with_reducible exact wanted_none | exact wanted_guard rfl rfl); (first | exact ev_tmp rfl | exact ev_const); (first | exact ev_tmp rfl | exact ev_const); (first | with_reducible exact E22 | with_reducible exact E37 | with_reducible exact E47 | with_reducible exact E60 | with_reducible exact E64 | with_reducible exact E68 | with_reducible exact E96 | with_reducible exact E121 | with_reducible exact E160 | with_reducible exact E186); (first | omega | (focus (simp; done)) | (simp; omega)); (first | omega | (focus (simp; done)) | (simp; omega)); (first | exact hS.ownNN (by (repeat (first | with_reducible exact mem_hd | with_reducible apply mem_tl))) (by omega) | exact Sat.rdAd2 (by assumption) hS (by ((repeat (first | with_reducible exact mem_hd | with_reducible apply mem_tl))); try assumption) (by first | (simp only [Is_length, Bs_length, List.length_take, List.length_drop]; omega) | omega | (simp; omega) | (simp; done)) | assumption); (first | (simp only [Int.toNat_natCast, Nat.mul_one, Nat.zero_add, tn_sub, tn_sub1, tn_sub2, tn_sub3, tn_add, tn_add1, tn_add2]; rfl) | rfl); (try simp only [Act.put, List.setIfInBounds_toArray, List.set_cons_zero, List.set_cons_succ])) | ((with_reducible apply arm_loadE); (first | with_reducible exact wanted_none | exact wanted_guard rfl rfl); (first | exact ev_tmp rfl | exact ev_const); (first | exact (hS.ownCell (by (repeat (first | with_reducible exact mem_hd | with_reducible apply mem_tl))) (by (first | assumption | exact Is_at (by assumption) | exact Bs_at (by assumption) | rfl | (simp; done)))).1 | exact Sat.rdCell2 (by assumption) hS (by ((repeat (first | with_reducible exact mem_hd | with_reducible apply mem_tl))); try assumption) (by (first | assumption | exact Is_at (by assumption) | exact Bs_at (by assumption) | rfl | (simp; done)))); decide +kernel; (try simp only [Act.put, List.setIfInBounds_toArray, List.set_cons_zero, List.set_cons_succ])))
                  go_ret
                  refine ⟨?_, hS.drop⟩
                  rw [HC.out]; simp [okLit, g2]
                · by_cases g3 : x > v
                  · go_wp2_with (first | ((with_reducible apply (arm_load hS)); (first | with_reducible exact wanted_none | exact wanted_guard rfl rfl); (first | exact ev_tmp rfl | exact ev_const); (repeat (first | with_reducible exact mem_hd | with_reducible apply mem_tl)); rfl; decide +kernel; (try simp only [Act.put, List.setIfInBounds_toArray, List.set_cons_zero, List.set_cons_succ])) | ((with_reducible apply arm_indexAddr); (first | with_reducible exact wanted_none | exact wanted_guard rfl rfl); (first | exact ev_tmp rfl | exact ev_const); (first | exact ev_tmp rfl | exact ev_const); (first | with_reducible exact E22 | with_reducible exact E37 | with_reducible exact E47 | with_reducible exact E60 | with_reducible exact E64 | with_reducible exact E68 | with_reducible exact E96 | with_reducible exact E121 | with_reducible exact E160 | with_reducible exact E186); (first | omega | (focus (simp; done)) | (simp; omega)); (first | omega | (focus (simp; done)) | (simp; omega)); (first | exact hS.ownNN (by (repeat (first | with_reducible exact mem_hd | with_reducible apply mem_tl))) (by omega) | exact Sat.rdAd2 (by assumption) hS (by ((repeat (first | with_reducible exact mem_hd | with_reducible apply mem_tl))); try assumption) (by first | (simp only [Is_length, Bs_length, List.length_take, List.length_drop]; omega) | omega | (simp; omega) | (simp; done)) | assumption); (first | (simp only [Int.toNat_natCast, Nat.mul_one, Nat.zero_add, tn_sub, tn_sub1, tn_sub2, tn_sub3, tn_add, tn_add1, tn_add2]; rfl) | rfl); (try simp only [Act.put, List.setIfInBounds_toArray, List.set_cons_zero, List.set_cons_succ])) | ((with_reducible apply arm_loadE); (first | with_reducible exact wanted_none | exact wanted_guard rfl rfl); (first | exact ev_tmp rfl | exact ev_const); (first | exact (hS.ownCell (by (repeat (first | with_reducible exact mem_hd | with_reducible apply mem_tl))) (by (first | assumption | exact Is_at (by assumption) | exact Bs_at (by assumption) | rfl | (simp; done)))).1 | exact Sat.rdCell2 (by assumption) hS (by ((repeat (first | with_reducible exact mem_hd | with_reducible apply mem_tl))); try assumption) (by (first | assumption | exact Is_at (by assumption) | exact Bs_at (by assumption) | rfl | (simp; done)))); decide +kernel; (try simp only [Act.put, List.setIfInBounds_toArray, List.set_cons_zero, List.set_cons_succ])))
                    go_ret
                    refine ⟨?_, hS.drop⟩
                    rw [HC.out]; simp [okLit, g3]
                  · go_wp2_with (first | ((with_reducible apply (arm_load hS)); (first | with_reducible exact wanted_none | exact wanted_guard rfl rfl); (first | exact ev_tmp rfl | exact ev_const); (repeat (first | with_reducible exact mem_hd | with_reducible apply mem_tl)); rfl; decide +kernel; (try simp only [Act.put, List.setIfInBounds_toArray, List.set_cons_zero, List.set_cons_succ])) | ((with_reducible apply arm_indexAddr); (first | with_reducible exact wanted_none | exact wanted_guard rfl rfl); (first | exact ev_tmp rfl | exact ev_const); (first | exact ev_tmp rfl | exact ev_const); (first | with_reducible exact E22 | with_reducible exact E37 | with_reducible exact E47 | with_reducible exact E60 | with_reducible exact E64 | with_reducible exact E68 | with_reducible exact E96 | with_reducible exact E121 | with_reducible exact E160 | with_reducible exact E186); (first | omega | (focus (simp; done)) | (simp; omega)); (first | omega | (focus (simp; done)) | (simp; omega)); (first | exact hS.ownNN (by (repeat (first | with_reducible exact mem_hd | with_reducible apply mem_tl))) (by omega) | exact Sat.rdAd2 (by assumption) hS (by ((repeat (first | with_reducible exact mem_hd | with_reducible apply mem_tl))); try assumption) (by first | (simp only [Is_length, Bs_length, List.length_take, List.length_drop]; omega) | omega | (simp; omega) | (simp; done)) | assumption); (first | (simp only [Int.toNat_natCast, Nat.mul_one, Nat.zero_add, tn_sub, tn_sub1, tn_sub2, tn_sub3, tn_add, tn_add1, tn_add2]; rfl) | rfl); (try simp only [Act.put, List.setIfInBounds_toArray, List.set_cons_zero, List.set_cons_succ])) | ((with_reducible apply arm_loadE); (first | with_reducible exact wanted_none | exact wanted_guard rfl rfl); (first | exact ev_tmp rfl | exact ev_const); (first | exact (hS.ownCell (by (repeat (first | with_reducible exact mem_hd | with_reducible apply mem_tl))) (by (first | assumption | exact Is_at (by assumption) | exact Bs_at (by assumption) | rfl | (simp; done)))).1 | exact Sat.rdCell2 (by assumption) hS (by ((repeat (first | with_reducible exact mem_hd | with_reducible apply mem_tl))); try assumption) (by (first | assumption | exact Is_at (by assumption) | exact Bs_at (by assumption) | rfl | (simp; done)))); decide +kernel; (try simp only [Act.put, List.setIfInBounds_toArray, List.set_cons_zero, List.set_cons_succ])))
                    go_roundw
                    case rel => exact ⟨k + 1, by go_num, by omega, by rw [HC.out]; simp [okLit, g1, g2, g3], hS⟩
                    case measure => simp [intOf]; omega
            · have hk3 : k = ls.length := by omega
              subst hk3
              have HC := hid (show F = true by rw [hc, List.drop_length]; rfl)
              clear hc
              go_wp2
              go_ret
              refine ⟨?_, hS.drop⟩
              rw [HC.out]
              rfl
        · have F4 := hid (F2.out fr HC.out hfr)
          clear HC F1 F2 F3
          go_wp2_with (first | ((with_reducible apply (arm_load hS)); (first | with_reducible exact wanted_none | exact wanted_guard rfl rfl); (first | exact ev_tmp rfl | exact ev_const); (repeat (first | with_reducible exact mem_hd | with_reducible apply mem_tl)); rfl; decide +kernel; (try simp only [Act.put, List.setIfInBounds_toArray, List.set_cons_zero, List.set_cons_succ])))
          go_ret
          refine ⟨?_, hS.drop⟩
          rw [F4.out]
          rfl
set_option maxHeartbeats 1000000 in
theorem formedR : Calls Tryd.prog 11 #[.agg #[.int .i64 v, .slice ad1 es.length c1, .slice ad2 ls.length c2]] w fun e w' => e = .returned (.bool (formed v es ls)) ∧ Sat w0 w' Hs := by
  by_cases hbad : v < 0 ∨ v > 65536 ∨ (es.length : Int) > 65536 ∨ (ls.length : Int) > 1048576
  · have hf : formed v es ls = false := by simp [formed, hbad]
    rw [hf]
    clear hf
    have hbad2 : v < 0 ∨ (¬ v < 0 ∧ v > 65536) ∨ (¬ v < 0 ∧ ¬ v > 65536 ∧ (es.length : Int) > 65536) ∨ (¬ v < 0 ∧ ¬ v > 65536 ∧ ¬ (es.length : Int) > 65536 ∧ (ls.length : Int) > 1048576) := by omega
    clear hbad
    rcases hbad2 with h | ⟨n1, h⟩ | ⟨n1, n2, h⟩ | ⟨n1, n2, n3, h⟩
    all_goals
      go_enter Tryd.func11, Tryd.ntmps11
      go_wp2_with (first | ((with_reducible apply (arm_box hS)); (first | with_reducible exact wanted_none | exact wanted_guard rfl rfl); (first | exact ev_tmp rfl | exact ev_const); (first | with_reducible exact cells_agg | exact cells_one rfl); clear hS; intro NB w hS; (try simp only [Act.put, List.setIfInBounds_toArray, List.set_cons_zero, List.set_cons_succ])) | ((with_reducible apply (arm_load hS)); (first | with_reducible exact wanted_none | exact wanted_guard rfl rfl); (first | exact ev_tmp rfl | exact ev_const); (repeat (first | with_reducible exact mem_hd | with_reducible apply mem_tl)); rfl; decide +kernel; (try simp only [Act.put, List.setIfInBounds_toArray, List.set_cons_zero, List.set_cons_succ])))
    all_goals (go_ret; exact ⟨rfl, hS.drop⟩)
  · obtain ⟨b1, b2, b3, b4⟩ : 0 ≤ v ∧ v ≤ 65536 ∧ (es.length : Int) ≤ 65536 ∧ (ls.length : Int) ≤ 1048576 := by omega
    have hf : formed v es ls = (match chk 0 es with | none => false | some fr => decide (fr = ls.length) && ls.all (okLit v)) := by simp only [formed, if_neg hbad]; rfl
    obtain ⟨F, hF⟩ : ∃ F, F = formed v es ls := ⟨_, rfl⟩
    have F1 := hid (show chk 0 es = none → F = false from fun h => by rw [hF, hf, h])
    have F2 := hid (show ∀ fr : Int, chk 0 es = some fr → fr ≠ ls.length → F = false from fun fr h h2 => by rw [hF, hf, h]; simp [h2])
    have F3 := hid (show chk 0 es = some (ls.length : Int) → F = ls.all (okLit v) from fun h => by rw [hF, hf, h]; simp)
    rw [← hF]
    clear hf hbad hF
    have n1 : ¬ v < 0 := by omega
    have n2 : ¬ v > 65536 := by omega
    have n3 : ¬ (es.length : Int) > 65536 := by omega
    have n4 : ¬ (ls.length : Int) > 1048576 := by omega
    go_enter Tryd.func11, Tryd.ntmps11
    go_wp2_with (first | ((with_reducible apply (arm_box hS)); (first | with_reducible exact wanted_none | exact wanted_guard rfl rfl); (first | exact ev_tmp rfl | exact ev_const); (first | with_reducible exact cells_agg | exact cells_one rfl); clear hS; intro NB w hS; (try simp only [Act.put, List.setIfInBounds_toArray, List.set_cons_zero, List.set_cons_succ])) | ((with_reducible apply (arm_load hS)); (first | with_reducible exact wanted_none | exact wanted_guard rfl rfl); (first | exact ev_tmp rfl | exact ev_const); (repeat (first | with_reducible exact mem_hd | with_reducible apply mem_tl)); rfl; decide +kernel; (try simp only [Act.put, List.setIfInBounds_toArray, List.set_cons_zero, List.set_cons_succ])))
    go_loopw [3, 4] (fun f i wr => ∃ (fr : Int) (k : Nat), f = .int .i64 fr ∧ i = .int .i64 k ∧ k ≤ es.length ∧ chk 0 es = chk fr (es.drop k) ∧ Sat w0 wr (blk NB 24 [.int .i64 v, .slice ad1 es.length c1, .slice ad2 ls.length c2] :: Hs)) (fun _ i _ => es.length - (intOf i).toNat)
    case atStart => exact ⟨0, 0, rfl, rfl, by omega, rfl, hS⟩
    case round =>
      clear hS
      obtain ⟨fr, k, rfl, rfl, hk, hc, hS⟩ := hrel
      by_cases hlt : k < es.length
      · obtain ⟨x, hx⟩ : ∃ x, es[k]? = some x := ⟨_, List.getElem?_eq_getElem hlt⟩
        have hdr : es.drop k = x :: es.drop (k + 1) := by
          rw [List.drop_eq_getElem_cons hlt]; simp [List.getElem?_eq_getElem hlt] at hx; rw [hx]
        rw [hdr] at hc
        simp only [chk] at hc
        have HC := hid hc
        clear hc hdr
        by_cases hxf : x < fr
        · go_wp2_with (first | ((with_reducible apply (arm_load hS)); (first | with_reducible exact wanted_none | exact wanted_guard rfl rfl); (first | exact ev_tmp rfl | exact ev_const); (repeat (first | with_reducible exact mem_hd | with_reducible apply mem_tl)); rfl; decide +kernel; (try simp only [Act.put, List.setIfInBounds_toArray, List.set_cons_zero, List.set_cons_succ])) | ((with_reducible apply arm_indexAddr); (first | with_reducible exact wanted_none | exact wanted_guard rfl rfl); (first | exact ev_tmp rfl | exact ev_const); (first | exact ev_tmp rfl | exact ev_const); (first | with_reducible exact E22 | with_reducible exact E37 | with_reducible exact E47 | with_reducible exact E60 | with_reducible exact E64 | with_reducible exact E68 | with_reducible exact E96 | with_reducible exact E121 | with_reducible exact E160 | with_reducible exact E186); (first | omega | (focus (simp; done)) | (simp; omega)); (first | omega | (focus (simp; done)) | (simp; omega)); (first | exact hS.ownNN (by (repeat (first | with_reducible exact mem_hd | with_reducible apply mem_tl))) (by omega) | exact Sat.rdAd2 (by assumption) hS (by ((repeat (first | with_reducible exact mem_hd | with_reducible apply mem_tl))); try assumption) (by first | (simp only [Is_length, Bs_length, List.length_take, List.length_drop]; omega) | omega | (simp; omega) | (simp; done)) | assumption); (first | (simp only [Int.toNat_natCast, Nat.mul_one, Nat.zero_add, tn_sub, tn_sub1, tn_sub2, tn_sub3, tn_add, tn_add1, tn_add2]; rfl) | rfl); (try simp only [Act.put, List.setIfInBounds_toArray, List.set_cons_zero, List.set_cons_succ])) | ((with_reducible apply arm_loadE); (first | with_reducible exact wanted_none | exact wanted_guard rfl rfl); (first | exact ev_tmp rfl | exact ev_const); (first | exact (hS.ownCell (by (repeat (first | with_reducible exact mem_hd | with_reducible apply mem_tl))) (by (first | assumption | exact Is_at (by assumption) | exact Bs_at (by assumption) | rfl | (simp; done)))).1 | exact Sat.rdCell2 (by assumption) hS (by ((repeat (first | with_reducible exact mem_hd | with_reducible apply mem_tl))); try assumption) (by (first | assumption | exact Is_at (by assumption) | exact Bs_at (by assumption) | rfl | (simp; done)))); decide +kernel; (try simp only [Act.put, List.setIfInBounds_toArray, List.set_cons_zero, List.set_cons_succ])))
          go_ret
          refine ⟨?_, hS.drop⟩
          rw [F1.out (by rw [HC.out, if_pos hxf])]
          rfl
        · go_wp2_with (first | ((with_reducible apply (arm_load hS)); (first | with_reducible exact wanted_none | exact wanted_guard rfl rfl); (first | exact ev_tmp rfl | exact ev_const); (repeat (first | with_reducible exact mem_hd | with_reducible apply mem_tl)); rfl; decide +kernel; (try simp only [Act.put, List.setIfInBounds_toArray, List.set_cons_zero, List.set_cons_succ])) | ((with_reducible apply arm_indexAddr); (first | with_reducible exact wanted_none | exact wanted_guard rfl rfl); (first | exact ev_tmp rfl | exact ev_const); (first | exact ev_tmp rfl | exact ev_const); (first | with_reducible exact E22 | with_reducible exact E37 | with_reducible exact E47 | with_reducible exact E60 | with_reducible exact E64 | with_reducible exact E68 | with_reducible exact E96 | with_reducible exact E121 | with_reducible exact E160 | with_reducible exact E186); (first | omega | (focus (simp; done)) | (simp; omega)); (first | omega | (focus (simp; done)) | (simp; omega)); (first | exact hS.ownNN (by (repeat (first | with_reducible exact mem_hd | with_reducible apply mem_tl))) (by omega) | exact Sat.rdAd2 (by assumption) hS (by ((repeat (first | with_reducible exact mem_hd | with_reducible apply mem_tl))); try assumption) (by first | (simp only [Is_length, Bs_length, List.length_take, List.length_drop]; omega) | omega | (simp; omega) | (simp; done)) | assumption); (first | (simp only [Int.toNat_natCast, Nat.mul_one, Nat.zero_add, tn_sub, tn_sub1, tn_sub2, tn_sub3, tn_add, tn_add1, tn_add2]; rfl) | rfl); (try simp only [Act.put, List.setIfInBounds_toArray, List.set_cons_zero, List.set_cons_succ])) | ((with_reducible apply arm_loadE); (first | with_reducible exact wanted_none | exact wanted_guard rfl rfl); (first | exact ev_tmp rfl | exact ev_const); (first | exact (hS.ownCell (by (repeat (first | with_reducible exact mem_hd | with_reducible apply mem_tl))) (by (first | assumption | exact Is_at (by assumption) | exact Bs_at (by assumption) | rfl | (simp; done)))).1 | exact Sat.rdCell2 (by assumption) hS (by ((repeat (first | with_reducible exact mem_hd | with_reducible apply mem_tl))); try assumption) (by (first | assumption | exact Is_at (by assumption) | exact Bs_at (by assumption) | rfl | (simp; done)))); decide +kernel; (try simp only [Act.put, List.setIfInBounds_toArray, List.set_cons_zero, List.set_cons_succ])))
          go_roundw
          case rel => exact ⟨x, k + 1, by go_num, by go_num, by omega, by rw [HC.out, if_neg hxf], hS⟩
          case measure => simp [intOf]; omega
      · have hk2 : k = es.length := by omega
        subst hk2
        have HC := hid (show chk 0 es = some fr by rw [hc, List.drop_length]; rfl)
        clear hc
        by_cases hfr : fr = ls.length
        · subst hfr
          have F4 := hid (F3.out HC.out)
          clear HC F1 F2 F3
          go_wp2_with (first | ((with_reducible apply (arm_load hS)); (first | with_reducible exact wanted_none | exact wanted_guard rfl rfl); (first | exact ev_tmp rfl | exact ev_const); (repeat (first | with_reducible exact mem_hd | with_reducible apply mem_tl)); rfl; decide +kernel; (try simp only [Act.put, List.setIfInBounds_toArray, List.set_cons_zero, List.set_cons_succ])))
          go_loopw [5] (fun i wr => ∃ k : Nat, i = .int .i64 k ∧ k ≤ ls.length ∧ F = (ls.drop k).all (okLit v) ∧ Sat w0 wr (blk NB 24 [.int .i64 v, .slice ad1 es.length c1, .slice ad2 ls.length c2] :: Hs)) (fun i _ => ls.length - (intOf i).toNat)
          case atStart => exact ⟨0, rfl, by omega, F4.out, hS⟩
          case round =>
            clear hS
            obtain ⟨k, rfl, hk, hc, hS⟩ := hrel
            by_cases hlt : k < ls.length
            · obtain ⟨x, hx⟩ : ∃ x, ls[k]? = some x := ⟨_, List.getElem?_eq_getElem hlt⟩
              have hdr : ls.drop k = x :: ls.drop (k + 1) := by
                rw [List.drop_eq_getElem_cons hlt]; simp [List.getElem?_eq_getElem hlt] at hx; rw [hx]
              rw [hdr] at hc
              simp only [List.all_cons] at hc
              have HC := hid hc
              clear hc hdr F4
              by_cases g1 : x = 0
              · go_wp2_with (first | ((with_reducible apply (arm_load hS)); (first | with_reducible exact wanted_none | exact wanted_guard rfl rfl); (first | exact ev_tmp rfl | exact ev_const); (repeat (first | with_reducible exact mem_hd | with_reducible apply mem_tl)); rfl; decide +kernel; (try simp only [Act.put, List.setIfInBounds_toArray, List.set_cons_zero, List.set_cons_succ])) | ((with_reducible apply arm_indexAddr); (first | with_reducible exact wanted_none | exact wanted_guard rfl rfl); (first | exact ev_tmp rfl | exact ev_const); (first | exact ev_tmp rfl | exact ev_const); (first | with_reducible exact E22 | with_reducible exact E37 | with_reducible exact E47 | with_reducible exact E60 | with_reducible exact E64 | with_reducible exact E68 | with_reducible exact E96 | with_reducible exact E121 | with_reducible exact E160 | with_reducible exact E186); (first | omega | (focus (simp; done)) | (simp; omega)); (first | omega | (focus (simp; done)) | (simp; omega)); (first | exact hS.ownNN (by (repeat (first | with_reducible exact mem_hd | with_reducible apply mem_tl))) (by omega) | exact Sat.rdAd2 (by assumption) hS (by ((repeat (first | with_reducible exact mem_hd | with_reducible apply mem_tl))); try assumption) (by first | (simp only [Is_length, Bs_length, List.length_take, List.length_drop]; omega) | omega | (simp; omega) | (simp; done)) | assumption); (first | (simp only [Int.toNat_natCast, Nat.mul_one, Nat.zero_add, tn_sub, tn_sub1, tn_sub2, tn_sub3, tn_add, tn_add1, tn_add2]; rfl) | rfl); (try simp only [Act.put, List.setIfInBounds_toArray, List.set_cons_zero, List.set_cons_succ])) | ((with_reducible apply arm_loadE); (first | with_reducible exact wanted_none | exact wanted_guard rfl rfl); (first | exact ev_tmp rfl | exact ev_const); (first | exact (hS.ownCell (by (repeat (first | with_reducible exact mem_hd | with_reducible apply mem_tl))) (by (first | assumption | exact Is_at (by assumption) | exact Bs_at (by assumption) | rfl | (simp; done)))).1 | exact Sat.rdCell2 (by assumption) hS (by ((repeat (first | with_reducible exact mem_hd | with_reducible apply mem_tl))); try assumption) (by (first | assumption | exact Is_at (by assumption) | exact Bs_at (by assumption) | rfl | (simp; done)))); decide +kernel; (try simp only [Act.put, List.setIfInBounds_toArray, List.set_cons_zero, List.set_cons_succ])))
                go_ret
                refine ⟨?_, hS.drop⟩
                rw [HC.out]; simp [okLit, g1]
              · have g1b : (x == 0) = false := by simp [g1]
                by_cases g2 : x > v
                · go_wp2_with (first | ((with_reducible apply (arm_load hS)); (first | with_reducible exact wanted_none | exact wanted_guard rfl rfl); (first | exact ev_tmp rfl | exact ev_const); (repeat (first | with_reducible exact mem_hd | with_reducible apply mem_tl)); rfl; decide +kernel; (try simp only [Act.put, List.setIfInBounds_toArray, List.set_cons_zero, List.set_cons_succ])) | ((with_reducible apply arm_indexAddr); (first | with_reducible exact wanted_none | exact wanted_guard rfl rfl); (first | exact ev_tmp rfl | exact ev_const); (first | exact ev_tmp rfl | exact ev_const); (first | with_reducible exact E22 | with_reducible exact E37 | with_reducible exact E47 | with_reducible exact E60 | with_reducible exact E64 | with_reducible exact E68 | with_reducible exact E96 | with_reducible exact E121 | with_reducible exact E160 | with_reducible exact E186); (first | omega | (focus (simp; done)) | (simp; omega)); (first | omega | (focus (simp; done)) | (simp; omega)); (first | exact hS.ownNN (by (repeat (first | with_reducible exact mem_hd | with_reducible apply mem_tl))) (by omega) | exact Sat.rdAd2 (by assumption) hS (by ((repeat (first | with_reducible exact mem_hd | with_reducible apply mem_tl))); try assumption) (by first | (simp only [Is_length, Bs_length, List.length_take, List.length_drop]; omega) | omega | (simp; omega) | (simp; done)) | assumption); (first | (simp only [Int.toNat_natCast, Nat.mul_one, Nat.zero_add, tn_sub, tn_sub1, tn_sub2, tn_sub3, tn_add, tn_add1, tn_add2]; rfl) | rfl); (try simp only [Act.put, List.setIfInBounds_toArray, List.set_cons_zero, List.set_cons_succ])) | ((with_reducible apply arm_loadE); (first | with_reducible exact wanted_none | exact wanted_guard rfl rfl); (first | exact ev_tmp rfl | exact ev_const); (first | exact (hS.ownCell (by (repeat (first | with_reducible exact mem_hd | with_reducible apply mem_tl))) (by (first | assumption | exact Is_at (by assumption) | exact Bs_at (by assumption) | rfl | (simp; done)))).1 | exact Sat.rdCell2 (by assumption) hS (by ((repeat (first | with_reducible exact mem_hd | with_reducible apply mem_tl))); try assumption) (by (first | assumption | exact Is_at (by assumption) | exact Bs_at (by assumption) | rfl | (simp; done)))); decide +kernel; (try simp only [Act.put, List.setIfInBounds_toArray, List.set_cons_zero, List.set_cons_succ])))
                  go_ret
                  refine ⟨?_, hS.drop⟩
                  rw [HC.out]; simp [okLit, g2]
                · by_cases g3 : x < -v
                  · go_wp2_with (first | ((with_reducible apply (arm_load hS)); (first | with_reducible exact wanted_none | exact wanted_guard rfl rfl); (first | exact ev_tmp rfl | exact ev_const); (repeat (first | with_reducible exact mem_hd | with_reducible apply mem_tl)); rfl; decide +kernel; (try simp only [Act.put, List.setIfInBounds_toArray, List.set_cons_zero, List.set_cons_succ])) | ((with_reducible apply arm_indexAddr); (first | with_reducible exact wanted_none | exact wanted_guard rfl rfl); (first | exact ev_tmp rfl | exact ev_const); (first | exact ev_tmp rfl | exact ev_const); (first | with_reducible exact E22 | with_reducible exact E37 | with_reducible exact E47 | with_reducible exact E60 | with_reducible exact E64 | with_reducible exact E68 | with_reducible exact E96 | with_reducible exact E121 | with_reducible exact E160 | with_reducible exact E186); (first | omega | (focus (simp; done)) | (simp; omega)); (first | omega | (focus (simp; done)) | (simp; omega)); (first | exact hS.ownNN (by (repeat (first | with_reducible exact mem_hd | with_reducible apply mem_tl))) (by omega) | exact Sat.rdAd2 (by assumption) hS (by ((repeat (first | with_reducible exact mem_hd | with_reducible apply mem_tl))); try assumption) (by first | (simp only [Is_length, Bs_length, List.length_take, List.length_drop]; omega) | omega | (simp; omega) | (simp; done)) | assumption); (first | (simp only [Int.toNat_natCast, Nat.mul_one, Nat.zero_add, tn_sub, tn_sub1, tn_sub2, tn_sub3, tn_add, tn_add1, tn_add2]; rfl) | rfl); (try simp only [Act.put, List.setIfInBounds_toArray, List.set_cons_zero, List.set_cons_succ])) | ((with_reducible apply arm_loadE); (first | with_reducible exact wanted_none | exact wanted_guard rfl rfl); (first | exact ev_tmp rfl | exact ev_const); (first | exact (hS.ownCell (by (repeat (first | with_reducible exact mem_hd | with_reducible apply mem_tl))) (by (first | assumption | exact Is_at (by assumption) | exact Bs_at (by assumption) | rfl | (simp; done)))).1 | exact Sat.rdCell2 (by assumption) hS (by ((repeat (first | with_reducible exact mem_hd | with_reducible apply mem_tl))); try assumption) (by (first | assumption | exact Is_at (by assumption) | exact Bs_at (by assumption) | rfl | (simp; done)))); decide +kernel; (try simp only [Act.put, List.setIfInBounds_toArray, List.set_cons_zero, List.set_cons_succ])))
                    go_ret
                    refine ⟨?_, hS.drop⟩
                    rw [HC.out]; simp [okLit, g3]
                  · go_wp2_with (first | ((with_reducible apply (arm_load hS)); (first | with_reducible exact wanted_none | exact wanted_guard rfl rfl); (first | exact ev_tmp rfl | exact ev_const); (repeat (first | with_reducible exact mem_hd | with_reducible apply mem_tl)); rfl; decide +kernel; (try simp only [Act.put, List.setIfInBounds_toArray, List.set_cons_zero, List.set_cons_succ])) | ((with_reducible apply arm_indexAddr); (first | with_reducible exact wanted_none | exact wanted_guard rfl rfl); (first | exact ev_tmp rfl | exact ev_const); (first | exact ev_tmp rfl | exact ev_const); (first | with_reducible exact E22 | with_reducible exact E37 | with_reducible exact E47 | with_reducible exact E60 | with_reducible exact E64 | with_reducible exact E68 | with_reducible exact E96 | with_reducible exact E121 | with_reducible exact E160 | with_reducible exact E186); (first | omega | (focus (simp; done)) | (simp; omega)); (first | omega | (focus (simp; done)) | (simp; omega)); (first | exact hS.ownNN (by (repeat (first | with_reducible exact mem_hd | with_reducible apply mem_tl))) (by omega) | exact Sat.rdAd2 (by assumption) hS (by ((repeat (first | with_reducible exact mem_hd | with_reducible apply mem_tl))); try assumption) (by first | (simp only [Is_length, Bs_length, List.length_take, List.length_drop]; omega) | omega | (simp; omega) | (simp; done)) | assumption); (first | (simp only [Int.toNat_natCast, Nat.mul_one, Nat.zero_add, tn_sub, tn_sub1, tn_sub2, tn_sub3, tn_add, tn_add1, tn_add2]; rfl) | rfl); (try simp only [Act.put, List.setIfInBounds_toArray, List.set_cons_zero, List.set_cons_succ])) | ((with_reducible apply arm_loadE); (first | with_reducible exact wanted_none | exact wanted_guard rfl rfl); (first | exact ev_tmp rfl | exact ev_const); (first | exact (hS.ownCell (by (repeat (first | with_reducible exact mem_hd | with_reducible apply mem_tl))) (by (first | assumption | exact Is_at (by assumption) | exact Bs_at (by assumption) | rfl | (simp; done)))).1 | exact Sat.rdCell2 (by assumption) hS (by ((repeat (first | with_reducible exact mem_hd | with_reducible apply mem_tl))); try assumption) (by (first | assumption | exact Is_at (by assumption) | exact Bs_at (by assumption) | rfl | (simp; done)))); decide +kernel; (try simp only [Act.put, List.setIfInBounds_toArray, List.set_cons_zero, List.set_cons_succ])))
                    go_roundw
                    case rel => exact ⟨k + 1, by go_num, by omega, by rw [HC.out]; simp [okLit, g1, g2, g3], hS⟩
                    case measure => simp [intOf]; omega
            · have hk3 : k = ls.length := by omega
              subst hk3
              have HC := hid (show F = true by rw [hc, List.drop_length]; rfl)
              clear hc
              go_wp2_with (first | ((with_reducible apply (arm_load hS)); (first | with_reducible exact wanted_none | exact wanted_guard rfl rfl); (first | exact ev_tmp rfl | exact ev_const); (repeat (first | with_reducible exact mem_hd | with_reducible apply mem_tl)); rfl; decide +kernel; (try simp only [Act.put, List.setIfInBounds_toArray, List.set_cons_zero, List.set_cons_succ])))
              go_ret
              refine ⟨?_, hS.drop⟩
              rw [HC.out]
              rfl
        · have F4 := hid (F2.out fr HC.out hfr)
          clear HC F1 F2 F3
          go_wp2_with (first | ((with_reducible apply (arm_load hS)); (first | with_reducible exact wanted_none | exact wanted_guard rfl rfl); (first | exact ev_tmp rfl | exact ev_const); (repeat (first | with_reducible exact mem_hd | with_reducible apply mem_tl)); rfl; decide +kernel; (try simp only [Act.put, List.setIfInBounds_toArray, List.set_cons_zero, List.set_cons_succ])))
          go_ret
          refine ⟨?_, hS.drop⟩
          rw [F4.out]
          rfl
end
end Go.Proofs.YthackanffcaejaaDoor
