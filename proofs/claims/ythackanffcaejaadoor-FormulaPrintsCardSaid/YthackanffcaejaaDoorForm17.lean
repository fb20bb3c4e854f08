/- The document's Print, Formed, Vars. -/
import Derived.Test.YthackanffcaejaaDoorForm10
import Derived.Test.YthackanffcaejaaDoorForm14
import Derived.Test.YthackanffcaejaaDoorForm16
set_option linter.unusedSimpArgs false
set_option linter.unusedVariables false
set_option linter.unusedSectionVars false
set_option maxRecDepth 20000
namespace Go.Proofs.YthackanffcaejaaDoor
open Go Go.RowKit Go.SL

section
variable (fs : List (Int × Int)) (hl : fs.length ≤ 9223372036854775807) (ad : Option Addr) (cap : Nat) (w0 w : World) (Hs : List HP) (hS : Sat w0 w Hs) {A : HP} (hA : A ∈ Hs) (hr : Rd A ad (Fs fs))
include hl hS hA hr
theorem startsAny : Calls Tryd.prog 79 #[.slice ad fs.length cap] w fun e w' => ∃ v, e = .returned v ∧ StPost fs w0 Hs v w' := by
  by_cases h : fs.length < 1 ∨ ¬ fs.length ≤ 65536
  · exact startsBad fs h hl ad cap w0 w Hs hS
  · exact startsR fs (by omega) (by omega) ad cap w0 w Hs hS hA hr
theorem printedNone (h : treeQ fs = none) : Calls Tryd.prog 43 #[.slice ad fs.length cap] w fun e w' => e = .returned (.tuple #[.pointer none, .bool false]) ∧ Sat w0 w' Hs := by
  have ST : Calls Tryd.prog 79 #[.slice ad fs.length cap] w fun e w' => ∃ x, e = .returned (.tuple #[x, .bool false]) ∧ Sat w0 w' Hs := by
    refine (startsAny fs hl ad cap w0 w Hs hS hA hr).mono fun e w' ⟨v, he, hp⟩ => ?_
    rcases hp with ⟨x, rfl, _, hS'⟩ | ⟨t, b, fr, _, hq, _⟩
    · exact ⟨x, he, hS'⟩
    · rw [h] at hq; cases hq
  clear h
  go_enter Tryd.func43, Tryd.ntmps43
  go_wp2_with (first | (go_at_call 79; refine ST.mono ?_; clear hS ST; rintro e w ⟨x, rfl, hS⟩))
  go_ret2
  exact ⟨rfl, hS⟩
set_option maxHeartbeats 2000000 in
theorem printedSome (t : T) (h : treeQ fs = some t) : Calls Tryd.prog 43 #[.slice ad fs.length cap] w fun e w' => ∃ (p : Nat) (x y : Value), e = .returned (.tuple #[.pointer (some ⟨p, 0, none⟩), .bool true]) ∧ Sat w0 w' (pg p x y (wr t true) 0 (look t).1 :: Hs) := by
  obtain ⟨q1, q2, q3, q4, q5⟩ := treeQ_some h
  have hsz : size t = fs.length := by rw [q4, post_len]
  have ST : Calls Tryd.prog 79 #[.slice ad fs.length cap] w fun e w' => ∃ (b : Nat) (fr : List Int), e = .returned (.tuple #[.slice (some ⟨b, 0, none⟩) fs.length fs.length, .bool true]) ∧ fr.length = fs.length ∧ Sub fs fr 0 t ∧ Sat w0 w' (own 3 1 (some ⟨b, 0, none⟩) fs.length fs.length (Is fr) :: Hs) := by
    refine (startsAny fs hl ad cap w0 w Hs hS hA hr).mono fun e w' ⟨v, he, hp⟩ => ?_
    rcases hp with ⟨x, rfl, hn, hS'⟩ | ⟨t', b, fr, rfl, hq, hfl, hsub, hS'⟩
    · rw [h] at hn; cases hn
    · rw [h] at hq; simp at hq; subst hq; exact ⟨b, fr, he, hfl, hsub, hS'⟩
  have hpos := size_pos t
  obtain ⟨k1, k2, _⟩ := look_le t
  have fq : (false || (quP (rootOp t) && !true)) = false := by cases quP (rootOp t) <;> rfl
  have OP : ∀ (x : Int) (fr : List Int), x = (fs.length : Int) - 1 → fr.length = fs.length → Sub fs fr 0 t → ∀ (p : Nat) (b : Nat) (w1 : World), Sat w0 w1 (pg p (.slice ad fs.length cap) (.slice (some ⟨b, 0, none⟩) fs.length fs.length) [] 0 0 :: own 3 1 (some ⟨b, 0, none⟩) fs.length fs.length (Is fr) :: Hs) →
      Calls Tryd.prog 80 #[.pointer (some ⟨p, 0, none⟩), .int .i64 x, .bool false, .bool true] w1 fun e w' => e = .returned (.tuple #[]) ∧ Sat w0 w' (pg p (.slice ad fs.length cap) (.slice (some ⟨b, 0, none⟩) fs.length fs.length) (wr t true) 0 (look t).1 :: own 3 1 (some ⟨b, 0, none⟩) fs.length fs.length (Is fr) :: Hs) := by
    intro x fr hx hfl hsub p b w1 hS1
    have h1 := operandR fs fr t q3 q5 (treeAll fs fr _ t rfl q3 q5) 0 x false true false fq p ad (some ⟨b, 0, none⟩) cap fs.length A _ [] 0 0 w0 w1 _ hsub (by omega) (by omega) ⟨hr, Rd.of_own, .tail _ hA, .head _, hfl, q1⟩ (by omega) (by omega) (by omega) (by simp; omega) hS1
    have e1 : max (0 : Int) (0 + lkB t false true) = (look t).1 := by
      have : lkB t false true = (look t).1 := rfl
      rw [this]; omega
    rw [e1, List.nil_append] at h1
    exact h1
  have HQ := hid (And.intro q4 hsz)
  clear h q2 q4 hsz
  go_enter Tryd.func43, Tryd.ntmps43
  go_wp2_with (first | ((with_reducible apply (arm_box hS)); (first | with_reducible exact wanted_none | exact wanted_guard rfl rfl); (first | exact ev_tmp rfl | exact ev_const); (first | with_reducible exact cells_agg | exact cells_one rfl); clear hS; intro NB w hS; (try simp only [Act.put, List.setIfInBounds_toArray, List.set_cons_zero, List.set_cons_succ])) | (go_at_call 79; refine ST.mono ?_; clear hS ST; rintro e w ⟨b, fr, rfl, hfl, hsub, hS⟩) | (go_at_call 80; refine (OP _ fr (by omega) hfl hsub _ b _ (shut_pg (l := []) rfl ((hS.ownNil 5 1).front (Rem.tl Rem.hd)))).mono ?_; clear hS; rintro e w ⟨rfl, hS⟩))
  go_ret2
  exact ⟨_, _, _, rfl, (hS.front (Rem.tl Rem.hd)).drop⟩
theorem formedD : Calls Tryd.prog 20 #[.slice ad fs.length cap] w fun e w' => e = .returned (.bool (treeP fs).isSome) ∧ Sat w0 w' Hs := by
  obtain ⟨O, hO⟩ : ∃ O, O = (treeP fs).isSome := ⟨_, rfl⟩
  rw [← hO]
  cases h : treeQ fs with
  | none =>
    have HO := hid (show O = false by rw [hO, treeP, h]; rfl)
    have PN := printedNone fs hl ad cap w0 w Hs hS hA hr h
    clear h hO
    go_enter Tryd.func20, Tryd.ntmps20
    go_wp2_with (first | (go_at_call 43; refine PN.mono ?_; clear hS PN; rintro e w ⟨rfl, hS⟩))
    go_ret
    exact ⟨by rw [HO.out]; rfl, hS⟩
  | some t =>
    have PS := printedSome fs hl ad cap w0 w Hs hS hA hr t h
    have HO := hid (show O = decide ((look t).1 ≤ 64) by
      rw [hO, treeP, h]
      by_cases hd : (look t).1 > 64
      · have h2 : ¬ (look t).1 ≤ 64 := by omega
        simp [hd, h2]
      · have h2 : (look t).1 ≤ 64 := by omega
        simp [hd, h2])
    clear h hO
    generalize (look t).1 = d at *
    go_enter Tryd.func20, Tryd.ntmps20
    go_wp2_with (first | ((with_reducible apply (arm_load hS)); (first | with_reducible exact wanted_none | exact wanted_guard rfl rfl); (first | exact ev_tmp rfl | exact ev_const); (repeat (first | with_reducible exact mem_hd | with_reducible apply mem_tl)); rfl; decide +kernel; (try simp only [Act.put, List.setIfInBounds_toArray, List.set_cons_zero, List.set_cons_succ])) | (go_at_call 43; refine PS.mono ?_; clear hS PS; rintro e w ⟨p, x, y, rfl, hS⟩; obtain ⟨PA, PC, hS⟩ := open_pg hS))
    go_ret
    exact ⟨by rw [HO.out]; rfl, hS.drop.drop⟩
theorem printD : Calls Tryd.prog 19 #[.slice ad fs.length cap] w fun e w' => e = .returned (.tuple #[.string ⟨(printsP fs).1.toArray⟩, .int .i64 (printsP fs).2]) ∧ Sat w0 w' Hs := by
  obtain ⟨O, hO⟩ : ∃ O, O = printsP fs := ⟨_, rfl⟩
  rw [← hO]
  cases h : treeQ fs with
  | none =>
    have HO := hid (show O = ([], 134) by rw [hO, printsP, treeP, h]; rfl)
    have PN := printedNone fs hl ad cap w0 w Hs hS hA hr h
    clear h hO
    go_enter Tryd.func19, Tryd.ntmps19
    go_wp2_with (first | (go_at_call 43; refine PN.mono ?_; clear hS PN; rintro e w ⟨rfl, hS⟩))
    go_ret2
    exact ⟨by rw [HO.out]; rfl, hS⟩
  | some t =>
    have PS := printedSome fs hl ad cap w0 w Hs hS hA hr t h
    by_cases hd : (look t).1 > 64
    · have HO := hid (show O = ([], 134) by rw [hO, printsP, treeP, h]; simp [hd])
      clear h hO
      generalize (look t).1 = d at *
      go_enter Tryd.func19, Tryd.ntmps19
      go_wp2_with (first | ((with_reducible apply (arm_load hS)); (first | with_reducible exact wanted_none | exact wanted_guard rfl rfl); (first | exact ev_tmp rfl | exact ev_const); (repeat (first | with_reducible exact mem_hd | with_reducible apply mem_tl)); rfl; decide +kernel; (try simp only [Act.put, List.setIfInBounds_toArray, List.set_cons_zero, List.set_cons_succ])) | (go_at_call 43; refine PS.mono ?_; clear hS PS; rintro e w ⟨p, x, y, rfl, hS⟩; obtain ⟨PA, PC, hS⟩ := open_pg hS))
      go_ret2
      exact ⟨by rw [HO.out]; rfl, hS.drop.drop⟩
    · have ht : treeP fs = some t := by rw [treeP, h]; simp [hd]
      have hd2 : ¬ 64 < (look t).1 := hd
      by_cases hbig : (wr t true).length > 1048576
      · have HO := hid (show O = ([], 5) by rw [hO, printsP, ht]; simp only [if_pos hbig])
        have hb2 : ((wr t true).length : Int) > 1048576 := by omega
        clear h hO hd ht hbig
        generalize (look t).1 = d at *
        generalize wr t true = X at *
        go_enter Tryd.func19, Tryd.ntmps19
        go_wp2_with (first | ((with_reducible apply (arm_load hS)); (first | with_reducible exact wanted_none | exact wanted_guard rfl rfl); (first | exact ev_tmp rfl | exact ev_const); (repeat (first | with_reducible exact mem_hd | with_reducible apply mem_tl)); rfl; decide +kernel; (try simp only [Act.put, List.setIfInBounds_toArray, List.set_cons_zero, List.set_cons_succ])) | (go_at_call 43; refine PS.mono ?_; clear hS PS; rintro e w ⟨p, x, y, rfl, hS⟩; obtain ⟨PA, PC, hS⟩ := open_pg hS))
        go_ret2
        exact ⟨by rw [HO.out]; rfl, hS.drop.drop⟩
      · have HO := hid (show O = (wr t true, 0) by rw [hO, printsP, ht]; simp only [if_neg hbig])
        have hb2 : ¬ ((wr t true).length : Int) > 1048576 := by omega
        clear h hO hd ht hbig
        generalize (look t).1 = d at *
        generalize wr t true = X at *
        go_enter Tryd.func19, Tryd.ntmps19
        go_wp2_with (first | ((with_reducible apply (arm_load hS)); (first | with_reducible exact wanted_none | exact wanted_guard rfl rfl); (first | exact ev_tmp rfl | exact ev_const); (repeat (first | with_reducible exact mem_hd | with_reducible apply mem_tl)); rfl; decide +kernel; (try simp only [Act.put, List.setIfInBounds_toArray, List.set_cons_zero, List.set_cons_succ])) | ((with_reducible apply (arm_strOwn hS)); (first | with_reducible exact wanted_none | exact wanted_guard rfl rfl); (first | exact ev_tmp rfl | exact ev_const); (first | with_reducible exact E22 | with_reducible exact E37 | with_reducible exact E47 | with_reducible exact E60 | with_reducible exact E64 | with_reducible exact E68 | with_reducible exact E96 | with_reducible exact E121 | with_reducible exact E160 | with_reducible exact E186); kernel_rfl; kernel_rfl; (repeat (first | with_reducible exact mem_hd | with_reducible apply mem_tl)); (try simp only [Act.put, List.setIfInBounds_toArray, List.set_cons_zero, List.set_cons_succ])) | (go_at_call 43; refine PS.mono ?_; clear hS PS; rintro e w ⟨p, x, y, rfl, hS⟩; obtain ⟨PA, PC, hS⟩ := open_pg hS))
        go_ret2
        exact ⟨by rw [HO.out]; rfl, hS.drop.drop⟩
set_option maxHeartbeats 2000000 in
theorem varsD : Calls Tryd.prog 21 #[.slice ad fs.length cap] w fun e w' => e = .returned (.tuple #[.int .i64 (varsP fs).1, .int .i64 (varsP fs).2]) ∧ Sat w0 w' Hs := by
  have FE := formedD fs hl ad cap w0 w Hs hS hA hr
  obtain ⟨O, hO⟩ : ∃ O, O = varsP fs := ⟨_, rfl⟩
  cases h : treeP fs with
  | none =>
    have HO := hid (show O = (0, 134) by rw [hO, varsP, h])
    rw [h] at FE
    rw [← hO]
    clear h hO
    go_enter Tryd.func21, Tryd.ntmps21
    go_wp2_with (first | (go_at_call 20; refine FE.mono ?_; clear hS FE; rintro e w ⟨rfl, hS⟩))
    go_ret2
    exact ⟨by rw [HO.out]; rfl, hS⟩
  | some t =>
    have HO := hid (show O = (mostP 0 fs, 0) by rw [hO, varsP, h])
    obtain ⟨q1, q2, q3, q4, q5⟩ := treeQ_some (treeP_some h).1
    have HV := hid (show ∀ x ∈ fs, x.1 = 2 ∨ x.1 = 4 ∨ x.1 = 5 → 0 ≤ x.2 ∧ x.2 < 65536 by rw [q4]; exact post_var q3)
    rw [h] at FE
    rw [← hO]
    clear h hO q4
    go_enter Tryd.func21, Tryd.ntmps21
    go_wp2_with (first | (go_at_call 20; refine FE.mono ?_; clear hS FE; rintro e w ⟨rfl, hS⟩))
    go_loopw [5, 6] (fun m i wr => ∃ (mm : Int) (k : Nat), m = .int .i64 mm ∧ i = .int .i64 k ∧ k ≤ fs.length ∧ 0 ≤ mm ∧ mm ≤ 65536 ∧ mostP 0 fs = mostP mm (fs.drop k) ∧ Sat w0 wr Hs) (fun _ i _ => fs.length - (intOf i).toNat)
    case atStart => exact ⟨0, 0, rfl, rfl, by omega, by omega, by omega, rfl, hS⟩
    case round =>
      clear hS
      obtain ⟨mm, k, rfl, rfl, hk, hm0, hm1, hc, hS⟩ := hrel
      by_cases hlt : k < fs.length
      · obtain ⟨⟨op, n⟩, hx⟩ : ∃ x, fs[k]? = some x := ⟨_, List.getElem?_eq_getElem hlt⟩
        obtain ⟨hF0, hF1⟩ := Fs_cell hx
        have hne : ∃ aa, ad = some aa ∧ aa.spot = none := Sat.rdAd2 hr hS hA (by rw [Fs_length]; omega)
        have hv := HV.out _ (List.mem_of_getElem? hx)
        simp only at hv
        have hdr : fs.drop k = (op, n) :: fs.drop (k + 1) := by
          rw [List.drop_eq_getElem_cons hlt]; simp [List.getElem?_eq_getElem hlt] at hx; rw [hx]
        rw [hdr] at hc
        simp only [mostP] at hc
        have HC := hid hc
        clear hc hdr hx
        by_cases hop : op = 2 ∨ op = 4 ∨ op = 5
        · obtain ⟨v1, v2⟩ := hv hop
          clear hv
          have HD := hid (show (if op = 2 ∨ op = 4 ∨ op = 5 then max mm (n + 1) else mm) = max mm (n + 1) from if_pos hop)
          by_cases hgt : mm < n + 1
          · have HD2 := hid (show max mm (n + 1) = n + 1 by omega)
            rcases hop with rfl | rfl | rfl
            all_goals
              go_wp2_with (first | ((with_reducible apply arm_indexAddr); (first | with_reducible exact wanted_none | exact wanted_guard rfl rfl); (first | exact ev_tmp rfl | exact ev_const); (first | exact ev_tmp rfl | exact ev_const); (first | with_reducible exact E22 | with_reducible exact E37 | with_reducible exact E47 | with_reducible exact E60 | with_reducible exact E64 | with_reducible exact E68 | with_reducible exact E96 | with_reducible exact E121 | with_reducible exact E160 | with_reducible exact E186); (first | omega | (focus (simp; done)) | (simp; omega)); (first | omega | (focus (simp; done)) | (simp; omega)); (first | exact hS.ownNN (by (repeat (first | with_reducible exact mem_hd | with_reducible apply mem_tl))) (by omega) | exact Sat.rdAd2 (by assumption) hS (by ((repeat (first | with_reducible exact mem_hd | with_reducible apply mem_tl))); try assumption) (by first | (simp only [Is_length, Bs_length, List.length_take, List.length_drop]; omega) | omega | (simp; omega) | (simp; done)) | assumption); (first | (simp only [Int.toNat_natCast, Nat.mul_one, Nat.zero_add, tn_sub, tn_sub1, tn_sub2, tn_sub3, tn_add, tn_add1, tn_add2]; rfl) | rfl); (try simp only [Act.put, List.setIfInBounds_toArray, List.set_cons_zero, List.set_cons_succ])) | ((with_reducible apply arm_fieldAddrE); (first | with_reducible exact wanted_none | exact wanted_guard rfl rfl); (first | exact ev_tmp rfl | exact ev_const); (first | exact hS.ownNN (by (repeat (first | with_reducible exact mem_hd | with_reducible apply mem_tl))) (by omega) | exact Sat.rdAd2 (by assumption) hS (by ((repeat (first | with_reducible exact mem_hd | with_reducible apply mem_tl))); try assumption) (by first | (simp only [Is_length, Bs_length, List.length_take, List.length_drop]; omega) | omega | (simp; omega) | (simp; done)) | assumption); (first | with_reducible exact fo7_0 | with_reducible exact fo7_1 | with_reducible exact fo7_2 | with_reducible exact fo7_3 | with_reducible exact fo8_0 | with_reducible exact fo8_1 | with_reducible exact fo8_2 | with_reducible exact fo8_3 | with_reducible exact fo13_0 | with_reducible exact fo13_1 | with_reducible exact fo14_0 | with_reducible exact fo14_1 | with_reducible exact fo18_0 | with_reducible exact fo19_0 | with_reducible exact fo23_0 | with_reducible exact fo23_1 | with_reducible exact fo23_2 | with_reducible exact fo24_0 | with_reducible exact fo24_1 | with_reducible exact fo24_2 | with_reducible exact fo30_0 | with_reducible exact fo30_1 | with_reducible exact fo31_0 | with_reducible exact fo31_1 | with_reducible exact fo32_0 | with_reducible exact fo32_1 | with_reducible exact fo33_0 | with_reducible exact fo33_1 | with_reducible exact fo48_0 | with_reducible exact fo48_1 | with_reducible exact fo49_0 | with_reducible exact fo49_1 | with_reducible exact fo72_0 | with_reducible exact fo72_1 | with_reducible exact fo72_2 | with_reducible exact fo73_0 | with_reducible exact fo73_1 | with_reducible exact fo73_2 | with_reducible exact fo76_0 | with_reducible exact fo76_1 | with_reducible exact fo77_0 | with_reducible exact fo77_1 | with_reducible exact fo85_0 | with_reducible exact fo85_1 | with_reducible exact fo85_2 | with_reducible exact fo85_3 | with_reducible exact fo85_4 | with_reducible exact fo86_0 | with_reducible exact fo86_1 | with_reducible exact fo86_2 | with_reducible exact fo86_3 | with_reducible exact fo86_4 | with_reducible exact fo88_0 | with_reducible exact fo88_1 | with_reducible exact fo88_2 | with_reducible exact fo88_3 | with_reducible exact fo89_0 | with_reducible exact fo89_1 | with_reducible exact fo89_2 | with_reducible exact fo89_3 | with_reducible exact fo90_0 | with_reducible exact fo90_1 | with_reducible exact fo90_2 | with_reducible exact fo90_3 | with_reducible exact fo90_4 | with_reducible exact fo90_5 | with_reducible exact fo90_6 | with_reducible exact fo91_0 | with_reducible exact fo91_1 | with_reducible exact fo91_2 | with_reducible exact fo91_3 | with_reducible exact fo91_4 | with_reducible exact fo91_5 | with_reducible exact fo91_6 | with_reducible exact fo97_0 | with_reducible exact fo97_1 | with_reducible exact fo97_2 | with_reducible exact fo97_3 | with_reducible exact fo98_0 | with_reducible exact fo98_1 | with_reducible exact fo98_2 | with_reducible exact fo98_3 | with_reducible exact fo99_0 | with_reducible exact fo99_1 | with_reducible exact fo99_2 | with_reducible exact fo99_3 | with_reducible exact fo100_0 | with_reducible exact fo100_1 | with_reducible exact fo100_2 | with_reducible exact fo100_3 | with_reducible exact fo105_0 | with_reducible exact fo105_1 | with_reducible exact fo105_2 | with_reducible exact fo106_0 | with_reducible exact fo106_1 | with_reducible exact fo106_2 | with_reducible exact fo116_0 | with_reducible exact fo116_1 | with_reducible exact fo117_0 | with_reducible exact fo117_1 | with_reducible exact fo124_0 | with_reducible exact fo124_1 | with_reducible exact fo125_0 | with_reducible exact fo125_1 | with_reducible exact fo126_0 | with_reducible exact fo126_1 | with_reducible exact fo127_0 | with_reducible exact fo127_1 | with_reducible exact fo129_0 | with_reducible exact fo129_1 | with_reducible exact fo130_0 | with_reducible exact fo130_1 | with_reducible exact fo140_0 | with_reducible exact fo140_1 | with_reducible exact fo141_0 | with_reducible exact fo141_1 | with_reducible exact fo143_0 | with_reducible exact fo143_1 | with_reducible exact fo143_2 | with_reducible exact fo143_3 | with_reducible exact fo144_0 | with_reducible exact fo144_1 | with_reducible exact fo144_2 | with_reducible exact fo144_3 | with_reducible exact fo147_0 | with_reducible exact fo147_1 | with_reducible exact fo147_2 | with_reducible exact fo147_3 | with_reducible exact fo148_0 | with_reducible exact fo148_1 | with_reducible exact fo148_2 | with_reducible exact fo148_3 | with_reducible exact fo150_0 | with_reducible exact fo150_1 | with_reducible exact fo150_2 | with_reducible exact fo150_3 | with_reducible exact fo151_0 | with_reducible exact fo151_1 | with_reducible exact fo151_2 | with_reducible exact fo151_3 | with_reducible exact fo161_0 | with_reducible exact fo161_1 | with_reducible exact fo161_2 | with_reducible exact fo187_0 | with_reducible exact fo187_1 | with_reducible exact fo206_0 | with_reducible exact fo206_1 | with_reducible exact fo207_0 | with_reducible exact fo207_1 | with_reducible exact fo212_0 | with_reducible exact fo212_1 | with_reducible exact fo212_2 | with_reducible exact fo212_3 | with_reducible exact fo213_0 | with_reducible exact fo213_1 | with_reducible exact fo213_2 | with_reducible exact fo213_3 | with_reducible exact fo222_0 | with_reducible exact fo222_1 | with_reducible exact fo222_2 | with_reducible exact fo222_3 | with_reducible exact fo222_4 | with_reducible exact fo222_5 | with_reducible exact fo222_6 | with_reducible exact fo222_7 | with_reducible exact fo222_8 | with_reducible exact fo222_9 | with_reducible exact fo222_10 | with_reducible exact fo223_0 | with_reducible exact fo223_1 | with_reducible exact fo223_2 | with_reducible exact fo223_3 | with_reducible exact fo223_4 | with_reducible exact fo223_5 | with_reducible exact fo223_6 | with_reducible exact fo223_7 | with_reducible exact fo223_8 | with_reducible exact fo223_9 | with_reducible exact fo223_10); (try simp only [Act.put, List.setIfInBounds_toArray, List.set_cons_zero, List.set_cons_succ])) | ((with_reducible apply arm_loadE); (first | with_reducible exact wanted_none | exact wanted_guard rfl rfl); (first | exact ev_tmp rfl | exact ev_const); (first | exact (hS.ownCell (by (repeat (first | with_reducible exact mem_hd | with_reducible apply mem_tl))) (by (first | assumption | exact Is_at (by assumption) | exact Bs_at (by assumption) | rfl | (simp; done)))).1 | exact Sat.rdCell2 (by assumption) hS (by ((repeat (first | with_reducible exact mem_hd | with_reducible apply mem_tl))); try assumption) (by (first | assumption | exact Is_at (by assumption) | exact Bs_at (by assumption) | rfl | (simp; done)))); decide +kernel; (try simp only [Act.put, List.setIfInBounds_toArray, List.set_cons_zero, List.set_cons_succ])))
              go_roundw
              case rel => exact ⟨n + 1, k + 1, by go_num, by go_num, by omega, by omega, by omega, by rw [HC.out, HD.out, HD2.out], hS⟩
              case measure => simp [intOf]; omega
          · have HD2 := hid (show max mm (n + 1) = mm by omega)
            rcases hop with rfl | rfl | rfl
            all_goals
              go_wp2_with (first | ((with_reducible apply arm_indexAddr); (first | with_reducible exact wanted_none | exact wanted_guard rfl rfl); (first | exact ev_tmp rfl | exact ev_const); (first | exact ev_tmp rfl | exact ev_const); (first | with_reducible exact E22 | with_reducible exact E37 | with_reducible exact E47 | with_reducible exact E60 | with_reducible exact E64 | with_reducible exact E68 | with_reducible exact E96 | with_reducible exact E121 | with_reducible exact E160 | with_reducible exact E186); (first | omega | (focus (simp; done)) | (simp; omega)); (first | omega | (focus (simp; done)) | (simp; omega)); (first | exact hS.ownNN (by (repeat (first | with_reducible exact mem_hd | with_reducible apply mem_tl))) (by omega) | exact Sat.rdAd2 (by assumption) hS (by ((repeat (first | with_reducible exact mem_hd | with_reducible apply mem_tl))); try assumption) (by first | (simp only [Is_length, Bs_length, List.length_take, List.length_drop]; omega) | omega | (simp; omega) | (simp; done)) | assumption); (first | (simp only [Int.toNat_natCast, Nat.mul_one, Nat.zero_add, tn_sub, tn_sub1, tn_sub2, tn_sub3, tn_add, tn_add1, tn_add2]; rfl) | rfl); (try simp only [Act.put, List.setIfInBounds_toArray, List.set_cons_zero, List.set_cons_succ])) | ((with_reducible apply arm_fieldAddrE); (first | with_reducible exact wanted_none | exact wanted_guard rfl rfl); (first | exact ev_tmp rfl | exact ev_const); (first | exact hS.ownNN (by (repeat (first | with_reducible exact mem_hd | with_reducible apply mem_tl))) (by omega) | exact Sat.rdAd2 (by assumption) hS (by ((repeat (first | with_reducible exact mem_hd | with_reducible apply mem_tl))); try assumption) (by first | (simp only [Is_length, Bs_length, List.length_take, List.length_drop]; omega) | omega | (simp; omega) | (simp; done)) | assumption); (first | with_reducible exact fo7_0 | with_reducible exact fo7_1 | with_reducible exact fo7_2 | with_reducible exact fo7_3 | with_reducible exact fo8_0 | with_reducible exact fo8_1 | with_reducible exact fo8_2 | with_reducible exact fo8_3 | with_reducible exact fo13_0 | with_reducible exact fo13_1 | with_reducible exact fo14_0 | with_reducible exact fo14_1 | with_reducible exact fo18_0 | with_reducible exact fo19_0 | with_reducible exact fo23_0 | with_reducible exact fo23_1 | with_reducible exact fo23_2 | with_reducible exact fo24_0 | with_reducible exact fo24_1 | with_reducible exact fo24_2 | with_reducible exact fo30_0 | with_reducible exact fo30_1 | with_reducible exact fo31_0 | with_reducible exact fo31_1 | with_reducible exact fo32_0 | with_reducible exact fo32_1 | with_reducible exact fo33_0 | with_reducible exact fo33_1 | with_reducible exact fo48_0 | with_reducible exact fo48_1 | with_reducible exact fo49_0 | with_reducible exact fo49_1 | with_reducible exact fo72_0 | with_reducible exact fo72_1 | with_reducible exact fo72_2 | with_reducible exact fo73_0 | with_reducible exact fo73_1 | with_reducible exact fo73_2 | with_reducible exact fo76_0 | with_reducible exact fo76_1 | with_reducible exact fo77_0 | with_reducible exact fo77_1 | with_reducible exact fo85_0 | with_reducible exact fo85_1 | with_reducible exact fo85_2 | with_reducible exact fo85_3 | with_reducible exact fo85_4 | with_reducible exact fo86_0 | with_reducible exact fo86_1 | with_reducible exact fo86_2 | with_reducible exact fo86_3 | with_reducible exact fo86_4 | with_reducible exact fo88_0 | with_reducible exact fo88_1 | with_reducible exact fo88_2 | with_reducible exact fo88_3 | with_reducible exact fo89_0 | with_reducible exact fo89_1 | with_reducible exact fo89_2 | with_reducible exact fo89_3 | with_reducible exact fo90_0 | with_reducible exact fo90_1 | with_reducible exact fo90_2 | with_reducible exact fo90_3 | with_reducible exact fo90_4 | with_reducible exact fo90_5 | with_reducible exact fo90_6 | with_reducible exact fo91_0 | with_reducible exact fo91_1 | with_reducible exact fo91_2 | with_reducible exact fo91_3 | with_reducible exact fo91_4 | with_reducible exact fo91_5 | with_reducible exact fo91_6 | with_reducible exact fo97_0 | with_reducible exact fo97_1 | with_reducible exact fo97_2 | with_reducible exact fo97_3 | with_reducible exact fo98_0 | with_reducible exact fo98_1 | with_reducible exact fo98_2 | with_reducible exact fo98_3 | with_reducible exact fo99_0 | with_reducible exact fo99_1 | with_reducible exact fo99_2 | with_reducible exact fo99_3 | with_reducible exact fo100_0 | with_reducible exact fo100_1 | with_reducible exact fo100_2 | with_reducible exact fo100_3 | with_reducible exact fo105_0 | with_reducible exact fo105_1 | with_reducible exact fo105_2 | with_reducible exact fo106_0 | with_reducible exact fo106_1 | with_reducible exact fo106_2 | with_reducible exact fo116_0 | with_reducible exact fo116_1 | with_reducible exact fo117_0 | with_reducible exact fo117_1 | with_reducible exact fo124_0 | with_reducible exact fo124_1 | with_reducible exact fo125_0 | with_reducible exact fo125_1 | with_reducible exact fo126_0 | with_reducible exact fo126_1 | with_reducible exact fo127_0 | with_reducible exact fo127_1 | with_reducible exact fo129_0 | with_reducible exact fo129_1 | with_reducible exact fo130_0 | with_reducible exact fo130_1 | with_reducible exact fo140_0 | with_reducible exact fo140_1 | with_reducible exact fo141_0 | with_reducible exact fo141_1 | with_reducible exact fo143_0 | with_reducible exact fo143_1 | with_reducible exact fo143_2 | with_reducible exact fo143_3 | with_reducible exact fo144_0 | with_reducible exact fo144_1 | with_reducible exact fo144_2 | with_reducible exact fo144_3 | with_reducible exact fo147_0 | with_reducible exact fo147_1 | with_reducible exact fo147_2 | with_reducible exact fo147_3 | with_reducible exact fo148_0 | with_reducible exact fo148_1 | with_reducible exact fo148_2 | with_reducible exact fo148_3 | with_reducible exact fo150_0 | with_reducible exact fo150_1 | with_reducible exact fo150_2 | with_reducible exact fo150_3 | with_reducible exact fo151_0 | with_reducible exact fo151_1 | with_reducible exact fo151_2 | with_reducible exact fo151_3 | with_reducible exact fo161_0 | with_reducible exact fo161_1 | with_reducible exact fo161_2 | with_reducible exact fo187_0 | with_reducible exact fo187_1 | with_reducible exact fo206_0 | with_reducible exact fo206_1 | with_reducible exact fo207_0 | with_reducible exact fo207_1 | with_reducible exact fo212_0 | with_reducible exact fo212_1 | with_reducible exact fo212_2 | with_reducible exact fo212_3 | with_reducible exact fo213_0 | with_reducible exact fo213_1 | with_reducible exact fo213_2 | with_reducible exact fo213_3 | with_reducible exact fo222_0 | with_reducible exact fo222_1 | with_reducible exact fo222_2 | with_reducible exact fo222_3 | with_reducible exact fo222_4 | with_reducible exact fo222_5 | with_reducible exact fo222_6 | with_reducible exact fo222_7 | with_reducible exact fo222_8 | with_reducible exact fo222_9 | with_reducible exact fo222_10 | with_reducible exact fo223_0 | with_reducible exact fo223_1 | with_reducible exact fo223_2 | with_reducible exact fo223_3 | with_reducible exact fo223_4 | with_reducible exact fo223_5 | with_reducible exact fo223_6 | with_reducible exact fo223_7 | with_reducible exact fo223_8 | with_reducible exact fo223_9 | with_reducible exact fo223_10); (try simp only [Act.put, List.setIfInBounds_toArray, List.set_cons_zero, List.set_cons_succ])) | ((with_reducible apply arm_loadE); (first | with_reducible exact wanted_none | exact wanted_guard rfl rfl); (first | exact ev_tmp rfl | exact ev_const); (first | exact (hS.ownCell (by (repeat (first | with_reducible exact mem_hd | with_reducible apply mem_tl))) (by (first | assumption | exact Is_at (by assumption) | exact Bs_at (by assumption) | rfl | (simp; done)))).1 | exact Sat.rdCell2 (by assumption) hS (by ((repeat (first | with_reducible exact mem_hd | with_reducible apply mem_tl))); try assumption) (by (first | assumption | exact Is_at (by assumption) | exact Bs_at (by assumption) | rfl | (simp; done)))); decide +kernel; (try simp only [Act.put, List.setIfInBounds_toArray, List.set_cons_zero, List.set_cons_succ])))
              go_roundw
              case rel => exact ⟨mm, k + 1, by go_num, by go_num, by omega, by omega, by omega, by rw [HC.out, HD.out, HD2.out], hS⟩
              case measure => simp [intOf]; omega
        · have HD := hid (show (if op = 2 ∨ op = 4 ∨ op = 5 then max mm (n + 1) else mm) = mm from if_neg hop)
          have g2 : (op == 2) = false := by simp; omega
          have g4 : (op == 4) = false := by simp; omega
          have g5 : (op == 5) = false := by simp; omega
          clear hop hv
          go_wp2_with (first | ((with_reducible apply arm_indexAddr); (first | with_reducible exact wanted_none | exact wanted_guard rfl rfl); (first | exact ev_tmp rfl | exact ev_const); (first | exact ev_tmp rfl | exact ev_const); (first | with_reducible exact E22 | with_reducible exact E37 | with_reducible exact E47 | with_reducible exact E60 | with_reducible exact E64 | with_reducible exact E68 | with_reducible exact E96 | with_reducible exact E121 | with_reducible exact E160 | with_reducible exact E186); (first | omega | (focus (simp; done)) | (simp; omega)); (first | omega | (focus (simp; done)) | (simp; omega)); (first | exact hS.ownNN (by (repeat (first | with_reducible exact mem_hd | with_reducible apply mem_tl))) (by omega) | exact Sat.rdAd2 (by assumption) hS (by ((repeat (first | with_reducible exact mem_hd | with_reducible apply mem_tl))); try assumption) (by first | (simp only [Is_length, Bs_length, List.length_take, List.length_drop]; omega) | omega | (simp; omega) | (simp; done)) | assumption); (first | (simp only [Int.toNat_natCast, Nat.mul_one, Nat.zero_add, tn_sub, tn_sub1, tn_sub2, tn_sub3, tn_add, tn_add1, tn_add2]; rfl) | rfl); (try simp only [Act.put, List.setIfInBounds_toArray, List.set_cons_zero, List.set_cons_succ])) | ((with_reducible apply arm_fieldAddrE); (first | with_reducible exact wanted_none | exact wanted_guard rfl rfl); (first | exact ev_tmp rfl | exact ev_const); (first | exact hS.ownNN (by (repeat (first | with_reducible exact mem_hd | with_reducible apply mem_tl))) (by omega) | exact Sat.rdAd2 (by assumption) hS (by ((repeat (first | with_reducible exact mem_hd | with_reducible apply mem_tl))); try assumption) (by first | (simp only [Is_length, Bs_length, List.length_take, List.length_drop]; omega) | omega | (simp; omega) | (simp; done)) | assumption); (first | with_reducible exact fo7_0 | with_reducible exact fo7_1 | with_reducible exact fo7_2 | with_reducible exact fo7_3 | with_reducible exact fo8_0 | with_reducible exact fo8_1 | with_reducible exact fo8_2 | with_reducible exact fo8_3 | with_reducible exact fo13_0 | with_reducible exact fo13_1 | with_reducible exact fo14_0 | with_reducible exact fo14_1 | with_reducible exact fo18_0 | with_reducible exact fo19_0 | with_reducible exact fo23_0 | with_reducible exact fo23_1 | with_reducible exact fo23_2 | with_reducible exact fo24_0 | with_reducible exact fo24_1 | with_reducible exact fo24_2 | with_reducible exact fo30_0 | with_reducible exact fo30_1 | with_reducible exact fo31_0 | with_reducible exact fo31_1 | with_reducible exact fo32_0 | with_reducible exact fo32_1 | with_reducible exact fo33_0 | with_reducible exact fo33_1 | with_reducible exact fo48_0 | with_reducible exact fo48_1 | with_reducible exact fo49_0 | with_reducible exact fo49_1 | with_reducible exact fo72_0 | with_reducible exact fo72_1 | with_reducible exact fo72_2 | with_reducible exact fo73_0 | with_reducible exact fo73_1 | with_reducible exact fo73_2 | with_reducible exact fo76_0 | with_reducible exact fo76_1 | with_reducible exact fo77_0 | with_reducible exact fo77_1 | with_reducible exact fo85_0 | with_reducible exact fo85_1 | with_reducible exact fo85_2 | with_reducible exact fo85_3 | with_reducible exact fo85_4 | with_reducible exact fo86_0 | with_reducible exact fo86_1 | with_reducible exact fo86_2 | with_reducible exact fo86_3 | with_reducible exact fo86_4 | with_reducible exact fo88_0 | with_reducible exact fo88_1 | with_reducible exact fo88_2 | with_reducible exact fo88_3 | with_reducible exact fo89_0 | with_reducible exact fo89_1 | with_reducible exact fo89_2 | with_reducible exact fo89_3 | with_reducible exact fo90_0 | with_reducible exact fo90_1 | with_reducible exact fo90_2 | with_reducible exact fo90_3 | with_reducible exact fo90_4 | with_reducible exact fo90_5 | with_reducible exact fo90_6 | with_reducible exact fo91_0 | with_reducible exact fo91_1 | with_reducible exact fo91_2 | with_reducible exact fo91_3 | with_reducible exact fo91_4 | with_reducible exact fo91_5 | with_reducible exact fo91_6 | with_reducible exact fo97_0 | with_reducible exact fo97_1 | with_reducible exact fo97_2 | with_reducible exact fo97_3 | with_reducible exact fo98_0 | with_reducible exact fo98_1 | with_reducible exact fo98_2 | with_reducible exact fo98_3 | with_reducible exact fo99_0 | with_reducible exact fo99_1 | with_reducible exact fo99_2 | with_reducible exact fo99_3 | with_reducible exact fo100_0 | with_reducible exact fo100_1 | with_reducible exact fo100_2 | with_reducible exact fo100_3 | with_reducible exact fo105_0 | with_reducible exact fo105_1 | with_reducible exact fo105_2 | with_reducible exact fo106_0 | with_reducible exact fo106_1 | with_reducible exact fo106_2 | with_reducible exact fo116_0 | with_reducible exact fo116_1 | with_reducible exact fo117_0 | with_reducible exact fo117_1 | with_reducible exact fo124_0 | with_reducible exact fo124_1 | with_reducible exact fo125_0 | with_reducible exact fo125_1 | with_reducible exact fo126_0 | with_reducible exact fo126_1 | with_reducible exact fo127_0 | with_reducible exact fo127_1 | with_reducible exact fo129_0 | with_reducible exact fo129_1 | with_reducible exact fo130_0 | with_reducible exact fo130_1 | with_reducible exact fo140_0 | with_reducible exact fo140_1 | with_reducible exact fo141_0 | with_reducible exact fo141_1 | with_reducible exact fo143_0 | with_reducible exact fo143_1 | with_reducible exact fo143_2 | with_reducible exact fo143_3 | with_reducible exact fo144_0 | with_reducible exact fo144_1 | with_reducible exact fo144_2 | with_reducible exact fo144_3 | with_reducible exact fo147_0 | with_reducible exact fo147_1 | with_reducible exact fo147_2 | with_reducible exact fo147_3 | with_reducible exact fo148_0 | with_reducible exact fo148_1 | with_reducible exact fo148_2 | with_reducible exact fo148_3 | with_reducible exact fo150_0 | with_reducible exact fo150_1 | with_reducible exact fo150_2 | with_reducible exact fo150_3 | with_reducible exact fo151_0 | with_reducible exact fo151_1 | with_reducible exact fo151_2 | with_reducible exact fo151_3 | with_reducible exact fo161_0 | with_reducible exact fo161_1 | with_reducible exact fo161_2 | with_reducible exact fo187_0 | with_reducible exact fo187_1 | with_reducible exact fo206_0 | with_reducible exact fo206_1 | with_reducible exact fo207_0 | with_reducible exact fo207_1 | with_reducible exact fo212_0 | with_reducible exact fo212_1 | with_reducible exact fo212_2 | with_reducible exact fo212_3 | with_reducible exact fo213_0 | with_reducible exact fo213_1 | with_reducible exact fo213_2 | with_reducible exact fo213_3 | with_reducible exact fo222_0 | with_reducible exact fo222_1 | with_reducible exact fo222_2 | with_reducible exact fo222_3 | with_reducible exact fo222_4 | with_reducible exact fo222_5 | with_reducible exact fo222_6 | with_reducible exact fo222_7 | with_reducible exact fo222_8 | with_reducible exact fo222_9 | with_reducible exact fo222_10 | with_reducible exact fo223_0 | with_reducible exact fo223_1 | with_reducible exact fo223_2 | with_reducible exact fo223_3 | with_reducible exact fo223_4 | with_reducible exact fo223_5 | with_reducible exact fo223_6 | with_reducible exact fo223_7 | with_reducible exact fo223_8 | with_reducible exact fo223_9 | with_reducible exact fo223_10); (try simp only [Act.put, List.setIfInBounds_toArray, List.set_cons_zero, List.set_cons_succ])) | ((with_reducible apply arm_loadE); (first | with_reducible exact wanted_none | exact wanted_guard rfl rfl); (first | exact ev_tmp rfl | exact ev_const); (first | exact (hS.ownCell (by (repeat (first | with_reducible exact mem_hd | with_reducible apply mem_tl))) (by (first | assumption | exact Is_at (by assumption) | exact Bs_at (by assumption) | rfl | (simp; done)))).1 | exact Sat.rdCell2 (by assumption) hS (by ((repeat (first | with_reducible exact mem_hd | with_reducible apply mem_tl))); try assumption) (by (first | assumption | exact Is_at (by assumption) | exact Bs_at (by assumption) | rfl | (simp; done)))); decide +kernel; (try simp only [Act.put, List.setIfInBounds_toArray, List.set_cons_zero, List.set_cons_succ])))
          go_roundw
          case rel => exact ⟨mm, k + 1, by go_num, by go_num, by omega, by omega, by omega, by rw [HC.out, HD.out], hS⟩
          case measure => simp [intOf]; omega
      · have hk2 : k = fs.length := by omega
        subst hk2
        rw [List.drop_length] at hc
        have HC := hid (show mostP 0 fs = mm from hc)
        clear hc
        go_wp2
        go_ret2
        exact ⟨by rw [HO.out, HC.out]; rfl, hS⟩
end
end Go.Proofs.YthackanffcaejaaDoor
