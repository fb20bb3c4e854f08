/- A part of the proof: Rx2. -/
import Derived.Test.YthackanffcaejaaDoorM1
import Derived.Test.YthackanffcaejaaDoorM4
import Derived.Test.YthackanffcaejaaDoorM6
set_option linter.unusedSimpArgs false
set_option linter.unusedVariables false
set_option maxRecDepth 20000
namespace Go.Proofs.YthackanffcaejaaDoor
open Go Go.RowKit Go.SL Go.ClauseP Go.LexP

def sgR : List (List UInt8 × Tk) → List Value
  | [] => []
  | x :: xs => .string ⟨x.1.toArray⟩ :: .int .i64 (tokF x.2).1 :: .int .i64 (tokF x.2).2 :: sgR xs
theorem sgR_at : ∀ (xs : List (List UInt8 × Tk)) (j : Nat) (x : List UInt8 × Tk), xs[j]? = some x → (sgR xs)[j * 3]? = some (.string ⟨x.1.toArray⟩) ∧ (sgR xs)[j * 3 + 1]? = some (.int .i64 (tokF x.2).1) ∧ (sgR xs)[j * 3 + 2]? = some (.int .i64 (tokF x.2).2)
  | [], j, x, h => by simp at h
  | y :: xs, 0, x, h => by simp at h; subst h; exact ⟨rfl, rfl, rfl⟩
  | y :: xs, j + 1, x, h => by
    have h2 := sgR_at xs j x (by simpa using h)
    rw [show (j + 1) * 3 = j * 3 + 1 + 1 + 1 by omega]
    exact h2
def SigR (w0 : World) : Prop := ∃ ad cap, w0.cell? ⟨0, 0, none⟩ = some (.slice ad 21 cap) ∧ Rd (base w0) ad (sgR (signs11 ++ signs10)) ∧ ∃ aa, ad = some aa ∧ aa.spot = none
theorem mem_takeWhile {p : UInt8 → Bool} : ∀ {l : List UInt8} {x : UInt8}, x ∈ l.takeWhile p → p x = true
  | c :: l, x, h => by
    rw [List.takeWhile_cons] at h
    split at h
    · rename_i hc
      rcases List.mem_cons.1 h with rfl | h
      · exact hc
      · exact mem_takeWhile h
    · cases h
theorem numM1 {c : UInt8} {l : List UInt8} (h : digP c = true) : numM 1 ((c :: l).takeWhile digP) = if ((c :: l).takeWhile digP).length = 1 ∧ c.toNat ≤ 49 then (c.toNat : Int) - 48 else -1 := by
  have hc := digP_le h
  rw [List.takeWhile_cons, h]
  simp only [if_true]
  cases ht : l.takeWhile digP with
  | nil =>
    simp only [List.length_cons, List.length_nil]
    rw [numM_val (by simp) (by simp) (by simp [h])]
    have hv : valD 0 [c] = c.toNat - 48 := by simp [valD]
    rw [hv]
    by_cases h1 : c.toNat ≤ 49
    · rw [if_neg (by omega), if_pos (by simp; exact h1)]; omega
    · rw [if_pos (by omega), if_neg (by rintro ⟨_, h2⟩; exact h1 h2)]
  | cons d ds =>
    rw [if_neg (by rintro ⟨h2, _⟩; simp at h2)]
    have hall : (c :: d :: ds).all digP = true := by
      have hd : ∀ x ∈ d :: ds, digP x = true := by
        intro x hx; rw [← ht] at hx; exact mem_takeWhile hx
      simp only [List.all_cons, h, Bool.true_and]
      have h1 := hd d (by simp)
      have h2 : ds.all digP = true := List.all_eq_true.2 fun x hx => hd x (by simp [hx])
      rw [h1, h2]; rfl
    by_cases h48 : c.toNat = 48
    · exact numM_zero (by simp) (by simp; exact UInt8.toNat_inj.1 h48)
    · rw [numM_val (by simp) (by rintro ⟨_, h2⟩; simp at h2; exact h48 (by rw [h2]; rfl)) hall, if_pos]
      rw [valD_cons, valD_cons]
      have := valD_ge1 ds (10 * (10 * 0 + (c.toNat - 48)) + (d.toNat - 48))
      omega
theorem skipP_hash {text : List UInt8} {j : Nat} (h : text[j]? = some 35) : skipP text j = j + skipS true (text.drop j) := by
  have hlt := (List.getElem?_eq_some_iff.1 h).1
  have hd : text.drop j = 35 :: text.drop (j + 1) := by
    rw [List.drop_eq_getElem_cons hlt, (List.getElem?_eq_some_iff.1 h).2]
  rw [skipP, hd]; simp [skipS, blankP]
theorem four_cases {a b c d : Bool} (h : ((a = true ∨ b = true) ∨ c = true) ∨ d = true) : a = true ∨ (a = false ∧ b = true) ∨ (a = false ∧ b = false ∧ c = true) ∨ (a = false ∧ b = false ∧ c = false ∧ d = true) := by
  cases a <;> cases b <;> cases c <;> cases d <;> simp_all
theorem signs_len : ∀ x ∈ signs11 ++ signs10, 1 ≤ x.1.length ∧ x.1.length ≤ 3 := by decide
theorem signAt (l : List UInt8) (j : Nat) (x : List UInt8 × Tk) (hx : (signs11 ++ signs10)[j]? = some x) (hn : ∀ i y, i < j → (signs11 ++ signs10)[i]? = some y → y.1.isPrefixOf l = false) (hp : x.1.isPrefixOf l = true) : signT l = some x := by
  unfold signT
  obtain ⟨hlt, he⟩ := List.getElem?_eq_some_iff.1 hx
  rw [List.find?_eq_some_iff_getElem]
  refine ⟨hp, j, hlt, he, fun i hi => ?_⟩
  rw [hn i _ hi (List.getElem?_eq_getElem (by omega))]
  rfl
theorem signNone (l : List UInt8) (hn : ∀ i y, i < 21 → (signs11 ++ signs10)[i]? = some y → y.1.isPrefixOf l = false) : signT l = none := by
  unfold signT
  rw [List.find?_eq_none]
  intro x hx
  obtain ⟨i, hlt, he⟩ := List.getElem_of_mem hx
  rw [hn i x hlt (by rw [List.getElem?_eq_getElem hlt, he])]
  simp
theorem pfx (text : List UInt8) (j : Nat) (x : List UInt8) (h : j + x.length ≤ text.length) : (((⟨text.toArray⟩ : ByteArray).extract j ((j : Int) + (x.length : Int)).toNat).toList == x) = x.isPrefixOf (text.drop j) := by
  rw [ByteArray.toList_eq, show ((j : Int) + (x.length : Int)).toNat = j + x.length by omega]
  have hd : ((⟨text.toArray⟩ : ByteArray).extract j (j + x.length)).data.toList = (text.drop j).take x.length := by
    simp [ByteArray.data_extract, List.extract_toArray, List.extract_eq_take_drop]
  rw [hd, Bool.eq_iff_iff, beq_iff_eq, List.isPrefixOf_iff_prefix, List.prefix_iff_eq_take]
  exact ⟨fun h => h.symm, fun h => h.symm⟩
theorem drop_cons {text : List UInt8} {j : Nat} {c : UInt8} (h : text[j]? = some c) : text.drop j = c :: text.drop (j + 1) := by
  have hlt := (List.getElem?_eq_some_iff.1 h).1
  rw [List.drop_eq_getElem_cons hlt, (List.getElem?_eq_some_iff.1 h).2]
set_option maxHeartbeats 8000000 in
theorem nextR (text : List UInt8) (hl : text.length ≤ 1048576) (k : Nat) (hk : k ≤ text.length) (w0 w : World) (hSig : SigR w0) (Hs : List HP) (hbm : base w0 ∈ Hs) (hS : Sat w0 w Hs) :
    Calls Tryd.prog 48 #[.string ⟨text.toArray⟩, .int .i64 k] w fun e w' => e = .returned (tokFV (nextT text k).tk (nextT text k).at_ (nextT text k).fin) ∧ Sat w0 w' Hs := by
  obtain ⟨R, hR⟩ : ∃ R : Nat, R = skipP text k := ⟨_, rfl⟩
  obtain ⟨t, ht⟩ : ∃ t : TokR, t = nextT text k := ⟨_, rfl⟩
  rw [← ht]
  unfold nextT at ht
  rw [← hR] at ht
  have HT := hid ht
  have HR := hid hR
  clear ht hR
  have hli : (text.length : Int) ≤ 1048576 := by omega
  go_enter Tryd.func48, Tryd.ntmps48
  go_wp2_with ((with_reducible apply arm_alloc hS); exact wanted_none; exact z100; clear hS; intro RB w hS; (try simp only [Act.put, q1, q2, q3]))
  go_loopw [1] (fun i wr => ∃ j : Nat, i = .int .i64 j ∧ j ≤ text.length ∧ Hid (R = skipP text j) ∧ Sat w0 wr (blk RB 100 [.int .i64 0, .int .i64 0, .int .i64 0, .int .i64 0] :: Hs)) (fun i _ => text.length - (intOf i).toNat)
  case atStart => exact ⟨k, rfl, hk, HR, hS⟩
  case round =>
    clear hS HR
    obtain ⟨j, rfl, hj, HJ, hS⟩ := hrel
    by_cases hlt : j < text.length
    · obtain ⟨c, hc⟩ : ∃ c, text[j]? = some c := ⟨_, List.getElem?_eq_getElem hlt⟩
      obtain ⟨hpj, hcj⟩ := byteAt text j c hc
      have hd := drop_cons hc
      have HD := hid hd
      have e1 := u8_eq c 32 32 rfl
      have e2 := u8_eq c 9 9 rfl
      have e3 := u8_eq c 10 10 rfl
      have e4 := u8_eq c 13 13 rfl
      have e5 := u8_eq c 35 35 rfl
      by_cases h35 : c = 35
      · subst h35
        have HJ2 := hid (HJ.out.trans (skipP_hash hc))
        have hlt2 : (j : Int) < text.length := by omega
        have HC := hid hc
        clear hc hd e1 e2 e3 e4 e5 HJ HD
        go_wp2_with ((with_reducible apply arm_load hS); exact wanted_guard rfl rfl; exact ev_const; (repeat (with_reducible apply mem_tl)); rfl; decide +kernel; (try simp only [Act.put, q1, q2, q3]))
        go_loopw [1] (fun i wr => ∃ m : Nat, i = .int .i64 m ∧ j ≤ m ∧ m ≤ text.length ∧ (m = j ∨ j < m) ∧ Hid (R = m + skipS true (text.drop m)) ∧ Sat w0 wr (blk RB 100 [.int .i64 0, .int .i64 0, .int .i64 0, .int .i64 0] :: Hs)) (fun i _ => text.length - (intOf i).toNat)
        case atStart => exact ⟨j, rfl, Nat.le_refl _, by omega, .inl rfl, HJ2, hS⟩
        case round =>
          clear hS HJ2
          obtain ⟨m, rfl, hm1, hm2, hm3, HM, hS⟩ := hrel
          by_cases hml : m < text.length
          · obtain ⟨d, hdm⟩ : ∃ d, text[m]? = some d := ⟨_, List.getElem?_eq_getElem hml⟩
            obtain ⟨hpm, hcm⟩ := byteAt text m d hdm
            have hdd := drop_cons hdm
            have e10 := u8_ne d 10 10 rfl
            by_cases h10 : d = 10
            · subst h10
              have HM2 := hid (show R = skipP text m by rw [HM.out, skipP, hdd]; simp [skipS, blankP])
              rw [if_pos rfl] at e10
              have hjm : j < m := by
                rcases hm3 with rfl | h
                · have h1 := HC.out
                  rw [hdm] at h1
                  cases h1
                · exact h
              clear hdm hdd hm3
              go_wp2_with ((with_reducible apply arm_load hS); exact wanted_guard rfl rfl; exact ev_const; (repeat (with_reducible apply mem_tl)); rfl; decide +kernel; (try simp only [Act.put, q1, q2, q3]))
              go_roundw
              case rel => exact ⟨m, rfl, hm2, HM2, hS⟩
              case measure => simp [intOf]; omega
            · rw [if_neg h10] at e10
              have HM2 := hid (show R = m + 1 + skipS true (text.drop (m + 1)) by rw [HM.out, hdd]; simp [skipS, h10]; omega)
              clear hdm hdd h10
              go_wp2_with ((with_reducible apply arm_load hS); exact wanted_guard rfl rfl; exact ev_const; (repeat (with_reducible apply mem_tl)); rfl; decide +kernel; (try simp only [Act.put, q1, q2, q3]))
              go_roundw
              case rel => exact ⟨m + 1, by go_num, by omega, by omega, .inr (by omega), HM2, hS⟩
              case measure => simp [intOf]; omega
          · obtain rfl : m = text.length := by omega
            have HM2 := hid (show R = skipP text text.length by rw [HM.out, skipP_end, List.drop_length]; rfl)
            have hjm : j < text.length := hlt
            go_wp2_with ((with_reducible apply arm_load hS); exact wanted_guard rfl rfl; exact ev_const; (repeat (with_reducible apply mem_tl)); rfl; decide +kernel; (try simp only [Act.put, q1, q2, q3]))
            go_roundw
            case rel => exact ⟨text.length, rfl, Nat.le_refl _, HM2, hS⟩
            case measure => simp [intOf]; omega
      · have e35 : (c == 35) = false := by simp [h35]
        rw [e35] at e5
        cases hb : blankP c with
        | true =>
          have HJ2 := hid (show R = skipP text (j + 1) by rw [HJ.out, skipP, HD.out, skipS, if_pos hb, skipP]; omega)
          have hb2 := hb
          clear hb hd hc HJ HD h35 e35
          simp only [blankP, Bool.or_eq_true] at hb2
          have hcases : (c == 32) = true ∨ ((c == 32) = false ∧ (c == 9) = true) ∨ ((c == 32) = false ∧ (c == 9) = false ∧ (c == 10) = true) ∨ ((c == 32) = false ∧ (c == 9) = false ∧ (c == 10) = false ∧ (c == 13) = true) := by
            exact four_cases hb2
          clear hb2
          rcases hcases with h1 | ⟨h1, h2⟩ | ⟨h1, h2, h3⟩ | ⟨h1, h2, h3, h4⟩
          all_goals
            (rw [h1] at e1); (try rw [h2] at e2); (try rw [h3] at e3); (try rw [h4] at e4)
            (try clear h1); (try clear h2); (try clear h3); (try clear h4)
            go_wp2_with ((with_reducible apply arm_load hS); exact wanted_guard rfl rfl; exact ev_const; (repeat (with_reducible apply mem_tl)); rfl; decide +kernel; (try simp only [Act.put, q1, q2, q3]))
            go_roundw
            case rel => exact ⟨j + 1, by go_num, by omega, HJ2, hS⟩
            case measure => simp [intOf]; omega
        | false =>
          have hb2 := hb
          simp only [blankP, Bool.or_eq_false_iff] at hb2
          obtain ⟨⟨⟨b1, b2⟩, b3⟩, b4⟩ := hb2
          rw [b1] at e1
          rw [b2] at e2
          rw [b3] at e3
          rw [b4] at e4
          have hRj : R = j := by rw [HJ.out, skipP, HD.out, skipS, if_neg (by rw [hb]; simp), if_neg h35]; rfl
          have ht2 := HT.out
          rw [hRj, if_neg (by omega)] at ht2
          have HT2 := hid ht2
          have HC := hid hc
          have hge : decide ((j : Int) ≥ (text.length : Int)) = false := by simp; omega
          have hlt2 : (j : Int) < text.length := by omega
          have LC := letterR c w0
          have DC := digitR c w0
          clear b1 b2 b3 b4 hb h35 e35 hRj ht2 HT HJ hd hc
          cases hw : letP c with
          | true =>
            have HNE : Hid (¬ (text.drop j).takeWhile ldP = []) := hid (by rw [HD.out, List.takeWhile_cons, ldP_of c hw]; simp)
            have hp : pieceT (text.drop j) = (tokW ((text.drop j).takeWhile ldP), ((text.drop j).takeWhile ldP).length) := by
              rw [HD.out]; unfold pieceT; dsimp only; rw [if_pos hw]
            have ht3 := HT2.out
            rw [hp] at ht3
            have HT3 := hid ht3
            rw [hw] at LC
            clear ht3 hp hw HT2
            go_wp2_with (go_at_call 86; refine (LC _ _ hS).mono ?_; clear hS; rintro e w ⟨rfl, hS⟩)
            go_loopw [5] (fun i wr => ∃ m : Nat, i = .int .i64 m ∧ j ≤ m ∧ m ≤ text.length ∧ Hid (runP ldP text j = runP ldP text m) ∧ Sat w0 wr (blk RB 100 [.int .i64 0, .int .i64 0, .int .i64 0, .int .i64 0] :: Hs)) (fun i _ => text.length - (intOf i).toNat)
            case atStart => exact ⟨j, rfl, Nat.le_refl _, hj, hid rfl, hS⟩
            case round =>
              clear hS
              obtain ⟨m, rfl, hm1, hm2, HM, hS⟩ := hrel
              by_cases hgo : ∃ d, text[m]? = some d ∧ ldP d = true
              · obtain ⟨d, hdm, hld⟩ := hgo
                have hml : m < text.length := (List.getElem?_eq_some_iff.1 hdm).1
                obtain ⟨hpm, hcm⟩ := byteAt text m d hdm
                have HM2 := hid (show runP ldP text j = runP ldP text (m + 1) by
                  rw [HM.out, runP, runP, drop_cons hdm, List.takeWhile_cons, hld]; simp; omega)
                have LD := letterR d w0
                have DD := digitR d w0
                have hml2 : (m : Int) < text.length := by omega
                clear hdm
                cases hlt2 : letP d with
                | true =>
                  rw [hlt2] at LD
                  clear hlt2 hld
                  go_wp2_with (go_at_call 86; refine (LD _ _ hS).mono ?_; clear hS; rintro e w ⟨rfl, hS⟩)
                  go_roundw
                  case rel => exact ⟨m + 1, by go_num, by omega, by omega, HM2, hS⟩
                  case measure => simp [intOf]; omega
                | false =>
                  have hdg : digP d = true := by simpa [ldP, hlt2] using hld
                  rw [hlt2] at LD
                  rw [hdg] at DD
                  clear hlt2 hld hdg
                  go_wp2_with (first | (go_at_call 86; refine (LD _ _ hS).mono ?_; clear hS; rintro e w ⟨rfl, hS⟩) | (go_at_call 87; refine (DD _ _ hS).mono ?_; clear hS; rintro e w ⟨rfl, hS⟩))
                  go_roundw
                  case rel => exact ⟨m + 1, by go_num, by omega, by omega, HM2, hS⟩
                  case measure => simp [intOf]; omega
              · have hrm : runP ldP text j = m := by
                  rw [HM.out, runP]
                  cases hdm : text[m]? with
                  | none => rw [List.drop_eq_nil_of_le (by simpa using hdm)]; rfl
                  | some d =>
                    rw [drop_cons hdm, List.takeWhile_cons, if_neg (fun h => hgo ⟨d, hdm, h⟩)]; rfl
                have hex := ex_run text ldP j (by omega)
                rw [hrm] at hex
                have hlen : j + ((text.drop j).takeWhile ldP).length = m := hrm
                have WR := wordR ((text.drop j).takeWhile ldP) (by
                  exact HNE.out) (by omega) (fun c hc => mem_takeWhile hc) j (by omega) w0
                rw [← hex] at WR
                have ht4 := HT3.out
                have HT4 := hid ht4
                have HLEN := hid hlen
                have hmj : (j : Int) ≤ m := by omega
                have hml : (m : Int) ≤ text.length := by omega
                cases hdm : text[m]? with
                | none =>
                  have hm3 : m = text.length := by have : text.length ≤ m := by simpa using hdm
                                                   omega
                  subst hm3
                  have HLL := hid (show (j : Int) + (((text.drop j).takeWhile ldP).length : Int) = (text.length : Int) by omega)
                  simp only [HLL.out] at WR
                  generalize tokW ((text.drop j).takeWhile ldP) = tk at *
                  clear hdm hgo hrm hex hlen ht4 HT3
                  go_wp2_with (first | ((with_reducible apply arm_storeN hS); exact wanted_none; exact ev_tmp rfl; exact ev_tmp rfl; (repeat (with_reducible exact mem_hd)); rfl; (focus (simp; done)); (repeat (with_reducible exact Upd.hd)); rfl; exact sz100; rfl; clear hS; intro w hS; (try simp only [setFrom, q2, q3] at hS); (try simp only [Act.put, q1, q2, q3])) | (go_at_call 88; refine (WR _ _ hS).mono ?_; clear hS; rintro e w ⟨rfl, hS⟩))
                  refine bodyPost_ret (results_cell1 rfl rfl (hS.loadWhole (by (repeat (with_reducible exact mem_hd))) (by kernel_rfl) (by kernel_rfl))) rfl ?_
                  refine ⟨?_, hS.sb (by (repeat (with_reducible first | exact Sb.refl | apply Sb.skip)))⟩
                  rw [HT4.out]
                  dsimp only
                  rw [HLEN.out]
                  rfl
                | some d =>
                  obtain ⟨hpm, hcm⟩ := byteAt text m d hdm
                  have hld : ldP d = false := by
                    cases h : ldP d with
                    | false => rfl
                    | true => exact absurd ⟨d, hdm, h⟩ hgo
                  have hml3 : (m : Int) < text.length := by have := (List.getElem?_eq_some_iff.1 hdm).1; omega
                  have LD := letterR d w0
                  have DD := digitR d w0
                  have hl1 : letP d = false := by
                    cases h : letP d with
                    | false => rfl
                    | true => simp [ldP, h] at hld
                  have hl2 : digP d = false := by
                    cases h : digP d with
                    | false => rfl
                    | true => simp [ldP, h] at hld
                  rw [hl1] at LD
                  rw [hl2] at DD
                  have HLL := hid (show (j : Int) + (((text.drop j).takeWhile ldP).length : Int) = (m : Int) by omega)
                  simp only [HLL.out] at WR
                  generalize tokW ((text.drop j).takeWhile ldP) = tk at *
                  clear hdm hgo hrm hex hlen ht4 HT3 hl1 hl2 hld
                  go_wp2_with (first | ((with_reducible apply arm_storeN hS); exact wanted_none; exact ev_tmp rfl; exact ev_tmp rfl; (repeat (with_reducible exact mem_hd)); rfl; (focus (simp; done)); (repeat (with_reducible exact Upd.hd)); rfl; exact sz100; rfl; clear hS; intro w hS; (try simp only [setFrom, q2, q3] at hS); (try simp only [Act.put, q1, q2, q3])) | (go_at_call 86; refine (LD _ _ hS).mono ?_; clear hS; rintro e w ⟨rfl, hS⟩) | (go_at_call 87; refine (DD _ _ hS).mono ?_; clear hS; rintro e w ⟨rfl, hS⟩) | (go_at_call 88; refine (WR _ _ hS).mono ?_; clear hS; rintro e w ⟨rfl, hS⟩))
                  refine bodyPost_ret (results_cell1 rfl rfl (hS.loadWhole (by (repeat (with_reducible exact mem_hd))) (by kernel_rfl) (by kernel_rfl))) rfl ?_
                  refine ⟨?_, hS.sb (by (repeat (with_reducible first | exact Sb.refl | apply Sb.skip)))⟩
                  rw [HT4.out]
                  dsimp only
                  rw [HLEN.out]
                  rfl
          | false =>
            rw [hw] at LC
            cases hg : digP c with
            | true =>
              have hp : pieceT (text.drop j) = ((if numM 1 ((text.drop j).takeWhile digP) < 0 then .bad 133 else .const (numM 1 ((text.drop j).takeWhile digP))), ((text.drop j).takeWhile digP).length) := by
                rw [HD.out]; unfold pieceT; dsimp only; rw [if_neg (by rw [hw]; simp), if_pos hg]
              have hnm : numM 1 ((text.drop j).takeWhile digP) = if ((text.drop j).takeWhile digP).length = 1 ∧ c.toNat ≤ 49 then (c.toNat : Int) - 48 else -1 := by rw [HD.out]; exact numM1 hg
              have hdb := digP_le hg
              have ht3 := HT2.out
              rw [hp] at ht3
              rw [hg] at DC
              have HT3 := hid ht3
              have HNM := hid hnm
              clear ht3 hp hw hg HT2 hnm
              go_wp2_with (first | (go_at_call 86; refine (LC _ _ hS).mono ?_; clear hS; rintro e w ⟨rfl, hS⟩) | (go_at_call 87; refine (DC _ _ hS).mono ?_; clear hS; rintro e w ⟨rfl, hS⟩))
              go_loopw [5] (fun i wr => ∃ m : Nat, i = .int .i64 m ∧ j ≤ m ∧ m ≤ text.length ∧ Hid (runP digP text j = runP digP text m) ∧ Sat w0 wr (blk RB 100 [.int .i64 0, .int .i64 0, .int .i64 0, .int .i64 0] :: Hs)) (fun i _ => text.length - (intOf i).toNat)
              case atStart => exact ⟨j, rfl, Nat.le_refl _, hj, hid rfl, hS⟩
              case round =>
                clear hS
                obtain ⟨m, rfl, hm1, hm2, HM, hS⟩ := hrel
                by_cases hgo : ∃ d, text[m]? = some d ∧ digP d = true
                · obtain ⟨d, hdm, hld⟩ := hgo
                  have hml : m < text.length := (List.getElem?_eq_some_iff.1 hdm).1
                  obtain ⟨hpm, hcm⟩ := byteAt text m d hdm
                  have HM2 := hid (show runP digP text j = runP digP text (m + 1) by
                    rw [HM.out, runP, runP, drop_cons hdm, List.takeWhile_cons, hld]; simp; omega)
                  have DD := digitR d w0
                  have hml2 : (m : Int) < text.length := by omega
                  rw [hld] at DD
                  clear hdm hld
                  go_wp2_with (go_at_call 87; refine (DD _ _ hS).mono ?_; clear hS; rintro e w ⟨rfl, hS⟩)
                  go_roundw
                  case rel => exact ⟨m + 1, by go_num, by omega, by omega, HM2, hS⟩
                  case measure => simp [intOf]; omega
                · have hrm : runP digP text j = m := by
                    rw [HM.out, runP]
                    cases hdm : text[m]? with
                    | none => rw [List.drop_eq_nil_of_le (by simpa using hdm)]; rfl
                    | some d =>
                      rw [drop_cons hdm, List.takeWhile_cons, if_neg (fun h => hgo ⟨d, hdm, h⟩)]; rfl
                  have hlen : j + ((text.drop j).takeWhile digP).length = m := hrm
                  have hmj : (j : Int) ≤ m := by omega
                  have hml : (m : Int) ≤ text.length := by omega
                  have ht4 := HT3.out
                  have hnm := HNM.out
                  generalize numM 1 ((text.drop j).takeWhile digP) = nm at *
                  generalize hL : ((text.drop j).takeWhile digP).length = L at *
                  have hcnd : (m = text.length ∨ ∃ d, text[m]? = some d ∧ digP d = false ∧ m < text.length) := by
                    cases hdm : text[m]? with
                    | none => exact .inl (by have : text.length ≤ m := by simpa using hdm
                                             omega)
                    | some d =>
                      refine .inr ⟨d, rfl, ?_, (List.getElem?_eq_some_iff.1 hdm).1⟩
                      cases h : digP d with
                      | false => rfl
                      | true => exact absurd ⟨d, hdm, h⟩ hgo
                  have hnu : ((c.toNat : Int) - 48 + 256) % 256 = (c.toNat : Int) - 48 := by omega
                  have hnn : 0 ≤ (c.toNat : Int) - 48 ∧ (c.toNat : Int) - 48 ≤ 9 := by omega
                  by_cases hone : L = 1 ∧ c.toNat ≤ 49
                  · obtain ⟨hL1, hc49⟩ := hone
                    rw [if_pos ⟨hL1, hc49⟩] at hnm
                    rw [if_neg (by omega), hL1, hnm] at ht4
                    have hb1 : ((m : Int) == (j : Int) + 1) = true := by simp; omega
                    have hb2 : decide ((c.toNat : Int) ≤ 49) = true := by simp; omega
                    have hb3 : (c.toNat : Int) ≤ 49 := by omega
                    have HT4 := hid ht4
                    have HRES := hid (show ((j + 1 : Nat) : Int) = (m : Int) by omega)
                    clear hL hlen hrm ht4 hgo HT3 HNM hL1 hnu hnm
                    rcases hcnd with rfl | ⟨d, hdm, hld, hml4⟩
                    · go_wp2_with ((with_reducible apply arm_storeN hS); exact wanted_none; exact ev_tmp rfl; exact ev_tmp rfl; (repeat (with_reducible exact mem_hd)); rfl; (focus (simp; done)); (repeat (with_reducible exact Upd.hd)); rfl; exact sz100; rfl; clear hS; intro w hS; (try simp only [setFrom, q2, q3] at hS); (try simp only [Act.put, q1, q2, q3]))
                      refine bodyPost_ret (results_cell1 rfl rfl (hS.loadWhole (by (repeat (with_reducible exact mem_hd))) (by kernel_rfl) (by kernel_rfl))) rfl ?_
                      refine ⟨?_, hS.sb (by (repeat (with_reducible first | exact Sb.refl | apply Sb.skip)))⟩
                      rw [HT4.out]
                      dsimp only
                      rw [HRES.out]
                      rfl
                    · obtain ⟨hpm, hcm⟩ := byteAt text m d hdm
                      have DD := digitR d w0
                      rw [hld] at DD
                      clear hdm hld
                      have hml5 : (m : Int) < text.length := by omega
                      go_wp2_with (first | ((with_reducible apply arm_storeN hS); exact wanted_none; exact ev_tmp rfl; exact ev_tmp rfl; (repeat (with_reducible exact mem_hd)); rfl; (focus (simp; done)); (repeat (with_reducible exact Upd.hd)); rfl; exact sz100; rfl; clear hS; intro w hS; (try simp only [setFrom, q2, q3] at hS); (try simp only [Act.put, q1, q2, q3])) | (go_at_call 87; refine (DD _ _ hS).mono ?_; clear hS; rintro e w ⟨rfl, hS⟩))
                      refine bodyPost_ret (results_cell1 rfl rfl (hS.loadWhole (by (repeat (with_reducible exact mem_hd))) (by kernel_rfl) (by kernel_rfl))) rfl ?_
                      refine ⟨?_, hS.sb (by (repeat (with_reducible first | exact Sb.refl | apply Sb.skip)))⟩
                      rw [HT4.out]
                      dsimp only
                      rw [HRES.out]
                      rfl
                  · rw [if_neg hone] at hnm
                    rw [if_pos (by omega)] at ht4
                    have HT4 := hid ht4
                    have HRES := hid (show ((j + L : Nat) : Int) = (m : Int) by omega)
                    have hb : ((m : Int) == (j : Int) + 1) = false ∨ (((m : Int) == (j : Int) + 1) = true ∧ decide ((c.toNat : Int) ≤ 49) = false) := by
                      by_cases h1 : L = 1
                      · refine .inr ⟨by simp; omega, ?_⟩
                        rw [decide_eq_false_iff_not]
                        intro h2
                        exact hone ⟨h1, by omega⟩
                      · exact .inl (by simp; omega)
                    clear hL hlen hrm ht4 hgo HT3 HNM hnu hnm hone
                    rcases hb with hb1 | ⟨hb1, hb2⟩
                    all_goals
                      rcases hcnd with rfl | ⟨d, hdm, hld, hml4⟩
                      · go_wp2_with ((with_reducible apply arm_storeN hS); exact wanted_none; exact ev_tmp rfl; exact ev_tmp rfl; (repeat (with_reducible exact mem_hd)); rfl; (focus (simp; done)); (repeat (with_reducible exact Upd.hd)); rfl; exact sz100; rfl; clear hS; intro w hS; (try simp only [setFrom, q2, q3] at hS); (try simp only [Act.put, q1, q2, q3]))
                        refine bodyPost_ret (results_cell1 rfl rfl (hS.loadWhole (by (repeat (with_reducible exact mem_hd))) (by kernel_rfl) (by kernel_rfl))) rfl ?_
                        refine ⟨?_, hS.sb (by (repeat (with_reducible first | exact Sb.refl | apply Sb.skip)))⟩
                        rw [HT4.out]
                        dsimp only
                        rw [HRES.out]
                        rfl
                      · obtain ⟨hpm, hcm⟩ := byteAt text m d hdm
                        have DD := digitR d w0
                        rw [hld] at DD
                        clear hdm hld
                        have hml5 : (m : Int) < text.length := by omega
                        go_wp2_with (first | ((with_reducible apply arm_storeN hS); exact wanted_none; exact ev_tmp rfl; exact ev_tmp rfl; (repeat (with_reducible exact mem_hd)); rfl; (focus (simp; done)); (repeat (with_reducible exact Upd.hd)); rfl; exact sz100; rfl; clear hS; intro w hS; (try simp only [setFrom, q2, q3] at hS); (try simp only [Act.put, q1, q2, q3])) | (go_at_call 87; refine (DD _ _ hS).mono ?_; clear hS; rintro e w ⟨rfl, hS⟩))
                        refine bodyPost_ret (results_cell1 rfl rfl (hS.loadWhole (by (repeat (with_reducible exact mem_hd))) (by kernel_rfl) (by kernel_rfl))) rfl ?_
                        refine ⟨?_, hS.sb (by (repeat (with_reducible first | exact Sb.refl | apply Sb.skip)))⟩
                        rw [HT4.out]
                        dsimp only
                        rw [HRES.out]
                        rfl
            | false =>
              have hp : pieceT (text.drop j) = (match signT (text.drop j) with | some s => (s.2, s.1.length) | none => (.bad 130, 1)) := by
                rw [HD.out]; unfold pieceT; dsimp only; rw [if_neg (by rw [hw]; simp), if_neg (by rw [hg]; simp)]; rfl
              have ht3 := HT2.out
              rw [hp] at ht3
              rw [hg] at DC
              have HT3 := hid ht3
              obtain ⟨ad, cap, hcell, hRd, hsp⟩ := hSig
              have NNA := hS.rdAd (mem_tl hbm) hRd (by decide)
              clear ht3 hp hw hg HT2
              go_wp2_with (first | (go_at_call 86; refine (LC _ _ hS).mono ?_; clear hS; rintro e w ⟨rfl, hS⟩) | (go_at_call 87; refine (DC _ _ hS).mono ?_; clear hS; rintro e w ⟨rfl, hS⟩))
              go_loopw [6] (fun i wr => ∃ q : Nat, i = .int .i64 q ∧ q ≤ 21 ∧ Hid (∀ i y, i < q → (signs11 ++ signs10)[i]? = some y → y.1.isPrefixOf (text.drop j) = false) ∧ Sat w0 wr (blk RB 100 [.int .i64 0, .int .i64 0, .int .i64 0, .int .i64 0] :: Hs)) (fun i _ => 21 - (intOf i).toNat)
              case atStart => exact ⟨0, rfl, by omega, hid (fun i y h => by omega), hS⟩
              case round =>
                clear hS
                obtain ⟨q, rfl, hq, HN, hS⟩ := hrel
                by_cases hlq : q < 21
                · obtain ⟨x, hx⟩ : ∃ x, (signs11 ++ signs10)[q]? = some x := ⟨_, List.getElem?_eq_getElem hlq⟩
                  obtain ⟨V0, V1, V2⟩ := sgR_at _ q x hx
                  have hxl := signs_len x (List.mem_of_getElem? hx)
                  have hqi : (q : Int) < 21 := by omega
                  have hn1 : (0 : Int) ≤ (x.1.length : Int) := by omega
                  have hn2 : (x.1.length : Int) ≤ 3 := by omega
                  have hn3 : (j : Int) ≤ (j : Int) + (x.1.length : Int) := by omega
                  have hn4 : (0 : Int) ≤ (j : Int) + (x.1.length : Int) := by omega
                  have hjl : (j : Int) ≤ 1048576 := by omega
                  go_wp2_with (first | ((with_reducible apply arm_load_base hS); exact wanted_none; rfl; (((repeat (with_reducible apply mem_tl))); (try assumption)); assumption; decide +kernel; (try simp only [Act.put, q1, q2, q3])) | ((with_reducible apply arm_indexAddr); exact wanted_none; exact ev_tmp rfl; exact ev_tmp rfl; exact E160; (omega); (omega); (assumption); (simp only [Int.toNat_natCast, Nat.mul_one, Nat.zero_add, tn_sub, tn_sub1, tn_sub2, tn_sub3, tn_add, tn_add1, tn_add2]; rfl); (try simp only [Act.put, q1, q2, q3])) | ((with_reducible apply arm_fieldAddrE); exact wanted_none; exact ev_tmp rfl; (assumption); exact fo161_0; (try simp only [Act.put, q1, q2, q3])) | ((with_reducible apply arm_loadE); exact wanted_none; exact ev_tmp rfl; (exact Sat.rdCell2 (by assumption) hS (by ((repeat (with_reducible apply mem_tl))); try assumption) (by (assumption))); decide +kernel; (try simp only [Act.put, q1, q2, q3])))
                  have hnp : x.1.isPrefixOf (text.drop j) = false → Hid (∀ i y, i < q + 1 → (signs11 ++ signs10)[i]? = some y → y.1.isPrefixOf (text.drop j) = false) := fun hp => hid fun i y h h2 => by
                    by_cases hij : i < q
                    · exact HN.out i y hij h2
                    · obtain rfl : i = q := by omega
                      rw [hx] at h2
                      cases h2
                      exact hp
                  by_cases hfit : j + x.1.length ≤ text.length
                  · have hfi : (j : Int) + (x.1.length : Int) ≤ (text.length : Int) := by omega
                    have hfd : decide ((j : Int) + (x.1.length : Int) ≤ (text.length : Int)) = true := by simp; omega
                    have hpx := pfx text j x.1 hfit
                    cases hp : x.1.isPrefixOf (text.drop j) with
                    | true =>
                      rw [hp] at hpx
                      have hsg := signAt _ q x hx HN.out hp
                      have ht4 := HT3.out
                      rw [hsg] at ht4
                      have HT4 := hid ht4
                      clear ht4 hsg HT3 hx HN hnp hp hfit
                      go_wp2_with (first | ((first | ((with_reducible apply draw_pure (i := 0)); (simp only [q4, q6, q5]; with_reducible rfl); kernel_rfl; kernel_rfl; decide +kernel; rfl; exact hC; exact (fun _ _ _ h => h); exact hR; with_reducible exact wanted_none) | ((with_reducible apply draw_pure (i := 1)); (simp only [q4, q6, q5]; with_reducible rfl); kernel_rfl; kernel_rfl; decide +kernel; rfl; exact hC; exact (fun _ _ _ h => h); exact hR; with_reducible exact wanted_none) | ((with_reducible apply draw_pure (i := 3)); (simp only [q4, q6, q5]; with_reducible rfl); kernel_rfl; kernel_rfl; decide +kernel; rfl; exact hC; exact (fun _ _ _ h => h); exact hR; with_reducible exact wanted_none) | ((with_reducible apply draw_pure (i := 4)); (simp only [q4, q6, q5]; with_reducible rfl); kernel_rfl; kernel_rfl; decide +kernel; rfl; exact hC; exact (fun _ _ _ h => h); exact hR; with_reducible exact wanted_none) | ((with_reducible apply draw_pure (i := 5)); (simp only [q4, q6, q5]; with_reducible rfl); kernel_rfl; kernel_rfl; decide +kernel; rfl; exact hC; exact (fun _ _ _ h => h); exact hR; with_reducible exact wanted_none) | ((with_reducible apply draw_pure (i := 6)); (simp only [q4, q6, q5]; with_reducible rfl); kernel_rfl; kernel_rfl; decide +kernel; rfl; exact hC; exact (fun _ _ _ h => h); exact hR; with_reducible exact wanted_none) | ((with_reducible apply draw_pure (i := 7)); (simp only [q4, q6, q5]; with_reducible rfl); kernel_rfl; kernel_rfl; decide +kernel; rfl; exact hC; exact (fun _ _ _ h => h); exact hR; exact wanted_guard rfl rfl) | ((with_reducible apply draw_pure (i := 8)); (simp only [q4, q6, q5]; with_reducible rfl); kernel_rfl; kernel_rfl; decide +kernel; rfl; exact hC; exact (fun _ _ _ h => h); exact hR; exact wanted_guard rfl rfl) | ((with_reducible apply draw_pure (i := 9)); (simp only [q4, q6, q5]; with_reducible rfl); kernel_rfl; kernel_rfl; decide +kernel; rfl; exact hC; exact (fun _ _ _ h => h); exact hR; exact wanted_guard rfl rfl) | ((with_reducible apply draw_pure (i := 10)); (simp only [q4, q6, q5]; with_reducible rfl); kernel_rfl; kernel_rfl; decide +kernel; rfl; exact hC; exact (fun _ _ _ h => h); exact hR; exact wanted_guard rfl rfl) | ((with_reducible apply draw_pure (i := 12)); (simp only [q4, q6, q5]; with_reducible rfl); kernel_rfl; kernel_rfl; decide +kernel; rfl; exact hC; exact (fun _ _ _ h => h); exact hR; exact wanted_guard rfl rfl) | ((with_reducible apply draw_pure (i := 14)); (simp only [q4, q6, q5]; with_reducible rfl); kernel_rfl; kernel_rfl; decide +kernel; rfl; exact hC; exact (fun _ _ _ h => h); exact hR; exact wanted_guard rfl rfl) | ((with_reducible apply draw_pure (i := 18)); (simp only [q4, q6, q5]; with_reducible rfl); kernel_rfl; kernel_rfl; decide +kernel; rfl; exact hC; exact (fun _ _ _ h => h); exact hR; exact wanted_guard rfl rfl) | ((with_reducible apply draw_pure (i := 19)); (simp only [q4, q6, q5]; with_reducible rfl); kernel_rfl; kernel_rfl; decide +kernel; rfl; exact hC; exact (fun _ _ _ h => h); exact hR; with_reducible exact wanted_none)); (intro w; first | (go_simp; done) | (go_simp; rw [wrapI (by omega) (by omega)]) | (go_simp; with_reducible rfl) | (go_simp; rfl)); (clear hR hC; intro hR hC); (try simp only [Act.put, q1, q2, q3])) | ((first | ((with_reducible apply draw_pure (i := 2)); (simp only [q4, q6, q5]; with_reducible rfl); kernel_rfl; kernel_rfl; decide +kernel; rfl; exact hC; exact (fun _ _ _ h => h); exact hR; with_reducible exact wanted_none) | ((with_reducible apply draw_pure (i := 11)); (simp only [q4, q6, q5]; with_reducible rfl); kernel_rfl; kernel_rfl; decide +kernel; rfl; exact hC; exact (fun _ _ _ h => h); exact hR; exact wanted_guard rfl rfl)); (intro w; first | (exact run_op_addStr rfl (by (exact ev_const)) (by (exact ev_const)) (by (omega))) | (go_simp; done) | (go_simp; rw [wrapI (by omega) (by omega)]) | (go_simp; with_reducible rfl) | (go_simp; rfl)); (clear hR hC; intro hR hC); (try simp only [Act.put, q1, q2, q3])) | (((with_reducible apply draw_pure (i := 15)); (simp only [q4, q6, q5]; with_reducible rfl); kernel_rfl; kernel_rfl; decide +kernel; rfl; exact hC; exact (fun _ _ _ h => h); exact hR; exact wanted_guard rfl rfl); (intro w; first | (with_reducible exact draw_ia E160 rfl (by (exact ev_tmp rfl)) (by (exact ev_tmp rfl)) (by (omega)) (by (omega)) (by (assumption)) (by (simp only [Int.toNat_natCast, Nat.mul_one, Nat.zero_add, tn_sub, tn_sub1, tn_sub2, tn_sub3, tn_add, tn_add1, tn_add2]; rfl))) | (go_simp; done) | (go_simp; rw [wrapI (by omega) (by omega)]) | (go_simp; with_reducible rfl)); (clear hR hC; intro hR hC); (try simp only [Act.put, q1, q2, q3])) | (((with_reducible apply draw_pure (i := 16)); (simp only [q4, q6, q5]; with_reducible rfl); kernel_rfl; kernel_rfl; decide +kernel; rfl; exact hC; exact (fun _ _ _ h => h); exact hR; exact wanted_guard rfl rfl); (intro w; first | (exact draw_fa rfl (by (exact ev_tmp rfl)) (by assumption) (by with_reducible exact fo161_0)) | (go_simp; done) | (go_simp; rw [wrapI (by omega) (by omega)]) | (go_simp; with_reducible rfl) | (go_simp; rfl)); (clear hR hC; intro hR hC); (try simp only [Act.put, q1, q2, q3])) | ((first | ((with_reducible apply draw_read (i := 13)); (simp only [q4, q6, q5]; with_reducible rfl); kernel_rfl; kernel_rfl; decide +kernel; kernel_rfl; rfl; exact hC; exact (fun _ _ _ h => h); exact hR; kernel_rfl; exact wanted_guard rfl rfl) | ((with_reducible apply draw_read (i := 17)); (simp only [q4, q6, q5]; with_reducible rfl); kernel_rfl; kernel_rfl; decide +kernel; kernel_rfl; rfl; exact hC; exact (fun _ _ _ h => h); exact hR; kernel_rfl; exact wanted_guard rfl rfl)); (intro w hS; (apply run_op_load rfl (by first | (exact ev_tmp rfl) | rfl)); first | exact run_loadVar1 (by decide +kernel) (hS.cell (by (repeat (with_reducible first | exact mem_hd | apply mem_tl))) rfl) | exact run_loadVar1 (by decide +kernel) ((hS.ownCell (by (repeat (with_reducible apply mem_tl))) (by (assumption))).1) | exact run_loadVar1 (by decide +kernel) (Sat.rdCell2 (by assumption) hS (by ((repeat (with_reducible apply mem_tl))); try assumption) (by (assumption))) | exact run_loadVar1 (by decide +kernel) (hS.baseCell (by ((repeat (with_reducible apply mem_tl))); try assumption) (by assumption)) | exact run_loadVar1 (by decide +kernel) (fzC (by assumption) hS (by ((repeat (with_reducible apply mem_tl))); try assumption)) | exact run_loadRN hS (by assumption) (by ((repeat (with_reducible apply mem_tl))); try assumption) (by assumption) (by rfl) (by with_reducible exact sz161) (by decide +kernel) (by decide) | exact hS.loadWhole (by (repeat (with_reducible apply mem_tl))) (by kernel_rfl) (by kernel_rfl)); (clear hR hC; intro hR hC); (try simp only [Act.put, q1, q2, q3])) | ((with_reducible apply draw_done); decide +kernel; clear hR hC) | (refine draw_sat 23 20 hS (by kernel_rfl) [] rfl ?_; clear hS; intro w hS hR hC))
                      go_wp2_with (first | ((with_reducible apply Cont.intro); (focus (apply Or.inr; apply (Sat.sb hS); (repeat (with_reducible first | exact Sb.refl | apply Sb.skip)); done)); intro hR hC) | ((first | ((with_reducible apply draw_pure (i := 1)); (simp only [q4, q6, q5]; with_reducible rfl); kernel_rfl; kernel_rfl; decide +kernel; rfl; exact hC; exact (fun _ _ _ h => h); exact hR; with_reducible exact wanted_none) | ((with_reducible apply draw_pure (i := 6)); (simp only [q4, q6, q5]; with_reducible rfl); kernel_rfl; kernel_rfl; decide +kernel; rfl; exact hC; exact (fun _ _ _ h => h); exact hR; with_reducible exact wanted_none) | ((with_reducible apply draw_pure (i := 10)); (simp only [q4, q6, q5]; with_reducible rfl); kernel_rfl; kernel_rfl; decide +kernel; rfl; exact hC; exact (fun _ _ _ h => h); exact hR; with_reducible exact wanted_none) | ((with_reducible apply draw_pure (i := 11)); (simp only [q4, q6, q5]; with_reducible rfl); kernel_rfl; kernel_rfl; decide +kernel; rfl; exact hC; exact (fun _ _ _ h => h); exact hR; with_reducible exact wanted_none) | ((with_reducible apply draw_pure (i := 12)); (simp only [q4, q6, q5]; with_reducible rfl); kernel_rfl; kernel_rfl; decide +kernel; rfl; exact hC; exact (fun _ _ _ h => h); exact hR; with_reducible exact wanted_none) | ((with_reducible apply draw_pure (i := 14)); (simp only [q4, q6, q5]; with_reducible rfl); kernel_rfl; kernel_rfl; decide +kernel; rfl; exact hC; exact (fun _ _ _ h => h); exact hR; with_reducible exact wanted_none)); (intro w; first | (go_simp; done) | (go_simp; rw [wrapI (by omega) (by omega)]) | (go_simp; with_reducible rfl) | (go_simp; rfl)); (clear hR hC; intro hR hC); (try simp only [Act.put, q1, q2, q3])) | ((first | ((with_reducible apply draw_pure (i := 2)); (simp only [q4, q6, q5]; with_reducible rfl); kernel_rfl; kernel_rfl; decide +kernel; rfl; exact hC; exact (fun _ _ _ h => h); exact hR; with_reducible exact wanted_none) | ((with_reducible apply draw_pure (i := 7)); (simp only [q4, q6, q5]; with_reducible rfl); kernel_rfl; kernel_rfl; decide +kernel; rfl; exact hC; exact (fun _ _ _ h => h); exact hR; with_reducible exact wanted_none)); (intro w; first | (with_reducible exact draw_ia E160 rfl (by (exact ev_tmp rfl)) (by (exact ev_tmp rfl)) (by (omega)) (by (omega)) (by (assumption)) (by (simp only [Int.toNat_natCast, Nat.mul_one, Nat.zero_add, tn_sub, tn_sub1, tn_sub2, tn_sub3, tn_add, tn_add1, tn_add2]; rfl))) | (go_simp; done) | (go_simp; rw [wrapI (by omega) (by omega)]) | (go_simp; with_reducible rfl)); (clear hR hC; intro hR hC); (try simp only [Act.put, q1, q2, q3])) | ((first | ((with_reducible apply draw_pure (i := 3)); (simp only [q4, q6, q5]; with_reducible rfl); kernel_rfl; kernel_rfl; decide +kernel; rfl; exact hC; exact (fun _ _ _ h => h); exact hR; with_reducible exact wanted_none) | ((with_reducible apply draw_pure (i := 8)); (simp only [q4, q6, q5]; with_reducible rfl); kernel_rfl; kernel_rfl; decide +kernel; rfl; exact hC; exact (fun _ _ _ h => h); exact hR; with_reducible exact wanted_none)); (intro w; first | (exact draw_fa rfl (by (exact ev_tmp rfl)) (by assumption) (by with_reducible first | exact fo161_1 | exact fo161_2)) | (go_simp; done) | (go_simp; rw [wrapI (by omega) (by omega)]) | (go_simp; with_reducible rfl) | (go_simp; rfl)); (clear hR hC; intro hR hC); (try simp only [Act.put, q1, q2, q3])) | (((with_reducible apply draw_pure (i := 13)); (simp only [q4, q6, q5]; with_reducible rfl); kernel_rfl; kernel_rfl; decide +kernel; rfl; exact hC; exact (fun _ _ _ h => h); exact hR; with_reducible exact wanted_none); (intro w; first | (exact run_op_addStr rfl (by (exact ev_const)) (by (exact ev_const)) (by (omega))) | (go_simp; done) | (go_simp; rw [wrapI (by omega) (by omega)]) | (go_simp; with_reducible rfl) | (go_simp; rfl)); (clear hR hC; intro hR hC); (try simp only [Act.put, q1, q2, q3])) | ((first | ((with_reducible apply draw_read (i := 0)); (simp only [q4, q6, q5]; with_reducible rfl); kernel_rfl; kernel_rfl; decide +kernel; kernel_rfl; rfl; exact hC; exact (fun _ _ _ h => h); exact hR; kernel_rfl; with_reducible exact wanted_none) | ((with_reducible apply draw_read (i := 4)); (simp only [q4, q6, q5]; with_reducible rfl); kernel_rfl; kernel_rfl; decide +kernel; kernel_rfl; rfl; exact hC; exact (fun _ _ _ h => h); exact hR; kernel_rfl; with_reducible exact wanted_none) | ((with_reducible apply draw_read (i := 5)); (simp only [q4, q6, q5]; with_reducible rfl); kernel_rfl; kernel_rfl; decide +kernel; kernel_rfl; rfl; exact hC; exact (fun _ _ _ h => h); exact hR; kernel_rfl; with_reducible exact wanted_none) | ((with_reducible apply draw_read (i := 9)); (simp only [q4, q6, q5]; with_reducible rfl); kernel_rfl; kernel_rfl; decide +kernel; kernel_rfl; rfl; exact hC; exact (fun _ _ _ h => h); exact hR; kernel_rfl; with_reducible exact wanted_none)); (intro w hS; (apply run_op_load rfl (by first | (exact ev_tmp rfl) | rfl)); first | exact run_loadVar1 (by decide +kernel) (hS.cell (by (repeat (with_reducible apply mem_tl))) rfl) | exact run_loadVar1 (by decide +kernel) ((hS.ownCell (by (repeat (with_reducible apply mem_tl))) (by (assumption))).1) | exact run_loadVar1 (by decide +kernel) (Sat.rdCell2 (by assumption) hS (by ((repeat (with_reducible apply mem_tl))); try assumption) (by (assumption))) | exact run_loadVar1 (by decide +kernel) (hS.baseCell (by ((repeat (with_reducible apply mem_tl))); try assumption) (by assumption)) | exact run_loadVar1 (by decide +kernel) (fzC (by assumption) hS (by ((repeat (with_reducible apply mem_tl))); try assumption)) | exact run_loadRN hS (by assumption) (by ((repeat (with_reducible apply mem_tl))); try assumption) (by assumption) (by rfl) (by with_reducible exact sz161) (by decide +kernel) (by decide) | exact hS.loadWhole (by (repeat (with_reducible apply mem_tl))) (by kernel_rfl) (by kernel_rfl)); (clear hR hC; intro hR hC); (try simp only [Act.put, q1, q2, q3])) | ((with_reducible apply draw_act (i := 15)); (simp only [q4, q6, q5]; with_reducible rfl); decide +kernel; exact hC; clear hR hC) | ((with_reducible apply draw_done); decide +kernel; clear hR hC) | (refine draw_rem (blk RB 100 [.int .i64 0, .int .i64 0, .int .i64 0, .int .i64 0]) 24 16 hS (by (repeat (with_reducible first | exact Rem.hd | apply Rem.tl)); done) (by kernel_rfl) [] rfl ?_; clear hS; intro w hS hR hC) | ((with_reducible apply arm_storeN hS); exact wanted_none; exact ev_tmp rfl; exact ev_tmp rfl; (repeat (with_reducible exact mem_hd)); rfl; (focus (simp; done)); (repeat (with_reducible exact Upd.hd)); rfl; exact sz100; rfl; clear hS; intro w hS; (try simp only [setFrom, q2, q3] at hS); (try simp only [Act.put, q1, q2, q3])))
                      refine bodyPost_ret (results_cell1 rfl rfl (hS.loadWhole (by (repeat (with_reducible exact mem_hd))) (by kernel_rfl) (by kernel_rfl))) rfl ?_
                      refine ⟨?_, hS.sb (by (repeat (with_reducible first | exact Sb.refl | apply Sb.skip)))⟩
                      rw [HT4.out]
                      rfl
                    | false =>
                      have HN2 := hnp hp
                      rw [hp] at hpx
                      clear hx HN hnp hp hfit
                      go_wp2_with (first | ((first | ((with_reducible apply draw_pure (i := 0)); (simp only [q4, q6, q5]; with_reducible rfl); kernel_rfl; kernel_rfl; decide +kernel; rfl; exact hC; exact (fun _ _ _ h => h); exact hR; with_reducible exact wanted_none) | ((with_reducible apply draw_pure (i := 1)); (simp only [q4, q6, q5]; with_reducible rfl); kernel_rfl; kernel_rfl; decide +kernel; rfl; exact hC; exact (fun _ _ _ h => h); exact hR; with_reducible exact wanted_none) | ((with_reducible apply draw_pure (i := 3)); (simp only [q4, q6, q5]; with_reducible rfl); kernel_rfl; kernel_rfl; decide +kernel; rfl; exact hC; exact (fun _ _ _ h => h); exact hR; with_reducible exact wanted_none) | ((with_reducible apply draw_pure (i := 4)); (simp only [q4, q6, q5]; with_reducible rfl); kernel_rfl; kernel_rfl; decide +kernel; rfl; exact hC; exact (fun _ _ _ h => h); exact hR; with_reducible exact wanted_none) | ((with_reducible apply draw_pure (i := 5)); (simp only [q4, q6, q5]; with_reducible rfl); kernel_rfl; kernel_rfl; decide +kernel; rfl; exact hC; exact (fun _ _ _ h => h); exact hR; with_reducible exact wanted_none) | ((with_reducible apply draw_pure (i := 6)); (simp only [q4, q6, q5]; with_reducible rfl); kernel_rfl; kernel_rfl; decide +kernel; rfl; exact hC; exact (fun _ _ _ h => h); exact hR; with_reducible exact wanted_none) | ((with_reducible apply draw_pure (i := 7)); (simp only [q4, q6, q5]; with_reducible rfl); kernel_rfl; kernel_rfl; decide +kernel; rfl; exact hC; exact (fun _ _ _ h => h); exact hR; exact wanted_guard rfl rfl) | ((with_reducible apply draw_pure (i := 8)); (simp only [q4, q6, q5]; with_reducible rfl); kernel_rfl; kernel_rfl; decide +kernel; rfl; exact hC; exact (fun _ _ _ h => h); exact hR; exact wanted_guard rfl rfl) | ((with_reducible apply draw_pure (i := 9)); (simp only [q4, q6, q5]; with_reducible rfl); kernel_rfl; kernel_rfl; decide +kernel; rfl; exact hC; exact (fun _ _ _ h => h); exact hR; exact wanted_guard rfl rfl) | ((with_reducible apply draw_pure (i := 10)); (simp only [q4, q6, q5]; with_reducible rfl); kernel_rfl; kernel_rfl; decide +kernel; rfl; exact hC; exact (fun _ _ _ h => h); exact hR; exact wanted_guard rfl rfl) | ((with_reducible apply draw_pure (i := 12)); (simp only [q4, q6, q5]; with_reducible rfl); kernel_rfl; kernel_rfl; decide +kernel; rfl; exact hC; exact (fun _ _ _ h => h); exact hR; exact wanted_guard rfl rfl) | ((with_reducible apply draw_pure (i := 14)); (simp only [q4, q6, q5]; with_reducible rfl); kernel_rfl; kernel_rfl; decide +kernel; rfl; exact hC; exact (fun _ _ _ h => h); exact hR; exact wanted_guard rfl rfl) | ((with_reducible apply draw_pure (i := 18)); (simp only [q4, q6, q5]; with_reducible rfl); kernel_rfl; kernel_rfl; decide +kernel; rfl; exact hC; exact (fun _ _ _ h => h); exact hR; exact wanted_guard rfl rfl) | ((with_reducible apply draw_pure (i := 19)); (simp only [q4, q6, q5]; with_reducible rfl); kernel_rfl; kernel_rfl; decide +kernel; rfl; exact hC; exact (fun _ _ _ h => h); exact hR; with_reducible exact wanted_none)); (intro w; first | (go_simp; done) | (go_simp; rw [wrapI (by omega) (by omega)]) | (go_simp; with_reducible rfl) | (go_simp; rfl)); (clear hR hC; intro hR hC); (try simp only [Act.put, q1, q2, q3])) | ((first | ((with_reducible apply draw_pure (i := 2)); (simp only [q4, q6, q5]; with_reducible rfl); kernel_rfl; kernel_rfl; decide +kernel; rfl; exact hC; exact (fun _ _ _ h => h); exact hR; with_reducible exact wanted_none) | ((with_reducible apply draw_pure (i := 11)); (simp only [q4, q6, q5]; with_reducible rfl); kernel_rfl; kernel_rfl; decide +kernel; rfl; exact hC; exact (fun _ _ _ h => h); exact hR; exact wanted_guard rfl rfl)); (intro w; first | (exact run_op_addStr rfl (by (exact ev_const)) (by (exact ev_const)) (by (omega))) | (go_simp; done) | (go_simp; rw [wrapI (by omega) (by omega)]) | (go_simp; with_reducible rfl) | (go_simp; rfl)); (clear hR hC; intro hR hC); (try simp only [Act.put, q1, q2, q3])) | (((with_reducible apply draw_pure (i := 15)); (simp only [q4, q6, q5]; with_reducible rfl); kernel_rfl; kernel_rfl; decide +kernel; rfl; exact hC; exact (fun _ _ _ h => h); exact hR; exact wanted_guard rfl rfl); (intro w; first | (with_reducible exact draw_ia E160 rfl (by (exact ev_tmp rfl)) (by (exact ev_tmp rfl)) (by (omega)) (by (omega)) (by (assumption)) (by (simp only [Int.toNat_natCast, Nat.mul_one, Nat.zero_add, tn_sub, tn_sub1, tn_sub2, tn_sub3, tn_add, tn_add1, tn_add2]; rfl))) | (go_simp; done) | (go_simp; rw [wrapI (by omega) (by omega)]) | (go_simp; with_reducible rfl)); (clear hR hC; intro hR hC); (try simp only [Act.put, q1, q2, q3])) | (((with_reducible apply draw_pure (i := 16)); (simp only [q4, q6, q5]; with_reducible rfl); kernel_rfl; kernel_rfl; decide +kernel; rfl; exact hC; exact (fun _ _ _ h => h); exact hR; exact wanted_guard rfl rfl); (intro w; first | (exact draw_fa rfl (by (exact ev_tmp rfl)) (by assumption) (by with_reducible exact fo161_0)) | (go_simp; done) | (go_simp; rw [wrapI (by omega) (by omega)]) | (go_simp; with_reducible rfl) | (go_simp; rfl)); (clear hR hC; intro hR hC); (try simp only [Act.put, q1, q2, q3])) | ((first | ((with_reducible apply draw_read (i := 13)); (simp only [q4, q6, q5]; with_reducible rfl); kernel_rfl; kernel_rfl; decide +kernel; kernel_rfl; rfl; exact hC; exact (fun _ _ _ h => h); exact hR; kernel_rfl; exact wanted_guard rfl rfl) | ((with_reducible apply draw_read (i := 17)); (simp only [q4, q6, q5]; with_reducible rfl); kernel_rfl; kernel_rfl; decide +kernel; kernel_rfl; rfl; exact hC; exact (fun _ _ _ h => h); exact hR; kernel_rfl; exact wanted_guard rfl rfl)); (intro w hS; (apply run_op_load rfl (by first | (exact ev_tmp rfl) | rfl)); first | exact run_loadVar1 (by decide +kernel) (hS.cell (by (repeat (with_reducible first | exact mem_hd | apply mem_tl))) rfl) | exact run_loadVar1 (by decide +kernel) ((hS.ownCell (by (repeat (with_reducible apply mem_tl))) (by (assumption))).1) | exact run_loadVar1 (by decide +kernel) (Sat.rdCell2 (by assumption) hS (by ((repeat (with_reducible apply mem_tl))); try assumption) (by (assumption))) | exact run_loadVar1 (by decide +kernel) (hS.baseCell (by ((repeat (with_reducible apply mem_tl))); try assumption) (by assumption)) | exact run_loadVar1 (by decide +kernel) (fzC (by assumption) hS (by ((repeat (with_reducible apply mem_tl))); try assumption)) | exact run_loadRN hS (by assumption) (by ((repeat (with_reducible apply mem_tl))); try assumption) (by assumption) (by rfl) (by with_reducible exact sz161) (by decide +kernel) (by decide) | exact hS.loadWhole (by (repeat (with_reducible apply mem_tl))) (by kernel_rfl) (by kernel_rfl)); (clear hR hC; intro hR hC); (try simp only [Act.put, q1, q2, q3])) | ((with_reducible apply draw_done); decide +kernel; clear hR hC) | (refine draw_sat 23 20 hS (by kernel_rfl) [] rfl ?_; clear hS; intro w hS hR hC))
                      go_roundw
                      case rel => exact ⟨q + 1, by go_num, by omega, HN2, hS⟩
                      case measure => simp [intOf]; omega
                  · have hp : x.1.isPrefixOf (text.drop j) = false := by
                      cases h : x.1.isPrefixOf (text.drop j) with
                      | false => rfl
                      | true =>
                        have := (List.isPrefixOf_iff_prefix.1 h).length_le
                        rw [List.length_drop] at this
                        omega
                    have HN2 := hnp hp
                    have hfd : decide ((j : Int) + (x.1.length : Int) ≤ (text.length : Int)) = false := by simp; omega
                    clear hx HN hnp hp hfit
                    go_wp2_with (first | ((first | ((with_reducible apply draw_pure (i := 0)); (simp only [q4, q6, q5]; with_reducible rfl); kernel_rfl; kernel_rfl; decide +kernel; rfl; exact hC; exact (fun _ _ _ h => h); exact hR; with_reducible exact wanted_none) | ((with_reducible apply draw_pure (i := 1)); (simp only [q4, q6, q5]; with_reducible rfl); kernel_rfl; kernel_rfl; decide +kernel; rfl; exact hC; exact (fun _ _ _ h => h); exact hR; with_reducible exact wanted_none) | ((with_reducible apply draw_pure (i := 3)); (simp only [q4, q6, q5]; with_reducible rfl); kernel_rfl; kernel_rfl; decide +kernel; rfl; exact hC; exact (fun _ _ _ h => h); exact hR; with_reducible exact wanted_none) | ((with_reducible apply draw_pure (i := 4)); (simp only [q4, q6, q5]; with_reducible rfl); kernel_rfl; kernel_rfl; decide +kernel; rfl; exact hC; exact (fun _ _ _ h => h); exact hR; with_reducible exact wanted_none) | ((with_reducible apply draw_pure (i := 5)); (simp only [q4, q6, q5]; with_reducible rfl); kernel_rfl; kernel_rfl; decide +kernel; rfl; exact hC; exact (fun _ _ _ h => h); exact hR; with_reducible exact wanted_none) | ((with_reducible apply draw_pure (i := 6)); (simp only [q4, q6, q5]; with_reducible rfl); kernel_rfl; kernel_rfl; decide +kernel; rfl; exact hC; exact (fun _ _ _ h => h); exact hR; with_reducible exact wanted_none) | ((with_reducible apply draw_pure (i := 19)); (simp only [q4, q6, q5]; with_reducible rfl); kernel_rfl; kernel_rfl; decide +kernel; rfl; exact hC; exact (fun _ _ _ h => h); exact hR; with_reducible exact wanted_none)); (intro w; first | (go_simp; done) | (go_simp; rw [wrapI (by omega) (by omega)]) | (go_simp; with_reducible rfl) | (go_simp; rfl)); (clear hR hC; intro hR hC); (try simp only [Act.put, q1, q2, q3])) | (((with_reducible apply draw_pure (i := 2)); (simp only [q4, q6, q5]; with_reducible rfl); kernel_rfl; kernel_rfl; decide +kernel; rfl; exact hC; exact (fun _ _ _ h => h); exact hR; with_reducible exact wanted_none); (intro w; first | (exact run_op_addStr rfl (by (exact ev_const)) (by (exact ev_const)) (by (omega))) | (go_simp; done) | (go_simp; rw [wrapI (by omega) (by omega)]) | (go_simp; with_reducible rfl) | (go_simp; rfl)); (clear hR hC; intro hR hC); (try simp only [Act.put, q1, q2, q3])) | ((first | ((with_reducible apply draw_skip (i := 7)); (simp only [q4, q6, q5]; with_reducible rfl); kernel_rfl; kernel_rfl; decide +kernel; rfl; exact hC; exact (fun _ _ _ h => h); exact hR; (exact wanted_not rfl rfl)) | ((with_reducible apply draw_skip (i := 8)); (simp only [q4, q6, q5]; with_reducible rfl); kernel_rfl; kernel_rfl; decide +kernel; rfl; exact hC; exact (fun _ _ _ h => h); exact hR; (exact wanted_not rfl rfl)) | ((with_reducible apply draw_skip (i := 9)); (simp only [q4, q6, q5]; with_reducible rfl); kernel_rfl; kernel_rfl; decide +kernel; rfl; exact hC; exact (fun _ _ _ h => h); exact hR; (exact wanted_not rfl rfl)) | ((with_reducible apply draw_skip (i := 10)); (simp only [q4, q6, q5]; with_reducible rfl); kernel_rfl; kernel_rfl; decide +kernel; rfl; exact hC; exact (fun _ _ _ h => h); exact hR; (exact wanted_not rfl rfl)) | ((with_reducible apply draw_skip (i := 11)); (simp only [q4, q6, q5]; with_reducible rfl); kernel_rfl; kernel_rfl; decide +kernel; rfl; exact hC; exact (fun _ _ _ h => h); exact hR; (exact wanted_not rfl rfl)) | ((with_reducible apply draw_skip (i := 12)); (simp only [q4, q6, q5]; with_reducible rfl); kernel_rfl; kernel_rfl; decide +kernel; rfl; exact hC; exact (fun _ _ _ h => h); exact hR; (exact wanted_not rfl rfl)) | ((with_reducible apply draw_skip (i := 13)); (simp only [q4, q6, q5]; with_reducible rfl); kernel_rfl; kernel_rfl; decide +kernel; rfl; exact hC; exact (fun _ _ _ h => h); exact hR; (exact wanted_not rfl rfl)) | ((with_reducible apply draw_skip (i := 14)); (simp only [q4, q6, q5]; with_reducible rfl); kernel_rfl; kernel_rfl; decide +kernel; rfl; exact hC; exact (fun _ _ _ h => h); exact hR; (exact wanted_not rfl rfl)) | ((with_reducible apply draw_skip (i := 15)); (simp only [q4, q6, q5]; with_reducible rfl); kernel_rfl; kernel_rfl; decide +kernel; rfl; exact hC; exact (fun _ _ _ h => h); exact hR; (exact wanted_not rfl rfl)) | ((with_reducible apply draw_skip (i := 16)); (simp only [q4, q6, q5]; with_reducible rfl); kernel_rfl; kernel_rfl; decide +kernel; rfl; exact hC; exact (fun _ _ _ h => h); exact hR; (exact wanted_not rfl rfl)) | ((with_reducible apply draw_skip (i := 17)); (simp only [q4, q6, q5]; with_reducible rfl); kernel_rfl; kernel_rfl; decide +kernel; rfl; exact hC; exact (fun _ _ _ h => h); exact hR; (exact wanted_not rfl rfl)) | ((with_reducible apply draw_skip (i := 18)); (simp only [q4, q6, q5]; with_reducible rfl); kernel_rfl; kernel_rfl; decide +kernel; rfl; exact hC; exact (fun _ _ _ h => h); exact hR; (exact wanted_not rfl rfl))); (clear hR hC; intro hR hC); (try simp only [Act.put, q1, q2, q3])) | ((with_reducible apply draw_done); decide +kernel; clear hR hC) | (refine draw_sat 23 20 hS (by kernel_rfl) [] rfl ?_; clear hS; intro w hS hR hC))
                    go_roundw
                    case rel => exact ⟨q + 1, by go_num, by omega, HN2, hS⟩
                    case measure => simp [intOf]; omega
                · obtain rfl : q = 21 := by omega
                  have hsg := signNone _ HN.out
                  have ht4 := HT3.out
                  rw [hsg] at ht4
                  have HT4 := hid ht4
                  have hjl : (j : Int) ≤ 1048576 := by omega
                  clear ht4 hsg HT3 HN
                  go_wp2_with (first | ((with_reducible apply arm_load_base hS); exact wanted_none; rfl; (((repeat (with_reducible apply mem_tl))); (try assumption)); assumption; decide +kernel; (try simp only [Act.put, q1, q2, q3])) | ((with_reducible apply arm_storeN hS); exact wanted_none; exact ev_tmp rfl; exact ev_tmp rfl; (repeat (with_reducible exact mem_hd)); rfl; (focus (simp; done)); (repeat (with_reducible exact Upd.hd)); rfl; exact sz100; rfl; clear hS; intro w hS; (try simp only [setFrom, q2, q3] at hS); (try simp only [Act.put, q1, q2, q3])))
                  refine bodyPost_ret (results_cell1 rfl rfl (hS.loadWhole (by (repeat (with_reducible exact mem_hd))) (by kernel_rfl) (by kernel_rfl))) rfl ?_
                  refine ⟨?_, hS.sb (by (repeat (with_reducible first | exact Sb.refl | apply Sb.skip)))⟩
                  rw [HT4.out]
                  rfl
    · obtain rfl : j = text.length := by omega
      have hRl : R = text.length := by rw [HJ.out, skipP, List.drop_length]; rfl
      have ht2 := HT.out
      rw [if_pos hRl] at ht2
      have HT2 := hid ht2
      clear ht2 hRl HJ
      go_wp2_with ((with_reducible apply arm_storeN hS); exact wanted_none; exact ev_tmp rfl; exact ev_tmp rfl; (repeat (with_reducible exact mem_hd)); rfl; (focus (simp; done)); (repeat (with_reducible exact Upd.hd)); rfl; exact sz100; rfl; clear hS; intro w hS; (try simp only [setFrom, q2, q3] at hS); (try simp only [Act.put, q1, q2, q3]))
      refine bodyPost_ret (results_cell1 rfl rfl (hS.loadWhole (by (repeat (with_reducible exact mem_hd))) (by kernel_rfl) (by kernel_rfl))) rfl ?_
      rw [HT2.out]
      exact ⟨rfl, hS.sb (by (repeat (with_reducible first | exact Sb.refl | apply Sb.skip)))⟩
end Go.Proofs.YthackanffcaejaaDoor
