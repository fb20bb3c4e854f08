/- A part of the proof: Rx2. -/
import Derived.Test.YthackanffcaejaaGreatDoorO1
import Derived.Test.YthackanffcaejaaGreatDoorO5
import Derived.Test.YthackanffcaejaaGreatDoorO7
import Derived.Test.YthackanffcaejaaGreatDoorO14
set_option linter.unusedSimpArgs false
set_option linter.unusedVariables false
set_option linter.unusedSectionVars false
namespace Go.Proofs.YthackanffcaejaaGreatDoor
section
set_option maxRecDepth 20000
open Go Go.RowKit Go.SL Go.ClauseP Go.LexP

def sgR : List (List UInt8 × Tk) → List Value
  | [] => []
  | x :: xs => .string ⟨x.1.toArray⟩ :: .int .i64 (YB x.2).1 :: .int .i64 (YB x.2).2 :: sgR xs
theorem sgR_at : ∀ (xs : List (List UInt8 × Tk)) (j : Nat) (x : List UInt8 × Tk), xs[j]? = some x → (sgR xs)[j * 3]? = some (.string ⟨x.1.toArray⟩) ∧ (sgR xs)[j * 3 + 1]? = some (.int .i64 (YB x.2).1) ∧ (sgR xs)[j * 3 + 2]? = some (.int .i64 (YB x.2).2)
  | [], j, x, h => by simp at h
  | y :: xs, 0, x, h => by simp at h; subst h; exact ⟨rfl, rfl, rfl⟩
  | y :: xs, j + 1, x, h => by
    have h2 := sgR_at xs j x (by simpa using h)
    rw [show (j + 1) * 3 = j * 3 + 1 + 1 + 1 by omega]
    exact h2
def XR (w0 : World) : Prop := ∃ ad cap, w0.cell? ⟨0, 0, none⟩ = some (.slice ad 21 cap) ∧ Rd (YT w0) ad (sgR (signs11 ++ signs10)) ∧ ∃ aa, ad = some aa ∧ aa.spot = none
theorem KQ {p : UInt8 → Bool} : ∀ {l : List UInt8} {x : UInt8}, x ∈ l.takeWhile p → p x = true
  | c :: l, x, h => by
    rw [List.takeWhile_cons] at h
    split at h
    · rename_i hc
      rcases List.mem_cons.1 h with rfl | h
      · exact hc
      · exact KQ h
    · cases h
theorem numM1 {c : UInt8} {l : List UInt8} (h : Yn c = true) : kj 1 ((c :: l).takeWhile Yn) = if ((c :: l).takeWhile Yn).length = 1 ∧ c.toNat ≤ 49 then (c.toNat : Int) - 48 else -1 := by
  have hc := uz h
  rw [List.takeWhile_cons, h]
  simp only [if_true]
  cases ht : l.takeWhile Yn with
  | nil =>
    simp only [List.length_cons, List.length_nil]
    rw [jf (by simp) (by simp) (by simp [h])]
    have hv : Kl 0 [c] = c.toNat - 48 := by simp [Kl]
    rw [hv]
    by_cases h1 : c.toNat ≤ 49
    · rw [if_neg (by omega), if_pos (by simp; exact h1)]; omega
    · rw [if_pos (by omega), if_neg (by rintro ⟨_, h2⟩; exact h1 h2)]
  | cons d ds =>
    rw [if_neg (by rintro ⟨h2, _⟩; simp at h2)]
    have hall : (c :: d :: ds).all Yn = true := by
      have hd : ∀ x ∈ d :: ds, Yn x = true := by
        intro x hx; rw [← ht] at hx; exact KQ hx
      simp only [List.all_cons, h, Bool.true_and]
      have h1 := hd d (by simp)
      have h2 : ds.all Yn = true := List.all_eq_true.2 fun x hx => hd x (by simp [hx])
      rw [h1, h2]; rfl
    by_cases h48 : c.toNat = 48
    · exact jM (by simp) (by simp; exact UInt8.toNat_inj.1 h48)
    · rw [jf (by simp) (by rintro ⟨_, h2⟩; simp at h2; exact h48 (by rw [h2]; rfl)) hall, if_pos]
      rw [jO, jO]
      have := XB ds (10 * (10 * 0 + (c.toNat - 48)) + (d.toNat - 48))
      omega
theorem ga {text : List UInt8} {j : Nat} (h : text[j]? = some 35) : Yh text j = j + Yx true (text.drop j) := by
  have hlt := (List.getElem?_eq_some_iff.1 h).1
  have hd : text.drop j = 35 :: text.drop (j + 1) := by
    rw [List.drop_eq_getElem_cons hlt, (List.getElem?_eq_some_iff.1 h).2]
  rw [Yh, hd]; simp [Yx, kQ]
theorem gH {a b c d : Bool} (h : ((a = true ∨ b = true) ∨ c = true) ∨ d = true) : a = true ∨ (a = false ∧ b = true) ∨ (a = false ∧ b = false ∧ c = true) ∨ (a = false ∧ b = false ∧ c = false ∧ d = true) := by
  cases a <;> cases b <;> cases c <;> cases d <;> simp_all
theorem signs_len : ∀ x ∈ signs11 ++ signs10, 1 ≤ x.1.length ∧ x.1.length ≤ 3 := by decide
theorem signAt (l : List UInt8) (j : Nat) (x : List UInt8 × Tk) (hx : (signs11 ++ signs10)[j]? = some x) (hn : ∀ i y, i < j → (signs11 ++ signs10)[i]? = some y → y.1.isPrefixOf l = false) (hp : x.1.isPrefixOf l = true) : kD l = some x := by
  unfold kD
  obtain ⟨hlt, he⟩ := List.getElem?_eq_some_iff.1 hx
  rw [List.find?_eq_some_iff_getElem]
  refine ⟨hp, j, hlt, he, fun i hi => ?_⟩
  rw [hn i _ hi (List.getElem?_eq_getElem (by omega))]
  rfl
theorem signNone (l : List UInt8) (hn : ∀ i y, i < 21 → (signs11 ++ signs10)[i]? = some y → y.1.isPrefixOf l = false) : kD l = none := by
  unfold kD
  rw [List.find?_eq_none]
  intro x hx
  obtain ⟨i, hlt, he⟩ := List.getElem_of_mem hx
  rw [hn i x hlt (by rw [List.getElem?_eq_getElem hlt, he])]
  simp
theorem pfx (text : List UInt8) (j : Nat) (x : List UInt8) (h : j + x.length ≤ text.length) : (((⟨text.toArray⟩ : ByteArray).extract j ((j : Int) + (x.length : Int)).toNat).toList == x) = x.isPrefixOf (text.drop j) := by
  rw [ByteArray.toList_eq, show ((j : Int) + (x.length : Int)).toNat = j + x.length by omega]
  have hd : ((⟨text.toArray⟩ : ByteArray).extract j (j + x.length)).data.toList = (text.drop j).take x.length := by
    simp [ByteArray.data_extract, List.extract_toArray, List.extract_eq_take_drop]
  rw [hd, Bool.eq_iff_iff, beq_iff_eq, List.isPrefixOf_iff_prefix, List.prefix_iff_eq_take]
  exact ⟨fun h => h.symm, fun h => h.symm⟩
theorem Kx {text : List UInt8} {j : Nat} {c : UInt8} (h : text[j]? = some c) : text.drop j = c :: text.drop (j + 1) := by
  have hlt := (List.getElem?_eq_some_iff.1 h).1
  rw [List.drop_eq_getElem_cons hlt, (List.getElem?_eq_some_iff.1 h).2]
set_option maxHeartbeats 8000000 in
theorem nextR (text : List UInt8) (hl : text.length ≤ 1048576) (k : Nat) (hk : k ≤ text.length) (w0 w : World) (hSig : XR w0) (Hs : List HP) (hbm : YT w0 ∈ Hs) (hS : Sat w0 w Hs) :
    Calls Tryz.prog 43 #[.string ⟨text.toArray⟩, .int .i64 k] w fun e w' => e = .returned (tokFV (yS text k).tk (yS text k).at_ (yS text k).fin) ∧ Sat w0 w' Hs := by
  obtain ⟨R, hR⟩ : ∃ R : Nat, R = Yh text k := ⟨_, rfl⟩
  obtain ⟨t, ht⟩ : ∃ t : TokR, t = yS text k := ⟨_, rfl⟩
  rw [← ht]
  unfold yS at ht
  rw [← hR] at ht
  have HT := hid ht
  have HR := hid hR
  clear ht hR
  have hli : (text.length : Int) ≤ 1048576 := by omega
  go_enter Tryz.func43, Tryz.ntmps43
  go_wp2_with ((with_reducible apply yl hS);exact ya;exact z94;clear hS;intro RB w hS;(try simp only [Act.put,q1,q2,q3]))
  go_loopw [1] (fun i wr => ∃ j : Nat, i = .int .i64 j ∧ j ≤ text.length ∧ Hid (R = Yh text j) ∧ Sat w0 wr (blk RB 94 [.int .i64 0, .int .i64 0, .int .i64 0, .int .i64 0] :: Hs)) (fun i _ => text.length - (intOf i).toNat)
  case atStart => exact ⟨k, rfl, hk, HR, hS⟩
  case round =>
    clear hS HR
    obtain ⟨j, rfl, hj, HJ, hS⟩ := hrel
    by_cases hlt : j < text.length
    · obtain ⟨c, hc⟩ : ∃ c, text[j]? = some c := ⟨_, List.getElem?_eq_getElem hlt⟩
      obtain ⟨hpj, hcj⟩ := ks text j c hc
      have hd := Kx hc
      have HD := hid hd
      have e1 := Kp c 32 32 rfl
      have e2 := Kp c 9 9 rfl
      have e3 := Kp c 10 10 rfl
      have e4 := Kp c 13 13 rfl
      have e5 := Kp c 35 35 rfl
      by_cases h35 : c = 35
      · subst h35
        have HJ2 := hid (HJ.out.trans (ga hc))
        have hlt2 : (j : Int) < text.length := by omega
        have HC := hid hc
        clear hc hd e1 e2 e3 e4 e5 HJ HD
        go_wp2_with ((with_reducible apply yi hS);exact yg rfl rfl;exact yh;(repeat (with_reducible apply ye));rfl;decide +kernel;(try simp only [Act.put,q1,q2,q3]))
        go_loopw [1] (fun i wr => ∃ m : Nat, i = .int .i64 m ∧ j ≤ m ∧ m ≤ text.length ∧ (m = j ∨ j < m) ∧ Hid (R = m + Yx true (text.drop m)) ∧ Sat w0 wr (blk RB 94 [.int .i64 0, .int .i64 0, .int .i64 0, .int .i64 0] :: Hs)) (fun i _ => text.length - (intOf i).toNat)
        case atStart => exact ⟨j, rfl, Nat.le_refl _, by omega, .inl rfl, HJ2, hS⟩
        case round =>
          clear hS HJ2
          obtain ⟨m, rfl, hm1, hm2, hm3, HM, hS⟩ := hrel
          by_cases hml : m < text.length
          · obtain ⟨d, hdm⟩ : ∃ d, text[m]? = some d := ⟨_, List.getElem?_eq_getElem hml⟩
            obtain ⟨hpm, hcm⟩ := ks text m d hdm
            have hdd := Kx hdm
            have e10 := u8_ne d 10 10 rfl
            by_cases h10 : d = 10
            · subst h10
              have HM2 := hid (show R = Yh text m by rw [HM.out, Yh, hdd]; simp [Yx, kQ])
              rw [if_pos rfl] at e10
              have hjm : j < m := by
                rcases hm3 with rfl | h
                · have h1 := HC.out
                  rw [hdm] at h1
                  cases h1
                · exact h
              clear hdm hdd hm3
              go_wp2_with ((with_reducible apply yi hS);exact yg rfl rfl;exact yh;(repeat (with_reducible apply ye));rfl;decide +kernel;(try simp only [Act.put,q1,q2,q3]))
              go_roundw
              case rel => exact ⟨m, rfl, hm2, HM2, hS⟩
              case measure => simp [intOf]; omega
            · rw [if_neg h10] at e10
              have HM2 := hid (show R = m + 1 + Yx true (text.drop (m + 1)) by rw [HM.out, hdd]; simp [Yx, h10]; omega)
              clear hdm hdd h10
              go_wp2_with ((with_reducible apply yi hS);exact yg rfl rfl;exact yh;(repeat (with_reducible apply ye));rfl;decide +kernel;(try simp only [Act.put,q1,q2,q3]))
              go_roundw
              case rel => exact ⟨m + 1, by go_num, by omega, by omega, .inr (by omega), HM2, hS⟩
              case measure => simp [intOf]; omega
          · obtain rfl : m = text.length := by omega
            have HM2 := hid (show R = Yh text text.length by rw [HM.out, UU, List.drop_length]; rfl)
            have hjm : j < text.length := hlt
            go_wp2_with ((with_reducible apply yi hS);exact yg rfl rfl;exact yh;(repeat (with_reducible apply ye));rfl;decide +kernel;(try simp only [Act.put,q1,q2,q3]))
            go_roundw
            case rel => exact ⟨text.length, rfl, Nat.le_refl _, HM2, hS⟩
            case measure => simp [intOf]; omega
      · have e35 : (c == 35) = false := by simp [h35]
        rw [e35] at e5
        cases hb : kQ c with
        | true =>
          have HJ2 := hid (show R = Yh text (j + 1) by rw [HJ.out, Yh, HD.out, Yx, if_pos hb, Yh]; omega)
          have hb2 := hb
          clear hb hd hc HJ HD h35 e35
          simp only [kQ, Bool.or_eq_true] at hb2
          have hcases : (c == 32) = true ∨ ((c == 32) = false ∧ (c == 9) = true) ∨ ((c == 32) = false ∧ (c == 9) = false ∧ (c == 10) = true) ∨ ((c == 32) = false ∧ (c == 9) = false ∧ (c == 10) = false ∧ (c == 13) = true) := by
            exact gH hb2
          clear hb2
          rcases hcases with h1 | ⟨h1, h2⟩ | ⟨h1, h2, h3⟩ | ⟨h1, h2, h3, h4⟩
          all_goals
            (rw [h1] at e1); (try rw [h2] at e2); (try rw [h3] at e3); (try rw [h4] at e4)
            (try clear h1); (try clear h2); (try clear h3); (try clear h4)
            go_wp2_with ((with_reducible apply yi hS);exact yg rfl rfl;exact yh;(repeat (with_reducible apply ye));rfl;decide +kernel;(try simp only [Act.put,q1,q2,q3]))
            go_roundw
            case rel => exact ⟨j + 1, by go_num, by omega, HJ2, hS⟩
            case measure => simp [intOf]; omega
        | false =>
          have hb2 := hb
          simp only [kQ, Bool.or_eq_false_iff] at hb2
          obtain ⟨⟨⟨b1, b2⟩, b3⟩, b4⟩ := hb2
          rw [b1] at e1
          rw [b2] at e2
          rw [b3] at e3
          rw [b4] at e4
          have hRj : R = j := by rw [HJ.out, Yh, HD.out, Yx, if_neg (by rw [hb]; simp), if_neg h35]; rfl
          have ht2 := HT.out
          rw [hRj, if_neg (by omega)] at ht2
          have HT2 := hid ht2
          have HC := hid hc
          have hge : decide ((j : Int) ≥ (text.length : Int)) = false := by simp; omega
          have hlt2 : (j : Int) < text.length := by omega
          have LC := xE c w0
          have DC := jG c w0
          clear b1 b2 b3 b4 hb h35 e35 hRj ht2 HT HJ hd hc
          cases hw : kK c with
          | true =>
            have HNE : Hid (¬ (text.drop j).takeWhile ldP = []) := hid (by rw [HD.out, List.takeWhile_cons, ldP_of c hw]; simp)
            have hp : Yj (text.drop j) = (kU ((text.drop j).takeWhile ldP), ((text.drop j).takeWhile ldP).length) := by
              rw [HD.out]; unfold Yj; dsimp only; rw [if_pos hw]
            have ht3 := HT2.out
            rw [hp] at ht3
            have HT3 := hid ht3
            rw [hw] at LC
            clear ht3 hp hw HT2
            go_wp2_with (go_at_call 86; refine (LC _ _ hS).mono ?_; clear hS; rintro e w ⟨rfl, hS⟩)
            go_loopw [5] (fun i wr => ∃ m : Nat, i = .int .i64 m ∧ j ≤ m ∧ m ≤ text.length ∧ Hid (ky ldP text j = ky ldP text m) ∧ Sat w0 wr (blk RB 94 [.int .i64 0, .int .i64 0, .int .i64 0, .int .i64 0] :: Hs)) (fun i _ => text.length - (intOf i).toNat)
            case atStart => exact ⟨j, rfl, Nat.le_refl _, hj, hid rfl, hS⟩
            case round =>
              clear hS
              obtain ⟨m, rfl, hm1, hm2, HM, hS⟩ := hrel
              by_cases hgo : ∃ d, text[m]? = some d ∧ ldP d = true
              · obtain ⟨d, hdm, hld⟩ := hgo
                have hml : m < text.length := (List.getElem?_eq_some_iff.1 hdm).1
                obtain ⟨hpm, hcm⟩ := ks text m d hdm
                have HM2 := hid (show ky ldP text j = ky ldP text (m + 1) by
                  rw [HM.out, ky, ky, Kx hdm, List.takeWhile_cons, hld]; simp; omega)
                have LD := xE d w0
                have DD := jG d w0
                have hml2 : (m : Int) < text.length := by omega
                clear hdm
                cases hlt2 : kK d with
                | true =>
                  rw [hlt2] at LD
                  clear hlt2 hld
                  go_wp2_with (go_at_call 86; refine (LD _ _ hS).mono ?_; clear hS; rintro e w ⟨rfl, hS⟩)
                  go_roundw
                  case rel => exact ⟨m + 1, by go_num, by omega, by omega, HM2, hS⟩
                  case measure => simp [intOf]; omega
                | false =>
                  have hdg : Yn d = true := by simpa [ldP, hlt2] using hld
                  rw [hlt2] at LD
                  rw [hdg] at DD
                  clear hlt2 hld hdg
                  go_wp2_with (first | (go_at_call 86; refine (LD _ _ hS).mono ?_; clear hS; rintro e w ⟨rfl, hS⟩) | (go_at_call 87; refine (DD _ _ hS).mono ?_; clear hS; rintro e w ⟨rfl, hS⟩))
                  go_roundw
                  case rel => exact ⟨m + 1, by go_num, by omega, by omega, HM2, hS⟩
                  case measure => simp [intOf]; omega
              · have hrm : ky ldP text j = m := by
                  rw [HM.out, ky]
                  cases hdm : text[m]? with
                  | none => rw [List.drop_eq_nil_of_le (by simpa using hdm)]; rfl
                  | some d =>
                    rw [Kx hdm, List.takeWhile_cons, if_neg (fun h => hgo ⟨d, hdm, h⟩)]; rfl
                have hex := gr text ldP j (by omega)
                rw [hrm] at hex
                have hlen : j + ((text.drop j).takeWhile ldP).length = m := hrm
                have WR := wordR ((text.drop j).takeWhile ldP) (by
                  exact HNE.out) (by omega) (fun c hc => KQ hc) j (by omega) w0
                rw [← hex] at WR
                have ht4 := HT3.out
                have HT4 := hid ht4
                have HLEN := hid hlen
                have hmj : (j : Int) ≤ m := by omega
                have hml : (m : Int) ≤ text.length := by omega
                cases hdm : text[m]? with
                | none =>
                  have hm3 : m = text.length := by have : text.length ≤ m := by simpa using hdm
                                                   omega
                  subst hm3
                  have HLL := hid (show (j : Int) + (((text.drop j).takeWhile ldP).length : Int) = (text.length : Int) by omega)
                  simp only [HLL.out] at WR
                  generalize kU ((text.drop j).takeWhile ldP) = tk at *
                  clear hdm hgo hrm hex hlen ht4 HT3
                  go_wp2_with (first|((with_reducible apply yk hS);exact ya;exact yb rfl;exact yb rfl;exact yf;rfl;(focus (simp;done));exact Upd.hd;rfl;exact sz94;rfl;clear hS;intro w hS;(try simp only [yo, q2, q3] at hS);(try simp only [Act.put,q1,q2,q3]))|(go_at_call 88;refine (WR _ _ hS).mono ?_;clear hS;rintro e w ⟨rfl, hS⟩))
                  refine bodyPost_ret (yR rfl rfl (hS.loadWhole (by (exact yf)) (by kernel_rfl) (by kernel_rfl))) rfl ?_
                  refine ⟨?_, hS.sb (by (repeat (with_reducible first | exact Sb.refl | apply Sb.skip)))⟩
                  rw [HT4.out]
                  dsimp only
                  rw [HLEN.out]
                  rfl
                | some d =>
                  obtain ⟨hpm, hcm⟩ := ks text m d hdm
                  have hld : ldP d = false := by
                    cases h : ldP d with
                    | false => rfl
                    | true => exact absurd ⟨d, hdm, h⟩ hgo
                  have hml3 : (m : Int) < text.length := by have := (List.getElem?_eq_some_iff.1 hdm).1; omega
                  have LD := xE d w0
                  have DD := jG d w0
                  have hl1 : kK d = false := by
                    cases h : kK d with
                    | false => rfl
                    | true => simp [ldP, h] at hld
                  have hl2 : Yn d = false := by
                    cases h : Yn d with
                    | false => rfl
                    | true => simp [ldP, h] at hld
                  rw [hl1] at LD
                  rw [hl2] at DD
                  have HLL := hid (show (j : Int) + (((text.drop j).takeWhile ldP).length : Int) = (m : Int) by omega)
                  simp only [HLL.out] at WR
                  generalize kU ((text.drop j).takeWhile ldP) = tk at *
                  clear hdm hgo hrm hex hlen ht4 HT3 hl1 hl2 hld
                  go_wp2_with (first|((with_reducible apply yk hS);exact ya;exact yb rfl;exact yb rfl;exact yf;rfl;(focus (simp;done));exact Upd.hd;rfl;exact sz94;rfl;clear hS;intro w hS;(try simp only [yo, q2, q3] at hS);(try simp only [Act.put,q1,q2,q3]))|(go_at_call 86;refine (LD _ _ hS).mono ?_;clear hS;rintro e w ⟨rfl, hS⟩)|(go_at_call 87;refine (DD _ _ hS).mono ?_;clear hS;rintro e w ⟨rfl, hS⟩)|(go_at_call 88;refine (WR _ _ hS).mono ?_;clear hS;rintro e w ⟨rfl, hS⟩))
                  refine bodyPost_ret (yR rfl rfl (hS.loadWhole (by (exact yf)) (by kernel_rfl) (by kernel_rfl))) rfl ?_
                  refine ⟨?_, hS.sb (by (repeat (with_reducible first | exact Sb.refl | apply Sb.skip)))⟩
                  rw [HT4.out]
                  dsimp only
                  rw [HLEN.out]
                  rfl
          | false =>
            rw [hw] at LC
            cases hg : Yn c with
            | true =>
              have hp : Yj (text.drop j) = ((if kj 1 ((text.drop j).takeWhile Yn) < 0 then .bad 133 else .const (kj 1 ((text.drop j).takeWhile Yn))), ((text.drop j).takeWhile Yn).length) := by
                rw [HD.out]; unfold Yj; dsimp only; rw [if_neg (by rw [hw]; simp), if_pos hg]
              have hnm : kj 1 ((text.drop j).takeWhile Yn) = if ((text.drop j).takeWhile Yn).length = 1 ∧ c.toNat ≤ 49 then (c.toNat : Int) - 48 else -1 := by rw [HD.out]; exact numM1 hg
              have hdb := uz hg
              have ht3 := HT2.out
              rw [hp] at ht3
              rw [hg] at DC
              have HT3 := hid ht3
              have HNM := hid hnm
              clear ht3 hp hw hg HT2 hnm
              go_wp2_with (first | (go_at_call 86; refine (LC _ _ hS).mono ?_; clear hS; rintro e w ⟨rfl, hS⟩) | (go_at_call 87; refine (DC _ _ hS).mono ?_; clear hS; rintro e w ⟨rfl, hS⟩))
              go_loopw [5] (fun i wr => ∃ m : Nat, i = .int .i64 m ∧ j ≤ m ∧ m ≤ text.length ∧ Hid (ky Yn text j = ky Yn text m) ∧ Sat w0 wr (blk RB 94 [.int .i64 0, .int .i64 0, .int .i64 0, .int .i64 0] :: Hs)) (fun i _ => text.length - (intOf i).toNat)
              case atStart => exact ⟨j, rfl, Nat.le_refl _, hj, hid rfl, hS⟩
              case round =>
                clear hS
                obtain ⟨m, rfl, hm1, hm2, HM, hS⟩ := hrel
                by_cases hgo : ∃ d, text[m]? = some d ∧ Yn d = true
                · obtain ⟨d, hdm, hld⟩ := hgo
                  have hml : m < text.length := (List.getElem?_eq_some_iff.1 hdm).1
                  obtain ⟨hpm, hcm⟩ := ks text m d hdm
                  have HM2 := hid (show ky Yn text j = ky Yn text (m + 1) by
                    rw [HM.out, ky, ky, Kx hdm, List.takeWhile_cons, hld]; simp; omega)
                  have DD := jG d w0
                  have hml2 : (m : Int) < text.length := by omega
                  rw [hld] at DD
                  clear hdm hld
                  go_wp2_with (go_at_call 87; refine (DD _ _ hS).mono ?_; clear hS; rintro e w ⟨rfl, hS⟩)
                  go_roundw
                  case rel => exact ⟨m + 1, by go_num, by omega, by omega, HM2, hS⟩
                  case measure => simp [intOf]; omega
                · have hrm : ky Yn text j = m := by
                    rw [HM.out, ky]
                    cases hdm : text[m]? with
                    | none => rw [List.drop_eq_nil_of_le (by simpa using hdm)]; rfl
                    | some d =>
                      rw [Kx hdm, List.takeWhile_cons, if_neg (fun h => hgo ⟨d, hdm, h⟩)]; rfl
                  have hlen : j + ((text.drop j).takeWhile Yn).length = m := hrm
                  have hmj : (j : Int) ≤ m := by omega
                  have hml : (m : Int) ≤ text.length := by omega
                  have ht4 := HT3.out
                  have hnm := HNM.out
                  generalize kj 1 ((text.drop j).takeWhile Yn) = nm at *
                  generalize hL : ((text.drop j).takeWhile Yn).length = L at *
                  have hcnd : (m = text.length ∨ ∃ d, text[m]? = some d ∧ Yn d = false ∧ m < text.length) := by
                    cases hdm : text[m]? with
                    | none => exact .inl (by have : text.length ≤ m := by simpa using hdm
                                             omega)
                    | some d =>
                      refine .inr ⟨d, rfl, ?_, (List.getElem?_eq_some_iff.1 hdm).1⟩
                      cases h : Yn d with
                      | false => rfl
                      | true => exact absurd ⟨d, hdm, h⟩ hgo
                  have hnu : ((c.toNat : Int) - 48 + 256) % 256 = (c.toNat : Int) - 48 := by omega
                  have hnn : 0 ≤ (c.toNat : Int) - 48 ∧ (c.toNat : Int) - 48 ≤ 9 := by omega
                  by_cases hone : L = 1 ∧ c.toNat ≤ 49
                  · obtain ⟨hL1, hc49⟩ := hone
                    rw [if_pos ⟨hL1, hc49⟩] at hnm
                    rw [if_neg (by omega), hL1, hnm] at ht4
                    have hb1 : ((m : Int) == (j : Int) + 1) = true := by simp; omega
                    have hb2 : decide ((c.toNat : Int) ≤ 49) = true := by simp; omega
                    have hb3 : (c.toNat : Int) ≤ 49 := by omega
                    have HT4 := hid ht4
                    have HRES := hid (show ((j + 1 : Nat) : Int) = (m : Int) by omega)
                    clear hL hlen hrm ht4 hgo HT3 HNM hL1 hnu hnm
                    rcases hcnd with rfl | ⟨d, hdm, hld, hml4⟩
                    · go_wp2_with ((with_reducible apply yk hS);exact ya;exact yb rfl;exact yb rfl;exact yf;rfl;(focus (simp;done));exact Upd.hd;rfl;exact sz94;rfl;clear hS;intro w hS;(try simp only [yo, q2, q3] at hS);(try simp only [Act.put,q1,q2,q3]))
                      refine bodyPost_ret (yR rfl rfl (hS.loadWhole (by (exact yf)) (by kernel_rfl) (by kernel_rfl))) rfl ?_
                      refine ⟨?_, hS.sb (by (repeat (with_reducible first | exact Sb.refl | apply Sb.skip)))⟩
                      rw [HT4.out]
                      dsimp only
                      rw [HRES.out]
                      rfl
                    · obtain ⟨hpm, hcm⟩ := ks text m d hdm
                      have DD := jG d w0
                      rw [hld] at DD
                      clear hdm hld
                      have hml5 : (m : Int) < text.length := by omega
                      go_wp2_with (first|((with_reducible apply yk hS);exact ya;exact yb rfl;exact yb rfl;exact yf;rfl;(focus (simp;done));exact Upd.hd;rfl;exact sz94;rfl;clear hS;intro w hS;(try simp only [yo, q2, q3] at hS);(try simp only [Act.put,q1,q2,q3]))|(go_at_call 87;refine (DD _ _ hS).mono ?_;clear hS;rintro e w ⟨rfl, hS⟩))
                      refine bodyPost_ret (yR rfl rfl (hS.loadWhole (by (exact yf)) (by kernel_rfl) (by kernel_rfl))) rfl ?_
                      refine ⟨?_, hS.sb (by (repeat (with_reducible first | exact Sb.refl | apply Sb.skip)))⟩
                      rw [HT4.out]
                      dsimp only
                      rw [HRES.out]
                      rfl
                  · rw [if_neg hone] at hnm
                    rw [if_pos (by omega)] at ht4
                    have HT4 := hid ht4
                    have HRES := hid (show ((j + L : Nat) : Int) = (m : Int) by omega)
                    have hb : ((m : Int) == (j : Int) + 1) = false ∨ (((m : Int) == (j : Int) + 1) = true ∧ decide ((c.toNat : Int) ≤ 49) = false) := by
                      by_cases h1 : L = 1
                      · refine .inr ⟨by simp; omega, ?_⟩
                        rw [decide_eq_false_iff_not]
                        intro h2
                        exact hone ⟨h1, by omega⟩
                      · exact .inl (by simp; omega)
                    clear hL hlen hrm ht4 hgo HT3 HNM hnu hnm hone
                    rcases hb with hb1 | ⟨hb1, hb2⟩
                    all_goals
                      rcases hcnd with rfl | ⟨d, hdm, hld, hml4⟩
                      · go_wp2_with ((with_reducible apply yk hS);exact ya;exact yb rfl;exact yb rfl;exact yf;rfl;(focus (simp;done));exact Upd.hd;rfl;exact sz94;rfl;clear hS;intro w hS;(try simp only [yo, q2, q3] at hS);(try simp only [Act.put,q1,q2,q3]))
                        refine bodyPost_ret (yR rfl rfl (hS.loadWhole (by (exact yf)) (by kernel_rfl) (by kernel_rfl))) rfl ?_
                        refine ⟨?_, hS.sb (by (repeat (with_reducible first | exact Sb.refl | apply Sb.skip)))⟩
                        rw [HT4.out]
                        dsimp only
                        rw [HRES.out]
                        rfl
                      · obtain ⟨hpm, hcm⟩ := ks text m d hdm
                        have DD := jG d w0
                        rw [hld] at DD
                        clear hdm hld
                        have hml5 : (m : Int) < text.length := by omega
                        go_wp2_with (first|((with_reducible apply yk hS);exact ya;exact yb rfl;exact yb rfl;exact yf;rfl;(focus (simp;done));exact Upd.hd;rfl;exact sz94;rfl;clear hS;intro w hS;(try simp only [yo, q2, q3] at hS);(try simp only [Act.put,q1,q2,q3]))|(go_at_call 87;refine (DD _ _ hS).mono ?_;clear hS;rintro e w ⟨rfl, hS⟩))
                        refine bodyPost_ret (yR rfl rfl (hS.loadWhole (by (exact yf)) (by kernel_rfl) (by kernel_rfl))) rfl ?_
                        refine ⟨?_, hS.sb (by (repeat (with_reducible first | exact Sb.refl | apply Sb.skip)))⟩
                        rw [HT4.out]
                        dsimp only
                        rw [HRES.out]
                        rfl
            | false =>
              have hp : Yj (text.drop j) = (match kD (text.drop j) with | some s => (s.2, s.1.length) | none => (.bad 130, 1)) := by
                rw [HD.out]; unfold Yj; dsimp only; rw [if_neg (by rw [hw]; simp), if_neg (by rw [hg]; simp)]; rfl
              have ht3 := HT2.out
              rw [hp] at ht3
              rw [hg] at DC
              have HT3 := hid ht3
              obtain ⟨ad, cap, hcell, hRd, hsp⟩ := hSig
              have NNA := hS.rdAd (ye hbm) hRd (by decide)
              clear ht3 hp hw hg HT2
              go_wp2_with (first | (go_at_call 86; refine (LC _ _ hS).mono ?_; clear hS; rintro e w ⟨rfl, hS⟩) | (go_at_call 87; refine (DC _ _ hS).mono ?_; clear hS; rintro e w ⟨rfl, hS⟩))
              go_loopw [6] (fun i wr => ∃ q : Nat, i = .int .i64 q ∧ q ≤ 21 ∧ Hid (∀ i y, i < q → (signs11 ++ signs10)[i]? = some y → y.1.isPrefixOf (text.drop j) = false) ∧ Sat w0 wr (blk RB 94 [.int .i64 0, .int .i64 0, .int .i64 0, .int .i64 0] :: Hs)) (fun i _ => 21 - (intOf i).toNat)
              case atStart => exact ⟨0, rfl, by omega, hid (fun i y h => by omega), hS⟩
              case round =>
                clear hS
                obtain ⟨q, rfl, hq, HN, hS⟩ := hrel
                by_cases hlq : q < 21
                · obtain ⟨x, hx⟩ : ∃ x, (signs11 ++ signs10)[q]? = some x := ⟨_, List.getElem?_eq_getElem hlq⟩
                  obtain ⟨V0, V1, V2⟩ := sgR_at _ q x hx
                  have hxl := signs_len x (List.mem_of_getElem? hx)
                  have hqi : (q : Int) < 21 := by omega
                  have hn1 : (0 : Int) ≤ (x.1.length : Int) := by omega
                  have hn2 : (x.1.length : Int) ≤ 3 := by omega
                  have hn3 : (j : Int) ≤ (j : Int) + (x.1.length : Int) := by omega
                  have hn4 : (0 : Int) ≤ (j : Int) + (x.1.length : Int) := by omega
                  have hjl : (j : Int) ≤ 1048576 := by omega
                  go_wp2_with (first|((with_reducible apply KU hS);exact ya;rfl;(((repeat (with_reducible apply ye)));(try assumption));assumption;decide +kernel;(try simp only [Act.put,q1,q2,q3]))|((with_reducible apply yA);exact ya;exact yb rfl;exact yb rfl;exact E174;(omega);(omega);(assumption);(simp only [Int.toNat_natCast, Nat.mul_one, Nat.zero_add, Yc, yL, yJ, yP, Yb, yQ, yK];rfl);(try simp only [Act.put,q1,q2,q3]))|((with_reducible apply yE);exact ya;exact yb rfl;(assumption);exact fo175_0;(try simp only [Act.put,q1,q2,q3]))|((with_reducible apply Yl);exact ya;exact yb rfl;(exact Sat.rdCell2 (by assumption) hS (by ((repeat (with_reducible apply ye)));try assumption) (by (assumption)));decide +kernel;(try simp only [Act.put,q1,q2,q3])))
                  have hnp : x.1.isPrefixOf (text.drop j) = false → Hid (∀ i y, i < q + 1 → (signs11 ++ signs10)[i]? = some y → y.1.isPrefixOf (text.drop j) = false) := fun hp => hid fun i y h h2 => by
                    by_cases hij : i < q
                    · exact HN.out i y hij h2
                    · obtain rfl : i = q := by omega
                      rw [hx] at h2
                      cases h2
                      exact hp
                  by_cases hfit : j + x.1.length ≤ text.length
                  · have hfi : (j : Int) + (x.1.length : Int) ≤ (text.length : Int) := by omega
                    have hfd : decide ((j : Int) + (x.1.length : Int) ≤ (text.length : Int)) = true := by simp; omega
                    have hpx := pfx text j x.1 hfit
                    cases hp : x.1.isPrefixOf (text.drop j) with
                    | true =>
                      rw [hp] at hpx
                      have hsg := signAt _ q x hx HN.out hp
                      have ht4 := HT3.out
                      rw [hsg] at ht4
                      have HT4 := hid ht4
                      clear ht4 hsg HT3 hx HN hnp hp hfit
                      go_wp2_with (first|((first|((with_reducible apply yc (i := 0));(simp only [q4,q6,q5];with_reducible rfl);kernel_rfl;kernel_rfl;decide +kernel;rfl;exact hC;exact (fun _ _ _ h => h);exact hR;with_reducible exact ya)|((with_reducible apply yc (i := 1));(simp only [q4,q6,q5];with_reducible rfl);kernel_rfl;kernel_rfl;decide +kernel;rfl;exact hC;exact (fun _ _ _ h => h);exact hR;with_reducible exact ya)|((with_reducible apply yc (i := 3));(simp only [q4,q6,q5];with_reducible rfl);kernel_rfl;kernel_rfl;decide +kernel;rfl;exact hC;exact (fun _ _ _ h => h);exact hR;with_reducible exact ya)|((with_reducible apply yc (i := 4));(simp only [q4,q6,q5];with_reducible rfl);kernel_rfl;kernel_rfl;decide +kernel;rfl;exact hC;exact (fun _ _ _ h => h);exact hR;with_reducible exact ya)|((with_reducible apply yc (i := 5));(simp only [q4,q6,q5];with_reducible rfl);kernel_rfl;kernel_rfl;decide +kernel;rfl;exact hC;exact (fun _ _ _ h => h);exact hR;with_reducible exact ya)|((with_reducible apply yc (i := 6));(simp only [q4,q6,q5];with_reducible rfl);kernel_rfl;kernel_rfl;decide +kernel;rfl;exact hC;exact (fun _ _ _ h => h);exact hR;with_reducible exact ya)|((with_reducible apply yc (i := 7));(simp only [q4,q6,q5];with_reducible rfl);kernel_rfl;kernel_rfl;decide +kernel;rfl;exact hC;exact (fun _ _ _ h => h);exact hR;exact yg rfl rfl)|((with_reducible apply yc (i := 8));(simp only [q4,q6,q5];with_reducible rfl);kernel_rfl;kernel_rfl;decide +kernel;rfl;exact hC;exact (fun _ _ _ h => h);exact hR;exact yg rfl rfl)|((with_reducible apply yc (i := 9));(simp only [q4,q6,q5];with_reducible rfl);kernel_rfl;kernel_rfl;decide +kernel;rfl;exact hC;exact (fun _ _ _ h => h);exact hR;exact yg rfl rfl)|((with_reducible apply yc (i := 10));(simp only [q4,q6,q5];with_reducible rfl);kernel_rfl;kernel_rfl;decide +kernel;rfl;exact hC;exact (fun _ _ _ h => h);exact hR;exact yg rfl rfl)|((with_reducible apply yc (i := 12));(simp only [q4,q6,q5];with_reducible rfl);kernel_rfl;kernel_rfl;decide +kernel;rfl;exact hC;exact (fun _ _ _ h => h);exact hR;exact yg rfl rfl)|((with_reducible apply yc (i := 14));(simp only [q4,q6,q5];with_reducible rfl);kernel_rfl;kernel_rfl;decide +kernel;rfl;exact hC;exact (fun _ _ _ h => h);exact hR;exact yg rfl rfl)|((with_reducible apply yc (i := 18));(simp only [q4,q6,q5];with_reducible rfl);kernel_rfl;kernel_rfl;decide +kernel;rfl;exact hC;exact (fun _ _ _ h => h);exact hR;exact yg rfl rfl)|((with_reducible apply yc (i := 19));(simp only [q4,q6,q5];with_reducible rfl);kernel_rfl;kernel_rfl;decide +kernel;rfl;exact hC;exact (fun _ _ _ h => h);exact hR;with_reducible exact ya));(intro w;first|(go_simp;done)|(go_simp;rw [yw (by omega) (by omega)])|(go_simp;with_reducible rfl)|(go_simp;rfl));(clear hR hC;intro hR hC);(try simp only [Act.put,q1,q2,q3]))|((first|((with_reducible apply yc (i := 2));(simp only [q4,q6,q5];with_reducible rfl);kernel_rfl;kernel_rfl;decide +kernel;rfl;exact hC;exact (fun _ _ _ h => h);exact hR;with_reducible exact ya)|((with_reducible apply yc (i := 11));(simp only [q4,q6,q5];with_reducible rfl);kernel_rfl;kernel_rfl;decide +kernel;rfl;exact hC;exact (fun _ _ _ h => h);exact hR;exact yg rfl rfl));(intro w;first|(exact YL rfl (by (exact yh)) (by (exact yh)) (by (omega)))|(go_simp;done)|(go_simp;rw [yw (by omega) (by omega)])|(go_simp;with_reducible rfl)|(go_simp;rfl));(clear hR hC;intro hR hC);(try simp only [Act.put,q1,q2,q3]))|(((with_reducible apply yc (i := 15));(simp only [q4,q6,q5];with_reducible rfl);kernel_rfl;kernel_rfl;decide +kernel;rfl;exact hC;exact (fun _ _ _ h => h);exact hR;exact yg rfl rfl);(intro w;first|(with_reducible exact yG E174 rfl (by (exact yb rfl)) (by (exact yb rfl)) (by (omega)) (by (omega)) (by (assumption)) (by (simp only [Int.toNat_natCast, Nat.mul_one, Nat.zero_add, Yc, yL, yJ, yP, Yb, yQ, yK];rfl)))|(go_simp;done)|(go_simp;rw [yw (by omega) (by omega)])|(go_simp;with_reducible rfl));(clear hR hC;intro hR hC);(try simp only [Act.put,q1,q2,q3]))|(((with_reducible apply yc (i := 16));(simp only [q4,q6,q5];with_reducible rfl);kernel_rfl;kernel_rfl;decide +kernel;rfl;exact hC;exact (fun _ _ _ h => h);exact hR;exact yg rfl rfl);(intro w;first|(exact yX rfl (by (exact yb rfl)) (by assumption) (by with_reducible exact fo175_0))|(go_simp;done)|(go_simp;rw [yw (by omega) (by omega)])|(go_simp;with_reducible rfl)|(go_simp;rfl));(clear hR hC;intro hR hC);(try simp only [Act.put,q1,q2,q3]))|((first|((with_reducible apply yj (i := 13));(simp only [q4,q6,q5];with_reducible rfl);kernel_rfl;kernel_rfl;decide +kernel;kernel_rfl;rfl;exact hC;exact (fun _ _ _ h => h);exact hR;kernel_rfl;exact yg rfl rfl)|((with_reducible apply yj (i := 17));(simp only [q4,q6,q5];with_reducible rfl);kernel_rfl;kernel_rfl;decide +kernel;kernel_rfl;rfl;exact hC;exact (fun _ _ _ h => h);exact hR;kernel_rfl;exact yg rfl rfl));(intro w hS;(apply ym rfl (by first|(exact yb rfl)|rfl));first|exact yd (by decide +kernel) (hS.cell (by (repeat (with_reducible first|exact yf|apply ye))) rfl)|exact yd (by decide +kernel) ((hS.ownCell (by (repeat (with_reducible apply ye))) (by (assumption))).1)|exact yd (by decide +kernel) (Sat.rdCell2 (by assumption) hS (by ((repeat (with_reducible apply ye)));try assumption) (by (assumption)))|exact yd (by decide +kernel) (hS.baseCell (by ((repeat (with_reducible apply ye)));try assumption) (by assumption))|exact yd (by decide +kernel) (fzC (by assumption) hS (by ((repeat (with_reducible apply ye)));try assumption))|exact yp hS (by assumption) (by ((repeat (with_reducible apply ye)));try assumption) (by assumption) (by rfl) (by with_reducible exact sz94) (by decide +kernel) (by decide)|exact hS.loadWhole (by (repeat (with_reducible apply ye))) (by kernel_rfl) (by kernel_rfl));(clear hR hC;intro hR hC);(try simp only [Act.put,q1,q2,q3]))|((with_reducible apply yq);decide +kernel;clear hR hC)|(refine yz 23 20 hS (by kernel_rfl) [] rfl ?_;clear hS;intro w hS hR hC))
                      go_wp2_with (first|((with_reducible apply Cont.intro);(focus (apply Or.inr;apply (Sat.sb hS);(repeat (with_reducible first|exact Sb.refl|apply Sb.skip));done));intro hR hC)|((first|((with_reducible apply yc (i := 1));(simp only [q4,q6,q5];with_reducible rfl);kernel_rfl;kernel_rfl;decide +kernel;rfl;exact hC;exact (fun _ _ _ h => h);exact hR;with_reducible exact ya)|((with_reducible apply yc (i := 6));(simp only [q4,q6,q5];with_reducible rfl);kernel_rfl;kernel_rfl;decide +kernel;rfl;exact hC;exact (fun _ _ _ h => h);exact hR;with_reducible exact ya)|((with_reducible apply yc (i := 10));(simp only [q4,q6,q5];with_reducible rfl);kernel_rfl;kernel_rfl;decide +kernel;rfl;exact hC;exact (fun _ _ _ h => h);exact hR;with_reducible exact ya)|((with_reducible apply yc (i := 11));(simp only [q4,q6,q5];with_reducible rfl);kernel_rfl;kernel_rfl;decide +kernel;rfl;exact hC;exact (fun _ _ _ h => h);exact hR;with_reducible exact ya)|((with_reducible apply yc (i := 12));(simp only [q4,q6,q5];with_reducible rfl);kernel_rfl;kernel_rfl;decide +kernel;rfl;exact hC;exact (fun _ _ _ h => h);exact hR;with_reducible exact ya)|((with_reducible apply yc (i := 14));(simp only [q4,q6,q5];with_reducible rfl);kernel_rfl;kernel_rfl;decide +kernel;rfl;exact hC;exact (fun _ _ _ h => h);exact hR;with_reducible exact ya));(intro w;first|(go_simp;done)|(go_simp;rw [yw (by omega) (by omega)])|(go_simp;with_reducible rfl)|(go_simp;rfl));(clear hR hC;intro hR hC);(try simp only [Act.put,q1,q2,q3]))|((first|((with_reducible apply yc (i := 2));(simp only [q4,q6,q5];with_reducible rfl);kernel_rfl;kernel_rfl;decide +kernel;rfl;exact hC;exact (fun _ _ _ h => h);exact hR;with_reducible exact ya)|((with_reducible apply yc (i := 7));(simp only [q4,q6,q5];with_reducible rfl);kernel_rfl;kernel_rfl;decide +kernel;rfl;exact hC;exact (fun _ _ _ h => h);exact hR;with_reducible exact ya));(intro w;first|(with_reducible exact yG E174 rfl (by (exact yb rfl)) (by (exact yb rfl)) (by (omega)) (by (omega)) (by (assumption)) (by (simp only [Int.toNat_natCast, Nat.mul_one, Nat.zero_add, Yc, yL, yJ, yP, Yb, yQ, yK];rfl)))|(go_simp;done)|(go_simp;rw [yw (by omega) (by omega)])|(go_simp;with_reducible rfl));(clear hR hC;intro hR hC);(try simp only [Act.put,q1,q2,q3]))|((first|((with_reducible apply yc (i := 3));(simp only [q4,q6,q5];with_reducible rfl);kernel_rfl;kernel_rfl;decide +kernel;rfl;exact hC;exact (fun _ _ _ h => h);exact hR;with_reducible exact ya)|((with_reducible apply yc (i := 8));(simp only [q4,q6,q5];with_reducible rfl);kernel_rfl;kernel_rfl;decide +kernel;rfl;exact hC;exact (fun _ _ _ h => h);exact hR;with_reducible exact ya));(intro w;first|(exact yX rfl (by (exact yb rfl)) (by assumption) (by with_reducible first|exact fo175_1|exact fo175_2))|(go_simp;done)|(go_simp;rw [yw (by omega) (by omega)])|(go_simp;with_reducible rfl)|(go_simp;rfl));(clear hR hC;intro hR hC);(try simp only [Act.put,q1,q2,q3]))|(((with_reducible apply yc (i := 13));(simp only [q4,q6,q5];with_reducible rfl);kernel_rfl;kernel_rfl;decide +kernel;rfl;exact hC;exact (fun _ _ _ h => h);exact hR;with_reducible exact ya);(intro w;first|(exact YL rfl (by (exact yh)) (by (exact yh)) (by (omega)))|(go_simp;done)|(go_simp;rw [yw (by omega) (by omega)])|(go_simp;with_reducible rfl)|(go_simp;rfl));(clear hR hC;intro hR hC);(try simp only [Act.put,q1,q2,q3]))|((first|((with_reducible apply yj (i := 0));(simp only [q4,q6,q5];with_reducible rfl);kernel_rfl;kernel_rfl;decide +kernel;kernel_rfl;rfl;exact hC;exact (fun _ _ _ h => h);exact hR;kernel_rfl;with_reducible exact ya)|((with_reducible apply yj (i := 4));(simp only [q4,q6,q5];with_reducible rfl);kernel_rfl;kernel_rfl;decide +kernel;kernel_rfl;rfl;exact hC;exact (fun _ _ _ h => h);exact hR;kernel_rfl;with_reducible exact ya)|((with_reducible apply yj (i := 5));(simp only [q4,q6,q5];with_reducible rfl);kernel_rfl;kernel_rfl;decide +kernel;kernel_rfl;rfl;exact hC;exact (fun _ _ _ h => h);exact hR;kernel_rfl;with_reducible exact ya)|((with_reducible apply yj (i := 9));(simp only [q4,q6,q5];with_reducible rfl);kernel_rfl;kernel_rfl;decide +kernel;kernel_rfl;rfl;exact hC;exact (fun _ _ _ h => h);exact hR;kernel_rfl;with_reducible exact ya));(intro w hS;(apply ym rfl (by first|(exact yb rfl)|rfl));first|exact yd (by decide +kernel) (hS.cell (by (repeat (with_reducible apply ye))) rfl)|exact yd (by decide +kernel) ((hS.ownCell (by (repeat (with_reducible apply ye))) (by (assumption))).1)|exact yd (by decide +kernel) (Sat.rdCell2 (by assumption) hS (by ((repeat (with_reducible apply ye)));try assumption) (by (assumption)))|exact yd (by decide +kernel) (hS.baseCell (by ((repeat (with_reducible apply ye)));try assumption) (by assumption))|exact yd (by decide +kernel) (fzC (by assumption) hS (by ((repeat (with_reducible apply ye)));try assumption))|exact yp hS (by assumption) (by ((repeat (with_reducible apply ye)));try assumption) (by assumption) (by rfl) (by with_reducible exact sz94) (by decide +kernel) (by decide)|exact hS.loadWhole (by (repeat (with_reducible apply ye))) (by kernel_rfl) (by kernel_rfl));(clear hR hC;intro hR hC);(try simp only [Act.put,q1,q2,q3]))|((with_reducible apply yn (i := 15));(simp only [q4,q6,q5];with_reducible rfl);decide +kernel;exact hC;clear hR hC)|((with_reducible apply yq);decide +kernel;clear hR hC)|(refine KV (blk RB 94 [.int .i64 0, .int .i64 0, .int .i64 0, .int .i64 0]) 24 16 hS (by (repeat (with_reducible first|exact Rem.hd|apply Rem.tl));done) (by kernel_rfl) [] rfl ?_;clear hS;intro w hS hR hC)|((with_reducible apply yk hS);exact ya;exact yb rfl;exact yb rfl;exact yf;rfl;(focus (simp;done));exact Upd.hd;rfl;exact sz94;rfl;clear hS;intro w hS;(try simp only [yo, q2, q3] at hS);(try simp only [Act.put,q1,q2,q3])))
                      refine bodyPost_ret (yR rfl rfl (hS.loadWhole (by (exact yf)) (by kernel_rfl) (by kernel_rfl))) rfl ?_
                      refine ⟨?_, hS.sb (by (repeat (with_reducible first | exact Sb.refl | apply Sb.skip)))⟩
                      rw [HT4.out]
                      rfl
                    | false =>
                      have HN2 := hnp hp
                      rw [hp] at hpx
                      clear hx HN hnp hp hfit
                      go_wp2_with (first|((first|((with_reducible apply yc (i := 0));(simp only [q4,q6,q5];with_reducible rfl);kernel_rfl;kernel_rfl;decide +kernel;rfl;exact hC;exact (fun _ _ _ h => h);exact hR;with_reducible exact ya)|((with_reducible apply yc (i := 1));(simp only [q4,q6,q5];with_reducible rfl);kernel_rfl;kernel_rfl;decide +kernel;rfl;exact hC;exact (fun _ _ _ h => h);exact hR;with_reducible exact ya)|((with_reducible apply yc (i := 3));(simp only [q4,q6,q5];with_reducible rfl);kernel_rfl;kernel_rfl;decide +kernel;rfl;exact hC;exact (fun _ _ _ h => h);exact hR;with_reducible exact ya)|((with_reducible apply yc (i := 4));(simp only [q4,q6,q5];with_reducible rfl);kernel_rfl;kernel_rfl;decide +kernel;rfl;exact hC;exact (fun _ _ _ h => h);exact hR;with_reducible exact ya)|((with_reducible apply yc (i := 5));(simp only [q4,q6,q5];with_reducible rfl);kernel_rfl;kernel_rfl;decide +kernel;rfl;exact hC;exact (fun _ _ _ h => h);exact hR;with_reducible exact ya)|((with_reducible apply yc (i := 6));(simp only [q4,q6,q5];with_reducible rfl);kernel_rfl;kernel_rfl;decide +kernel;rfl;exact hC;exact (fun _ _ _ h => h);exact hR;with_reducible exact ya)|((with_reducible apply yc (i := 7));(simp only [q4,q6,q5];with_reducible rfl);kernel_rfl;kernel_rfl;decide +kernel;rfl;exact hC;exact (fun _ _ _ h => h);exact hR;exact yg rfl rfl)|((with_reducible apply yc (i := 8));(simp only [q4,q6,q5];with_reducible rfl);kernel_rfl;kernel_rfl;decide +kernel;rfl;exact hC;exact (fun _ _ _ h => h);exact hR;exact yg rfl rfl)|((with_reducible apply yc (i := 9));(simp only [q4,q6,q5];with_reducible rfl);kernel_rfl;kernel_rfl;decide +kernel;rfl;exact hC;exact (fun _ _ _ h => h);exact hR;exact yg rfl rfl)|((with_reducible apply yc (i := 10));(simp only [q4,q6,q5];with_reducible rfl);kernel_rfl;kernel_rfl;decide +kernel;rfl;exact hC;exact (fun _ _ _ h => h);exact hR;exact yg rfl rfl)|((with_reducible apply yc (i := 12));(simp only [q4,q6,q5];with_reducible rfl);kernel_rfl;kernel_rfl;decide +kernel;rfl;exact hC;exact (fun _ _ _ h => h);exact hR;exact yg rfl rfl)|((with_reducible apply yc (i := 14));(simp only [q4,q6,q5];with_reducible rfl);kernel_rfl;kernel_rfl;decide +kernel;rfl;exact hC;exact (fun _ _ _ h => h);exact hR;exact yg rfl rfl)|((with_reducible apply yc (i := 18));(simp only [q4,q6,q5];with_reducible rfl);kernel_rfl;kernel_rfl;decide +kernel;rfl;exact hC;exact (fun _ _ _ h => h);exact hR;exact yg rfl rfl)|((with_reducible apply yc (i := 19));(simp only [q4,q6,q5];with_reducible rfl);kernel_rfl;kernel_rfl;decide +kernel;rfl;exact hC;exact (fun _ _ _ h => h);exact hR;with_reducible exact ya));(intro w;first|(go_simp;done)|(go_simp;rw [yw (by omega) (by omega)])|(go_simp;with_reducible rfl)|(go_simp;rfl));(clear hR hC;intro hR hC);(try simp only [Act.put,q1,q2,q3]))|((first|((with_reducible apply yc (i := 2));(simp only [q4,q6,q5];with_reducible rfl);kernel_rfl;kernel_rfl;decide +kernel;rfl;exact hC;exact (fun _ _ _ h => h);exact hR;with_reducible exact ya)|((with_reducible apply yc (i := 11));(simp only [q4,q6,q5];with_reducible rfl);kernel_rfl;kernel_rfl;decide +kernel;rfl;exact hC;exact (fun _ _ _ h => h);exact hR;exact yg rfl rfl));(intro w;first|(exact YL rfl (by (exact yh)) (by (exact yh)) (by (omega)))|(go_simp;done)|(go_simp;rw [yw (by omega) (by omega)])|(go_simp;with_reducible rfl)|(go_simp;rfl));(clear hR hC;intro hR hC);(try simp only [Act.put,q1,q2,q3]))|(((with_reducible apply yc (i := 15));(simp only [q4,q6,q5];with_reducible rfl);kernel_rfl;kernel_rfl;decide +kernel;rfl;exact hC;exact (fun _ _ _ h => h);exact hR;exact yg rfl rfl);(intro w;first|(with_reducible exact yG E174 rfl (by (exact yb rfl)) (by (exact yb rfl)) (by (omega)) (by (omega)) (by (assumption)) (by (simp only [Int.toNat_natCast, Nat.mul_one, Nat.zero_add, Yc, yL, yJ, yP, Yb, yQ, yK];rfl)))|(go_simp;done)|(go_simp;rw [yw (by omega) (by omega)])|(go_simp;with_reducible rfl));(clear hR hC;intro hR hC);(try simp only [Act.put,q1,q2,q3]))|(((with_reducible apply yc (i := 16));(simp only [q4,q6,q5];with_reducible rfl);kernel_rfl;kernel_rfl;decide +kernel;rfl;exact hC;exact (fun _ _ _ h => h);exact hR;exact yg rfl rfl);(intro w;first|(exact yX rfl (by (exact yb rfl)) (by assumption) (by with_reducible exact fo175_0))|(go_simp;done)|(go_simp;rw [yw (by omega) (by omega)])|(go_simp;with_reducible rfl)|(go_simp;rfl));(clear hR hC;intro hR hC);(try simp only [Act.put,q1,q2,q3]))|((first|((with_reducible apply yj (i := 13));(simp only [q4,q6,q5];with_reducible rfl);kernel_rfl;kernel_rfl;decide +kernel;kernel_rfl;rfl;exact hC;exact (fun _ _ _ h => h);exact hR;kernel_rfl;exact yg rfl rfl)|((with_reducible apply yj (i := 17));(simp only [q4,q6,q5];with_reducible rfl);kernel_rfl;kernel_rfl;decide +kernel;kernel_rfl;rfl;exact hC;exact (fun _ _ _ h => h);exact hR;kernel_rfl;exact yg rfl rfl));(intro w hS;(apply ym rfl (by first|(exact yb rfl)|rfl));first|exact yd (by decide +kernel) (hS.cell (by (repeat (with_reducible first|exact yf|apply ye))) rfl)|exact yd (by decide +kernel) ((hS.ownCell (by (repeat (with_reducible apply ye))) (by (assumption))).1)|exact yd (by decide +kernel) (Sat.rdCell2 (by assumption) hS (by ((repeat (with_reducible apply ye)));try assumption) (by (assumption)))|exact yd (by decide +kernel) (hS.baseCell (by ((repeat (with_reducible apply ye)));try assumption) (by assumption))|exact yd (by decide +kernel) (fzC (by assumption) hS (by ((repeat (with_reducible apply ye)));try assumption))|exact yp hS (by assumption) (by ((repeat (with_reducible apply ye)));try assumption) (by assumption) (by rfl) (by with_reducible exact sz94) (by decide +kernel) (by decide)|exact hS.loadWhole (by (repeat (with_reducible apply ye))) (by kernel_rfl) (by kernel_rfl));(clear hR hC;intro hR hC);(try simp only [Act.put,q1,q2,q3]))|((with_reducible apply yq);decide +kernel;clear hR hC)|(refine yz 23 20 hS (by kernel_rfl) [] rfl ?_;clear hS;intro w hS hR hC))
                      go_roundw
                      case rel => exact ⟨q + 1, by go_num, by omega, HN2, hS⟩
                      case measure => simp [intOf]; omega
                  · have hp : x.1.isPrefixOf (text.drop j) = false := by
                      cases h : x.1.isPrefixOf (text.drop j) with
                      | false => rfl
                      | true =>
                        have := (List.isPrefixOf_iff_prefix.1 h).length_le
                        rw [List.length_drop] at this
                        omega
                    have HN2 := hnp hp
                    have hfd : decide ((j : Int) + (x.1.length : Int) ≤ (text.length : Int)) = false := by simp; omega
                    clear hx HN hnp hp hfit
                    go_wp2_with (first|((first|((with_reducible apply yc (i := 0));(simp only [q4,q6,q5];with_reducible rfl);kernel_rfl;kernel_rfl;decide +kernel;rfl;exact hC;exact (fun _ _ _ h => h);exact hR;with_reducible exact ya)|((with_reducible apply yc (i := 1));(simp only [q4,q6,q5];with_reducible rfl);kernel_rfl;kernel_rfl;decide +kernel;rfl;exact hC;exact (fun _ _ _ h => h);exact hR;with_reducible exact ya)|((with_reducible apply yc (i := 3));(simp only [q4,q6,q5];with_reducible rfl);kernel_rfl;kernel_rfl;decide +kernel;rfl;exact hC;exact (fun _ _ _ h => h);exact hR;with_reducible exact ya)|((with_reducible apply yc (i := 4));(simp only [q4,q6,q5];with_reducible rfl);kernel_rfl;kernel_rfl;decide +kernel;rfl;exact hC;exact (fun _ _ _ h => h);exact hR;with_reducible exact ya)|((with_reducible apply yc (i := 5));(simp only [q4,q6,q5];with_reducible rfl);kernel_rfl;kernel_rfl;decide +kernel;rfl;exact hC;exact (fun _ _ _ h => h);exact hR;with_reducible exact ya)|((with_reducible apply yc (i := 6));(simp only [q4,q6,q5];with_reducible rfl);kernel_rfl;kernel_rfl;decide +kernel;rfl;exact hC;exact (fun _ _ _ h => h);exact hR;with_reducible exact ya)|((with_reducible apply yc (i := 19));(simp only [q4,q6,q5];with_reducible rfl);kernel_rfl;kernel_rfl;decide +kernel;rfl;exact hC;exact (fun _ _ _ h => h);exact hR;with_reducible exact ya));(intro w;first|(go_simp;done)|(go_simp;rw [yw (by omega) (by omega)])|(go_simp;with_reducible rfl)|(go_simp;rfl));(clear hR hC;intro hR hC);(try simp only [Act.put,q1,q2,q3]))|(((with_reducible apply yc (i := 2));(simp only [q4,q6,q5];with_reducible rfl);kernel_rfl;kernel_rfl;decide +kernel;rfl;exact hC;exact (fun _ _ _ h => h);exact hR;with_reducible exact ya);(intro w;first|(exact YL rfl (by (exact yh)) (by (exact yh)) (by (omega)))|(go_simp;done)|(go_simp;rw [yw (by omega) (by omega)])|(go_simp;with_reducible rfl)|(go_simp;rfl));(clear hR hC;intro hR hC);(try simp only [Act.put,q1,q2,q3]))|((first|((with_reducible apply yy (i := 7));(simp only [q4,q6,q5];with_reducible rfl);kernel_rfl;kernel_rfl;decide +kernel;rfl;exact hC;exact (fun _ _ _ h => h);exact hR;(exact yr rfl rfl))|((with_reducible apply yy (i := 8));(simp only [q4,q6,q5];with_reducible rfl);kernel_rfl;kernel_rfl;decide +kernel;rfl;exact hC;exact (fun _ _ _ h => h);exact hR;(exact yr rfl rfl))|((with_reducible apply yy (i := 9));(simp only [q4,q6,q5];with_reducible rfl);kernel_rfl;kernel_rfl;decide +kernel;rfl;exact hC;exact (fun _ _ _ h => h);exact hR;(exact yr rfl rfl))|((with_reducible apply yy (i := 10));(simp only [q4,q6,q5];with_reducible rfl);kernel_rfl;kernel_rfl;decide +kernel;rfl;exact hC;exact (fun _ _ _ h => h);exact hR;(exact yr rfl rfl))|((with_reducible apply yy (i := 11));(simp only [q4,q6,q5];with_reducible rfl);kernel_rfl;kernel_rfl;decide +kernel;rfl;exact hC;exact (fun _ _ _ h => h);exact hR;(exact yr rfl rfl))|((with_reducible apply yy (i := 12));(simp only [q4,q6,q5];with_reducible rfl);kernel_rfl;kernel_rfl;decide +kernel;rfl;exact hC;exact (fun _ _ _ h => h);exact hR;(exact yr rfl rfl))|((with_reducible apply yy (i := 13));(simp only [q4,q6,q5];with_reducible rfl);kernel_rfl;kernel_rfl;decide +kernel;rfl;exact hC;exact (fun _ _ _ h => h);exact hR;(exact yr rfl rfl))|((with_reducible apply yy (i := 14));(simp only [q4,q6,q5];with_reducible rfl);kernel_rfl;kernel_rfl;decide +kernel;rfl;exact hC;exact (fun _ _ _ h => h);exact hR;(exact yr rfl rfl))|((with_reducible apply yy (i := 15));(simp only [q4,q6,q5];with_reducible rfl);kernel_rfl;kernel_rfl;decide +kernel;rfl;exact hC;exact (fun _ _ _ h => h);exact hR;(exact yr rfl rfl))|((with_reducible apply yy (i := 16));(simp only [q4,q6,q5];with_reducible rfl);kernel_rfl;kernel_rfl;decide +kernel;rfl;exact hC;exact (fun _ _ _ h => h);exact hR;(exact yr rfl rfl))|((with_reducible apply yy (i := 17));(simp only [q4,q6,q5];with_reducible rfl);kernel_rfl;kernel_rfl;decide +kernel;rfl;exact hC;exact (fun _ _ _ h => h);exact hR;(exact yr rfl rfl))|((with_reducible apply yy (i := 18));(simp only [q4,q6,q5];with_reducible rfl);kernel_rfl;kernel_rfl;decide +kernel;rfl;exact hC;exact (fun _ _ _ h => h);exact hR;(exact yr rfl rfl)));(clear hR hC;intro hR hC);(try simp only [Act.put,q1,q2,q3]))|((with_reducible apply yq);decide +kernel;clear hR hC)|(refine yz 23 20 hS (by kernel_rfl) [] rfl ?_;clear hS;intro w hS hR hC))
                    go_roundw
                    case rel => exact ⟨q + 1, by go_num, by omega, HN2, hS⟩
                    case measure => simp [intOf]; omega
                · obtain rfl : q = 21 := by omega
                  have hsg := signNone _ HN.out
                  have ht4 := HT3.out
                  rw [hsg] at ht4
                  have HT4 := hid ht4
                  have hjl : (j : Int) ≤ 1048576 := by omega
                  clear ht4 hsg HT3 HN
                  go_wp2_with (first|((with_reducible apply KU hS);exact ya;rfl;(((repeat (with_reducible apply ye)));(try assumption));assumption;decide +kernel;(try simp only [Act.put,q1,q2,q3]))|((with_reducible apply yk hS);exact ya;exact yb rfl;exact yb rfl;exact yf;rfl;(focus (simp;done));exact Upd.hd;rfl;exact sz94;rfl;clear hS;intro w hS;(try simp only [yo, q2, q3] at hS);(try simp only [Act.put,q1,q2,q3])))
                  refine bodyPost_ret (yR rfl rfl (hS.loadWhole (by (exact yf)) (by kernel_rfl) (by kernel_rfl))) rfl ?_
                  refine ⟨?_, hS.sb (by (repeat (with_reducible first | exact Sb.refl | apply Sb.skip)))⟩
                  rw [HT4.out]
                  rfl
    · obtain rfl : j = text.length := by omega
      have hRl : R = text.length := by rw [HJ.out, Yh, List.drop_length]; rfl
      have ht2 := HT.out
      rw [if_pos hRl] at ht2
      have HT2 := hid ht2
      clear ht2 hRl HJ
      go_wp2_with ((with_reducible apply yk hS);exact ya;exact yb rfl;exact yb rfl;exact yf;rfl;(focus (simp;done));exact Upd.hd;rfl;exact sz94;rfl;clear hS;intro w hS;(try simp only [yo, q2, q3] at hS);(try simp only [Act.put,q1,q2,q3]))
      refine bodyPost_ret (yR rfl rfl (hS.loadWhole (by (exact yf)) (by kernel_rfl) (by kernel_rfl))) rfl ?_
      rw [HT2.out]
      exact ⟨rfl, hS.sb (by (repeat (with_reducible first | exact Sb.refl | apply Sb.skip)))⟩
end
end Go.Proofs.YthackanffcaejaaGreatDoor
