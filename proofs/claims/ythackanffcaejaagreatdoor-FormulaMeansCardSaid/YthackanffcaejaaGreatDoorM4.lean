/- A part of the proof: Cl3 Spot Lex Lx1 Lx2 Lx3. -/
import Derived.Test.YthackanffcaejaaGreatDoorM1
import Derived.Test.YthackanffcaejaaGreatDoorM2
import Derived.Test.YthackanffcaejaaGreatDoorM3
import Derived.Lib.LastIndexByte
section
set_option linter.unusedSimpArgs false
set_option linter.unusedVariables false
set_option maxRecDepth 20000
namespace Go.Proofs.YthackanffcaejaaGreatDoor
open Go Go.RowKit Go.SL Go.ClauseP
theorem digit_facts (c : UInt8) : (digP c = true → (48 : Int) ≤ (c.toNat : Int) ∧ (c.toNat : Int) ≤ 57) ∧ (digP c = false → (c.toNat : Int) < 48 ∨ 57 < (c.toNat : Int)) := by
  constructor
  · intro h; have := digP_le h; omega
  · intro h
    by_cases h2 : 48 ≤ c.toNat ∧ c.toNat ≤ 57
    · have : digP c = true := by simp only [digP, Bool.and_eq_true, decide_eq_true_eq, UInt8.le_iff_toNat_le]; exact h2
      rw [this] at h; cases h
    · omega
theorem digitC (c : UInt8) (w0 w : World) (Hs : List HP) (hS : Sat w0 w Hs) : Calls Tryz.prog 121 #[.int .u8 c.toNat] w fun e w' => e = .returned (.bool (digP c)) ∧ Sat w0 w' Hs := by
  obtain ⟨h1, h2⟩ := digit_facts c
  cases hd : digP c with
  | true =>
    obtain ⟨a, b⟩ := h1 hd
    clear h1 h2 hd
    generalize (c.toNat : Int) = n at *
    go_enter Tryz.func121, Tryz.ntmps121
    go_wp2
    go_ret
    exact ⟨rfl, hS⟩
  | false =>
    have h := h2 hd
    clear h1 h2 hd
    generalize (c.toNat : Int) = n at *
    by_cases h48 : n < 48
    · have e1 : decide ((48 : Int) ≤ n) = false := by simp; omega
      go_enter Tryz.func121, Tryz.ntmps121
      go_wp2
      go_ret
      exact ⟨rfl, hS⟩
    · have h57 : decide (n ≤ 57) = false := by simp; omega
      have h48' : 48 ≤ n := by omega
      clear h h48
      go_enter Tryz.func121, Tryz.ntmps121
      go_wp2
      go_ret
      exact ⟨rfl, hS⟩
theorem byteAt (L : List UInt8) (k : Nat) (c : UInt8) (h : L[k]? = some c) : ∃ hp : k < (⟨L.toArray⟩ : ByteArray).size, (⟨L.toArray⟩ : ByteArray)[k]'hp = c := by
  obtain ⟨h1, h2⟩ := List.getElem?_eq_some_iff.1 h
  exact ⟨by simpa [ByteArray.size] using h1, by simpa [ByteArray.getElem_eq_getElem_data] using h2⟩
theorem decimalC (most : Nat) (hm : most ≤ 2147483647) (s : List UInt8) (hs : s.length ≤ 140737488351232) (w0 w : World) (Hs : List HP) (hS : Sat w0 w Hs) :
    Calls Tryz.prog 100 #[.string ⟨s.toArray⟩, .int .i64 most] w fun e w' => e = .returned (.int .i64 (numM most s)) ∧ Sat w0 w' Hs := by
  cases h0 : s.head? with
  | none =>
    obtain rfl : s = [] := by cases s with | nil => rfl | cons a b => cases h0
    rw [numM_empty]
    clear h0
    go_enter Tryz.func100, Tryz.ntmps100
    go_wp2
    go_ret
    exact ⟨rfl, hS⟩
  | some c0 =>
    have hne : s.isEmpty = false := by cases s with | nil => cases h0 | cons a b => rfl
    have hnn : s ≠ [] := by intro e; rw [e] at hne; cases hne
    have hp : 0 < s.length := List.length_pos_iff.2 hnn
    by_cases h10 : 10 < s.length
    · rw [numM_long (by omega) h10]
      have hl : (10 : Int) < (s.length : Int) := by omega
      clear h0 hnn
      go_enter Tryz.func100, Tryz.ntmps100
      go_wp2
      go_ret
      exact ⟨rfl, hS⟩
    · obtain ⟨hp0, hcb⟩ := byteAt s 0 c0 (by rw [← List.head?_eq_getElem?]; exact h0)
      have e48 := u8_eq c0 48 48 rfl
      have hle : (s.length : Int) ≤ 10 := by omega
      by_cases hz : 1 < s.length ∧ s.head? = some 48
      · rw [numM_zero hz.1 hz.2]
        have hl1 : (1 : Int) < (s.length : Int) := by omega
        have hc0 : c0 = 48 := by rw [h0] at hz; simpa using hz.2
        rw [hc0] at e48
        rw [hc0] at hcb
        clear h0 h10 hz hc0 hnn
        go_enter Tryz.func100, Tryz.ntmps100
        go_wp2
        go_ret
        exact ⟨rfl, hS⟩
      · have DG := fun c => digitC c w0
        have hN := fun h => numM_val (most := most) hnn hz h
        have hF := numM_not (most := most) (s := s)
        obtain ⟨R, hR⟩ : ∃ R, R = numM most s := ⟨_, rfl⟩
        rw [← hR] at hN hF ⊢
        have HN := hid hN
        have HF := hid hF
        clear hN hF hR
        have hlen : s.length ≤ 10 := by omega
        have main : (decide ((1 : Int) < (s.length : Int)) = false ∨ ((1 : Int) < (s.length : Int) ∧ ((c0.toNat : Int) == 48) = false)) → Calls Tryz.prog 100 #[.string ⟨s.toArray⟩, .int .i64 most] w fun e w' => e = .returned (.int .i64 R) ∧ Sat w0 w' Hs := by
          clear e48 hz h0 h10 hnn
          intro hcase
          rcases hcase with hcase | ⟨hcase, hcase2⟩
          all_goals
            go_enter Tryz.func100, Tryz.ntmps100
            go_wp2_with ((with_reducible apply arm_bytesOf hS); exact wanted_none; exact ev_tmp rfl; exact E66; kernel_rfl; kernel_rfl; clear hS; intro AB AD CAP w RDB NNB hS; (try simp only [Act.put, q1, q2, q3]))
            go_loopw [5, 28] (fun n i wr => ∃ k v : Nat, i = .int .i64 k ∧ k ≤ s.length ∧ n = .int .i64 v ∧ (v : Int) < 10 ^ k ∧ Hid (v = valD 0 (s.take k) ∧ (s.take k).all digP = true) ∧ Sat w0 wr (AB :: Hs)) (fun _ i _ => s.length - (intOf i).toNat)
            case atStart => exact ⟨0, 0, rfl, Nat.zero_le _, rfl, by decide, hid ⟨rfl, rfl⟩, hS⟩
            case round =>
              clear hS
              obtain ⟨k, v, rfl, hk, rfl, hv, HV, hS⟩ := hrel
              by_cases hlt : k < s.length
              · obtain ⟨c, hc⟩ : ∃ c, s[k]? = some c := ⟨_, List.getElem?_eq_getElem hlt⟩
                have hbs := Bs_at hc
                have HC := hid hc
                have hv10 : (v : Int) < 10000000000 := by
                  have h1 : (10 : Int) ^ k ≤ 10 ^ 10 := by exact_mod_cast Nat.pow_le_pow_right (n := 10) (by decide) (by omega)
                  have h2 : (10 : Int) ^ 10 = 10000000000 := by decide
                  omega
                have HVP := hid hv
                clear hc hv
                have DC := DG c
                cases hd : digP c with
                | true =>
                  rw [hd] at DC
                  obtain ⟨d1, d2⟩ := (digit_facts c).1 hd
                  have HD := hid hd
                  clear hd
                  go_wp2_with (first | ((with_reducible apply arm_indexAddr); exact wanted_none; exact ev_tmp rfl; exact ev_tmp rfl; exact E66; (omega); (omega); (exact Sat.rdAd2 (by assumption) hS (by ((repeat (with_reducible exact mem_hd))); try assumption) (by (simp only [Is_length, Bs_length, List.length_take, List.length_drop]; omega))); (simp only [Int.toNat_natCast, Nat.mul_one, Nat.zero_add, tn_sub, tn_sub1, tn_sub2, tn_sub3, tn_add, tn_add1, tn_add2]; rfl); (try simp only [Act.put, q1, q2, q3])) | ((with_reducible apply arm_loadE); exact wanted_none; exact ev_tmp rfl; (exact Sat.rdCell2 (by assumption) hS (by ((repeat (with_reducible exact mem_hd))); try assumption) (by (assumption))); decide +kernel; (try simp only [Act.put, q1, q2, q3])) | (go_at_call 121; refine (DC _ _ hS).mono ?_; clear hS; rintro e w ⟨rfl, hS⟩))
                  go_roundw
                  case rel =>
                    refine ⟨k + 1, 10 * v + (c.toNat - 48), by go_num, by omega, ?_, ?_, hid ?_, hS⟩
                    · go_num
                    · have h1 := HVP.out
                      rw [Int.pow_succ]
                      generalize (10 : Int) ^ k = p at *
                      omega
                    · have ht : s.take (k + 1) = s.take k ++ [c] := by rw [List.take_add_one, HC.out]; rfl
                      rw [ht, valD_snoc, List.all_append, HV.out.2, ← HV.out.1]
                      simp [HD.out]
                  case measure => simp [intOf]; omega
                | false =>
                  rw [hd] at DC
                  have HD := hid hd
                  clear hd
                  go_wp2_with (first | ((with_reducible apply arm_indexAddr); exact wanted_none; exact ev_tmp rfl; exact ev_tmp rfl; exact E66; (omega); (omega); (exact Sat.rdAd2 (by assumption) hS (by ((repeat (with_reducible exact mem_hd))); try assumption) (by (simp only [Is_length, Bs_length, List.length_take, List.length_drop]; omega))); (simp only [Int.toNat_natCast, Nat.mul_one, Nat.zero_add, tn_sub, tn_sub1, tn_sub2, tn_sub3, tn_add, tn_add1, tn_add2]; rfl); (try simp only [Act.put, q1, q2, q3])) | ((with_reducible apply arm_loadE); exact wanted_none; exact ev_tmp rfl; (exact Sat.rdCell2 (by assumption) hS (by ((repeat (with_reducible exact mem_hd))); try assumption) (by (assumption))); decide +kernel; (try simp only [Act.put, q1, q2, q3])) | (go_at_call 121; refine (DC _ _ hS).mono ?_; clear hS; rintro e w ⟨rfl, hS⟩))
                  go_ret
                  have : R = -1 := HF.out (by
                    rw [List.all_eq_false]
                    exact ⟨c, List.mem_of_getElem? HC.out, by rw [HD.out]; simp⟩)
                  exact ⟨by rw [this]; rfl, hS.sb (by (repeat (with_reducible first | exact Sb.refl | apply Sb.skip)))⟩
              · have hke : k = s.length := by omega
                subst hke
                have HV2 := HV.out
                rw [List.take_length] at HV2
                have hR := HN.out HV2.2
                rw [← HV2.1] at hR
                by_cases hgt : most < v
                · rw [if_pos hgt] at hR
                  have HR := hid hR
                  have hgt2 : (most : Int) < (v : Int) := by omega
                  clear hR HV2
                  go_wp2
                  go_ret
                  exact ⟨by rw [HR.out]; rfl, hS.sb (by (repeat (with_reducible first | exact Sb.refl | apply Sb.skip)))⟩
                · rw [if_neg hgt] at hR
                  have HR := hid hR
                  have hgt2 : (v : Int) ≤ (most : Int) := by omega
                  clear hR HV2
                  go_wp2
                  go_ret
                  exact ⟨by rw [HR.out]; rfl, hS.sb (by (repeat (with_reducible first | exact Sb.refl | apply Sb.skip)))⟩
        refine main ?_
        by_cases h : 1 < s.length
        · refine .inr ⟨by omega, ?_⟩
          rw [e48]
          have : ¬ c0 = 48 := fun e => hz ⟨h, by rw [h0, e]⟩
          simp [this]
        · exact .inl (by simp; omega)
def litV (o : Option Int) : Int × Bool := match o with | none => (0, false) | some n => (n, true)
end Go.Proofs.YthackanffcaejaaGreatDoor
end
section
set_option linter.unusedSimpArgs false
set_option linter.unusedVariables false
set_option maxRecDepth 20000
namespace Go.Proofs.YthackanffcaejaaGreatDoor
open Go Go.RowKit Go.SL Go.ClauseP

def spotF (t : List UInt8) : Nat × Nat := t.foldl (fun p c => if c = 10 then (p.1 + 1, 1) else (p.1, p.2 + 1)) (1, 1)
def spotP (s : List UInt8) (k : Nat) : Nat × Nat := spotF (s.take k)
theorem spotF_snoc (t : List UInt8) (c : UInt8) : spotF (t ++ [c]) = if c = 10 then ((spotF t).1 + 1, 1) else ((spotF t).1, (spotF t).2 + 1) := by simp [spotF]
theorem lastIdx_pre (t : List UInt8) (c : UInt8) (z : Int) : ∀ k, k ≤ t.length → Lib.lastIdx ⟨(t ++ [c]).toArray⟩ z k = Lib.lastIdx ⟨t.toArray⟩ z k
  | 0, _ => rfl
  | k + 1, h => by
    have e : (⟨(t ++ [c]).toArray⟩ : ByteArray).data[k]! = (⟨t.toArray⟩ : ByteArray).data[k]! := by
      have h1 : k < t.length := by omega
      have h2 : k < (t ++ [c]).length := by simp; omega
      have e1 : (t ++ [c])[k]? = some t[k] := by rw [List.getElem?_append_left h1]; exact List.getElem?_eq_getElem h1
      simp [getElem!_pos, h1, h2, e1]
    unfold Lib.lastIdx
    rw [e, lastIdx_pre t c z k (by omega)]
theorem spotF_is : ∀ (n : Nat) (t : List UInt8), t.length = n → ((spotF t).1 = 1 + t.count 10 ∧ ((spotF t).2 : Int) = t.length - Lib.lastIdx ⟨t.toArray⟩ 10 t.length)
  | 0, t, h => by
    obtain rfl : t = [] := List.length_eq_zero_iff.1 h
    exact ⟨rfl, rfl⟩
  | n + 1, t, h => by
    have hne : t ≠ [] := by intro e; rw [e] at h; cases h
    obtain ⟨u, c, rfl⟩ : ∃ u c, t = u ++ [c] := ⟨t.dropLast, t.getLast hne, (List.dropLast_concat_getLast hne).symm⟩
    have hu : u.length = n := by simpa using h
    obtain ⟨i1, i2⟩ := spotF_is n u hu
    have hlast : (⟨(u ++ [c]).toArray⟩ : ByteArray).data[u.length]! = c := by simp
    have hl : (u ++ [c]).length = u.length + 1 := by simp
    rw [spotF_snoc, hl]
    unfold Lib.lastIdx
    rw [hlast, lastIdx_pre u c 10 u.length (Nat.le_refl _)]
    by_cases h10 : c = 10
    · subst h10
      refine ⟨by simp [i1]; omega, by simp; omega⟩
    · have hc : ¬ ((c.toNat : Int) = 10) := fun e => h10 (UInt8.toNat_inj.1 (by have : (10 : UInt8).toNat = 10 := rfl; omega))
      rw [if_neg h10, if_neg hc]
      refine ⟨by simp [i1, h10], ?_⟩
      simp only
      rw [Int.natCast_add, i2]
      omega
theorem spot_bd (s : List UInt8) (k : Nat) : (spotP s k).1 ≤ 1 + k ∧ (spotP s k).2 ≤ 1 + k := by
  have : ∀ t : List UInt8, (spotF t).1 ≤ 1 + t.length ∧ (spotF t).2 ≤ 1 + t.length := by
    intro t
    have : ∀ (t : List UInt8) (p : Nat × Nat), (t.foldl (fun p c => if c = 10 then (p.1 + 1, 1) else (p.1, p.2 + 1)) p).1 ≤ p.1 + t.length ∧ (t.foldl (fun (p : Nat × Nat) c => if c = 10 then (p.1 + 1, 1) else (p.1, p.2 + 1)) p).2 ≤ max p.2 1 + t.length := by
      intro t
      induction t with
      | nil => intro p; simp; omega
      | cons c t ih =>
        intro p
        simp only [List.foldl_cons, List.length_cons]
        split
        · have := ih (p.1 + 1, 1); simp only at this; omega
        · have := ih (p.1, p.2 + 1); simp only at this; omega
    have := this t (1, 1)
    simpa [spotF] using this
  have h := this (s.take k)
  have : (s.take k).length ≤ k := List.length_take_le _ _
  unfold spotP
  omega
theorem placeC (text : List UInt8) (k : Nat) (hk : k ≤ text.length) (hl : text.length ≤ 1048576) (w0 w : World) (Hs : List HP) (hS : Sat w0 w Hs) :
    Calls Tryz.prog 40 #[.string ⟨text.toArray⟩, .int .i64 k] w fun e w' => e = .returned (.agg #[.int .i64 ((spotP text k).1 : Int), .int .i64 ((spotP text k).2 : Int)]) ∧ Sat w0 w' Hs := by
  obtain ⟨p1, p2⟩ := spotF_is _ (text.take k) rfl
  have ht : (text.take k).length = k := by rw [List.length_take]; omega
  obtain ⟨b1, b2⟩ := spot_bd text k
  rw [ht] at p2
  have hex : (⟨text.toArray⟩ : ByteArray).extract 0 k = ⟨(text.take k).toArray⟩ := by
    apply ByteArray.ext
    simp [ByteArray.data_extract, List.extract_eq_take_drop]
  have CN := Tryz.strings_Count_one ⟨(text.take k).toArray⟩ 10
  have LI := Tryz.strings_LastIndexByte ⟨(text.take k).toArray⟩ 10 (by simp [ByteArray.size]; omega)
  simp only [List.toList_toArray] at CN
  unfold Lib.lastIndexByte at LI
  rw [show (⟨(text.take k).toArray⟩ : ByteArray).size = k by simp [ByteArray.size]; omega] at LI
  unfold Lib.countByte at CN
  unfold spotP at b1 b2 ⊢
  generalize (spotF (text.take k)).1 = a at *
  generalize (spotF (text.take k)).2 = b at *
  generalize hq : Lib.lastIdx ⟨(text.take k).toArray⟩ 10 k = q at *
  generalize hz : (text.take k).count 10 = z at *
  have E1 := hid (show (1 : Int) + (z : Int) = (a : Int) by omega)
  have E2 := hid (show (k : Int) - q = (b : Int) by omega)
  have q1 : -1 ≤ q := by
    rcases Lib.lastIdx_spec ⟨(text.take k).toArray⟩ 10 k with h | ⟨i, _, h, _⟩ <;> omega
  have q2 : q ≤ k := by omega
  have z1 : (z : Int) ≤ 1048576 := by omega
  rw [← hex] at CN LI
  clear p1 p2 hq hz hex ht
  have hkl : (k : Int) ≤ (text.length : Int) := by omega
  go_enter Tryz.func40, Tryz.ntmps40
  go_wp2_with (first | ((with_reducible apply arm_alloc hS); exact wanted_none; exact z29; clear hS; intro NB w hS; (try simp only [Act.put, q1, q2, q3])) | (go_at_call 84; refine (CN _).mono ?_; rintro e w' ⟨rfl, rfl⟩) | (go_at_call 85; refine (LI _).mono ?_; rintro e w' ⟨rfl, rfl⟩) | ((with_reducible apply arm_storeN hS); exact wanted_none; exact ev_tmp rfl; exact ev_tmp rfl; (repeat (with_reducible exact mem_hd)); rfl; (focus (simp; done)); (repeat (with_reducible exact Upd.hd)); rfl; exact sz29; rfl; clear hS; intro w hS; (try simp only [setFrom, q2, q3] at hS); (try simp only [Act.put, q1, q2, q3])))
  rw [E1.out, E2.out] at hS
  refine bodyPost_ret (results_cell1 rfl rfl (hS.loadWhole (by (repeat (with_reducible exact mem_hd))) (by kernel_rfl) (by kernel_rfl))) rfl ?_
  exact ⟨rfl, hS.sb (by (repeat (with_reducible first | exact Sb.refl | apply Sb.skip)))⟩
end Go.Proofs.YthackanffcaejaaGreatDoor
end
section
set_option linter.unusedSimpArgs false
set_option linter.unusedVariables false
namespace Go.LexP
open Go Go.ClauseP

inductive Tk
  | fin
  | bad (e : Int)
  | const (n : Int)
  | var (n : Int)
  | not
  | op (o : Int)
  | opn
  | cls
  | comma
  | colon
  | quant (o : Int)
  | ite
deriving DecidableEq
def letP (c : UInt8) : Bool := (97 ≤ c && c ≤ 122) || (65 ≤ c && c ≤ 90)
def blankP (c : UInt8) : Bool := c == 32 || c == 9 || c == 10 || c == 13
def skipS : Bool → List UInt8 → Nat
  | _, [] => 0
  | true, c :: cs => if c = 10 then 1 + skipS false cs else 1 + skipS true cs
  | false, c :: cs => if blankP c then 1 + skipS false cs else if c = 35 then 1 + skipS true cs else 0
theorem skipS_le : ∀ (l : List UInt8) (b : Bool), skipS b l ≤ l.length
  | [], b => by cases b <;> simp [skipS]
  | c :: cs, true => by
    have h1 := skipS_le cs false
    have h2 := skipS_le cs true
    simp only [skipS, List.length_cons]
    split <;> omega
  | c :: cs, false => by
    have h1 := skipS_le cs false
    have h2 := skipS_le cs true
    simp only [skipS, List.length_cons]
    split
    · omega
    · split <;> omega
def tokW (w : List UInt8) : Tk :=
  if w = [116, 114, 117, 101] then .const 1
  else if w = [102, 97, 108, 115, 101] then .const 0
  else if w = [101, 120, 105, 115, 116, 115] then .quant 4
  else if w = [102, 111, 114, 97, 108, 108] then .quant 5
  else if w = [105, 116, 101] then .ite
  else match w with
    | 120 :: t => if (match t with | c :: _ => letP c | [] => false) then .bad 131 else if numM 65535 t < 0 then .bad 133 else .var (numM 65535 t)
    | _ => .bad 131
def ldP (c : UInt8) : Bool := letP c || digP c
def signs11 : List (List UInt8 × Tk) := [([60, 45, 62], .op 10), ([45, 62], .op 9), ([33], .not), ([126], .not), ([38], .op 6), ([124], .op 7), ([94], .op 8), ([40], .opn), ([41], .cls), ([44], .comma), ([58], .colon)]
def signs10 : List (List UInt8 × Tk) := [([194, 172], .not), ([226, 136, 167], .op 6), ([226, 136, 168], .op 7), ([226, 138, 149], .op 8), ([226, 134, 146], .op 9), ([226, 134, 148], .op 10), ([226, 136, 131], .quant 4), ([226, 136, 128], .quant 5), ([226, 138, 164], .const 1), ([226, 138, 165], .const 0)]
def signT (l : List UInt8) : Option (List UInt8 × Tk) := (signs11 ++ signs10).find? fun s => s.1.isPrefixOf l
def pieceT (l : List UInt8) : Tk × Nat :=
  match l with
  | [] => (.fin, 0)
  | c :: _ => if letP c then (tokW (l.takeWhile ldP), (l.takeWhile ldP).length)
    else if digP c then ((if numM 1 (l.takeWhile digP) < 0 then .bad 133 else .const (numM 1 (l.takeWhile digP))), (l.takeWhile digP).length)
    else match signT l with
      | some s => (s.2, s.1.length)
      | none => (.bad 130, 1)
def skipP (text : List UInt8) (k : Nat) : Nat := k + skipS false (text.drop k)
structure TokR where
  tk : Tk
  at_ : Nat
  fin : Nat
def nextT (text : List UInt8) (k : Nat) : TokR :=
  if skipP text k = text.length then ⟨.fin, text.length, text.length⟩ else ⟨(pieceT (text.drop (skipP text k))).1, skipP text k, skipP text k + (pieceT (text.drop (skipP text k))).2⟩
def tokE : Tk → Int × Int × Int
  | .fin => (0, 0, 0)
  | .bad e => (0, 0, e)
  | .const n => (1, n, 0)
  | .var n => (2, n, 0)
  | .not => (3, 0, 0)
  | .op o => (o - 2, 0, 0)
  | .opn => (9, 0, 0)
  | .cls => (10, 0, 0)
  | .comma => (11, 0, 0)
  | .colon => (12, 0, 0)
  | .quant o => (o + 9, 0, 0)
  | .ite => (15, 0, 0)
end Go.LexP
end
section
set_option linter.unusedSimpArgs false
set_option linter.unusedVariables false
set_option maxRecDepth 20000
namespace Go.Proofs.YthackanffcaejaaGreatDoor
open Go Go.RowKit Go.SL Go.ClauseP Go.LexP

theorem KW : KeyTy Tryz.prog 220 9 80 .string := ⟨Tryz.underlying220, Tryz.underlying9, .inl rfl⟩
theorem KR : KeyTy Tryz.prog 208 21 80 (.int .i32) := ⟨Tryz.underlying208, Tryz.underlying21, .inr ⟨_, rfl⟩⟩
theorem zeroTok : ∀ w, (zeroValue 80).run Tryz.prog w = .ok (.agg #[.int .i64 0, .int .i64 0, .int .i64 0, .int .i64 0]) w := fun w => by kernel_rfl
def tk (k n : Int) : Value := .agg #[.int .i64 k, .int .i64 n, .int .i64 0, .int .i64 0]
def wordsE : List MapEntry := [⟨.string ⟨#[116, 114, 117, 101]⟩, .agg #[.int .i64 1, .int .i64 1, .int .i64 0, .int .i64 0], 0⟩, ⟨.string ⟨#[102, 97, 108, 115, 101]⟩, .agg #[.int .i64 1, .int .i64 0, .int .i64 0, .int .i64 0], 1⟩,
  ⟨.string ⟨#[101, 120, 105, 115, 116, 115]⟩, .agg #[.int .i64 13, .int .i64 0, .int .i64 0, .int .i64 0], 2⟩, ⟨.string ⟨#[102, 111, 114, 97, 108, 108]⟩, .agg #[.int .i64 14, .int .i64 0, .int .i64 0, .int .i64 0], 3⟩, ⟨.string ⟨#[105, 116, 101]⟩, .agg #[.int .i64 15, .int .i64 0, .int .i64 0, .int .i64 0], 4⟩]
theorem wordsC (w0 w : World) (Hs : List HP) (hS : Sat w0 w Hs) : Calls Tryz.prog 149 #[] w fun e w' => ∃ b, e = .returned (.map (some b)) ∧ Sat w0 w' (cm b wordsE 5 :: Hs) := by
  go_enter Tryz.func149, Tryz.ntmps149
  go_wp2_with (first | ((with_reducible apply arm_makeMapC hS); exact wanted_none; clear hS; intro NB w hS; (try simp only [Act.put, q1, q2, q3])) | ((with_reducible apply arm_insertC hS); exact Or.inl rfl; exact wanted_none; exact ev_tmp rfl; exact ev_const; exact ev_tmp rfl; exact KW; (repeat (with_reducible exact mem_hd)); rfl; (repeat (with_reducible exact Upd.hd)); clear hS; intro w hS; (try simp only [List.cons_append, List.nil_append, Nat.zero_add, Nat.reduceAdd] at hS); (try simp only [Act.put, q1, q2, q3])))
  go_ret
  exact ⟨_, rfl, hS⟩
def runesE : List MapEntry := [⟨.int .i32 172, .agg #[.int .i64 3, .int .i64 0, .int .i64 0, .int .i64 0], 0⟩, ⟨.int .i32 8743, .agg #[.int .i64 4, .int .i64 0, .int .i64 0, .int .i64 0], 1⟩, ⟨.int .i32 8744, .agg #[.int .i64 5, .int .i64 0, .int .i64 0, .int .i64 0], 2⟩,
  ⟨.int .i32 8853, .agg #[.int .i64 6, .int .i64 0, .int .i64 0, .int .i64 0], 3⟩, ⟨.int .i32 8594, .agg #[.int .i64 7, .int .i64 0, .int .i64 0, .int .i64 0], 4⟩, ⟨.int .i32 8596, .agg #[.int .i64 8, .int .i64 0, .int .i64 0, .int .i64 0], 5⟩,
  ⟨.int .i32 8707, .agg #[.int .i64 13, .int .i64 0, .int .i64 0, .int .i64 0], 6⟩, ⟨.int .i32 8704, .agg #[.int .i64 14, .int .i64 0, .int .i64 0, .int .i64 0], 7⟩, ⟨.int .i32 8868, .agg #[.int .i64 1, .int .i64 1, .int .i64 0, .int .i64 0], 8⟩, ⟨.int .i32 8869, .agg #[.int .i64 1, .int .i64 0, .int .i64 0, .int .i64 0], 9⟩]
theorem runesC (w0 w : World) (Hs : List HP) (hS : Sat w0 w Hs) : Calls Tryz.prog 137 #[] w fun e w' => ∃ b, e = .returned (.map (some b)) ∧ Sat w0 w' (cm b runesE 10 :: Hs) := by
  go_enter Tryz.func137, Tryz.ntmps137
  go_wp2_with (first | ((with_reducible apply arm_makeMapC hS); exact wanted_none; clear hS; intro NB w hS; (try simp only [Act.put, q1, q2, q3])) | ((with_reducible apply arm_insertC hS); exact Or.inl rfl; exact wanted_none; exact ev_tmp rfl; exact ev_const; exact ev_tmp rfl; exact KR; (repeat (with_reducible exact mem_hd)); rfl; (repeat (with_reducible exact Upd.hd)); clear hS; intro w hS; (try simp only [List.cons_append, List.nil_append, Nat.zero_add, Nat.reduceAdd] at hS); (try simp only [Act.put, q1, q2, q3])))
  go_ret
  exact ⟨_, rfl, hS⟩
theorem letter_facts (c : UInt8) : (letP c = true → ((97 : Int) ≤ c.toNat ∧ (c.toNat : Int) ≤ 122) ∨ ((65 : Int) ≤ c.toNat ∧ (c.toNat : Int) ≤ 90)) ∧ (letP c = false → ((c.toNat : Int) < 97 ∨ (122 : Int) < c.toNat) ∧ ((c.toNat : Int) < 65 ∨ (90 : Int) < c.toNat)) := by
  constructor
  · intro h
    simp only [letP, Bool.or_eq_true, Bool.and_eq_true, decide_eq_true_eq, UInt8.le_iff_toNat_le] at h
    have h1 : (97 : UInt8).toNat = 97 := rfl
    have h2 : (122 : UInt8).toNat = 122 := rfl
    have h3 : (65 : UInt8).toNat = 65 := rfl
    have h4 : (90 : UInt8).toNat = 90 := rfl
    omega
  · intro h
    simp only [letP, Bool.or_eq_false_iff, Bool.and_eq_false_iff, decide_eq_false_iff_not, UInt8.le_iff_toNat_le] at h
    have h1 : (97 : UInt8).toNat = 97 := rfl
    have h2 : (122 : UInt8).toNat = 122 := rfl
    have h3 : (65 : UInt8).toNat = 65 := rfl
    have h4 : (90 : UInt8).toNat = 90 := rfl
    omega
theorem letterW (f : Nat) (n : Int) (b : Bool) (h : b = true ↔ ((97 ≤ n ∧ n ≤ 122) ∨ (65 ≤ n ∧ n ≤ 90))) (w0 w : World) (Hs : List HP) (hS : Sat w0 w Hs) : Calls Tryz.prog 133 #[.int .u8 n] w fun e w' => e = .returned (.bool b) ∧ Sat w0 w' Hs := by
  by_cases h1 : 97 ≤ n
  · by_cases h2 : n ≤ 122
    · obtain rfl : b = true := h.2 (.inl ⟨h1, h2⟩)
      clear h
      go_enter Tryz.func133, Tryz.ntmps133
      go_wp2
      go_ret
      exact ⟨rfl, hS⟩
    · obtain rfl : b = false := by cases b with | false => rfl | true => have := h.1 rfl; omega
      have d2 : decide (n ≤ 122) = false := decide_eq_false h2
      have d3 : (65 : Int) ≤ n := by omega
      have d4 : decide (n ≤ 90) = false := decide_eq_false (by omega)
      clear h h2
      go_enter Tryz.func133, Tryz.ntmps133
      go_wp2
      go_ret
      exact ⟨rfl, hS⟩
  · have d1 : decide (97 ≤ n) = false := decide_eq_false h1
    by_cases h3 : 65 ≤ n
    · by_cases h4 : n ≤ 90
      · obtain rfl : b = true := h.2 (.inr ⟨h3, h4⟩)
        clear h h1
        go_enter Tryz.func133, Tryz.ntmps133
        go_wp2
        go_ret
        exact ⟨rfl, hS⟩
      · obtain rfl : b = false := by cases b with | false => rfl | true => have := h.1 rfl; omega
        have d4 : decide (n ≤ 90) = false := decide_eq_false h4
        clear h h1 h4
        go_enter Tryz.func133, Tryz.ntmps133
        go_wp2
        go_ret
        exact ⟨rfl, hS⟩
    · obtain rfl : b = false := by cases b with | false => rfl | true => have := h.1 rfl; omega
      have d3 : decide (65 ≤ n) = false := decide_eq_false h3
      clear h h1 h3
      go_enter Tryz.func133, Tryz.ntmps133
      go_wp2
      go_ret
      exact ⟨rfl, hS⟩
theorem letter_iff (c : UInt8) : letP c = true ↔ ((97 ≤ (c.toNat : Int) ∧ (c.toNat : Int) ≤ 122) ∨ (65 ≤ (c.toNat : Int) ∧ (c.toNat : Int) ≤ 90)) := by
  obtain ⟨h1, h2⟩ := letter_facts c
  cases h : letP c with
  | true => simp only [true_iff]; exact h1 h
  | false => have := h2 h; simp only [Bool.false_eq_true, false_iff]; omega
theorem letterC (c : UInt8) (w0 w : World) (Hs : List HP) (hS : Sat w0 w Hs) : Calls Tryz.prog 133 #[.int .u8 c.toNat] w fun e w' => e = .returned (.bool (letP c)) ∧ Sat w0 w' Hs := letterW 0 _ _ (letter_iff c) w0 w Hs hS
theorem str_beq (s l : List UInt8) : ((⟨s.toArray⟩ : ByteArray) == ⟨l.toArray⟩) = decide (s = l) := by
  have e : ((⟨s.toArray⟩ : ByteArray) == ⟨l.toArray⟩) = (s.toArray == l.toArray) := rfl
  rw [e]
  by_cases h : s = l
  · subst h; simp
  · rw [decide_eq_false h]
    apply beq_eq_false_iff_ne.2
    intro e
    exact h (by simpa using congrArg Array.toList e)
theorem find_words (s : List UInt8) : Instr.findNow .string (.string ⟨s.toArray⟩) wordsE 0 = some (if s = [116, 114, 117, 101] then some (0, .agg #[.int .i64 1, .int .i64 1, .int .i64 0, .int .i64 0])
    else if s = [102, 97, 108, 115, 101] then some (1, .agg #[.int .i64 1, .int .i64 0, .int .i64 0, .int .i64 0]) else if s = [101, 120, 105, 115, 116, 115] then some (2, .agg #[.int .i64 13, .int .i64 0, .int .i64 0, .int .i64 0])
    else if s = [102, 111, 114, 97, 108, 108] then some (3, .agg #[.int .i64 14, .int .i64 0, .int .i64 0, .int .i64 0]) else if s = [105, 116, 101] then some (4, .agg #[.int .i64 15, .int .i64 0, .int .i64 0, .int .i64 0]) else none) := by
  have e1 := str_beq s [116, 114, 117, 101]
  have e2 := str_beq s [102, 97, 108, 115, 101]
  have e3 := str_beq s [101, 120, 105, 115, 116, 115]
  have e4 := str_beq s [102, 111, 114, 97, 108, 108]
  have e5 := str_beq s [105, 116, 101]
  unfold wordsE
  simp only [Instr.findNow, Instr.sameNow, e1, e2, e3, e4, e5]
  by_cases h1 : s = [116, 114, 117, 101]
  · simp [h1]
  · by_cases h2 : s = [102, 97, 108, 115, 101]
    · simp [h2]
    · by_cases h3 : s = [101, 120, 105, 115, 116, 115]
      · simp [h3]
      · by_cases h4 : s = [102, 111, 114, 97, 108, 108]
        · simp [h4]
        · by_cases h5 : s = [105, 116, 101] <;> simp [h1, h2, h3, h4, h5]
end Go.Proofs.YthackanffcaejaaGreatDoor
end
section
set_option linter.unusedSimpArgs false
set_option linter.unusedVariables false
set_option maxRecDepth 20000
namespace Go.Proofs.YthackanffcaejaaGreatDoor
open Go Go.RowKit Go.SL Go.ClauseP Go.LexP

theorem u8_ne (c d : UInt8) (n : Int) (hn : n = (d.toNat : Int)) : ((c.toNat : Int) != n) = if c = d then false else true := by
  rw [bne, u8_eq c d n hn]
  by_cases h : c = d
  · rw [if_pos h, h]; simp
  · rw [if_neg h]; simp [h]

def tokV (t : Tk) (at_ : Int) : Value := .agg #[.int .i64 (tokE t).1, .int .i64 (tokE t).2.1, .int .i64 at_, .int .i64 (tokE t).2.2]
theorem wordC (s : List UInt8) (h0 : s ≠ []) (hs : s.length ≤ 140737488351232) (w0 w : World) (Hs : List HP) (hS : Sat w0 w Hs) :
    Calls Tryz.prog 135 #[.string ⟨s.toArray⟩] w fun e w' => e = .returned (tokV (tokW s) 0) ∧ Sat w0 w' Hs := by
  have WC := wordsC w0
  have FW := find_words s
  obtain ⟨t, ht⟩ : ∃ t, t = tokW s := ⟨_, rfl⟩
  rw [← ht]
  unfold tokW at ht
  by_cases h1 : s = [116, 114, 117, 101] ∨ s = [102, 97, 108, 115, 101] ∨ s = [101, 120, 105, 115, 116, 115] ∨ s = [102, 111, 114, 97, 108, 108] ∨ s = [105, 116, 101]
  · rcases h1 with h | h | h | h | h
    all_goals
      subst h
      simp at ht
      simp at FW
      subst ht
      have HFW := hid FW
      clear FW h0
      go_enter Tryz.func135, Tryz.ntmps135
      go_wp2_with (first | ((with_reducible apply arm_alloc hS); exact wanted_none; exact z80; clear hS; intro NB w hS; (try simp only [Act.put, q1, q2, q3])) | (go_at_call 149; refine (WC _ _ hS).mono ?_; clear hS; rintro e w ⟨mb, rfl, hS⟩) | ((with_reducible apply arm_lookupC hS); (case hw => (with_reducible exact wanted_none)); (case hm => (exact ev_tmp rfl)); (case hx => (exact ev_tmp rfl)); (case K0 => exact KW); (case hmem => (((repeat (with_reducible exact mem_hd))); (try assumption))); (case hf => exact HFW.out); (case hz => exact zeroTok); (case hv => (simp only [if_true, if_false, Bool.false_eq_true, Option.map_some, Option.map_none, Option.getD_some, Option.getD_none, Option.isSome_some, Option.isSome_none]; rfl)); (try simp only [Act.put, q1, q2, q3])) | ((with_reducible apply arm_loadN hS); exact wanted_none; exact ev_tmp rfl; (repeat (with_reducible exact mem_hd)); exact sz80; decide +kernel; rfl; rfl; (try simp only [Act.put, q1, q2, q3])) | ((with_reducible apply arm_storeN hS); exact wanted_none; exact ev_tmp rfl; exact ev_tmp rfl; (repeat (with_reducible first | exact mem_hd | apply mem_tl)); rfl; (focus (simp; done)); (repeat (with_reducible first | exact Upd.hd | apply Upd.tl)); rfl; exact sz80; rfl; clear hS; intro w hS; (try simp only [setFrom, q2, q3] at hS); (try simp only [Act.put, q1, q2, q3])))
      refine bodyPost_ret (results_cell1 rfl rfl (hS.loadWhole (by (repeat (with_reducible first | exact mem_hd | apply mem_tl))) (by kernel_rfl) (by kernel_rfl))) rfl ?_
      exact ⟨rfl, hS.sb (by (repeat (with_reducible first | exact Sb.refl | apply Sb.skip)))⟩
  · have hn1 : ¬ s = [116, 114, 117, 101] := fun e => h1 (.inl e)
    have hn2 : ¬ s = [102, 97, 108, 115, 101] := fun e => h1 (.inr (.inl e))
    have hn3 : ¬ s = [101, 120, 105, 115, 116, 115] := fun e => h1 (.inr (.inr (.inl e)))
    have hn4 : ¬ s = [102, 111, 114, 97, 108, 108] := fun e => h1 (.inr (.inr (.inr (.inl e))))
    have hn5 : ¬ s = [105, 116, 101] := fun e => h1 (.inr (.inr (.inr (.inr e))))
    rw [if_neg hn1, if_neg hn2, if_neg hn3, if_neg hn4, if_neg hn5] at ht FW
    clear hn1 hn2 hn3 hn4 hn5 h1
    have HFW := hid FW
    clear FW
    obtain ⟨c, cs, rfl⟩ : ∃ c cs, s = c :: cs := by cases s with | nil => exact absurd rfl h0 | cons a b => exact ⟨a, b, rfl⟩
    obtain ⟨hp0, hc0⟩ := byteAt (c :: cs) 0 c rfl
    have e120 := u8_ne c 120 120 rfl
    by_cases hx : c = 120
    · subst hx
      rw [if_pos rfl] at e120
      simp only at ht
      have hl1 : 1 ≤ (120 :: cs : List UInt8).length := by simp
      have hex : (⟨(120 :: cs).toArray⟩ : ByteArray).extract 1 (120 :: cs).length = ⟨cs.toArray⟩ := by
        apply ByteArray.ext
        simp only [ByteArray.data_extract, List.extract_toArray, List.extract_eq_take_drop]
        simp
      have DC := decimalC 65535 (by omega) cs (by simp at hs; omega) w0
      rw [← hex] at DC
      have hN := numM_ge 65535 cs
      have hlc : ((120 :: cs : List UInt8).length : Int) = (cs.length : Int) + 1 := by simp
      have hb : ∀ d ds, cs = d :: ds → ∃ hp : 1 < (⟨(120 :: cs).toArray⟩ : ByteArray).size, (⟨(120 :: cs).toArray⟩ : ByteArray)[1]'hp = d := fun d ds e => byteAt (120 :: cs) 1 d (by rw [e]; rfl)
      generalize hL : (120 :: cs : List UInt8) = L at *
      clear hex h0 hL
      cases cs with
      | nil =>
        simp only [Bool.false_eq_true, if_false] at ht
        rw [numM_empty, if_pos (by omega)] at ht
        rw [numM_empty] at DC
        subst ht
        have hl2 : decide ((L.length : Int) > 1) = false := decide_eq_false (by simp at hlc; omega)
        clear hlc hb hN
        go_enter Tryz.func135, Tryz.ntmps135
        go_wp2_with (first | ((with_reducible apply arm_alloc hS); exact wanted_none; exact z80; clear hS; intro NB w hS; (try simp only [Act.put, q1, q2, q3])) | (go_at_call 149; refine (WC _ _ hS).mono ?_; clear hS; rintro e w ⟨mb, rfl, hS⟩) | ((with_reducible apply arm_lookupC hS); (case hw => (with_reducible exact wanted_none)); (case hm => (exact ev_tmp rfl)); (case hx => (exact ev_tmp rfl)); (case K0 => exact KW); (case hmem => (((repeat (with_reducible exact mem_hd))); (try assumption))); (case hf => exact HFW.out); (case hz => exact zeroTok); (case hv => (simp only [if_true, if_false, Bool.false_eq_true, Option.map_some, Option.map_none, Option.getD_some, Option.getD_none, Option.isSome_some, Option.isSome_none]; rfl)); (try simp only [Act.put, q1, q2, q3])) | ((with_reducible apply arm_storeN hS); exact wanted_none; exact ev_tmp rfl; exact ev_tmp rfl; (repeat (with_reducible first | exact mem_hd | apply mem_tl)); rfl; (focus (simp; done)); (repeat (with_reducible first | exact Upd.hd | apply Upd.tl)); rfl; exact sz80; rfl; clear hS; intro w hS; (try simp only [setFrom, q2, q3] at hS); (try simp only [Act.put, q1, q2, q3])) | (go_at_call 100; refine (DC _ _ hS).mono ?_; clear hS; rintro e w ⟨rfl, hS⟩))
        refine bodyPost_ret (results_cell1 rfl rfl (hS.loadWhole (by (repeat (with_reducible first | exact mem_hd | apply mem_tl))) (by kernel_rfl) (by kernel_rfl))) rfl ?_
        exact ⟨rfl, hS.sb (by (repeat (with_reducible first | exact Sb.refl | apply Sb.skip)))⟩
      | cons d ds =>
        obtain ⟨hp1, hd1⟩ := hb d ds rfl
        have hl2 : (L.length : Int) > 1 := by simp at hlc; omega
        have LC := letterC d w0
        simp only at ht
        clear hlc hb
        obtain ⟨n, hn⟩ : ∃ n, n = numM 65535 (d :: ds) := ⟨_, rfl⟩
        rw [← hn] at ht DC hN
        clear hn
        replace ht : t = if letP d = true then .bad 131 else if n < 0 then .bad 133 else .var n := ht
        cases hlt : letP d with
        | true =>
          rw [hlt] at ht LC
          simp only [if_true] at ht
          subst ht
          clear hlt
          go_enter Tryz.func135, Tryz.ntmps135
          go_wp2_with (first | ((with_reducible apply arm_alloc hS); exact wanted_none; exact z80; clear hS; intro NB w hS; (try simp only [Act.put, q1, q2, q3])) | (go_at_call 149; refine (WC _ _ hS).mono ?_; clear hS; rintro e w ⟨mb, rfl, hS⟩) | ((with_reducible apply arm_lookupC hS); (case hw => (with_reducible exact wanted_none)); (case hm => (exact ev_tmp rfl)); (case hx => (exact ev_tmp rfl)); (case K0 => exact KW); (case hmem => (((repeat (with_reducible exact mem_hd))); (try assumption))); (case hf => exact HFW.out); (case hz => exact zeroTok); (case hv => (simp only [if_true, if_false, Bool.false_eq_true, Option.map_some, Option.map_none, Option.getD_some, Option.getD_none, Option.isSome_some, Option.isSome_none]; rfl)); (try simp only [Act.put, q1, q2, q3])) | ((with_reducible apply arm_storeN hS); exact wanted_none; exact ev_tmp rfl; exact ev_tmp rfl; (repeat (with_reducible first | exact mem_hd | apply mem_tl)); rfl; (focus (simp; done)); (repeat (with_reducible first | exact Upd.hd | apply Upd.tl)); rfl; exact sz80; rfl; clear hS; intro w hS; (try simp only [setFrom, q2, q3] at hS); (try simp only [Act.put, q1, q2, q3])) | (go_at_call 133; refine (LC _ _ hS).mono ?_; clear hS; rintro e w ⟨rfl, hS⟩))
          refine bodyPost_ret (results_cell1 rfl rfl (hS.loadWhole (by (repeat (with_reducible first | exact mem_hd | apply mem_tl))) (by kernel_rfl) (by kernel_rfl))) rfl ?_
          exact ⟨rfl, hS.sb (by (repeat (with_reducible first | exact Sb.refl | apply Sb.skip)))⟩
        | false =>
          rw [hlt] at ht LC
          simp only [Bool.false_eq_true, if_false] at ht
          clear hlt
          by_cases h0n : n < 0
          · rw [if_pos h0n] at ht
            subst ht
            go_enter Tryz.func135, Tryz.ntmps135
            go_wp2_with (first | ((with_reducible apply arm_alloc hS); exact wanted_none; exact z80; clear hS; intro NB w hS; (try simp only [Act.put, q1, q2, q3])) | (go_at_call 149; refine (WC _ _ hS).mono ?_; clear hS; rintro e w ⟨mb, rfl, hS⟩) | ((with_reducible apply arm_lookupC hS); (case hw => (with_reducible exact wanted_none)); (case hm => (exact ev_tmp rfl)); (case hx => (exact ev_tmp rfl)); (case K0 => exact KW); (case hmem => (((repeat (with_reducible exact mem_hd))); (try assumption))); (case hf => exact HFW.out); (case hz => exact zeroTok); (case hv => (simp only [if_true, if_false, Bool.false_eq_true, Option.map_some, Option.map_none, Option.getD_some, Option.getD_none, Option.isSome_some, Option.isSome_none]; rfl)); (try simp only [Act.put, q1, q2, q3])) | ((with_reducible apply arm_storeN hS); exact wanted_none; exact ev_tmp rfl; exact ev_tmp rfl; (repeat (with_reducible first | exact mem_hd | apply mem_tl)); rfl; (focus (simp; done)); (repeat (with_reducible first | exact Upd.hd | apply Upd.tl)); rfl; exact sz80; rfl; clear hS; intro w hS; (try simp only [setFrom, q2, q3] at hS); (try simp only [Act.put, q1, q2, q3])) | (go_at_call 133; refine (LC _ _ hS).mono ?_; clear hS; rintro e w ⟨rfl, hS⟩) | (go_at_call 100; refine (DC _ _ hS).mono ?_; clear hS; rintro e w ⟨rfl, hS⟩))
            refine bodyPost_ret (results_cell1 rfl rfl (hS.loadWhole (by (repeat (with_reducible first | exact mem_hd | apply mem_tl))) (by kernel_rfl) (by kernel_rfl))) rfl ?_
            exact ⟨rfl, hS.sb (by (repeat (with_reducible first | exact Sb.refl | apply Sb.skip)))⟩
          · rw [if_neg h0n] at ht
            subst ht
            have hge : 0 ≤ n := by omega
            clear h0n
            go_enter Tryz.func135, Tryz.ntmps135
            go_wp2_with (first | ((with_reducible apply arm_alloc hS); exact wanted_none; exact z80; clear hS; intro NB w hS; (try simp only [Act.put, q1, q2, q3])) | (go_at_call 149; refine (WC _ _ hS).mono ?_; clear hS; rintro e w ⟨mb, rfl, hS⟩) | ((with_reducible apply arm_lookupC hS); (case hw => (with_reducible exact wanted_none)); (case hm => (exact ev_tmp rfl)); (case hx => (exact ev_tmp rfl)); (case K0 => exact KW); (case hmem => (((repeat (with_reducible exact mem_hd))); (try assumption))); (case hf => exact HFW.out); (case hz => exact zeroTok); (case hv => (simp only [if_true, if_false, Bool.false_eq_true, Option.map_some, Option.map_none, Option.getD_some, Option.getD_none, Option.isSome_some, Option.isSome_none]; rfl)); (try simp only [Act.put, q1, q2, q3])) | ((with_reducible apply arm_storeN hS); exact wanted_none; exact ev_tmp rfl; exact ev_tmp rfl; (repeat (with_reducible first | exact mem_hd | apply mem_tl)); rfl; (focus (simp; done)); (repeat (with_reducible first | exact Upd.hd | apply Upd.tl)); rfl; exact sz80; rfl; clear hS; intro w hS; (try simp only [setFrom, q2, q3] at hS); (try simp only [Act.put, q1, q2, q3])) | (go_at_call 133; refine (LC _ _ hS).mono ?_; clear hS; rintro e w ⟨rfl, hS⟩) | (go_at_call 100; refine (DC _ _ hS).mono ?_; clear hS; rintro e w ⟨rfl, hS⟩))
            refine bodyPost_ret (results_cell1 rfl rfl (hS.loadWhole (by (repeat (with_reducible first | exact mem_hd | apply mem_tl))) (by kernel_rfl) (by kernel_rfl))) rfl ?_
            exact ⟨rfl, hS.sb (by (repeat (with_reducible first | exact Sb.refl | apply Sb.skip)))⟩
    · rw [if_neg hx] at e120
      have ht2 : t = .bad 131 := by
        rw [ht]
        split
        · rename_i h; exact absurd (List.cons.inj h).1 hx
        · rfl
      subst ht2
      clear ht hx
      generalize (c :: cs : List UInt8) = L at *
      clear h0
      go_enter Tryz.func135, Tryz.ntmps135
      go_wp2_with (first | ((with_reducible apply arm_alloc hS); exact wanted_none; exact z80; clear hS; intro NB w hS; (try simp only [Act.put, q1, q2, q3])) | (go_at_call 149; refine (WC _ _ hS).mono ?_; clear hS; rintro e w ⟨mb, rfl, hS⟩) | ((with_reducible apply arm_lookupC hS); (case hw => (with_reducible exact wanted_none)); (case hm => (exact ev_tmp rfl)); (case hx => (exact ev_tmp rfl)); (case K0 => exact KW); (case hmem => (((repeat (with_reducible exact mem_hd))); (try assumption))); (case hf => exact HFW.out); (case hz => exact zeroTok); (case hv => (simp only [if_true, if_false, Bool.false_eq_true, Option.map_some, Option.map_none, Option.getD_some, Option.getD_none, Option.isSome_some, Option.isSome_none]; rfl)); (try simp only [Act.put, q1, q2, q3])) | ((with_reducible apply arm_storeN hS); exact wanted_none; exact ev_tmp rfl; exact ev_tmp rfl; (repeat (with_reducible first | exact mem_hd | apply mem_tl)); rfl; (focus (simp; done)); (repeat (with_reducible first | exact Upd.hd | apply Upd.tl)); rfl; exact sz80; rfl; clear hS; intro w hS; (try simp only [setFrom, q2, q3] at hS); (try simp only [Act.put, q1, q2, q3])))
      refine bodyPost_ret (results_cell1 rfl rfl (hS.loadWhole (by (repeat (with_reducible first | exact mem_hd | apply mem_tl))) (by kernel_rfl) (by kernel_rfl))) rfl ?_
      exact ⟨rfl, hS.sb (by (repeat (with_reducible first | exact Sb.refl | apply Sb.skip)))⟩
end Go.Proofs.YthackanffcaejaaGreatDoor
end
section
set_option linter.unusedSimpArgs false
set_option linter.unusedVariables false
set_option maxRecDepth 20000
namespace Go.Proofs.YthackanffcaejaaGreatDoor
open Go Go.RowKit Go.SL Go.ClauseP Go.LexP

theorem ldC (c : UInt8) (w0 w : World) (Hs : List HP) (hS : Sat w0 w Hs) : Calls Tryz.prog 134 #[.int .u8 c.toNat] w fun e w' => e = .returned (.bool (ldP c)) ∧ Sat w0 w' Hs := by
  have LC := letterC c w0
  have DC := digitC c w0
  have hx : ldP c = (letP c || digP c) := rfl
  rw [hx]
  clear hx
  cases h1 : letP c <;> rw [h1] at LC <;> clear h1 <;> cases h2 : digP c <;> rw [h2] at DC <;> clear h2
  all_goals
    generalize (c.toNat : Int) = n at *
    go_enter Tryz.func134, Tryz.ntmps134
    go_wp2_with (first | (go_at_call 133; refine (LC _ _ hS).mono ?_; clear hS; rintro e w ⟨rfl, hS⟩) | (go_at_call 121; refine (DC _ _ hS).mono ?_; clear hS; rintro e w ⟨rfl, hS⟩))
    go_ret
    exact ⟨rfl, hS⟩
theorem runLd (text : List UInt8) (hl : text.length ≤ 4611686018427387904) (k : Nat) (hk : k ≤ text.length) (w0 w : World) (Hs : List HP) (hS : Sat w0 w Hs) :
    Calls Tryz.prog 98 #[.string ⟨text.toArray⟩, .int .i64 k, .func (.func 134) #[] #[]] w fun e w' => e = .returned (.int .i64 (runP ldP text k)) ∧ Sat w0 w' Hs := by
  obtain ⟨R, hR⟩ : ∃ R : Nat, R = runP ldP text k := ⟨_, rfl⟩
  rw [← hR]
  have HR := hid hR
  clear hR
  go_enter Tryz.func98, Tryz.ntmps98
  go_wp2
  go_loopw [1] (fun i wr => ∃ j : Nat, i = .int .i64 j ∧ j ≤ text.length ∧ Hid (R = runP ldP text j) ∧ Sat w0 wr Hs) (fun i _ => text.length - (intOf i).toNat)
  case atStart => exact ⟨k, rfl, hk, HR, hS⟩
  case round =>
    clear hS
    obtain ⟨j, rfl, hj, HJ, hS⟩ := hrel
    by_cases hlt : j < text.length
    · obtain ⟨c, hc⟩ : ∃ c, text[j]? = some c := ⟨_, List.getElem?_eq_getElem hlt⟩
      have WT := ldC c w0
      have hd : text.drop j = c :: text.drop (j + 1) := by
        rw [List.drop_eq_getElem_cons hlt]; simp [List.getElem?_eq_getElem hlt] at hc; rw [hc]
      have HD := hid hd
      clear hd
      have hcb : (⟨text.toArray⟩ : ByteArray)[j]'(by simpa [ByteArray.size] using hlt) = c := by
        have : text[j] = c := by simpa [List.getElem?_eq_getElem hlt] using hc
        simpa [ByteArray.getElem_eq_getElem_data] using this
      clear hc
      cases hp : ldP c with
      | true =>
        rw [hp] at WT
        have HP := hid hp
        clear hp
        go_wp2_with (go_at_call 134; refine (WT _ _ hS).mono ?_; clear hS; rintro e w ⟨rfl, hS⟩)
        go_roundw
        case rel => exact ⟨j + 1, by go_num, by omega, hid (by rw [HJ.out, runP, runP, HD.out, List.takeWhile_cons, HP.out]; simp; omega), hS⟩
        case measure => simp [intOf]; omega
      | false =>
        rw [hp] at WT
        have HP := hid (show R = j by rw [HJ.out, runP, HD.out, List.takeWhile_cons, hp]; simp)
        clear hp
        go_wp2_with (go_at_call 134; refine (WT _ _ hS).mono ?_; clear hS; rintro e w ⟨rfl, hS⟩)
        go_ret
        exact ⟨by rw [HP.out]; rfl, hS⟩
    · have hj2 : j = text.length := by omega
      subst hj2
      have HP := hid (show R = text.length by rw [HJ.out, runP, List.drop_length]; simp)
      go_wp2
      go_ret
      exact ⟨by rw [HP.out]; rfl, hS⟩
theorem runDig (text : List UInt8) (hl : text.length ≤ 4611686018427387904) (k : Nat) (hk : k ≤ text.length) (w0 w : World) (Hs : List HP) (hS : Sat w0 w Hs) :
    Calls Tryz.prog 98 #[.string ⟨text.toArray⟩, .int .i64 k, .func (.func 121) #[] #[]] w fun e w' => e = .returned (.int .i64 (runP digP text k)) ∧ Sat w0 w' Hs := by
  obtain ⟨R, hR⟩ : ∃ R : Nat, R = runP digP text k := ⟨_, rfl⟩
  rw [← hR]
  have HR := hid hR
  clear hR
  go_enter Tryz.func98, Tryz.ntmps98
  go_wp2
  go_loopw [1] (fun i wr => ∃ j : Nat, i = .int .i64 j ∧ j ≤ text.length ∧ Hid (R = runP digP text j) ∧ Sat w0 wr Hs) (fun i _ => text.length - (intOf i).toNat)
  case atStart => exact ⟨k, rfl, hk, HR, hS⟩
  case round =>
    clear hS
    obtain ⟨j, rfl, hj, HJ, hS⟩ := hrel
    by_cases hlt : j < text.length
    · obtain ⟨c, hc⟩ : ∃ c, text[j]? = some c := ⟨_, List.getElem?_eq_getElem hlt⟩
      have WT := digitC c w0
      have hd : text.drop j = c :: text.drop (j + 1) := by
        rw [List.drop_eq_getElem_cons hlt]; simp [List.getElem?_eq_getElem hlt] at hc; rw [hc]
      have HD := hid hd
      clear hd
      have hcb : (⟨text.toArray⟩ : ByteArray)[j]'(by simpa [ByteArray.size] using hlt) = c := by
        have : text[j] = c := by simpa [List.getElem?_eq_getElem hlt] using hc
        simpa [ByteArray.getElem_eq_getElem_data] using this
      clear hc
      cases hp : digP c with
      | true =>
        rw [hp] at WT
        have HP := hid hp
        clear hp
        go_wp2_with (go_at_call 121; refine (WT _ _ hS).mono ?_; clear hS; rintro e w ⟨rfl, hS⟩)
        go_roundw
        case rel => exact ⟨j + 1, by go_num, by omega, hid (by rw [HJ.out, runP, runP, HD.out, List.takeWhile_cons, HP.out]; simp; omega), hS⟩
        case measure => simp [intOf]; omega
      | false =>
        rw [hp] at WT
        have HP := hid (show R = j by rw [HJ.out, runP, HD.out, List.takeWhile_cons, hp]; simp)
        clear hp
        go_wp2_with (go_at_call 121; refine (WT _ _ hS).mono ?_; clear hS; rintro e w ⟨rfl, hS⟩)
        go_ret
        exact ⟨by rw [HP.out]; rfl, hS⟩
    · have hj2 : j = text.length := by omega
      subst hj2
      have HP := hid (show R = text.length by rw [HJ.out, runP, List.drop_length]; simp)
      go_wp2
      go_ret
      exact ⟨by rw [HP.out]; rfl, hS⟩

theorem skip_drop (text : List UInt8) (k : Nat) (b : Bool) : skipS b (text.drop k) ≤ text.length - k := by
  have := skipS_le (text.drop k) b
  rwa [List.length_drop] at this
theorem skip_rem : ∀ (l : List UInt8), (Lib.indexByte l 10 = -1 → skipS true l = l.length) ∧ (∀ j : Nat, Lib.indexByte l 10 = j → skipS true l = j + skipS false (l.drop j))
  | [] => ⟨fun _ => rfl, fun j h => by simp [Lib.indexByte] at h⟩
  | c :: cs => by
    obtain ⟨h1, h2⟩ := skip_rem cs
    have hge := Lib.indexByte_ge cs 10
    unfold Lib.indexByte
    by_cases hc : c = 10
    · subst hc
      simp only [beq_self_eq_true, if_true]
      refine ⟨fun h => by omega, fun j h => ?_⟩
      obtain rfl : j = 0 := by omega
      simp [skipS, blankP]
    · have hcb : (c == 10) = false := by simp [hc]
      simp only [hcb, Bool.false_eq_true, if_false]
      by_cases hm : Lib.indexByte cs 10 = -1
      · have : (Lib.indexByte cs 10 == -1) = true := by simp [hm]
        simp only [this, if_true]
        refine ⟨fun _ => ?_, fun j h => by omega⟩
        simp [skipS, hc, h1 hm]
        omega
      · have : (Lib.indexByte cs 10 == -1) = false := by simp [hm]
        simp only [this, Bool.false_eq_true, if_false]
        refine ⟨fun h => by omega, fun j h => ?_⟩
        obtain ⟨i, rfl⟩ : ∃ i, j = i + 1 := ⟨j - 1, by omega⟩
        have := h2 i (by omega)
        simp [skipS, hc, this]
        omega
theorem idx_hash (cs : List UInt8) : Lib.indexByte (35 :: cs) 10 = -1 ∨ 1 ≤ Lib.indexByte (35 :: cs) 10 := by
  have hge := Lib.indexByte_ge cs 10
  unfold Lib.indexByte
  simp only [show ((35 : UInt8) == 10) = false from rfl, Bool.false_eq_true, if_false]
  split
  · exact .inl rfl
  · rename_i h
    right
    have : ¬ Lib.indexByte cs 10 = -1 := by simpa using h
    omega
theorem idx_lt : ∀ (l : List UInt8) (j : Nat), Lib.indexByte l 10 = j → j < l.length
  | [], j, h => by simp [Lib.indexByte] at h
  | c :: cs, j, h => by
    have hge := Lib.indexByte_ge cs 10
    unfold Lib.indexByte at h
    by_cases hc : c = 10
    · subst hc
      simp only [beq_self_eq_true, if_true] at h
      simp only [List.length_cons]
      omega
    · have hcb : (c == 10) = false := by simp [hc]
      simp only [hcb, Bool.false_eq_true, if_false] at h
      by_cases hm : Lib.indexByte cs 10 = -1
      · have : (Lib.indexByte cs 10 == -1) = true := by simp [hm]
        simp only [this, if_true] at h
        omega
      · have : (Lib.indexByte cs 10 == -1) = false := by simp [hm]
        simp only [this, Bool.false_eq_true, if_false] at h
        obtain ⟨i, rfl⟩ : ∃ i, j = i + 1 := ⟨j - 1, by omega⟩
        have := idx_lt cs i (by omega)
        simp only [List.length_cons]
        omega
theorem skipP_le (text : List UInt8) (k : Nat) (h : k ≤ text.length) : k ≤ skipP text k ∧ skipP text k ≤ text.length := by
  have := skip_drop text k false
  unfold skipP
  omega
set_option maxHeartbeats 1000000 in
theorem skipC (text : List UInt8) (hl : text.length ≤ 1048576) (k : Nat) (hk : k ≤ text.length) (w0 w : World) (Hs : List HP) (hS : Sat w0 w Hs) :
    Calls Tryz.prog 112 #[.string ⟨text.toArray⟩, .int .i64 k] w fun e w' => e = .returned (.int .i64 (skipP text k)) ∧ Sat w0 w' Hs := by
  obtain ⟨R, hR⟩ : ∃ R : Nat, R = skipP text k := ⟨_, rfl⟩
  rw [← hR]
  have HR := hid hR
  clear hR
  go_enter Tryz.func112, Tryz.ntmps112
  go_wp2
  go_loopw [1] (fun i wr => ∃ j : Nat, i = .int .i64 j ∧ j ≤ text.length ∧ Hid (R = skipP text j) ∧ Sat w0 wr Hs) (fun i _ => text.length - (intOf i).toNat)
  case atStart => exact ⟨k, rfl, hk, HR, hS⟩
  case round =>
    clear hS HR
    obtain ⟨j, rfl, hj, HJ, hS⟩ := hrel
    by_cases hlt : j < text.length
    · obtain ⟨c, hc⟩ : ∃ c, text[j]? = some c := ⟨_, List.getElem?_eq_getElem hlt⟩
      obtain ⟨hpj, hcj⟩ := byteAt text j c hc
      have hd : text.drop j = c :: text.drop (j + 1) := by
        rw [List.drop_eq_getElem_cons hlt]; simp [List.getElem?_eq_getElem hlt] at hc; rw [hc]
      have HD := hid hd
      have e1 := u8_eq c 32 32 rfl
      have e2 := u8_eq c 9 9 rfl
      have e3 := u8_eq c 10 10 rfl
      have e4 := u8_eq c 13 13 rfl
      have e5 := u8_eq c 35 35 rfl
      clear hc
      cases hb : blankP c with
      | true =>
        have HJ2 := hid (show R = skipP text (j + 1) by rw [HJ.out, skipP, HD.out, skipS, if_pos hb, skipP]; omega)
        have hb2 := hb
        clear hb hd
        simp only [blankP, Bool.or_eq_true] at hb2
        cases h1 : (c == 32) <;> rw [h1] at e1 hb2 <;> clear h1
        · cases h2 : (c == 9) <;> rw [h2] at e2 hb2 <;> clear h2
          · cases h3 : (c == 10) <;> rw [h3] at e3 hb2 <;> clear h3
            · have h4 : (c == 13) = true := by simpa using hb2
              rw [h4] at e4
              clear hb2 h4
              go_wp2
              go_roundw
              case rel => exact ⟨j + 1, by go_num, by omega, HJ2, hS⟩
              case measure => simp [intOf]; omega
            · clear hb2
              go_wp2
              go_roundw
              case rel => exact ⟨j + 1, by go_num, by omega, HJ2, hS⟩
              case measure => simp [intOf]; omega
          · clear hb2
            go_wp2
            go_roundw
            case rel => exact ⟨j + 1, by go_num, by omega, HJ2, hS⟩
            case measure => simp [intOf]; omega
        · clear hb2
          go_wp2
          go_roundw
          case rel => exact ⟨j + 1, by go_num, by omega, HJ2, hS⟩
          case measure => simp [intOf]; omega
      | false =>
        have hb2 := hb
        simp only [blankP, Bool.or_eq_false_iff] at hb2
        obtain ⟨⟨⟨b1, b2⟩, b3⟩, b4⟩ := hb2
        rw [b1] at e1
        rw [b2] at e2
        rw [b3] at e3
        rw [b4] at e4
        have HB := hid hb
        clear b1 b2 b3 b4 hb
        by_cases h35 : c = 35
        · subst h35
          have hx := (skip_rem (text.drop j))
          have hi := idx_hash (text.drop (j + 1))
          rw [← hd] at hi
          have hil := idx_lt (text.drop j)
          have hSk : skipS false (text.drop j) = skipS true (text.drop j) := by rw [hd]; simp [skipS, blankP]
          have hex : (⟨text.toArray⟩ : ByteArray).extract j text.length = ⟨(text.drop j).toArray⟩ := by
            apply ByteArray.ext
            simp only [ByteArray.data_extract, List.extract_toArray, List.extract_eq_take_drop]
            rw [List.take_of_length_le (by rw [List.length_drop]; omega)]
          have IX := Tryz.strings_IndexByte ((⟨text.toArray⟩ : ByteArray).extract j text.length) 10
          have hdl : ((⟨text.toArray⟩ : ByteArray).extract j text.length).data.toList = text.drop j := by rw [hex]
          rw [hdl] at IX
          simp only [show ((10 : Int).toNat.toUInt8) = 10 from rfl] at IX
          rw [List.length_drop] at hx hil
          clear hdl hex hd
          rcases hi with hi | hi
          · rw [hi] at IX
            have HR2 := hid (show R = text.length by rw [HJ.out, skipP, hSk, hx.1 hi]; omega)
            clear hi hx hSk hil
            go_wp2_with (go_at_call 132; refine (IX _).mono ?_; rintro e w' ⟨rfl, rfl⟩)
            go_ret
            exact ⟨by rw [HR2.out]; rfl, hS⟩
          · obtain ⟨n, hn⟩ : ∃ n : Nat, Lib.indexByte (text.drop j) 10 = n := ⟨(Lib.indexByte (text.drop j) 10).toNat, by omega⟩
            rw [hn] at IX hi
            have hnl := hil n hn
            have HJ2 := hid (show R = skipP text (j + n) by rw [HJ.out, skipP, hSk, hx.2 n hn, skipP, List.drop_drop]; omega)
            clear hx hSk hil hn
            go_wp2_with (go_at_call 132; refine (IX _).mono ?_; rintro e w' ⟨rfl, rfl⟩)
            go_roundw
            case rel => exact ⟨j + n, by go_num, by omega, HJ2, hS⟩
            case measure => simp [intOf]; omega
        · rw [show (c == 35) = false by simp [h35]] at e5
          have HR2 := hid (show R = j by rw [HJ.out, skipP, HD.out, skipS, if_neg (by rw [HB.out]; simp), if_neg h35]; omega)
          clear h35 hd
          go_wp2
          go_ret
          exact ⟨by rw [HR2.out]; rfl, hS⟩
    · obtain rfl : j = text.length := by omega
      have HR2 := hid (show R = text.length by rw [HJ.out, skipP, List.drop_length]; rfl)
      go_wp2
      go_ret
      exact ⟨by rw [HR2.out]; rfl, hS⟩
end Go.Proofs.YthackanffcaejaaGreatDoor
end
