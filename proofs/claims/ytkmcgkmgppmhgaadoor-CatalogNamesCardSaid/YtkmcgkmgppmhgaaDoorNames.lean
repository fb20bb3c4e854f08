/- Package strconv's FormatUint at base 16, and the names of package catalog, as their code computes them. -/
import Derived.Test.YtkmcgkmgppmhgaaDoorTy
import Derived.Test.YtkmcgkmgppmhgaaDoorHex
import Derived.WalkKit
import Derived.WalkLawsBesides
import Derived.WalkSpells
import Derived.Laws.Bits64
set_option linter.unusedSimpArgs false
set_option linter.unusedVariables false
namespace Go.Proofs.YtkmcgkmgppmhgaaDoor
open Go.RowKit Go.SL Go.Proofs.Hex

theorem pow16 (w : World) : Calls Tryd.prog 19 #[.int .i64 16] w fun e w' => e = .returned (.bool true) ∧ w = w' := by
  go_enter Tryd.func19, Tryd.ntmps19
  go_wp2
  go_ret
  exact ⟨rfl, rfl⟩
theorem tz64_16 (w : World) (hc : w.cell? ⟨2, 15, none⟩ = some (.int .u8 4)) : Calls Tryd.prog 22 #[.int .u64 16] w fun e w' => e = .returned (.int .i64 4) ∧ w = w' := by
  have e1 : bits BinOp.and IntKind.u64 16 (IntKind.u64.wrap (-16)) = 16 := by decide
  go_enter Tryd.func22, Tryd.ntmps22
  go_wp2
  go_ret
  exact ⟨rfl, rfl⟩
theorem tz_16 (w : World) (hc : w.cell? ⟨2, 15, none⟩ = some (.int .u8 4)) : Calls Tryd.prog 20 #[.int .u64 16] w fun e w' => e = .returned (.int .i64 4) ∧ w = w' := by
  go_enter Tryd.func20, Tryd.ntmps20
  go_wp2_with (go_at_call 22; refine (tz64_16 _ hc).mono ?_; rintro e w' ⟨rfl, rfl⟩)
  go_ret
  exact ⟨rfl, rfl⟩

theorem and15 (m : Nat) (hm : m < 18446744073709551616) : bits BinOp.and IntKind.u64 (m : Int) 15 = ((m % 16 : Nat) : Int) := by
  have h := bits_mask .u64 64 (by decide) (by intro n h1 h2; simp [IntKind.wrap, IntKind.bits, IntKind.signed]; omega) 4 (by decide) (m : Int) (by omega) (by simp; omega)
  have e1 : ((2 : Int) ^ 4 - 1) = 15 := by decide
  have e2 : ((2 : Int) ^ 4) = 16 := by decide
  rw [e1, e2] at h
  rw [h]
  omega

/-- What the loop of formatBits holds: of n's digits those of m are still to be laid, S are laid. -/
def Laid (n m k : Nat) (cs : List Value) : Prop := ∃ S : List UInt8, k + S.length = 65 ∧ cs.length = 65 ∧ cs.drop k = Bs S ∧ hexs n = hexs m ++ S ∧ m ≤ n
theorem Laid.start (n : Nat) : Laid n n 65 (List.replicate 65 (.int .u8 0)) := ⟨[], rfl, by simp, by simp [Bs], by simp, Nat.le_refl _⟩
theorem Laid.room {n m k : Nat} {cs : List Value} (h : Laid n m k cs) (hn : n < 18446744073709551616) : 50 ≤ k ∧ k ≤ 65 := by
  obtain ⟨S, h1, _, _, h4, _⟩ := h
  have := hexs_len hn
  have h5 := hexs_pos m
  rw [h4, List.length_append] at this
  omega
theorem Laid.more {n m k : Nat} {cs : List Value} (h : Laid n m k cs) (hk : 1 ≤ k) (hm : 16 ≤ m) : Laid n (m / 16) (k - 1) (cs.set (k - 1) (B (hexd (m % 16)))) := by
  obtain ⟨S, h1, h2, h3, h4, h5⟩ := h
  refine ⟨hexd (m % 16) :: S, by simp; omega, by simpa using h2, ?_, by rw [h4, hexs_big hm]; simp, by omega⟩
  have hd : (cs.set (k - 1) (B (hexd (m % 16)))).drop (k - 1) = B (hexd (m % 16)) :: cs.drop k := by
    rw [List.drop_eq_getElem_cons (by simp; omega)]
    simp only [List.getElem_set_self]
    rw [show k - 1 + 1 = k by omega, List.drop_set_of_lt (by omega)]
  rw [hd, h3]
  rfl
theorem Laid.last {n m k : Nat} {cs : List Value} (h : Laid n m k cs) (hk : 1 ≤ k) (hm : m < 16) : (hexs n).length = 65 - (k - 1) ∧ (cs.set (k - 1) (B (hexd m))).drop (k - 1) = Bs (hexs n) := by
  obtain ⟨S, h1, h2, h3, h4, h5⟩ := h
  rw [hexs_small hm] at h4
  refine ⟨by rw [h4]; simp; omega, ?_⟩
  have hd : (cs.set (k - 1) (B (hexd m))).drop (k - 1) = B (hexd m) :: cs.drop k := by
    rw [List.drop_eq_getElem_cons (by simp; omega)]
    simp only [List.getElem_set_self]
    rw [show k - 1 + 1 = k by omega, List.drop_set_of_lt (by omega)]
  rw [hd, h3, h4]
  rfl

set_option maxHeartbeats 1000000 in
theorem formatBits16 (n : Nat) (h1 : n < 18446744073709551616) (w0 w : World) (Hs : List HP) (hS : Sat w0 w Hs) (hm : base w0 ∈ Hs) (hc0 : w0.cell? ⟨2, 15, none⟩ = some (.int .u8 4)) :
    Calls Tryd.prog 15 #[.slice none 0 0, .int .u64 n, .int .i64 16, .bool false, .bool false] w fun e w' => e = .returned (.tuple #[.slice none 0 0, .string ⟨(hexs n).toArray⟩]) ∧ Sat w0 w' Hs := by
  go_enter Tryd.func15, Tryd.ntmps15
  go_wp2_with (first | ((with_reducible apply (arm_alloc hS)); kernel_rfl; (first | with_reducible exact z1 | with_reducible exact z2 | with_reducible exact z3 | with_reducible exact z4 | with_reducible exact z5 | with_reducible exact z6 | with_reducible exact z7 | with_reducible exact z8 | with_reducible exact z9 | with_reducible exact z10 | with_reducible exact z11 | with_reducible exact z12 | with_reducible exact z13 | with_reducible exact z14 | with_reducible exact z15 | with_reducible exact z16 | with_reducible exact z17 | with_reducible exact z18 | with_reducible exact z19 | with_reducible exact z20 | with_reducible exact z21 | with_reducible exact z22 | with_reducible exact z23 | with_reducible exact z24 | with_reducible exact z25 | with_reducible exact z26 | with_reducible exact z27 | with_reducible exact z28 | with_reducible exact z29 | with_reducible exact z30 | with_reducible exact z31 | with_reducible exact z33 | with_reducible exact z34 | with_reducible exact z35 | with_reducible exact z36 | with_reducible exact z37 | with_reducible exact z38 | with_reducible exact z39 | with_reducible exact z40 | with_reducible exact z41 | with_reducible exact z42 | with_reducible exact z43 | with_reducible exact z44 | with_reducible exact z45 | with_reducible exact z46 | with_reducible exact z50 | with_reducible exact z51 | with_reducible exact z52 | with_reducible exact z53 | with_reducible exact z54 | with_reducible exact z55 | with_reducible exact z56 | with_reducible exact z57 | with_reducible exact z58 | with_reducible exact z59); clear hS; intro NB w hS; (try simp only [Act.put, List.setIfInBounds_toArray, List.set_cons_zero, List.set_cons_succ])) | (go_at_call 19; refine (pow16 _).mono ?_; rintro e w' ⟨rfl, rfl⟩) | (go_at_call 20; refine (tz_16 _ (hS.baseCell (by simp [hm]) hc0)).mono ?_; rintro e w' ⟨rfl, rfl⟩))
  go_loopw [1, 13] (fun u i wr => ∃ (m k : Nat) (cs : List Value), u = .int .u64 m ∧ i = .int .i64 k ∧ Laid n m k cs ∧ Sat w0 wr (blk NB 38 cs :: Hs)) (fun u _ _ => (intOf u).toNat)
  case atStart => exact ⟨n, 65, _, rfl, rfl, Laid.start n, hS⟩
  case round =>
    clear hS
    obtain ⟨m, k, cs, rfl, rfl, hL, hS⟩ := hrel
    obtain ⟨hk, hk2⟩ := hL.room h1
    have hlen : cs.length = 65 := hL.choose_spec.2.1
    have hmn : m ≤ n := hL.choose_spec.2.2.2.2
    have ea := and15 m (by omega)
    by_cases hlt : 16 ≤ m
    · have et : ∀ h : m % 16 < 36, (tab[m % 16]'h) = hexd (m % 16) := fun h => tab_at _ (by omega) h
      unfold tab at et
      go_wp2_with (first | ((with_reducible apply (arm_store hS)); kernel_rfl; (first | exact ev_tmp rfl | exact ev_const); (first | exact ev_tmp rfl | exact ev_const); (repeat (first | with_reducible exact mem_hd | with_reducible apply mem_tl)); rfl; (first | (simp; done) | (simp; omega) | omega); (repeat (first | with_reducible exact Upd.hd | with_reducible apply Upd.tl)); kernel_rfl; kernel_rfl; clear hS; intro w hS; (try simp only [List.set_cons_zero, List.set_cons_succ] at hS); (try simp only [Act.put, List.setIfInBounds_toArray, List.set_cons_zero, List.set_cons_succ])))
      go_roundw
      case rel => exact ⟨m / 16, k - 1, _, by go_num, by go_num, hL.more (by omega) hlt, hS⟩
      case measure => simp [intOf]; omega
    · have et : ∀ h : m < 36, (tab[m]'h) = hexd m := fun h => tab_at _ (by omega) h
      unfold tab at et
      obtain ⟨hl1, hl2⟩ := hL.last (by omega) (by omega)
      have HD := hid (show ((cs.set (k - 1) (B (hexd m))).drop (k - 1)).take (hexs n).length = Bs (hexs n) by rw [hl2, ← Bs_length, List.take_length])
      have HL := hid hl1
      clear hl1 hl2
      go_wp2_with (first | ((with_reducible apply (arm_store hS)); kernel_rfl; (first | exact ev_tmp rfl | exact ev_const); (first | exact ev_tmp rfl | exact ev_const); (repeat (first | with_reducible exact mem_hd | with_reducible apply mem_tl)); rfl; (first | (simp; done) | (simp; omega) | omega); (repeat (first | with_reducible exact Upd.hd | with_reducible apply Upd.tl)); kernel_rfl; kernel_rfl; clear hS; intro w hS; (try simp only [List.set_cons_zero, List.set_cons_succ] at hS); (try simp only [Act.put, List.setIfInBounds_toArray, List.set_cons_zero, List.set_cons_succ])) | ((with_reducible apply arm_sliceArr_l); kernel_rfl; (first | exact ev_tmp rfl | exact ev_const); (first | exact ev_tmp rfl | exact ev_const); (first | with_reducible exact ar29 | with_reducible exact ar36 | with_reducible exact ar38 | with_reducible exact ar42 | with_reducible exact ar43); (first | omega | (simp; omega)); (first | omega | (simp; omega)); (first | (simp only [Int.toNat_natCast, Nat.mul_one, Nat.zero_add, tn_sub, tn_sub1, tn_sub2, tn_sub3, tn_add, tn_add1, tn_add2]; rfl) | rfl); (first | (simp only [Int.toNat_natCast, Nat.mul_one, Nat.zero_add, tn_sub, tn_sub1, tn_sub2, tn_sub3, tn_add, tn_add1, tn_add2]; rfl) | rfl); (try simp only [Act.put, List.setIfInBounds_toArray, List.set_cons_zero, List.set_cons_succ])) | ((with_reducible apply arm_str); kernel_rfl; (first | exact ev_tmp rfl | exact ev_const); (first | with_reducible exact E26); kernel_rfl; kernel_rfl; exact HL.out; exact hS.cellDrop (by (repeat (first | with_reducible exact mem_hd | with_reducible apply mem_tl))) HD.out; (try simp only [Act.put, List.setIfInBounds_toArray, List.set_cons_zero, List.set_cons_succ])))
      go_ret2
      exact ⟨rfl, hS.drop⟩

theorem fmtUint16i (n : Nat) (h1 : n < 18446744073709551616) (w0 w : World) (Hs : List HP) (hS : Sat w0 w Hs) (hm : base w0 ∈ Hs) (hc0 : w0.cell? ⟨2, 15, none⟩ = some (.int .u8 4)) :
    Calls Tryd.prog 11 #[.int .u64 n, .int .i64 16] w fun e w' => e = .returned (.string ⟨(hexs n).toArray⟩) ∧ Sat w0 w' Hs := by
  go_enter Tryd.func11, Tryd.ntmps11
  go_wp2_with (first | (go_at_call 15; refine (formatBits16 n h1 _ _ _ hS hm hc0).mono ?_; clear hS; rintro e w ⟨rfl, hS⟩))
  go_ret
  exact ⟨rfl, hS⟩
theorem fmtUint16 (n : Nat) (h1 : n < 18446744073709551616) (w0 w : World) (Hs : List HP) (hS : Sat w0 w Hs) (hm : base w0 ∈ Hs) (hc0 : w0.cell? ⟨2, 15, none⟩ = some (.int .u8 4)) :
    Calls Tryd.prog 10 #[.int .u64 n, .int .i64 16] w fun e w' => e = .returned (.string ⟨(hexs n).toArray⟩) ∧ Sat w0 w' Hs := by
  go_enter Tryd.func10, Tryd.ntmps10
  go_wp2_with (first | (go_at_call 11; refine (fmtUint16i n h1 _ _ _ hS hm hc0).mono ?_; clear hS; rintro e w ⟨rfl, hS⟩))
  go_ret
  exact ⟨rfl, hS⟩
theorem hexC (n : Nat) (h1 : n < 18446744073709551616) (w0 w : World) (Hs : List HP) (hS : Sat w0 w Hs) (hm : base w0 ∈ Hs) (hc0 : w0.cell? ⟨2, 15, none⟩ = some (.int .u8 4)) :
    Calls Tryd.prog 8 #[.int .u64 n] w fun e w' => e = .returned (.string ⟨(hex16 n).toArray⟩) ∧ Sat w0 w' Hs := by
  have hl := hexs_len h1
  go_enter Tryd.func8, Tryd.ntmps8
  go_wp2_with (first | (go_at_call 10; refine (fmtUint16 n h1 _ _ _ hS hm hc0).mono ?_; clear hS; rintro e w ⟨rfl, hS⟩))
  go_ret
  exact ⟨by rw [pad_bytes h1]; rfl, hS⟩
theorem hexR (n : Nat) (h1 : n < 18446744073709551616) (w0 w : World) (Hs : List HP) (hS : Sat w0 w Hs) :
    Calls Tryd.prog 9 #[.int .u64 n] w fun e w' => e = .returned (.string ⟨(hex16 n).toArray⟩) ∧ Sat w0 w' Hs := by
  replace hS := hS.ownNil 5 1
  go_enter Tryd.func9, Tryd.ntmps9
  go_wp2_with fail
  go_loopw [3, 4] (fun b i wr => ∃ (j cap : Nat) (ad : Option Addr), b = .slice ad j cap ∧ i = .int .i64 (15 - (j : Int)) ∧ j ≤ 16 ∧ Sat w0 wr (own 5 1 ad j cap (Bs ((hex16 n).take j)) :: Hs)) (fun _ i _ => (intOf i + 1).toNat)
  case atStart => exact ⟨0, 0, none, rfl, by go_num, by omega, hS⟩
  case round =>
    clear hS
    obtain ⟨j, cap, ad, rfl, rfl, hj, hS⟩ := hrel
    by_cases hlt : j < 16
    · obtain ⟨q, hq⟩ : ∃ q : Nat, q = n / 16 ^ (15 - j) % 16 := ⟨_, rfl⟩
      have ea : bits BinOp.and IntKind.u64 ((n : Int) / 2 ^ (4 * (15 - j))) 15 = (q : Int) := by
        have e0 : (2 : Int) ^ (4 * (15 - j)) = ((16 ^ (15 - j) : Nat) : Int) := by
          have : (2 : Nat) ^ (4 * (15 - j)) = 16 ^ (15 - j) := by rw [Nat.pow_mul]
          rw [← this]; simp
        rw [e0, ← Int.natCast_ediv, and15 _ (Nat.lt_of_le_of_lt (Nat.div_le_self _ _) h1), hq]
      have hlm : q < 16 := by rw [hq]; exact Nat.mod_lt _ (by omega)
      have et : ∀ h : q < 16, (tab16[q]'h) = hexd q := fun h => tab16_at _ hlm h
      unfold tab16 at et
      have hnx : Bs ((hex16 n).take j) ++ [Value.int .u8 (hexd q).toNat] = Bs ((hex16 n).take (j + 1)) := by
        rw [List.take_add_one, hex16_eq, hexN_get 16 n j hlt, Bs_append, hq]; rfl
      have HX := hid hnx
      clear hq hnx
      go_wp2_with (first | ((with_reducible apply (arm_build1 hS)); kernel_rfl; (first | with_reducible exact E26); (first | exact ev_tmp rfl | exact ev_const); (first | exact cells_one (by kernel_rfl) | exact cells_agg); rfl; decide; clear hS; intro NB w hS; (try simp only [Act.put, List.setIfInBounds_toArray, List.set_cons_zero, List.set_cons_succ])) | ((with_reducible apply (arm_appendB hS)); kernel_rfl; (first | exact ev_tmp rfl | exact ev_const); (first | exact ev_tmp rfl | exact ev_const); (first | with_reducible exact E26); (repeat (first | with_reducible exact Rem.hd | with_reducible apply Rem.tl)); (repeat (first | with_reducible exact Rem.hd | with_reducible apply Rem.tl)); rfl; kernel_rfl; (first | omega | (simp; omega)); (first | omega | (simp; omega)); clear hS; intro AD CAP w hS; (try simp only [Nat.zero_add, List.nil_append] at hS); (try simp only [Act.put, List.setIfInBounds_toArray, List.set_cons_zero, List.set_cons_succ])))
      rw [HX.out] at hS
      go_roundw
      case rel => exact ⟨j + 1, CAP, AD, rfl, by go_num, by omega, hS⟩
      case measure => simp [intOf]; omega
    · have hj16 : j = 16 := by omega
      subst hj16
      have hful : (hex16 n).take 16 = hex16 n := List.take_of_length_le (by rw [hex16_len]; omega)
      rw [hful] at hS
      clear hful
      go_wp2_with (first | ((with_reducible apply (arm_strOwn hS)); kernel_rfl; (first | exact ev_tmp rfl | exact ev_const); (first | with_reducible exact E26); kernel_rfl; kernel_rfl; (repeat (first | with_reducible exact mem_hd | with_reducible apply mem_tl)); (try simp only [Act.put, List.setIfInBounds_toArray, List.set_cons_zero, List.set_cons_succ])))
      go_ret
      exact ⟨rfl, hS.drop⟩

def ddName (n : Nat) : ByteArray := ⟨#[100, 100, 45]⟩ ++ ⟨(hex16 n).toArray⟩
def catName (n : Nat) : ByteArray := ⟨#[99, 97, 116, 45]⟩ ++ ⟨(hex16 n).toArray⟩
section
variable (n : Nat) (h1 : n < 18446744073709551616) (w0 w : World) (Hs : List HP) (hS : Sat w0 w Hs)
include h1 hS
theorem FileNameC (hm : base w0 ∈ Hs) (hc0 : w0.cell? ⟨2, 15, none⟩ = some (.int .u8 4)) :
    Calls Tryd.prog 4 #[.int .u64 n] w fun e w' => e = .returned (.string (ddName n)) ∧ Sat w0 w' Hs := by
  have hl := hex16_len n
  go_enter Tryd.func4, Tryd.ntmps4
  go_wp2_with (first | (go_at_call 8; refine (hexC n h1 _ _ _ hS hm hc0).mono ?_; clear hS; rintro e w ⟨rfl, hS⟩))
  go_ret
  exact ⟨rfl, hS⟩
theorem NameC (hm : base w0 ∈ Hs) (hc0 : w0.cell? ⟨2, 15, none⟩ = some (.int .u8 4)) :
    Calls Tryd.prog 6 #[.int .u64 n] w fun e w' => e = .returned (.string (catName n)) ∧ Sat w0 w' Hs := by
  have hl := hex16_len n
  go_enter Tryd.func6, Tryd.ntmps6
  go_wp2_with (first | (go_at_call 8; refine (hexC n h1 _ _ _ hS hm hc0).mono ?_; clear hS; rintro e w ⟨rfl, hS⟩))
  go_ret
  exact ⟨rfl, hS⟩
theorem FileNameR : Calls Tryd.prog 5 #[.int .u64 n] w fun e w' => e = .returned (.string (ddName n)) ∧ Sat w0 w' Hs := by
  have hl := hex16_len n
  go_enter Tryd.func5, Tryd.ntmps5
  go_wp2_with (first | (go_at_call 9; refine (hexR n h1 _ _ _ hS).mono ?_; clear hS; rintro e w ⟨rfl, hS⟩))
  go_ret
  exact ⟨rfl, hS⟩
theorem NameR : Calls Tryd.prog 7 #[.int .u64 n] w fun e w' => e = .returned (.string (catName n)) ∧ Sat w0 w' Hs := by
  have hl := hex16_len n
  go_enter Tryd.func7, Tryd.ntmps7
  go_wp2_with (first | (go_at_call 9; refine (hexR n h1 _ _ _ hS).mono ?_; clear hS; rintro e w ⟨rfl, hS⟩))
  go_ret
  exact ⟨rfl, hS⟩
theorem law (hm : base w0 ∈ Hs) (hc0 : w0.cell? ⟨2, 15, none⟩ = some (.int .u8 4)) :
    Calls Tryd.prog 3 #[.int .u64 n] w fun e w' => e = .returned (.bool true) ∧ Sat w0 w' Hs := by
  go_enter Tryd.func3, Tryd.ntmps3
  go_wp2_with (first | (go_at_call 4; refine (FileNameC n h1 _ _ _ hS hm hc0).mono ?_; clear hS; rintro e w ⟨rfl, hS⟩) | (go_at_call 5; refine (FileNameR n h1 _ _ _ hS).mono ?_; clear hS; rintro e w ⟨rfl, hS⟩) | (go_at_call 6; refine (NameC n h1 _ _ _ hS hm hc0).mono ?_; clear hS; rintro e w ⟨rfl, hS⟩) | (go_at_call 7; refine (NameR n h1 _ _ _ hS).mono ?_; clear hS; rintro e w ⟨rfl, hS⟩))
  go_ret
  exact ⟨rfl, hS⟩
end
end Go.Proofs.YtkmcgkmgppmhgaaDoor
