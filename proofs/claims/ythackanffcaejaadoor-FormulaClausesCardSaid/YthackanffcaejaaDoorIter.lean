/- strings.SplitAfterSeq at one line's end: what it yields. -/
import Derived.Test.YthackanffcaejaaDoorRange2
import Derived.Test.YthackanffcaejaaDoorLines
import Derived.Test.YthackanffcaejaaDoorShelf
import Derived.Test.YthackanffcaejaaDoorTy
import Derived.Test.YthackanffcaejaaDoorCnf1
import Derived.Shelf.Abstract
import Derived.Shelf.RegionOpen
import Derived.OwnWalkIn
import Derived.TacticsInMore
import Derived.LoopNIn
import Derived.LoopIn
set_option linter.unusedSimpArgs false
set_option linter.unusedVariables false
set_option maxRecDepth 20000
namespace Go.Proofs.YthackanffcaejaaDoor
open Go Go.RowKit Go.SL Go.LinesP
attribute [local go_sem] Oper.semAt_some

/-- The round for one line. -/
def YieldC (l : Nat) (text : List UInt8) (C : List (List UInt8) → List HP) (lp df : HP) (w0 : World) (m : Nat) : Prop :=
  ∀ (pre : List (List UInt8)) (x : List UInt8) (W1 : World) (X : List HP), (∃ rest, linesL text = pre ++ x :: rest) → Sat w0 W1 (C pre ++ lp :: df :: X) →
    YieldAt Fence.wide m Tryd.prog l #[.string ⟨x.toArray⟩] W1 fun e W' => e = .returned (.bool true) ∧ ∃ s', s' = pre ++ [x] ∧ Sat w0 W' (C s' ++ lp :: df :: X)
theorem iterC (l bs bp bv : Nat) (text : List UInt8) (hlen : text.length ≤ 4611686018427387904) (C : List (List UInt8) → List HP) (lp df : HP) (w0 w : World) (G : List HP) (n : Nat) (hn : 3 ≤ n) (hY : YieldC l text C lp df w0 (n - 1))
    (hS : Sat w0 w (blk bs 9 [.string ⟨text.toArray⟩] :: blk bp 9 [.string ⟨#[10]⟩] :: blk bv 3 [.int .i64 1] :: (C [] ++ lp :: df :: G))) :
    CallsIn Fence.wide n Tryd.prog 117 #[.func (.yield l) #[] #[], .pointer (some ⟨bp, 0, none⟩), .pointer (some ⟨bs, 0, none⟩), .pointer (some ⟨bv, 0, none⟩)] w fun e W' => (∃ v, e = .returned v) ∧ ∃ s, s = linesL text ∧ Sat w0 W' (C s ++ lp :: df :: G) := by
  have hF : ∀ f, Fence.wide.fn f := fun _ => trivial
  have h1n : 1 ≤ n := by omega
  refine callsIn_of_wp Tryd.func117 rfl trivial ?_ rfl
  simp only [Tryd.ntmps117, List.size_toArray, List.length_cons, List.length_nil, Nat.reduceAdd, Nat.reduceSub, Array.replicate_succ, Array.replicate_zero, List.push_toArray, List.append_toArray, List.nil_append, List.cons_append]
  gi_wp2_with (first | ((with_reducible apply (in_load hF hS)); (first | with_reducible exact wanted_none | exact wanted_guard rfl rfl); (first | exact ev_tmp rfl | exact ev_const); (repeat (first | with_reducible exact mem_hd | with_reducible apply mem_tl)); rfl; decide +kernel; (try simp only [Act.put, List.setIfInBounds_toArray, List.set_cons_zero, List.set_cons_succ])) | ((with_reducible apply (in_store hF hS)); (first | with_reducible exact wanted_none | exact wanted_guard rfl rfl); (first | exact ev_tmp rfl | exact ev_const); (first | exact ev_tmp rfl | exact ev_const); (repeat (first | with_reducible exact mem_hd | with_reducible apply mem_tl)); rfl; (first | (focus (simp; done)) | (simp; omega) | omega); (repeat (first | with_reducible exact Upd.hd | with_reducible apply Upd.tl)); rfl; decide +kernel; clear hS; intro w hS; (try simp only [List.set_cons_zero, List.set_cons_succ] at hS); (try simp only [Act.put, List.setIfInBounds_toArray, List.set_cons_zero, List.set_cons_succ])))
  gi_loopw [7] (fun z wr => ∃ (pre : List (List UInt8)) (rem : List UInt8), Hid (linesL text = pre ++ linesL rem) ∧ rem.length ≤ 4611686018427387904 ∧ Sat w0 wr (blk bs 9 [.string ⟨rem.toArray⟩] :: blk bp 9 [.string ⟨#[10]⟩] :: blk bv 3 [.int .i64 1] :: (C pre ++ lp :: df :: G)))
    (fun _ wr => match wr.cell? ⟨bs, 0, none⟩ with | some (.string s) => s.size | _ => 0)
  case atStart => exact ⟨[], text, hid rfl, hlen, hS⟩
  case round =>
    clear hS
    obtain ⟨pre, rem, HL, hrl, hS⟩ := hrel
    have IX := Tryd.strings_Index_one ⟨rem.toArray⟩ 10
    simp only [List.toList_toArray] at IX
    by_cases hix : Lib.indexByte rem 10 = -1
    · rw [hix] at IX
      have HN := hid (lines_none hix)
      clear hix
      have hSr := hS.permL (permI [blk bs 9 [.string ⟨rem.toArray⟩], blk bp 9 [.string ⟨#[10]⟩], blk bv 3 [.int .i64 1]] (C pre) [lp, df] G)
      have hpre : linesL text = pre ++ [rem] := by rw [HL.out, HN.out]
      obtain ⟨fn, tmps, assign, body, hy, hR⟩ := hY pre rem wr _ ⟨[], hpre⟩ hSr
      have HP := hid hpre
      clear hSr hpre
      gi_wp2_with (first | ((with_reducible apply (in_load hF hS)); (first | with_reducible exact wanted_none | exact wanted_guard rfl rfl); (first | exact ev_tmp rfl | exact ev_const); (repeat (first | with_reducible exact mem_hd | with_reducible apply mem_tl)); rfl; decide +kernel; (try simp only [Act.put, List.setIfInBounds_toArray, List.set_cons_zero, List.set_cons_succ])) | ((with_reducible apply (in_store hF hS)); (first | with_reducible exact wanted_none | exact wanted_guard rfl rfl); (first | exact ev_tmp rfl | exact ev_const); (first | exact ev_tmp rfl | exact ev_const); (repeat (first | with_reducible exact mem_hd | with_reducible apply mem_tl)); rfl; (first | (focus (simp; done)) | (simp; omega) | omega); (repeat (first | with_reducible exact Upd.hd | with_reducible apply Upd.tl)); rfl; decide +kernel; clear hS; intro w hS; (try simp only [List.set_cons_zero, List.set_cons_succ] at hS); (try simp only [Act.put, List.setIfInBounds_toArray, List.set_cons_zero, List.set_cons_succ])) | (gi_at_call 95; refine (callsIn_wide.2 (IX _)).mono ?_; rintro e w' ⟨rfl, rfl⟩))
      refine hR.mono ?_
      rintro e W3 ⟨rfl, s', rfl, hS3⟩
      gi_wp2
      refine bodyPost_end (results_none rfl _ _ _) rfl ?_
      exact ⟨⟨_, rfl⟩, _, HP.out.symm, hS3.less ((List.Sublist.refl (C _)).append (List.Sublist.cons_cons _ (List.Sublist.cons_cons _ ((List.sublist_cons_self _ _).trans ((List.sublist_cons_self _ _).trans (List.sublist_cons_self _ _))))))⟩
    · obtain ⟨i, hi⟩ : ∃ i : Nat, Lib.indexByte rem 10 = i := ⟨(Lib.indexByte rem 10).toNat, by have := Lib.indexByte_ge rem 10; omega⟩
      rw [hi] at IX
      obtain ⟨hil, hls⟩ := lines_some hi
      have HL2 := hid hls
      have hsz : (⟨rem.toArray⟩ : ByteArray).size = rem.length := by simp [ByteArray.size]
      have hex : (⟨rem.toArray⟩ : ByteArray).extract 0 (i + 1) = ⟨(rem.take (i + 1)).toArray⟩ := by
        apply ByteArray.ext
        simp [ByteArray.data_extract]
      have hex2 : (⟨rem.toArray⟩ : ByteArray).extract (i + 1) rem.length = ⟨(rem.drop (i + 1)).toArray⟩ := by
        apply ByteArray.ext
        simp only [ByteArray.data_extract, List.extract_toArray, List.extract_eq_take_drop]
        rw [List.take_of_length_le (by rw [List.length_drop]; omega)]
      have HCR := hid (hS.cell mem_hd (off := 0) rfl)
      have hSr := hS.permL (permI [blk bs 9 [.string ⟨rem.toArray⟩], blk bp 9 [.string ⟨#[10]⟩], blk bv 3 [.int .i64 1]] (C pre) [lp, df] G)
      have hpre : linesL text = pre ++ rem.take (i + 1) :: linesL (rem.drop (i + 1)) := by rw [HL.out, HL2.out]
      obtain ⟨fn, tmps, assign, body, hy, hR⟩ := hY pre (rem.take (i + 1)) wr _ ⟨_, hpre⟩ hSr
      rw [← hex] at hy
      have HP := hid hpre
      have HE2 := hid hex2
      clear hix hi hls hSr hpre hex hex2
      gi_wp2_with (first | ((with_reducible apply (in_load hF hS)); (first | with_reducible exact wanted_none | exact wanted_guard rfl rfl); (first | exact ev_tmp rfl | exact ev_const); (repeat (first | with_reducible exact mem_hd | with_reducible apply mem_tl)); rfl; decide +kernel; (try simp only [Act.put, List.setIfInBounds_toArray, List.set_cons_zero, List.set_cons_succ])) | ((with_reducible apply (in_store hF hS)); (first | with_reducible exact wanted_none | exact wanted_guard rfl rfl); (first | exact ev_tmp rfl | exact ev_const); (first | exact ev_tmp rfl | exact ev_const); (repeat (first | with_reducible exact mem_hd | with_reducible apply mem_tl)); rfl; (first | (focus (simp; done)) | (simp; omega) | omega); (repeat (first | with_reducible exact Upd.hd | with_reducible apply Upd.tl)); rfl; decide +kernel; clear hS; intro w hS; (try simp only [List.set_cons_zero, List.set_cons_succ] at hS); (try simp only [Act.put, List.setIfInBounds_toArray, List.set_cons_zero, List.set_cons_succ])) | (gi_at_call 95; refine (callsIn_wide.2 (IX _)).mono ?_; rintro e w' ⟨rfl, rfl⟩))
      refine hR.mono ?_
      rintro e W3 ⟨rfl, s', rfl, hS3⟩
      clear hS
      have hS := hS3.permL (permI [blk bs 9 [.string ⟨rem.toArray⟩], blk bp 9 [.string ⟨#[10]⟩], blk bv 3 [.int .i64 1]] (C (pre ++ [rem.take (i + 1)])) [lp, df] G).symm
      simp only [List.cons_append, List.nil_append] at hS
      clear hS3
      gi_wp2_with (first | ((with_reducible apply (in_load hF hS)); (first | with_reducible exact wanted_none | exact wanted_guard rfl rfl); (first | exact ev_tmp rfl | exact ev_const); (repeat (first | with_reducible exact mem_hd | with_reducible apply mem_tl)); rfl; decide +kernel; (try simp only [Act.put, List.setIfInBounds_toArray, List.set_cons_zero, List.set_cons_succ])) | ((with_reducible apply (in_store hF hS)); (first | with_reducible exact wanted_none | exact wanted_guard rfl rfl); (first | exact ev_tmp rfl | exact ev_const); (first | exact ev_tmp rfl | exact ev_const); (repeat (first | with_reducible exact mem_hd | with_reducible apply mem_tl)); rfl; (first | (focus (simp; done)) | (simp; omega) | omega); (repeat (first | with_reducible exact Upd.hd | with_reducible apply Upd.tl)); rfl; decide +kernel; clear hS; intro w hS; (try simp only [List.set_cons_zero, List.set_cons_succ] at hS); (try simp only [Act.put, List.setIfInBounds_toArray, List.set_cons_zero, List.set_cons_succ])))
      rw [HE2.out] at hS
      have hc2 := hS.cell mem_hd (off := 0) rfl
      have HL3 := hid (show linesL text = (pre ++ [rem.take (i + 1)]) ++ linesL (rem.drop (i + 1)) by rw [HP.out]; simp)
      go_roundw
      case rel => exact ⟨_, rem.drop (i + 1), HL3, by rw [List.length_drop]; omega, hS⟩
      case measure =>
        rw [hc2, HCR.out]
        simp [ByteArray.size]
        omega
theorem splitSeqC (text : List UInt8) (w0 w : World) (Hs : List HP) (hS : Sat w0 w Hs) :
    Calls Tryd.prog 97 #[.string ⟨text.toArray⟩, .string ⟨#[10]⟩, .int .i64 1] w fun e w' => ∃ bs bp bv : Nat, e = .returned (.func (.func 117) #[] #[.pointer (some ⟨bp, 0, none⟩), .pointer (some ⟨bs, 0, none⟩), .pointer (some ⟨bv, 0, none⟩)]) ∧
      Sat w0 w' (blk bs 9 [.string ⟨text.toArray⟩] :: blk bp 9 [.string ⟨#[10]⟩] :: blk bv 3 [.int .i64 1] :: Hs) := by
  go_enter Tryd.func97, Tryd.ntmps97
  go_wp2_with (first | ((with_reducible apply (arm_box hS)); (first | with_reducible exact wanted_none | exact wanted_guard rfl rfl); (first | exact ev_tmp rfl | exact ev_const); (first | with_reducible exact cells_agg | exact cells_one rfl); clear hS; intro NB w hS; (try simp only [Act.put, List.setIfInBounds_toArray, List.set_cons_zero, List.set_cons_succ])))
  go_ret
  exact ⟨_, _, _, rfl, hS.sb (by (repeat (first | with_reducible exact Sb.refl | with_reducible exact Sb.nil | (with_reducible refine Sb.take (by (repeat (first | with_reducible exact Rem.hd | with_reducible apply Rem.tl)); done) ?_) | with_reducible apply Sb.skip)))⟩
theorem splitAfterC (text : List UInt8) (w0 w : World) (Hs : List HP) (hS : Sat w0 w Hs) :
    Calls Tryd.prog 62 #[.string ⟨text.toArray⟩, .string ⟨#[10]⟩] w fun e w' => ∃ bs bp bv : Nat, e = .returned (.func (.func 117) #[] #[.pointer (some ⟨bp, 0, none⟩), .pointer (some ⟨bs, 0, none⟩), .pointer (some ⟨bv, 0, none⟩)]) ∧
      Sat w0 w' (blk bs 9 [.string ⟨text.toArray⟩] :: blk bp 9 [.string ⟨#[10]⟩] :: blk bv 3 [.int .i64 1] :: Hs) := by
  have SS := splitSeqC text w0
  go_enter Tryd.func62, Tryd.ntmps62
  go_wp2_with (first | (go_at_call 97; refine (SS _ _ hS).mono ?_; clear hS; rintro e w ⟨bs, bp, bv, rfl, hS⟩))
  go_ret
  exact ⟨_, _, _, rfl, hS⟩
end Go.Proofs.YthackanffcaejaaDoor
