/- The law of larger formulas: its small functions. -/
import Derived.Test.YthackanffcaejaaGreatDoorZ1
import Derived.Test.YthackanffcaejaaGreatDoorYEm1
import Derived.Test.YthackanffcaejaaGreatDoorYWd1
set_option linter.unusedSimpArgs false
set_option linter.unusedVariables false
set_option maxRecDepth 20000
namespace Go.Proofs.YthackanffcaejaaGreatDoor
open Go Go.RowKit Go.SL

theorem Fs_app (a b : List (Int × Int)) : Fs (a ++ b) = Fs a ++ Fs b := by
  induction a with
  | nil => rfl
  | cons x a ih => simp [Fs, ih]
section
variable (f : List (Int × Int)) (hf : f.length ≤ 65536) (adf : Option Addr) (capf : Nat) (w0 w : World) (Hs : List HP) (hS : Sat w0 w Hs) {A : HP} (hA : A ∈ Hs) (hrf : Rd A adf (Fs f)) (hnf : adf = none → capf = 0 ∧ f.length = 0)
include hf hS hA hrf hnf
theorem bothC (g : List (Int × Int)) (hg : g.length ≤ 65536) (adg : Option Addr) (capg : Nat) {B : HP} (hB : B ∈ Hs) (hrg : Rd B adg (Fs g)) (hng : adg = none → capg = 0 ∧ g.length = 0) (op : Int) :
    Calls Tryz.prog 24 #[.slice adf f.length capf, .slice adg g.length capg, .int .i64 op] w fun e w' => ∃ AD CAP, e = .returned (.slice AD (f ++ g ++ [(op, 0)]).length CAP) ∧ Sat w0 w' (own 50 2 AD (f ++ g ++ [(op, 0)]).length CAP (Fs (f ++ g ++ [(op, 0)])) :: Hs) := by
  have hfl := Fs_length f
  have hgl := Fs_length g
  have hL : (f ++ g ++ [(op, 0)]).length = f.length + g.length + 1 := by simp; omega
  have hE : Fs (f ++ g ++ [(op, 0)]) = Fs f ++ Fs g ++ [.int .i64 op, .int .i64 0] := by rw [Fs_app, Fs_app]; rfl
  rw [hL, hE]
  clear hL hE
  replace hS := hS.ownNil 50 2
  go_enter Tryz.func24, Tryz.ntmps24
  go_wp2_with (first | ((with_reducible apply (arm_appendB hS)); (first | with_reducible exact wanted_none | exact wanted_guard rfl rfl); (first | exact ev_tmp rfl | exact ev_const); (first | exact ev_tmp rfl | exact ev_const); (first | with_reducible exact E22 | with_reducible exact E42); (repeat (first | with_reducible exact Rem.hd | with_reducible apply Rem.tl)); (repeat (first | with_reducible exact Rem.hd | with_reducible apply Rem.tl)); rfl; rfl; (first | omega | (focus (simp; done)) | (simp; omega)); (first | omega | (focus (simp; done)) | (simp; omega)); clear hS; intro AD CAP w hS; (try simp only [Nat.zero_add, List.nil_append] at hS); (try simp only [Act.put, List.setIfInBounds_toArray, List.set_cons_zero, List.set_cons_succ])) | ((with_reducible apply (arm_appendS hS)); (first | with_reducible exact wanted_none | exact wanted_guard rfl rfl); (first | exact ev_tmp rfl | exact ev_const); (first | exact ev_tmp rfl | exact ev_const); (first | with_reducible exact E22 | with_reducible exact E42); (repeat (first | with_reducible exact Rem.hd | with_reducible apply Rem.tl)); assumption; (((repeat (first | with_reducible exact mem_hd | with_reducible apply mem_tl))); (try assumption)); (first | (simp only [Is_length, Bs_length, List.length_take, List.length_drop]; omega) | omega | (focus (simp; done)) | (simp; omega)); assumption; (first | exact Is_one _ | exact Bs_one _ | exact Fs_one _ | assumption); (first | omega | (focus (simp; done)) | (simp; omega)); (first | omega | (focus (simp; done)) | (simp; omega)); clear hS; intro AD CAP w hS; (try simp only [Nat.zero_add, List.nil_append] at hS); (try simp only [Act.put, List.setIfInBounds_toArray, List.set_cons_zero, List.set_cons_succ]); (try simp only [Nat.zero_add])) | ((with_reducible apply (arm_build1 hS)); (first | with_reducible exact wanted_none | exact wanted_guard rfl rfl); (first | with_reducible exact E22 | with_reducible exact E42); (first | exact ev_tmp rfl | exact ev_const); (first | with_reducible exact cells_agg | exact cells_one rfl); rfl; decide; clear hS; intro NB w hS; (try simp only [Act.put, List.setIfInBounds_toArray, List.set_cons_zero, List.set_cons_succ])))
  go_ret
  exact ⟨_, _, rfl, hS⟩
theorem overC (op n : Int) :
    Calls Tryz.prog 25 #[.slice adf f.length capf, .agg #[.int .i64 op, .int .i64 n]] w fun e w' => ∃ AD CAP, e = .returned (.slice AD (f ++ [(op, n)]).length CAP) ∧ Sat w0 w' (own 50 2 AD (f ++ [(op, n)]).length CAP (Fs (f ++ [(op, n)])) :: Hs) := by
  have hfl := Fs_length f
  have hL : (f ++ [(op, n)]).length = f.length + 1 := by simp
  have hE : Fs (f ++ [(op, n)]) = Fs f ++ [.int .i64 op, .int .i64 n] := by rw [Fs_app]; rfl
  rw [hL, hE]
  clear hL hE
  replace hS := hS.ownNil 50 2
  go_enter Tryz.func25, Tryz.ntmps25
  go_wp2_with (first | ((with_reducible apply (arm_box hS)); (first | with_reducible exact wanted_none | exact wanted_guard rfl rfl); (first | exact ev_tmp rfl | exact ev_const); (first | with_reducible exact cells_agg | exact cells_one rfl); clear hS; intro NB w hS; (try simp only [Act.put, List.setIfInBounds_toArray, List.set_cons_zero, List.set_cons_succ])) | ((with_reducible apply (arm_appendB hS)); (first | with_reducible exact wanted_none | exact wanted_guard rfl rfl); (first | exact ev_tmp rfl | exact ev_const); (first | exact ev_tmp rfl | exact ev_const); (first | with_reducible exact E22 | with_reducible exact E42); (repeat (first | with_reducible exact Rem.hd | with_reducible apply Rem.tl)); (repeat (first | with_reducible exact Rem.hd | with_reducible apply Rem.tl)); rfl; rfl; (first | omega | (focus (simp; done)) | (simp; omega)); (first | omega | (focus (simp; done)) | (simp; omega)); clear hS; intro AD CAP w hS; (try simp only [Nat.zero_add, List.nil_append] at hS); (try simp only [Act.put, List.setIfInBounds_toArray, List.set_cons_zero, List.set_cons_succ])) | ((with_reducible apply (arm_appendS hS)); (first | with_reducible exact wanted_none | exact wanted_guard rfl rfl); (first | exact ev_tmp rfl | exact ev_const); (first | exact ev_tmp rfl | exact ev_const); (first | with_reducible exact E22 | with_reducible exact E42); (repeat (first | with_reducible exact Rem.hd | with_reducible apply Rem.tl)); assumption; (((repeat (first | with_reducible exact mem_hd | with_reducible apply mem_tl))); (try assumption)); (first | (simp only [Is_length, Bs_length, List.length_take, List.length_drop]; omega) | omega | (focus (simp; done)) | (simp; omega)); assumption; (first | exact Is_one _ | exact Bs_one _ | exact Fs_one _ | assumption); (first | omega | (focus (simp; done)) | (simp; omega)); (first | omega | (focus (simp; done)) | (simp; omega)); clear hS; intro AD CAP w hS; (try simp only [Nat.zero_add, List.nil_append] at hS); (try simp only [Act.put, List.setIfInBounds_toArray, List.set_cons_zero, List.set_cons_succ]); (try simp only [Nat.zero_add])) | ((with_reducible apply (arm_build1 hS)); (first | with_reducible exact wanted_none | exact wanted_guard rfl rfl); (first | with_reducible exact E22 | with_reducible exact E42); (first | exact ev_tmp rfl | exact ev_const); (first | with_reducible exact cells_agg | exact cells_one rfl); rfl; decide; clear hS; intro NB w hS; (try simp only [Act.put, List.setIfInBounds_toArray, List.set_cons_zero, List.set_cons_succ])) | ((with_reducible apply (arm_loadN hS)); (first | with_reducible exact wanted_none | exact wanted_guard rfl rfl); (first | exact ev_tmp rfl | exact ev_const); (repeat (first | with_reducible exact mem_hd | with_reducible apply mem_tl)); (first | with_reducible exact sz50); decide +kernel; rfl; rfl; (try simp only [Act.put, List.setIfInBounds_toArray, List.set_cons_zero, List.set_cons_succ])))
  go_ret
  exact ⟨_, _, rfl, (hS.front (Rem.tl Rem.hd)).drop⟩
end
set_option maxHeartbeats 4000000 in
theorem setC (bits : List Bool) (hbl : bits.length ≤ 140737488355328) (adB : Option Addr) (capB : Nat) (w0 w : World) (Hs : List HP) (hS : Sat w0 w Hs) {A : HP} (hA : A ∈ Hs) (hrB : Rd A adB (BV bits)) (hnB : adB = none → capB = 0 ∧ bits.length = 0) (m : Nat) (hm : m < 1000) (b : Bool) :
    Calls Tryz.prog 26 #[.slice adB bits.length capB, .int .i64 m, .bool b] w fun e w' => ∃ AD CAP l, e = .returned (.slice AD (l.set m b).length CAP) ∧ Grw bits l ∧ m < l.length ∧ l.length ≤ 140737488355328 ∧ Sat w0 w' (own 4 1 AD (l.set m b).length CAP (BV (l.set m b)) :: Hs) := by
  have hbL := BV_length bits
  have hb1 := BV_one bits
  replace hS := hS.ownNil 4 1
  go_enter Tryz.func26, Tryz.ntmps26
  go_wp2_with (first | ((with_reducible apply (arm_appendB hS)); (first | with_reducible exact wanted_none | exact wanted_guard rfl rfl); (first | exact ev_tmp rfl | exact ev_const); (first | exact ev_tmp rfl | exact ev_const); (first | with_reducible exact E22 | with_reducible exact E42); (repeat (first | with_reducible exact Rem.hd | with_reducible apply Rem.tl)); (repeat (first | with_reducible exact Rem.hd | with_reducible apply Rem.tl)); rfl; rfl; (first | omega | (focus (simp; done)) | (simp; omega)); (first | omega | (focus (simp; done)) | (simp; omega)); clear hS; intro AD CAP w hS; (try simp only [Nat.zero_add, List.nil_append] at hS); (try simp only [Act.put, List.setIfInBounds_toArray, List.set_cons_zero, List.set_cons_succ])) | ((with_reducible apply (arm_appendS hS)); (first | with_reducible exact wanted_none | exact wanted_guard rfl rfl); (first | exact ev_tmp rfl | exact ev_const); (first | exact ev_tmp rfl | exact ev_const); (first | with_reducible exact E22 | with_reducible exact E42); (repeat (first | with_reducible exact Rem.hd | with_reducible apply Rem.tl)); assumption; (((repeat (first | with_reducible exact mem_hd | with_reducible apply mem_tl))); (try assumption)); (first | (simp only [Is_length, Bs_length, List.length_take, List.length_drop]; omega) | omega | (focus (simp; done)) | (simp; omega)); assumption; (first | exact Is_one _ | exact Bs_one _ | exact Fs_one _ | assumption); (first | omega | (focus (simp; done)) | (simp; omega)); (first | omega | (focus (simp; done)) | (simp; omega)); clear hS; intro AD CAP w hS; (try simp only [Nat.zero_add, List.nil_append] at hS); (try simp only [Act.put, List.setIfInBounds_toArray, List.set_cons_zero, List.set_cons_succ]); (try simp only [Nat.zero_add])) | ((with_reducible apply (arm_build1 hS)); (first | with_reducible exact wanted_none | exact wanted_guard rfl rfl); (first | with_reducible exact E22 | with_reducible exact E42); (first | exact ev_tmp rfl | exact ev_const); (first | with_reducible exact cells_agg | exact cells_one rfl); rfl; decide; clear hS; intro NB w hS; (try simp only [Act.put, List.setIfInBounds_toArray, List.set_cons_zero, List.set_cons_succ])))
  go_loopw [7] (fun v wr => ∃ (l : List Bool) (ad : Option Addr) (cap : Nat), v = .slice ad l.length cap ∧ Grw bits l ∧ l.length ≤ 140737488355328 ∧ Sat w0 wr (own 4 1 ad l.length cap (BV l) :: Hs)) (fun v _ => m + 1 - (match v with | .slice _ n _ => n | _ => 0))
  case atStart => exact ⟨bits, _, _, rfl, Grw.refl _, hbl, hS⟩
  case round =>
    clear hS
    obtain ⟨l, AD0, CAP0, rfl, hg, hll, hS⟩ := hrel
    have hlL := BV_length l
    by_cases hlt : l.length ≤ m
    · have hmi : (l.length : Int) ≤ (m : Int) := by omega
      go_wp2_with (first | ((with_reducible apply (arm_appendB hS)); (first | with_reducible exact wanted_none | exact wanted_guard rfl rfl); (first | exact ev_tmp rfl | exact ev_const); (first | exact ev_tmp rfl | exact ev_const); (first | with_reducible exact E22 | with_reducible exact E42); (repeat (first | with_reducible exact Rem.hd | with_reducible apply Rem.tl)); (repeat (first | with_reducible exact Rem.hd | with_reducible apply Rem.tl)); rfl; rfl; (first | omega | (focus (simp; done)) | (simp; omega)); (first | omega | (focus (simp; done)) | (simp; omega)); clear hS; intro AD CAP w hS; (try simp only [Nat.zero_add, List.nil_append] at hS); (try simp only [Act.put, List.setIfInBounds_toArray, List.set_cons_zero, List.set_cons_succ])) | ((with_reducible apply (arm_build1 hS)); (first | with_reducible exact wanted_none | exact wanted_guard rfl rfl); (first | with_reducible exact E22 | with_reducible exact E42); (first | exact ev_tmp rfl | exact ev_const); (first | with_reducible exact cells_agg | exact cells_one rfl); rfl; decide; clear hS; intro NB w hS; (try simp only [Act.put, List.setIfInBounds_toArray, List.set_cons_zero, List.set_cons_succ])))
      have e : BV l ++ [Value.bool false] = BV (l ++ [false]) := by rw [BV_append]; rfl
      rw [e] at hS
      go_roundw
      case rel => exact ⟨l ++ [false], AD, CAP, by rw [List.length_append]; rfl, hg.trans (Grw.more l), by simp; omega, by rw [List.length_append]; exact hS⟩
      case measure => simp; omega
    · have hmi : ¬ (l.length : Int) ≤ (m : Int) := by omega
      have hmt : (m : Int) < (l.length : Int) := by omega
      have hne : ∃ aa, AD0 = some aa ∧ aa.spot = none := hS.ownNN mem_hd (by omega)
      have hsl : (l.set m b).length = l.length := List.length_set
      rw [show BV l = BV l from rfl] at hS
      go_wp2_with (first | ((with_reducible apply arm_indexAddr); (first | with_reducible exact wanted_none | exact wanted_guard rfl rfl); (first | exact ev_tmp rfl | exact ev_const); (first | exact ev_tmp rfl | exact ev_const); (first | with_reducible exact E22 | with_reducible exact E42); (first | omega | (focus (simp; done)) | (simp; omega)); (first | omega | (focus (simp; done)) | (simp; omega)); (first | exact hS.ownNN (by (repeat (first | with_reducible exact mem_hd | with_reducible apply mem_tl))) (by omega) | exact Sat.rdAd2 (by assumption) hS (by ((repeat (first | with_reducible exact mem_hd | with_reducible apply mem_tl))); try assumption) (by first | (simp only [Is_length, Bs_length, List.length_take, List.length_drop]; omega) | omega | (simp; omega) | (simp; done)) | assumption); (first | (simp only [Int.toNat_natCast, Nat.mul_one, Nat.zero_add, tn_sub, tn_sub1, tn_sub2, tn_sub3, tn_add, tn_add1, tn_add2]; rfl) | rfl); (try simp only [Act.put, List.setIfInBounds_toArray, List.set_cons_zero, List.set_cons_succ])) | ((with_reducible apply (arm_storeE hS)); (first | with_reducible exact wanted_none | exact wanted_guard rfl rfl); (first | exact ev_tmp rfl | exact ev_const); (first | exact ev_tmp rfl | exact ev_const); (repeat (first | with_reducible exact mem_hd | with_reducible apply mem_tl)); (first | (simp only [Is_length, Bs_length, List.length_take, List.length_drop]; omega) | omega | (focus (simp; done)) | (simp; omega)); (repeat (first | with_reducible exact Upd.hd | with_reducible apply Upd.tl)); rfl; decide +kernel; clear hS; intro w hS; (try simp only [Act.put, List.setIfInBounds_toArray, List.set_cons_zero, List.set_cons_succ])))
      go_ret
      rw [BV_set] at hS
      refine ⟨AD0, CAP0, l, ?_, hg, by omega, hll, ?_⟩ <;> (try rw [hsl]) <;> first | rfl | exact hS
end Go.Proofs.YthackanffcaejaaGreatDoor
