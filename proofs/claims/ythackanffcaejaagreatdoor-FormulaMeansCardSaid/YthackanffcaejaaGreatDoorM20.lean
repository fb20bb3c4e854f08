/- A part of the proof: Form14 Form15. -/
import Derived.Test.YthackanffcaejaaGreatDoorM1
import Derived.Test.YthackanffcaejaaGreatDoorM2
import Derived.Test.YthackanffcaejaaGreatDoorM3
import Derived.Test.YthackanffcaejaaGreatDoorM11
import Derived.Test.YthackanffcaejaaGreatDoorM18
import Derived.Test.YthackanffcaejaaGreatDoorM19
section
set_option linter.unusedSimpArgs false
set_option linter.unusedVariables false
set_option linter.unusedSectionVars false
set_option maxRecDepth 20000
namespace Go.Proofs.YthackanffcaejaaGreatDoor
open Go Go.RowKit Go.SL


set_option maxHeartbeats 4000000 in
theorem treeIte (fs : List (Int × Int)) (fr : List Int) (c a b : T) (ht : okT (.ite c a b)) (hsz : size (.ite c a b) ≤ 65536) (ih0 : TreeC fs fr c) (ih1 : TreeC fs fr a) (ih2 : TreeC fs fr b) : TreeC fs fr (.ite c a b) := by
  intro s x last p af ar cf cr AF AR l deep most w0 w R hs hb hx hP d0 d1 d2 hll hS
  obtain ⟨x0, x1, xN, xO, xM, xF, nf, nr⟩ := treeFacts hs hb hx (hP.tail _) hS
  have rf := hP.rf
  have rr := hP.rr
  have mf := hP.mf
  have mr := hP.mr
  have hln := hP.hl
  have hnn := hP.hn
  have HN := hid hx
  have HZ := hid True.intro
  obtain ⟨X, hX⟩ : ∃ X, X = wr (.ite c a b) last := ⟨_, rfl⟩
  obtain ⟨M, hM⟩ : ∃ M, M = max most (deep + lkd (.ite c a b) last) := ⟨_, rfl⟩
  rw [← hX, ← hM]
  simp only [rootOp, rootN] at xN xO xM
  simp only [size] at hll d2 hb hx hsz
  replace HN := hid hx
  have hsc : Sub fs fr s c := hs.1
  have hsa : Sub fs fr (s + size c) a := hs.2.1
  have hsb : Sub fs fr (s + size c + size a) b := hs.2.2.1
  have hpc := size_pos c
  have hpa := size_pos a
  have hpb := size_pos b
  obtain ⟨z, hz⟩ : ∃ z : Int, z = ((s + size c + size a : Nat) : Int) := ⟨_, rfl⟩
  obtain ⟨u, hu⟩ : ∃ u : Int, u = ((s + size c : Nat) : Int) := ⟨_, rfl⟩
  obtain ⟨y0, y1, yN, yO, yM, yF, _, _⟩ := treeFacts (x := x - 1) hsb (by omega) (by omega) (hP.tail _) hS
  rw [← hz] at yF
  obtain ⟨z0, z1, zN, zO, zM, zF, _, _⟩ := treeFacts (x := z - 1) hsa (by omega) (by omega) (hP.tail _) hS
  rw [← hu] at zF
  obtain ⟨u0, u1, _, _, _, _, _, _⟩ := treeFacts (x := u - 1) hsc (by omega) (by omega) (hP.tail _) hS
  replace HZ := hid (And.intro hz hu)
  obtain ⟨kc, ka, kb⟩ := ht
  have fq : ∀ o : Int, (false || (quP o && !true)) = false := fun o => by cases quP o <;> rfl
  have OP0 := operandR fs fr c kc (by omega) ih0 s (u - 1) false true _ (fq _) p af ar cf cr AF AR
  have OP1 := operandR fs fr a ka (by omega) ih1 (s + size c) (z - 1) false true _ (fq _) p af ar cf cr AF AR
  have OP2 := operandR fs fr b kb (by omega) ih2 (s + size c + size a) (x - 1) false true _ (fq _) p af ar cf cr AF AR
  rw [wr_ite] at hX
  rw [lkd_ite] at hM
  have e1 : ∀ t : T, opB t false true = wr t true := fun t => rfl
  have e2 : ∀ t : T, lkB t false true = lkd t true := fun t => rfl
  rw [e1, e2] at OP0 OP1 OP2
  have hc0 := (lkd_le c true).1
  have hc1 := (lkd_le a true).1
  have hc2 := (lkd_le b true).1
  obtain ⟨wc1, wc2, _⟩ := wr_le c kc (by omega)
  obtain ⟨wa1, wa2, _⟩ := wr_le a ka (by omega)
  obtain ⟨wb1, wb2, _⟩ := wr_le b kb (by omega)
  have HX := hid hX
  have HM := hid hM
  generalize wr c true = O0 at *
  generalize wr a true = O1 at *
  generalize wr b true = O2 at *
  generalize lkd c true = c0 at *
  generalize lkd a true = c1 at *
  generalize lkd b true = c2 at *
  have TR : ∀ (w0 w : World) (Hs : List HP), Sat w0 w Hs → Calls Tryz.prog 124 #[.int .i64 11] w fun e w' => e = .returned (.bool false) ∧ Sat w0 w' Hs := fun w0 w Hs h => twoR 11 w0 w Hs h
  clear hX hM e1 e2 xO xM xF yN yM zN zM ih0 ih1 ih2 hs hx hz hu fq
  obtain ⟨PA, PC, hS⟩ := open_pg hS
  go_enter Tryz.func104, Tryz.ntmps104
  go_wp2_with (first | ((with_reducible apply arm_load hS); exact wanted_none; exact ev_tmp rfl; (repeat (with_reducible first | exact mem_hd | apply mem_tl)); rfl; decide +kernel; (try simp only [Act.put, q1, q2, q3])) | ((with_reducible apply arm_indexAddr); exact wanted_none; exact ev_tmp rfl; exact ev_tmp rfl; (with_reducible first | exact E22 | exact E35); (omega); (omega); (first | exact Sat.rdAd2 (by assumption) hS (by ((repeat (with_reducible apply mem_tl))); try assumption) (by (simp only [Is_length, Bs_length, List.length_take, List.length_drop]; omega)) | assumption); (first | (simp only [Int.toNat_natCast, Nat.mul_one, Nat.zero_add, tn_sub, tn_sub1, tn_sub2, tn_sub3, tn_add, tn_add1, tn_add2]; rfl) | rfl); (try simp only [Act.put, q1, q2, q3])) | ((with_reducible apply arm_loadE); exact wanted_none; exact ev_tmp rfl; (exact Sat.rdCell2 (by assumption) hS (by ((repeat (with_reducible apply mem_tl))); try assumption) (by (assumption))); decide +kernel; (try simp only [Act.put, q1, q2, q3])) | ((with_reducible apply arm_loadRN hS); exact wanted_none; exact ev_tmp rfl; assumption; (((repeat (with_reducible apply mem_tl))); (try assumption)); assumption; rfl; exact sz50; decide +kernel; decide; (try simp only [Act.put, q1, q2, q3])) | ((with_reducible apply arm_alloc hS); exact wanted_none; exact z50; clear hS; intro NB w hS; (try simp only [Act.put, q1, q2, q3])) | (((with_reducible apply arm_storeN hS); exact wanted_none; exact ev_tmp rfl; exact ev_tmp rfl; (repeat (with_reducible exact mem_hd)); rfl; (focus (simp; done)); (repeat (with_reducible exact Upd.hd)); rfl; exact sz50; rfl; clear hS; intro w hS; (try simp only [setFrom, q2, q3] at hS); (try simp only [Act.put, q1, q2, q3])); replace hS := mv3 hS) | ((with_reducible apply arm_store hS); exact wanted_none; exact ev_tmp rfl; exact ev_tmp rfl; (repeat (with_reducible exact mem_hd)); rfl; (focus (simp; done)); (repeat (with_reducible exact Upd.hd)); rfl; decide +kernel; clear hS; intro w hS; (try simp only [q2, q3] at hS); (try simp only [Act.put, q1, q2, q3])) | (go_at_call 124; refine (TR _ _ _ hS).mono ?_; clear hS; rintro e w ⟨rfl, hS⟩) | (go_at_call 106; refine (putR p _ _ _ _ _ _ _ _ (shut_pg rfl hS) _ (by simp; omega)).mono ?_; clear hS; rintro e w ⟨rfl, hS⟩; obtain ⟨PA, PC, hS⟩ := open_pg hS) | (go_at_call 105; refine (opensR p _ _ _ _ _ _ _ _ (shut_pg rfl hS) (by omega) (by omega)).mono ?_; clear hS; rintro e w ⟨rfl, hS⟩; obtain ⟨PA, PC, hS⟩ := open_pg hS) | (go_at_call 67; (first | with_reducible refine (OP0 _ _ _ _ _ _ hsc (by omega) (by have := HN.out; have := HZ.out; omega) (hP.tail _) (by omega) (by omega) (by omega) (by simp; omega) (shut_pg rfl hS)).mono ?_ | with_reducible refine (OP1 _ _ _ _ _ _ hsa (by omega) (by have := HN.out; have := HZ.out; omega) (hP.tail _) (by omega) (by omega) (by omega) (by simp; omega) (shut_pg rfl hS)).mono ?_ | with_reducible refine (OP2 _ _ _ _ _ _ hsb (by omega) (by have := HN.out; have := HZ.out; omega) (hP.tail _) (by omega) (by omega) (by omega) (by simp; omega) (shut_pg rfl hS)).mono ?_); clear hS; rintro e w ⟨rfl, hS⟩; obtain ⟨PA, PC, hS⟩ := open_pg hS))
  go_end0
  have f1 : l ++ X = l ++ [105, 116, 101, 40] ++ O0 ++ [44, 32] ++ O1 ++ [44, 32] ++ O2 ++ [41] := by rw [HX.out]; simp
  have f2 : M = max (max (max (max most (deep + 1)) (deep + 1 + c0)) (deep + 1 + c1)) (deep + 1 + c2) := by rw [HM.out]; omega
  refine ⟨rfl, ?_⟩
  rw [f1, f2]
  exact shut2 rfl hS

structure QI (fs : List (Int × Int)) (fr : List Int) (op : Int) (s N : Nat) (L : List UInt8) (deep M m : Int) (c : T) (cur : List UInt8) (k : Nat) (mk y : Int) : Prop where
  hy : y = ((s + size (.qu op m c) - 1 : Nat) : Int)
  hs : Sub fs fr s (.qu op m c)
  ht : okT (.qu op m c)
  hz : size (.qu op m c) ≤ N
  hX : cur ++ ([120] ++ Lib.itoa m ++ chain op c) = L
  hM : max mk (deep + k + (1 + lkd c true)) = M
  hc : cur.length + 50 * size (.qu op m c) ≤ 1000000010
  hd : deep + k + 4 * size (.qu op m c) ≤ 1000000
  h1 : deep + k ≤ mk
theorem QI.next {fs : List (Int × Int)} {fr : List Int} {op : Int} {s N : Nat} {L : List UInt8} {deep M m m' : Int} {c : T} {cur : List UInt8} {k : Nat} {mk y : Int} (h : QI fs fr op s N L deep M m (.qu op m' c) cur k mk y) :
    QI fs fr op s N L deep M m' c (cur ++ ([120] ++ Lib.itoa m) ++ [44, 32]) (k + 1) (max mk (deep + k + 1)) (y - 1) := by
  have h1 := h.hy
  have h2 := h.ht
  have h3 := h.hz
  have h4 := h.hM
  have h5 := h.hc
  have h6 := h.hd
  have h7 := h.h1
  have hl := Lib.itoa_length_le m (by have := h2.2.1; omega) (by have := h2.2.2.1; omega)
  simp only [size] at h1 h3 h5 h6
  rw [lkd_qu] at h4
  have hk := (lkd_le c true).1
  refine ⟨?_, h.hs.1, h2.2.2.2, ?_, ?_, ?_, ?_, ?_, ?_⟩
  · simp only [size]; omega
  · simp only [size]; omega
  · rw [← h.hX, chain_same]; simp
  · push_cast; omega
  · simp only [size, List.length_append, List.length_cons, List.length_nil]; omega
  · simp only [size]; push_cast; omega
  · push_cast; omega

set_option maxHeartbeats 4000000 in
theorem quantR (fs : List (Int × Int)) (fr : List Int) (op v : Int) (a : T) (ht : okT (.qu op v a)) (hsz : size (.qu op v a) ≤ 65536) (ih : ∀ u, size u < size (.qu op v a) → okT u → TreeC fs fr u) (s : Nat) (x : Int) (p : Nat) (af ar : Option Addr) (cf cr : Nat) (AF AR : HP) (l : List UInt8) (deep most : Int) (w0 w : World) (R : List HP)
    (hs : Sub fs fr s (.qu op v a)) (hb : s + size (.qu op v a) ≤ fs.length) (hx : x = ((s + size (.qu op v a) - 1 : Nat) : Int)) (hP : PgIn fs fr af ar AF AR R) (d0 : 0 ≤ deep) (d1 : deep ≤ most) (d2 : deep + 4 * size (.qu op v a) ≤ 1000000) (hll : l.length + 50 * size (.qu op v a) ≤ 1000000000)
    (hS : Sat w0 w (pg p (.slice af fs.length cf) (.slice ar fs.length cr) l deep most :: R)) :
    Calls Tryz.prog 128 #[.pointer (some ⟨p, 0, none⟩), .int .i64 x] w fun e w' => e = .returned (.tuple #[]) ∧ Sat w0 w' (pg p (.slice af fs.length cf) (.slice ar fs.length cr) (l ++ (spellP op ++ [120] ++ Lib.itoa v ++ chain op a)) deep (max most (deep + (1 + lkd a true))) :: R) := by
  obtain ⟨x0, x1, xN, xO, xM, xF, nf, nr⟩ := treeFacts hs hb hx (hP.tail _) hS
  have rf := hP.rf
  have mf := hP.mf
  have hnn := hP.hn
  simp only [rootOp, rootN] at xO xM
  obtain ⟨X, hX⟩ : ∃ X, X = spellP op ++ [120] ++ Lib.itoa v ++ chain op a := ⟨_, rfl⟩
  obtain ⟨M, hM⟩ : ∃ M, M = max most (deep + (1 + lkd a true)) := ⟨_, rfl⟩
  rw [← hX, ← hM]
  have HX := hid hX
  have HM := hid hM
  have HN := hid hx
  have HIH := hid ih
  have hop := ht.1
  have k3 : (spellP op).length ≤ 7 := by rcases hop with rfl | rfl <;> decide
  have HT := hid ht
  have HS := hid hs
  have HD := hid d1
  generalize hS1 : spellP op = S1 at *
  have HS1 := hid hS1
  clear hX hM hx ih xN xM xF hs ht hS1 d1
  obtain ⟨PA, PC, hS⟩ := open_pg hS
  obtain ⟨P0, Q0, hS1⟩ : ∃ P0 Q0, P0 = PA ∧ Q0 = PC := ⟨_, _, rfl, rfl⟩
  go_enter Tryz.func128, Tryz.ntmps128
  rcases hop with rfl | rfl
  · have HQ : QI fs fr 4 s (size (.qu 4 v a)) (l ++ X) deep M v a (l ++ spellP 4) 0 most x := by
      have hx := HN.out
      have hd := HD.out
      refine ⟨hx, HS.out, HT.out, Nat.le_refl _, ?_, ?_, ?_, ?_, ?_⟩
      · rw [HX.out, HS1.out]; simp
      · rw [HM.out]; simp
      · rw [HS1.out, List.length_append]; omega
      · simpa using d2
      · simpa using hd
    have HQ2 := hid HQ
    have hsp4 : spellP 4 = [101, 120, 105, 115, 116, 115, 32] := rfl
    rw [hsp4] at HQ2
    have HQQ := hid HQ2
    clear HQ HQ2 hsp4
    go_wp2_with (first | ((with_reducible apply arm_load hS); exact wanted_none; exact ev_tmp rfl; (repeat (with_reducible exact mem_hd)); rfl; decide +kernel; (try simp only [Act.put, q1, q2, q3])) | ((with_reducible apply arm_indexAddr); exact wanted_none; exact ev_tmp rfl; exact ev_tmp rfl; exact E22; (omega); (omega); (assumption); (rfl); (try simp only [Act.put, q1, q2, q3])) | ((with_reducible apply arm_fieldAddrE); exact wanted_none; exact ev_tmp rfl; (assumption); exact fo50_0; (try simp only [Act.put, q1, q2, q3])) | ((with_reducible apply arm_loadE); exact wanted_none; exact ev_tmp rfl; (exact Sat.rdCell2 (by assumption) hS (by ((repeat (with_reducible apply mem_tl))); try assumption) (by (assumption))); decide +kernel; (try simp only [Act.put, q1, q2, q3])) | (go_at_call 106; refine (putR p _ _ _ _ _ _ _ _ (shut_pg rfl hS) _ (by simp; omega)).mono ?_; clear hS; rintro e w ⟨rfl, hS⟩; obtain ⟨PA, PC, hS⟩ := open_pg hS))
    go_loopw [1, 5] (fun i n wr => ∃ (m : Int) (c : T) (cur : List UInt8) (k : Nat) (mk y : Int), i = .int .i64 y ∧ n = .int .i64 k ∧ Hid (QI fs fr 4 s (size (.qu 4 v a)) (l ++ X) deep M m c cur k mk y) ∧ Sat w0 wr (pg p (.slice af fs.length cf) (.slice ar fs.length cr) cur (deep + k) mk :: R)) (fun i _ _ => (intOf i).toNat)
    case atStart => exact ⟨v, a, _, 0, most, x, rfl, rfl, HQQ.out, by simpa using shut_pg rfl hS⟩
    case round =>
      clear hS
      obtain ⟨m, c, cur, k, mk, y, rfl, rfl, HQ, hS⟩ := hrel
      have hq := HQ.out
      have hub : s + size (.qu 4 m c) ≤ fs.length := by have := hq.hz; omega
      obtain ⟨y0, y1, _, _, yM, _, _, _⟩ := treeFacts hq.hs hub hq.hy (hP.tail _) hS
      have hsc : Sub fs fr s c := hq.hs.1
      have hkc : okT c := hq.ht.2.2.2
      have hpc := size_pos c
      have hyy := hq.hy
      have hzz := hq.hz
      have hcc := hq.hc
      have hdd := hq.hd
      have h11 := hq.h1
      simp only [size] at hyy hzz hcc hdd hub
      obtain ⟨v0, v1, _, vO, _, _, _, _⟩ := treeFacts (x := y - 1) hsc (by omega) (by omega) (hP.tail _) hS
      have hm1 := hq.ht.2.1
      have hm2 := hq.ht.2.2.1
      simp only [rootN] at yM
      obtain ⟨mn, rfl⟩ := Int.eq_ofNat_of_zero_le hm1
      have hil := Lib.itoa_length_le (mn : Int) (by omega) (by omega)
      rw [Lib.itoa_nonneg] at hil
      have fq : ∀ o : Int, (false || (quP o && !true)) = false := fun o => by cases quP o <;> rfl
      have OP := operandR fs fr c hkc (by omega) (HIH.out c (by simp only [size]; omega) hkc) s (y - 1) false true _ (fq _) p af ar cf cr AF AR
      have HYY := hid hyy
      have hyp : 1 ≤ y := by omega
      have hc0 := (lkd_le c true).1
      by_cases ho : rootOp c = 4
      · obtain ⟨m', c', rfl⟩ : ∃ m' c', c = .qu 4 m' c' := by
          cases c with
          | qu o m' c' => simp only [rootOp] at ho; subst ho; exact ⟨m', c', rfl⟩
          | bin o a b => simp only [rootOp] at ho; have := hkc.1; omega
          | _ => simp [rootOp] at ho
        have HNX := hid hq.next
        simp only [rootOp] at vO
        clear hq hyy ho OP
        obtain ⟨PA, PC, hS⟩ := open_pg hS
        go_wp2_with (first | ((with_reducible apply arm_load hS); exact wanted_none; exact ev_tmp rfl; (repeat (with_reducible first | exact mem_hd | apply mem_tl)); rfl; decide +kernel; (try simp only [Act.put, q1, q2, q3])) | ((with_reducible apply arm_indexAddr); exact wanted_none; exact ev_tmp rfl; exact ev_tmp rfl; exact E22; (omega); (omega); (assumption); (rfl); (try simp only [Act.put, q1, q2, q3])) | ((with_reducible apply arm_fieldAddrE); exact wanted_none; exact ev_tmp rfl; (assumption); (with_reducible first | exact fo50_0 | exact fo50_1); (try simp only [Act.put, q1, q2, q3])) | ((with_reducible apply arm_loadE); exact wanted_none; exact ev_tmp rfl; (exact Sat.rdCell2 (by assumption) hS (by ((repeat (with_reducible apply mem_tl))); try assumption) (by (assumption))); decide +kernel; (try simp only [Act.put, q1, q2, q3])) | ((with_reducible apply arm_addStr); exact wanted_none; exact ev_const; exact ev_tmp rfl; (simp only [List.length_append, List.length_cons, List.length_nil]; omega); (try simp only [Act.put, q1, q2, q3])) | (go_at_call 123; refine (decimal mn (by omega) _ _ _ hS).mono ?_; clear hS; rintro e w ⟨rfl, hS⟩) | (go_at_call 106; refine (putR p _ _ _ _ _ _ _ _ (shut_pg rfl hS) _ (by simp; omega)).mono ?_; clear hS; rintro e w ⟨rfl, hS⟩; obtain ⟨PA, PC, hS⟩ := open_pg hS) | (go_at_call 105; refine (opensR p _ _ _ _ _ _ _ _ (shut_pg rfl hS) (by omega) (by omega)).mono ?_; clear hS; rintro e w ⟨rfl, hS⟩; obtain ⟨PA, PC, hS⟩ := open_pg hS))
        go_roundw
        case rel => exact ⟨m', c', _, k + 1, _, y - 1, by go_num, by go_num, HNX.out, by rw [Lib.itoa_nonneg]; simpa [Int.add_assoc] using shut_pg rfl hS⟩
        case measure => simp [intOf]; omega
      · have hne : (rootOp c != 4) = true := by simp [ho]
        have hqf : isQu 4 c = false := by
          cases c with
          | qu o m' c' => simp only [rootOp] at ho; simp [isQu, ho]
          | _ => rfl
        have e1 : opB c false true = Go.Proofs.YthackanffcaejaaGreatDoor.wr c true := rfl
        have e2 : lkB c false true = lkd c true := rfl
        rw [e1, e2] at OP
        have HE1 := hid (show l ++ X = cur ++ ([120] ++ Lib.decDigits mn) ++ [58, 32] ++ Go.Proofs.YthackanffcaejaaGreatDoor.wr c true by rw [← hq.hX, chain_end hqf, Lib.itoa_nonneg]; simp)
        have HE2 := hid hq.hM
        generalize rootOp c = oc at *
        generalize Go.Proofs.YthackanffcaejaaGreatDoor.wr c true = O1 at *
        generalize lkd c true = c1 at *
        clear hq hyy ho hqf e1 e2
        obtain ⟨PA, PC, hS⟩ := open_pg hS
        go_wp2_with (first | ((with_reducible apply arm_load hS); exact wanted_none; exact ev_tmp rfl; (repeat (with_reducible first | exact mem_hd | apply mem_tl)); rfl; decide +kernel; (try simp only [Act.put, q1, q2, q3])) | ((with_reducible apply arm_indexAddr); exact wanted_none; exact ev_tmp rfl; exact ev_tmp rfl; exact E22; (omega); (omega); (assumption); (rfl); (try simp only [Act.put, q1, q2, q3])) | ((with_reducible apply arm_fieldAddrE); exact wanted_none; exact ev_tmp rfl; (assumption); (with_reducible first | exact fo50_0 | exact fo50_1); (try simp only [Act.put, q1, q2, q3])) | ((with_reducible apply arm_loadE); exact wanted_none; exact ev_tmp rfl; (exact Sat.rdCell2 (by assumption) hS (by ((repeat (with_reducible apply mem_tl))); try assumption) (by (assumption))); decide +kernel; (try simp only [Act.put, q1, q2, q3])) | ((with_reducible apply arm_store hS); exact wanted_none; exact ev_tmp rfl; exact ev_tmp rfl; (repeat (with_reducible exact mem_hd)); rfl; (focus (simp; done)); (repeat (with_reducible exact Upd.hd)); rfl; decide +kernel; clear hS; intro w hS; (try simp only [q2, q3] at hS); (try simp only [Act.put, q1, q2, q3])) | ((with_reducible apply arm_addStr); exact wanted_none; exact ev_const; exact ev_tmp rfl; (simp only [List.length_append, List.length_cons, List.length_nil]; omega); (try simp only [Act.put, q1, q2, q3])) | (go_at_call 123; refine (decimal mn (by omega) _ _ _ hS).mono ?_; clear hS; rintro e w ⟨rfl, hS⟩) | (go_at_call 106; refine (putR p _ _ _ _ _ _ _ _ (shut_pg rfl hS) _ (by simp; omega)).mono ?_; clear hS; rintro e w ⟨rfl, hS⟩; obtain ⟨PA, PC, hS⟩ := open_pg hS) | (go_at_call 105; refine (opensR p _ _ _ _ _ _ _ _ (shut_pg rfl hS) (by omega) (by omega)).mono ?_; clear hS; rintro e w ⟨rfl, hS⟩; obtain ⟨PA, PC, hS⟩ := open_pg hS) | (go_at_call 67; (with_reducible refine (OP _ _ _ _ _ _ hsc (by omega) (by have := HYY.out; omega) hP (by omega) (by omega) (by omega) (by simp; omega) (shut_pg rfl hS)).mono ?_); clear hS; rintro e w ⟨rfl, hS⟩; obtain ⟨PA, PC, hS⟩ := open_pg hS))
        go_end0
        rw [show deep + (k : Int) + 1 - ((k : Int) + 1) = deep by omega] at hS
        have f1 : l ++ X = cur ++ 120 :: Lib.decDigits mn ++ [58, 32] ++ O1 := by rw [HE1.out]; simp
        have f2 : M = max (max mk (deep + (k : Int) + 1)) (deep + (k : Int) + 1 + c1) := by rw [← HE2.out]; omega
        refine ⟨rfl, ?_⟩
        rw [f1, f2]
        exact shut_pg rfl hS
  · have HQ : QI fs fr 5 s (size (.qu 5 v a)) (l ++ X) deep M v a (l ++ spellP 5) 0 most x := by
      have hx := HN.out
      have hd := HD.out
      refine ⟨hx, HS.out, HT.out, Nat.le_refl _, ?_, ?_, ?_, ?_, ?_⟩
      · rw [HX.out, HS1.out]; simp
      · rw [HM.out]; simp
      · rw [HS1.out, List.length_append]; omega
      · simpa using d2
      · simpa using hd
    have HQ2 := hid HQ
    have hsp4 : spellP 5 = [102, 111, 114, 97, 108, 108, 32] := rfl
    rw [hsp4] at HQ2
    have HQQ := hid HQ2
    clear HQ HQ2 hsp4
    go_wp2_with (first | ((with_reducible apply arm_load hS); exact wanted_none; exact ev_tmp rfl; (repeat (with_reducible exact mem_hd)); rfl; decide +kernel; (try simp only [Act.put, q1, q2, q3])) | ((with_reducible apply arm_indexAddr); exact wanted_none; exact ev_tmp rfl; exact ev_tmp rfl; exact E22; (omega); (omega); (assumption); (rfl); (try simp only [Act.put, q1, q2, q3])) | ((with_reducible apply arm_fieldAddrE); exact wanted_none; exact ev_tmp rfl; (assumption); exact fo50_0; (try simp only [Act.put, q1, q2, q3])) | ((with_reducible apply arm_loadE); exact wanted_none; exact ev_tmp rfl; (exact Sat.rdCell2 (by assumption) hS (by ((repeat (with_reducible apply mem_tl))); try assumption) (by (assumption))); decide +kernel; (try simp only [Act.put, q1, q2, q3])) | (go_at_call 106; refine (putR p _ _ _ _ _ _ _ _ (shut_pg rfl hS) _ (by simp; omega)).mono ?_; clear hS; rintro e w ⟨rfl, hS⟩; obtain ⟨PA, PC, hS⟩ := open_pg hS))
    go_loopw [1, 5] (fun i n wr => ∃ (m : Int) (c : T) (cur : List UInt8) (k : Nat) (mk y : Int), i = .int .i64 y ∧ n = .int .i64 k ∧ Hid (QI fs fr 5 s (size (.qu 5 v a)) (l ++ X) deep M m c cur k mk y) ∧ Sat w0 wr (pg p (.slice af fs.length cf) (.slice ar fs.length cr) cur (deep + k) mk :: R)) (fun i _ _ => (intOf i).toNat)
    case atStart => exact ⟨v, a, _, 0, most, x, rfl, rfl, HQQ.out, by simpa using shut_pg rfl hS⟩
    case round =>
      clear hS
      obtain ⟨m, c, cur, k, mk, y, rfl, rfl, HQ, hS⟩ := hrel
      have hq := HQ.out
      have hub : s + size (.qu 5 m c) ≤ fs.length := by have := hq.hz; omega
      obtain ⟨y0, y1, _, _, yM, _, _, _⟩ := treeFacts hq.hs hub hq.hy (hP.tail _) hS
      have hsc : Sub fs fr s c := hq.hs.1
      have hkc : okT c := hq.ht.2.2.2
      have hpc := size_pos c
      have hyy := hq.hy
      have hzz := hq.hz
      have hcc := hq.hc
      have hdd := hq.hd
      have h11 := hq.h1
      simp only [size] at hyy hzz hcc hdd hub
      obtain ⟨v0, v1, _, vO, _, _, _, _⟩ := treeFacts (x := y - 1) hsc (by omega) (by omega) (hP.tail _) hS
      have hm1 := hq.ht.2.1
      have hm2 := hq.ht.2.2.1
      simp only [rootN] at yM
      obtain ⟨mn, rfl⟩ := Int.eq_ofNat_of_zero_le hm1
      have hil := Lib.itoa_length_le (mn : Int) (by omega) (by omega)
      rw [Lib.itoa_nonneg] at hil
      have fq : ∀ o : Int, (false || (quP o && !true)) = false := fun o => by cases quP o <;> rfl
      have OP := operandR fs fr c hkc (by omega) (HIH.out c (by simp only [size]; omega) hkc) s (y - 1) false true _ (fq _) p af ar cf cr AF AR
      have HYY := hid hyy
      have hyp : 1 ≤ y := by omega
      have hc0 := (lkd_le c true).1
      by_cases ho : rootOp c = 5
      · obtain ⟨m', c', rfl⟩ : ∃ m' c', c = .qu 5 m' c' := by
          cases c with
          | qu o m' c' => simp only [rootOp] at ho; subst ho; exact ⟨m', c', rfl⟩
          | bin o a b => simp only [rootOp] at ho; have := hkc.1; omega
          | _ => simp [rootOp] at ho
        have HNX := hid hq.next
        simp only [rootOp] at vO
        clear hq hyy ho OP
        obtain ⟨PA, PC, hS⟩ := open_pg hS
        go_wp2_with (first | ((with_reducible apply arm_load hS); exact wanted_none; exact ev_tmp rfl; (repeat (with_reducible first | exact mem_hd | apply mem_tl)); rfl; decide +kernel; (try simp only [Act.put, q1, q2, q3])) | ((with_reducible apply arm_indexAddr); exact wanted_none; exact ev_tmp rfl; exact ev_tmp rfl; exact E22; (omega); (omega); (assumption); (rfl); (try simp only [Act.put, q1, q2, q3])) | ((with_reducible apply arm_fieldAddrE); exact wanted_none; exact ev_tmp rfl; (assumption); (with_reducible first | exact fo50_0 | exact fo50_1); (try simp only [Act.put, q1, q2, q3])) | ((with_reducible apply arm_loadE); exact wanted_none; exact ev_tmp rfl; (exact Sat.rdCell2 (by assumption) hS (by ((repeat (with_reducible apply mem_tl))); try assumption) (by (assumption))); decide +kernel; (try simp only [Act.put, q1, q2, q3])) | ((with_reducible apply arm_addStr); exact wanted_none; exact ev_const; exact ev_tmp rfl; (simp only [List.length_append, List.length_cons, List.length_nil]; omega); (try simp only [Act.put, q1, q2, q3])) | (go_at_call 123; refine (decimal mn (by omega) _ _ _ hS).mono ?_; clear hS; rintro e w ⟨rfl, hS⟩) | (go_at_call 106; refine (putR p _ _ _ _ _ _ _ _ (shut_pg rfl hS) _ (by simp; omega)).mono ?_; clear hS; rintro e w ⟨rfl, hS⟩; obtain ⟨PA, PC, hS⟩ := open_pg hS) | (go_at_call 105; refine (opensR p _ _ _ _ _ _ _ _ (shut_pg rfl hS) (by omega) (by omega)).mono ?_; clear hS; rintro e w ⟨rfl, hS⟩; obtain ⟨PA, PC, hS⟩ := open_pg hS))
        go_roundw
        case rel => exact ⟨m', c', _, k + 1, _, y - 1, by go_num, by go_num, HNX.out, by rw [Lib.itoa_nonneg]; simpa [Int.add_assoc] using shut_pg rfl hS⟩
        case measure => simp [intOf]; omega
      · have hne : (rootOp c != 5) = true := by simp [ho]
        have hqf : isQu 5 c = false := by
          cases c with
          | qu o m' c' => simp only [rootOp] at ho; simp [isQu, ho]
          | _ => rfl
        have e1 : opB c false true = Go.Proofs.YthackanffcaejaaGreatDoor.wr c true := rfl
        have e2 : lkB c false true = lkd c true := rfl
        rw [e1, e2] at OP
        have HE1 := hid (show l ++ X = cur ++ ([120] ++ Lib.decDigits mn) ++ [58, 32] ++ Go.Proofs.YthackanffcaejaaGreatDoor.wr c true by rw [← hq.hX, chain_end hqf, Lib.itoa_nonneg]; simp)
        have HE2 := hid hq.hM
        generalize rootOp c = oc at *
        generalize Go.Proofs.YthackanffcaejaaGreatDoor.wr c true = O1 at *
        generalize lkd c true = c1 at *
        clear hq hyy ho hqf e1 e2
        obtain ⟨PA, PC, hS⟩ := open_pg hS
        go_wp2_with (first | ((with_reducible apply arm_load hS); exact wanted_none; exact ev_tmp rfl; (repeat (with_reducible first | exact mem_hd | apply mem_tl)); rfl; decide +kernel; (try simp only [Act.put, q1, q2, q3])) | ((with_reducible apply arm_indexAddr); exact wanted_none; exact ev_tmp rfl; exact ev_tmp rfl; exact E22; (omega); (omega); (assumption); (rfl); (try simp only [Act.put, q1, q2, q3])) | ((with_reducible apply arm_fieldAddrE); exact wanted_none; exact ev_tmp rfl; (assumption); (with_reducible first | exact fo50_0 | exact fo50_1); (try simp only [Act.put, q1, q2, q3])) | ((with_reducible apply arm_loadE); exact wanted_none; exact ev_tmp rfl; (exact Sat.rdCell2 (by assumption) hS (by ((repeat (with_reducible apply mem_tl))); try assumption) (by (assumption))); decide +kernel; (try simp only [Act.put, q1, q2, q3])) | ((with_reducible apply arm_store hS); exact wanted_none; exact ev_tmp rfl; exact ev_tmp rfl; (repeat (with_reducible exact mem_hd)); rfl; (focus (simp; done)); (repeat (with_reducible exact Upd.hd)); rfl; decide +kernel; clear hS; intro w hS; (try simp only [q2, q3] at hS); (try simp only [Act.put, q1, q2, q3])) | ((with_reducible apply arm_addStr); exact wanted_none; exact ev_const; exact ev_tmp rfl; (simp only [List.length_append, List.length_cons, List.length_nil]; omega); (try simp only [Act.put, q1, q2, q3])) | (go_at_call 123; refine (decimal mn (by omega) _ _ _ hS).mono ?_; clear hS; rintro e w ⟨rfl, hS⟩) | (go_at_call 106; refine (putR p _ _ _ _ _ _ _ _ (shut_pg rfl hS) _ (by simp; omega)).mono ?_; clear hS; rintro e w ⟨rfl, hS⟩; obtain ⟨PA, PC, hS⟩ := open_pg hS) | (go_at_call 105; refine (opensR p _ _ _ _ _ _ _ _ (shut_pg rfl hS) (by omega) (by omega)).mono ?_; clear hS; rintro e w ⟨rfl, hS⟩; obtain ⟨PA, PC, hS⟩ := open_pg hS) | (go_at_call 67; (with_reducible refine (OP _ _ _ _ _ _ hsc (by omega) (by have := HYY.out; omega) hP (by omega) (by omega) (by omega) (by simp; omega) (shut_pg rfl hS)).mono ?_); clear hS; rintro e w ⟨rfl, hS⟩; obtain ⟨PA, PC, hS⟩ := open_pg hS))
        go_end0
        rw [show deep + (k : Int) + 1 - ((k : Int) + 1) = deep by omega] at hS
        have f1 : l ++ X = cur ++ 120 :: Lib.decDigits mn ++ [58, 32] ++ O1 := by rw [HE1.out]; simp
        have f2 : M = max (max mk (deep + (k : Int) + 1)) (deep + (k : Int) + 1 + c1) := by rw [← HE2.out]; omega
        refine ⟨rfl, ?_⟩
        rw [f1, f2]
        exact shut_pg rfl hS


set_option maxHeartbeats 4000000 in
theorem treeQu (fs : List (Int × Int)) (fr : List Int) (op v : Int) (a : T) (ht : okT (.qu op v a)) (hsz : size (.qu op v a) ≤ 65536) (ih : ∀ u, size u < size (.qu op v a) → okT u → TreeC fs fr u) : TreeC fs fr (.qu op v a) := by
  intro s x last p af ar cf cr AF AR l deep most w0 w R hs hb hx hP d0 d1 d2 hll hS
  obtain ⟨x0, x1, xN, xO, xM, xF, nf, nr⟩ := treeFacts hs hb hx (hP.tail _) hS
  have rf := hP.rf
  have rr := hP.rr
  have mf := hP.mf
  have mr := hP.mr
  have hln := hP.hl
  have hnn := hP.hn
  have HN := hid hx
  have HZ := hid True.intro
  obtain ⟨X, hX⟩ : ∃ X, X = wr (.qu op v a) last := ⟨_, rfl⟩
  obtain ⟨M, hM⟩ : ∃ M, M = max most (deep + lkd (.qu op v a) last) := ⟨_, rfl⟩
  rw [← hX, ← hM]
  simp only [rootOp, rootN] at xN xO xM
  have QR := quantR fs fr op v a ht hsz ih s x p af ar cf cr AF AR l deep most
  rw [wr_qu] at hX
  rw [lkd_qu] at hM
  rw [← hX, ← hM] at QR
  have hop := ht.1
  have HXX := hid hx
  clear hX hM hx ih xO xM xF ht
  rcases hop with rfl | rfl
  all_goals
    have TR4 : ∀ (w0 w : World) (Hs : List HP), Sat w0 w Hs → Calls Tryz.prog 124 #[.int .i64 4] w fun e w' => e = .returned (.bool false) ∧ Sat w0 w' Hs := fun w0 w Hs h => twoR 4 w0 w Hs h
    have TR5 : ∀ (w0 w : World) (Hs : List HP), Sat w0 w Hs → Calls Tryz.prog 124 #[.int .i64 5] w fun e w' => e = .returned (.bool false) ∧ Sat w0 w' Hs := fun w0 w Hs h => twoR 5 w0 w Hs h
    obtain ⟨PA, PC, hS⟩ := open_pg hS
    go_enter Tryz.func104, Tryz.ntmps104
    go_wp2_with (first | ((with_reducible apply arm_load hS); exact wanted_none; exact ev_tmp rfl; (repeat (with_reducible first | exact mem_hd | apply mem_tl)); rfl; decide +kernel; (try simp only [Act.put, q1, q2, q3])) | ((with_reducible apply arm_indexAddr); exact wanted_none; exact ev_tmp rfl; exact ev_tmp rfl; exact E22; (omega); (omega); (assumption); (rfl); (try simp only [Act.put, q1, q2, q3])) | ((with_reducible apply arm_loadRN hS); exact wanted_none; exact ev_tmp rfl; assumption; (((repeat (with_reducible apply mem_tl))); (try assumption)); assumption; rfl; exact sz50; decide +kernel; decide; (try simp only [Act.put, q1, q2, q3])) | ((with_reducible apply arm_alloc hS); exact wanted_none; exact z50; clear hS; intro NB w hS; (try simp only [Act.put, q1, q2, q3])) | (((with_reducible apply arm_storeN hS); exact wanted_none; exact ev_tmp rfl; exact ev_tmp rfl; (repeat (with_reducible exact mem_hd)); rfl; (focus (simp; done)); (repeat (with_reducible exact Upd.hd)); rfl; exact sz50; rfl; clear hS; intro w hS; (try simp only [setFrom, q2, q3] at hS); (try simp only [Act.put, q1, q2, q3])); replace hS := mv3 hS) | (go_at_call 124; (first | with_reducible refine (TR4 _ _ _ hS).mono ?_ | with_reducible refine (TR5 _ _ _ hS).mono ?_); clear hS; rintro e w ⟨rfl, hS⟩) | (go_at_call 128; refine (QR _ _ _ hs hb HXX.out (hP.tail _) d0 d1 d2 hll (shut_pg rfl hS)).mono ?_; clear hS; rintro e w ⟨rfl, hS⟩))
    go_end0
    exact ⟨rfl, (hS.front (Rem.tl Rem.hd)).drop⟩

theorem treeAll (fs : List (Int × Int)) (fr : List Int) : ∀ (n : Nat) (t : T), size t = n → okT t → size t ≤ 65536 → TreeC fs fr t := by
  intro n
  induction n using Nat.strongRecOn with
  | _ n ih =>
    intro t hn ht hs
    subst hn
    cases t with
    | cst m => exact treeCst fs fr m ht
    | var m => exact treeVar fs fr m ht
    | neg a => exact treeNeg fs fr a ht hs (ih _ (by simp [size]) a rfl ht (by simp [size] at hs; omega))
    | qu op m a => exact treeQu fs fr op m a ht hs fun u hu hk => ih _ hu u rfl hk (by omega)
    | bin op a b => exact treeBin fs fr op a b ht hs (ih _ (by simp [size]; omega) a rfl ht.2.2.1 (by simp [size] at hs; omega)) (ih _ (by simp [size]; omega) b rfl ht.2.2.2 (by simp [size] at hs; omega))
    | ite c a b => exact treeIte fs fr c a b ht hs (ih _ (by simp [size]; omega) c rfl ht.1 (by simp [size] at hs; omega)) (ih _ (by simp [size]; omega) a rfl ht.2.1 (by simp [size] at hs; omega)) (ih _ (by simp [size]; omega) b rfl ht.2.2 (by simp [size] at hs; omega))
end Go.Proofs.YthackanffcaejaaGreatDoor
end
section
set_option linter.unusedSimpArgs false
set_option linter.unusedVariables false
set_option linter.unusedSectionVars false
set_option maxRecDepth 20000
namespace Go.Proofs.YthackanffcaejaaGreatDoor
open Go Go.RowKit Go.SL

def arR (op : Int) : Int := if op = 1 ∨ op = 2 then 0 else if 3 ≤ op ∧ op ≤ 5 then 1 else if 6 ≤ op ∧ op ≤ 10 then 2 else if op = 11 then 3 else -1
def ndR (op n : Int) : Bool := if op = 1 then decide (n = 0) || decide (n = 1) else if op = 2 ∨ op = 4 ∨ op = 5 then decide (0 ≤ n) && decide (n < 65536) else decide (0 < arR op) && decide (n = 0)
theorem nd_yes {op n : Int} (h : ndR op n = true) : arityP op n = arR op := by
  unfold ndR at h
  split at h
  · rename_i h1
    subst h1
    have hn : n = 0 ∨ n = 1 := by simpa using h
    unfold arityP
    rw [if_pos (.inl ⟨rfl, hn⟩)]; rfl
  split at h
  · rename_i h1 h2
    have hn : 0 ≤ n ∧ n < 65536 := by simpa using h
    unfold arityP arR
    rcases h2 with rfl | rfl | rfl
    · rw [if_pos (.inr ⟨rfl, hn⟩)]; rfl
    · rw [if_neg (by omega), if_pos (.inr ⟨.inl rfl, hn⟩)]; rfl
    · rw [if_neg (by omega), if_pos (.inr ⟨.inr rfl, hn⟩)]; rfl
  · have hn : 0 < arR op ∧ n = 0 := by simpa using h
    obtain ⟨h3, rfl⟩ := hn
    unfold arityP
    unfold arR at h3 ⊢
    (repeat' split) <;> (repeat' split at h3) <;> omega
theorem nd_no {op n : Int} (h : ndR op n = false) : arityP op n < 0 := by
  unfold ndR at h
  split at h
  · rename_i h1
    subst h1
    have hn : ¬ n = 0 ∧ ¬ n = 1 := by simpa using h
    unfold arityP; (repeat' split) <;> omega
  split at h
  · rename_i h1 h2
    have hn : 0 ≤ n → ¬ n < 65536 := by simpa using h
    unfold arityP; (repeat' split) <;> omega
  · have hn : 0 < arR op → ¬ n = 0 := by simpa using h
    unfold arityP
    unfold arR at hn
    (repeat' split) <;> (repeat' split at hn) <;> omega
theorem arR_cases (op : Int) : (op = 1 ∨ op = 2) ∧ arR op = 0 ∨ (¬ op = 1 ∧ ¬ op = 2) ∧ (3 ≤ op ∧ op ≤ 5) ∧ arR op = 1 ∨ (¬ op = 1 ∧ ¬ op = 2) ∧ (6 ≤ op ∧ op ≤ 10) ∧ arR op = 2 ∨ op = 11 ∧ arR op = 3 ∨ (¬ op = 1 ∧ ¬ op = 2) ∧ ¬ op = 11 ∧ (op < 3 ∨ 11 < op) ∧ arR op = -1 := by
  unfold arR; (repeat' split) <;> omega

theorem arityR (op : Int) (w0 w : World) (Hs : List HP) (hS : Sat w0 w Hs) : Calls Tryz.prog 93 #[.int .i64 op] w fun e w' => e = .returned (.int .i64 (arR op)) ∧ Sat w0 w' Hs := by
  rcases arR_cases op with ⟨h, ha⟩ | ⟨⟨n1, n2⟩, ⟨h1, h2⟩, ha⟩ | ⟨⟨n1, n2⟩, ⟨h1, h2⟩, ha⟩ | ⟨h, ha⟩ | ⟨⟨n1, n2⟩, n3, h, ha⟩ <;> rw [ha] <;> clear ha
  · rcases h with rfl | rfl
    all_goals
      go_enter Tryz.func93, Tryz.ntmps93
      go_wp2
      go_ret
      exact ⟨rfl, hS⟩
  · have g1 : (op == 1) = false := by simp [n1]
    have g2 : (op == 2) = false := by simp [n2]
    clear n1 n2
    go_enter Tryz.func93, Tryz.ntmps93
    go_wp2
    go_ret
    exact ⟨rfl, hS⟩
  · have g1 : (op == 1) = false := by simp [n1]
    have g2 : (op == 2) = false := by simp [n2]
    have g3 : 3 ≤ op := by omega
    have g4 : ¬ op ≤ 5 := by omega
    clear n1 n2
    go_enter Tryz.func93, Tryz.ntmps93
    go_wp2
    go_ret
    exact ⟨rfl, hS⟩
  · subst h
    go_enter Tryz.func93, Tryz.ntmps93
    go_wp2
    go_ret
    exact ⟨rfl, hS⟩
  · have g1 : (op == 1) = false := by simp [n1]
    have g2 : (op == 2) = false := by simp [n2]
    have g5 : (op == 11) = false := by simp [n3]
    clear n1 n2 n3
    rcases h with h | h
    · have g3 : ¬ 3 ≤ op := by omega
      have g4 : ¬ 6 ≤ op := by omega
      clear h
      go_enter Tryz.func93, Tryz.ntmps93
      go_wp2
      go_ret
      exact ⟨rfl, hS⟩
    · have g3 : 3 ≤ op := by omega
      have g4 : ¬ op ≤ 5 := by omega
      have g6 : 6 ≤ op := by omega
      have g7 : ¬ op ≤ 10 := by omega
      clear h
      go_enter Tryz.func93, Tryz.ntmps93
      go_wp2
      go_ret
      exact ⟨rfl, hS⟩
set_option maxHeartbeats 4000000 in
theorem nodeR (op n : Int) (w0 w : World) (Hs : List HP) (hS : Sat w0 w Hs) : Calls Tryz.prog 92 #[.agg #[.int .i64 op, .int .i64 n]] w fun e w' => e = .returned (.bool (ndR op n)) ∧ Sat w0 w' Hs := by
  have pf : ∀ r, ndR op n = r → Calls Tryz.prog 92 #[.agg #[.int .i64 op, .int .i64 n]] w (fun e w' => e = .returned (.bool r) ∧ Sat w0 w' Hs) → Calls Tryz.prog 92 #[.agg #[.int .i64 op, .int .i64 n]] w fun e w' => e = .returned (.bool (ndR op n)) ∧ Sat w0 w' Hs := fun r h k => by rw [h]; exact k
  by_cases o1 : op = 1
  · subst o1
    by_cases q0 : n = 0
    · subst q0
      refine pf true rfl ?_
      go_enter Tryz.func92, Tryz.ntmps92
      go_wp2_with (first | ((with_reducible apply arm_box hS); exact wanted_none; exact ev_tmp rfl; exact cells_agg; clear hS; intro NB w hS; (try simp only [Act.put, q1, q2, q3])) | ((with_reducible apply arm_load hS); exact wanted_none; exact ev_tmp rfl; (repeat (with_reducible exact mem_hd)); rfl; decide +kernel; (try simp only [Act.put, q1, q2, q3])))
      go_ret
      exact ⟨rfl, hS.drop⟩
    · refine pf (n == 1) (by by_cases h : n = 1 <;> simp [ndR, q0, h]) ?_
      have g0 : (n == 0) = false := by simp [q0]
      clear q0 pf
      go_enter Tryz.func92, Tryz.ntmps92
      go_wp2_with (first | ((with_reducible apply arm_box hS); exact wanted_none; exact ev_tmp rfl; exact cells_agg; clear hS; intro NB w hS; (try simp only [Act.put, q1, q2, q3])) | ((with_reducible apply arm_load hS); (first | with_reducible exact wanted_none | exact wanted_guard rfl rfl); exact ev_tmp rfl; (repeat (with_reducible exact mem_hd)); rfl; decide +kernel; (try simp only [Act.put, q1, q2, q3])))
      go_ret
      exact ⟨by rfl, hS.drop⟩
  by_cases o2 : op = 2 ∨ op = 4 ∨ op = 5
  · by_cases q0 : 0 ≤ n
    · by_cases q1 : n < 65536
      · refine pf true (by simp [ndR, o1, o2, q0, q1]) ?_
        clear o1 pf
        rcases o2 with rfl | rfl | rfl
        all_goals
          go_enter Tryz.func92, Tryz.ntmps92
          go_wp2_with (first | ((with_reducible apply arm_box hS); exact wanted_none; exact ev_tmp rfl; exact cells_agg; clear hS; intro NB w hS; (try simp only [Act.put, q1, q2, q3])) | ((with_reducible apply arm_load hS); (first | with_reducible exact wanted_none | exact wanted_guard rfl rfl); exact ev_tmp rfl; (repeat (with_reducible exact mem_hd)); rfl; decide +kernel; (try simp only [Act.put, q1, q2, q3])))
          go_ret
          exact ⟨by rfl, hS.drop⟩
      · refine pf false (by simp [ndR, o1, o2, q0, q1]) ?_
        clear o1 pf
        rcases o2 with rfl | rfl | rfl
        all_goals
          go_enter Tryz.func92, Tryz.ntmps92
          go_wp2_with (first | ((with_reducible apply arm_box hS); exact wanted_none; exact ev_tmp rfl; exact cells_agg; clear hS; intro NB w hS; (try simp only [Act.put, q1, q2, q3])) | ((with_reducible apply arm_load hS); (first | with_reducible exact wanted_none | exact wanted_guard rfl rfl); exact ev_tmp rfl; (repeat (with_reducible exact mem_hd)); rfl; decide +kernel; (try simp only [Act.put, q1, q2, q3])))
          go_ret
          exact ⟨by rfl, hS.drop⟩
    · refine pf false (by simp [ndR, o1, o2, q0]) ?_
      clear o1 pf
      rcases o2 with rfl | rfl | rfl
      all_goals
        go_enter Tryz.func92, Tryz.ntmps92
        go_wp2_with (first | ((with_reducible apply arm_box hS); exact wanted_none; exact ev_tmp rfl; exact cells_agg; clear hS; intro NB w hS; (try simp only [Act.put, q1, q2, q3])) | ((with_reducible apply arm_load hS); exact wanted_none; exact ev_tmp rfl; (repeat (with_reducible exact mem_hd)); rfl; decide +kernel; (try simp only [Act.put, q1, q2, q3])))
        go_ret
        exact ⟨by rfl, hS.drop⟩
  · have AR := arityR op
    have g1 : (op == 1) = false := by simp [o1]
    have g2 : (op == 2) = false := by simp; omega
    have g4 : (op == 4) = false := by simp; omega
    have g5 : (op == 5) = false := by simp; omega
    by_cases q0 : 0 < arR op
    · refine pf (n == 0) (by by_cases h : n = 0 <;> simp [ndR, o1, o2, q0, h]) ?_
      clear o1 o2 pf
      generalize arR op = k at *
      go_enter Tryz.func92, Tryz.ntmps92
      go_wp2_with (first | ((with_reducible apply arm_box hS); exact wanted_none; exact ev_tmp rfl; exact cells_agg; clear hS; intro NB w hS; (try simp only [Act.put, q1, q2, q3])) | ((with_reducible apply arm_load hS); (first | with_reducible exact wanted_none | exact wanted_guard rfl rfl); exact ev_tmp rfl; (repeat (with_reducible exact mem_hd)); rfl; decide +kernel; (try simp only [Act.put, q1, q2, q3])) | (go_at_call 93; refine (AR _ _ _ hS).mono ?_; clear hS; rintro e w ⟨rfl, hS⟩))
      go_ret
      exact ⟨by rfl, hS.drop⟩
    · refine pf false (by simp [ndR, o1, o2, q0]) ?_
      clear o1 o2 pf
      generalize arR op = k at *
      go_enter Tryz.func92, Tryz.ntmps92
      go_wp2_with (first | ((with_reducible apply arm_box hS); exact wanted_none; exact ev_tmp rfl; exact cells_agg; clear hS; intro NB w hS; (try simp only [Act.put, q1, q2, q3])) | ((with_reducible apply arm_load hS); exact wanted_none; exact ev_tmp rfl; (repeat (with_reducible exact mem_hd)); rfl; decide +kernel; (try simp only [Act.put, q1, q2, q3])) | (go_at_call 93; refine (AR _ _ _ hS).mono ?_; clear hS; rintro e w ⟨rfl, hS⟩))
      go_ret
      exact ⟨by rfl, hS.drop⟩
end Go.Proofs.YthackanffcaejaaGreatDoor
end
