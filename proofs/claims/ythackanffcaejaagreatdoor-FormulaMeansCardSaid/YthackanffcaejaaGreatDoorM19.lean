/- A part of the proof: Form13. -/
import Derived.Test.YthackanffcaejaaGreatDoorM1
import Derived.Test.YthackanffcaejaaGreatDoorM18
set_option linter.unusedSimpArgs false
set_option linter.unusedVariables false
set_option linter.unusedSectionVars false
set_option maxRecDepth 20000
namespace Go.Proofs.YthackanffcaejaaGreatDoor
open Go Go.RowKit Go.SL

theorem mv3 {w0 w : World} {A B C : HP} {R : List HP} (hS : Sat w0 w (A :: B :: C :: R)) : Sat w0 w (B :: C :: A :: R) := (hS.front (Rem.tl (Rem.tl Rem.hd))).front (Rem.tl (Rem.tl Rem.hd))
theorem PgIn.tail {fs : List (Int × Int)} {fr : List Int} {af ar : Option Addr} {AF AR : HP} {R : List HP} (h : PgIn fs fr af ar AF AR R) (A : HP) : PgIn fs fr af ar AF AR (A :: R) := ⟨h.rf, h.rr, .tail _ h.mf, .tail _ h.mr, h.hl, h.hn⟩
theorem shut2 {w0 w : World} {R : List HP} {A : HP} {p : Nat} {x y : Value} {l : List UInt8} {deep most : Int} {ad : Option Addr} {n cap : Nat} (hn : n = l.length)
    (hS : Sat w0 w (blk p 68 [x, y, .slice ad n cap, .int .i64 deep, .int .i64 most] :: own 5 1 ad n cap (Bs l) :: A :: R)) : Sat w0 w (pg p x y l deep most :: R) :=
  ((shut_pg hn hS).front (Rem.tl Rem.hd)).drop
theorem cnt0 (op side : Int) (a : T) (last : Bool) : 0 ≤ cnt op side a last (look a) := by
  obtain ⟨l1, l2, l3, l4⟩ := look_le a
  exact (cnt_le (n := 2 * size a) l1 l2 l3 l4).1
theorem treeFacts {fs : List (Int × Int)} {fr : List Int} {t : T} {s : Nat} {x : Int} {af ar : Option Addr} {AF AR : HP} {R : List HP} {w0 w : World} (hs : Sub fs fr s t) (hb : s + size t ≤ fs.length) (hx : x = ((s + size t - 1 : Nat) : Int))
    (hP : PgIn fs fr af ar AF AR R) (hS : Sat w0 w R) : 0 ≤ x ∧ x < fs.length ∧ ((Fs fs).drop (x.toNat * 2)).take 2 = [.int .i64 (rootOp t), .int .i64 (rootN t)] ∧ (Fs fs)[x.toNat * 2 + 0]? = some (.int .i64 (rootOp t)) ∧ (Fs fs)[x.toNat * 2 + 1]? = some (.int .i64 (rootN t)) ∧ (Is fr)[x.toNat]? = some (.int .i64 (s : Int)) ∧ (∃ aa, af = some aa ∧ aa.spot = none) ∧ (∃ aa, ar = some aa ∧ aa.spot = none) := by
  have hsp := size_pos t
  have hroot := hs.root
  have hxn : x.toNat = s + size t - 1 := by omega
  rw [← hxn] at hroot
  exact ⟨by omega, by omega, Fs_at hroot.1, (Fs_cell hroot.1).1, (Fs_cell hroot.1).2, Is_at hroot.2, Sat.rdAd2 hP.rf hS hP.mf (by rw [Fs_length]; omega), Sat.rdAd2 hP.rr hS hP.mr (by rw [Is_length, hP.hl]; omega)⟩

set_option maxHeartbeats 4000000 in
theorem treeCst (fs : List (Int × Int)) (fr : List Int) (n : Int) (ht : okT (.cst n)) : TreeC fs fr (.cst n) := by
  intro s x last p af ar cf cr AF AR l deep most w0 w R hs hb hx hP d0 d1 d2 hll hS
  obtain ⟨x0, x1, xN, xO, xM, xF, nf, nr⟩ := treeFacts hs hb hx (hP.tail _) hS
  have rf := hP.rf
  have rr := hP.rr
  have mf := hP.mf
  have mr := hP.mr
  have hln := hP.hl
  have hnn := hP.hn
  have HN := hid hx
  have HZ := hid True.intro
  obtain ⟨X, hX⟩ : ∃ X, X = wr (.cst n) last := ⟨_, rfl⟩
  obtain ⟨M, hM⟩ : ∃ M, M = max most (deep + lkd (.cst n) last) := ⟨_, rfl⟩
  rw [← hX, ← hM]
  simp only [rootOp, rootN] at xN xO xM
  have hM2 : M = most := by rw [hM]; cases last <;> simp only [lkd, look] <;> simp <;> omega
  simp only [size] at hll d2
  rw [wr_cst] at hX
  subst hM2
  have hk : n = 0 ∨ n = 1 := ht
  clear hM ht xO xM xF hx
  rcases hk with rfl | rfl
  all_goals
    have HX := hid hX
    clear hX
    obtain ⟨PA, PC, hS⟩ := open_pg hS
    go_enter Tryz.func104, Tryz.ntmps104
    go_wp2_with (first | ((with_reducible apply arm_load hS); (first | with_reducible exact wanted_none | exact wanted_guard rfl rfl); exact ev_tmp rfl; (repeat (with_reducible first | exact mem_hd | apply mem_tl)); rfl; decide +kernel; (try simp only [Act.put, q1, q2, q3])) | ((with_reducible apply arm_indexAddr); exact wanted_none; exact ev_tmp rfl; exact ev_tmp rfl; exact E22; (omega); (omega); (assumption); (rfl); (try simp only [Act.put, q1, q2, q3])) | ((with_reducible apply arm_loadRN hS); exact wanted_none; exact ev_tmp rfl; assumption; (((repeat (with_reducible apply mem_tl))); (try assumption)); assumption; rfl; exact sz50; decide +kernel; decide; (try simp only [Act.put, q1, q2, q3])) | ((with_reducible apply arm_alloc hS); exact wanted_none; exact z50; clear hS; intro NB w hS; (try simp only [Act.put, q1, q2, q3])) | (((with_reducible apply arm_storeN hS); exact wanted_none; exact ev_tmp rfl; exact ev_tmp rfl; (repeat (with_reducible exact mem_hd)); rfl; (focus (simp; done)); (repeat (with_reducible exact Upd.hd)); rfl; exact sz50; rfl; clear hS; intro w hS; (try simp only [setFrom, q2, q3] at hS); (try simp only [Act.put, q1, q2, q3])); replace hS := mv3 hS) | (go_at_call 106; refine (putR p _ _ _ _ _ _ _ _ (shut_pg rfl hS) _ (by simp; omega)).mono ?_; clear hS; rintro e w ⟨rfl, hS⟩; obtain ⟨PA, PC, hS⟩ := open_pg hS))
    go_end0
    exact ⟨rfl, by rw [HX.out]; exact shut2 rfl hS⟩

set_option maxHeartbeats 4000000 in
theorem treeVar (fs : List (Int × Int)) (fr : List Int) (n : Int) (ht : okT (.var n)) : TreeC fs fr (.var n) := by
  intro s x last p af ar cf cr AF AR l deep most w0 w R hs hb hx hP d0 d1 d2 hll hS
  obtain ⟨x0, x1, xN, xO, xM, xF, nf, nr⟩ := treeFacts hs hb hx (hP.tail _) hS
  have rf := hP.rf
  have rr := hP.rr
  have mf := hP.mf
  have mr := hP.mr
  have hln := hP.hl
  have hnn := hP.hn
  have HN := hid hx
  have HZ := hid True.intro
  obtain ⟨X, hX⟩ : ∃ X, X = wr (.var n) last := ⟨_, rfl⟩
  obtain ⟨M, hM⟩ : ∃ M, M = max most (deep + lkd (.var n) last) := ⟨_, rfl⟩
  rw [← hX, ← hM]
  simp only [rootOp, rootN] at xN xO xM
  have hM2 : M = most := by rw [hM]; cases last <;> simp only [lkd, look] <;> simp <;> omega
  simp only [size] at hll d2
  rw [wr_var] at hX
  subst hM2
  obtain ⟨h1, h2⟩ := ht
  obtain ⟨k, rfl⟩ := Int.eq_ofNat_of_zero_le h1
  rw [Lib.itoa_nonneg] at hX
  have hil := Lib.itoa_length_le (k : Int) (by omega) (by omega)
  rw [Lib.itoa_nonneg] at hil
  have HX := hid hX
  clear hM xO xM xF hX hx
  obtain ⟨PA, PC, hS⟩ := open_pg hS
  go_enter Tryz.func104, Tryz.ntmps104
  go_wp2_with (first | ((with_reducible apply arm_load hS); exact wanted_none; exact ev_tmp rfl; (repeat (with_reducible first | exact mem_hd | apply mem_tl)); rfl; decide +kernel; (try simp only [Act.put, q1, q2, q3])) | ((with_reducible apply arm_indexAddr); exact wanted_none; exact ev_tmp rfl; exact ev_tmp rfl; exact E22; (omega); (omega); (assumption); (rfl); (try simp only [Act.put, q1, q2, q3])) | ((with_reducible apply arm_loadRN hS); exact wanted_none; exact ev_tmp rfl; assumption; (((repeat (with_reducible apply mem_tl))); (try assumption)); assumption; rfl; exact sz50; decide +kernel; decide; (try simp only [Act.put, q1, q2, q3])) | ((with_reducible apply arm_alloc hS); exact wanted_none; exact z50; clear hS; intro NB w hS; (try simp only [Act.put, q1, q2, q3])) | (((with_reducible apply arm_storeN hS); exact wanted_none; exact ev_tmp rfl; exact ev_tmp rfl; (repeat (with_reducible exact mem_hd)); rfl; (focus (simp; done)); (repeat (with_reducible exact Upd.hd)); rfl; exact sz50; rfl; clear hS; intro w hS; (try simp only [setFrom, q2, q3] at hS); (try simp only [Act.put, q1, q2, q3])); replace hS := mv3 hS) | ((with_reducible apply arm_addStr); exact wanted_none; exact ev_const; exact ev_tmp rfl; (simp only [List.length_append, List.length_cons, List.length_nil]; omega); (try simp only [Act.put, q1, q2, q3])) | (go_at_call 123; refine (decimal k (by omega) _ _ _ hS).mono ?_; clear hS; rintro e w ⟨rfl, hS⟩) | (go_at_call 106; refine (putR p _ _ _ _ _ _ _ _ (shut_pg rfl hS) _ (by simp; omega)).mono ?_; clear hS; rintro e w ⟨rfl, hS⟩; obtain ⟨PA, PC, hS⟩ := open_pg hS))
  go_end0
  exact ⟨rfl, by rw [HX.out]; exact shut2 rfl hS⟩

set_option maxHeartbeats 4000000 in
theorem treeNeg (fs : List (Int × Int)) (fr : List Int) (a : T) (ht : okT (.neg a)) (hsz : size (.neg a) ≤ 65536) (ih : TreeC fs fr a) : TreeC fs fr (.neg a) := by
  intro s x last p af ar cf cr AF AR l deep most w0 w R hs hb hx hP d0 d1 d2 hll hS
  obtain ⟨x0, x1, xN, xO, xM, xF, nf, nr⟩ := treeFacts hs hb hx (hP.tail _) hS
  have rf := hP.rf
  have rr := hP.rr
  have mf := hP.mf
  have mr := hP.mr
  have hln := hP.hl
  have hnn := hP.hn
  have HN := hid hx
  have HZ := hid True.intro
  obtain ⟨X, hX⟩ : ∃ X, X = wr (.neg a) last := ⟨_, rfl⟩
  obtain ⟨M, hM⟩ : ∃ M, M = max most (deep + lkd (.neg a) last) := ⟨_, rfl⟩
  rw [← hX, ← hM]
  simp only [rootOp, rootN] at xN xO xM
  simp only [size] at hll d2 hb hx hsz
  replace HN := hid hx
  have hsa : Sub fs fr s a := hs.1
  have hpa := size_pos a
  obtain ⟨y0, y1, yN, yO, yM, yF, _, _⟩ := treeFacts (x := x - 1) hsa (by omega) (by omega) (hP.tail _) hS
  have ka : okT a := ht
  have OP := operandR fs fr a ka (by omega) ih s (x - 1) (twoP (rootOp a)) last _ (brk_neg ka last) p af ar cf cr AF AR
  have TR := twoR (rootOp a)
  rw [wr_neg] at hX
  rw [lkd_neg] at hM
  have e1 : opB a (brkP 3 0 a last) last = opd 3 0 a last := rfl
  have e2 := lkB_cnt 3 0 a last
  rw [e1] at OP
  rw [e2] at OP
  have hc1 := cnt0 3 0 a last
  have HX := hid hX
  have HM := hid hM
  generalize opd 3 0 a last = O1 at *
  generalize cnt 3 0 a last (look a) = c1 at *
  generalize rootOp a = oa at *
  generalize twoP oa = b1 at *
  clear hX hM e1 e2 xO xM xF yN yM yF ih hs hx
  obtain ⟨PA, PC, hS⟩ := open_pg hS
  go_enter Tryz.func104, Tryz.ntmps104
  go_wp2_with (first | ((with_reducible apply arm_load hS); exact wanted_none; exact ev_tmp rfl; (repeat (with_reducible first | exact mem_hd | apply mem_tl)); rfl; decide +kernel; (try simp only [Act.put, q1, q2, q3])) | ((with_reducible apply arm_indexAddr); exact wanted_none; exact ev_tmp rfl; exact ev_tmp rfl; exact E22; (omega); (omega); (assumption); (rfl); (try simp only [Act.put, q1, q2, q3])) | ((with_reducible apply arm_fieldAddrE); exact wanted_none; exact ev_tmp rfl; (assumption); exact fo50_0; (try simp only [Act.put, q1, q2, q3])) | ((with_reducible apply arm_loadE); exact wanted_none; exact ev_tmp rfl; (exact Sat.rdCell2 (by assumption) hS (by ((repeat (with_reducible apply mem_tl))); try assumption) (by (assumption))); decide +kernel; (try simp only [Act.put, q1, q2, q3])) | ((with_reducible apply arm_loadRN hS); exact wanted_none; exact ev_tmp rfl; assumption; (((repeat (with_reducible apply mem_tl))); (try assumption)); assumption; rfl; exact sz50; decide +kernel; decide; (try simp only [Act.put, q1, q2, q3])) | ((with_reducible apply arm_alloc hS); exact wanted_none; exact z50; clear hS; intro NB w hS; (try simp only [Act.put, q1, q2, q3])) | (((with_reducible apply arm_storeN hS); exact wanted_none; exact ev_tmp rfl; exact ev_tmp rfl; (repeat (with_reducible exact mem_hd)); rfl; (focus (simp; done)); (repeat (with_reducible exact Upd.hd)); rfl; exact sz50; rfl; clear hS; intro w hS; (try simp only [setFrom, q2, q3] at hS); (try simp only [Act.put, q1, q2, q3])); replace hS := mv3 hS) | ((with_reducible apply arm_store hS); exact wanted_none; exact ev_tmp rfl; exact ev_tmp rfl; (repeat (with_reducible exact mem_hd)); rfl; (focus (simp; done)); (repeat (with_reducible exact Upd.hd)); rfl; decide +kernel; clear hS; intro w hS; (try simp only [q2, q3] at hS); (try simp only [Act.put, q1, q2, q3])) | (go_at_call 124; refine (TR _ _ _ hS).mono ?_; clear hS; rintro e w ⟨rfl, hS⟩) | (go_at_call 106; refine (putR p _ _ _ _ _ _ _ _ (shut_pg rfl hS) _ (by simp; omega)).mono ?_; clear hS; rintro e w ⟨rfl, hS⟩; obtain ⟨PA, PC, hS⟩ := open_pg hS) | (go_at_call 105; refine (opensR p _ _ _ _ _ _ _ _ (shut_pg rfl hS) (by omega) (by omega)).mono ?_; clear hS; rintro e w ⟨rfl, hS⟩; obtain ⟨PA, PC, hS⟩ := open_pg hS) | (go_at_call 67; (with_reducible refine (OP _ _ _ _ _ _ hsa (by omega) (by have := HN.out; have := HZ.out; omega) (hP.tail _) (by omega) (by omega) (by omega) (by simp; omega) (shut_pg rfl hS)).mono ?_); clear hS; rintro e w ⟨rfl, hS⟩; obtain ⟨PA, PC, hS⟩ := open_pg hS))
  go_end0
  have f1 : l ++ X = l ++ [33] ++ O1 := by rw [HX.out]; simp
  have f2 : M = max (max most (deep + 1)) (deep + 1 + c1) := by rw [HM.out]; omega
  refine ⟨rfl, ?_⟩
  rw [f1, f2]
  exact shut2 rfl hS

set_option maxHeartbeats 4000000 in
theorem treeBin (fs : List (Int × Int)) (fr : List Int) (op : Int) (a b : T) (ht : okT (.bin op a b)) (hsz : size (.bin op a b) ≤ 65536) (ih1 : TreeC fs fr a) (ih2 : TreeC fs fr b) : TreeC fs fr (.bin op a b) := by
  intro s x last p af ar cf cr AF AR l deep most w0 w R hs hb hx hP d0 d1 d2 hll hS
  obtain ⟨x0, x1, xN, xO, xM, xF, nf, nr⟩ := treeFacts hs hb hx (hP.tail _) hS
  have rf := hP.rf
  have rr := hP.rr
  have mf := hP.mf
  have mr := hP.mr
  have hln := hP.hl
  have hnn := hP.hn
  have HN := hid hx
  have HZ := hid True.intro
  obtain ⟨X, hX⟩ : ∃ X, X = wr (.bin op a b) last := ⟨_, rfl⟩
  obtain ⟨M, hM⟩ : ∃ M, M = max most (deep + lkd (.bin op a b) last) := ⟨_, rfl⟩
  rw [← hX, ← hM]
  simp only [rootOp, rootN] at xN xO xM
  simp only [size] at hll d2 hb hx hsz
  replace HN := hid hx
  have hsa : Sub fs fr s a := hs.1
  have hsb : Sub fs fr (s + size a) b := hs.2.1
  have hpa := size_pos a
  have hpb := size_pos b
  obtain ⟨z, hz⟩ : ∃ z : Int, z = ((s + size a : Nat) : Int) := ⟨_, rfl⟩
  obtain ⟨y0, y1, yN, yO, yM, yF, _, _⟩ := treeFacts (x := x - 1) hsb (by omega) (by omega) (hP.tail _) hS
  rw [← hz] at yF
  obtain ⟨z0, z1, zN, zO, zM, zF, _, _⟩ := treeFacts (x := z - 1) hsa (by omega) (by omega) (hP.tail _) hS
  replace HZ := hid hz
  obtain ⟨o1, o2, ka, kb⟩ := ht
  have OP1 := operandR fs fr a ka (by omega) ih1 s (z - 1) (firstP op (rootOp a)) false _ (brk_first o1 o2 ka) p af ar cf cr AF AR
  have OP2 := operandR fs fr b kb (by omega) ih2 (s + size a) (x - 1) (secondP op (rootOp b)) last _ (brk_second o1 o2 kb last) p af ar cf cr AF AR
  have TR := twoR op
  have FR := firstR op (rootOp a)
  have SR := secondR op (rootOp b)
  have GR := signR op o1 o2
  have htw : twoP op = true := by simp [twoP, o1, o2]
  rw [htw] at TR
  rw [wr_bin] at hX
  rw [lkd_bin] at hM
  have e1 : opB a (brkP op 0 a false) false = opd op 0 a false := rfl
  have e2 := lkB_cnt op 0 a false
  have e3 : opB b (brkP op 1 b last) last = opd op 1 b last := rfl
  have e4 := lkB_cnt op 1 b last
  rw [e1, e2] at OP1
  rw [e3, e4] at OP2
  have hc1 := cnt0 op 0 a false
  have hc2 := cnt0 op 1 b last
  obtain ⟨wa1, wa2, _⟩ := wr_le a ka (by omega)
  have k1 : (opd op 0 a false).length ≤ 40 * size a + 2 := by unfold opd; split <;> (try simp only [List.length_append, List.length_cons, List.length_nil]) <;> omega
  have k3 : (spellP op).length ≤ 7 := by
    unfold spellP; repeat' split
    all_goals decide
  have HX := hid hX
  have HM := hid hM
  have g1 : (op == 1) = false := by simp; omega
  have g2 : (op == 2) = false := by simp; omega
  have g3 : (op == 3) = false := by simp; omega
  generalize opd op 0 a false = O1 at *
  generalize opd op 1 b last = O2 at *
  generalize cnt op 0 a false (look a) = c1 at *
  generalize cnt op 1 b last (look b) = c2 at *
  generalize spellP op = S1 at *
  generalize rootOp a = oa at *
  generalize rootOp b = ob at *
  generalize firstP op oa = b1 at *
  generalize secondP op ob = b2 at *
  clear hX hM e1 e2 e3 e4 xO xM xF yN yM zN zM zF ih1 ih2 hs hx hz htw
  obtain ⟨PA, PC, hS⟩ := open_pg hS
  go_enter Tryz.func104, Tryz.ntmps104
  go_wp2_with (first | ((with_reducible apply Cont.intro); (first | (focus (apply Or.inr; apply (Sat.sb hS); (repeat (first | with_reducible exact Sb.refl | (with_reducible refine Sb.take (by (repeat (with_reducible first | exact Rem.hd | apply Rem.tl)); done) ?_) | with_reducible apply Sb.skip)); done)) | (exact Or.inl (by kernel_rfl))); intro hR hC) | ((first | ((with_reducible apply draw_pure (i := 0)); (simp only [q4, q6, q5]; with_reducible rfl); kernel_rfl; kernel_rfl; decide +kernel; rfl; exact hC; exact (fun _ _ _ h => h); exact hR; with_reducible exact wanted_none) | ((with_reducible apply draw_pure (i := 1)); (simp only [q4, q6, q5]; with_reducible rfl); kernel_rfl; kernel_rfl; decide +kernel; rfl; exact hC; exact (fun _ _ _ h => h); exact hR; with_reducible exact wanted_none) | ((with_reducible apply draw_pure (i := 4)); (simp only [q4, q6, q5]; with_reducible rfl); kernel_rfl; kernel_rfl; decide +kernel; rfl; exact hC; exact (fun _ _ _ h => h); exact hR; with_reducible exact wanted_none) | ((with_reducible apply draw_pure (i := 5)); (simp only [q4, q6, q5]; with_reducible rfl); kernel_rfl; kernel_rfl; decide +kernel; rfl; exact hC; exact (fun _ _ _ h => h); exact hR; with_reducible exact wanted_none) | ((with_reducible apply draw_pure (i := 8)); (simp only [q4, q6, q5]; with_reducible rfl); kernel_rfl; kernel_rfl; decide +kernel; rfl; exact hC; exact (fun _ _ _ h => h); exact hR; with_reducible exact wanted_none)); (intro w; first | (go_simp; done) | (go_simp; rw [wrapI (by omega) (by omega)]) | (go_simp; with_reducible rfl) | (go_simp; rfl)); (clear hR hC; intro hR hC); (try simp only [Act.put, q1, q2, q3])) | ((first | ((with_reducible apply draw_pure (i := 2)); (simp only [q4, q6, q5]; with_reducible rfl); kernel_rfl; kernel_rfl; decide +kernel; rfl; exact hC; exact (fun _ _ _ h => h); exact hR; with_reducible exact wanted_none) | ((with_reducible apply draw_pure (i := 6)); (simp only [q4, q6, q5]; with_reducible rfl); kernel_rfl; kernel_rfl; decide +kernel; rfl; exact hC; exact (fun _ _ _ h => h); exact hR; with_reducible exact wanted_none) | ((with_reducible apply draw_pure (i := 10)); (simp only [q4, q6, q5]; with_reducible rfl); kernel_rfl; kernel_rfl; decide +kernel; rfl; exact hC; exact (fun _ _ _ h => h); exact hR; with_reducible exact wanted_none)); (intro w; first | (exact draw_fa rfl (by (first | exact ev_tmp rfl | exact ev_const)) (by assumption) (by with_reducible first | exact fo7_0 | exact fo50_0)) | (go_simp; done) | (go_simp; rw [wrapI (by omega) (by omega)]) | (go_simp; with_reducible rfl) | (go_simp; rfl)); (clear hR hC; intro hR hC); (try simp only [Act.put, q1, q2, q3])) | (((with_reducible apply draw_pure (i := 9)); (simp only [q4, q6, q5]; with_reducible rfl); kernel_rfl; kernel_rfl; decide +kernel; rfl; exact hC; exact (fun _ _ _ h => h); exact hR; with_reducible exact wanted_none); (intro w; first | (with_reducible exact draw_ia E22 rfl (by (first | exact ev_tmp rfl | exact ev_const)) (by (first | exact ev_tmp rfl | exact ev_const)) (by (omega)) (by (omega)) (by (assumption)) (by (rfl))) | (with_reducible exact draw_ia E35 rfl (by (exact ev_const)) (by (exact ev_const)) (by (omega)) (by (omega)) (by (assumption)) (by (rfl))) | (with_reducible exact draw_ia E42 rfl (by (exact ev_const)) (by (exact ev_const)) (by (omega)) (by (omega)) (by (assumption)) (by (rfl))) | (with_reducible exact draw_ia E59 rfl (by (exact ev_const)) (by (exact ev_const)) (by (omega)) (by (omega)) (by (assumption)) (by (rfl))) | (with_reducible exact draw_ia E61 rfl (by (exact ev_const)) (by (exact ev_const)) (by (omega)) (by (omega)) (by (assumption)) (by (rfl))) | (with_reducible exact draw_ia E66 rfl (by (exact ev_const)) (by (exact ev_const)) (by (omega)) (by (omega)) (by (assumption)) (by (rfl))) | (with_reducible exact draw_ia E88 rfl (by (exact ev_const)) (by (exact ev_const)) (by (omega)) (by (omega)) (by (assumption)) (by (rfl))) | (with_reducible exact draw_ia E90 rfl (by (exact ev_const)) (by (exact ev_const)) (by (omega)) (by (omega)) (by (assumption)) (by (rfl))) | (with_reducible exact draw_ia E112 rfl (by (exact ev_const)) (by (exact ev_const)) (by (omega)) (by (omega)) (by (assumption)) (by (rfl))) | (with_reducible exact draw_ia E116 rfl (by (exact ev_const)) (by (exact ev_const)) (by (omega)) (by (omega)) (by (assumption)) (by (rfl))) | (with_reducible exact draw_ia E120 rfl (by (exact ev_const)) (by (exact ev_const)) (by (omega)) (by (omega)) (by (assumption)) (by (rfl))) | (with_reducible exact draw_ia E130 rfl (by (exact ev_const)) (by (exact ev_const)) (by (omega)) (by (omega)) (by (assumption)) (by (rfl))) | (with_reducible exact draw_ia E174 rfl (by (exact ev_const)) (by (exact ev_const)) (by (omega)) (by (omega)) (by (assumption)) (by (rfl))) | (with_reducible exact draw_ia E177 rfl (by (exact ev_const)) (by (exact ev_const)) (by (omega)) (by (omega)) (by (assumption)) (by (rfl))) | (with_reducible exact draw_ia E205 rfl (by (exact ev_const)) (by (exact ev_const)) (by (omega)) (by (omega)) (by (assumption)) (by (rfl))) | (go_simp; done) | (go_simp; rw [wrapI (by omega) (by omega)]) | (go_simp; with_reducible rfl)); (clear hR hC; intro hR hC); (try simp only [Act.put, q1, q2, q3])) | ((first | ((with_reducible apply draw_read (i := 3)); (simp only [q4, q6, q5]; with_reducible rfl); kernel_rfl; kernel_rfl; decide +kernel; kernel_rfl; rfl; exact hC; exact (fun _ _ _ h => h); exact hR; kernel_rfl; with_reducible exact wanted_none) | ((with_reducible apply draw_read (i := 7)); (simp only [q4, q6, q5]; with_reducible rfl); kernel_rfl; kernel_rfl; decide +kernel; kernel_rfl; rfl; exact hC; exact (fun _ _ _ h => h); exact hR; kernel_rfl; with_reducible exact wanted_none) | ((with_reducible apply draw_read (i := 11)); (simp only [q4, q6, q5]; with_reducible rfl); kernel_rfl; kernel_rfl; decide +kernel; kernel_rfl; rfl; exact hC; exact (fun _ _ _ h => h); exact hR; kernel_rfl; with_reducible exact wanted_none)); (intro w hS; (apply run_op_load rfl (by (first | exact ev_tmp rfl | exact ev_const))); first | exact run_loadVar1 (by decide +kernel) (hS.cell (by (repeat (with_reducible first | exact mem_hd | apply mem_tl))) rfl) | exact run_loadVar1 (by decide +kernel) ((hS.ownCell (by (repeat (with_reducible apply mem_tl))) (by (assumption))).1) | exact run_loadVar1 (by decide +kernel) (Sat.rdCell2 (by assumption) hS (by ((repeat (with_reducible apply mem_tl))); try assumption) (by (assumption))) | exact run_loadVar1 (by decide +kernel) (hS.baseCell (by ((repeat (with_reducible apply mem_tl))); try assumption) (by assumption)) | exact run_loadVar1 (by decide +kernel) (fzC (by assumption) hS (by ((repeat (with_reducible apply mem_tl))); try assumption)) | exact run_loadRN hS (by assumption) (by ((repeat (with_reducible apply mem_tl))); try assumption) (by assumption) (by rfl) (by with_reducible exact sz7) (by decide +kernel) (by decide) | exact hS.loadWhole (by (repeat (with_reducible apply mem_tl))) (by kernel_rfl) (by kernel_rfl)); (clear hR hC; intro hR hC); (try simp only [Act.put, q1, q2, q3])) | ((with_reducible apply draw_act (i := 12)); (simp only [q4, q6, q5]; with_reducible rfl); decide +kernel; exact hC; clear hR hC) | ((with_reducible apply draw_act (i := 13)); (simp only [q4, q6, q5]; with_reducible rfl); decide +kernel; exact hC; clear hR hC) | ((with_reducible apply draw_done); decide +kernel; clear hR hC) | (refine draw_sat 15 14 hS (by kernel_rfl) [13] rfl ?_; clear hS; intro w hS hR hC) | (((with_reducible apply draw_pure (i := 15)); (simp only [q4, q6, q5]; with_reducible rfl); kernel_rfl; kernel_rfl; decide +kernel; rfl; exact hC; exact (fun _ _ _ h => h); exact hR; with_reducible exact wanted_none); (intro w; first | (go_simp; done) | (go_simp; rw [wrapI (by omega) (by omega)]) | (go_simp; with_reducible rfl) | (go_simp; rfl)); (clear hR hC; intro hR hC); (try simp only [Act.put, q1, q2, q3])) | ((first | ((with_reducible apply draw_pure (i := 3)); (simp only [q4, q6, q5]; with_reducible rfl); kernel_rfl; kernel_rfl; decide +kernel; rfl; exact hC; exact (fun _ _ _ h => h); exact hR; with_reducible exact wanted_none) | ((with_reducible apply draw_pure (i := 7)); (simp only [q4, q6, q5]; with_reducible rfl); kernel_rfl; kernel_rfl; decide +kernel; rfl; exact hC; exact (fun _ _ _ h => h); exact hR; with_reducible exact wanted_none)); (intro w; first | (exact draw_fa rfl (by (exact ev_const)) (by assumption) (by with_reducible exact fo7_0)) | (go_simp; done) | (go_simp; rw [wrapI (by omega) (by omega)]) | (go_simp; with_reducible rfl) | (go_simp; rfl)); (clear hR hC; intro hR hC); (try simp only [Act.put, q1, q2, q3])) | (((with_reducible apply draw_pure (i := 11)); (simp only [q4, q6, q5]; with_reducible rfl); kernel_rfl; kernel_rfl; decide +kernel; rfl; exact hC; exact (fun _ _ _ h => h); exact hR; with_reducible exact wanted_none); (intro w; first | (with_reducible exact draw_ia E22 rfl (by (exact ev_tmp rfl)) (by (exact ev_tmp rfl)) (by (omega)) (by (omega)) (by (assumption)) (by (rfl))) | (with_reducible exact draw_ia E35 rfl (by (exact ev_const)) (by (exact ev_const)) (by (omega)) (by (omega)) (by (assumption)) (by (rfl))) | (with_reducible exact draw_ia E42 rfl (by (exact ev_const)) (by (exact ev_const)) (by (omega)) (by (omega)) (by (assumption)) (by (rfl))) | (with_reducible exact draw_ia E59 rfl (by (exact ev_const)) (by (exact ev_const)) (by (omega)) (by (omega)) (by (assumption)) (by (rfl))) | (with_reducible exact draw_ia E61 rfl (by (exact ev_const)) (by (exact ev_const)) (by (omega)) (by (omega)) (by (assumption)) (by (rfl))) | (with_reducible exact draw_ia E66 rfl (by (exact ev_const)) (by (exact ev_const)) (by (omega)) (by (omega)) (by (assumption)) (by (rfl))) | (with_reducible exact draw_ia E88 rfl (by (exact ev_const)) (by (exact ev_const)) (by (omega)) (by (omega)) (by (assumption)) (by (rfl))) | (with_reducible exact draw_ia E90 rfl (by (exact ev_const)) (by (exact ev_const)) (by (omega)) (by (omega)) (by (assumption)) (by (rfl))) | (with_reducible exact draw_ia E112 rfl (by (exact ev_const)) (by (exact ev_const)) (by (omega)) (by (omega)) (by (assumption)) (by (rfl))) | (with_reducible exact draw_ia E116 rfl (by (exact ev_const)) (by (exact ev_const)) (by (omega)) (by (omega)) (by (assumption)) (by (rfl))) | (with_reducible exact draw_ia E120 rfl (by (exact ev_const)) (by (exact ev_const)) (by (omega)) (by (omega)) (by (assumption)) (by (rfl))) | (with_reducible exact draw_ia E130 rfl (by (exact ev_const)) (by (exact ev_const)) (by (omega)) (by (omega)) (by (assumption)) (by (rfl))) | (with_reducible exact draw_ia E174 rfl (by (exact ev_const)) (by (exact ev_const)) (by (omega)) (by (omega)) (by (assumption)) (by (rfl))) | (with_reducible exact draw_ia E177 rfl (by (exact ev_const)) (by (exact ev_const)) (by (omega)) (by (omega)) (by (assumption)) (by (rfl))) | (with_reducible exact draw_ia E205 rfl (by (exact ev_const)) (by (exact ev_const)) (by (omega)) (by (omega)) (by (assumption)) (by (rfl))) | (go_simp; done) | (go_simp; rw [wrapI (by omega) (by omega)]) | (go_simp; with_reducible rfl)); (clear hR hC; intro hR hC); (try simp only [Act.put, q1, q2, q3])) | ((first | ((with_reducible apply draw_read (i := 4)); (simp only [q4, q6, q5]; with_reducible rfl); kernel_rfl; kernel_rfl; decide +kernel; kernel_rfl; rfl; exact hC; exact (fun _ _ _ h => h); exact hR; kernel_rfl; with_reducible exact wanted_none) | ((with_reducible apply draw_read (i := 8)); (simp only [q4, q6, q5]; with_reducible rfl); kernel_rfl; kernel_rfl; decide +kernel; kernel_rfl; rfl; exact hC; exact (fun _ _ _ h => h); exact hR; kernel_rfl; with_reducible exact wanted_none)); (intro w hS; (apply run_op_load rfl (by (exact ev_tmp rfl))); first | exact run_loadVar1 (by decide +kernel) (hS.cell (by (repeat (with_reducible first | exact mem_hd | apply mem_tl))) rfl) | exact run_loadVar1 (by decide +kernel) ((hS.ownCell (by (repeat (with_reducible apply mem_tl))) (by (rfl))).1) | exact run_loadVar1 (by decide +kernel) (Sat.rdCell2 (by assumption) hS (by ((repeat (with_reducible apply mem_tl))); try assumption) (by (rfl))) | exact run_loadVar1 (by decide +kernel) (hS.baseCell (by ((repeat (with_reducible apply mem_tl))); try assumption) (by assumption)) | exact run_loadVar1 (by decide +kernel) (fzC (by assumption) hS (by ((repeat (with_reducible apply mem_tl))); try assumption)) | exact run_loadRN hS (by assumption) (by ((repeat (with_reducible apply mem_tl))); try assumption) (by assumption) (by rfl) (by with_reducible exact sz7) (by decide +kernel) (by decide) | exact hS.loadWhole (by (repeat (with_reducible apply mem_tl))) (by kernel_rfl) (by kernel_rfl)); (clear hR hC; intro hR hC); (try simp only [Act.put, q1, q2, q3])) | ((with_reducible apply draw_act (i := 14)); (simp only [q4, q6, q5]; with_reducible rfl); decide +kernel; exact hC; clear hR hC) | ((with_reducible apply draw_act (i := 16)); (simp only [q4, q6, q5]; with_reducible rfl); decide +kernel; exact hC; clear hR hC) | (refine draw_sat 17 17 hS (by kernel_rfl) [16] rfl ?_; clear hS; intro w hS hR hC) | ((with_reducible apply arm_load hS); exact wanted_none; exact ev_tmp rfl; (repeat (with_reducible first | exact mem_hd | apply mem_tl)); rfl; decide +kernel; (try simp only [Act.put, q1, q2, q3])) | ((with_reducible apply arm_indexAddr); exact wanted_none; exact ev_tmp rfl; exact ev_tmp rfl; (with_reducible first | exact E22 | exact E35); (omega); (omega); (first | exact Sat.rdAd2 (by assumption) hS (by ((repeat (with_reducible apply mem_tl))); try assumption) (by (simp only [Is_length, Bs_length, List.length_take, List.length_drop]; omega)) | assumption); (first | (simp only [Int.toNat_natCast, Nat.mul_one, Nat.zero_add, tn_sub, tn_sub1, tn_sub2, tn_sub3, tn_add, tn_add1, tn_add2]; rfl) | rfl); (try simp only [Act.put, q1, q2, q3])) | ((with_reducible apply arm_fieldAddrE); exact wanted_none; exact ev_tmp rfl; (assumption); exact fo50_0; (try simp only [Act.put, q1, q2, q3])) | ((with_reducible apply arm_loadE); exact wanted_none; exact ev_tmp rfl; (exact Sat.rdCell2 (by assumption) hS (by ((repeat (with_reducible apply mem_tl))); try assumption) (by (assumption))); decide +kernel; (try simp only [Act.put, q1, q2, q3])) | ((with_reducible apply arm_loadRN hS); exact wanted_none; exact ev_tmp rfl; assumption; (((repeat (with_reducible apply mem_tl))); (try assumption)); assumption; rfl; exact sz50; decide +kernel; decide; (try simp only [Act.put, q1, q2, q3])) | ((with_reducible apply arm_alloc hS); exact wanted_none; exact z50; clear hS; intro NB w hS; (try simp only [Act.put, q1, q2, q3])) | (((with_reducible apply arm_storeN hS); exact wanted_none; exact ev_tmp rfl; exact ev_tmp rfl; (repeat (with_reducible exact mem_hd)); rfl; (focus (simp; done)); (repeat (with_reducible exact Upd.hd)); rfl; exact sz50; rfl; clear hS; intro w hS; (try simp only [setFrom, q2, q3] at hS); (try simp only [Act.put, q1, q2, q3])); replace hS := mv3 hS) | (go_at_call 124; refine (TR _ _ _ hS).mono ?_; clear hS; rintro e w ⟨rfl, hS⟩) | (go_at_call 125; refine (FR _ _ _ hS).mono ?_; clear hS; rintro e w ⟨rfl, hS⟩) | (go_at_call 127; refine (SR _ _ _ hS).mono ?_; clear hS; rintro e w ⟨rfl, hS⟩) | (go_at_call 126; refine (GR _ _ _ hS).mono ?_; clear hS; rintro e w ⟨rfl, hS⟩) | (go_at_call 106; refine (putR p _ _ _ _ _ _ _ _ (shut_pg rfl hS) _ (by simp; omega)).mono ?_; clear hS; rintro e w ⟨rfl, hS⟩; obtain ⟨PA, PC, hS⟩ := open_pg hS) | (go_at_call 67; (first | with_reducible refine (OP1 _ _ _ _ _ _ hsa (by omega) (by have := HN.out; have := HZ.out; omega) (hP.tail _) (by omega) (by omega) (by omega) (by simp; omega) (shut_pg rfl hS)).mono ?_ | with_reducible refine (OP2 _ _ _ _ _ _ hsb (by omega) (by have := HN.out; have := HZ.out; omega) (hP.tail _) (by omega) (by omega) (by omega) (by simp; omega) (shut_pg rfl hS)).mono ?_); clear hS; rintro e w ⟨rfl, hS⟩; obtain ⟨PA, PC, hS⟩ := open_pg hS))
  go_end0
  have f1 : l ++ X = l ++ O1 ++ S1 ++ O2 := by rw [HX.out]; simp
  have f2 : M = max (max most (deep + c1)) (deep + c2) := by rw [HM.out]; omega
  refine ⟨rfl, ?_⟩
  rw [f1, f2]
  exact shut2 rfl hS
end Go.Proofs.YthackanffcaejaaGreatDoor
