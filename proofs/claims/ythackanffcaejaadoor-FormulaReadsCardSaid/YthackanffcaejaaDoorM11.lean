/- A part of the proof: Rx4 Rx5. -/
import Derived.Test.YthackanffcaejaaDoorM1
import Derived.Test.YthackanffcaejaaDoorM9
import Derived.Test.YthackanffcaejaaDoorM10
section
set_option linter.unusedSimpArgs false
set_option linter.unusedVariables false
set_option maxRecDepth 20000
namespace Go.Proofs.YthackanffcaejaaDoor
open Go Go.RowKit Go.SL Go.ClauseP Go.LexP
-- ACT2

def MSt (w0 w : World) (R : List HP) (B : Nat) (m : MS) : Prop := ∃ (ad1 : Option Addr) (c1 : Nat) (ad2 : Option Addr) (c2 : Nat),
  Sat w0 w (blk B 98 [.slice ad1 m.st.length c1, .slice ad2 m.out.length c2, .int .i64 m.opn, .int .i64 m.nds] :: own 106 3 ad1 m.st.length c1 (stC m.st) :: own 77 2 ad2 m.out.length c2 (Fs m.out) :: R)
def MOk (m : MS) : Prop := m.opn = (m.st.map opW).sum ∧ m.st.length ≤ 200000 ∧ m.out.length + m.st.length ≤ 400000 ∧ m.opn ≤ 64 ∧ m.nds ≤ 65536
def kd : List Wt → Int
  | [] => 0
  | w :: _ => (wtN w).1
def stM (B : Nat) (w : World) : Nat := match w.cell? ⟨B, 0, none⟩ with
  | some (.slice _ n _) => n
  | _ => 0
theorem MSt.meas {w0 w : World} {R : List HP} {B : Nat} {m : MS} (h : MSt w0 w R B m) : stM B w = m.st.length := by
  obtain ⟨ad1, c1, ad2, c2, hS⟩ := h
  have h0 := hS.cell mem_hd (off := 0) (v := .slice ad1 m.st.length c1) rfl
  unfold stM
  rw [h0]
theorem topM (B : Nat) (m : MS) (hm : m.st.length ≤ 200000) (w0 w : World) (R : List HP) (h : MSt w0 w R B m) :
    Calls Tryd.prog 56 #[.pointer (some ⟨B, 0, none⟩)] w fun e w' => e = .returned (.int .i64 (kd m.st)) ∧ MSt w0 w' R B m := by
  obtain ⟨ad1, c1, ad2, c2, hS⟩ := h
  obtain ⟨st, out, opn, nds⟩ := m
  cases st with
  | nil =>
    refine (top0 B ad1 c1 _ opn nds w0 w _ hS).mono ?_
    rintro e w' ⟨rfl, hS⟩
    exact ⟨rfl, ad1, c1, ad2, c2, hS⟩
  | cons x S =>
    simp only [List.length_cons] at hm hS
    refine (top1 B ad1 S.length c1 (by omega) _ opn nds (wtN x).1 (wtN x).2.1 (wtN x).2.2 (stC S) (stC_len S) w0 w _ hS).mono ?_
    rintro e w' ⟨rfl, hS⟩
    exact ⟨rfl, ad1, c1, ad2, c2, hS⟩
theorem settleM (B : Nat) (x : Wt) (S : List Wt) (out : List (Int × Int)) (opn nds : Nat) (hx : x ≠ .opn) (ho : opW x ≤ opn) (ho2 : opn ≤ 64) (hl : S.length ≤ 200000) (hn : out.length ≤ 400000) (w0 w : World) (R : List HP) (h : MSt w0 w R B ⟨x :: S, out, opn, nds⟩) :
    Calls Tryd.prog 90 #[.pointer (some ⟨B, 0, none⟩)] w fun e w' => e = .returned (.tuple #[]) ∧ MSt w0 w' R B ⟨S, out ++ ndW x, opn - opW x, nds⟩ := by
  obtain ⟨ad1, c1, ad2, c2, hS⟩ := h
  simp only [List.length_cons] at hS
  have e1 : opW x ≤ 1 := by cases x <;> simp [opW]
  cases x with
  | opn => exact (hx rfl).elim
  | not =>
    refine (settleNot B ad1 ad2 S.length c1 out.length c2 (by omega) (by omega) opn nds (by simp only [opW] at ho; omega) (by omega) (stC S) (Fs out) (stC_len S) w0 w R hS).mono ?_
    rintro e w' ⟨rfl, ad3, c3, hS⟩
    refine ⟨rfl, ad1, c1, ad3, c3, ?_⟩
    rw [show ((opn - opW Wt.not : Nat) : Int) = (opn : Int) - 1 by simp only [opW] at ho ⊢; omega]
    simpa [ndW, Fs_append, Fs] using hS
  | quant a b =>
    refine (settleQu B ad1 ad2 S.length c1 out.length c2 (by omega) (by omega) opn nds a b (by simp only [opW] at ho; omega) (by omega) (stC S) (Fs out) (stC_len S) w0 w R hS).mono ?_
    rintro e w' ⟨rfl, ad3, c3, hS⟩
    refine ⟨rfl, ad1, c1, ad3, c3, ?_⟩
    rw [show ((opn - opW (Wt.quant a b) : Nat) : Int) = (opn : Int) - 1 by simp only [opW] at ho ⊢; omega]
    simpa [ndW, Fs_append, Fs] using hS
  | ite n =>
    refine (settleIte B ad1 ad2 S.length c1 out.length c2 (by omega) (by omega) opn nds n (by simp only [opW] at ho; omega) (by omega) (stC S) (Fs out) (stC_len S) w0 w R hS).mono ?_
    rintro e w' ⟨rfl, ad3, c3, hS⟩
    refine ⟨rfl, ad1, c1, ad3, c3, ?_⟩
    rw [show ((opn - opW (Wt.ite n) : Nat) : Int) = (opn : Int) - 1 by simp only [opW] at ho ⊢; omega]
    simpa [ndW, Fs_append, Fs] using hS
  | op a =>
    refine (settleOp B ad1 ad2 S.length c1 out.length c2 (by omega) (by omega) opn nds a (by omega) (by omega) (stC S) (Fs out) (stC_len S) w0 w R hS).mono ?_
    rintro e w' ⟨rfl, ad3, c3, hS⟩
    refine ⟨rfl, ad1, c1, ad3, c3, ?_⟩
    simpa [ndW, Fs_append, Fs, opW] using hS
theorem MOk.settle {x : Wt} {S : List Wt} {out : List (Int × Int)} {opn nds : Nat} (h : MOk ⟨x :: S, out, opn, nds⟩) : opW x ≤ opn ∧ MOk ⟨S, out ++ ndW x, opn - opW x, nds⟩ := by
  obtain ⟨h1, h2, h3, h4, h5⟩ := h
  simp only [List.map_cons, List.sum_cons, List.length_cons] at h1 h2 h3
  have hn : (ndW x).length ≤ 1 := by cases x <;> simp [ndW]
  have h4' : opn ≤ 64 := h4
  have h1' : opn = opW x + (S.map opW).sum := h1
  refine ⟨by omega, ?_, ?_, ?_, ?_, h5⟩
  · show opn - opW x = (S.map opW).sum; omega
  · show S.length ≤ 200000; omega
  · show (out ++ ndW x).length + S.length ≤ 400000
    rw [List.length_append]; omega
  · show opn - opW x ≤ 64; omega
set_option maxHeartbeats 4000000 in
theorem innerR (B : Nat) (m : MS) (hm : MOk m) (w0 w : World) (R : List HP) (h : MSt w0 w R B m) :
    Calls Tryd.prog 55 #[.pointer (some ⟨B, 0, none⟩)] w fun e w' => e = .returned (.tuple #[]) ∧ MOk ⟨(innerM m.st m.out m.opn).1, (innerM m.st m.out m.opn).2.1, (innerM m.st m.out m.opn).2.2, m.nds⟩ ∧
      MSt w0 w' R B ⟨(innerM m.st m.out m.opn).1, (innerM m.st m.out m.opn).2.1, (innerM m.st m.out m.opn).2.2, m.nds⟩ := by
  obtain ⟨rs, hrs⟩ : ∃ rs, rs = innerM m.st m.out m.opn := ⟨_, rfl⟩
  rw [← hrs]
  have HRS := hid hrs
  have HNN := hid (rfl : m.nds = m.nds)
  clear hrs
  generalize hnds : m.nds = nds at *
  have HND := hid hnds
  clear hnds HNN
  have TM := fun m' hm' w h => topM B m' hm' w0 w R h
  go_enter Tryd.func55, Tryd.ntmps55
  go_wp2_with fail
  go_loopw [2] (fun _ wr => ∃ S o k, Hid (rs = innerM S o k) ∧ MOk ⟨S, o, k, nds⟩ ∧ MSt w0 wr R B ⟨S, o, k, nds⟩) (fun _ wr => stM B wr)
  case atStart =>
    obtain ⟨st, out, opn, n⟩ := m
    have e : n = nds := HND.out
    subst e
    exact ⟨st, out, opn, HRS, hm, h⟩
  case round =>
    clear h hm HRS HND
    obtain ⟨S, o, k, HR, hm, h⟩ := hrel
    have hme := h.meas
    have HME := hid hme
    clear hme
    have T1 := fun w h => TM ⟨S, o, k, nds⟩ hm.2.1 w h
    clear TM
    cases S with
    | nil =>
      have hr := HR.out
      have HR2 := hid (show rs = ([], o, k) by rw [hr]; rfl)
      simp only [kd] at T1
      clear hr HR
      go_wp2_with (go_at_call 56; refine (T1 _ h).mono ?_; clear h; rintro e w ⟨rfl, h⟩)
      go_end0
      rw [HR2.out]
      exact ⟨rfl, hm, h⟩
    | cons x S =>
      cases x with
      | opn =>
        have HR2 := hid (show rs = (.opn :: S, o, k) by rw [HR.out]; rfl)
        simp only [kd, wtN] at T1
        clear HR
        go_wp2_with (go_at_call 56; refine (T1 _ h).mono ?_; clear h; rintro e w ⟨rfl, h⟩)
        go_end0
        rw [HR2.out]
        exact ⟨rfl, hm, h⟩
      | ite n =>
        have HR2 := hid (show rs = (.ite n :: S, o, k) by rw [HR.out]; rfl)
        simp only [kd, wtN] at T1
        clear HR
        go_wp2_with (go_at_call 56; refine (T1 _ h).mono ?_; clear h; rintro e w ⟨rfl, h⟩)
        go_end0
        rw [HR2.out]
        exact ⟨rfl, hm, h⟩
      | not =>
        have HR2 := hid (show rs = innerM S (o ++ ndW .not) (k - opW .not) by rw [HR.out]; rfl)
        obtain ⟨s1, s2⟩ := hm.settle
        have SM := fun w h => settleM B .not S o k nds (by intro h; cases h) s1 hm.2.2.2.1 (by have := hm.2.1; simp at this; omega) (by have := hm.2.2.1; simp at this; omega) w0 w R h
        simp only [kd, wtN] at T1
        clear HR
        go_wp2_with (first | (go_at_call 56; refine (T1 _ h).mono ?_; clear h; rintro e w ⟨rfl, h⟩) | (go_at_call 90; refine (SM _ h).mono ?_; clear h; rintro e w ⟨rfl, h⟩))
        go_roundw
        case rel => exact ⟨S, _, _, HR2, s2, h⟩
        case measure => rw [h.meas, HME.out]; simp
      | quant a b =>
        have HR2 := hid (show rs = innerM S (o ++ ndW (.quant a b)) (k - opW (.quant a b)) by rw [HR.out]; rfl)
        obtain ⟨s1, s2⟩ := hm.settle
        have SM := fun w h => settleM B (.quant a b) S o k nds (by intro h; cases h) s1 hm.2.2.2.1 (by have := hm.2.1; simp at this; omega) (by have := hm.2.2.1; simp at this; omega) w0 w R h
        simp only [kd, wtN] at T1
        clear HR
        go_wp2_with (first | (go_at_call 56; refine (T1 _ h).mono ?_; clear h; rintro e w ⟨rfl, h⟩) | (go_at_call 90; refine (SM _ h).mono ?_; clear h; rintro e w ⟨rfl, h⟩))
        go_roundw
        case rel => exact ⟨S, _, _, HR2, s2, h⟩
        case measure => rw [h.meas, HME.out]; simp
      | op a =>
        have HR2 := hid (show rs = innerM S (o ++ ndW (.op a)) (k - opW (.op a)) by rw [HR.out]; rfl)
        obtain ⟨s1, s2⟩ := hm.settle
        have SM := fun w h => settleM B (.op a) S o k nds (by intro h; cases h) s1 hm.2.2.2.1 (by have := hm.2.1; simp at this; omega) (by have := hm.2.2.1; simp at this; omega) w0 w R h
        simp only [kd, wtN] at T1
        clear HR
        go_wp2_with (first | (go_at_call 56; refine (T1 _ h).mono ?_; clear h; rintro e w ⟨rfl, h⟩) | (go_at_call 90; refine (SM _ h).mono ?_; clear h; rintro e w ⟨rfl, h⟩))
        go_roundw
        case rel => exact ⟨S, _, _, HR2, s2, h⟩
        case measure => rw [h.meas, HME.out]; simp
theorem bindsR (o : Int) (w0 w : World) (Hs : List HP) (hS : Sat w0 w Hs) : Calls Tryd.prog 89 #[.int .i64 o] w fun e w' => e = .returned (.int .i64 (bndN o)) ∧ Sat w0 w' Hs := by
  have pf : ∀ n : Nat, bndN o = n → Calls Tryd.prog 89 #[.int .i64 o] w (fun e w' => e = .returned (.int .i64 (n : Int)) ∧ Sat w0 w' Hs) → Calls Tryd.prog 89 #[.int .i64 o] w fun e w' => e = .returned (.int .i64 (bndN o)) ∧ Sat w0 w' Hs := fun n h k => by rw [h]; exact k
  by_cases h6 : o = 6
  · subst h6
    refine pf 5 rfl ?_
    go_enter Tryd.func89, Tryd.ntmps89
    go_wp2
    go_ret
    exact ⟨rfl, hS⟩
  by_cases h8 : o = 8
  · subst h8
    refine pf 4 rfl ?_
    go_enter Tryd.func89, Tryd.ntmps89
    go_wp2
    go_ret
    exact ⟨rfl, hS⟩
  by_cases h7 : o = 7
  · subst h7
    refine pf 3 rfl ?_
    go_enter Tryd.func89, Tryd.ntmps89
    go_wp2
    go_ret
    exact ⟨rfl, hS⟩
  by_cases h9 : o = 9
  · subst h9
    refine pf 2 rfl ?_
    go_enter Tryd.func89, Tryd.ntmps89
    go_wp2
    go_ret
    exact ⟨rfl, hS⟩
  refine pf 1 (by unfold bndN; rw [if_neg h6, if_neg h8, if_neg h7, if_neg h9]) ?_
  have e6 : (o == 6) = false := beq_eq_false_iff_ne.2 h6
  have e8 : (o == 8) = false := beq_eq_false_iff_ne.2 h8
  have e7 : (o == 7) = false := beq_eq_false_iff_ne.2 h7
  have e9 : (o == 9) = false := beq_eq_false_iff_ne.2 h9
  clear h6 h7 h8 h9 pf
  go_enter Tryd.func89, Tryd.ntmps89
  go_wp2
  go_ret
  exact ⟨rfl, hS⟩
theorem makesM2 (B : Nat) (S : List Wt) (out : List (Int × Int)) (opn nds : Nat) (hk : nds ≤ 65536) (w0 w : World) (R : List HP) (h : MSt w0 w R B ⟨S, out, opn, nds⟩) :
    Calls Tryd.prog 49 #[.pointer (some ⟨B, 0, none⟩)] w fun e w' => e = .returned (.int .i64 (if 65536 ≤ nds then 8 else 0)) ∧ MSt w0 w' R B ⟨S, out, opn, if 65536 ≤ nds then nds else nds + 1⟩ := by
  obtain ⟨ad1, c1, ad2, c2, hS⟩ := h
  refine (makesN B _ _ opn nds (by omega) (by omega) w0 w _ hS).mono ?_
  rintro e w' ⟨rfl, hS⟩
  by_cases h : 65536 ≤ nds
  · have h2 : (65536 : Int) ≤ (nds : Int) := by omega
    rw [if_pos h2] at hS ⊢
    rw [if_pos h, if_pos h]
    exact ⟨rfl, ad1, c1, ad2, c2, hS⟩
  · have h2 : ¬ (65536 : Int) ≤ (nds : Int) := by omega
    rw [if_neg h2] at hS ⊢
    rw [if_neg h, if_neg h]
    exact ⟨rfl, ad1, c1, ad2, c2, hS⟩
set_option maxHeartbeats 2000000 in
theorem opensN (B : Nat) (x : Wt) (S : List Wt) (out : List (Int × Int)) (opn nds : Nat) (ho : opn ≤ 64) (hl : S.length ≤ 200000) (w0 w : World) (R : List HP) (h : MSt w0 w R B ⟨S, out, opn, nds⟩) :
    Calls Tryd.prog 51 #[.pointer (some ⟨B, 0, none⟩), .agg #[.int .i64 (wtN x).1, .int .i64 (wtN x).2.1, .int .i64 (wtN x).2.2]] w fun e w' =>
      e = .returned (.int .i64 (if 64 ≤ opn then 132 else 0)) ∧ MSt w0 w' R B (if 64 ≤ opn then ⟨S, out, opn, nds⟩ else ⟨x :: S, out, opn + 1, nds⟩) := by
  obtain ⟨ad1, c1, ad2, c2, hS⟩ := h
  dsimp only at hS
  generalize hl' : S.length = l at *
  generalize hn' : out.length = n at *
  generalize hk1 : (wtN x).1 = k1 at *
  generalize hk2 : (wtN x).2.1 = k2 at *
  generalize hk3 : (wtN x).2.2 = k3 at *
  have HL := hid hl'
  have HN := hid hn'
  have HK := hid (And.intro hk1 (And.intro hk2 hk3))
  clear hl' hn' hk1 hk2 hk3
  by_cases h : 64 ≤ opn
  · rw [if_pos h, if_pos h]
    have h2 : (64 : Int) ≤ (opn : Int) := by omega
    go_enter Tryd.func51, Tryd.ntmps51
    go_wp2_with (first | ((with_reducible apply arm_box hS); exact wanted_none; exact ev_tmp rfl; exact cells_agg; clear hS; intro WB w hS; (try simp only [Act.put, q1, q2, q3])) | ((with_reducible apply arm_load hS); exact wanted_none; exact ev_tmp rfl; (repeat (with_reducible first | exact mem_hd | apply mem_tl)); rfl; decide +kernel; (try simp only [Act.put, q1, q2, q3])))
    go_ret
    refine ⟨rfl, ad1, c1, ad2, c2, ?_⟩
    dsimp only
    rw [HL.out, HN.out]
    exact hS.sb (by (repeat (first | with_reducible exact Sb.refl | (with_reducible refine Sb.take (by (repeat (with_reducible first | exact Rem.hd | apply Rem.tl)); done) ?_) | with_reducible apply Sb.skip)))
  · rw [if_neg h, if_neg h]
    have h2 : decide ((opn : Int) ≥ 64) = false := by simp; omega
    have hli : (l : Int) ≤ 200000 := by omega
    go_enter Tryd.func51, Tryd.ntmps51
    go_wp2_with (first | ((with_reducible apply arm_box hS); exact wanted_none; exact ev_tmp rfl; exact cells_agg; clear hS; intro WB w hS; (try simp only [Act.put, q1, q2, q3])) | ((with_reducible apply arm_load hS); exact wanted_none; exact ev_tmp rfl; (repeat (with_reducible first | exact mem_hd | apply mem_tl)); rfl; decide +kernel; (try simp only [Act.put, q1, q2, q3])) | ((with_reducible apply arm_store hS); exact wanted_none; exact ev_tmp rfl; exact ev_tmp rfl; (repeat (with_reducible first | exact mem_hd | apply mem_tl)); rfl; (focus (simp; done)); (repeat (with_reducible first | exact Upd.hd | apply Upd.tl)); rfl; decide +kernel; clear hS; intro w hS; (try simp only [q2, q3] at hS); (try simp only [Act.put, q1, q2, q3])) | ((with_reducible apply Cont.intro); (first | (focus (apply Or.inr; apply (Sat.sb hS); (repeat (first | with_reducible exact Sb.refl | (with_reducible refine Sb.take (by (repeat (with_reducible first | exact Rem.hd | apply Rem.tl)); done) ?_) | with_reducible apply Sb.skip)); done)) | (exact Or.inl (by kernel_rfl))); intro hR hC) | ((first | ((with_reducible apply draw_pure (i := 0)); (simp only [q4, q6, q5]; with_reducible rfl); kernel_rfl; kernel_rfl; decide +kernel; rfl; exact hC; exact (fun _ _ _ h => h); exact hR; with_reducible exact wanted_none) | ((with_reducible apply draw_pure (i := 1)); (simp only [q4, q6, q5]; with_reducible rfl); kernel_rfl; kernel_rfl; decide +kernel; rfl; exact hC; exact (fun _ _ _ h => h); exact hR; with_reducible exact wanted_none) | ((with_reducible apply draw_pure (i := 2)); (simp only [q4, q6, q5]; with_reducible rfl); kernel_rfl; kernel_rfl; decide +kernel; rfl; exact hC; exact (fun _ _ _ h => h); exact hR; with_reducible exact wanted_none) | ((with_reducible apply draw_pure (i := 8)); (simp only [q4, q6, q5]; with_reducible rfl); kernel_rfl; kernel_rfl; decide +kernel; rfl; exact hC; exact (fun _ _ _ h => h); exact hR; with_reducible exact wanted_none)); (intro w; first | (go_simp; done) | (go_simp; rw [wrapI (by omega) (by omega)]) | (go_simp; with_reducible rfl) | (go_simp; rfl)); (clear hR hC; intro hR hC); (try simp only [Act.put, q1, q2, q3])) | ((first | ((with_reducible apply draw_pure (i := 3)); (simp only [q4, q6, q5]; with_reducible rfl); kernel_rfl; kernel_rfl; decide +kernel; rfl; exact hC; exact (fun _ _ _ h => h); exact hR; with_reducible exact wanted_none) | ((with_reducible apply draw_pure (i := 9)); (simp only [q4, q6, q5]; with_reducible rfl); kernel_rfl; kernel_rfl; decide +kernel; rfl; exact hC; exact (fun _ _ _ h => h); exact hR; with_reducible exact wanted_none)); (intro w; first | (exact draw_fa rfl (by (exact ev_const)) (by assumption) (by with_reducible exact fo77_0)) | (go_simp; done) | (go_simp; rw [wrapI (by omega) (by omega)]) | (go_simp; with_reducible rfl) | (go_simp; rfl)); (clear hR hC; intro hR hC); (try simp only [Act.put, q1, q2, q3])) | ((first | ((with_reducible apply draw_read (i := 4)); (simp only [q4, q6, q5]; with_reducible rfl); kernel_rfl; kernel_rfl; decide +kernel; kernel_rfl; rfl; exact hC; exact (fun _ _ _ h => h); exact hR; kernel_rfl; with_reducible exact wanted_none) | ((with_reducible apply draw_read (i := 5)); (simp only [q4, q6, q5]; with_reducible rfl); kernel_rfl; kernel_rfl; decide +kernel; kernel_rfl; rfl; exact hC; exact (fun _ _ _ h => h); exact hR; kernel_rfl; with_reducible exact wanted_none)); (intro w hS; (apply run_op_load rfl (by (exact ev_tmp rfl))); first | exact run_loadVar1 (by decide +kernel) (hS.cell (by (repeat (with_reducible first | exact mem_hd | apply mem_tl))) rfl) | exact run_loadVar1 (by decide +kernel) ((hS.ownCell (by (repeat (with_reducible apply mem_tl))) (by (rfl))).1) | exact run_loadVar1 (by decide +kernel) (Sat.rdCell2 (by assumption) hS (by ((repeat (with_reducible apply mem_tl))); try assumption) (by (rfl))) | exact run_loadVar1 (by decide +kernel) (hS.baseCell (by ((repeat (with_reducible apply mem_tl))); try assumption) (by assumption)) | exact run_loadVar1 (by decide +kernel) (fzC (by assumption) hS (by ((repeat (with_reducible apply mem_tl))); try assumption)) | exact run_loadRN hS (by assumption) (by ((repeat (with_reducible apply mem_tl))); try assumption) (by assumption) (by rfl) (by with_reducible exact sz77) (by decide +kernel) (by decide) | exact hS.loadWhole (by (repeat (with_reducible exact mem_hd))) (by kernel_rfl) (by kernel_rfl)); (clear hR hC; intro hR hC); (try simp only [Act.put, q1, q2, q3])) | ((with_reducible apply draw_act (i := 6)); (simp only [q4, q6, q5]; with_reducible rfl); decide +kernel; exact hC; clear hR hC) | ((with_reducible apply draw_act (i := 7)); (simp only [q4, q6, q5]; with_reducible rfl); decide +kernel; exact hC; clear hR hC) | ((with_reducible apply draw_act (i := 10)); (simp only [q4, q6, q5]; with_reducible rfl); decide +kernel; exact hC; clear hR hC) | ((with_reducible apply draw_done); decide +kernel; clear hR hC) | (refine draw_sat 4 11 hS (by kernel_rfl) [7, 10] rfl ?_; clear hS; intro w hS hR hC) | ((with_reducible apply arm_build1 hS); exact wanted_none; exact E96; exact ev_tmp rfl; exact cells_agg; rfl; decide; clear hS; intro NB w hS; (try simp only [Act.put, q1, q2, q3])) | ((with_reducible apply arm_appendB hS); exact wanted_none; exact ev_tmp rfl; exact ev_tmp rfl; exact E96; (repeat (with_reducible first | exact Rem.hd | apply Rem.tl)); (repeat (with_reducible apply Rem.tl)); rfl; rfl; (omega); (omega); clear hS; intro AD CAP w hS; (try simp only [Nat.zero_add, List.nil_append] at hS); (try simp only [Act.put, q1, q2, q3])))
    go_ret
    refine ⟨rfl, AD, CAP, ad2, c2, ?_⟩
    dsimp only [List.length_cons, stC]
    obtain ⟨g1, g2, g3⟩ := HK.out
    rw [HL.out, HN.out, g1, g2, g3, show ((opn + 1 : Nat) : Int) = (opn : Int) + 1 by omega]
    exact hS.sb (by (repeat (first | with_reducible exact Sb.refl | (with_reducible refine Sb.take (by (repeat (with_reducible first | exact Rem.hd | apply Rem.tl)); done) ?_) | with_reducible apply Sb.skip)))
end Go.Proofs.YthackanffcaejaaDoor
end
section
set_option linter.unusedSimpArgs false
set_option linter.unusedVariables false
set_option maxRecDepth 20000
namespace Go.Proofs.YthackanffcaejaaDoor
open Go Go.RowKit Go.SL Go.ClauseP Go.LexP
-- ACT2

set_option maxHeartbeats 8000000 in
theorem operatorR (B : Nat) (op : Int) (hop : i64 op) (st : List Wt) (out : List (Int × Int)) (opn nds : Nat) (hm : MOk ⟨st, out, opn, nds⟩) (w0 w : World) (R : List HP) (h : MSt w0 w R B ⟨st, out, opn, nds⟩) :
    Calls Tryd.prog 52 #[.pointer (some ⟨B, 0, none⟩), .int .i64 op] w fun e w' => e = .returned (.int .i64 (if 65536 ≤ nds then 8 else 0)) ∧
      (¬ 65536 ≤ nds → MSt w0 w' R B ⟨.op op :: (operM op st out opn).1, (operM op st out opn).2.1, (operM op st out opn).2.2, nds + 1⟩ ∧ MOk ⟨(operM op st out opn).1, (operM op st out opn).2.1, (operM op st out opn).2.2, nds + 1⟩) ∧ (65536 ≤ nds → MSt w0 w' R B ⟨st, out, opn, nds⟩) := by
  have MK := fun w h => makesM2 B st out opn nds hm.2.2.2.2 w0 w R h
  by_cases hlim : 65536 ≤ nds
  · simp only [if_pos hlim] at MK ⊢
    go_enter Tryd.func52, Tryd.ntmps52
    go_wp2_with (go_at_call 49; refine (MK _ h).mono ?_; clear h; rintro e w ⟨rfl, h⟩)
    go_ret
    exact ⟨rfl, fun h2 => absurd hlim h2, fun _ => h⟩
  · simp only [if_neg hlim] at MK ⊢
    obtain ⟨rs, hrs⟩ : ∃ rs, rs = operM op st out opn := ⟨_, rfl⟩
    rw [← hrs]
    have HRS := hid hrs
    have hm2 : MOk ⟨st, out, opn, nds + 1⟩ := ⟨hm.1, hm.2.1, hm.2.2.1, hm.2.2.2.1, by have := hm.2.2.2.2; show nds + 1 ≤ 65536; have : nds ≤ 65536 := hm.2.2.2.2; omega⟩
    have TM := fun m' hm' w h => topM B m' hm' w0 w R h
    have BR := fun o w Hs hS => bindsR o w0 w Hs hS
    have HLIM := hid hlim
    unfold i64 at hop
    obtain ⟨bo, hbo⟩ : ∃ bo : Nat, bo = bndN op := ⟨_, rfl⟩
    have HBO := hid hbo
    have hbo5 : (bo : Int) ≤ 5 := by have := bndN_le op; omega
    have BO := BR op
    rw [← hbo] at BO
    clear hrs hm hlim hbo
    go_enter Tryd.func52, Tryd.ntmps52
    go_wp2_with (go_at_call 49; refine (MK _ h).mono ?_; clear h MK; rintro e w ⟨rfl, h⟩)
    go_loopw [6] (fun _ wr => ∃ S o k, Hid (rs = operM op S o k) ∧ MOk ⟨S, o, k, nds + 1⟩ ∧ MSt w0 wr R B ⟨S, o, k, nds + 1⟩) (fun _ wr => stM B wr)
    case atStart => exact ⟨st, out, opn, HRS, hm2, h⟩
    case round =>
      clear h hm2 HRS
      obtain ⟨S, o, k, HR, hm, h⟩ := hrel
      have hme := h.meas
      have HME := hid hme
      clear hme
      have T1 := fun w h => TM ⟨S, o, k, nds + 1⟩ hm.2.1 w h
      clear TM
      cases S with
      | nil =>
        have HR2 := hid (show rs = ([], o, k) by rw [HR.out]; rfl)
        simp only [kd] at T1
        clear HR
        go_upto_region 9 with (go_at_call 56; refine (T1 _ h).mono ?_; clear h; rintro e w ⟨rfl, h⟩)
        generalize ([] : List Wt) = SS at *
        obtain ⟨ad1, c1, ad2, c2, hS⟩ := h
        dsimp only at hS
        have hl2 := hm.2.1
        dsimp only at hl2
        generalize hl' : (SS).length = l at *
        have HL := hid hl'
        clear hl'
        ((with_reducible apply wp_region_list); (simp only [List.toList_toArray]); (repeat (first | ((with_reducible apply arm_load hS); exact wanted_none; exact ev_tmp rfl; (repeat (with_reducible exact mem_hd)); rfl; decide +kernel; (try simp only [Act.put, q1, q2, q3])) | ((with_reducible apply arm_build1 hS); exact wanted_none; exact E96; exact ev_tmp rfl; exact cells_agg; rfl; decide; clear hS; intro NB w hS; (try simp only [Act.put, q1, q2, q3])) | ((with_reducible apply arm_appendB hS); exact wanted_none; exact ev_tmp rfl; exact ev_tmp rfl; exact E96; (repeat (with_reducible first | exact Rem.hd | apply Rem.tl)); (repeat (with_reducible apply Rem.tl)); rfl; rfl; (omega); (omega); clear hS; intro AD CAP w hS; (try simp only [Nat.zero_add, List.nil_append] at hS); (try simp only [Act.put, q1, q2, q3])) | ((with_reducible apply arm_store hS); exact wanted_none; exact ev_tmp rfl; exact ev_tmp rfl; (repeat (with_reducible first | exact mem_hd | apply mem_tl)); rfl; (focus (simp; done)); (repeat (with_reducible first | exact Upd.hd | apply Upd.tl)); rfl; decide +kernel; clear hS; intro w hS; (try simp only [q2, q3] at hS); (try simp only [Act.put, q1, q2, q3])) | ((with_reducible apply arm_pureV); exact wanted_none; (go_simp; with_reducible rfl); (try simp only [Act.put, q1, q2, q3])))); (refine wpL_nil ?_))
        go_wp2_with ((with_reducible apply arm_load hS); exact wanted_guard rfl rfl; exact ev_const; (repeat (with_reducible apply mem_tl)); rfl; decide +kernel; (try simp only [Act.put, q1, q2, q3]))
        go_ret
        refine ⟨rfl, fun _ => ?_, fun hh => absurd hh HLIM.out⟩
        rw [HR2.out]
        refine ⟨⟨AD, CAP, ad2, c2, ?_⟩, hm⟩
        dsimp only [List.length_cons, stC, wtN]
        rw [HL.out]
        exact hS.sb (by (repeat (first | with_reducible exact Sb.refl | (with_reducible refine Sb.take (by (repeat (with_reducible first | exact Rem.hd | apply Rem.tl)); done) ?_))))
      | cons x S =>
        cases x with
        | opn =>
          have HR2 := hid (show rs = (.opn :: S, o, k) by rw [HR.out]; rfl)
          simp only [kd, wtN] at T1
          clear HR
          go_upto_region 9 with (go_at_call 56; refine (T1 _ h).mono ?_; clear h; rintro e w ⟨rfl, h⟩)
          generalize (.opn :: S : List Wt) = SS at *
          obtain ⟨ad1, c1, ad2, c2, hS⟩ := h
          dsimp only at hS
          have hl2 := hm.2.1
          dsimp only at hl2
          generalize hl' : (SS).length = l at *
          have HL := hid hl'
          clear hl'
          ((with_reducible apply wp_region_list); (simp only [List.toList_toArray]); (repeat (first | ((with_reducible apply arm_load hS); exact wanted_none; exact ev_tmp rfl; (repeat (with_reducible exact mem_hd)); rfl; decide +kernel; (try simp only [Act.put, q1, q2, q3])) | ((with_reducible apply arm_build1 hS); exact wanted_none; exact E96; exact ev_tmp rfl; exact cells_agg; rfl; decide; clear hS; intro NB w hS; (try simp only [Act.put, q1, q2, q3])) | ((with_reducible apply arm_appendB hS); exact wanted_none; exact ev_tmp rfl; exact ev_tmp rfl; exact E96; (repeat (with_reducible first | exact Rem.hd | apply Rem.tl)); (repeat (with_reducible apply Rem.tl)); rfl; rfl; (omega); (omega); clear hS; intro AD CAP w hS; (try simp only [Nat.zero_add, List.nil_append] at hS); (try simp only [Act.put, q1, q2, q3])) | ((with_reducible apply arm_store hS); exact wanted_none; exact ev_tmp rfl; exact ev_tmp rfl; (repeat (with_reducible first | exact mem_hd | apply mem_tl)); rfl; (focus (simp; done)); (repeat (with_reducible first | exact Upd.hd | apply Upd.tl)); rfl; decide +kernel; clear hS; intro w hS; (try simp only [q2, q3] at hS); (try simp only [Act.put, q1, q2, q3])) | ((with_reducible apply arm_pureV); exact wanted_none; (go_simp; with_reducible rfl); (try simp only [Act.put, q1, q2, q3])))); (refine wpL_nil ?_))
          go_wp2_with ((with_reducible apply arm_load hS); exact wanted_guard rfl rfl; exact ev_const; (repeat (with_reducible apply mem_tl)); rfl; decide +kernel; (try simp only [Act.put, q1, q2, q3]))
          go_ret
          refine ⟨rfl, fun _ => ?_, fun hh => absurd hh HLIM.out⟩
          rw [HR2.out]
          refine ⟨⟨AD, CAP, ad2, c2, ?_⟩, hm⟩
          dsimp only [List.length_cons, stC, wtN]
          rw [HL.out]
          exact hS.sb (by (repeat (first | with_reducible exact Sb.refl | (with_reducible refine Sb.take (by (repeat (with_reducible first | exact Rem.hd | apply Rem.tl)); done) ?_))))
        | ite n =>
          have HR2 := hid (show rs = (.ite n :: S, o, k) by rw [HR.out]; rfl)
          simp only [kd, wtN] at T1
          clear HR
          go_upto_region 9 with (go_at_call 56; refine (T1 _ h).mono ?_; clear h; rintro e w ⟨rfl, h⟩)
          generalize (.ite n :: S : List Wt) = SS at *
          obtain ⟨ad1, c1, ad2, c2, hS⟩ := h
          dsimp only at hS
          have hl2 := hm.2.1
          dsimp only at hl2
          generalize hl' : (SS).length = l at *
          have HL := hid hl'
          clear hl'
          ((with_reducible apply wp_region_list); (simp only [List.toList_toArray]); (repeat (first | ((with_reducible apply arm_load hS); exact wanted_none; exact ev_tmp rfl; (repeat (with_reducible exact mem_hd)); rfl; decide +kernel; (try simp only [Act.put, q1, q2, q3])) | ((with_reducible apply arm_build1 hS); exact wanted_none; exact E96; exact ev_tmp rfl; exact cells_agg; rfl; decide; clear hS; intro NB w hS; (try simp only [Act.put, q1, q2, q3])) | ((with_reducible apply arm_appendB hS); exact wanted_none; exact ev_tmp rfl; exact ev_tmp rfl; exact E96; (repeat (with_reducible first | exact Rem.hd | apply Rem.tl)); (repeat (with_reducible apply Rem.tl)); rfl; rfl; (omega); (omega); clear hS; intro AD CAP w hS; (try simp only [Nat.zero_add, List.nil_append] at hS); (try simp only [Act.put, q1, q2, q3])) | ((with_reducible apply arm_store hS); exact wanted_none; exact ev_tmp rfl; exact ev_tmp rfl; (repeat (with_reducible first | exact mem_hd | apply mem_tl)); rfl; (focus (simp; done)); (repeat (with_reducible first | exact Upd.hd | apply Upd.tl)); rfl; decide +kernel; clear hS; intro w hS; (try simp only [q2, q3] at hS); (try simp only [Act.put, q1, q2, q3])) | ((with_reducible apply arm_pureV); exact wanted_none; (go_simp; with_reducible rfl); (try simp only [Act.put, q1, q2, q3])))); (refine wpL_nil ?_))
          go_wp2_with ((with_reducible apply arm_load hS); exact wanted_guard rfl rfl; exact ev_const; (repeat (with_reducible apply mem_tl)); rfl; decide +kernel; (try simp only [Act.put, q1, q2, q3]))
          go_ret
          refine ⟨rfl, fun _ => ?_, fun hh => absurd hh HLIM.out⟩
          rw [HR2.out]
          refine ⟨⟨AD, CAP, ad2, c2, ?_⟩, hm⟩
          dsimp only [List.length_cons, stC, wtN]
          rw [HL.out]
          exact hS.sb (by (repeat (first | with_reducible exact Sb.refl | (with_reducible refine Sb.take (by (repeat (with_reducible first | exact Rem.hd | apply Rem.tl)); done) ?_))))
        | quant a b =>
          have HR2 := hid (show rs = (.quant a b :: S, o, k) by rw [HR.out]; rfl)
          simp only [kd, wtN] at T1
          clear HR
          go_upto_region 9 with (go_at_call 56; refine (T1 _ h).mono ?_; clear h; rintro e w ⟨rfl, h⟩)
          generalize (.quant a b :: S : List Wt) = SS at *
          obtain ⟨ad1, c1, ad2, c2, hS⟩ := h
          dsimp only at hS
          have hl2 := hm.2.1
          dsimp only at hl2
          generalize hl' : (SS).length = l at *
          have HL := hid hl'
          clear hl'
          ((with_reducible apply wp_region_list); (simp only [List.toList_toArray]); (repeat (first | ((with_reducible apply arm_load hS); exact wanted_none; exact ev_tmp rfl; (repeat (with_reducible exact mem_hd)); rfl; decide +kernel; (try simp only [Act.put, q1, q2, q3])) | ((with_reducible apply arm_build1 hS); exact wanted_none; exact E96; exact ev_tmp rfl; exact cells_agg; rfl; decide; clear hS; intro NB w hS; (try simp only [Act.put, q1, q2, q3])) | ((with_reducible apply arm_appendB hS); exact wanted_none; exact ev_tmp rfl; exact ev_tmp rfl; exact E96; (repeat (with_reducible first | exact Rem.hd | apply Rem.tl)); (repeat (with_reducible apply Rem.tl)); rfl; rfl; (omega); (omega); clear hS; intro AD CAP w hS; (try simp only [Nat.zero_add, List.nil_append] at hS); (try simp only [Act.put, q1, q2, q3])) | ((with_reducible apply arm_store hS); exact wanted_none; exact ev_tmp rfl; exact ev_tmp rfl; (repeat (with_reducible first | exact mem_hd | apply mem_tl)); rfl; (focus (simp; done)); (repeat (with_reducible first | exact Upd.hd | apply Upd.tl)); rfl; decide +kernel; clear hS; intro w hS; (try simp only [q2, q3] at hS); (try simp only [Act.put, q1, q2, q3])) | ((with_reducible apply arm_pureV); exact wanted_none; (go_simp; with_reducible rfl); (try simp only [Act.put, q1, q2, q3])))); (refine wpL_nil ?_))
          go_wp2_with ((with_reducible apply arm_load hS); exact wanted_guard rfl rfl; exact ev_const; (repeat (with_reducible apply mem_tl)); rfl; decide +kernel; (try simp only [Act.put, q1, q2, q3]))
          go_ret
          refine ⟨rfl, fun _ => ?_, fun hh => absurd hh HLIM.out⟩
          rw [HR2.out]
          refine ⟨⟨AD, CAP, ad2, c2, ?_⟩, hm⟩
          dsimp only [List.length_cons, stC, wtN]
          rw [HL.out]
          exact hS.sb (by (repeat (first | with_reducible exact Sb.refl | (with_reducible refine Sb.take (by (repeat (with_reducible first | exact Rem.hd | apply Rem.tl)); done) ?_))))
        | not =>
          have HR2 := hid (show rs = operM op S (o ++ ndW .not) (k - opW .not) by rw [HR.out]; rfl)
          obtain ⟨s1, s2⟩ := hm.settle
          have SM := fun w h => settleM B .not S o k (nds + 1) (by intro h; cases h) s1 hm.2.2.2.1 (by have := hm.2.1; simp at this; omega) (by have := hm.2.2.1; simp at this; omega) w0 w R h
          simp only [kd, wtN] at T1
          clear HR
          go_wp2_with (first | (go_at_call 56; refine (T1 _ h).mono ?_; clear h; rintro e w ⟨rfl, h⟩) | (go_at_call 90; refine (SM _ h).mono ?_; clear h; rintro e w ⟨rfl, h⟩))
          go_roundw
          case rel => exact ⟨S, _, _, HR2, s2, h⟩
          case measure => rw [h.meas, HME.out]; simp
        | op a =>
          simp only [kd, wtN] at T1
          obtain ⟨ba, hba⟩ : ∃ ba : Nat, ba = bndN a := ⟨_, rfl⟩
          have HBA := hid hba
          have hba5 : (ba : Int) ≤ 5 := by have := bndN_le a; omega
          have BA := BR a
          rw [← hba] at BA
          clear hba
          have hll := hm.2.1
          simp only [List.length_cons] at hll
          obtain ⟨V0, V1, V2, V3, V4⟩ := top_cells (a := .int .i64 5) (b := .int .i64 a) (c := .int .i64 0) (stC_len S)
          have hop' : ∀ {w : World}, MSt w0 w R B ⟨.op a :: S, o, k, nds + 1⟩ → ∃ ad1 c1 ad2 c2, (∃ aa, ad1 = some aa ∧ aa.spot = none) ∧ Sat w0 w (blk B 98 [.slice ad1 (S.length + 1) c1, .slice ad2 o.length c2, .int .i64 k, .int .i64 ((nds + 1 : Nat) : Int)] :: own 106 3 ad1 (S.length + 1) c1 (stC S ++ [.int .i64 5, .int .i64 a, .int .i64 0]) :: own 77 2 ad2 o.length c2 (Fs o) :: R) := fun h => by
            obtain ⟨ad1, c1, ad2, c2, hS⟩ := h
            simp only [List.length_cons, stC, wtN] at hS
            exact ⟨ad1, c1, ad2, c2, hS.ownNN (mem_tl mem_hd) (by omega), hS⟩
          have hli : (S.length : Int) ≤ 200000 := by omega
          have SH : ∀ {w : World} {ad1 ad2 : Option Addr} {c1 c2 : Nat}, Sat w0 w (blk B 98 [.slice ad1 (S.length + 1) c1, .slice ad2 o.length c2, .int .i64 k, .int .i64 ((nds + 1 : Nat) : Int)] :: own 106 3 ad1 (S.length + 1) c1 (stC S ++ [.int .i64 5, .int .i64 a, .int .i64 0]) :: own 77 2 ad2 o.length c2 (Fs o) :: R) → MSt w0 w R B ⟨.op a :: S, o, k, nds + 1⟩ := fun hS => ⟨_, _, _, _, hS⟩
          obtain ⟨s1, s2⟩ := hm.settle
          have SM := fun w h => settleM B (.op a) S o k (nds + 1) (by intro h; cases h) s1 hm.2.2.2.1 (by have := hm.2.1; simp at this; omega) (by have := hm.2.2.1; simp at this; omega) w0 w R h
          by_cases hbrk : ba < bo ∨ (ba = bo ∧ op = 9)
          · have HR2 := hid (show rs = (.op a :: S, o, k) by
              rw [HR.out, operM, ← HBA.out, ← HBO.out, if_pos hbrk])
            have hcase : (ba < bo) ∨ (decide (ba < bo) = false ∧ ((ba : Int) == (bo : Int)) = true ∧ (ba == bo) = true ∧ (op == 9) = true) := by
              rcases hbrk with h1 | ⟨h1, h2⟩
              · exact .inl (by omega)
              · exact .inr ⟨by simp; omega, by simp; omega, by simp; omega, by simpa using h2⟩
            clear hbrk HR SM SH s1 s2
            rcases hcase with h1 | ⟨h1, h2, h22, h3⟩
            all_goals
              go_upto_region 6 with (go_at_call 56; refine (T1 _ h).mono ?_; clear h; rintro e w ⟨rfl, h⟩)
              obtain ⟨ad1, c1, ad2, c2, NNA, hS⟩ := hop' h
              clear h
              generalize hl' : S.length = l at *
              have HL := hid hl'
              clear hl'
              clear V0 V2 V3 V4 hop' BR
              go_upto_region 7 with (first | ((with_reducible apply Cont.intro); (focus (apply Or.inr; apply (Sat.sb hS); (repeat (with_reducible exact Sb.refl)); done)); intro hR hC) | ((first | ((with_reducible apply draw_pure (i := 0)); (simp only [q4, q6, q5]; with_reducible rfl); kernel_rfl; kernel_rfl; decide +kernel; rfl; exact hC; exact (fun _ _ _ h => h); exact hR; with_reducible exact wanted_none) | ((with_reducible apply draw_pure (i := 1)); (simp only [q4, q6, q5]; with_reducible rfl); kernel_rfl; kernel_rfl; decide +kernel; rfl; exact hC; exact (fun _ _ _ h => h); exact hR; with_reducible exact wanted_none) | ((with_reducible apply draw_pure (i := 4)); (simp only [q4, q6, q5]; with_reducible rfl); kernel_rfl; kernel_rfl; decide +kernel; rfl; exact hC; exact (fun _ _ _ h => h); exact hR; with_reducible exact wanted_none) | ((with_reducible apply draw_pure (i := 5)); (simp only [q4, q6, q5]; with_reducible rfl); kernel_rfl; kernel_rfl; decide +kernel; rfl; exact hC; exact (fun _ _ _ h => h); exact hR; with_reducible exact wanted_none) | ((with_reducible apply draw_pure (i := 8)); (simp only [q4, q6, q5]; with_reducible rfl); kernel_rfl; kernel_rfl; decide +kernel; rfl; exact hC; exact (fun _ _ _ h => h); exact hR; with_reducible exact wanted_none) | ((with_reducible apply draw_pure (i := 9)); (simp only [q4, q6, q5]; with_reducible rfl); kernel_rfl; kernel_rfl; decide +kernel; rfl; exact hC; exact (fun _ _ _ h => h); exact hR; with_reducible exact wanted_none) | ((with_reducible apply draw_pure (i := 14)); (simp only [q4, q6, q5]; with_reducible rfl); kernel_rfl; kernel_rfl; decide +kernel; rfl; exact hC; exact (fun _ _ _ h => h); exact hR; with_reducible exact wanted_none)); (intro w; first | (go_simp; done) | (go_simp; rw [wrapI (by omega) (by omega)]) | (go_simp; with_reducible rfl) | (go_simp; rfl)); (clear hR hC; intro hR hC); (try simp only [Act.put, q1, q2, q3])) | ((first | ((with_reducible apply draw_pure (i := 2)); (simp only [q4, q6, q5]; with_reducible rfl); kernel_rfl; kernel_rfl; decide +kernel; rfl; exact hC; exact (fun _ _ _ h => h); exact hR; with_reducible exact wanted_none) | ((with_reducible apply draw_pure (i := 6)); (simp only [q4, q6, q5]; with_reducible rfl); kernel_rfl; kernel_rfl; decide +kernel; rfl; exact hC; exact (fun _ _ _ h => h); exact hR; with_reducible exact wanted_none) | ((with_reducible apply draw_pure (i := 11)); (simp only [q4, q6, q5]; with_reducible rfl); kernel_rfl; kernel_rfl; decide +kernel; rfl; exact hC; exact (fun _ _ _ h => h); exact hR; with_reducible exact wanted_none)); (intro w; first | (exact draw_fa rfl (by (exact ev_tmp rfl)) (by assumption) (by with_reducible exact fo106_1)) | (go_simp; done) | (go_simp; rw [wrapI (by omega) (by omega)]) | (go_simp; with_reducible rfl) | (go_simp; rfl)); (clear hR hC; intro hR hC); (try simp only [Act.put, q1, q2, q3])) | (((with_reducible apply draw_pure (i := 10)); (simp only [q4, q6, q5]; with_reducible rfl); kernel_rfl; kernel_rfl; decide +kernel; rfl; exact hC; exact (fun _ _ _ h => h); exact hR; with_reducible exact wanted_none); (intro w; first | (with_reducible exact draw_ia E37 rfl (by (exact ev_const)) (by (exact ev_const)) (by (omega)) (by (omega)) (by (assumption)) (by (rfl))) | (with_reducible exact draw_ia E96 rfl (by (exact ev_tmp rfl)) (by (exact ev_tmp rfl)) (by (omega)) (by (omega)) (by (exact hS.ownNN (by (repeat (with_reducible first | exact mem_hd | apply mem_tl))) (by omega))) (by (simp only [Int.toNat_natCast, Nat.mul_one, Nat.zero_add, tn_sub, tn_sub1, tn_sub2, tn_sub3, tn_add, tn_add1, tn_add2]; rfl))) | (go_simp; done) | (go_simp; rw [wrapI (by omega) (by omega)]) | (go_simp; with_reducible rfl)); (clear hR hC; intro hR hC); (try simp only [Act.put, q1, q2, q3])) | ((first | ((with_reducible apply draw_read (i := 3)); (simp only [q4, q6, q5]; with_reducible rfl); kernel_rfl; kernel_rfl; decide +kernel; kernel_rfl; rfl; exact hC; exact (fun _ _ _ h => h); exact hR; kernel_rfl; with_reducible exact wanted_none) | ((with_reducible apply draw_read (i := 7)); (simp only [q4, q6, q5]; with_reducible rfl); kernel_rfl; kernel_rfl; decide +kernel; kernel_rfl; rfl; exact hC; exact (fun _ _ _ h => h); exact hR; kernel_rfl; with_reducible exact wanted_none) | ((with_reducible apply draw_read (i := 12)); (simp only [q4, q6, q5]; with_reducible rfl); kernel_rfl; kernel_rfl; decide +kernel; kernel_rfl; rfl; exact hC; exact (fun _ _ _ h => h); exact hR; kernel_rfl; with_reducible exact wanted_none)); (intro w hS; (apply run_op_load rfl (by (exact ev_tmp rfl))); first | exact run_loadVar1 (by decide +kernel) (hS.cell (by (repeat (with_reducible first | exact mem_hd | apply mem_tl))) rfl) | exact run_loadVar1 (by decide +kernel) ((hS.ownCell (by (repeat (with_reducible first | exact mem_hd | apply mem_tl))) (by (assumption))).1) | exact run_loadVar1 (by decide +kernel) (Sat.rdCell2 (by assumption) hS (by ((repeat (with_reducible apply mem_tl))); try assumption) (by (rfl))) | exact run_loadVar1 (by decide +kernel) (hS.baseCell (by ((repeat (with_reducible apply mem_tl))); try assumption) (by assumption)) | exact run_loadVar1 (by decide +kernel) (fzC (by assumption) hS (by ((repeat (with_reducible apply mem_tl))); try assumption)) | exact run_loadRN hS (by assumption) (by ((repeat (with_reducible apply mem_tl))); try assumption) (by assumption) (by rfl) (by with_reducible exact sz77) (by decide +kernel) (by decide) | exact hS.loadWhole (by (repeat (with_reducible apply mem_tl))) (by kernel_rfl) (by kernel_rfl)); (clear hR hC; intro hR hC); (try simp only [Act.put, q1, q2, q3])) | ((with_reducible apply draw_act (i := 13)); (simp only [q4, q6, q5]; with_reducible rfl); decide +kernel; exact hC; clear hR hC) | ((with_reducible apply draw_done); decide +kernel; clear hR hC) | (refine draw_sat 6 15 hS (by kernel_rfl) [] rfl ?_; clear hS; intro w hS hR hC) | (go_at_call 89; refine (BA _ _ hS).mono ?_; clear hS; rintro e w ⟨rfl, hS⟩))
              clear BA V1
              go_upto_region 9 with (go_at_call 89; refine (BO _ _ hS).mono ?_; clear hS; rintro e w ⟨rfl, hS⟩)
              clear BO
              ((with_reducible apply wp_region_list); (simp only [List.toList_toArray]); (repeat (first | ((with_reducible apply arm_load hS); exact wanted_none; exact ev_tmp rfl; (repeat (with_reducible exact mem_hd)); rfl; decide +kernel; (try simp only [Act.put, q1, q2, q3])) | ((with_reducible apply arm_build1 hS); exact wanted_none; exact E96; exact ev_tmp rfl; exact cells_agg; rfl; decide; clear hS; intro NB w hS; (try simp only [Act.put, q1, q2, q3])) | ((with_reducible apply arm_appendB hS); exact wanted_none; exact ev_tmp rfl; exact ev_tmp rfl; exact E96; (repeat (with_reducible first | exact Rem.hd | apply Rem.tl)); (repeat (with_reducible apply Rem.tl)); rfl; rfl; (omega); (omega); clear hS; intro AD CAP w hS; (try simp only [Nat.zero_add, List.nil_append] at hS); (try simp only [Act.put, q1, q2, q3])) | ((with_reducible apply arm_store hS); exact wanted_none; exact ev_tmp rfl; exact ev_tmp rfl; (repeat (with_reducible first | exact mem_hd | apply mem_tl)); rfl; (focus (simp; done)); (repeat (with_reducible first | exact Upd.hd | apply Upd.tl)); rfl; decide +kernel; clear hS; intro w hS; (try simp only [q2, q3] at hS); (try simp only [Act.put, q1, q2, q3])) | ((with_reducible apply arm_pureV); exact wanted_none; (go_simp; with_reducible rfl); (try simp only [Act.put, q1, q2, q3])))); (refine wpL_nil ?_))
              go_wp2_with ((with_reducible apply arm_load hS); exact wanted_guard rfl rfl; exact ev_const; (repeat (with_reducible apply mem_tl)); rfl; decide +kernel; (try simp only [Act.put, q1, q2, q3]))
              go_ret
              refine ⟨rfl, fun _ => ?_, fun hh => absurd hh HLIM.out⟩
              rw [HR2.out]
              refine ⟨⟨AD, CAP, ad2, c2, ?_⟩, hm⟩
              dsimp only [List.length_cons, stC, wtN]
              rw [HL.out]
              exact hS.sb (by (repeat (first | with_reducible exact Sb.refl | (with_reducible refine Sb.take (by (repeat (with_reducible first | exact Rem.hd | apply Rem.tl)); done) ?_))))
          · have HR2 := hid (show rs = operM op S (o ++ ndW (.op a)) (k - opW (.op a)) by
              rw [HR.out, operM, ← HBA.out, ← HBO.out, if_neg hbrk]; rfl)
            have hge : decide (ba < bo) = false := by simp; omega
            have hcase : (((ba : Int) == (bo : Int)) = false ∧ (ba == bo) = false) ∨ (((ba : Int) == (bo : Int)) = true ∧ (ba == bo) = true ∧ (op == 9) = false) := by
              by_cases h1 : ba = bo
              · exact .inr ⟨by simp; omega, by simp; omega, by simp; intro h2; exact hbrk (.inr ⟨h1, h2⟩)⟩
              · exact .inl ⟨by simp; omega, by simp; omega⟩
            clear hbrk HR
            rcases hcase with ⟨h1, h11⟩ | ⟨h1, h11, h3⟩
            all_goals
              go_upto_region 6 with (go_at_call 56; refine (T1 _ h).mono ?_; clear h; rintro e w ⟨rfl, h⟩)
              obtain ⟨ad1, c1, ad2, c2, NNA, hS⟩ := hop' h
              clear h
              clear V0 V2 V3 V4 hop' BR
              go_upto_region 7 with (first | ((with_reducible apply Cont.intro); (focus (apply Or.inr; apply (Sat.sb hS); (repeat (with_reducible exact Sb.refl)); done)); intro hR hC) | ((first | ((with_reducible apply draw_pure (i := 0)); (simp only [q4, q6, q5]; with_reducible rfl); kernel_rfl; kernel_rfl; decide +kernel; rfl; exact hC; exact (fun _ _ _ h => h); exact hR; with_reducible exact wanted_none) | ((with_reducible apply draw_pure (i := 1)); (simp only [q4, q6, q5]; with_reducible rfl); kernel_rfl; kernel_rfl; decide +kernel; rfl; exact hC; exact (fun _ _ _ h => h); exact hR; with_reducible exact wanted_none) | ((with_reducible apply draw_pure (i := 4)); (simp only [q4, q6, q5]; with_reducible rfl); kernel_rfl; kernel_rfl; decide +kernel; rfl; exact hC; exact (fun _ _ _ h => h); exact hR; with_reducible exact wanted_none) | ((with_reducible apply draw_pure (i := 5)); (simp only [q4, q6, q5]; with_reducible rfl); kernel_rfl; kernel_rfl; decide +kernel; rfl; exact hC; exact (fun _ _ _ h => h); exact hR; with_reducible exact wanted_none) | ((with_reducible apply draw_pure (i := 8)); (simp only [q4, q6, q5]; with_reducible rfl); kernel_rfl; kernel_rfl; decide +kernel; rfl; exact hC; exact (fun _ _ _ h => h); exact hR; with_reducible exact wanted_none) | ((with_reducible apply draw_pure (i := 9)); (simp only [q4, q6, q5]; with_reducible rfl); kernel_rfl; kernel_rfl; decide +kernel; rfl; exact hC; exact (fun _ _ _ h => h); exact hR; with_reducible exact wanted_none) | ((with_reducible apply draw_pure (i := 14)); (simp only [q4, q6, q5]; with_reducible rfl); kernel_rfl; kernel_rfl; decide +kernel; rfl; exact hC; exact (fun _ _ _ h => h); exact hR; with_reducible exact wanted_none)); (intro w; first | (go_simp; done) | (go_simp; rw [wrapI (by omega) (by omega)]) | (go_simp; with_reducible rfl) | (go_simp; rfl)); (clear hR hC; intro hR hC); (try simp only [Act.put, q1, q2, q3])) | ((first | ((with_reducible apply draw_pure (i := 2)); (simp only [q4, q6, q5]; with_reducible rfl); kernel_rfl; kernel_rfl; decide +kernel; rfl; exact hC; exact (fun _ _ _ h => h); exact hR; with_reducible exact wanted_none) | ((with_reducible apply draw_pure (i := 6)); (simp only [q4, q6, q5]; with_reducible rfl); kernel_rfl; kernel_rfl; decide +kernel; rfl; exact hC; exact (fun _ _ _ h => h); exact hR; with_reducible exact wanted_none) | ((with_reducible apply draw_pure (i := 11)); (simp only [q4, q6, q5]; with_reducible rfl); kernel_rfl; kernel_rfl; decide +kernel; rfl; exact hC; exact (fun _ _ _ h => h); exact hR; with_reducible exact wanted_none)); (intro w; first | (exact draw_fa rfl (by (exact ev_tmp rfl)) (by assumption) (by with_reducible exact fo106_1)) | (go_simp; done) | (go_simp; rw [wrapI (by omega) (by omega)]) | (go_simp; with_reducible rfl) | (go_simp; rfl)); (clear hR hC; intro hR hC); (try simp only [Act.put, q1, q2, q3])) | (((with_reducible apply draw_pure (i := 10)); (simp only [q4, q6, q5]; with_reducible rfl); kernel_rfl; kernel_rfl; decide +kernel; rfl; exact hC; exact (fun _ _ _ h => h); exact hR; with_reducible exact wanted_none); (intro w; first | (with_reducible exact draw_ia E37 rfl (by (exact ev_const)) (by (exact ev_const)) (by (omega)) (by (omega)) (by (assumption)) (by (rfl))) | (with_reducible exact draw_ia E96 rfl (by (exact ev_tmp rfl)) (by (exact ev_tmp rfl)) (by (omega)) (by (omega)) (by (exact hS.ownNN (by (repeat (with_reducible first | exact mem_hd | apply mem_tl))) (by omega))) (by (simp only [Int.toNat_natCast, Nat.mul_one, Nat.zero_add, tn_sub, tn_sub1, tn_sub2, tn_sub3, tn_add, tn_add1, tn_add2]; rfl))) | (go_simp; done) | (go_simp; rw [wrapI (by omega) (by omega)]) | (go_simp; with_reducible rfl)); (clear hR hC; intro hR hC); (try simp only [Act.put, q1, q2, q3])) | ((first | ((with_reducible apply draw_read (i := 3)); (simp only [q4, q6, q5]; with_reducible rfl); kernel_rfl; kernel_rfl; decide +kernel; kernel_rfl; rfl; exact hC; exact (fun _ _ _ h => h); exact hR; kernel_rfl; with_reducible exact wanted_none) | ((with_reducible apply draw_read (i := 7)); (simp only [q4, q6, q5]; with_reducible rfl); kernel_rfl; kernel_rfl; decide +kernel; kernel_rfl; rfl; exact hC; exact (fun _ _ _ h => h); exact hR; kernel_rfl; with_reducible exact wanted_none) | ((with_reducible apply draw_read (i := 12)); (simp only [q4, q6, q5]; with_reducible rfl); kernel_rfl; kernel_rfl; decide +kernel; kernel_rfl; rfl; exact hC; exact (fun _ _ _ h => h); exact hR; kernel_rfl; with_reducible exact wanted_none)); (intro w hS; (apply run_op_load rfl (by (exact ev_tmp rfl))); first | exact run_loadVar1 (by decide +kernel) (hS.cell (by (repeat (with_reducible first | exact mem_hd | apply mem_tl))) rfl) | exact run_loadVar1 (by decide +kernel) ((hS.ownCell (by (repeat (with_reducible first | exact mem_hd | apply mem_tl))) (by (assumption))).1) | exact run_loadVar1 (by decide +kernel) (Sat.rdCell2 (by assumption) hS (by ((repeat (with_reducible apply mem_tl))); try assumption) (by (rfl))) | exact run_loadVar1 (by decide +kernel) (hS.baseCell (by ((repeat (with_reducible apply mem_tl))); try assumption) (by assumption)) | exact run_loadVar1 (by decide +kernel) (fzC (by assumption) hS (by ((repeat (with_reducible apply mem_tl))); try assumption)) | exact run_loadRN hS (by assumption) (by ((repeat (with_reducible apply mem_tl))); try assumption) (by assumption) (by rfl) (by with_reducible exact sz77) (by decide +kernel) (by decide) | exact hS.loadWhole (by (repeat (with_reducible apply mem_tl))) (by kernel_rfl) (by kernel_rfl)); (clear hR hC; intro hR hC); (try simp only [Act.put, q1, q2, q3])) | ((with_reducible apply draw_act (i := 13)); (simp only [q4, q6, q5]; with_reducible rfl); decide +kernel; exact hC; clear hR hC) | ((with_reducible apply draw_done); decide +kernel; clear hR hC) | (refine draw_sat 6 15 hS (by kernel_rfl) [] rfl ?_; clear hS; intro w hS hR hC) | (go_at_call 89; refine (BA _ _ hS).mono ?_; clear hS; rintro e w ⟨rfl, hS⟩))
              clear BA V1
              go_upto_region 8 with (go_at_call 89; refine (BO _ _ hS).mono ?_; clear hS; rintro e w ⟨rfl, hS⟩)
              clear BO
              have h := SH hS
              clear hS
              go_wp2_with (go_at_call 90; refine (SM _ h).mono ?_; clear h; rintro e w ⟨rfl, h⟩)
              go_roundw
              case rel => exact ⟨S, _, _, HR2, s2, h⟩
              case measure => rw [h.meas, HME.out]; simp
end Go.Proofs.YthackanffcaejaaDoor
end
