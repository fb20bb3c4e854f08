/- A part of the proof: Rx4 Rx8. -/
import Derived.Test.YthackanffcaejaaGreatDoorO1
import Derived.Test.YthackanffcaejaaGreatDoorO13
import Derived.Test.YthackanffcaejaaGreatDoorO16
set_option linter.unusedSimpArgs false
set_option linter.unusedVariables false
set_option linter.unusedSectionVars false
namespace Go.Proofs.YthackanffcaejaaGreatDoor
section
set_option maxRecDepth 20000
open Go Go.RowKit Go.SL Go.ClauseP Go.LexP
-- ACT2

def MSt (w0 w : World) (R : List HP) (B : Nat) (m : MS) : Prop := ∃ (ad1 : Option Addr) (c1 : Nat) (ad2 : Option Addr) (c2 : Nat),
  Sat w0 w (blk B 92 [.slice ad1 m.st.length c1, .slice ad2 m.out.length c2, .int .i64 m.opn, .int .i64 m.nds] :: own 100 3 ad1 m.st.length c1 (stC m.st) :: own 50 2 ad2 m.out.length c2 (Fs m.out) :: R)
def MOk (m : MS) : Prop := m.opn = (m.st.map opW).sum ∧ m.st.length ≤ 200000 ∧ m.out.length + m.st.length ≤ 400000 ∧ m.opn ≤ 64 ∧ m.nds ≤ 65536
def kd : List Wt → Int
  | [] => 0
  | w :: _ => (wtN w).1
def stM (B : Nat) (w : World) : Nat := match w.cell? ⟨B, 0, none⟩ with
  | some (.slice _ n _) => n
  | _ => 0
theorem MSt.meas {w0 w : World} {R : List HP} {B : Nat} {m : MS} (h : MSt w0 w R B m) : stM B w = m.st.length := by
  obtain ⟨ad1, c1, ad2, c2, hS⟩ := h
  have h0 := hS.cell yf (off := 0) (v := .slice ad1 m.st.length c1) rfl
  unfold stM
  rw [h0]
theorem topM (B : Nat) (m : MS) (hm : m.st.length ≤ 200000) (w0 w : World) (R : List HP) (h : MSt w0 w R B m) :
    Calls Tryz.prog 51 #[.pointer (some ⟨B, 0, none⟩)] w fun e w' => e = .returned (.int .i64 (kd m.st)) ∧ MSt w0 w' R B m := by
  obtain ⟨ad1, c1, ad2, c2, hS⟩ := h
  obtain ⟨st, out, opn, nds⟩ := m
  cases st with
  | nil =>
    refine (top0 B ad1 c1 _ opn nds w0 w _ hS).mono ?_
    rintro e w' ⟨rfl, hS⟩
    exact ⟨rfl, ad1, c1, ad2, c2, hS⟩
  | cons x S =>
    simp only [List.length_cons] at hm hS
    refine (top1 B ad1 S.length c1 (by omega) _ opn nds (wtN x).1 (wtN x).2.1 (wtN x).2.2 (stC S) (kn S) w0 w _ hS).mono ?_
    rintro e w' ⟨rfl, hS⟩
    exact ⟨rfl, ad1, c1, ad2, c2, hS⟩
theorem jL (B : Nat) (x : Wt) (S : List Wt) (out : List (Int × Int)) (opn nds : Nat) (hx : x ≠ .opn) (ho : opW x ≤ opn) (ho2 : opn ≤ 64) (hl : S.length ≤ 200000) (hn : out.length ≤ 400000) (w0 w : World) (R : List HP) (h : MSt w0 w R B ⟨x :: S, out, opn, nds⟩) :
    Calls Tryz.prog 90 #[.pointer (some ⟨B, 0, none⟩)] w fun e w' => e = .returned (.tuple #[]) ∧ MSt w0 w' R B ⟨S, out ++ ndW x, opn - opW x, nds⟩ := by
  obtain ⟨ad1, c1, ad2, c2, hS⟩ := h
  simp only [List.length_cons] at hS
  have e1 : opW x ≤ 1 := by cases x <;> simp [opW]
  cases x with
  | opn => exact (hx rfl).elim
  | not =>
    refine (settleNot B ad1 ad2 S.length c1 out.length c2 (by omega) (by omega) opn nds (by simp only [opW] at ho; omega) (by omega) (stC S) (Fs out) (kn S) w0 w R hS).mono ?_
    rintro e w' ⟨rfl, ad3, c3, hS⟩
    refine ⟨rfl, ad1, c1, ad3, c3, ?_⟩
    rw [show ((opn - opW Wt.not : Nat) : Int) = (opn : Int) - 1 by simp only [opW] at ho ⊢; omega]
    simpa [ndW, YQ, Fs] using hS
  | quant a b =>
    refine (settleQu B ad1 ad2 S.length c1 out.length c2 (by omega) (by omega) opn nds a b (by simp only [opW] at ho; omega) (by omega) (stC S) (Fs out) (kn S) w0 w R hS).mono ?_
    rintro e w' ⟨rfl, ad3, c3, hS⟩
    refine ⟨rfl, ad1, c1, ad3, c3, ?_⟩
    rw [show ((opn - opW (Wt.quant a b) : Nat) : Int) = (opn : Int) - 1 by simp only [opW] at ho ⊢; omega]
    simpa [ndW, YQ, Fs] using hS
  | ite n =>
    refine (settleIte B ad1 ad2 S.length c1 out.length c2 (by omega) (by omega) opn nds n (by simp only [opW] at ho; omega) (by omega) (stC S) (Fs out) (kn S) w0 w R hS).mono ?_
    rintro e w' ⟨rfl, ad3, c3, hS⟩
    refine ⟨rfl, ad1, c1, ad3, c3, ?_⟩
    rw [show ((opn - opW (Wt.ite n) : Nat) : Int) = (opn : Int) - 1 by simp only [opW] at ho ⊢; omega]
    simpa [ndW, YQ, Fs] using hS
  | op a =>
    refine (settleOp B ad1 ad2 S.length c1 out.length c2 (by omega) (by omega) opn nds a (by omega) (by omega) (stC S) (Fs out) (kn S) w0 w R hS).mono ?_
    rintro e w' ⟨rfl, ad3, c3, hS⟩
    refine ⟨rfl, ad1, c1, ad3, c3, ?_⟩
    simpa [ndW, YQ, Fs, opW] using hS
theorem MOk.settle {x : Wt} {S : List Wt} {out : List (Int × Int)} {opn nds : Nat} (h : MOk ⟨x :: S, out, opn, nds⟩) : opW x ≤ opn ∧ MOk ⟨S, out ++ ndW x, opn - opW x, nds⟩ := by
  obtain ⟨h1, h2, h3, h4, h5⟩ := h
  simp only [List.map_cons, List.sum_cons, List.length_cons] at h1 h2 h3
  have hn : (ndW x).length ≤ 1 := by cases x <;> simp [ndW]
  have h4' : opn ≤ 64 := h4
  have h1' : opn = opW x + (S.map opW).sum := h1
  refine ⟨by omega, ?_, ?_, ?_, ?_, h5⟩
  · show opn - opW x = (S.map opW).sum; omega
  · show S.length ≤ 200000; omega
  · show (out ++ ndW x).length + S.length ≤ 400000
    rw [List.length_append]; omega
  · show opn - opW x ≤ 64; omega
set_option maxHeartbeats 4000000 in
theorem XT (B : Nat) (m : MS) (hm : MOk m) (w0 w : World) (R : List HP) (h : MSt w0 w R B m) :
    Calls Tryz.prog 50 #[.pointer (some ⟨B, 0, none⟩)] w fun e w' => e = .returned (.tuple #[]) ∧ MOk ⟨(Yd m.st m.out m.opn).1, (Yd m.st m.out m.opn).2.1, (Yd m.st m.out m.opn).2.2, m.nds⟩ ∧
      MSt w0 w' R B ⟨(Yd m.st m.out m.opn).1, (Yd m.st m.out m.opn).2.1, (Yd m.st m.out m.opn).2.2, m.nds⟩ := by
  obtain ⟨rs, hrs⟩ : ∃ rs, rs = Yd m.st m.out m.opn := ⟨_, rfl⟩
  rw [← hrs]
  have HRS := hid hrs
  have HNN := hid (rfl : m.nds = m.nds)
  clear hrs
  generalize hnds : m.nds = nds at *
  have HND := hid hnds
  clear hnds HNN
  have TM := fun m' hm' w h => topM B m' hm' w0 w R h
  go_enter Tryz.func50, Tryz.ntmps50
  go_wp2_with fail
  go_loopw [2] (fun _ wr => ∃ S o k, Hid (rs = Yd S o k) ∧ MOk ⟨S, o, k, nds⟩ ∧ MSt w0 wr R B ⟨S, o, k, nds⟩) (fun _ wr => stM B wr)
  case atStart =>
    obtain ⟨st, out, opn, n⟩ := m
    have e : n = nds := HND.out
    subst e
    exact ⟨st, out, opn, HRS, hm, h⟩
  case round =>
    clear h hm HRS HND
    obtain ⟨S, o, k, HR, hm, h⟩ := hrel
    have hme := h.meas
    have HME := hid hme
    clear hme
    have T1 := fun w h => TM ⟨S, o, k, nds⟩ hm.2.1 w h
    clear TM
    cases S with
    | nil =>
      have hr := HR.out
      have HR2 := hid (show rs = ([], o, k) by rw [hr]; rfl)
      simp only [kd] at T1
      clear hr HR
      go_wp2_with (go_at_call 51; refine (T1 _ h).mono ?_; clear h; rintro e w ⟨rfl, h⟩)
      go_end0
      rw [HR2.out]
      exact ⟨rfl, hm, h⟩
    | cons x S =>
      cases x with
      | opn =>
        have HR2 := hid (show rs = (.opn :: S, o, k) by rw [HR.out]; rfl)
        simp only [kd, wtN] at T1
        clear HR
        go_wp2_with (go_at_call 51; refine (T1 _ h).mono ?_; clear h; rintro e w ⟨rfl, h⟩)
        go_end0
        rw [HR2.out]
        exact ⟨rfl, hm, h⟩
      | ite n =>
        have HR2 := hid (show rs = (.ite n :: S, o, k) by rw [HR.out]; rfl)
        simp only [kd, wtN] at T1
        clear HR
        go_wp2_with (go_at_call 51; refine (T1 _ h).mono ?_; clear h; rintro e w ⟨rfl, h⟩)
        go_end0
        rw [HR2.out]
        exact ⟨rfl, hm, h⟩
      | not =>
        have HR2 := hid (show rs = Yd S (o ++ ndW .not) (k - opW .not) by rw [HR.out]; rfl)
        obtain ⟨s1, s2⟩ := hm.settle
        have SM := fun w h => jL B .not S o k nds (by intro h; cases h) s1 hm.2.2.2.1 (by have := hm.2.1; simp at this; omega) (by have := hm.2.2.1; simp at this; omega) w0 w R h
        simp only [kd, wtN] at T1
        clear HR
        go_wp2_with (first | (go_at_call 51; refine (T1 _ h).mono ?_; clear h; rintro e w ⟨rfl, h⟩) | (go_at_call 90; refine (SM _ h).mono ?_; clear h; rintro e w ⟨rfl, h⟩))
        go_roundw
        case rel => exact ⟨S, _, _, HR2, s2, h⟩
        case measure => rw [h.meas, HME.out]; simp
      | quant a b =>
        have HR2 := hid (show rs = Yd S (o ++ ndW (.quant a b)) (k - opW (.quant a b)) by rw [HR.out]; rfl)
        obtain ⟨s1, s2⟩ := hm.settle
        have SM := fun w h => jL B (.quant a b) S o k nds (by intro h; cases h) s1 hm.2.2.2.1 (by have := hm.2.1; simp at this; omega) (by have := hm.2.2.1; simp at this; omega) w0 w R h
        simp only [kd, wtN] at T1
        clear HR
        go_wp2_with (first | (go_at_call 51; refine (T1 _ h).mono ?_; clear h; rintro e w ⟨rfl, h⟩) | (go_at_call 90; refine (SM _ h).mono ?_; clear h; rintro e w ⟨rfl, h⟩))
        go_roundw
        case rel => exact ⟨S, _, _, HR2, s2, h⟩
        case measure => rw [h.meas, HME.out]; simp
      | op a =>
        have HR2 := hid (show rs = Yd S (o ++ ndW (.op a)) (k - opW (.op a)) by rw [HR.out]; rfl)
        obtain ⟨s1, s2⟩ := hm.settle
        have SM := fun w h => jL B (.op a) S o k nds (by intro h; cases h) s1 hm.2.2.2.1 (by have := hm.2.1; simp at this; omega) (by have := hm.2.2.1; simp at this; omega) w0 w R h
        simp only [kd, wtN] at T1
        clear HR
        go_wp2_with (first | (go_at_call 51; refine (T1 _ h).mono ?_; clear h; rintro e w ⟨rfl, h⟩) | (go_at_call 90; refine (SM _ h).mono ?_; clear h; rintro e w ⟨rfl, h⟩))
        go_roundw
        case rel => exact ⟨S, _, _, HR2, s2, h⟩
        case measure => rw [h.meas, HME.out]; simp
theorem JY (o : Int) (w0 w : World) (Hs : List HP) (hS : Sat w0 w Hs) : Calls Tryz.prog 89 #[.int .i64 o] w fun e w' => e = .returned (.int .i64 (YI o)) ∧ Sat w0 w' Hs := by
  have pf : ∀ n : Nat, YI o = n → Calls Tryz.prog 89 #[.int .i64 o] w (fun e w' => e = .returned (.int .i64 (n : Int)) ∧ Sat w0 w' Hs) → Calls Tryz.prog 89 #[.int .i64 o] w fun e w' => e = .returned (.int .i64 (YI o)) ∧ Sat w0 w' Hs := fun n h k => by rw [h]; exact k
  by_cases h6 : o = 6
  · subst h6
    refine pf 5 rfl ?_
    go_enter Tryz.func89, Tryz.ntmps89
    go_wp2
    go_ret
    exact ⟨rfl, hS⟩
  by_cases h8 : o = 8
  · subst h8
    refine pf 4 rfl ?_
    go_enter Tryz.func89, Tryz.ntmps89
    go_wp2
    go_ret
    exact ⟨rfl, hS⟩
  by_cases h7 : o = 7
  · subst h7
    refine pf 3 rfl ?_
    go_enter Tryz.func89, Tryz.ntmps89
    go_wp2
    go_ret
    exact ⟨rfl, hS⟩
  by_cases h9 : o = 9
  · subst h9
    refine pf 2 rfl ?_
    go_enter Tryz.func89, Tryz.ntmps89
    go_wp2
    go_ret
    exact ⟨rfl, hS⟩
  refine pf 1 (by unfold YI; rw [if_neg h6, if_neg h8, if_neg h7, if_neg h9]) ?_
  have e6 : (o == 6) = false := beq_eq_false_iff_ne.2 h6
  have e8 : (o == 8) = false := beq_eq_false_iff_ne.2 h8
  have e7 : (o == 7) = false := beq_eq_false_iff_ne.2 h7
  have e9 : (o == 9) = false := beq_eq_false_iff_ne.2 h9
  clear h6 h7 h8 h9 pf
  go_enter Tryz.func89, Tryz.ntmps89
  go_wp2
  go_ret
  exact ⟨rfl, hS⟩
theorem jJ (B : Nat) (S : List Wt) (out : List (Int × Int)) (opn nds : Nat) (hk : nds ≤ 65536) (w0 w : World) (R : List HP) (h : MSt w0 w R B ⟨S, out, opn, nds⟩) :
    Calls Tryz.prog 44 #[.pointer (some ⟨B, 0, none⟩)] w fun e w' => e = .returned (.int .i64 (if 65536 ≤ nds then 8 else 0)) ∧ MSt w0 w' R B ⟨S, out, opn, if 65536 ≤ nds then nds else nds + 1⟩ := by
  obtain ⟨ad1, c1, ad2, c2, hS⟩ := h
  refine (makesN B _ _ opn nds (by omega) (by omega) w0 w _ hS).mono ?_
  rintro e w' ⟨rfl, hS⟩
  by_cases h : 65536 ≤ nds
  · have h2 : (65536 : Int) ≤ (nds : Int) := by omega
    rw [if_pos h2] at hS ⊢
    rw [if_pos h, if_pos h]
    exact ⟨rfl, ad1, c1, ad2, c2, hS⟩
  · have h2 : ¬ (65536 : Int) ≤ (nds : Int) := by omega
    rw [if_neg h2] at hS ⊢
    rw [if_neg h, if_neg h]
    exact ⟨rfl, ad1, c1, ad2, c2, hS⟩
set_option maxHeartbeats 2000000 in
theorem xp (B : Nat) (x : Wt) (S : List Wt) (out : List (Int × Int)) (opn nds : Nat) (ho : opn ≤ 64) (hl : S.length ≤ 200000) (w0 w : World) (R : List HP) (h : MSt w0 w R B ⟨S, out, opn, nds⟩) :
    Calls Tryz.prog 46 #[.pointer (some ⟨B, 0, none⟩), .agg #[.int .i64 (wtN x).1, .int .i64 (wtN x).2.1, .int .i64 (wtN x).2.2]] w fun e w' =>
      e = .returned (.int .i64 (if 64 ≤ opn then 132 else 0)) ∧ MSt w0 w' R B (if 64 ≤ opn then ⟨S, out, opn, nds⟩ else ⟨x :: S, out, opn + 1, nds⟩) := by
  obtain ⟨ad1, c1, ad2, c2, hS⟩ := h
  dsimp only at hS
  generalize hl' : S.length = l at *
  generalize hn' : out.length = n at *
  generalize hk1 : (wtN x).1 = k1 at *
  generalize hk2 : (wtN x).2.1 = k2 at *
  generalize hk3 : (wtN x).2.2 = k3 at *
  have HL := hid hl'
  have HN := hid hn'
  have HK := hid (And.intro hk1 (And.intro hk2 hk3))
  clear hl' hn' hk1 hk2 hk3
  by_cases h : 64 ≤ opn
  · rw [if_pos h, if_pos h]
    have h2 : (64 : Int) ≤ (opn : Int) := by omega
    go_enter Tryz.func46, Tryz.ntmps46
    go_wp2_with (first|((with_reducible apply yY hS);exact ya;exact yb rfl;exact yt;clear hS;intro WB w hS;(try simp only [Act.put,q1,q2,q3]))|((with_reducible apply yi hS);exact ya;exact yb rfl;(repeat (with_reducible first|exact yf|apply ye));rfl;decide +kernel;(try simp only [Act.put,q1,q2,q3])))
    go_ret
    refine ⟨rfl, ad1, c1, ad2, c2, ?_⟩
    dsimp only
    rw [HL.out, HN.out]
    exact hS.sb (by (repeat (first | with_reducible exact Sb.refl | (with_reducible refine Sb.take (by (repeat (with_reducible first | exact Rem.hd | apply Rem.tl)); done) ?_) | with_reducible apply Sb.skip)))
  · rw [if_neg h, if_neg h]
    have h2 : decide ((opn : Int) ≥ 64) = false := by simp; omega
    have hli : (l : Int) ≤ 200000 := by omega
    go_enter Tryz.func46, Tryz.ntmps46
    go_wp2_with (first|((with_reducible apply yY hS);exact ya;exact yb rfl;exact yt;clear hS;intro WB w hS;(try simp only [Act.put,q1,q2,q3]))|((with_reducible apply yi hS);exact ya;exact yb rfl;(repeat (with_reducible first|exact yf|apply ye));rfl;decide +kernel;(try simp only [Act.put,q1,q2,q3]))|((with_reducible apply yx hS);exact ya;exact yb rfl;exact yb rfl;(repeat (with_reducible first|exact yf|apply ye));rfl;(focus (simp;done));(repeat (with_reducible first|exact Upd.hd|apply Upd.tl));rfl;decide +kernel;clear hS;intro w hS;(try simp only [q2, q3] at hS);(try simp only [Act.put,q1,q2,q3]))|((with_reducible apply Cont.intro);(first|(focus (apply Or.inr;apply (Sat.sb hS);(repeat (first|with_reducible exact Sb.refl|(with_reducible refine Sb.take (by (repeat (with_reducible first|exact Rem.hd|apply Rem.tl));done) ?_)|with_reducible apply Sb.skip));done))|(exact Or.inl (by kernel_rfl)));intro hR hC)|((first|((with_reducible apply yc (i := 0));(simp only [q4,q6,q5];with_reducible rfl);kernel_rfl;kernel_rfl;decide +kernel;rfl;exact hC;exact (fun _ _ _ h => h);exact hR;with_reducible exact ya)|((with_reducible apply yc (i := 1));(simp only [q4,q6,q5];with_reducible rfl);kernel_rfl;kernel_rfl;decide +kernel;rfl;exact hC;exact (fun _ _ _ h => h);exact hR;with_reducible exact ya)|((with_reducible apply yc (i := 2));(simp only [q4,q6,q5];with_reducible rfl);kernel_rfl;kernel_rfl;decide +kernel;rfl;exact hC;exact (fun _ _ _ h => h);exact hR;with_reducible exact ya)|((with_reducible apply yc (i := 8));(simp only [q4,q6,q5];with_reducible rfl);kernel_rfl;kernel_rfl;decide +kernel;rfl;exact hC;exact (fun _ _ _ h => h);exact hR;with_reducible exact ya));(intro w;first|(go_simp;done)|(go_simp;rw [yw (by omega) (by omega)])|(go_simp;with_reducible rfl)|(go_simp;rfl));(clear hR hC;intro hR hC);(try simp only [Act.put,q1,q2,q3]))|((first|((with_reducible apply yc (i := 3));(simp only [q4,q6,q5];with_reducible rfl);kernel_rfl;kernel_rfl;decide +kernel;rfl;exact hC;exact (fun _ _ _ h => h);exact hR;with_reducible exact ya)|((with_reducible apply yc (i := 9));(simp only [q4,q6,q5];with_reducible rfl);kernel_rfl;kernel_rfl;decide +kernel;rfl;exact hC;exact (fun _ _ _ h => h);exact hR;with_reducible exact ya));(intro w;first|(exact yX rfl (by (exact yh)) (by assumption) (by with_reducible exact fo50_0))|(go_simp;done)|(go_simp;rw [yw (by omega) (by omega)])|(go_simp;with_reducible rfl)|(go_simp;rfl));(clear hR hC;intro hR hC);(try simp only [Act.put,q1,q2,q3]))|((first|((with_reducible apply yj (i := 4));(simp only [q4,q6,q5];with_reducible rfl);kernel_rfl;kernel_rfl;decide +kernel;kernel_rfl;rfl;exact hC;exact (fun _ _ _ h => h);exact hR;kernel_rfl;with_reducible exact ya)|((with_reducible apply yj (i := 5));(simp only [q4,q6,q5];with_reducible rfl);kernel_rfl;kernel_rfl;decide +kernel;kernel_rfl;rfl;exact hC;exact (fun _ _ _ h => h);exact hR;kernel_rfl;with_reducible exact ya));(intro w hS;(apply ym rfl (by (exact yb rfl)));first|exact yd (by decide +kernel) (hS.cell (by (repeat (with_reducible first|exact yf|apply ye))) rfl)|exact yd (by decide +kernel) ((hS.ownCell (by (repeat (with_reducible apply ye))) (by (rfl))).1)|exact yd (by decide +kernel) (Sat.rdCell2 (by assumption) hS (by ((repeat (with_reducible apply ye)));try assumption) (by (rfl)))|exact yd (by decide +kernel) (hS.baseCell (by ((repeat (with_reducible apply ye)));try assumption) (by assumption))|exact yd (by decide +kernel) (fzC (by assumption) hS (by ((repeat (with_reducible apply ye)));try assumption))|exact yp hS (by assumption) (by ((repeat (with_reducible apply ye)));try assumption) (by assumption) (by rfl) (by with_reducible exact sz50) (by decide +kernel) (by decide)|exact hS.loadWhole (by (exact yf)) (by kernel_rfl) (by kernel_rfl));(clear hR hC;intro hR hC);(try simp only [Act.put,q1,q2,q3]))|((with_reducible apply yn (i := 6));(simp only [q4,q6,q5];with_reducible rfl);decide +kernel;exact hC;clear hR hC)|((with_reducible apply yn (i := 7));(simp only [q4,q6,q5];with_reducible rfl);decide +kernel;exact hC;clear hR hC)|((with_reducible apply yn (i := 10));(simp only [q4,q6,q5];with_reducible rfl);decide +kernel;exact hC;clear hR hC)|((with_reducible apply yq);decide +kernel;clear hR hC)|(refine yz 4 11 hS (by kernel_rfl) [7, 10] rfl ?_;clear hS;intro w hS hR hC)|((with_reducible apply yI hS);exact ya;exact E90;exact yb rfl;exact yt;rfl;decide;clear hS;intro NB w hS;(try simp only [Act.put,q1,q2,q3]))|((with_reducible apply yW hS);exact ya;exact yb rfl;exact yb rfl;exact E90;(repeat (with_reducible first|exact Rem.hd|apply Rem.tl));(repeat (with_reducible apply Rem.tl));rfl;rfl;(omega);(omega);clear hS;intro AD CAP w hS;(try simp only [Nat.zero_add, List.nil_append] at hS);(try simp only [Act.put,q1,q2,q3])))
    go_ret
    refine ⟨rfl, AD, CAP, ad2, c2, ?_⟩
    dsimp only [List.length_cons, stC]
    obtain ⟨g1, g2, g3⟩ := HK.out
    rw [HL.out, HN.out, g1, g2, g3, show ((opn + 1 : Nat) : Int) = (opn : Int) + 1 by omega]
    exact hS.sb (by (repeat (first | with_reducible exact Sb.refl | (with_reducible refine Sb.take (by (repeat (with_reducible first | exact Rem.hd | apply Rem.tl)); done) ?_) | with_reducible apply Sb.skip)))
end
section
set_option maxRecDepth 20000
open Go Go.RowKit Go.SL Go.ClauseP Go.LexP
-- ACT2

def YY (tk : Tk) (m : MS) : Int × MS := match tk with
  | .opn => if 64 ≤ m.opn then (132, m) else (0, ⟨.opn :: m.st, m.out, m.opn + 1, m.nds⟩)
  | .ite => if 64 ≤ m.opn then (132, m) else if 65536 ≤ m.nds then (8, m) else (0, ⟨.ite 0 :: m.st, m.out, m.opn + 1, m.nds + 1⟩)
  | .not => if 64 ≤ m.opn then (132, m) else if 65536 ≤ m.nds then (8, m) else (0, ⟨.not :: m.st, m.out, m.opn + 1, m.nds + 1⟩)
  | _ => (131, m)
theorem MSt.sb {w0 w : World} {R R' : List HP} {B : Nat} {m : MS} (h : MSt w0 w R B m) (s : ∀ A A2 A3, Sb (A :: A2 :: A3 :: R) (A :: A2 :: A3 :: R')) : MSt w0 w R' B m := by
  obtain ⟨ad1, c1, ad2, c2, hS⟩ := h
  exact ⟨ad1, c1, ad2, c2, hS.sb (s _ _ _)⟩
def Gh (w0 : World) (R : List HP) (B : Nat) (P : Int × MS) (e : Ending) (w' : World) : Prop := e = .returned (.int .i64 P.1) ∧ ∃ m', MSt w0 w' R B m' ∧ (P.1 = 0 → m' = P.2)
set_option maxHeartbeats 4000000 in
theorem prefOpn (B : Nat) (a b c : Int) (m : MS) (hm : MOk m) (w0 w : World) (R : List HP) (h : MSt w0 w R B m) :
    Calls Tryz.prog 45 #[.pointer (some ⟨B, 0, none⟩), .agg #[.int .i64 8, .int .i64 a, .int .i64 b, .int .i64 c]] w (Gh w0 R B (YY .opn m)) := by
  obtain ⟨st, out, opn, nds⟩ := m
  have OP := fun w R h => xp B .opn st out opn nds hm.2.2.2.1 hm.2.1 w0 w R h
  simp only [wtN] at OP
  by_cases h64 : 64 ≤ opn
  · simp only [if_pos h64] at OP
    have hp : YY .opn ⟨st, out, opn, nds⟩ = (132, ⟨st, out, opn, nds⟩) := by simp only [YY]; rw [if_pos h64]
    rw [hp]
    clear hp hm h64
    obtain ⟨ad1, c1, ad2, c2, hS⟩ := h
    go_enter Tryz.func45, Tryz.ntmps45
    go_wp2_with (first|((with_reducible apply yY hS);exact ya;exact yb rfl;exact yt;clear hS;intro WB w hS;(try simp only [Act.put,q1,q2,q3]))|((with_reducible apply yl hS);exact ya;exact z100;clear hS;intro NB4 w hS;(try simp only [Act.put,q1,q2,q3]))|((with_reducible apply yk hS);exact ya;exact yb rfl;exact yb rfl;exact yf;rfl;(focus (simp;done));exact Upd.hd;rfl;exact sz100;rfl;clear hS;intro w hS;(try simp only [yo, q2, q3] at hS);(try simp only [Act.put,q1,q2,q3]))|((with_reducible apply yi hS);exact ya;exact yb rfl;(repeat (with_reducible first|exact yf|apply ye));rfl;decide +kernel;(try simp only [Act.put,q1,q2,q3]))|(go_at_call 46;refine (OP _ (blk NB4 100 [.int .i64 1, .int .i64 0, .int .i64 0] :: blk WB 94 [.int .i64 8, .int .i64 a, .int .i64 b, .int .i64 c] :: R) ⟨ad1, c1, ad2, c2, hS.sb (by (repeat (first|with_reducible exact Sb.refl|(with_reducible refine Sb.take (by (repeat (with_reducible first|exact Rem.hd|apply Rem.tl));done) ?_))))⟩).mono ?_;clear hS OP;rintro e w ⟨rfl, h⟩))
    go_ret
    exact ⟨rfl, _, h.sb (fun A A2 A3 => by (repeat (first | with_reducible exact Sb.refl | (with_reducible refine Sb.take (by (repeat (with_reducible first | exact Rem.hd | apply Rem.tl)); done) ?_) | with_reducible apply Sb.skip))), fun h => by have h : (132 : Int) = 0 := h; exact absurd h (by decide)⟩
  · simp only [if_neg h64] at OP
    have hp : YY .opn ⟨st, out, opn, nds⟩ = (0, ⟨.opn :: st, out, opn + 1, nds⟩) := by simp only [YY]; rw [if_neg h64]
    rw [hp]
    clear hp hm h64
    obtain ⟨ad1, c1, ad2, c2, hS⟩ := h
    go_enter Tryz.func45, Tryz.ntmps45
    go_wp2_with (first|((with_reducible apply yY hS);exact ya;exact yb rfl;exact yt;clear hS;intro WB w hS;(try simp only [Act.put,q1,q2,q3]))|((with_reducible apply yl hS);exact ya;exact z100;clear hS;intro NB4 w hS;(try simp only [Act.put,q1,q2,q3]))|((with_reducible apply yk hS);exact ya;exact yb rfl;exact yb rfl;exact yf;rfl;(focus (simp;done));exact Upd.hd;rfl;exact sz100;rfl;clear hS;intro w hS;(try simp only [yo, q2, q3] at hS);(try simp only [Act.put,q1,q2,q3]))|((with_reducible apply yi hS);exact ya;exact yb rfl;(repeat (with_reducible first|exact yf|apply ye));rfl;decide +kernel;(try simp only [Act.put,q1,q2,q3]))|(go_at_call 46;refine (OP _ (blk NB4 100 [.int .i64 1, .int .i64 0, .int .i64 0] :: blk WB 94 [.int .i64 8, .int .i64 a, .int .i64 b, .int .i64 c] :: R) ⟨ad1, c1, ad2, c2, hS.sb (by (repeat (first|with_reducible exact Sb.refl|(with_reducible refine Sb.take (by (repeat (with_reducible first|exact Rem.hd|apply Rem.tl));done) ?_))))⟩).mono ?_;clear hS OP;rintro e w ⟨rfl, h⟩))
    go_ret
    exact ⟨rfl, _, h.sb (fun A A2 A3 => by (repeat (first | with_reducible exact Sb.refl | (with_reducible refine Sb.take (by (repeat (with_reducible first | exact Rem.hd | apply Rem.tl)); done) ?_) | with_reducible apply Sb.skip))), fun _ => rfl⟩
set_option maxHeartbeats 4000000 in
theorem prefIte (B : Nat) (a b c : Int) (m : MS) (hm : MOk m) (w0 w : World) (R : List HP) (h : MSt w0 w R B m) :
    Calls Tryz.prog 45 #[.pointer (some ⟨B, 0, none⟩), .agg #[.int .i64 6, .int .i64 a, .int .i64 b, .int .i64 c]] w (Gh w0 R B (YY .ite m)) := by
  obtain ⟨st, out, opn, nds⟩ := m
  have OP := fun w R h => xp B (.ite 0) st out opn nds hm.2.2.2.1 hm.2.1 w0 w R h
  simp only [wtN] at OP
  by_cases h64 : 64 ≤ opn
  · simp only [if_pos h64] at OP
    have hp : YY .ite ⟨st, out, opn, nds⟩ = (132, ⟨st, out, opn, nds⟩) := by simp only [YY]; rw [if_pos h64]
    rw [hp]
    clear hp hm h64
    obtain ⟨ad1, c1, ad2, c2, hS⟩ := h
    go_enter Tryz.func45, Tryz.ntmps45
    go_wp2_with (first|((with_reducible apply yY hS);exact ya;exact yb rfl;exact yt;clear hS;intro WB w hS;(try simp only [Act.put,q1,q2,q3]))|((with_reducible apply yl hS);exact ya;exact z100;clear hS;intro NB4 w hS;(try simp only [Act.put,q1,q2,q3]))|((with_reducible apply yk hS);exact ya;exact yb rfl;exact yb rfl;exact yf;rfl;(focus (simp;done));exact Upd.hd;rfl;exact sz100;rfl;clear hS;intro w hS;(try simp only [yo, q2, q3] at hS);(try simp only [Act.put,q1,q2,q3]))|((with_reducible apply yi hS);exact ya;exact yb rfl;(repeat (with_reducible first|exact yf|apply ye));rfl;decide +kernel;(try simp only [Act.put,q1,q2,q3]))|((with_reducible apply yC hS);exact ya;exact yb rfl;exact yf;exact sz100;decide +kernel;rfl;rfl;(try simp only [Act.put,q1,q2,q3]))|((with_reducible apply yx hS);exact ya;exact yb rfl;exact yh;exact yf;rfl;(focus (simp;done));exact Upd.hd;rfl;decide +kernel;clear hS;intro w hS;(try simp only [q2, q3] at hS);(try simp only [Act.put,q1,q2,q3]))|(go_at_call 46;refine (OP _ (blk NB4 100 [.int .i64 4, .int .i64 0, .int .i64 0] :: blk WB 94 [.int .i64 6, .int .i64 a, .int .i64 b, .int .i64 c] :: R) ⟨ad1, c1, ad2, c2, hS.sb (by (repeat (first|with_reducible exact Sb.refl|(with_reducible refine Sb.take (by (repeat (with_reducible first|exact Rem.hd|apply Rem.tl));done) ?_))))⟩).mono ?_;clear hS OP;rintro e w ⟨rfl, h⟩))
    go_ret
    exact ⟨rfl, _, h.sb (fun A A2 A3 => by (repeat (first | with_reducible exact Sb.refl | (with_reducible refine Sb.take (by (repeat (with_reducible first | exact Rem.hd | apply Rem.tl)); done) ?_) | with_reducible apply Sb.skip))), fun h => by have h : (132 : Int) = 0 := h; exact absurd h (by decide)⟩
  · simp only [if_neg h64] at OP
    have MK := fun w R h => jJ B ((.ite 0) :: st) out (opn + 1) nds hm.2.2.2.2 w0 w R h
    by_cases h6 : 65536 ≤ nds
    · simp only [if_pos h6] at MK
      have hp : YY .ite ⟨st, out, opn, nds⟩ = (8, ⟨st, out, opn, nds⟩) := by simp only [YY]; rw [if_neg h64, if_pos h6]
      rw [hp]
      clear hp hm h64 h6
      obtain ⟨ad1, c1, ad2, c2, hS⟩ := h
      go_enter Tryz.func45, Tryz.ntmps45
      go_wp2_with (first|((with_reducible apply yY hS);exact ya;exact yb rfl;exact yt;clear hS;intro WB w hS;(try simp only [Act.put,q1,q2,q3]))|((with_reducible apply yl hS);exact ya;exact z100;clear hS;intro NB4 w hS;(try simp only [Act.put,q1,q2,q3]))|((with_reducible apply yk hS);exact ya;exact yb rfl;exact yb rfl;exact yf;rfl;(focus (simp;done));exact Upd.hd;rfl;exact sz100;rfl;clear hS;intro w hS;(try simp only [yo, q2, q3] at hS);(try simp only [Act.put,q1,q2,q3]))|((with_reducible apply yi hS);exact ya;exact yb rfl;(repeat (with_reducible first|exact yf|apply ye));rfl;decide +kernel;(try simp only [Act.put,q1,q2,q3]))|((with_reducible apply yC hS);exact ya;exact yb rfl;exact yf;exact sz100;decide +kernel;rfl;rfl;(try simp only [Act.put,q1,q2,q3]))|((with_reducible apply yx hS);exact ya;exact yb rfl;exact yh;exact yf;rfl;(focus (simp;done));exact Upd.hd;rfl;decide +kernel;clear hS;intro w hS;(try simp only [q2, q3] at hS);(try simp only [Act.put,q1,q2,q3]))|(go_at_call 46;refine (OP _ (blk NB4 100 [.int .i64 4, .int .i64 0, .int .i64 0] :: blk WB 94 [.int .i64 6, .int .i64 a, .int .i64 b, .int .i64 c] :: R) ⟨ad1, c1, ad2, c2, hS.sb (by (repeat (first|with_reducible exact Sb.refl|(with_reducible refine Sb.take (by (repeat (with_reducible first|exact Rem.hd|apply Rem.tl));done) ?_))))⟩).mono ?_;clear hS OP;rintro e w ⟨rfl, h⟩)|(go_at_call 44;refine (MK _ _ h).mono ?_;clear h MK;rintro e w ⟨rfl, h⟩))
      go_ret
      exact ⟨rfl, _, h.sb (fun A A2 A3 => by (repeat (first | with_reducible exact Sb.refl | (with_reducible refine Sb.take (by (repeat (with_reducible first | exact Rem.hd | apply Rem.tl)); done) ?_) | with_reducible apply Sb.skip))), fun h => by have h : (8 : Int) = 0 := h; exact absurd h (by decide)⟩
    · simp only [if_neg h6] at MK
      have hp : YY .ite ⟨st, out, opn, nds⟩ = (0, ⟨(.ite 0) :: st, out, opn + 1, nds + 1⟩) := by simp only [YY]; rw [if_neg h64, if_neg h6]
      rw [hp]
      clear hp hm h64 h6
      obtain ⟨ad1, c1, ad2, c2, hS⟩ := h
      go_enter Tryz.func45, Tryz.ntmps45
      go_wp2_with (first|((with_reducible apply yY hS);exact ya;exact yb rfl;exact yt;clear hS;intro WB w hS;(try simp only [Act.put,q1,q2,q3]))|((with_reducible apply yl hS);exact ya;exact z100;clear hS;intro NB4 w hS;(try simp only [Act.put,q1,q2,q3]))|((with_reducible apply yk hS);exact ya;exact yb rfl;exact yb rfl;exact yf;rfl;(focus (simp;done));exact Upd.hd;rfl;exact sz100;rfl;clear hS;intro w hS;(try simp only [yo, q2, q3] at hS);(try simp only [Act.put,q1,q2,q3]))|((with_reducible apply yi hS);exact ya;exact yb rfl;(repeat (with_reducible first|exact yf|apply ye));rfl;decide +kernel;(try simp only [Act.put,q1,q2,q3]))|((with_reducible apply yC hS);exact ya;exact yb rfl;exact yf;exact sz100;decide +kernel;rfl;rfl;(try simp only [Act.put,q1,q2,q3]))|((with_reducible apply yx hS);exact ya;exact yb rfl;exact yh;exact yf;rfl;(focus (simp;done));exact Upd.hd;rfl;decide +kernel;clear hS;intro w hS;(try simp only [q2, q3] at hS);(try simp only [Act.put,q1,q2,q3]))|(go_at_call 46;refine (OP _ (blk NB4 100 [.int .i64 4, .int .i64 0, .int .i64 0] :: blk WB 94 [.int .i64 6, .int .i64 a, .int .i64 b, .int .i64 c] :: R) ⟨ad1, c1, ad2, c2, hS.sb (by (repeat (first|with_reducible exact Sb.refl|(with_reducible refine Sb.take (by (repeat (with_reducible first|exact Rem.hd|apply Rem.tl));done) ?_))))⟩).mono ?_;clear hS OP;rintro e w ⟨rfl, h⟩)|(go_at_call 44;refine (MK _ _ h).mono ?_;clear h MK;rintro e w ⟨rfl, h⟩))
      go_ret
      exact ⟨rfl, _, h.sb (fun A A2 A3 => by (repeat (first | with_reducible exact Sb.refl | (with_reducible refine Sb.take (by (repeat (with_reducible first | exact Rem.hd | apply Rem.tl)); done) ?_) | with_reducible apply Sb.skip))), fun _ => rfl⟩
set_option maxHeartbeats 4000000 in
theorem prefNot (B : Nat) (a b c : Int) (m : MS) (hm : MOk m) (w0 w : World) (R : List HP) (h : MSt w0 w R B m) :
    Calls Tryz.prog 45 #[.pointer (some ⟨B, 0, none⟩), .agg #[.int .i64 4, .int .i64 a, .int .i64 b, .int .i64 c]] w (Gh w0 R B (YY .not m)) := by
  obtain ⟨st, out, opn, nds⟩ := m
  have OP := fun w R h => xp B .not st out opn nds hm.2.2.2.1 hm.2.1 w0 w R h
  simp only [wtN] at OP
  by_cases h64 : 64 ≤ opn
  · simp only [if_pos h64] at OP
    have hp : YY .not ⟨st, out, opn, nds⟩ = (132, ⟨st, out, opn, nds⟩) := by simp only [YY]; rw [if_pos h64]
    rw [hp]
    clear hp hm h64
    obtain ⟨ad1, c1, ad2, c2, hS⟩ := h
    go_enter Tryz.func45, Tryz.ntmps45
    go_wp2_with (first|((with_reducible apply yY hS);exact ya;exact yb rfl;exact yt;clear hS;intro WB w hS;(try simp only [Act.put,q1,q2,q3]))|((with_reducible apply yl hS);exact ya;exact z100;clear hS;intro NB4 w hS;(try simp only [Act.put,q1,q2,q3]))|((with_reducible apply yk hS);exact ya;exact yb rfl;exact yb rfl;exact yf;rfl;(focus (simp;done));exact Upd.hd;rfl;exact sz100;rfl;clear hS;intro w hS;(try simp only [yo, q2, q3] at hS);(try simp only [Act.put,q1,q2,q3]))|((with_reducible apply yi hS);exact ya;exact yb rfl;(repeat (with_reducible first|exact yf|apply ye));rfl;decide +kernel;(try simp only [Act.put,q1,q2,q3]))|((with_reducible apply yC hS);exact ya;exact yb rfl;exact yf;exact sz100;decide +kernel;rfl;rfl;(try simp only [Act.put,q1,q2,q3]))|(go_at_call 46;refine (OP _ (blk NB4 100 [.int .i64 1, .int .i64 0, .int .i64 0] :: blk WB 94 [.int .i64 4, .int .i64 a, .int .i64 b, .int .i64 c] :: R) ⟨ad1, c1, ad2, c2, hS.sb (by (repeat (first|with_reducible exact Sb.refl|(with_reducible refine Sb.take (by (repeat (with_reducible first|exact Rem.hd|apply Rem.tl));done) ?_))))⟩).mono ?_;clear hS OP;rintro e w ⟨rfl, h⟩))
    go_ret
    exact ⟨rfl, _, h.sb (fun A A2 A3 => by (repeat (first | with_reducible exact Sb.refl | (with_reducible refine Sb.take (by (repeat (with_reducible first | exact Rem.hd | apply Rem.tl)); done) ?_) | with_reducible apply Sb.skip))), fun h => by have h : (132 : Int) = 0 := h; exact absurd h (by decide)⟩
  · simp only [if_neg h64] at OP
    have MK := fun w R h => jJ B (.not :: st) out (opn + 1) nds hm.2.2.2.2 w0 w R h
    by_cases h6 : 65536 ≤ nds
    · simp only [if_pos h6] at MK
      have hp : YY .not ⟨st, out, opn, nds⟩ = (8, ⟨st, out, opn, nds⟩) := by simp only [YY]; rw [if_neg h64, if_pos h6]
      rw [hp]
      clear hp hm h64 h6
      obtain ⟨ad1, c1, ad2, c2, hS⟩ := h
      go_enter Tryz.func45, Tryz.ntmps45
      go_wp2_with (first|((with_reducible apply yY hS);exact ya;exact yb rfl;exact yt;clear hS;intro WB w hS;(try simp only [Act.put,q1,q2,q3]))|((with_reducible apply yl hS);exact ya;exact z100;clear hS;intro NB4 w hS;(try simp only [Act.put,q1,q2,q3]))|((with_reducible apply yk hS);exact ya;exact yb rfl;exact yb rfl;exact yf;rfl;(focus (simp;done));exact Upd.hd;rfl;exact sz100;rfl;clear hS;intro w hS;(try simp only [yo, q2, q3] at hS);(try simp only [Act.put,q1,q2,q3]))|((with_reducible apply yi hS);exact ya;exact yb rfl;(repeat (with_reducible first|exact yf|apply ye));rfl;decide +kernel;(try simp only [Act.put,q1,q2,q3]))|((with_reducible apply yC hS);exact ya;exact yb rfl;exact yf;exact sz100;decide +kernel;rfl;rfl;(try simp only [Act.put,q1,q2,q3]))|(go_at_call 46;refine (OP _ (blk NB4 100 [.int .i64 1, .int .i64 0, .int .i64 0] :: blk WB 94 [.int .i64 4, .int .i64 a, .int .i64 b, .int .i64 c] :: R) ⟨ad1, c1, ad2, c2, hS.sb (by (repeat (first|with_reducible exact Sb.refl|(with_reducible refine Sb.take (by (repeat (with_reducible first|exact Rem.hd|apply Rem.tl));done) ?_))))⟩).mono ?_;clear hS OP;rintro e w ⟨rfl, h⟩)|(go_at_call 44;refine (MK _ _ h).mono ?_;clear h MK;rintro e w ⟨rfl, h⟩))
      go_ret
      exact ⟨rfl, _, h.sb (fun A A2 A3 => by (repeat (first | with_reducible exact Sb.refl | (with_reducible refine Sb.take (by (repeat (with_reducible first | exact Rem.hd | apply Rem.tl)); done) ?_) | with_reducible apply Sb.skip))), fun h => by have h : (8 : Int) = 0 := h; exact absurd h (by decide)⟩
    · simp only [if_neg h6] at MK
      have hp : YY .not ⟨st, out, opn, nds⟩ = (0, ⟨.not :: st, out, opn + 1, nds + 1⟩) := by simp only [YY]; rw [if_neg h64, if_neg h6]
      rw [hp]
      clear hp hm h64 h6
      obtain ⟨ad1, c1, ad2, c2, hS⟩ := h
      go_enter Tryz.func45, Tryz.ntmps45
      go_wp2_with (first|((with_reducible apply yY hS);exact ya;exact yb rfl;exact yt;clear hS;intro WB w hS;(try simp only [Act.put,q1,q2,q3]))|((with_reducible apply yl hS);exact ya;exact z100;clear hS;intro NB4 w hS;(try simp only [Act.put,q1,q2,q3]))|((with_reducible apply yk hS);exact ya;exact yb rfl;exact yb rfl;exact yf;rfl;(focus (simp;done));exact Upd.hd;rfl;exact sz100;rfl;clear hS;intro w hS;(try simp only [yo, q2, q3] at hS);(try simp only [Act.put,q1,q2,q3]))|((with_reducible apply yi hS);exact ya;exact yb rfl;(repeat (with_reducible first|exact yf|apply ye));rfl;decide +kernel;(try simp only [Act.put,q1,q2,q3]))|((with_reducible apply yC hS);exact ya;exact yb rfl;exact yf;exact sz100;decide +kernel;rfl;rfl;(try simp only [Act.put,q1,q2,q3]))|(go_at_call 46;refine (OP _ (blk NB4 100 [.int .i64 1, .int .i64 0, .int .i64 0] :: blk WB 94 [.int .i64 4, .int .i64 a, .int .i64 b, .int .i64 c] :: R) ⟨ad1, c1, ad2, c2, hS.sb (by (repeat (first|with_reducible exact Sb.refl|(with_reducible refine Sb.take (by (repeat (with_reducible first|exact Rem.hd|apply Rem.tl));done) ?_))))⟩).mono ?_;clear hS OP;rintro e w ⟨rfl, h⟩)|(go_at_call 44;refine (MK _ _ h).mono ?_;clear h MK;rintro e w ⟨rfl, h⟩))
      go_ret
      exact ⟨rfl, _, h.sb (fun A A2 A3 => by (repeat (first | with_reducible exact Sb.refl | (with_reducible refine Sb.take (by (repeat (with_reducible first | exact Rem.hd | apply Rem.tl)); done) ?_) | with_reducible apply Sb.skip))), fun _ => rfl⟩
theorem prefElse (B : Nat) (k a b c : Int) (h8 : k ≠ 8) (h6 : k ≠ 6) (h4 : k ≠ 4) (m : MS) (w0 w : World) (R : List HP) (h : MSt w0 w R B m) :
    Calls Tryz.prog 45 #[.pointer (some ⟨B, 0, none⟩), .agg #[.int .i64 k, .int .i64 a, .int .i64 b, .int .i64 c]] w (Gh w0 R B (131, m)) := by
  have e8 : (k == 8) = false := beq_eq_false_iff_ne.2 h8
  have e6 : (k == 6) = false := beq_eq_false_iff_ne.2 h6
  have e4 : (k == 4) = false := beq_eq_false_iff_ne.2 h4
  obtain ⟨ad1, c1, ad2, c2, hS⟩ := h
  clear h8 h6 h4
  go_enter Tryz.func45, Tryz.ntmps45
  go_wp2_with (first|((with_reducible apply yY hS);exact ya;exact yb rfl;exact yt;clear hS;intro WB w hS;(try simp only [Act.put,q1,q2,q3]))|((with_reducible apply yl hS);exact ya;exact z100;clear hS;intro NB4 w hS;(try simp only [Act.put,q1,q2,q3]))|((with_reducible apply yk hS);exact ya;exact yb rfl;exact yb rfl;exact yf;rfl;(focus (simp;done));exact Upd.hd;rfl;exact sz100;rfl;clear hS;intro w hS;(try simp only [yo, q2, q3] at hS);(try simp only [Act.put,q1,q2,q3]))|((with_reducible apply yi hS);exact ya;exact yb rfl;(repeat (with_reducible first|exact yf|apply ye));rfl;decide +kernel;(try simp only [Act.put,q1,q2,q3])))
  go_ret
  exact ⟨rfl, m, ⟨ad1, c1, ad2, c2, hS.sb (by (repeat (first | with_reducible exact Sb.refl | (with_reducible refine Sb.take (by (repeat (with_reducible first | exact Rem.hd | apply Rem.tl)); done) ?_) | with_reducible apply Sb.skip)))⟩, fun h => by have h : (131 : Int) = 0 := h; exact absurd h (by decide)⟩
end
end Go.Proofs.YthackanffcaejaaGreatDoor
