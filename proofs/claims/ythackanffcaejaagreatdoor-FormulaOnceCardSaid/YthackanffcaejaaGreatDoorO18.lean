/- A part of the proof: Rx5 Rx6. -/
import Derived.Test.YthackanffcaejaaGreatDoorO1
import Derived.Test.YthackanffcaejaaGreatDoorO17
set_option linter.unusedSimpArgs false
set_option linter.unusedVariables false
set_option linter.unusedSectionVars false
namespace Go.Proofs.YthackanffcaejaaGreatDoor
section
set_option maxRecDepth 20000
open Go Go.RowKit Go.SL Go.ClauseP Go.LexP
-- ACT2

set_option maxHeartbeats 8000000 in
theorem operatorR (B : Nat) (op : Int) (hop : i64 op) (st : List Wt) (out : List (Int × Int)) (opn nds : Nat) (hm : MOk ⟨st, out, opn, nds⟩) (w0 w : World) (R : List HP) (h : MSt w0 w R B ⟨st, out, opn, nds⟩) :
    Calls Tryz.prog 47 #[.pointer (some ⟨B, 0, none⟩), .int .i64 op] w fun e w' => e = .returned (.int .i64 (if 65536 ≤ nds then 8 else 0)) ∧
      (¬ 65536 ≤ nds → MSt w0 w' R B ⟨.op op :: (YE op st out opn).1, (YE op st out opn).2.1, (YE op st out opn).2.2, nds + 1⟩ ∧ MOk ⟨(YE op st out opn).1, (YE op st out opn).2.1, (YE op st out opn).2.2, nds + 1⟩) ∧ (65536 ≤ nds → MSt w0 w' R B ⟨st, out, opn, nds⟩) := by
  have MK := fun w h => jJ B st out opn nds hm.2.2.2.2 w0 w R h
  by_cases hlim : 65536 ≤ nds
  · simp only [if_pos hlim] at MK ⊢
    go_enter Tryz.func47, Tryz.ntmps47
    go_wp2_with (go_at_call 44; refine (MK _ h).mono ?_; clear h; rintro e w ⟨rfl, h⟩)
    go_ret
    exact ⟨rfl, fun h2 => absurd hlim h2, fun _ => h⟩
  · simp only [if_neg hlim] at MK ⊢
    obtain ⟨rs, hrs⟩ : ∃ rs, rs = YE op st out opn := ⟨_, rfl⟩
    rw [← hrs]
    have HRS := hid hrs
    have hm2 : MOk ⟨st, out, opn, nds + 1⟩ := ⟨hm.1, hm.2.1, hm.2.2.1, hm.2.2.2.1, by have := hm.2.2.2.2; show nds + 1 ≤ 65536; have : nds ≤ 65536 := hm.2.2.2.2; omega⟩
    have TM := fun m' hm' w h => topM B m' hm' w0 w R h
    have BR := fun o w Hs hS => JY o w0 w Hs hS
    have HLIM := hid hlim
    unfold i64 at hop
    obtain ⟨bo, hbo⟩ : ∃ bo : Nat, bo = YI op := ⟨_, rfl⟩
    have HBO := hid hbo
    have hbo5 : (bo : Int) ≤ 5 := by have := kM op; omega
    have BO := BR op
    rw [← hbo] at BO
    clear hrs hm hlim hbo
    go_enter Tryz.func47, Tryz.ntmps47
    go_wp2_with (go_at_call 44; refine (MK _ h).mono ?_; clear h MK; rintro e w ⟨rfl, h⟩)
    go_loopw [6] (fun _ wr => ∃ S o k, Hid (rs = YE op S o k) ∧ MOk ⟨S, o, k, nds + 1⟩ ∧ MSt w0 wr R B ⟨S, o, k, nds + 1⟩) (fun _ wr => stM B wr)
    case atStart => exact ⟨st, out, opn, HRS, hm2, h⟩
    case round =>
      clear h hm2 HRS
      obtain ⟨S, o, k, HR, hm, h⟩ := hrel
      have hme := h.meas
      have HME := hid hme
      clear hme
      have T1 := fun w h => TM ⟨S, o, k, nds + 1⟩ hm.2.1 w h
      clear TM
      cases S with
      | nil =>
        have HR2 := hid (show rs = ([], o, k) by rw [HR.out]; rfl)
        simp only [kd] at T1
        clear HR
        go_upto_region 9 with (go_at_call 51; refine (T1 _ h).mono ?_; clear h; rintro e w ⟨rfl, h⟩)
        generalize ([] : List Wt) = SS at *
        obtain ⟨ad1, c1, ad2, c2, hS⟩ := h
        dsimp only at hS
        have hl2 := hm.2.1
        dsimp only at hl2
        generalize hl' : (SS).length = l at *
        have HL := hid hl'
        clear hl'
        ((with_reducible apply wp_region_list);(simp only [List.toList_toArray]);(repeat (first|((with_reducible apply yi hS);exact ya;exact yb rfl;exact yf;rfl;decide +kernel;(try simp only [Act.put,q1,q2,q3]))|((with_reducible apply yI hS);exact ya;exact E90;exact yb rfl;exact yt;rfl;decide;clear hS;intro NB w hS;(try simp only [Act.put,q1,q2,q3]))|((with_reducible apply yW hS);exact ya;exact yb rfl;exact yb rfl;exact E90;(repeat (with_reducible first|exact Rem.hd|apply Rem.tl));(repeat (with_reducible apply Rem.tl));rfl;rfl;(omega);(omega);clear hS;intro AD CAP w hS;(try simp only [Nat.zero_add, List.nil_append] at hS);(try simp only [Act.put,q1,q2,q3]))|((with_reducible apply yx hS);exact ya;exact yb rfl;exact yb rfl;(repeat (with_reducible first|exact yf|apply ye));rfl;(focus (simp;done));(repeat (with_reducible first|exact Upd.hd|apply Upd.tl));rfl;decide +kernel;clear hS;intro w hS;(try simp only [q2, q3] at hS);(try simp only [Act.put,q1,q2,q3]))|((with_reducible apply Kj);exact ya;(go_simp;with_reducible rfl);(try simp only [Act.put,q1,q2,q3]))));(refine jn ?_))
        go_wp2_with ((with_reducible apply yi hS);exact yg rfl rfl;exact yh;(repeat (with_reducible apply ye));rfl;decide +kernel;(try simp only [Act.put,q1,q2,q3]))
        go_ret
        refine ⟨rfl, fun _ => ?_, fun hh => absurd hh HLIM.out⟩
        rw [HR2.out]
        refine ⟨⟨AD, CAP, ad2, c2, ?_⟩, hm⟩
        dsimp only [List.length_cons, stC, wtN]
        rw [HL.out]
        exact hS.sb (by (repeat (first | with_reducible exact Sb.refl | (with_reducible refine Sb.take (by (repeat (with_reducible first | exact Rem.hd | apply Rem.tl)); done) ?_))))
      | cons x S =>
        cases x with
        | opn =>
          have HR2 := hid (show rs = (.opn :: S, o, k) by rw [HR.out]; rfl)
          simp only [kd, wtN] at T1
          clear HR
          go_upto_region 9 with (go_at_call 51; refine (T1 _ h).mono ?_; clear h; rintro e w ⟨rfl, h⟩)
          generalize (.opn :: S : List Wt) = SS at *
          obtain ⟨ad1, c1, ad2, c2, hS⟩ := h
          dsimp only at hS
          have hl2 := hm.2.1
          dsimp only at hl2
          generalize hl' : (SS).length = l at *
          have HL := hid hl'
          clear hl'
          ((with_reducible apply wp_region_list);(simp only [List.toList_toArray]);(repeat (first|((with_reducible apply yi hS);exact ya;exact yb rfl;exact yf;rfl;decide +kernel;(try simp only [Act.put,q1,q2,q3]))|((with_reducible apply yI hS);exact ya;exact E90;exact yb rfl;exact yt;rfl;decide;clear hS;intro NB w hS;(try simp only [Act.put,q1,q2,q3]))|((with_reducible apply yW hS);exact ya;exact yb rfl;exact yb rfl;exact E90;(repeat (with_reducible first|exact Rem.hd|apply Rem.tl));(repeat (with_reducible apply Rem.tl));rfl;rfl;(omega);(omega);clear hS;intro AD CAP w hS;(try simp only [Nat.zero_add, List.nil_append] at hS);(try simp only [Act.put,q1,q2,q3]))|((with_reducible apply yx hS);exact ya;exact yb rfl;exact yb rfl;(repeat (with_reducible first|exact yf|apply ye));rfl;(focus (simp;done));(repeat (with_reducible first|exact Upd.hd|apply Upd.tl));rfl;decide +kernel;clear hS;intro w hS;(try simp only [q2, q3] at hS);(try simp only [Act.put,q1,q2,q3]))|((with_reducible apply Kj);exact ya;(go_simp;with_reducible rfl);(try simp only [Act.put,q1,q2,q3]))));(refine jn ?_))
          go_wp2_with ((with_reducible apply yi hS);exact yg rfl rfl;exact yh;(repeat (with_reducible apply ye));rfl;decide +kernel;(try simp only [Act.put,q1,q2,q3]))
          go_ret
          refine ⟨rfl, fun _ => ?_, fun hh => absurd hh HLIM.out⟩
          rw [HR2.out]
          refine ⟨⟨AD, CAP, ad2, c2, ?_⟩, hm⟩
          dsimp only [List.length_cons, stC, wtN]
          rw [HL.out]
          exact hS.sb (by (repeat (first | with_reducible exact Sb.refl | (with_reducible refine Sb.take (by (repeat (with_reducible first | exact Rem.hd | apply Rem.tl)); done) ?_))))
        | ite n =>
          have HR2 := hid (show rs = (.ite n :: S, o, k) by rw [HR.out]; rfl)
          simp only [kd, wtN] at T1
          clear HR
          go_upto_region 9 with (go_at_call 51; refine (T1 _ h).mono ?_; clear h; rintro e w ⟨rfl, h⟩)
          generalize (.ite n :: S : List Wt) = SS at *
          obtain ⟨ad1, c1, ad2, c2, hS⟩ := h
          dsimp only at hS
          have hl2 := hm.2.1
          dsimp only at hl2
          generalize hl' : (SS).length = l at *
          have HL := hid hl'
          clear hl'
          ((with_reducible apply wp_region_list);(simp only [List.toList_toArray]);(repeat (first|((with_reducible apply yi hS);exact ya;exact yb rfl;exact yf;rfl;decide +kernel;(try simp only [Act.put,q1,q2,q3]))|((with_reducible apply yI hS);exact ya;exact E90;exact yb rfl;exact yt;rfl;decide;clear hS;intro NB w hS;(try simp only [Act.put,q1,q2,q3]))|((with_reducible apply yW hS);exact ya;exact yb rfl;exact yb rfl;exact E90;(repeat (with_reducible first|exact Rem.hd|apply Rem.tl));(repeat (with_reducible apply Rem.tl));rfl;rfl;(omega);(omega);clear hS;intro AD CAP w hS;(try simp only [Nat.zero_add, List.nil_append] at hS);(try simp only [Act.put,q1,q2,q3]))|((with_reducible apply yx hS);exact ya;exact yb rfl;exact yb rfl;(repeat (with_reducible first|exact yf|apply ye));rfl;(focus (simp;done));(repeat (with_reducible first|exact Upd.hd|apply Upd.tl));rfl;decide +kernel;clear hS;intro w hS;(try simp only [q2, q3] at hS);(try simp only [Act.put,q1,q2,q3]))|((with_reducible apply Kj);exact ya;(go_simp;with_reducible rfl);(try simp only [Act.put,q1,q2,q3]))));(refine jn ?_))
          go_wp2_with ((with_reducible apply yi hS);exact yg rfl rfl;exact yh;(repeat (with_reducible apply ye));rfl;decide +kernel;(try simp only [Act.put,q1,q2,q3]))
          go_ret
          refine ⟨rfl, fun _ => ?_, fun hh => absurd hh HLIM.out⟩
          rw [HR2.out]
          refine ⟨⟨AD, CAP, ad2, c2, ?_⟩, hm⟩
          dsimp only [List.length_cons, stC, wtN]
          rw [HL.out]
          exact hS.sb (by (repeat (first | with_reducible exact Sb.refl | (with_reducible refine Sb.take (by (repeat (with_reducible first | exact Rem.hd | apply Rem.tl)); done) ?_))))
        | quant a b =>
          have HR2 := hid (show rs = (.quant a b :: S, o, k) by rw [HR.out]; rfl)
          simp only [kd, wtN] at T1
          clear HR
          go_upto_region 9 with (go_at_call 51; refine (T1 _ h).mono ?_; clear h; rintro e w ⟨rfl, h⟩)
          generalize (.quant a b :: S : List Wt) = SS at *
          obtain ⟨ad1, c1, ad2, c2, hS⟩ := h
          dsimp only at hS
          have hl2 := hm.2.1
          dsimp only at hl2
          generalize hl' : (SS).length = l at *
          have HL := hid hl'
          clear hl'
          ((with_reducible apply wp_region_list);(simp only [List.toList_toArray]);(repeat (first|((with_reducible apply yi hS);exact ya;exact yb rfl;exact yf;rfl;decide +kernel;(try simp only [Act.put,q1,q2,q3]))|((with_reducible apply yI hS);exact ya;exact E90;exact yb rfl;exact yt;rfl;decide;clear hS;intro NB w hS;(try simp only [Act.put,q1,q2,q3]))|((with_reducible apply yW hS);exact ya;exact yb rfl;exact yb rfl;exact E90;(repeat (with_reducible first|exact Rem.hd|apply Rem.tl));(repeat (with_reducible apply Rem.tl));rfl;rfl;(omega);(omega);clear hS;intro AD CAP w hS;(try simp only [Nat.zero_add, List.nil_append] at hS);(try simp only [Act.put,q1,q2,q3]))|((with_reducible apply yx hS);exact ya;exact yb rfl;exact yb rfl;(repeat (with_reducible first|exact yf|apply ye));rfl;(focus (simp;done));(repeat (with_reducible first|exact Upd.hd|apply Upd.tl));rfl;decide +kernel;clear hS;intro w hS;(try simp only [q2, q3] at hS);(try simp only [Act.put,q1,q2,q3]))|((with_reducible apply Kj);exact ya;(go_simp;with_reducible rfl);(try simp only [Act.put,q1,q2,q3]))));(refine jn ?_))
          go_wp2_with ((with_reducible apply yi hS);exact yg rfl rfl;exact yh;(repeat (with_reducible apply ye));rfl;decide +kernel;(try simp only [Act.put,q1,q2,q3]))
          go_ret
          refine ⟨rfl, fun _ => ?_, fun hh => absurd hh HLIM.out⟩
          rw [HR2.out]
          refine ⟨⟨AD, CAP, ad2, c2, ?_⟩, hm⟩
          dsimp only [List.length_cons, stC, wtN]
          rw [HL.out]
          exact hS.sb (by (repeat (first | with_reducible exact Sb.refl | (with_reducible refine Sb.take (by (repeat (with_reducible first | exact Rem.hd | apply Rem.tl)); done) ?_))))
        | not =>
          have HR2 := hid (show rs = YE op S (o ++ ndW .not) (k - opW .not) by rw [HR.out]; rfl)
          obtain ⟨s1, s2⟩ := hm.settle
          have SM := fun w h => jL B .not S o k (nds + 1) (by intro h; cases h) s1 hm.2.2.2.1 (by have := hm.2.1; simp at this; omega) (by have := hm.2.2.1; simp at this; omega) w0 w R h
          simp only [kd, wtN] at T1
          clear HR
          go_wp2_with (first | (go_at_call 51; refine (T1 _ h).mono ?_; clear h; rintro e w ⟨rfl, h⟩) | (go_at_call 90; refine (SM _ h).mono ?_; clear h; rintro e w ⟨rfl, h⟩))
          go_roundw
          case rel => exact ⟨S, _, _, HR2, s2, h⟩
          case measure => rw [h.meas, HME.out]; simp
        | op a =>
          simp only [kd, wtN] at T1
          obtain ⟨ba, hba⟩ : ∃ ba : Nat, ba = YI a := ⟨_, rfl⟩
          have HBA := hid hba
          have hba5 : (ba : Int) ≤ 5 := by have := kM a; omega
          have BA := BR a
          rw [← hba] at BA
          clear hba
          have hll := hm.2.1
          simp only [List.length_cons] at hll
          obtain ⟨V0, V1, V2, V3, V4⟩ := kH (a := .int .i64 5) (b := .int .i64 a) (c := .int .i64 0) (kn S)
          have hop' : ∀ {w : World}, MSt w0 w R B ⟨.op a :: S, o, k, nds + 1⟩ → ∃ ad1 c1 ad2 c2, (∃ aa, ad1 = some aa ∧ aa.spot = none) ∧ Sat w0 w (blk B 92 [.slice ad1 (S.length + 1) c1, .slice ad2 o.length c2, .int .i64 k, .int .i64 ((nds + 1 : Nat) : Int)] :: own 100 3 ad1 (S.length + 1) c1 (stC S ++ [.int .i64 5, .int .i64 a, .int .i64 0]) :: own 50 2 ad2 o.length c2 (Fs o) :: R) := fun h => by
            obtain ⟨ad1, c1, ad2, c2, hS⟩ := h
            simp only [List.length_cons, stC, wtN] at hS
            exact ⟨ad1, c1, ad2, c2, hS.ownNN (ye yf) (by omega), hS⟩
          have hli : (S.length : Int) ≤ 200000 := by omega
          have SH : ∀ {w : World} {ad1 ad2 : Option Addr} {c1 c2 : Nat}, Sat w0 w (blk B 92 [.slice ad1 (S.length + 1) c1, .slice ad2 o.length c2, .int .i64 k, .int .i64 ((nds + 1 : Nat) : Int)] :: own 100 3 ad1 (S.length + 1) c1 (stC S ++ [.int .i64 5, .int .i64 a, .int .i64 0]) :: own 50 2 ad2 o.length c2 (Fs o) :: R) → MSt w0 w R B ⟨.op a :: S, o, k, nds + 1⟩ := fun hS => ⟨_, _, _, _, hS⟩
          obtain ⟨s1, s2⟩ := hm.settle
          have SM := fun w h => jL B (.op a) S o k (nds + 1) (by intro h; cases h) s1 hm.2.2.2.1 (by have := hm.2.1; simp at this; omega) (by have := hm.2.2.1; simp at this; omega) w0 w R h
          by_cases hbrk : ba < bo ∨ (ba = bo ∧ op = 9)
          · have HR2 := hid (show rs = (.op a :: S, o, k) by
              rw [HR.out, YE, ← HBA.out, ← HBO.out, if_pos hbrk])
            have hcase : (ba < bo) ∨ (decide (ba < bo) = false ∧ ((ba : Int) == (bo : Int)) = true ∧ (ba == bo) = true ∧ (op == 9) = true) := by
              rcases hbrk with h1 | ⟨h1, h2⟩
              · exact .inl (by omega)
              · exact .inr ⟨by simp; omega, by simp; omega, by simp; omega, by simpa using h2⟩
            clear hbrk HR SM SH s1 s2
            rcases hcase with h1 | ⟨h1, h2, h22, h3⟩
            all_goals
              go_upto_region 6 with (go_at_call 51; refine (T1 _ h).mono ?_; clear h; rintro e w ⟨rfl, h⟩)
              obtain ⟨ad1, c1, ad2, c2, NNA, hS⟩ := hop' h
              clear h
              generalize hl' : S.length = l at *
              have HL := hid hl'
              clear hl'
              clear V0 V2 V3 V4 hop' BR
              go_upto_region 7 with (first|((with_reducible apply Cont.intro);(focus (apply Or.inr;apply (Sat.sb hS);(repeat (with_reducible exact Sb.refl));done));intro hR hC)|((first|((with_reducible apply yc (i := 0));(simp only [q4,q6,q5];with_reducible rfl);kernel_rfl;kernel_rfl;decide +kernel;rfl;exact hC;exact (fun _ _ _ h => h);exact hR;with_reducible exact ya)|((with_reducible apply yc (i := 1));(simp only [q4,q6,q5];with_reducible rfl);kernel_rfl;kernel_rfl;decide +kernel;rfl;exact hC;exact (fun _ _ _ h => h);exact hR;with_reducible exact ya)|((with_reducible apply yc (i := 4));(simp only [q4,q6,q5];with_reducible rfl);kernel_rfl;kernel_rfl;decide +kernel;rfl;exact hC;exact (fun _ _ _ h => h);exact hR;with_reducible exact ya)|((with_reducible apply yc (i := 5));(simp only [q4,q6,q5];with_reducible rfl);kernel_rfl;kernel_rfl;decide +kernel;rfl;exact hC;exact (fun _ _ _ h => h);exact hR;with_reducible exact ya)|((with_reducible apply yc (i := 8));(simp only [q4,q6,q5];with_reducible rfl);kernel_rfl;kernel_rfl;decide +kernel;rfl;exact hC;exact (fun _ _ _ h => h);exact hR;with_reducible exact ya)|((with_reducible apply yc (i := 9));(simp only [q4,q6,q5];with_reducible rfl);kernel_rfl;kernel_rfl;decide +kernel;rfl;exact hC;exact (fun _ _ _ h => h);exact hR;with_reducible exact ya)|((with_reducible apply yc (i := 14));(simp only [q4,q6,q5];with_reducible rfl);kernel_rfl;kernel_rfl;decide +kernel;rfl;exact hC;exact (fun _ _ _ h => h);exact hR;with_reducible exact ya));(intro w;first|(go_simp;done)|(go_simp;rw [yw (by omega) (by omega)])|(go_simp;with_reducible rfl)|(go_simp;rfl));(clear hR hC;intro hR hC);(try simp only [Act.put,q1,q2,q3]))|((first|((with_reducible apply yc (i := 2));(simp only [q4,q6,q5];with_reducible rfl);kernel_rfl;kernel_rfl;decide +kernel;rfl;exact hC;exact (fun _ _ _ h => h);exact hR;with_reducible exact ya)|((with_reducible apply yc (i := 6));(simp only [q4,q6,q5];with_reducible rfl);kernel_rfl;kernel_rfl;decide +kernel;rfl;exact hC;exact (fun _ _ _ h => h);exact hR;with_reducible exact ya)|((with_reducible apply yc (i := 11));(simp only [q4,q6,q5];with_reducible rfl);kernel_rfl;kernel_rfl;decide +kernel;rfl;exact hC;exact (fun _ _ _ h => h);exact hR;with_reducible exact ya));(intro w;first|(exact yX rfl (by (exact yb rfl)) (by assumption) (by with_reducible exact fo100_1))|(go_simp;done)|(go_simp;rw [yw (by omega) (by omega)])|(go_simp;with_reducible rfl)|(go_simp;rfl));(clear hR hC;intro hR hC);(try simp only [Act.put,q1,q2,q3]))|(((with_reducible apply yc (i := 10));(simp only [q4,q6,q5];with_reducible rfl);kernel_rfl;kernel_rfl;decide +kernel;rfl;exact hC;exact (fun _ _ _ h => h);exact hR;with_reducible exact ya);(intro w;first|(with_reducible exact yG E22 rfl (by (exact yh)) (by (exact yh)) (by (omega)) (by (omega)) (by (assumption)) (by (rfl)))|(with_reducible exact yG E90 rfl (by (exact yb rfl)) (by (exact yb rfl)) (by (omega)) (by (omega)) (by (exact hS.ownNN (by (repeat (with_reducible first|exact yf|apply ye))) (by omega))) (by (simp only [Int.toNat_natCast, Nat.mul_one, Nat.zero_add, Yc, yL, yJ, yP, Yb, yQ, yK];rfl)))|(go_simp;done)|(go_simp;rw [yw (by omega) (by omega)])|(go_simp;with_reducible rfl));(clear hR hC;intro hR hC);(try simp only [Act.put,q1,q2,q3]))|((first|((with_reducible apply yj (i := 3));(simp only [q4,q6,q5];with_reducible rfl);kernel_rfl;kernel_rfl;decide +kernel;kernel_rfl;rfl;exact hC;exact (fun _ _ _ h => h);exact hR;kernel_rfl;with_reducible exact ya)|((with_reducible apply yj (i := 7));(simp only [q4,q6,q5];with_reducible rfl);kernel_rfl;kernel_rfl;decide +kernel;kernel_rfl;rfl;exact hC;exact (fun _ _ _ h => h);exact hR;kernel_rfl;with_reducible exact ya)|((with_reducible apply yj (i := 12));(simp only [q4,q6,q5];with_reducible rfl);kernel_rfl;kernel_rfl;decide +kernel;kernel_rfl;rfl;exact hC;exact (fun _ _ _ h => h);exact hR;kernel_rfl;with_reducible exact ya));(intro w hS;(apply ym rfl (by (exact yb rfl)));first|exact yd (by decide +kernel) (hS.cell (by (repeat (with_reducible first|exact yf|apply ye))) rfl)|exact yd (by decide +kernel) ((hS.ownCell (by (repeat (with_reducible first|exact yf|apply ye))) (by (assumption))).1)|exact yd (by decide +kernel) (Sat.rdCell2 (by assumption) hS (by ((repeat (with_reducible apply ye)));try assumption) (by (rfl)))|exact yd (by decide +kernel) (hS.baseCell (by ((repeat (with_reducible apply ye)));try assumption) (by assumption))|exact yd (by decide +kernel) (fzC (by assumption) hS (by ((repeat (with_reducible apply ye)));try assumption))|exact yp hS (by assumption) (by ((repeat (with_reducible apply ye)));try assumption) (by assumption) (by rfl) (by with_reducible exact sz50) (by decide +kernel) (by decide)|exact hS.loadWhole (by (repeat (with_reducible apply ye))) (by kernel_rfl) (by kernel_rfl));(clear hR hC;intro hR hC);(try simp only [Act.put,q1,q2,q3]))|((with_reducible apply yn (i := 13));(simp only [q4,q6,q5];with_reducible rfl);decide +kernel;exact hC;clear hR hC)|((with_reducible apply yq);decide +kernel;clear hR hC)|(refine yz 6 15 hS (by kernel_rfl) [] rfl ?_;clear hS;intro w hS hR hC)|(go_at_call 89;refine (BA _ _ hS).mono ?_;clear hS;rintro e w ⟨rfl, hS⟩))
              clear BA V1
              go_upto_region 9 with (go_at_call 89; refine (BO _ _ hS).mono ?_; clear hS; rintro e w ⟨rfl, hS⟩)
              clear BO
              ((with_reducible apply wp_region_list);(simp only [List.toList_toArray]);(repeat (first|((with_reducible apply yi hS);exact ya;exact yb rfl;exact yf;rfl;decide +kernel;(try simp only [Act.put,q1,q2,q3]))|((with_reducible apply yI hS);exact ya;exact E90;exact yb rfl;exact yt;rfl;decide;clear hS;intro NB w hS;(try simp only [Act.put,q1,q2,q3]))|((with_reducible apply yW hS);exact ya;exact yb rfl;exact yb rfl;exact E90;(repeat (with_reducible first|exact Rem.hd|apply Rem.tl));(repeat (with_reducible apply Rem.tl));rfl;rfl;(omega);(omega);clear hS;intro AD CAP w hS;(try simp only [Nat.zero_add, List.nil_append] at hS);(try simp only [Act.put,q1,q2,q3]))|((with_reducible apply yx hS);exact ya;exact yb rfl;exact yb rfl;(repeat (with_reducible first|exact yf|apply ye));rfl;(focus (simp;done));(repeat (with_reducible first|exact Upd.hd|apply Upd.tl));rfl;decide +kernel;clear hS;intro w hS;(try simp only [q2, q3] at hS);(try simp only [Act.put,q1,q2,q3]))|((with_reducible apply Kj);exact ya;(go_simp;with_reducible rfl);(try simp only [Act.put,q1,q2,q3]))));(refine jn ?_))
              go_wp2_with ((with_reducible apply yi hS);exact yg rfl rfl;exact yh;(repeat (with_reducible apply ye));rfl;decide +kernel;(try simp only [Act.put,q1,q2,q3]))
              go_ret
              refine ⟨rfl, fun _ => ?_, fun hh => absurd hh HLIM.out⟩
              rw [HR2.out]
              refine ⟨⟨AD, CAP, ad2, c2, ?_⟩, hm⟩
              dsimp only [List.length_cons, stC, wtN]
              rw [HL.out]
              exact hS.sb (by (repeat (first | with_reducible exact Sb.refl | (with_reducible refine Sb.take (by (repeat (with_reducible first | exact Rem.hd | apply Rem.tl)); done) ?_))))
          · have HR2 := hid (show rs = YE op S (o ++ ndW (.op a)) (k - opW (.op a)) by
              rw [HR.out, YE, ← HBA.out, ← HBO.out, if_neg hbrk]; rfl)
            have hge : decide (ba < bo) = false := by simp; omega
            have hcase : (((ba : Int) == (bo : Int)) = false ∧ (ba == bo) = false) ∨ (((ba : Int) == (bo : Int)) = true ∧ (ba == bo) = true ∧ (op == 9) = false) := by
              by_cases h1 : ba = bo
              · exact .inr ⟨by simp; omega, by simp; omega, by simp; intro h2; exact hbrk (.inr ⟨h1, h2⟩)⟩
              · exact .inl ⟨by simp; omega, by simp; omega⟩
            clear hbrk HR
            rcases hcase with ⟨h1, h11⟩ | ⟨h1, h11, h3⟩
            all_goals
              go_upto_region 6 with (go_at_call 51; refine (T1 _ h).mono ?_; clear h; rintro e w ⟨rfl, h⟩)
              obtain ⟨ad1, c1, ad2, c2, NNA, hS⟩ := hop' h
              clear h
              clear V0 V2 V3 V4 hop' BR
              go_upto_region 7 with (first|((with_reducible apply Cont.intro);(focus (apply Or.inr;apply (Sat.sb hS);(repeat (with_reducible exact Sb.refl));done));intro hR hC)|((first|((with_reducible apply yc (i := 0));(simp only [q4,q6,q5];with_reducible rfl);kernel_rfl;kernel_rfl;decide +kernel;rfl;exact hC;exact (fun _ _ _ h => h);exact hR;with_reducible exact ya)|((with_reducible apply yc (i := 1));(simp only [q4,q6,q5];with_reducible rfl);kernel_rfl;kernel_rfl;decide +kernel;rfl;exact hC;exact (fun _ _ _ h => h);exact hR;with_reducible exact ya)|((with_reducible apply yc (i := 4));(simp only [q4,q6,q5];with_reducible rfl);kernel_rfl;kernel_rfl;decide +kernel;rfl;exact hC;exact (fun _ _ _ h => h);exact hR;with_reducible exact ya)|((with_reducible apply yc (i := 5));(simp only [q4,q6,q5];with_reducible rfl);kernel_rfl;kernel_rfl;decide +kernel;rfl;exact hC;exact (fun _ _ _ h => h);exact hR;with_reducible exact ya)|((with_reducible apply yc (i := 8));(simp only [q4,q6,q5];with_reducible rfl);kernel_rfl;kernel_rfl;decide +kernel;rfl;exact hC;exact (fun _ _ _ h => h);exact hR;with_reducible exact ya)|((with_reducible apply yc (i := 9));(simp only [q4,q6,q5];with_reducible rfl);kernel_rfl;kernel_rfl;decide +kernel;rfl;exact hC;exact (fun _ _ _ h => h);exact hR;with_reducible exact ya)|((with_reducible apply yc (i := 14));(simp only [q4,q6,q5];with_reducible rfl);kernel_rfl;kernel_rfl;decide +kernel;rfl;exact hC;exact (fun _ _ _ h => h);exact hR;with_reducible exact ya));(intro w;first|(go_simp;done)|(go_simp;rw [yw (by omega) (by omega)])|(go_simp;with_reducible rfl)|(go_simp;rfl));(clear hR hC;intro hR hC);(try simp only [Act.put,q1,q2,q3]))|((first|((with_reducible apply yc (i := 2));(simp only [q4,q6,q5];with_reducible rfl);kernel_rfl;kernel_rfl;decide +kernel;rfl;exact hC;exact (fun _ _ _ h => h);exact hR;with_reducible exact ya)|((with_reducible apply yc (i := 6));(simp only [q4,q6,q5];with_reducible rfl);kernel_rfl;kernel_rfl;decide +kernel;rfl;exact hC;exact (fun _ _ _ h => h);exact hR;with_reducible exact ya)|((with_reducible apply yc (i := 11));(simp only [q4,q6,q5];with_reducible rfl);kernel_rfl;kernel_rfl;decide +kernel;rfl;exact hC;exact (fun _ _ _ h => h);exact hR;with_reducible exact ya));(intro w;first|(exact yX rfl (by (exact yb rfl)) (by assumption) (by with_reducible exact fo100_1))|(go_simp;done)|(go_simp;rw [yw (by omega) (by omega)])|(go_simp;with_reducible rfl)|(go_simp;rfl));(clear hR hC;intro hR hC);(try simp only [Act.put,q1,q2,q3]))|(((with_reducible apply yc (i := 10));(simp only [q4,q6,q5];with_reducible rfl);kernel_rfl;kernel_rfl;decide +kernel;rfl;exact hC;exact (fun _ _ _ h => h);exact hR;with_reducible exact ya);(intro w;first|(with_reducible exact yG E22 rfl (by (exact yh)) (by (exact yh)) (by (omega)) (by (omega)) (by (assumption)) (by (rfl)))|(with_reducible exact yG E90 rfl (by (exact yb rfl)) (by (exact yb rfl)) (by (omega)) (by (omega)) (by (exact hS.ownNN (by (repeat (with_reducible first|exact yf|apply ye))) (by omega))) (by (simp only [Int.toNat_natCast, Nat.mul_one, Nat.zero_add, Yc, yL, yJ, yP, Yb, yQ, yK];rfl)))|(go_simp;done)|(go_simp;rw [yw (by omega) (by omega)])|(go_simp;with_reducible rfl));(clear hR hC;intro hR hC);(try simp only [Act.put,q1,q2,q3]))|((first|((with_reducible apply yj (i := 3));(simp only [q4,q6,q5];with_reducible rfl);kernel_rfl;kernel_rfl;decide +kernel;kernel_rfl;rfl;exact hC;exact (fun _ _ _ h => h);exact hR;kernel_rfl;with_reducible exact ya)|((with_reducible apply yj (i := 7));(simp only [q4,q6,q5];with_reducible rfl);kernel_rfl;kernel_rfl;decide +kernel;kernel_rfl;rfl;exact hC;exact (fun _ _ _ h => h);exact hR;kernel_rfl;with_reducible exact ya)|((with_reducible apply yj (i := 12));(simp only [q4,q6,q5];with_reducible rfl);kernel_rfl;kernel_rfl;decide +kernel;kernel_rfl;rfl;exact hC;exact (fun _ _ _ h => h);exact hR;kernel_rfl;with_reducible exact ya));(intro w hS;(apply ym rfl (by (exact yb rfl)));first|exact yd (by decide +kernel) (hS.cell (by (repeat (with_reducible first|exact yf|apply ye))) rfl)|exact yd (by decide +kernel) ((hS.ownCell (by (repeat (with_reducible first|exact yf|apply ye))) (by (assumption))).1)|exact yd (by decide +kernel) (Sat.rdCell2 (by assumption) hS (by ((repeat (with_reducible apply ye)));try assumption) (by (rfl)))|exact yd (by decide +kernel) (hS.baseCell (by ((repeat (with_reducible apply ye)));try assumption) (by assumption))|exact yd (by decide +kernel) (fzC (by assumption) hS (by ((repeat (with_reducible apply ye)));try assumption))|exact yp hS (by assumption) (by ((repeat (with_reducible apply ye)));try assumption) (by assumption) (by rfl) (by with_reducible exact sz50) (by decide +kernel) (by decide)|exact hS.loadWhole (by (repeat (with_reducible apply ye))) (by kernel_rfl) (by kernel_rfl));(clear hR hC;intro hR hC);(try simp only [Act.put,q1,q2,q3]))|((with_reducible apply yn (i := 13));(simp only [q4,q6,q5];with_reducible rfl);decide +kernel;exact hC;clear hR hC)|((with_reducible apply yq);decide +kernel;clear hR hC)|(refine yz 6 15 hS (by kernel_rfl) [] rfl ?_;clear hS;intro w hS hR hC)|(go_at_call 89;refine (BA _ _ hS).mono ?_;clear hS;rintro e w ⟨rfl, hS⟩))
              clear BA V1
              go_upto_region 8 with (go_at_call 89; refine (BO _ _ hS).mono ?_; clear hS; rintro e w ⟨rfl, hS⟩)
              clear BO
              have h := SH hS
              clear hS
              go_wp2_with (go_at_call 90; refine (SM _ h).mono ?_; clear h; rintro e w ⟨rfl, h⟩)
              go_roundw
              case rel => exact ⟨S, _, _, HR2, s2, h⟩
              case measure => rw [h.meas, HME.out]; simp
end
section
set_option maxRecDepth 20000
open Go Go.RowKit Go.SL Go.ClauseP Go.LexP
-- ACT2

theorem Kn : ∀ (S : List Wt) (o : List (Int × Int)) (k : Nat), (Yd S o k).1 = [] ∨ (∃ S', (Yd S o k).1 = .opn :: S') ∨ ∃ n S', (Yd S o k).1 = .ite n :: S'
  | [], o, k => .inl rfl
  | w :: s, o, k => by
    cases w with
    | opn => exact .inr (.inl ⟨s, rfl⟩)
    | ite n => exact .inr (.inr ⟨n, s, rfl⟩)
    | not => exact Kn s _ _
    | quant a b => exact Kn s _ _
    | op a => exact Kn s _ _
def kP (nds : Nat) : List Wt × List (Int × Int) × Nat → Int × MS
  | (.opn :: s, o, k) => (0, ⟨s, o, k - 1, nds⟩)
  | (.ite n :: s, o, k) => if n = 2 then (0, ⟨s, o ++ [(11, 0)], k - 1, nds⟩) else (131, ⟨[], [], 0, 0⟩)
  | _ => (131, ⟨[], [], 0, 0⟩)
set_option maxHeartbeats 8000000 in
theorem closesR (B : Nat) (st : List Wt) (out : List (Int × Int)) (opn nds : Nat) (hm : MOk ⟨st, out, opn, nds⟩) (w0 w : World) (R : List HP) (h : MSt w0 w R B ⟨st, out, opn, nds⟩) :
    Calls Tryz.prog 48 #[.pointer (some ⟨B, 0, none⟩)] w fun e w' => e = .returned (.int .i64 (kP nds (Yd st out opn)).1) ∧
      ((kP nds (Yd st out opn)).1 = 0 → MSt w0 w' R B (kP nds (Yd st out opn)).2 ∧ MOk (kP nds (Yd st out opn)).2) ∧ ((kP nds (Yd st out opn)).1 = 131 → ∃ m', MSt w0 w' R B m') := by
  have IR := fun w h => XT B ⟨st, out, opn, nds⟩ hm w0 w R h
  have hsh := Kn st out opn
  dsimp only at IR
  generalize hrs : Yd st out opn = rs at *
  obtain ⟨S1, o1, k1⟩ := rs
  clear hrs hm
  dsimp only at IR hsh
  rcases hsh with rfl | ⟨S, rfl⟩ | ⟨n, S, rfl⟩
  · go_enter Tryz.func48, Tryz.ntmps48
    go_upto_region 2 with (go_at_call 50; refine (IR _ h).mono ?_; clear h IR; rintro e w ⟨rfl, hm, h⟩)
    obtain ⟨ad1, c1, ad2, c2, hS⟩ := h
    simp only [List.length_nil] at hS
    have T0 := fun w hS => top0 B ad1 c1 (.slice ad2 o1.length c2) k1 nds w0 w (own 100 3 ad1 0 c1 (stC []) :: own 50 2 ad2 o1.length c2 (Fs o1) :: R) hS
    go_wp2_with (first|((with_reducible apply Cont.intro);(focus (apply Or.inr;apply (Sat.sb hS);(repeat (with_reducible exact Sb.refl));done));intro hR hC)|((first|((with_reducible apply yc (i := 0));(simp only [q4,q6,q5];with_reducible rfl);kernel_rfl;kernel_rfl;decide +kernel;rfl;exact hC;exact (fun _ _ _ h => h);exact hR;with_reducible exact ya)|((with_reducible apply yc (i := 2));(simp only [q4,q6,q5];with_reducible rfl);kernel_rfl;kernel_rfl;decide +kernel;rfl;exact hC;exact (fun _ _ _ h => h);exact hR;with_reducible exact ya)|((with_reducible apply yc (i := 3));(simp only [q4,q6,q5];with_reducible rfl);kernel_rfl;kernel_rfl;decide +kernel;rfl;exact hC;exact (fun _ _ _ h => h);exact hR;with_reducible exact ya)|((with_reducible apply yc (i := 18));(simp only [q4,q6,q5];with_reducible rfl);kernel_rfl;kernel_rfl;decide +kernel;rfl;exact hC;exact (fun _ _ _ h => h);exact hR;with_reducible exact ya));(intro w;first|(go_simp;done)|(go_simp;rw [yw (by omega) (by omega)])|(go_simp;with_reducible rfl)|(go_simp;rfl));(clear hR hC;intro hR hC);(try simp only [Act.put,q1,q2,q3]))|((first|((with_reducible apply yy (i := 4));(simp only [q4,q6,q5];with_reducible rfl);kernel_rfl;kernel_rfl;decide +kernel;rfl;exact hC;exact (fun _ _ _ h => h);exact hR;(exact yr rfl rfl))|((with_reducible apply yy (i := 5));(simp only [q4,q6,q5];with_reducible rfl);kernel_rfl;kernel_rfl;decide +kernel;rfl;exact hC;exact (fun _ _ _ h => h);exact hR;(exact yr rfl rfl))|((with_reducible apply yy (i := 6));(simp only [q4,q6,q5];with_reducible rfl);kernel_rfl;kernel_rfl;decide +kernel;rfl;exact hC;exact (fun _ _ _ h => h);exact hR;(exact yr rfl rfl))|((with_reducible apply yy (i := 7));(simp only [q4,q6,q5];with_reducible rfl);kernel_rfl;kernel_rfl;decide +kernel;rfl;exact hC;exact (fun _ _ _ h => h);exact hR;(exact yr rfl rfl))|((with_reducible apply yy (i := 8));(simp only [q4,q6,q5];with_reducible rfl);kernel_rfl;kernel_rfl;decide +kernel;rfl;exact hC;exact (fun _ _ _ h => h);exact hR;(exact yr rfl rfl))|((with_reducible apply yy (i := 9));(simp only [q4,q6,q5];with_reducible rfl);kernel_rfl;kernel_rfl;decide +kernel;rfl;exact hC;exact (fun _ _ _ h => h);exact hR;(exact yr rfl rfl))|((with_reducible apply yy (i := 10));(simp only [q4,q6,q5];with_reducible rfl);kernel_rfl;kernel_rfl;decide +kernel;rfl;exact hC;exact (fun _ _ _ h => h);exact hR;(exact yr rfl rfl))|((with_reducible apply yy (i := 11));(simp only [q4,q6,q5];with_reducible rfl);kernel_rfl;kernel_rfl;decide +kernel;rfl;exact hC;exact (fun _ _ _ h => h);exact hR;(exact yr rfl rfl))|((with_reducible apply yy (i := 12));(simp only [q4,q6,q5];with_reducible rfl);kernel_rfl;kernel_rfl;decide +kernel;rfl;exact hC;exact (fun _ _ _ h => h);exact hR;(exact yr rfl rfl))|((with_reducible apply yy (i := 13));(simp only [q4,q6,q5];with_reducible rfl);kernel_rfl;kernel_rfl;decide +kernel;rfl;exact hC;exact (fun _ _ _ h => h);exact hR;(exact yr rfl rfl))|((with_reducible apply yy (i := 14));(simp only [q4,q6,q5];with_reducible rfl);kernel_rfl;kernel_rfl;decide +kernel;rfl;exact hC;exact (fun _ _ _ h => h);exact hR;(exact yr rfl rfl))|((with_reducible apply yy (i := 15));(simp only [q4,q6,q5];with_reducible rfl);kernel_rfl;kernel_rfl;decide +kernel;rfl;exact hC;exact (fun _ _ _ h => h);exact hR;(exact yr rfl rfl))|((with_reducible apply yy (i := 16));(simp only [q4,q6,q5];with_reducible rfl);kernel_rfl;kernel_rfl;decide +kernel;rfl;exact hC;exact (fun _ _ _ h => h);exact hR;(exact yr rfl rfl))|((with_reducible apply yy (i := 17));(simp only [q4,q6,q5];with_reducible rfl);kernel_rfl;kernel_rfl;decide +kernel;rfl;exact hC;exact (fun _ _ _ h => h);exact hR;(exact yr rfl rfl)));(clear hR hC;intro hR hC);(try simp only [Act.put,q1,q2,q3]))|((with_reducible apply yn (i := 1));(simp only [q4,q6,q5];with_reducible rfl);decide +kernel;exact hC;clear hR hC)|((with_reducible apply yq);decide +kernel;clear hR hC)|(refine yz 6 19 hS (by kernel_rfl) [] rfl ?_;clear hS;intro w hS hR hC)|(go_at_call 51;refine (T0 _ hS).mono ?_;clear hS;rintro e w ⟨rfl, hS⟩))
    go_ret
    exact ⟨rfl, fun h => by have h : (131 : Int) = 0 := h; exact absurd h (by decide), fun _ => ⟨⟨[], o1, k1, nds⟩, ad1, c1, ad2, c2, hS⟩⟩
  · go_enter Tryz.func48, Tryz.ntmps48
    go_upto_region 2 with (go_at_call 50; refine (IR _ h).mono ?_; clear h IR; rintro e w ⟨rfl, hm, h⟩)
    obtain ⟨ad1, c1, ad2, c2, hS⟩ := h
    simp only [List.length_cons, stC, wtN] at hS
    have hl := hm.2.1
    have ho : k1 = 1 + (S.map opW).sum := hm.1
    have ho2 : k1 ≤ 64 := hm.2.2.2.1
    simp only [List.length_cons] at hl
    obtain ⟨V0, V1, V2, V3, V4⟩ := kH (a := .int .i64 3) (b := .int .i64 0) (c := .int .i64 0) (kn S)
    have hcap := (hS.ownCap (ye yf)).1
    have T1 := fun w hS => top1 B ad1 S.length c1 (by omega) (.slice ad2 o1.length c2) k1 nds 3 0 0 (stC S) (kn S) w0 w (own 50 2 ad2 o1.length c2 (Fs o1) :: R) hS
    have HM := hid hm
    have HV4 := hid V4
    have HO := hid ho
    clear V4 V0 V1 V2 V3 ho hm
    generalize hl' : S.length = l at *
    have HL := hid hl'
    clear hl'
    have hli : (l : Int) ≤ 200000 := by omega
    have hli0 : (0 : Int) ≤ (l : Int) := by omega
    have hlc : (l : Int) ≤ (c1 : Int) := by omega
    have hk1 : 1 ≤ (k1 : Int) := by have := HO.out; omega
    have hk2 : (k1 : Int) ≤ 64 := by omega
    go_wp2_with (first|((with_reducible apply Cont.intro);(exact Or.inl (by kernel_rfl));intro hR hC)|((first|((with_reducible apply yc (i := 0));(simp only [q4,q6,q5];with_reducible rfl);kernel_rfl;kernel_rfl;decide +kernel;rfl;exact hC;exact (fun _ _ _ h => h);exact hR;with_reducible exact ya)|((with_reducible apply yc (i := 1));(simp only [q4,q6,q5];with_reducible rfl);kernel_rfl;kernel_rfl;decide +kernel;rfl;exact hC;exact (fun _ _ _ h => h);exact hR;with_reducible exact ya)|((with_reducible apply yc (i := 2));(simp only [q4,q6,q5];with_reducible rfl);kernel_rfl;kernel_rfl;decide +kernel;rfl;exact hC;exact (fun _ _ _ h => h);exact hR;with_reducible exact ya)|((with_reducible apply yc (i := 5));(simp only [q4,q6,q5];with_reducible rfl);kernel_rfl;kernel_rfl;decide +kernel;rfl;exact hC;exact (fun _ _ _ h => h);exact hR;with_reducible exact ya)|((with_reducible apply yc (i := 6));(simp only [q4,q6,q5];with_reducible rfl);kernel_rfl;kernel_rfl;decide +kernel;rfl;exact hC;exact (fun _ _ _ h => h);exact hR;with_reducible exact ya)|((with_reducible apply yc (i := 9));(simp only [q4,q6,q5];with_reducible rfl);kernel_rfl;kernel_rfl;decide +kernel;rfl;exact hC;exact (fun _ _ _ h => h);exact hR;with_reducible exact ya)|((with_reducible apply yc (i := 10));(simp only [q4,q6,q5];with_reducible rfl);kernel_rfl;kernel_rfl;decide +kernel;rfl;exact hC;exact (fun _ _ _ h => h);exact hR;with_reducible exact ya)|((with_reducible apply yc (i := 11));(simp only [q4,q6,q5];with_reducible rfl);kernel_rfl;kernel_rfl;decide +kernel;rfl;exact hC;exact (fun _ _ _ h => h);exact hR;with_reducible exact ya)|((with_reducible apply yc (i := 12));(simp only [q4,q6,q5];with_reducible rfl);kernel_rfl;kernel_rfl;decide +kernel;rfl;exact hC;exact (fun _ _ _ h => h);exact hR;with_reducible exact ya));(intro w;first|(go_simp;done)|(go_simp;rw [yw (by omega) (by omega)])|(go_simp;with_reducible rfl)|(go_simp;rfl));(clear hR hC;intro hR hC);(try simp only [Act.put,q1,q2,q3]))|((first|((with_reducible apply yc (i := 3));(simp only [q4,q6,q5];with_reducible rfl);kernel_rfl;kernel_rfl;decide +kernel;rfl;exact hC;exact (fun _ _ _ h => h);exact hR;with_reducible exact ya)|((with_reducible apply yc (i := 7));(simp only [q4,q6,q5];with_reducible rfl);kernel_rfl;kernel_rfl;decide +kernel;rfl;exact hC;exact (fun _ _ _ h => h);exact hR;with_reducible exact ya)|((with_reducible apply yc (i := 13));(simp only [q4,q6,q5];with_reducible rfl);kernel_rfl;kernel_rfl;decide +kernel;rfl;exact hC;exact (fun _ _ _ h => h);exact hR;with_reducible exact ya));(intro w;first|(exact yX rfl (by (exact yh)) (by assumption) (by with_reducible exact fo50_0))|(go_simp;done)|(go_simp;rw [yw (by omega) (by omega)])|(go_simp;with_reducible rfl)|(go_simp;rfl));(clear hR hC;intro hR hC);(try simp only [Act.put,q1,q2,q3]))|((first|((with_reducible apply yj (i := 4));(simp only [q4,q6,q5];with_reducible rfl);kernel_rfl;kernel_rfl;decide +kernel;kernel_rfl;rfl;exact hC;exact (fun _ _ _ h => h);exact hR;kernel_rfl;with_reducible exact ya)|((with_reducible apply yj (i := 8));(simp only [q4,q6,q5];with_reducible rfl);kernel_rfl;kernel_rfl;decide +kernel;kernel_rfl;rfl;exact hC;exact (fun _ _ _ h => h);exact hR;kernel_rfl;with_reducible exact ya));(intro w hS;(apply ym rfl (by (exact yb rfl)));first|exact yd (by decide +kernel) (hS.cell (by (exact yf)) rfl)|exact yd (by decide +kernel) ((hS.ownCell (by (repeat (with_reducible apply ye))) (by (rfl))).1)|exact yd (by decide +kernel) (Sat.rdCell2 (by assumption) hS (by ((repeat (with_reducible apply ye)));try assumption) (by (rfl)))|exact yd (by decide +kernel) (hS.baseCell (by ((repeat (with_reducible apply ye)));try assumption) (by assumption))|exact yd (by decide +kernel) (fzC (by assumption) hS (by ((repeat (with_reducible apply ye)));try assumption))|exact yp hS (by assumption) (by ((repeat (with_reducible apply ye)));try assumption) (by assumption) (by rfl) (by with_reducible exact sz50) (by decide +kernel) (by decide)|exact hS.loadWhole (by (repeat (with_reducible apply ye))) (by kernel_rfl) (by kernel_rfl));(clear hR hC;intro hR hC);(try simp only [Act.put,q1,q2,q3]))|((with_reducible apply yn (i := 14));(simp only [q4,q6,q5];with_reducible rfl);decide +kernel;exact hC;clear hR hC)|((with_reducible apply yq);decide +kernel;clear hR hC)|(refine yz 3 15 hS (by kernel_rfl) [14] rfl ?_;clear hS;intro w hS hR hC)|((with_reducible apply yi hS);exact ya;exact yb rfl;exact yf;rfl;decide +kernel;(try simp only [Act.put,q1,q2,q3]))|((with_reducible apply yx hS);exact ya;exact yb rfl;exact yb rfl;exact yf;rfl;(focus (simp;done));exact Upd.hd;rfl;decide +kernel;clear hS;intro w hS;(try simp only [q2, q3] at hS);(try simp only [Act.put,q1,q2,q3]))|(go_at_call 51;refine (T1 _ hS).mono ?_;clear hS;rintro e w ⟨rfl, hS⟩))
    go_ret
    have hS2 := hS.sb (L := own 100 3 ad1 (l + 1) c1 (stC S ++ [.int .i64 3, .int .i64 0, .int .i64 0]) :: blk B 92 [.slice ad1 l c1, .slice ad2 o1.length c2, .int .i64 (k1 - 1), .int .i64 nds] :: own 50 2 ad2 o1.length c2 (Fs o1) :: R) (by (repeat (first | with_reducible exact Sb.refl | (with_reducible refine Sb.take (by (repeat (with_reducible first | exact Rem.hd | apply Rem.tl)); done) ?_))))
    have hS3 := hS2.ownShrink (k := l) (by omega)
    rw [HV4.out] at hS3
    obtain ⟨m1, m2, m3, m4, m5⟩ := HM.out
    simp only [List.length_cons] at m2 m3
    refine ⟨rfl, fun _ => ⟨⟨ad1, c1, ad2, c2, ?_⟩, ?_, ?_, ?_, ?_, m5⟩, fun h => by have h : (0 : Int) = 131 := h; exact absurd h (by decide)⟩
    · dsimp only [kP]
      rw [HL.out, show ((k1 - 1 : Nat) : Int) = (k1 : Int) - 1 by omega]
      exact hS3.sb (by (repeat (first | with_reducible exact Sb.refl | (with_reducible refine Sb.take (by (repeat (with_reducible first | exact Rem.hd | apply Rem.tl)); done) ?_))))
    · show k1 - 1 = (S.map opW).sum
      have := HO.out; omega
    · show S.length ≤ 200000; omega
    · show o1.length + S.length ≤ 400000; omega
    · show k1 - 1 ≤ 64; omega
  · go_enter Tryz.func48, Tryz.ntmps48
    go_upto_region 2 with (go_at_call 50; refine (IR _ h).mono ?_; clear h IR; rintro e w ⟨rfl, hm, h⟩)
    obtain ⟨ad1, c1, ad2, c2, hS⟩ := h
    simp only [List.length_cons, stC, wtN] at hS
    have hl := hm.2.1
    simp only [List.length_cons] at hl
    obtain ⟨V0, V1, V2, V3, V4⟩ := kH (a := .int .i64 4) (b := .int .i64 0) (c := .int .i64 n) (kn S)
    have T1 := fun w hS => top1 B ad1 S.length c1 (by omega) (.slice ad2 o1.length c2) k1 nds 4 0 n (stC S) (kn S) w0 w (own 50 2 ad2 o1.length c2 (Fs o1) :: R) hS
    have SH : ∀ w, Sat w0 w (blk B 92 [.slice ad1 (S.length + 1) c1, .slice ad2 o1.length c2, .int .i64 k1, .int .i64 nds] :: own 100 3 ad1 (S.length + 1) c1 (stC S ++ [.int .i64 4, .int .i64 0, .int .i64 n]) :: own 50 2 ad2 o1.length c2 (Fs o1) :: R) → MSt w0 w R B ⟨.ite n :: S, o1, k1, nds⟩ := fun w hS => ⟨_, _, _, _, hS⟩
    have hli : (S.length : Int) ≤ 200000 := by omega
    have NNA := hS.ownNN (ye yf) (by omega)
    obtain ⟨s1, s2⟩ := hm.settle
    have SM := fun w h => jL B (.ite n) S o1 k1 nds (by intro h; cases h) s1 hm.2.2.2.1 (by omega) (by have := hm.2.2.1; simp at this; omega) w0 w R h
    clear V0 V1 V3 V4
    by_cases hn : n = 2
    · have hn2 : ((n : Int) == 2) = true := by simp; omega
      have HNN := hid hn
      clear hn
      go_upto_region 7 with (first|((with_reducible apply Cont.intro);(focus (apply Or.inr;apply (Sat.sb hS);(repeat (with_reducible exact Sb.refl));done));intro hR hC)|((first|((with_reducible apply yc (i := 0));(simp only [q4,q6,q5];with_reducible rfl);kernel_rfl;kernel_rfl;decide +kernel;rfl;exact hC;exact (fun _ _ _ h => h);exact hR;with_reducible exact ya)|((with_reducible apply yc (i := 2));(simp only [q4,q6,q5];with_reducible rfl);kernel_rfl;kernel_rfl;decide +kernel;rfl;exact hC;exact (fun _ _ _ h => h);exact hR;with_reducible exact ya)|((with_reducible apply yc (i := 3));(simp only [q4,q6,q5];with_reducible rfl);kernel_rfl;kernel_rfl;decide +kernel;rfl;exact hC;exact (fun _ _ _ h => h);exact hR;with_reducible exact ya)|((with_reducible apply yc (i := 4));(simp only [q4,q6,q5];with_reducible rfl);kernel_rfl;kernel_rfl;decide +kernel;rfl;exact hC;exact (fun _ _ _ h => h);exact hR;exact yg rfl rfl)|((with_reducible apply yc (i := 5));(simp only [q4,q6,q5];with_reducible rfl);kernel_rfl;kernel_rfl;decide +kernel;rfl;exact hC;exact (fun _ _ _ h => h);exact hR;exact yg rfl rfl)|((with_reducible apply yc (i := 8));(simp only [q4,q6,q5];with_reducible rfl);kernel_rfl;kernel_rfl;decide +kernel;rfl;exact hC;exact (fun _ _ _ h => h);exact hR;exact yg rfl rfl)|((with_reducible apply yc (i := 9));(simp only [q4,q6,q5];with_reducible rfl);kernel_rfl;kernel_rfl;decide +kernel;rfl;exact hC;exact (fun _ _ _ h => h);exact hR;exact yg rfl rfl)|((with_reducible apply yc (i := 12));(simp only [q4,q6,q5];with_reducible rfl);kernel_rfl;kernel_rfl;decide +kernel;rfl;exact hC;exact (fun _ _ _ h => h);exact hR;exact yg rfl rfl)|((with_reducible apply yc (i := 13));(simp only [q4,q6,q5];with_reducible rfl);kernel_rfl;kernel_rfl;decide +kernel;rfl;exact hC;exact (fun _ _ _ h => h);exact hR;exact yg rfl rfl)|((with_reducible apply yc (i := 17));(simp only [q4,q6,q5];with_reducible rfl);kernel_rfl;kernel_rfl;decide +kernel;rfl;exact hC;exact (fun _ _ _ h => h);exact hR;exact yg rfl rfl)|((with_reducible apply yc (i := 18));(simp only [q4,q6,q5];with_reducible rfl);kernel_rfl;kernel_rfl;decide +kernel;rfl;exact hC;exact (fun _ _ _ h => h);exact hR;with_reducible exact ya));(intro w;first|(go_simp;done)|(go_simp;rw [yw (by omega) (by omega)])|(go_simp;with_reducible rfl)|(go_simp;rfl));(clear hR hC;intro hR hC);(try simp only [Act.put,q1,q2,q3]))|((first|((with_reducible apply yc (i := 6));(simp only [q4,q6,q5];with_reducible rfl);kernel_rfl;kernel_rfl;decide +kernel;rfl;exact hC;exact (fun _ _ _ h => h);exact hR;exact yg rfl rfl)|((with_reducible apply yc (i := 10));(simp only [q4,q6,q5];with_reducible rfl);kernel_rfl;kernel_rfl;decide +kernel;rfl;exact hC;exact (fun _ _ _ h => h);exact hR;exact yg rfl rfl)|((with_reducible apply yc (i := 15));(simp only [q4,q6,q5];with_reducible rfl);kernel_rfl;kernel_rfl;decide +kernel;rfl;exact hC;exact (fun _ _ _ h => h);exact hR;exact yg rfl rfl));(intro w;first|(exact yX rfl (by (exact yb rfl)) (by assumption) (by with_reducible exact fo100_2))|(go_simp;done)|(go_simp;rw [yw (by omega) (by omega)])|(go_simp;with_reducible rfl)|(go_simp;rfl));(clear hR hC;intro hR hC);(try simp only [Act.put,q1,q2,q3]))|(((with_reducible apply yc (i := 14));(simp only [q4,q6,q5];with_reducible rfl);kernel_rfl;kernel_rfl;decide +kernel;rfl;exact hC;exact (fun _ _ _ h => h);exact hR;exact yg rfl rfl);(intro w;first|(with_reducible exact yG E22 rfl (by (exact yh)) (by (exact yh)) (by (omega)) (by (omega)) (by (assumption)) (by (rfl)))|(with_reducible exact yG E90 rfl (by (exact yb rfl)) (by (exact yb rfl)) (by (omega)) (by (omega)) (by (exact hS.ownNN (by (repeat (with_reducible first|exact yf|apply ye))) (by omega))) (by (simp only [Int.toNat_natCast, Nat.mul_one, Nat.zero_add, Yc, yL, yJ, yP, Yb, yQ, yK];rfl)))|(go_simp;done)|(go_simp;rw [yw (by omega) (by omega)])|(go_simp;with_reducible rfl));(clear hR hC;intro hR hC);(try simp only [Act.put,q1,q2,q3]))|((first|((with_reducible apply yj (i := 7));(simp only [q4,q6,q5];with_reducible rfl);kernel_rfl;kernel_rfl;decide +kernel;kernel_rfl;rfl;exact hC;exact (fun _ _ _ h => h);exact hR;kernel_rfl;exact yg rfl rfl)|((with_reducible apply yj (i := 11));(simp only [q4,q6,q5];with_reducible rfl);kernel_rfl;kernel_rfl;decide +kernel;kernel_rfl;rfl;exact hC;exact (fun _ _ _ h => h);exact hR;kernel_rfl;exact yg rfl rfl)|((with_reducible apply yj (i := 16));(simp only [q4,q6,q5];with_reducible rfl);kernel_rfl;kernel_rfl;decide +kernel;kernel_rfl;rfl;exact hC;exact (fun _ _ _ h => h);exact hR;kernel_rfl;exact yg rfl rfl));(intro w hS;(apply ym rfl (by (exact yb rfl)));first|exact yd (by decide +kernel) (hS.cell (by (repeat (with_reducible first|exact yf|apply ye))) rfl)|exact yd (by decide +kernel) ((hS.ownCell (by (repeat (with_reducible first|exact yf|apply ye))) (by (assumption))).1)|exact yd (by decide +kernel) (Sat.rdCell2 (by assumption) hS (by ((repeat (with_reducible apply ye)));try assumption) (by (rfl)))|exact yd (by decide +kernel) (hS.baseCell (by ((repeat (with_reducible apply ye)));try assumption) (by assumption))|exact yd (by decide +kernel) (fzC (by assumption) hS (by ((repeat (with_reducible apply ye)));try assumption))|exact yp hS (by assumption) (by ((repeat (with_reducible apply ye)));try assumption) (by assumption) (by rfl) (by with_reducible exact sz50) (by decide +kernel) (by decide)|exact hS.loadWhole (by (repeat (with_reducible apply ye))) (by kernel_rfl) (by kernel_rfl));(clear hR hC;intro hR hC);(try simp only [Act.put,q1,q2,q3]))|((with_reducible apply yn (i := 1));(simp only [q4,q6,q5];with_reducible rfl);decide +kernel;exact hC;clear hR hC)|((with_reducible apply yq);decide +kernel;clear hR hC)|(refine yz 6 19 hS (by kernel_rfl) [] rfl ?_;clear hS;intro w hS hR hC)|(go_at_call 51;refine (T1 _ hS).mono ?_;clear hS;rintro e w ⟨rfl, hS⟩))
      have h := SH _ hS
      clear hS SH T1 V2
      go_wp2_with (go_at_call 90; refine (SM _ h).mono ?_; clear h; rintro e w ⟨rfl, h⟩)
      go_ret
      have e : kP nds (.ite n :: S, o1, k1) = (0, ⟨S, o1 ++ [(11, 0)], k1 - 1, nds⟩) := by simp only [kP]; rw [if_pos HNN.out]
      rw [e]
      exact ⟨rfl, fun _ => ⟨h, s2⟩, fun h => by have h : (0 : Int) = 131 := h; exact absurd h (by decide)⟩
    · have hn2 : ((n : Int) == 2) = false := by simp; omega
      have HNN := hid hn
      clear hn
      go_wp2_with (first|((with_reducible apply Cont.intro);(focus (apply Or.inr;apply (Sat.sb hS);(repeat (with_reducible exact Sb.refl));done));intro hR hC)|((first|((with_reducible apply yc (i := 0));(simp only [q4,q6,q5];with_reducible rfl);kernel_rfl;kernel_rfl;decide +kernel;rfl;exact hC;exact (fun _ _ _ h => h);exact hR;with_reducible exact ya)|((with_reducible apply yc (i := 2));(simp only [q4,q6,q5];with_reducible rfl);kernel_rfl;kernel_rfl;decide +kernel;rfl;exact hC;exact (fun _ _ _ h => h);exact hR;with_reducible exact ya)|((with_reducible apply yc (i := 3));(simp only [q4,q6,q5];with_reducible rfl);kernel_rfl;kernel_rfl;decide +kernel;rfl;exact hC;exact (fun _ _ _ h => h);exact hR;with_reducible exact ya)|((with_reducible apply yc (i := 4));(simp only [q4,q6,q5];with_reducible rfl);kernel_rfl;kernel_rfl;decide +kernel;rfl;exact hC;exact (fun _ _ _ h => h);exact hR;exact yg rfl rfl)|((with_reducible apply yc (i := 5));(simp only [q4,q6,q5];with_reducible rfl);kernel_rfl;kernel_rfl;decide +kernel;rfl;exact hC;exact (fun _ _ _ h => h);exact hR;exact yg rfl rfl)|((with_reducible apply yc (i := 8));(simp only [q4,q6,q5];with_reducible rfl);kernel_rfl;kernel_rfl;decide +kernel;rfl;exact hC;exact (fun _ _ _ h => h);exact hR;exact yg rfl rfl)|((with_reducible apply yc (i := 9));(simp only [q4,q6,q5];with_reducible rfl);kernel_rfl;kernel_rfl;decide +kernel;rfl;exact hC;exact (fun _ _ _ h => h);exact hR;exact yg rfl rfl)|((with_reducible apply yc (i := 12));(simp only [q4,q6,q5];with_reducible rfl);kernel_rfl;kernel_rfl;decide +kernel;rfl;exact hC;exact (fun _ _ _ h => h);exact hR;exact yg rfl rfl)|((with_reducible apply yc (i := 13));(simp only [q4,q6,q5];with_reducible rfl);kernel_rfl;kernel_rfl;decide +kernel;rfl;exact hC;exact (fun _ _ _ h => h);exact hR;exact yg rfl rfl)|((with_reducible apply yc (i := 17));(simp only [q4,q6,q5];with_reducible rfl);kernel_rfl;kernel_rfl;decide +kernel;rfl;exact hC;exact (fun _ _ _ h => h);exact hR;exact yg rfl rfl)|((with_reducible apply yc (i := 18));(simp only [q4,q6,q5];with_reducible rfl);kernel_rfl;kernel_rfl;decide +kernel;rfl;exact hC;exact (fun _ _ _ h => h);exact hR;with_reducible exact ya));(intro w;first|(go_simp;done)|(go_simp;rw [yw (by omega) (by omega)])|(go_simp;with_reducible rfl)|(go_simp;rfl));(clear hR hC;intro hR hC);(try simp only [Act.put,q1,q2,q3]))|((first|((with_reducible apply yc (i := 6));(simp only [q4,q6,q5];with_reducible rfl);kernel_rfl;kernel_rfl;decide +kernel;rfl;exact hC;exact (fun _ _ _ h => h);exact hR;exact yg rfl rfl)|((with_reducible apply yc (i := 10));(simp only [q4,q6,q5];with_reducible rfl);kernel_rfl;kernel_rfl;decide +kernel;rfl;exact hC;exact (fun _ _ _ h => h);exact hR;exact yg rfl rfl)|((with_reducible apply yc (i := 15));(simp only [q4,q6,q5];with_reducible rfl);kernel_rfl;kernel_rfl;decide +kernel;rfl;exact hC;exact (fun _ _ _ h => h);exact hR;exact yg rfl rfl));(intro w;first|(exact yX rfl (by (exact yb rfl)) (by assumption) (by with_reducible exact fo100_2))|(go_simp;done)|(go_simp;rw [yw (by omega) (by omega)])|(go_simp;with_reducible rfl)|(go_simp;rfl));(clear hR hC;intro hR hC);(try simp only [Act.put,q1,q2,q3]))|(((with_reducible apply yc (i := 14));(simp only [q4,q6,q5];with_reducible rfl);kernel_rfl;kernel_rfl;decide +kernel;rfl;exact hC;exact (fun _ _ _ h => h);exact hR;exact yg rfl rfl);(intro w;first|(with_reducible exact yG E22 rfl (by (exact yh)) (by (exact yh)) (by (omega)) (by (omega)) (by (assumption)) (by (rfl)))|(with_reducible exact yG E90 rfl (by (exact yb rfl)) (by (exact yb rfl)) (by (omega)) (by (omega)) (by (exact hS.ownNN (by (repeat (with_reducible first|exact yf|apply ye))) (by omega))) (by (simp only [Int.toNat_natCast, Nat.mul_one, Nat.zero_add, Yc, yL, yJ, yP, Yb, yQ, yK];rfl)))|(go_simp;done)|(go_simp;rw [yw (by omega) (by omega)])|(go_simp;with_reducible rfl));(clear hR hC;intro hR hC);(try simp only [Act.put,q1,q2,q3]))|((first|((with_reducible apply yj (i := 7));(simp only [q4,q6,q5];with_reducible rfl);kernel_rfl;kernel_rfl;decide +kernel;kernel_rfl;rfl;exact hC;exact (fun _ _ _ h => h);exact hR;kernel_rfl;exact yg rfl rfl)|((with_reducible apply yj (i := 11));(simp only [q4,q6,q5];with_reducible rfl);kernel_rfl;kernel_rfl;decide +kernel;kernel_rfl;rfl;exact hC;exact (fun _ _ _ h => h);exact hR;kernel_rfl;exact yg rfl rfl)|((with_reducible apply yj (i := 16));(simp only [q4,q6,q5];with_reducible rfl);kernel_rfl;kernel_rfl;decide +kernel;kernel_rfl;rfl;exact hC;exact (fun _ _ _ h => h);exact hR;kernel_rfl;exact yg rfl rfl));(intro w hS;(apply ym rfl (by (exact yb rfl)));first|exact yd (by decide +kernel) (hS.cell (by (repeat (with_reducible first|exact yf|apply ye))) rfl)|exact yd (by decide +kernel) ((hS.ownCell (by (repeat (with_reducible first|exact yf|apply ye))) (by (assumption))).1)|exact yd (by decide +kernel) (Sat.rdCell2 (by assumption) hS (by ((repeat (with_reducible apply ye)));try assumption) (by (rfl)))|exact yd (by decide +kernel) (hS.baseCell (by ((repeat (with_reducible apply ye)));try assumption) (by assumption))|exact yd (by decide +kernel) (fzC (by assumption) hS (by ((repeat (with_reducible apply ye)));try assumption))|exact yp hS (by assumption) (by ((repeat (with_reducible apply ye)));try assumption) (by assumption) (by rfl) (by with_reducible exact sz50) (by decide +kernel) (by decide)|exact hS.loadWhole (by (repeat (with_reducible apply ye))) (by kernel_rfl) (by kernel_rfl));(clear hR hC;intro hR hC);(try simp only [Act.put,q1,q2,q3]))|((with_reducible apply yn (i := 1));(simp only [q4,q6,q5];with_reducible rfl);decide +kernel;exact hC;clear hR hC)|((with_reducible apply yq);decide +kernel;clear hR hC)|(refine yz 6 19 hS (by kernel_rfl) [] rfl ?_;clear hS;intro w hS hR hC)|(go_at_call 51;refine (T1 _ hS).mono ?_;clear hS;rintro e w ⟨rfl, hS⟩))
      have h := SH _ hS
      go_ret
      have e : kP nds (.ite n :: S, o1, k1) = (131, ⟨[], [], 0, 0⟩) := by simp only [kP]; rw [if_neg HNN.out]
      rw [e]
      exact ⟨rfl, fun h => by have h : (131 : Int) = 0 := h; exact absurd h (by decide), fun _ => ⟨_, h⟩⟩
end
end Go.Proofs.YthackanffcaejaaGreatDoor
