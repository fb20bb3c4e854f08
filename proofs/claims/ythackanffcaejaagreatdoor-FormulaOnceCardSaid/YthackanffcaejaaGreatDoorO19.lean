/- A part of the proof: Rx7 Rd6 Arg Tab Row. -/
import Derived.Test.YthackanffcaejaaGreatDoorO1
import Derived.Test.YthackanffcaejaaGreatDoorO3
import Derived.Test.YthackanffcaejaaGreatDoorO14
import Derived.Test.YthackanffcaejaaGreatDoorO18
import Derived.ChangeArms
import Derived.ChangeSlices
import Derived.WideShapes
import Derived.SizedLaws
import Derived.Lib.LaidU8
import Derived.Lay
import Derived.MakeChecks
import Derived.ChangeBears2
import Derived.WalkKit
import Derived.ProofKit
import Derived.OpenShut
import Derived.Deep.DeepHandedRow
import Derived.Lib.LaidTab
set_option linter.unusedSimpArgs false
set_option linter.unusedVariables false
set_option linter.unusedSectionVars false
namespace Go.Proofs.YthackanffcaejaaGreatDoor
section
set_option maxRecDepth 20000
open Go Go.RowKit Go.SL Go.ClauseP Go.LexP
-- ACT2

theorem set_top {xs : List Value} {l : Nat} {a b c v : Value} (h : xs.length = l * 3) : (xs ++ [a, b, c]).set (l * 3 + 2) v = xs ++ [a, b, v] := by
  rw [List.set_append_right _ _ (by omega), h]
  simp
def kT (nds : Nat) : List Wt × List (Int × Int) × Nat → Int × MS
  | (.ite n :: s, o, k) => if 2 ≤ n then (131, ⟨[], [], 0, 0⟩) else (0, ⟨.ite (n + 1) :: s, o, k, nds⟩)
  | _ => (131, ⟨[], [], 0, 0⟩)
set_option maxHeartbeats 8000000 in
theorem commaR (B : Nat) (st : List Wt) (out : List (Int × Int)) (opn nds : Nat) (hm : MOk ⟨st, out, opn, nds⟩) (w0 w : World) (R : List HP) (h : MSt w0 w R B ⟨st, out, opn, nds⟩) :
    Calls Tryz.prog 49 #[.pointer (some ⟨B, 0, none⟩)] w fun e w' => e = .returned (.int .i64 (kT nds (Yd st out opn)).1) ∧
      ((kT nds (Yd st out opn)).1 = 0 → MSt w0 w' R B (kT nds (Yd st out opn)).2 ∧ MOk (kT nds (Yd st out opn)).2) ∧ ((kT nds (Yd st out opn)).1 = 131 → ∃ m', MSt w0 w' R B m') := by
  have IR := fun w h => XT B ⟨st, out, opn, nds⟩ hm w0 w R h
  have hsh := Kn st out opn
  dsimp only at IR
  generalize hrs : Yd st out opn = rs at *
  obtain ⟨S1, o1, k1⟩ := rs
  clear hrs hm
  dsimp only at IR hsh
  rcases hsh with rfl | ⟨S, rfl⟩ | ⟨n, S, rfl⟩
  · go_enter Tryz.func49, Tryz.ntmps49
    go_upto_region 2 with (go_at_call 50; refine (IR _ h).mono ?_; clear h IR; rintro e w ⟨rfl, hm, h⟩)
    obtain ⟨ad1, c1, ad2, c2, hS⟩ := h
    simp only [List.length_nil] at hS
    have T0 := fun w hS => top0 B ad1 c1 (.slice ad2 o1.length c2) k1 nds w0 w (own 100 3 ad1 0 c1 (stC []) :: own 50 2 ad2 o1.length c2 (Fs o1) :: R) hS
    go_wp2_with (first|((with_reducible apply Cont.intro);(focus (apply Or.inr;apply (Sat.sb hS);(repeat (with_reducible exact Sb.refl));done));intro hR hC)|((first|((with_reducible apply yc (i := 0));(simp only [q4,q6,q5];with_reducible rfl);kernel_rfl;kernel_rfl;decide +kernel;rfl;exact hC;exact (fun _ _ _ h => h);exact hR;with_reducible exact ya)|((with_reducible apply yc (i := 2));(simp only [q4,q6,q5];with_reducible rfl);kernel_rfl;kernel_rfl;decide +kernel;rfl;exact hC;exact (fun _ _ _ h => h);exact hR;with_reducible exact ya)|((with_reducible apply yc (i := 3));(simp only [q4,q6,q5];with_reducible rfl);kernel_rfl;kernel_rfl;decide +kernel;rfl;exact hC;exact (fun _ _ _ h => h);exact hR;with_reducible exact ya)|((with_reducible apply yc (i := 18));(simp only [q4,q6,q5];with_reducible rfl);kernel_rfl;kernel_rfl;decide +kernel;rfl;exact hC;exact (fun _ _ _ h => h);exact hR;with_reducible exact ya));(intro w;first|(go_simp;done)|(go_simp;rw [yw (by omega) (by omega)])|(go_simp;with_reducible rfl)|(go_simp;rfl));(clear hR hC;intro hR hC);(try simp only [Act.put,q1,q2,q3]))|((first|((with_reducible apply yy (i := 4));(simp only [q4,q6,q5];with_reducible rfl);kernel_rfl;kernel_rfl;decide +kernel;rfl;exact hC;exact (fun _ _ _ h => h);exact hR;(exact yr rfl rfl))|((with_reducible apply yy (i := 5));(simp only [q4,q6,q5];with_reducible rfl);kernel_rfl;kernel_rfl;decide +kernel;rfl;exact hC;exact (fun _ _ _ h => h);exact hR;(exact yr rfl rfl))|((with_reducible apply yy (i := 6));(simp only [q4,q6,q5];with_reducible rfl);kernel_rfl;kernel_rfl;decide +kernel;rfl;exact hC;exact (fun _ _ _ h => h);exact hR;(exact yr rfl rfl))|((with_reducible apply yy (i := 7));(simp only [q4,q6,q5];with_reducible rfl);kernel_rfl;kernel_rfl;decide +kernel;rfl;exact hC;exact (fun _ _ _ h => h);exact hR;(exact yr rfl rfl))|((with_reducible apply yy (i := 8));(simp only [q4,q6,q5];with_reducible rfl);kernel_rfl;kernel_rfl;decide +kernel;rfl;exact hC;exact (fun _ _ _ h => h);exact hR;(exact yr rfl rfl))|((with_reducible apply yy (i := 9));(simp only [q4,q6,q5];with_reducible rfl);kernel_rfl;kernel_rfl;decide +kernel;rfl;exact hC;exact (fun _ _ _ h => h);exact hR;(exact yr rfl rfl))|((with_reducible apply yy (i := 10));(simp only [q4,q6,q5];with_reducible rfl);kernel_rfl;kernel_rfl;decide +kernel;rfl;exact hC;exact (fun _ _ _ h => h);exact hR;(exact yr rfl rfl))|((with_reducible apply yy (i := 11));(simp only [q4,q6,q5];with_reducible rfl);kernel_rfl;kernel_rfl;decide +kernel;rfl;exact hC;exact (fun _ _ _ h => h);exact hR;(exact yr rfl rfl))|((with_reducible apply yy (i := 12));(simp only [q4,q6,q5];with_reducible rfl);kernel_rfl;kernel_rfl;decide +kernel;rfl;exact hC;exact (fun _ _ _ h => h);exact hR;(exact yr rfl rfl))|((with_reducible apply yy (i := 13));(simp only [q4,q6,q5];with_reducible rfl);kernel_rfl;kernel_rfl;decide +kernel;rfl;exact hC;exact (fun _ _ _ h => h);exact hR;(exact yr rfl rfl))|((with_reducible apply yy (i := 14));(simp only [q4,q6,q5];with_reducible rfl);kernel_rfl;kernel_rfl;decide +kernel;rfl;exact hC;exact (fun _ _ _ h => h);exact hR;(exact yr rfl rfl))|((with_reducible apply yy (i := 15));(simp only [q4,q6,q5];with_reducible rfl);kernel_rfl;kernel_rfl;decide +kernel;rfl;exact hC;exact (fun _ _ _ h => h);exact hR;(exact yr rfl rfl))|((with_reducible apply yy (i := 16));(simp only [q4,q6,q5];with_reducible rfl);kernel_rfl;kernel_rfl;decide +kernel;rfl;exact hC;exact (fun _ _ _ h => h);exact hR;(exact yr rfl rfl))|((with_reducible apply yy (i := 17));(simp only [q4,q6,q5];with_reducible rfl);kernel_rfl;kernel_rfl;decide +kernel;rfl;exact hC;exact (fun _ _ _ h => h);exact hR;(exact yr rfl rfl)));(clear hR hC;intro hR hC);(try simp only [Act.put,q1,q2,q3]))|((with_reducible apply yn (i := 1));(simp only [q4,q6,q5];with_reducible rfl);decide +kernel;exact hC;clear hR hC)|((with_reducible apply yq);decide +kernel;clear hR hC)|(refine yz 2 19 hS (by kernel_rfl) [] rfl ?_;clear hS;intro w hS hR hC)|(go_at_call 51;refine (T0 _ hS).mono ?_;clear hS;rintro e w ⟨rfl, hS⟩))
    go_ret
    exact ⟨rfl, fun h => by have h : (131 : Int) = 0 := h; exact absurd h (by decide), fun _ => ⟨⟨[], o1, k1, nds⟩, ad1, c1, ad2, c2, hS⟩⟩
  · go_enter Tryz.func49, Tryz.ntmps49
    go_upto_region 2 with (go_at_call 50; refine (IR _ h).mono ?_; clear h IR; rintro e w ⟨rfl, hm, h⟩)
    obtain ⟨ad1, c1, ad2, c2, hS⟩ := h
    simp only [List.length_cons, stC, wtN] at hS
    have hl := hm.2.1
    simp only [List.length_cons] at hl
    have T1 := fun w hS => top1 B ad1 S.length c1 (by omega) (.slice ad2 o1.length c2) k1 nds 3 0 0 (stC S) (kn S) w0 w (own 50 2 ad2 o1.length c2 (Fs o1) :: R) hS
    go_wp2_with (first|((with_reducible apply Cont.intro);(focus (apply Or.inr;apply (Sat.sb hS);(repeat (with_reducible exact Sb.refl));done));intro hR hC)|((first|((with_reducible apply yc (i := 0));(simp only [q4,q6,q5];with_reducible rfl);kernel_rfl;kernel_rfl;decide +kernel;rfl;exact hC;exact (fun _ _ _ h => h);exact hR;with_reducible exact ya)|((with_reducible apply yc (i := 2));(simp only [q4,q6,q5];with_reducible rfl);kernel_rfl;kernel_rfl;decide +kernel;rfl;exact hC;exact (fun _ _ _ h => h);exact hR;with_reducible exact ya)|((with_reducible apply yc (i := 3));(simp only [q4,q6,q5];with_reducible rfl);kernel_rfl;kernel_rfl;decide +kernel;rfl;exact hC;exact (fun _ _ _ h => h);exact hR;with_reducible exact ya)|((with_reducible apply yc (i := 18));(simp only [q4,q6,q5];with_reducible rfl);kernel_rfl;kernel_rfl;decide +kernel;rfl;exact hC;exact (fun _ _ _ h => h);exact hR;with_reducible exact ya));(intro w;first|(go_simp;done)|(go_simp;rw [yw (by omega) (by omega)])|(go_simp;with_reducible rfl)|(go_simp;rfl));(clear hR hC;intro hR hC);(try simp only [Act.put,q1,q2,q3]))|((first|((with_reducible apply yy (i := 4));(simp only [q4,q6,q5];with_reducible rfl);kernel_rfl;kernel_rfl;decide +kernel;rfl;exact hC;exact (fun _ _ _ h => h);exact hR;(exact yr rfl rfl))|((with_reducible apply yy (i := 5));(simp only [q4,q6,q5];with_reducible rfl);kernel_rfl;kernel_rfl;decide +kernel;rfl;exact hC;exact (fun _ _ _ h => h);exact hR;(exact yr rfl rfl))|((with_reducible apply yy (i := 6));(simp only [q4,q6,q5];with_reducible rfl);kernel_rfl;kernel_rfl;decide +kernel;rfl;exact hC;exact (fun _ _ _ h => h);exact hR;(exact yr rfl rfl))|((with_reducible apply yy (i := 7));(simp only [q4,q6,q5];with_reducible rfl);kernel_rfl;kernel_rfl;decide +kernel;rfl;exact hC;exact (fun _ _ _ h => h);exact hR;(exact yr rfl rfl))|((with_reducible apply yy (i := 8));(simp only [q4,q6,q5];with_reducible rfl);kernel_rfl;kernel_rfl;decide +kernel;rfl;exact hC;exact (fun _ _ _ h => h);exact hR;(exact yr rfl rfl))|((with_reducible apply yy (i := 9));(simp only [q4,q6,q5];with_reducible rfl);kernel_rfl;kernel_rfl;decide +kernel;rfl;exact hC;exact (fun _ _ _ h => h);exact hR;(exact yr rfl rfl))|((with_reducible apply yy (i := 10));(simp only [q4,q6,q5];with_reducible rfl);kernel_rfl;kernel_rfl;decide +kernel;rfl;exact hC;exact (fun _ _ _ h => h);exact hR;(exact yr rfl rfl))|((with_reducible apply yy (i := 11));(simp only [q4,q6,q5];with_reducible rfl);kernel_rfl;kernel_rfl;decide +kernel;rfl;exact hC;exact (fun _ _ _ h => h);exact hR;(exact yr rfl rfl))|((with_reducible apply yy (i := 12));(simp only [q4,q6,q5];with_reducible rfl);kernel_rfl;kernel_rfl;decide +kernel;rfl;exact hC;exact (fun _ _ _ h => h);exact hR;(exact yr rfl rfl))|((with_reducible apply yy (i := 13));(simp only [q4,q6,q5];with_reducible rfl);kernel_rfl;kernel_rfl;decide +kernel;rfl;exact hC;exact (fun _ _ _ h => h);exact hR;(exact yr rfl rfl))|((with_reducible apply yy (i := 14));(simp only [q4,q6,q5];with_reducible rfl);kernel_rfl;kernel_rfl;decide +kernel;rfl;exact hC;exact (fun _ _ _ h => h);exact hR;(exact yr rfl rfl))|((with_reducible apply yy (i := 15));(simp only [q4,q6,q5];with_reducible rfl);kernel_rfl;kernel_rfl;decide +kernel;rfl;exact hC;exact (fun _ _ _ h => h);exact hR;(exact yr rfl rfl))|((with_reducible apply yy (i := 16));(simp only [q4,q6,q5];with_reducible rfl);kernel_rfl;kernel_rfl;decide +kernel;rfl;exact hC;exact (fun _ _ _ h => h);exact hR;(exact yr rfl rfl))|((with_reducible apply yy (i := 17));(simp only [q4,q6,q5];with_reducible rfl);kernel_rfl;kernel_rfl;decide +kernel;rfl;exact hC;exact (fun _ _ _ h => h);exact hR;(exact yr rfl rfl)));(clear hR hC;intro hR hC);(try simp only [Act.put,q1,q2,q3]))|((with_reducible apply yn (i := 1));(simp only [q4,q6,q5];with_reducible rfl);decide +kernel;exact hC;clear hR hC)|((with_reducible apply yq);decide +kernel;clear hR hC)|(refine yz 2 19 hS (by kernel_rfl) [] rfl ?_;clear hS;intro w hS hR hC)|(go_at_call 51;refine (T1 _ hS).mono ?_;clear hS;rintro e w ⟨rfl, hS⟩))
    go_ret
    exact ⟨rfl, fun h => by have h : (131 : Int) = 0 := h; exact absurd h (by decide), fun _ => ⟨⟨.opn :: S, o1, k1, nds⟩, ad1, c1, ad2, c2, hS⟩⟩
  · go_enter Tryz.func49, Tryz.ntmps49
    go_upto_region 2 with (go_at_call 50; refine (IR _ h).mono ?_; clear h IR; rintro e w ⟨rfl, hm, h⟩)
    obtain ⟨ad1, c1, ad2, c2, hS⟩ := h
    simp only [List.length_cons, stC, wtN] at hS
    have hl := hm.2.1
    simp only [List.length_cons] at hl
    obtain ⟨V0, V1, V2, V3, V4⟩ := kH (a := .int .i64 4) (b := .int .i64 0) (c := .int .i64 n) (kn S)
    have T1 := fun w hS => top1 B ad1 S.length c1 (by omega) (.slice ad2 o1.length c2) k1 nds 4 0 n (stC S) (kn S) w0 w (own 50 2 ad2 o1.length c2 (Fs o1) :: R) hS
    have hli : (S.length : Int) ≤ 200000 := by omega
    have NNA := hS.ownNN (ye yf) (by omega)
    have HM := hid hm
    have hset := set_top (a := .int .i64 4) (b := .int .i64 0) (c := .int .i64 n) (v := .int .i64 ((n : Int) + 1)) (kn S)
    have HSET := hid hset
    have hlen : (stC S ++ ([.int .i64 4, .int .i64 0, .int .i64 (n : Int)] : List Value)).length = S.length * 3 + 3 := by simp [kn]
    clear V0 V1 V3 V4 hm hset
    by_cases hn : 2 ≤ n
    · have hn2 : (2 : Int) ≤ (n : Int) := by omega
      have hn3 : decide ((n : Int) ≥ 2) = true := by simp; omega
      have HNN := hid hn
      clear hn hlen
      go_wp2_with (first|((with_reducible apply Cont.intro);(focus (apply Or.inr;apply (Sat.sb hS);(repeat (with_reducible exact Sb.refl));done));intro hR hC)|((first|((with_reducible apply yc (i := 0));(simp only [q4,q6,q5];with_reducible rfl);kernel_rfl;kernel_rfl;decide +kernel;rfl;exact hC;exact (fun _ _ _ h => h);exact hR;with_reducible exact ya)|((with_reducible apply yc (i := 2));(simp only [q4,q6,q5];with_reducible rfl);kernel_rfl;kernel_rfl;decide +kernel;rfl;exact hC;exact (fun _ _ _ h => h);exact hR;with_reducible exact ya)|((with_reducible apply yc (i := 3));(simp only [q4,q6,q5];with_reducible rfl);kernel_rfl;kernel_rfl;decide +kernel;rfl;exact hC;exact (fun _ _ _ h => h);exact hR;with_reducible exact ya)|((with_reducible apply yc (i := 4));(simp only [q4,q6,q5];with_reducible rfl);kernel_rfl;kernel_rfl;decide +kernel;rfl;exact hC;exact (fun _ _ _ h => h);exact hR;exact yg rfl rfl)|((with_reducible apply yc (i := 5));(simp only [q4,q6,q5];with_reducible rfl);kernel_rfl;kernel_rfl;decide +kernel;rfl;exact hC;exact (fun _ _ _ h => h);exact hR;exact yg rfl rfl)|((with_reducible apply yc (i := 8));(simp only [q4,q6,q5];with_reducible rfl);kernel_rfl;kernel_rfl;decide +kernel;rfl;exact hC;exact (fun _ _ _ h => h);exact hR;exact yg rfl rfl)|((with_reducible apply yc (i := 9));(simp only [q4,q6,q5];with_reducible rfl);kernel_rfl;kernel_rfl;decide +kernel;rfl;exact hC;exact (fun _ _ _ h => h);exact hR;exact yg rfl rfl)|((with_reducible apply yc (i := 12));(simp only [q4,q6,q5];with_reducible rfl);kernel_rfl;kernel_rfl;decide +kernel;rfl;exact hC;exact (fun _ _ _ h => h);exact hR;exact yg rfl rfl)|((with_reducible apply yc (i := 13));(simp only [q4,q6,q5];with_reducible rfl);kernel_rfl;kernel_rfl;decide +kernel;rfl;exact hC;exact (fun _ _ _ h => h);exact hR;exact yg rfl rfl)|((with_reducible apply yc (i := 17));(simp only [q4,q6,q5];with_reducible rfl);kernel_rfl;kernel_rfl;decide +kernel;rfl;exact hC;exact (fun _ _ _ h => h);exact hR;exact yg rfl rfl)|((with_reducible apply yc (i := 18));(simp only [q4,q6,q5];with_reducible rfl);kernel_rfl;kernel_rfl;decide +kernel;rfl;exact hC;exact (fun _ _ _ h => h);exact hR;with_reducible exact ya));(intro w;first|(go_simp;done)|(go_simp;rw [yw (by omega) (by omega)])|(go_simp;with_reducible rfl)|(go_simp;rfl));(clear hR hC;intro hR hC);(try simp only [Act.put,q1,q2,q3]))|((first|((with_reducible apply yc (i := 6));(simp only [q4,q6,q5];with_reducible rfl);kernel_rfl;kernel_rfl;decide +kernel;rfl;exact hC;exact (fun _ _ _ h => h);exact hR;exact yg rfl rfl)|((with_reducible apply yc (i := 10));(simp only [q4,q6,q5];with_reducible rfl);kernel_rfl;kernel_rfl;decide +kernel;rfl;exact hC;exact (fun _ _ _ h => h);exact hR;exact yg rfl rfl)|((with_reducible apply yc (i := 15));(simp only [q4,q6,q5];with_reducible rfl);kernel_rfl;kernel_rfl;decide +kernel;rfl;exact hC;exact (fun _ _ _ h => h);exact hR;exact yg rfl rfl));(intro w;first|(exact yX rfl (by (exact yb rfl)) (by assumption) (by with_reducible exact fo100_2))|(go_simp;done)|(go_simp;rw [yw (by omega) (by omega)])|(go_simp;with_reducible rfl)|(go_simp;rfl));(clear hR hC;intro hR hC);(try simp only [Act.put,q1,q2,q3]))|(((with_reducible apply yc (i := 14));(simp only [q4,q6,q5];with_reducible rfl);kernel_rfl;kernel_rfl;decide +kernel;rfl;exact hC;exact (fun _ _ _ h => h);exact hR;exact yg rfl rfl);(intro w;first|(with_reducible exact yG E22 rfl (by (exact yh)) (by (exact yh)) (by (omega)) (by (omega)) (by (assumption)) (by (rfl)))|(with_reducible exact yG E90 rfl (by (exact yb rfl)) (by (exact yb rfl)) (by (omega)) (by (omega)) (by (exact hS.ownNN (by (repeat (with_reducible first|exact yf|apply ye))) (by omega))) (by (simp only [Int.toNat_natCast, Nat.mul_one, Nat.zero_add, Yc, yL, yJ, yP, Yb, yQ, yK];rfl)))|(go_simp;done)|(go_simp;rw [yw (by omega) (by omega)])|(go_simp;with_reducible rfl));(clear hR hC;intro hR hC);(try simp only [Act.put,q1,q2,q3]))|((first|((with_reducible apply yj (i := 7));(simp only [q4,q6,q5];with_reducible rfl);kernel_rfl;kernel_rfl;decide +kernel;kernel_rfl;rfl;exact hC;exact (fun _ _ _ h => h);exact hR;kernel_rfl;exact yg rfl rfl)|((with_reducible apply yj (i := 11));(simp only [q4,q6,q5];with_reducible rfl);kernel_rfl;kernel_rfl;decide +kernel;kernel_rfl;rfl;exact hC;exact (fun _ _ _ h => h);exact hR;kernel_rfl;exact yg rfl rfl)|((with_reducible apply yj (i := 16));(simp only [q4,q6,q5];with_reducible rfl);kernel_rfl;kernel_rfl;decide +kernel;kernel_rfl;rfl;exact hC;exact (fun _ _ _ h => h);exact hR;kernel_rfl;exact yg rfl rfl));(intro w hS;(apply ym rfl (by (exact yb rfl)));first|exact yd (by decide +kernel) (hS.cell (by (repeat (with_reducible first|exact yf|apply ye))) rfl)|exact yd (by decide +kernel) ((hS.ownCell (by (repeat (with_reducible first|exact yf|apply ye))) (by (assumption))).1)|exact yd (by decide +kernel) (Sat.rdCell2 (by assumption) hS (by ((repeat (with_reducible apply ye)));try assumption) (by (rfl)))|exact yd (by decide +kernel) (hS.baseCell (by ((repeat (with_reducible apply ye)));try assumption) (by assumption))|exact yd (by decide +kernel) (fzC (by assumption) hS (by ((repeat (with_reducible apply ye)));try assumption))|exact yp hS (by assumption) (by ((repeat (with_reducible apply ye)));try assumption) (by assumption) (by rfl) (by with_reducible exact sz50) (by decide +kernel) (by decide)|exact hS.loadWhole (by (repeat (with_reducible apply ye))) (by kernel_rfl) (by kernel_rfl));(clear hR hC;intro hR hC);(try simp only [Act.put,q1,q2,q3]))|((with_reducible apply yn (i := 1));(simp only [q4,q6,q5];with_reducible rfl);decide +kernel;exact hC;clear hR hC)|((with_reducible apply yq);decide +kernel;clear hR hC)|(refine yz 2 19 hS (by kernel_rfl) [] rfl ?_;clear hS;intro w hS hR hC)|(go_at_call 51;refine (T1 _ hS).mono ?_;clear hS;rintro e w ⟨rfl, hS⟩))
      go_ret
      have e : kT nds (.ite n :: S, o1, k1) = (131, ⟨[], [], 0, 0⟩) := by simp only [kT]; rw [if_pos HNN.out]
      rw [e]
      exact ⟨rfl, fun h => by have h : (131 : Int) = 0 := h; exact absurd h (by decide), fun _ => ⟨⟨.ite n :: S, o1, k1, nds⟩, ad1, c1, ad2, c2, hS⟩⟩
    · have hn3 : decide ((n : Int) ≥ 2) = false := by simp; omega
      have hn4 : (n : Int) ≤ 1 := by omega
      have HNN := hid hn
      have HLEN := hid hlen
      clear hn hlen
      go_upto_region 4 with (first|((with_reducible apply Cont.intro);(focus (apply Or.inr;apply (Sat.sb hS);(repeat (with_reducible exact Sb.refl));done));intro hR hC)|((first|((with_reducible apply yc (i := 0));(simp only [q4,q6,q5];with_reducible rfl);kernel_rfl;kernel_rfl;decide +kernel;rfl;exact hC;exact (fun _ _ _ h => h);exact hR;with_reducible exact ya)|((with_reducible apply yc (i := 2));(simp only [q4,q6,q5];with_reducible rfl);kernel_rfl;kernel_rfl;decide +kernel;rfl;exact hC;exact (fun _ _ _ h => h);exact hR;with_reducible exact ya)|((with_reducible apply yc (i := 3));(simp only [q4,q6,q5];with_reducible rfl);kernel_rfl;kernel_rfl;decide +kernel;rfl;exact hC;exact (fun _ _ _ h => h);exact hR;with_reducible exact ya)|((with_reducible apply yc (i := 4));(simp only [q4,q6,q5];with_reducible rfl);kernel_rfl;kernel_rfl;decide +kernel;rfl;exact hC;exact (fun _ _ _ h => h);exact hR;exact yg rfl rfl)|((with_reducible apply yc (i := 5));(simp only [q4,q6,q5];with_reducible rfl);kernel_rfl;kernel_rfl;decide +kernel;rfl;exact hC;exact (fun _ _ _ h => h);exact hR;exact yg rfl rfl)|((with_reducible apply yc (i := 8));(simp only [q4,q6,q5];with_reducible rfl);kernel_rfl;kernel_rfl;decide +kernel;rfl;exact hC;exact (fun _ _ _ h => h);exact hR;exact yg rfl rfl)|((with_reducible apply yc (i := 9));(simp only [q4,q6,q5];with_reducible rfl);kernel_rfl;kernel_rfl;decide +kernel;rfl;exact hC;exact (fun _ _ _ h => h);exact hR;exact yg rfl rfl)|((with_reducible apply yc (i := 12));(simp only [q4,q6,q5];with_reducible rfl);kernel_rfl;kernel_rfl;decide +kernel;rfl;exact hC;exact (fun _ _ _ h => h);exact hR;exact yg rfl rfl)|((with_reducible apply yc (i := 13));(simp only [q4,q6,q5];with_reducible rfl);kernel_rfl;kernel_rfl;decide +kernel;rfl;exact hC;exact (fun _ _ _ h => h);exact hR;exact yg rfl rfl)|((with_reducible apply yc (i := 17));(simp only [q4,q6,q5];with_reducible rfl);kernel_rfl;kernel_rfl;decide +kernel;rfl;exact hC;exact (fun _ _ _ h => h);exact hR;exact yg rfl rfl)|((with_reducible apply yc (i := 18));(simp only [q4,q6,q5];with_reducible rfl);kernel_rfl;kernel_rfl;decide +kernel;rfl;exact hC;exact (fun _ _ _ h => h);exact hR;with_reducible exact ya));(intro w;first|(go_simp;done)|(go_simp;rw [yw (by omega) (by omega)])|(go_simp;with_reducible rfl)|(go_simp;rfl));(clear hR hC;intro hR hC);(try simp only [Act.put,q1,q2,q3]))|((first|((with_reducible apply yc (i := 6));(simp only [q4,q6,q5];with_reducible rfl);kernel_rfl;kernel_rfl;decide +kernel;rfl;exact hC;exact (fun _ _ _ h => h);exact hR;exact yg rfl rfl)|((with_reducible apply yc (i := 10));(simp only [q4,q6,q5];with_reducible rfl);kernel_rfl;kernel_rfl;decide +kernel;rfl;exact hC;exact (fun _ _ _ h => h);exact hR;exact yg rfl rfl)|((with_reducible apply yc (i := 15));(simp only [q4,q6,q5];with_reducible rfl);kernel_rfl;kernel_rfl;decide +kernel;rfl;exact hC;exact (fun _ _ _ h => h);exact hR;exact yg rfl rfl));(intro w;first|(exact yX rfl (by (exact yb rfl)) (by assumption) (by with_reducible exact fo100_2))|(go_simp;done)|(go_simp;rw [yw (by omega) (by omega)])|(go_simp;with_reducible rfl)|(go_simp;rfl));(clear hR hC;intro hR hC);(try simp only [Act.put,q1,q2,q3]))|(((with_reducible apply yc (i := 14));(simp only [q4,q6,q5];with_reducible rfl);kernel_rfl;kernel_rfl;decide +kernel;rfl;exact hC;exact (fun _ _ _ h => h);exact hR;exact yg rfl rfl);(intro w;first|(with_reducible exact yG E22 rfl (by (exact yh)) (by (exact yh)) (by (omega)) (by (omega)) (by (assumption)) (by (rfl)))|(with_reducible exact yG E90 rfl (by (exact yb rfl)) (by (exact yb rfl)) (by (omega)) (by (omega)) (by (exact hS.ownNN (by (repeat (with_reducible first|exact yf|apply ye))) (by omega))) (by (simp only [Int.toNat_natCast, Nat.mul_one, Nat.zero_add, Yc, yL, yJ, yP, Yb, yQ, yK];rfl)))|(go_simp;done)|(go_simp;rw [yw (by omega) (by omega)])|(go_simp;with_reducible rfl));(clear hR hC;intro hR hC);(try simp only [Act.put,q1,q2,q3]))|((first|((with_reducible apply yj (i := 7));(simp only [q4,q6,q5];with_reducible rfl);kernel_rfl;kernel_rfl;decide +kernel;kernel_rfl;rfl;exact hC;exact (fun _ _ _ h => h);exact hR;kernel_rfl;exact yg rfl rfl)|((with_reducible apply yj (i := 11));(simp only [q4,q6,q5];with_reducible rfl);kernel_rfl;kernel_rfl;decide +kernel;kernel_rfl;rfl;exact hC;exact (fun _ _ _ h => h);exact hR;kernel_rfl;exact yg rfl rfl)|((with_reducible apply yj (i := 16));(simp only [q4,q6,q5];with_reducible rfl);kernel_rfl;kernel_rfl;decide +kernel;kernel_rfl;rfl;exact hC;exact (fun _ _ _ h => h);exact hR;kernel_rfl;exact yg rfl rfl));(intro w hS;(apply ym rfl (by (exact yb rfl)));first|exact yd (by decide +kernel) (hS.cell (by (repeat (with_reducible first|exact yf|apply ye))) rfl)|exact yd (by decide +kernel) ((hS.ownCell (by (repeat (with_reducible first|exact yf|apply ye))) (by (assumption))).1)|exact yd (by decide +kernel) (Sat.rdCell2 (by assumption) hS (by ((repeat (with_reducible apply ye)));try assumption) (by (rfl)))|exact yd (by decide +kernel) (hS.baseCell (by ((repeat (with_reducible apply ye)));try assumption) (by assumption))|exact yd (by decide +kernel) (fzC (by assumption) hS (by ((repeat (with_reducible apply ye)));try assumption))|exact yp hS (by assumption) (by ((repeat (with_reducible apply ye)));try assumption) (by assumption) (by rfl) (by with_reducible exact sz50) (by decide +kernel) (by decide)|exact hS.loadWhole (by (repeat (with_reducible apply ye))) (by kernel_rfl) (by kernel_rfl));(clear hR hC;intro hR hC);(try simp only [Act.put,q1,q2,q3]))|((with_reducible apply yn (i := 1));(simp only [q4,q6,q5];with_reducible rfl);decide +kernel;exact hC;clear hR hC)|((with_reducible apply yq);decide +kernel;clear hR hC)|(refine yz 2 19 hS (by kernel_rfl) [] rfl ?_;clear hS;intro w hS hR hC)|(go_at_call 51;refine (T1 _ hS).mono ?_;clear hS;rintro e w ⟨rfl, hS⟩))
      clear T1
      generalize hcs : (stC S ++ ([.int .i64 4, .int .i64 0, .int .i64 (n : Int)] : List Value)) = cs at *
      have hcl : cs.length = S.length * 3 + 3 := HLEN.out
      have hcl2 : S.length * 3 + 2 < cs.length := by omega
      clear hcl hcs
      go_wp2_with (first|((with_reducible apply Cont.intro);(exact Or.inl (by kernel_rfl));intro hR hC)|((first|((with_reducible apply yc (i := 0));(simp only [q4,q6,q5];with_reducible rfl);kernel_rfl;kernel_rfl;decide +kernel;rfl;exact hC;exact (fun _ _ _ h => h);exact hR;with_reducible exact ya)|((with_reducible apply yc (i := 1));(simp only [q4,q6,q5];with_reducible rfl);kernel_rfl;kernel_rfl;decide +kernel;rfl;exact hC;exact (fun _ _ _ h => h);exact hR;with_reducible exact ya)|((with_reducible apply yc (i := 4));(simp only [q4,q6,q5];with_reducible rfl);kernel_rfl;kernel_rfl;decide +kernel;rfl;exact hC;exact (fun _ _ _ h => h);exact hR;with_reducible exact ya)|((with_reducible apply yc (i := 5));(simp only [q4,q6,q5];with_reducible rfl);kernel_rfl;kernel_rfl;decide +kernel;rfl;exact hC;exact (fun _ _ _ h => h);exact hR;with_reducible exact ya)|((with_reducible apply yc (i := 8));(simp only [q4,q6,q5];with_reducible rfl);kernel_rfl;kernel_rfl;decide +kernel;rfl;exact hC;exact (fun _ _ _ h => h);exact hR;with_reducible exact ya)|((with_reducible apply yc (i := 9));(simp only [q4,q6,q5];with_reducible rfl);kernel_rfl;kernel_rfl;decide +kernel;rfl;exact hC;exact (fun _ _ _ h => h);exact hR;with_reducible exact ya));(intro w;first|(go_simp;done)|(go_simp;rw [yw (by omega) (by omega)])|(go_simp;with_reducible rfl)|(go_simp;rfl));(clear hR hC;intro hR hC);(try simp only [Act.put,q1,q2,q3]))|((first|((with_reducible apply yc (i := 2));(simp only [q4,q6,q5];with_reducible rfl);kernel_rfl;kernel_rfl;decide +kernel;rfl;exact hC;exact (fun _ _ _ h => h);exact hR;with_reducible exact ya)|((with_reducible apply yc (i := 6));(simp only [q4,q6,q5];with_reducible rfl);kernel_rfl;kernel_rfl;decide +kernel;rfl;exact hC;exact (fun _ _ _ h => h);exact hR;with_reducible exact ya)|((with_reducible apply yc (i := 11));(simp only [q4,q6,q5];with_reducible rfl);kernel_rfl;kernel_rfl;decide +kernel;rfl;exact hC;exact (fun _ _ _ h => h);exact hR;with_reducible exact ya)|((with_reducible apply yc (i := 15));(simp only [q4,q6,q5];with_reducible rfl);kernel_rfl;kernel_rfl;decide +kernel;rfl;exact hC;exact (fun _ _ _ h => h);exact hR;with_reducible exact ya));(intro w;first|(exact yX rfl (by (exact yb rfl)) (by assumption) (by with_reducible exact fo100_2))|(go_simp;done)|(go_simp;rw [yw (by omega) (by omega)])|(go_simp;with_reducible rfl)|(go_simp;rfl));(clear hR hC;intro hR hC);(try simp only [Act.put,q1,q2,q3]))|((first|((with_reducible apply yc (i := 10));(simp only [q4,q6,q5];with_reducible rfl);kernel_rfl;kernel_rfl;decide +kernel;rfl;exact hC;exact (fun _ _ _ h => h);exact hR;with_reducible exact ya)|((with_reducible apply yc (i := 14));(simp only [q4,q6,q5];with_reducible rfl);kernel_rfl;kernel_rfl;decide +kernel;rfl;exact hC;exact (fun _ _ _ h => h);exact hR;with_reducible exact ya));(intro w;first|(with_reducible exact yG E22 rfl (by (exact yh)) (by (exact yh)) (by (omega)) (by (omega)) (by (assumption)) (by (rfl)))|(with_reducible exact yG E90 rfl (by (exact yb rfl)) (by (exact yb rfl)) (by (omega)) (by (omega)) (by (exact hS.ownNN (by (repeat (with_reducible first|exact yf|apply ye))) (by omega))) (by (simp only [Int.toNat_natCast, Nat.mul_one, Nat.zero_add, Yc, yL, yJ, yP, Yb, yQ, yK];rfl)))|(go_simp;done)|(go_simp;rw [yw (by omega) (by omega)])|(go_simp;with_reducible rfl));(clear hR hC;intro hR hC);(try simp only [Act.put,q1,q2,q3]))|(((with_reducible apply yc (i := 13));(simp only [q4,q6,q5];with_reducible rfl);kernel_rfl;kernel_rfl;decide +kernel;rfl;exact hC;exact (fun _ _ _ h => h);exact hR;with_reducible exact ya);(intro w;first|(exact YL rfl (by (exact yh)) (by (exact yh)) (by (omega)))|(go_simp;done)|(go_simp;rw [yw (by omega) (by omega)])|(go_simp;with_reducible rfl)|(go_simp;rfl));(clear hR hC;intro hR hC);(try simp only [Act.put,q1,q2,q3]))|((first|((with_reducible apply yj (i := 3));(simp only [q4,q6,q5];with_reducible rfl);kernel_rfl;kernel_rfl;decide +kernel;kernel_rfl;rfl;exact hC;exact (fun _ _ _ h => h);exact hR;kernel_rfl;with_reducible exact ya)|((with_reducible apply yj (i := 7));(simp only [q4,q6,q5];with_reducible rfl);kernel_rfl;kernel_rfl;decide +kernel;kernel_rfl;rfl;exact hC;exact (fun _ _ _ h => h);exact hR;kernel_rfl;with_reducible exact ya)|((with_reducible apply yj (i := 12));(simp only [q4,q6,q5];with_reducible rfl);kernel_rfl;kernel_rfl;decide +kernel;kernel_rfl;rfl;exact hC;exact (fun _ _ _ h => h);exact hR;kernel_rfl;with_reducible exact ya));(intro w hS;(apply ym rfl (by (exact yb rfl)));first|exact yd (by decide +kernel) (hS.cell (by (repeat (with_reducible first|exact yf|apply ye))) rfl)|exact yd (by decide +kernel) ((hS.ownCell (by (repeat (with_reducible first|exact yf|apply ye))) (by (assumption))).1)|exact yd (by decide +kernel) (Sat.rdCell2 (by assumption) hS (by ((repeat (with_reducible apply ye)));try assumption) (by (rfl)))|exact yd (by decide +kernel) (hS.baseCell (by ((repeat (with_reducible apply ye)));try assumption) (by assumption))|exact yd (by decide +kernel) (fzC (by assumption) hS (by ((repeat (with_reducible apply ye)));try assumption))|exact yp hS (by assumption) (by ((repeat (with_reducible apply ye)));try assumption) (by assumption) (by rfl) (by with_reducible exact sz50) (by decide +kernel) (by decide)|exact hS.loadWhole (by (repeat (with_reducible apply ye))) (by kernel_rfl) (by kernel_rfl));(clear hR hC;intro hR hC);(try simp only [Act.put,q1,q2,q3]))|((with_reducible apply yn (i := 16));(simp only [q4,q6,q5];with_reducible rfl);decide +kernel;exact hC;clear hR hC)|((with_reducible apply yq);decide +kernel;clear hR hC)|(refine yz 4 17 hS (by kernel_rfl) [16] rfl ?_;clear hS;intro w hS hR hC)|((with_reducible apply Jg hS);exact ya;exact yb rfl;exact yb rfl;(repeat (with_reducible first|exact yf|apply ye));exact hcl2;(repeat (with_reducible first|exact Upd.hd|apply Upd.tl));rfl;decide +kernel;clear hS;intro w hS;(try simp only [Act.put,q1,q2,q3])))
      go_ret
      have e : kT nds (.ite n :: S, o1, k1) = (0, ⟨.ite (n + 1) :: S, o1, k1, nds⟩) := by simp only [kT]; rw [if_neg HNN.out]
      rw [e]
      obtain ⟨m1, m2, m3, m4, m5⟩ := HM.out
      refine ⟨rfl, fun _ => ⟨⟨ad1, c1, ad2, c2, ?_⟩, m1, m2, m3, m4, m5⟩, fun h => by have h : (0 : Int) = 131 := h; exact absurd h (by decide)⟩
      simp only [List.length_cons, stC, wtN]
      rw [show ((n + 1 : Nat) : Int) = (n : Int) + 1 by omega, ← HSET.out]
      exact hS
end
section
open Go Go.RowKit Go.SL Go.ClauseP Go.LexP

def nnW : Wt → Nat
  | .opn => 0
  | _ => 1
def sW (s : List Wt) : Nat := (s.map opW).sum
def sN (s : List Wt) : Nat := (s.map nnW).sum
theorem s_le : ∀ s : List Wt, s.length ≤ sW s + sN s
  | [] => by simp [sW, sN]
  | w :: s => by
    have := s_le s
    have h : 1 ≤ opW w + nnW w := by cases w <;> simp [opW, nnW]
    simp only [sW, sN, List.map_cons, List.sum_cons, List.length_cons] at this ⊢
    omega
def MInv (m : MS) : Prop := m.opn = sW m.st ∧ sN m.st + m.out.length = m.nds ∧ m.opn ≤ 64 ∧ m.nds ≤ 65536
def Inv3 (nds : Nat) (x : List Wt × List (Int × Int) × Nat) : Prop := x.2.2 = sW x.1 ∧ sN x.1 + x.2.1.length = nds ∧ x.2.2 ≤ 64
theorem Inv3.settle {nds : Nat} {w : Wt} {S : List Wt} {o : List (Int × Int)} {k : Nat} (h : Inv3 nds (w :: S, o, k)) (hw : w ≠ .opn) : Inv3 nds (S, o ++ ndW w, k - opW w) := by
  obtain ⟨h1, h2, h3⟩ := h
  simp only [sW, sN, List.map_cons, List.sum_cons] at h1 h2
  have e : (ndW w).length = nnW w := by cases w <;> first | rfl | exact (hw rfl).elim
  refine ⟨?_, ?_, ?_⟩
  · show k - opW w = sW S; unfold sW; omega
  · show sN S + (o ++ ndW w).length = nds; rw [List.length_append, e]; unfold sN; omega
  · show k - opW w ≤ 64; have : k ≤ 64 := h3; omega
theorem jd {nds : Nat} : ∀ (S : List Wt) (o : List (Int × Int)) (k : Nat), Inv3 nds (S, o, k) → Inv3 nds (Yd S o k)
  | [], o, k, h => h
  | w :: S, o, k, h => by
    cases w with
    | opn => exact h
    | ite n => exact h
    | not => exact jd S _ _ (h.settle (by simp))
    | quant a b => exact jd S _ _ (h.settle (by simp))
    | op a => exact jd S _ _ (h.settle (by simp))
theorem uX {nds : Nat} (op : Int) : ∀ (S : List Wt) (o : List (Int × Int)) (k : Nat), Inv3 nds (S, o, k) → Inv3 nds (YE op S o k)
  | [], o, k, h => h
  | w :: S, o, k, h => by
    cases w with
    | opn => exact h
    | ite n => exact h
    | quant a b => exact h
    | not => exact uX op S _ _ (h.settle (w := .not) (by simp))
    | op a =>
      simp only [YE]
      split
      · exact h
      · exact uX op S _ _ (h.settle (w := .op a) (by simp))
theorem Jx {m : MS} (h : MInv m) (x : Wt) (hx : x ≠ .opn) (h1 : m.opn + opW x ≤ 64) (h2 : m.nds + 1 ≤ 65536) : MInv ⟨x :: m.st, m.out, m.opn + opW x, m.nds + 1⟩ := by
  obtain ⟨a, b, c, d⟩ := h
  have e : nnW x = 1 := by cases x <;> first | rfl | exact (hx rfl).elim
  refine ⟨?_, ?_, h1, h2⟩
  · show m.opn + opW x = sW (x :: m.st); simp only [sW, List.map_cons, List.sum_cons] at a ⊢; omega
  · show sN (x :: m.st) + m.out.length = m.nds + 1; simp only [sN, List.map_cons, List.sum_cons] at b ⊢; omega
theorem MInv.small {m : MS} (h : MInv m) : m.opn = (m.st.map opW).sum ∧ m.st.length ≤ 200000 ∧ m.out.length + m.st.length ≤ 400000 ∧ m.opn ≤ 64 ∧ m.nds ≤ 65536 := by
  obtain ⟨a, b, c, d⟩ := h
  have := s_le m.st
  exact ⟨a, by omega, by omega, c, d⟩
theorem MInv.start : MInv m00 := ⟨rfl, rfl, by decide, by decide⟩
theorem YX {m m' : MS} {want q w' q' : Int} {tk : Tk} (h : MInv m) (hs : yB m want q tk = .go m' w' q') : MInv m' := by
  have h3 : Inv3 m.nds (m.st, m.out, m.opn) := ⟨h.1, h.2.1, h.2.2.1⟩
  have hi := jd _ _ _ h3
  have h64 := h.2.2.1
  have h65 := h.2.2.2
  cases tk with
  | bad e => cases hs
  | const n =>
    simp only [yB, Yw] at hs
    split at hs
    rotate_left
    · cases hs
    split at hs
    · cases hs
    injection hs with e1 e2 e3
    subst e1
    exact ⟨h.1, by simp only [List.length_append, List.length_cons, List.length_nil]; have := h.2.1; omega, h64, by dsimp only; omega⟩
  | var n =>
    simp only [yB, Yw, YK] at hs
    split at hs
    · split at hs
      · cases hs
      injection hs with e1 e2 e3
      subst e1
      exact ⟨h.1, by simp only [List.length_append, List.length_cons, List.length_nil]; have := h.2.1; omega, h64, by dsimp only; omega⟩
    · split at hs
      rotate_left
      · cases hs
      split at hs
      · cases hs
      split at hs
      · cases hs
      injection hs with e1 e2 e3
      subst e1
      exact Jx h (.quant q n) (by simp) (by simp only [opW]; omega) (by omega)
  | quant o =>
    simp only [yB] at hs
    split at hs
    rotate_left
    · cases hs
    injection hs with e1 e2 e3
    subst e1; exact h
  | opn =>
    simp only [yB, YK] at hs
    split at hs
    · split at hs
      · cases hs
      injection hs with e1 e2 e3
      subst e1
      refine ⟨?_, by show sN (.opn :: m.st) + m.out.length = m.nds; have := h.2.1; simp only [sN, List.map_cons, List.sum_cons, nnW] at this ⊢; omega, by dsimp only; omega, h65⟩
      show m.opn + 1 = sW (.opn :: m.st)
      have := h.1
      simp only [sW, List.map_cons, List.sum_cons, opW] at this ⊢; omega
    · split at hs
      rotate_left
      · cases hs
      injection hs with e1 e2 e3
      subst e1; exact h
  | ite =>
    simp only [yB, Yw, YK] at hs
    split at hs
    rotate_left
    · cases hs
    split at hs
    · cases hs
    split at hs
    · cases hs
    injection hs with e1 e2 e3
    subst e1
    exact Jx h (.ite 0) (by simp) (by simp only [opW]; omega) (by omega)
  | not =>
    simp only [yB, Yw, YK] at hs
    split at hs
    rotate_left
    · cases hs
    split at hs
    · cases hs
    split at hs
    · cases hs
    injection hs with e1 e2 e3
    subst e1
    exact Jx h .not (by simp) (by simp only [opW]; omega) (by omega)
  | op o =>
    simp only [yB, Yw] at hs
    split at hs
    rotate_left
    · cases hs
    split at hs
    · cases hs
    injection hs with e1 e2 e3
    subst e1
    obtain ⟨a, b, c⟩ := uX o _ _ _ h3
    exact Jx (m := ⟨_, _, _, m.nds⟩) ⟨a, b, c, h65⟩ (.op o) (by simp) (by simp only [opW]; exact c) (by dsimp only; omega)
  | cls =>
    simp only [yB] at hs
    split at hs
    rotate_left
    · cases hs
    generalize Yd m.st m.out m.opn = x at *
    obtain ⟨S, o, k⟩ := x
    rcases S with _ | ⟨w, S⟩
    · cases hs
    · obtain ⟨a, b, c⟩ := hi
      cases w with
      | opn =>
        simp only [kY] at hs
        injection hs with e1 e2 e3
        subst e1
        simp only [sW, sN, List.map_cons, List.sum_cons, opW, nnW] at a b
        exact ⟨by show k - 1 = sW S; unfold sW; omega, by show sN S + o.length = m.nds; unfold sN; omega, by show k - 1 ≤ 64; have : k ≤ 64 := c; omega, h65⟩
      | ite n =>
        simp only [kY] at hs
        split at hs
        rotate_left
        · cases hs
        injection hs with e1 e2 e3
        subst e1
        simp only [sW, sN, List.map_cons, List.sum_cons, opW, nnW] at a b
        exact ⟨by show k - 1 = sW S; unfold sW; omega, by show sN S + (o ++ [(11, 0)]).length = m.nds; unfold sN; simp only [List.length_append, List.length_cons, List.length_nil]; omega, by show k - 1 ≤ 64; have : k ≤ 64 := c; omega, h65⟩
      | _ => cases hs
  | comma =>
    simp only [yB] at hs
    split at hs
    · generalize Yd m.st m.out m.opn = x at *
      obtain ⟨S, o, k⟩ := x
      rcases S with _ | ⟨w, S⟩
      · cases hs
      · obtain ⟨a, b, c⟩ := hi
        cases w with
        | ite n =>
          simp only [KB] at hs
          split at hs
          · cases hs
          injection hs with e1 e2 e3
          subst e1
          exact ⟨a, b, c, h65⟩
        | _ => cases hs
    · split at hs
      rotate_left
      · cases hs
      injection hs with e1 e2 e3
      subst e1; exact h
  | colon =>
    simp only [yB] at hs
    split at hs
    rotate_left
    · cases hs
    injection hs with e1 e2 e3
    subst e1; exact h
  | fin =>
    simp only [yB] at hs
    split at hs
    rotate_left
    · cases hs
    generalize Yd m.st m.out m.opn = x at *
    obtain ⟨S, o, k⟩ := x
    cases S <;> cases hs
end
end Go.Proofs.YthackanffcaejaaGreatDoor
namespace Go.SL
section
open Go Go.RowKit Go.ChangeShapes Go.WideShapes

section
variable {H : Type} {enc : TypeId × Value → H} {P : Program} {W : World}

theorem rd_base {a : Addr} {cs : List Value} (hc : ∀ (j : Nat) v, cs[j]? = some v → W.cell? (a.add j) = some v) : Rd (YT W) (some a) cs := by
  intro w h hA hw j v hv
  have h1 := hc j v hv
  have hsp : a.spot = none := by
    have hj := (List.getElem?_eq_some_iff.1 hv).1
    have h2 := hc 0 _ (List.getElem?_eq_getElem (by omega))
    have e0 : a.add 0 = a := by simp [Addr.add]
    rw [e0] at h2
    unfold World.cell? at h2
    split at h2
    · split at h2
      · cases h2
      · rename_i hs; simpa using hs
    · cases h2
  refine ⟨⟨a, rfl, hsp⟩, ?_⟩
  have hb := World.block_lt_of_cell? W _ h1
  simp only [adr, Option.getD_some]
  have : w.heap[(a.add j).block]? = W.heap[(a.add j).block]? := by
    cases hx : W.heap[(a.add j).block]? with
    | none => rw [Array.getElem?_eq_none_iff] at hx; omega
    | some o => exact hw _ o (by rw [hA, if_pos hb, hx])
  rw [World.cell?_of_block this]
  exact h1
end
end
section
open Go Go.RowKit Go.ChangeShapes Go.WideShapes

def Xe : DataW Unit → Value
  | .lit (.int k n) => .int k n
  | .lit (.string bs) => .string ⟨bs.toArray⟩
  | _ => undef
theorem Gn {α : Type} {m : Nat} : ∀ (rows : List (List α)), (∀ r ∈ rows, r.length = m) → ∀ (i j : Nat), j < m → rows.flatten[i * m + j]? = (rows[i]?).bind (·[j]?)
  | [], _, i, j, _ => by simp
  | r :: rs, h, 0, j, hj => by
    have hr := h r (.head _)
    rw [Nat.zero_mul, Nat.zero_add, List.flatten_cons, List.getElem?_append_left (by omega)]; rfl
  | r :: rs, h, i + 1, j, hj => by
    have hr := h r (.head _)
    have e : (i + 1) * m + j - r.length = i * m + j := by rw [hr, Nat.succ_mul]; omega
    rw [List.flatten_cons, List.getElem?_append_right (by rw [hr, Nat.succ_mul]; omega), e, Gn rs (fun x hx => h x (.tail _ hx)) i j hj]
    rfl
theorem XL {α : Type} {m : Nat} : ∀ (rows : List (List α)), (∀ r ∈ rows, r.length = m) → rows.flatten.length = rows.length * m
  | [], _ => by simp
  | r :: rs, h => by
    rw [List.flatten_cons, List.length_append, h r (.head _), XL rs fun x hx => h x (.tail _ hx), List.length_cons, Nat.succ_mul]; omega
section
variable {P : Program} {W : World} {t e : TypeId} {fs : Array Field} {fuel : Nat} {cs : List Value}
theorem field_lit {u : TypeId} {sp : Nat → Bool} {b : Bool} {x : DataW Unit × List MemPlace} (hu : P.underlying u = some (.int .i64) ∨ P.underlying u = some .string) (h : DataW.trod (fun _ => ()) P W 0 sp b fuel u cs = some x) : cs = [Xe x.1] := by
  rcases hu with hu | hu
  · obtain ⟨n, rfl, rfl, _⟩ := DataW.trod_int hu h; rfl
  · obtain ⟨s, rfl, rfl, _⟩ := DataW.trod_string hu h; rfl
theorem row_lits {sp : Nat → Bool} {b : Bool} {x : DataW Unit × List MemPlace} (he : P.underlying e = some (.struct fs)) (hf : ∀ (i : Nat) (f : Field), fs[i]? = some f → (P.underlying f.type = some (.int .i64) ∨ P.underlying f.type = some .string) ∧ f.offset = i ∧ P.cellsOf f.type = 1)
    (hc : P.cellsOf e = fs.size) (h : DataW.trod (fun _ => ()) P W 0 sp b fuel e cs = some x) : ∃ ps : List (DataW Unit), x.1 = .agg ps ∧ cs = ps.map Xe ∧ ps.length = fs.size := by
  obtain ⟨xs, n, rfl, hx, hlc, hxl, hall⟩ := DataW.trod_struct he h
  refine ⟨xs.map (·.1), by rw [hx], ?_, by simp [hxl]⟩
  apply List.ext_getElem?
  intro i
  by_cases hi : i < fs.size
  · obtain ⟨hu, ho, hc1⟩ := hf i fs[i] (by simp [hi])
    have h1 := hall i fs[i] (by simp [hi])
    obtain ⟨y, hy⟩ : ∃ y, xs[i]? = some y := ⟨xs[i]'(by omega), List.getElem?_eq_getElem (by omega)⟩
    rw [hy, ho, hc1] at h1
    have h2 := congrArg (fun l => l[0]?) (field_lit hu h1)
    simp only [List.getElem?_take, List.getElem?_drop, Nat.add_zero, List.getElem?_cons_zero] at h2
    rw [if_pos (by omega)] at h2
    rw [h2]
    simp [hy]
  · rw [List.getElem?_eq_none (by omega), List.getElem?_eq_none (by simp; omega)]
theorem gm {p : List MemPlace} {rows : List (List (DataW Unit))} {m : Nat} (ht : P.underlying t = some (.slice e)) (he : P.underlying e = some (.struct fs))
    (hf : ∀ (i : Nat) (f : Field), fs[i]? = some f → (P.underlying f.type = some (.int .i64) ∨ P.underlying f.type = some .string) ∧ f.offset = i ∧ P.cellsOf f.type = 1) (hc : P.cellsOf e = m) (hm : fs.size = m) (h0 : 0 < m) (hr : 0 < rows.length)
    (h : DataW.trod (fun _ => ()) P W 0 (fun _ => true) false fuel t cs = some (.slice (rows.map .agg) [], p)) :
    ∃ (a : Addr) (cap : Nat), cs = [.slice (some a) rows.length cap] ∧ a.spot = none ∧ Rd (YT W) (some a) (rows.map (·.map Xe)).flatten := by
  rcases DataW.trod_slice ht h with ⟨_, hx⟩ | ⟨a, len, cap, elems, rest, n, _, rfl, hx, hb, hl, hmx, hlen, hel, hsp, hns⟩
  · cases hx
  · injection hx with hx1 hx2
    injection hx1 with hx1 hx3
    have hlr : rows.length = len := by rw [← hlen]; have := congrArg List.length hx1; simpa using this
    have each : ∀ i, i < len → ∃ r, rows[i]? = some r ∧ r.length = m ∧ ∀ j : Nat, j < m → W.cell? (a.add (i * m + j)) = (r.map Xe)[j]? := by
      intro i hi
      have h1 := hel i hi
      rw [hc, List.getElem?_eq_getElem (show i < elems.length by omega), Option.bind_eq_some_iff] at h1
      obtain ⟨cs', hcs, hy⟩ := h1
      obtain ⟨ps, e1, e2, e3⟩ := row_lits he hf (by omega) hy
      have h2 : rows[i]? = some ps := by
        have h3 := congrArg (fun l => l[i]?) hx1
        simp only [List.getElem?_map, List.getElem?_eq_getElem (show i < elems.length by omega), Option.map_some, e1] at h3
        obtain ⟨r, hr1, hr2⟩ := Option.map_eq_some_iff.1 h3
        injection hr2 with hr2
        rw [hr1, hr2]
      obtain ⟨_, _, hcell⟩ := World.cells?_some hcs
      refine ⟨ps, h2, by omega, fun j hj => ?_⟩
      have hadd : (a.add (i * m)).add j = a.add (i * m + j) := by
        by_cases h1 : i * m = 0
        · rw [h1, Nat.zero_add]; simp [Addr.add]
        · by_cases h2 : j = 0
          · subst h2; simp [Addr.add]
          · have h3 : ¬ i * m + j = 0 := by omega
            simp [Addr.add, h1, h2, h3, Nat.add_assoc]
      have h4 := hcell j (by omega)
      rw [hadd] at h4
      rw [h4, e2]
    have hall : ∀ r ∈ rows.map (·.map Xe), r.length = m := by
      intro r hr
      obtain ⟨r0, hr0, rfl⟩ := List.mem_map.1 hr
      obtain ⟨i, hi, e⟩ := List.getElem_of_mem hr0
      obtain ⟨r1, g1, g2, _⟩ := each i (by omega)
      rw [List.getElem?_eq_getElem hi, e] at g1
      injection g1 with g1
      rw [List.length_map, g1]; exact g2
    have hcells : ∀ (j : Nat) v, (rows.map (·.map Xe)).flatten[j]? = some v → W.cell? (a.add j) = some v := by
      intro j v hv
      have hj := (List.getElem?_eq_some_iff.1 hv).1
      rw [XL _ hall, List.length_map, hlr] at hj
      have hi : j / m < len := Nat.div_lt_of_lt_mul (by rw [Nat.mul_comm]; exact hj)
      have hmod := Nat.mod_lt j h0
      have hdm : j / m * m + j % m = j := by rw [Nat.mul_comm]; exact Nat.div_add_mod j m
      obtain ⟨r, g1, g2, g3⟩ := each (j / m) hi
      have h1 := Gn _ hall (j / m) (j % m) hmod
      rw [hdm, hv, List.getElem?_map, g1] at h1
      have h2 := g3 (j % m) hmod
      rw [hdm] at h2
      rw [h2]; exact h1.symm
    refine ⟨a, cap, by rw [hlr], ?_, rd_base hcells⟩
    obtain ⟨r, _, g2, g3⟩ := each 0 (by omega)
    have h1 := g3 0 h0
    have e0 : a.add (0 * m + 0) = a := by rw [Nat.zero_mul]; simp [Addr.add]
    rw [e0, List.getElem?_eq_getElem (by simp; omega)] at h1
    unfold World.cell? at h1
    split at h1
    · split at h1
      · cases h1
      · rename_i hs; simpa using hs
    · cases h1
theorem Jw {n : String} {g : Nat} {rows : List (List (DataW Unit))} {m : Nat} (hg : P.globalNamed n = some g) (hty : (P.globals[g]?).map (·.type) = some t) (hct : P.cellsOf t = 1) (ht : P.underlying t = some (.slice e)) (he : P.underlying e = some (.struct fs))
    (hf : ∀ (i : Nat) (f : Field), fs[i]? = some f → (P.underlying f.type = some (.int .i64) ∨ P.underlying f.type = some .string) ∧ f.offset = i ∧ P.cellsOf f.type = 1) (hc : P.cellsOf e = m) (hm : fs.size = m) (h0 : 0 < m) (hr : 0 < rows.length)
    (h : Lib.VarReads P W n (.slice (rows.map .agg) [])) :
    ∃ (a : Addr) (cap : Nat), W.cell? ⟨g, 0, none⟩ = some (.slice (some a) rows.length cap) ∧ a.spot = none ∧ Rd (YT W) (some a) (rows.map (·.map Xe)).flatten := by
  obtain ⟨g', t', cs, fuel, p, hg', ht', hvar, hd⟩ := h
  obtain rfl := Option.some.inj (hg.symm.trans hg')
  obtain rfl := Option.some.inj (hty.symm.trans ht')
  have hsp := @gm P W t e fs fuel cs.toList p rows m ht he hf hc hm h0 hr
  obtain ⟨a, cap, h1, h2, h3⟩ := hsp hd
  refine ⟨a, cap, ?_, h2, h3⟩
  rw [World.var?_cell hg hvar 0]
  have : cs = #[.slice (some a) rows.length cap] := by
    rw [← Array.toList_inj, h1]
  rw [this]; rfl
end
end
section
open Go Go.RowKit Go.ChangeShapes Go.WideShapes Go.ChangeAt

theorem jX {H : Type} {enc : TypeId × Value → H} {P : Program} {W W' : World} (hl : laidOutB P = true) (hb : Below W.heap.size W W') :
    ∀ (ts : List TypeId) (vs : List Value) (ds : List (DataW H)) (ps : List MemPlace), (∀ t ∈ ts, P.readableRec t = true ∧ t < P.types.size) → (∀ p ∈ ps, p.block < W.heap.size) →
      DataW.TrodAll enc P W 0 (fun _ => true) true ts vs ds ps → DataW.TrodAll enc P W' 0 (fun b => decide (b < W.heap.size)) true ts vs ds ps
  | [], [], [], ps, _, _, h => h
  | t :: ts, v :: vs, d :: ds, ps, ht, hp, h => by
    obtain ⟨p, q, h1, h2, rfl⟩ := h
    obtain ⟨hr, hrow⟩ := ht t (by simp)
    exact ⟨p, q, Below.trod hl hr hrow h1 hb (fun x hx => hp x (by simp [hx])), jX hl hb ts vs ds q (fun t ht' => ht t (by simp [ht'])) (fun x hx => hp x (by simp [hx])) h2, rfl⟩
  | [], _ :: _, _, _, _, _, h => (h : False).elim
  | [], [], _ :: _, _, _, _, h => (h : False).elim
  | _ :: _, [], _, _, _, _, h => (h : False).elim
  | _ :: _, _ :: _, [], _, _, _, h => (h : False).elim
theorem jx {H : Type} {enc : TypeId × Value → H} {P : Program} {W : World} : ∀ (ts : List TypeId) (vs : List Value) (ds : List (DataW H)) (ps : List MemPlace),
    DataW.TrodAll enc P W 0 (fun _ => true) true ts vs ds ps → ds.length = ts.length
  | [], [], [], ps, _ => rfl
  | t :: ts, v :: vs, d :: ds, ps, h => by
    obtain ⟨p, q, _, h2, _⟩ := h
    simp [jx ts vs ds q h2]
  | [], _ :: _, _, _, h => (h : False).elim
  | [], [], _ :: _, _, h => (h : False).elim
  | _ :: _, [], _, _, h => (h : False).elim
  | _ :: _, _ :: _, [], _, h => (h : False).elim

theorem xX {H : Type} {enc : TypeId × Value → H} {P : Program} {f : Func} {s : ChangeSpec} {W W' : World} {args : Array Value} {ds gs : List (DataW H)} {before : List MemPlace} {tb : TypeId}
    (hl : laidOutB P = true) (hts : ∀ t ∈ f.params.toList, P.readableRec t = true ∧ t < P.types.size) (hvars : s.vars = [])
    (hfn : ∀ ds : List (DataW H), ds.length = f.params.size → (s.fn H ds).results = [.lit (.bool true)] ∧ (s.fn H ds).args = ds ∧ (s.fn H ds).vars = [])
    (hrt : f.resultTypes = #[tb]) (hub : P.underlying tb = some .bool) (hW : DataW.Whole enc P f.params.toList s.vars false W args.toList ds gs before) (hb : Below W.heap.size W W') :
    s.post enc P f false true false false W args (.bool true) W' := by
  have hlt : ∀ p ∈ before, p.block < W.heap.size := fun p hp => hW.lt p hp
  have hW' := hW
  obtain ⟨p, q, hA, hV, rfl, hz, _⟩ := hW'
  rw [hvars] at hV
  obtain ⟨rfl, rfl⟩ := trodVars_none hV
  have hlen := jx _ _ _ _ hA
  obtain ⟨h1, h2, h3⟩ := hfn ds (by simpa using hlen)
  refine ⟨ds, [], p ++ [], [], p, [], hW, ?_, ?_, ?_, hb.frame _, fun h => by cases h⟩
  · rw [List.append_nil, h1, hrt]
    exact trodAll_mk1 (shut_bool hub true)
  · rw [List.append_nil, h2]
    exact jX hl hb _ _ _ _ hts (fun x hx => hlt x (by simp [hx])) hA
  · rw [List.append_nil, h3, hvars]
    exact rfl

theorem Kt {P : Program} {x : String × DataW Unit} {l : List (String × DataW Unit)} {w : World} (h : laidMet P (x :: l) w) : laidMet P l w := by
  obtain ⟨ps, hv, hn, hc⟩ := h
  obtain ⟨g, t, cs, fuel, p, q, _, _, _, _, hq, rfl⟩ := hv
  exact ⟨q, hq, (List.nodup_append.1 hn).2.1, fun b off hm => hc b off (by simp [hm])⟩
end
end Go.SL
