/- FormulaOnce: the law's walk. -/
import Derived.Test.YthackanffcaejaaGreatDoorO1
import Derived.Test.YthackanffcaejaaGreatDoorO23
import Derived.Test.YthackanffcaejaaGreatDoorO25
import Derived.Test.YthackanffcaejaaGreatDoorO26
import Derived.Test.YthackanffcaejaaGreatDoorO28
set_option linter.unusedSimpArgs false
set_option linter.unusedVariables false
set_option linter.unusedSectionVars false
namespace Go.Proofs.YthackanffcaejaaGreatDoor
section
set_option maxRecDepth 20000
open Go Go.RowKit Go.SL Go.ClauseP Go.LexP

section
variable (text : List UInt8) (w0 : World) (hSE : kZ w0) (hSR : XR w0) (htb : Tab w0)
include hSE hSR htb
set_option maxHeartbeats 4000000 in
theorem onceLong (ht : text.length ≤ 140737488351232) (hlong : 1048576 < text.length) : Calls Tryz.prog 7 #[.string ⟨text.toArray⟩] w0 fun e w' => e = .returned (.bool true) ∧ Sat w0 w' [YT w0] := by
  have hS := Sat.start w0
  have AC := fun w1 R hm h => xP w0 w1 R hm hSE htb h
  have PE := fun w1 R h => parseL text ht hlong w0 w1 R h
  have PD := fun w1 R h => gR text ht hlong w0 w1 R h
  go_enter Tryz.func7, Tryz.ntmps7
  go_wp2_with (first|(go_at_call 11;refine (AC _ _ (by (repeat (with_reducible first|exact yf|apply ye))) hS).mono ?_;clear hS;rintro e w ⟨rfl, hS⟩)|((with_reducible apply yl hS);(first|with_reducible exact ya|exact yg rfl rfl);(with_reducible first|exact z22|exact z29|exact z31|exact z50);clear hS;intro NB w hS;(try simp only [Act.put,q1,q2,q3]))|((with_reducible apply yk hS);(first|with_reducible exact ya|exact yg rfl rfl);(first|exact yb rfl|exact yh);(first|exact yb rfl|exact yh);(repeat (with_reducible first|exact yf|apply ye));rfl;(first|(focus (simp;done))|(simp;omega)|omega);(repeat (with_reducible first|exact Upd.hd|apply Upd.tl));rfl;(with_reducible first|exact sz29|exact sz31|exact sz50);rfl;clear hS;intro w hS;(try simp only [yo, q2, q3] at hS);(try simp only [Act.put,q1,q2,q3]))|((with_reducible apply yi hS);(first|with_reducible exact ya|exact yg rfl rfl);(first|exact yb rfl|exact yh);(repeat (with_reducible first|exact yf|apply ye));rfl;decide +kernel;(try simp only [Act.put,q1,q2,q3]))|((with_reducible apply yC hS);(first|with_reducible exact ya|exact yg rfl rfl);(first|exact yb rfl|exact yh);(repeat (with_reducible first|exact yf|apply ye));(with_reducible first|exact sz29|exact sz31|exact sz50);decide +kernel;rfl;rfl;(try simp only [Act.put,q1,q2,q3]))|((with_reducible apply yE);(first|with_reducible exact ya|exact yg rfl rfl);(first|exact yb rfl|exact yh);(first|exact hS.ownNN (by (repeat (with_reducible first|exact yf|apply ye))) (by omega)|exact Sat.rdAd2 (by assumption) hS (by ((repeat (with_reducible first|exact yf|apply ye)));try assumption) (by first|(simp only [Yr, Yt, List.length_take, List.length_drop];omega)|omega|(simp;omega)|(simp;done))|assumption);(with_reducible first|exact fo29_0|exact fo29_1|exact fo31_0|exact fo31_1|exact fo50_0|exact fo50_1);(try simp only [Act.put,q1,q2,q3]))|(go_at_call 15;refine (PE _ _ hS).mono ?_;clear hS;rintro e w ⟨rfl, hS⟩)|(go_at_call 19;refine (PD _ _ hS).mono ?_;clear hS;rintro e w ⟨rfl, hS⟩))
  go_ret
  exact ⟨rfl, hS.sb (by (repeat (first | with_reducible exact Sb.refl | with_reducible exact Sb.nil | (with_reducible refine Sb.take (by (repeat (with_reducible first | exact Rem.hd | apply Rem.tl)); done) ?_) | with_reducible apply Sb.skip)))⟩
set_option maxHeartbeats 8000000 in
theorem onceLaw (ht : text.length ≤ 140737488351232) : Calls Tryz.prog 7 #[.string ⟨text.toArray⟩] w0 fun e w' => e = .returned (.bool true) ∧ Sat w0 w' [YT w0] := by
  by_cases hlong : 1048576 < text.length
  · exact onceLong text w0 hSE hSR htb ht hlong
  have hl : text.length ≤ 1048576 := by omega
  clear hlong
  have hS := Sat.start w0
  have AC := fun w1 R hm h => xP w0 w1 R hm hSE htb h
  have PE := fun w1 R hm h => xj text hl w0 w1 hSE R hm h
  go_enter Tryz.func7, Tryz.ntmps7
  go_wp2_with (first|(go_at_call 11;refine (AC _ _ (by (repeat (with_reducible first|exact yf|apply ye))) hS).mono ?_;clear hS;rintro e w ⟨rfl, hS⟩)|((with_reducible apply yl hS);(first|with_reducible exact ya|exact yg rfl rfl);(with_reducible first|exact z22|exact z29|exact z31|exact z50);clear hS;intro NB w hS;(try simp only [Act.put,q1,q2,q3])))
  refine (PE _ _ (by (repeat (with_reducible first | exact yf | apply ye))) hS).mono ?_
  clear hS PE AC
  rintro e w1 ⟨r, hpr, hq⟩
  have hrun := kR hpr
  have PD := fun w1 R hm h => uo (text := text) hl hrun w0 w1 hSR R hm h
  cases r with
  | inl d =>
    obtain ⟨c, p⟩ := d
    have hc := XU hpr
    obtain ⟨rfl, hS⟩ := hq
    simp only [ut, fnQ] at PD
    clear hrun hpr
    generalize Yf text p = s1 at *
    obtain ⟨l1, c1⟩ := s1
    dsimp only at PD ⊢
    have hcb : (c == 0) = false := by simp [hc]
    have hcn : (c != 0) = true := by simp [hc]
    clear hc
    go_wp2_with (first|((with_reducible apply yl hS);(first|with_reducible exact ya|exact yg rfl rfl);(with_reducible first|exact z22|exact z29|exact z31|exact z50);clear hS;intro NB w hS;(try simp only [Act.put,q1,q2,q3]))|((with_reducible apply yk hS);(first|with_reducible exact ya|exact yg rfl rfl);(first|exact yb rfl|exact yh);(first|exact yb rfl|exact yh);(repeat (with_reducible first|exact yf|apply ye));rfl;(first|(focus (simp;done))|(simp;omega)|omega);(repeat (with_reducible first|exact Upd.hd|apply Upd.tl));rfl;(with_reducible first|exact sz29|exact sz31|exact sz50);rfl;clear hS;intro w hS;(try simp only [yo, q2, q3] at hS);(try simp only [Act.put,q1,q2,q3]))|((with_reducible apply yi hS);(first|with_reducible exact ya|exact yg rfl rfl);(first|exact yb rfl|exact yh);(repeat (with_reducible first|exact yf|apply ye));rfl;decide +kernel;(try simp only [Act.put,q1,q2,q3]))|((with_reducible apply yC hS);(first|with_reducible exact ya|exact yg rfl rfl);(first|exact yb rfl|exact yh);(repeat (with_reducible first|exact yf|apply ye));(with_reducible first|exact sz29|exact sz31|exact sz50);decide +kernel;rfl;rfl;(try simp only [Act.put,q1,q2,q3]))|((with_reducible apply yE);(first|with_reducible exact ya|exact yg rfl rfl);(first|exact yb rfl|exact yh);(first|exact hS.ownNN (by (repeat (with_reducible first|exact yf|apply ye))) (by omega)|exact Sat.rdAd2 (by assumption) hS (by ((repeat (with_reducible first|exact yf|apply ye)));try assumption) (by first|(simp only [Yr, Yt, List.length_take, List.length_drop];omega)|omega|(simp;omega)|(simp;done))|assumption);(with_reducible first|exact fo29_0|exact fo29_1|exact fo31_0|exact fo31_1|exact fo50_0|exact fo50_1);(try simp only [Act.put,q1,q2,q3]))|(go_at_call 19;refine (PD _ _ (by ((repeat (with_reducible first|exact yf|apply ye));(try assumption))) hS).mono ?_;clear hS;rintro e w ⟨rfl, hS⟩))
    go_ret
    exact ⟨rfl, hS.sb (by (repeat (first | with_reducible exact Sb.refl | with_reducible exact Sb.nil | (with_reducible refine Sb.take (by (repeat (with_reducible first | exact Rem.hd | apply Rem.tl)); done) ?_) | with_reducible apply Sb.skip)))⟩
  | inr x =>
    obtain ⟨htr, hpp⟩ := Xh hpr
    have hpk := fun r h => gh (r := r) hpr h
    have hsz : (post x).length ≤ 65536 := by rw [YS]; exact (Kr hpr).2.1
    obtain ⟨ad, cap, rfl, hS⟩ := hq
    simp only [ut, fnQ] at PD
    clear hrun hpr
    generalize wr x true = s at *
    generalize post x = out at *
    have FE := fun w1 R h hA => formedE out (by omega) ad cap w0 w1 R h (A := own 50 2 ad out.length cap (Fs out)) hA Rd.of_own
    have DP := fun w1 R h hA => printD out (by omega) ad cap w0 w1 R h (A := own 50 2 ad out.length cap (Fs out)) hA Rd.of_own
    have EP := fun ad2 cap2 w1 R h hA hm => printE out (by omega) ad2 cap2 w0 w1 R h (A := own 50 2 ad2 out.length cap2 (Fs out)) hA Rd.of_own hm htb
    simp only [htr, Option.isSome_some] at FE
    clear htr
    by_cases hlong : s.length > 1048576
    · rw [if_pos hlong] at hpp
      simp only [hpp] at DP EP
      clear hpp hlong hpk
      go_wp2_with (first|((with_reducible apply yl hS);(first|with_reducible exact ya|exact yg rfl rfl);(with_reducible first|exact z22|exact z29|exact z31|exact z50);clear hS;intro NB w hS;(try simp only [Act.put,q1,q2,q3]))|((with_reducible apply yk hS);(first|with_reducible exact ya|exact yg rfl rfl);(first|exact yb rfl|exact yh);(first|exact yb rfl|exact yh);(repeat (with_reducible first|exact yf|apply ye));rfl;(first|(focus (simp;done))|(simp;omega)|omega);(repeat (with_reducible first|exact Upd.hd|apply Upd.tl));rfl;(with_reducible first|exact sz29|exact sz31|exact sz50);rfl;clear hS;intro w hS;(try simp only [yo, q2, q3] at hS);(try simp only [Act.put,q1,q2,q3]))|((with_reducible apply yi hS);(first|with_reducible exact ya|exact yg rfl rfl);(first|exact yb rfl|exact yh);(repeat (with_reducible first|exact yf|apply ye));rfl;decide +kernel;(try simp only [Act.put,q1,q2,q3]))|((with_reducible apply yC hS);(first|with_reducible exact ya|exact yg rfl rfl);(first|exact yb rfl|exact yh);(repeat (with_reducible first|exact yf|apply ye));(with_reducible first|exact sz29|exact sz31|exact sz50);decide +kernel;rfl;rfl;(try simp only [Act.put,q1,q2,q3]))|((with_reducible apply yE);(first|with_reducible exact ya|exact yg rfl rfl);(first|exact yb rfl|exact yh);(first|exact hS.ownNN (by (repeat (with_reducible first|exact yf|apply ye))) (by omega)|exact Sat.rdAd2 (by assumption) hS (by ((repeat (with_reducible first|exact yf|apply ye)));try assumption) (by first|(simp only [Yr, Yt, List.length_take, List.length_drop];omega)|omega|(simp;omega)|(simp;done))|assumption);(with_reducible first|exact fo29_0|exact fo29_1|exact fo31_0|exact fo31_1|exact fo50_0|exact fo50_1);(try simp only [Act.put,q1,q2,q3]))|(go_at_call 19;refine (PD _ _ (by ((repeat (with_reducible first|exact yf|apply ye));(try assumption))) hS).mono ?_;clear hS;rintro e w ⟨ad3, cap3, rfl, hS⟩)|(go_at_call 21;refine (FE _ _ hS (by (repeat (with_reducible first|exact yf|apply ye)))).mono ?_;clear hS;rintro e w ⟨rfl, hS⟩)|(go_at_call 13;refine (DP _ _ hS (by (repeat (with_reducible first|exact yf|apply ye)))).mono ?_;clear hS;rintro e w ⟨rfl, hS⟩))
      go_ret
      exact ⟨rfl, hS.sb (by (repeat (first | with_reducible exact Sb.refl | with_reducible exact Sb.nil | (with_reducible refine Sb.take (by (repeat (with_reducible first | exact Rem.hd | apply Rem.tl)); done) ?_) | with_reducible apply Sb.skip)))⟩
    · rw [if_neg hlong] at hpp
      simp only [hpp] at DP EP
      have PK := fun w1 R hm h => Un (text := s) (by omega) hpk w0 w1 hSE R hm h
      simp only [fnQ] at PK
      have SM := fun ad2 cap2 w1 R h => sameT out (by omega) ad cap ad2 cap2 w0 w1 R h (A := own 50 2 ad out.length cap (Fs out)) (B := own 50 2 ad2 out.length cap2 (Fs out))
      clear hpp hlong hpk
      go_wp2_with (first|((with_reducible apply yl hS);(first|with_reducible exact ya|exact yg rfl rfl);(with_reducible first|exact z22|exact z29|exact z31|exact z50);clear hS;intro NB w hS;(try simp only [Act.put,q1,q2,q3]))|((with_reducible apply yk hS);(first|with_reducible exact ya|exact yg rfl rfl);(first|exact yb rfl|exact yh);(first|exact yb rfl|exact yh);(repeat (with_reducible first|exact yf|apply ye));rfl;(first|(focus (simp;done))|(simp;omega)|omega);(repeat (with_reducible first|exact Upd.hd|apply Upd.tl));rfl;(with_reducible first|exact sz29|exact sz31|exact sz50);rfl;clear hS;intro w hS;(try simp only [yo, q2, q3] at hS);(try simp only [Act.put,q1,q2,q3]))|((with_reducible apply yi hS);(first|with_reducible exact ya|exact yg rfl rfl);(first|exact yb rfl|exact yh);(repeat (with_reducible first|exact yf|apply ye));rfl;decide +kernel;(try simp only [Act.put,q1,q2,q3]))|((with_reducible apply yC hS);(first|with_reducible exact ya|exact yg rfl rfl);(first|exact yb rfl|exact yh);(repeat (with_reducible first|exact yf|apply ye));(with_reducible first|exact sz29|exact sz31|exact sz50);decide +kernel;rfl;rfl;(try simp only [Act.put,q1,q2,q3]))|((with_reducible apply yE);(first|with_reducible exact ya|exact yg rfl rfl);(first|exact yb rfl|exact yh);(first|exact hS.ownNN (by (repeat (with_reducible first|exact yf|apply ye))) (by omega)|exact Sat.rdAd2 (by assumption) hS (by ((repeat (with_reducible first|exact yf|apply ye)));try assumption) (by first|(simp only [Yr, Yt, List.length_take, List.length_drop];omega)|omega|(simp;omega)|(simp;done))|assumption);(with_reducible first|exact fo29_0|exact fo29_1|exact fo31_0|exact fo31_1|exact fo50_0|exact fo50_1);(try simp only [Act.put,q1,q2,q3]))|(go_at_call 19;refine (PD _ _ (by ((repeat (with_reducible first|exact yf|apply ye));(try assumption))) hS).mono ?_;clear hS;rintro e w ⟨ad3, cap3, rfl, hS⟩)|(go_at_call 21;refine (FE _ _ hS (by (repeat (with_reducible first|exact yf|apply ye)))).mono ?_;clear hS;rintro e w ⟨rfl, hS⟩)|(go_at_call 13;refine (DP _ _ hS (by (repeat (with_reducible first|exact yf|apply ye)))).mono ?_;clear hS;rintro e w ⟨rfl, hS⟩)|(go_at_call 14;refine (EP _ _ _ _ hS (by (repeat (with_reducible first|exact yf|apply ye))) (by ((repeat (with_reducible first|exact yf|apply ye));(try assumption)))).mono ?_;clear hS;rintro e w ⟨rfl, hS⟩)|(go_at_call 15;refine (PK _ _ (by ((repeat (with_reducible first|exact yf|apply ye));(try assumption))) hS).mono ?_;clear hS;rintro e w ⟨ad2, cap2, rfl, hS⟩)|(go_at_call 16;refine (SM _ _ _ _ hS (by (repeat (with_reducible first|exact yf|apply ye))) (by (repeat (with_reducible first|exact yf|apply ye))) Rd.of_own Rd.of_own).mono ?_;clear hS;rintro e w ⟨rfl, hS⟩))
      go_ret
      exact ⟨rfl, hS.sb (by (repeat (first | with_reducible exact Sb.refl | with_reducible exact Sb.nil | (with_reducible refine Sb.take (by (repeat (with_reducible first | exact Rem.hd | apply Rem.tl)); done) ?_) | with_reducible apply Sb.skip)))⟩
end
end
end Go.Proofs.YthackanffcaejaaGreatDoor
