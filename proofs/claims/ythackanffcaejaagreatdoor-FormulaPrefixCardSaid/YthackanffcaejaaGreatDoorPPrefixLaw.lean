/- FormulaPrefix: the law's walk. -/
import Derived.Test.YthackanffcaejaaGreatDoorO1
import Derived.Test.YthackanffcaejaaGreatDoorO23
import Derived.Test.YthackanffcaejaaGreatDoorO28
import Derived.Test.YthackanffcaejaaGreatDoorPBk3
import Derived.Test.YthackanffcaejaaGreatDoorPSpotB
set_option linter.unusedSimpArgs false
set_option linter.unusedVariables false
set_option linter.unusedSectionVars false
namespace Go.Proofs.YthackanffcaejaaGreatDoor
section
set_option maxRecDepth 20000
open Go Go.RowKit Go.SL Go.ClauseP Go.LexP

section
variable (text more : List UInt8) (hm : more.length ≤ 140737488351232) (w0 : World) (hSE : kZ w0) (hSR : XR w0) (htb : Tab w0)
include hm hSE hSR htb
set_option maxHeartbeats 4000000 in
theorem gC (ht : text.length ≤ 140737488351232) (hlong : 1048576 < text.length) : Calls Tryz.prog 6 #[.string ⟨text.toArray⟩, .string ⟨more.toArray⟩] w0 fun e w' => e = .returned (.bool true) ∧ Sat w0 w' [YT w0] := by
  have hS := Sat.start w0
  have AC := fun w1 R hm h => xP w0 w1 R hm hSE htb h
  have PE := fun w1 R h => parseL text ht hlong w0 w1 R h
  have PD := fun w1 R h => gR text ht hlong w0 w1 R h
  have SC := fun w1 R h => spotC text text.length (Nat.le_refl _) ht w0 w1 R h
  generalize Yf text text.length = sp at *
  obtain ⟨l2, c2⟩ := sp
  dsimp only at SC
  go_enter Tryz.func6, Tryz.ntmps6
  go_wp2_with (first|(go_at_call 11;refine (AC _ _ (by (repeat (with_reducible first|exact yf|apply ye))) hS).mono ?_;clear hS;rintro e w ⟨rfl, hS⟩)|((with_reducible apply yl hS);(first|with_reducible exact ya|exact yg rfl rfl);(with_reducible first|exact z22|exact z29|exact z31|exact z50);clear hS;intro NB w hS;(try simp only [Act.put,q1,q2,q3]))|((with_reducible apply yk hS);(first|with_reducible exact ya|exact yg rfl rfl);(first|exact yb rfl|exact yh);(first|exact yb rfl|exact yh);(repeat (with_reducible first|exact yf|apply ye));rfl;(first|(focus (simp;done))|(simp;omega)|omega);(repeat (with_reducible first|exact Upd.hd|apply Upd.tl));rfl;(with_reducible first|exact sz29|exact sz31|exact sz50);rfl;clear hS;intro w hS;(try simp only [yo, q2, q3] at hS);(try simp only [Act.put,q1,q2,q3]))|((with_reducible apply yi hS);(first|with_reducible exact ya|exact yg rfl rfl);(first|exact yb rfl|exact yh);(repeat (with_reducible first|exact yf|apply ye));rfl;decide +kernel;(try simp only [Act.put,q1,q2,q3]))|((with_reducible apply yC hS);(first|with_reducible exact ya|exact yg rfl rfl);(first|exact yb rfl|exact yh);(repeat (with_reducible first|exact yf|apply ye));(with_reducible first|exact sz29|exact sz31|exact sz50);decide +kernel;rfl;rfl;(try simp only [Act.put,q1,q2,q3]))|((with_reducible apply yE);(first|with_reducible exact ya|exact yg rfl rfl);(first|exact yb rfl|exact yh);(first|exact hS.ownNN (by (repeat (with_reducible first|exact yf|apply ye))) (by omega)|exact Sat.rdAd2 (by assumption) hS (by ((repeat (with_reducible first|exact yf|apply ye)));try assumption) (by first|(simp only [Yr, Yt, List.length_take, List.length_drop];omega)|omega|(simp;omega)|(simp;done))|assumption);(with_reducible first|exact fo29_0|exact fo29_1|exact fo31_0|exact fo31_1|exact fo50_0|exact fo50_1);(try simp only [Act.put,q1,q2,q3]))|(go_at_call 15;refine (PE _ _ hS).mono ?_;clear hS;rintro e w ⟨rfl, hS⟩)|(go_at_call 19;refine (PD _ _ hS).mono ?_;clear hS;rintro e w ⟨rfl, hS⟩)|(go_at_call 20;refine (SC _ _ hS).mono ?_;clear hS;rintro e w ⟨rfl, hS⟩))
  go_ret
  exact ⟨rfl, hS.sb (by (repeat (first | with_reducible exact Sb.refl | with_reducible exact Sb.nil | (with_reducible refine Sb.take (by (repeat (with_reducible first | exact Rem.hd | apply Rem.tl)); done) ?_) | with_reducible apply Sb.skip)))⟩
set_option maxHeartbeats 8000000 in
theorem prefixLaw (ht : text.length ≤ 140737488351232) : Calls Tryz.prog 6 #[.string ⟨text.toArray⟩, .string ⟨more.toArray⟩] w0 fun e w' => e = .returned (.bool true) ∧ Sat w0 w' [YT w0] := by
  by_cases hlong : 1048576 < text.length
  · exact gC text more hm w0 hSE hSR htb ht hlong
  have hl : text.length ≤ 1048576 := by omega
  clear hlong
  have hS := Sat.start w0
  have AC := fun w1 R hm h => xP w0 w1 R hm hSE htb h
  have PE := fun w1 R hm h => xj text hl w0 w1 hSE R hm h
  have SC := fun w1 R h => spotC text text.length (Nat.le_refl _) ht w0 w1 R h
  go_enter Tryz.func6, Tryz.ntmps6
  go_wp2_with (first|(go_at_call 11;refine (AC _ _ (by (repeat (with_reducible first|exact yf|apply ye))) hS).mono ?_;clear hS;rintro e w ⟨rfl, hS⟩)|((with_reducible apply yl hS);(first|with_reducible exact ya|exact yg rfl rfl);(with_reducible first|exact z22|exact z29|exact z31|exact z50);clear hS;intro NB w hS;(try simp only [Act.put,q1,q2,q3])))
  refine (PE _ _ (by (repeat (with_reducible first | exact yf | apply ye))) hS).mono ?_
  clear hS PE AC
  rintro e w1 ⟨r, hpr, hq⟩
  have hrun := kR hpr
  have PD := fun w1 R hm h => uo (text := text) hl hrun w0 w1 hSR R hm h
  cases r with
  | inr x =>
    obtain ⟨ad, cap, rfl, hS⟩ := hq
    simp only [ut, fnQ] at PD
    clear hrun hpr
    generalize post x = out at *
    generalize Yf text text.length = sp at *
    obtain ⟨l2, c2⟩ := sp
    dsimp only at SC
    go_wp2_with (first|((with_reducible apply yl hS);(first|with_reducible exact ya|exact yg rfl rfl);(with_reducible first|exact z22|exact z29|exact z31|exact z50);clear hS;intro NB w hS;(try simp only [Act.put,q1,q2,q3]))|((with_reducible apply yk hS);(first|with_reducible exact ya|exact yg rfl rfl);(first|exact yb rfl|exact yh);(first|exact yb rfl|exact yh);(repeat (with_reducible first|exact yf|apply ye));rfl;(first|(focus (simp;done))|(simp;omega)|omega);(repeat (with_reducible first|exact Upd.hd|apply Upd.tl));rfl;(with_reducible first|exact sz29|exact sz31|exact sz50);rfl;clear hS;intro w hS;(try simp only [yo, q2, q3] at hS);(try simp only [Act.put,q1,q2,q3]))|((with_reducible apply yi hS);(first|with_reducible exact ya|exact yg rfl rfl);(first|exact yb rfl|exact yh);(repeat (with_reducible first|exact yf|apply ye));rfl;decide +kernel;(try simp only [Act.put,q1,q2,q3]))|((with_reducible apply yC hS);(first|with_reducible exact ya|exact yg rfl rfl);(first|exact yb rfl|exact yh);(repeat (with_reducible first|exact yf|apply ye));(with_reducible first|exact sz29|exact sz31|exact sz50);decide +kernel;rfl;rfl;(try simp only [Act.put,q1,q2,q3]))|((with_reducible apply yE);(first|with_reducible exact ya|exact yg rfl rfl);(first|exact yb rfl|exact yh);(first|exact hS.ownNN (by (repeat (with_reducible first|exact yf|apply ye))) (by omega)|exact Sat.rdAd2 (by assumption) hS (by ((repeat (with_reducible first|exact yf|apply ye)));try assumption) (by first|(simp only [Yr, Yt, List.length_take, List.length_drop];omega)|omega|(simp;omega)|(simp;done))|assumption);(with_reducible first|exact fo29_0|exact fo29_1|exact fo31_0|exact fo31_1|exact fo50_0|exact fo50_1);(try simp only [Act.put,q1,q2,q3]))|(go_at_call 19;refine (PD _ _ (by ((repeat (with_reducible first|exact yf|apply ye));(try assumption))) hS).mono ?_;clear hS;rintro e w ⟨ad2, cap2, rfl, hS⟩)|(go_at_call 20;refine (SC _ _ hS).mono ?_;clear hS;rintro e w ⟨rfl, hS⟩))
    go_ret
    exact ⟨rfl, hS.sb (by (repeat (first | with_reducible exact Sb.refl | with_reducible exact Sb.nil | (with_reducible refine Sb.take (by (repeat (with_reducible first | exact Rem.hd | apply Rem.tl)); done) ?_) | with_reducible apply Sb.skip)))⟩
  | inl d =>
    obtain ⟨c, p⟩ := d
    have hpl := ul hrun (e := c) (a := p) rfl
    obtain ⟨rfl, hS⟩ := hq
    simp only [ut, fnQ] at PD
    have hsp : p = text.length → Yf text p = Yf text text.length := fun e => by rw [e]
    have hmo : ∀ r', kr (text ++ 32 :: more) r' → p < text.length → r' = .inl (c, p) := fun r' h' ha => gF hpr h' rfl ha
    have hst : Yf (text ++ 32 :: more) p = Yf text p := gz text (32 :: more) p hpl
    clear hrun hpr
    have PF := fun hl2 w1 R hm h => xj (text ++ 32 :: more) hl2 w0 w1 hSE R hm h
    generalize hs1 : Yf text p = s1 at *
    generalize Yf text text.length = s2 at *
    obtain ⟨l1, c1⟩ := s1
    obtain ⟨l2, c2⟩ := s2
    dsimp only at PD SC ⊢
    clear hs1
    by_cases h0 : c = 0
    · have h0b : (c == 0) = true := by simp [h0]
      clear h0 PF hmo hsp hst
      go_wp2_with (first|((with_reducible apply yl hS);(first|with_reducible exact ya|exact yg rfl rfl);(with_reducible first|exact z22|exact z29|exact z31|exact z50);clear hS;intro NB w hS;(try simp only [Act.put,q1,q2,q3]))|((with_reducible apply yk hS);(first|with_reducible exact ya|exact yg rfl rfl);(first|exact yb rfl|exact yh);(first|exact yb rfl|exact yh);(repeat (with_reducible first|exact yf|apply ye));rfl;(first|(focus (simp;done))|(simp;omega)|omega);(repeat (with_reducible first|exact Upd.hd|apply Upd.tl));rfl;(with_reducible first|exact sz29|exact sz31|exact sz50);rfl;clear hS;intro w hS;(try simp only [yo, q2, q3] at hS);(try simp only [Act.put,q1,q2,q3]))|((with_reducible apply yi hS);(first|with_reducible exact ya|exact yg rfl rfl);(first|exact yb rfl|exact yh);(repeat (with_reducible first|exact yf|apply ye));rfl;decide +kernel;(try simp only [Act.put,q1,q2,q3]))|((with_reducible apply yC hS);(first|with_reducible exact ya|exact yg rfl rfl);(first|exact yb rfl|exact yh);(repeat (with_reducible first|exact yf|apply ye));(with_reducible first|exact sz29|exact sz31|exact sz50);decide +kernel;rfl;rfl;(try simp only [Act.put,q1,q2,q3]))|((with_reducible apply yE);(first|with_reducible exact ya|exact yg rfl rfl);(first|exact yb rfl|exact yh);(first|exact hS.ownNN (by (repeat (with_reducible first|exact yf|apply ye))) (by omega)|exact Sat.rdAd2 (by assumption) hS (by ((repeat (with_reducible first|exact yf|apply ye)));try assumption) (by first|(simp only [Yr, Yt, List.length_take, List.length_drop];omega)|omega|(simp;omega)|(simp;done))|assumption);(with_reducible first|exact fo29_0|exact fo29_1|exact fo31_0|exact fo31_1|exact fo50_0|exact fo50_1);(try simp only [Act.put,q1,q2,q3]))|(go_at_call 19;refine (PD _ _ (by ((repeat (with_reducible first|exact yf|apply ye));(try assumption))) hS).mono ?_;clear hS;rintro e w ⟨rfl, hS⟩)|(go_at_call 20;refine (SC _ _ hS).mono ?_;clear hS;rintro e w ⟨rfl, hS⟩))
      go_ret
      exact ⟨rfl, hS.sb (by (repeat (first | with_reducible exact Sb.refl | with_reducible exact Sb.nil | (with_reducible refine Sb.take (by (repeat (with_reducible first | exact Rem.hd | apply Rem.tl)); done) ?_) | with_reducible apply Sb.skip)))⟩
    have h0b : (c == 0) = false := by simp [h0]
    by_cases h5 : c = 5
    · have h5b : (c == 5) = true := by simp [h5]
      clear h0 h5 PF hmo hsp hst
      go_wp2_with (first|((with_reducible apply yl hS);(first|with_reducible exact ya|exact yg rfl rfl);(with_reducible first|exact z22|exact z29|exact z31|exact z50);clear hS;intro NB w hS;(try simp only [Act.put,q1,q2,q3]))|((with_reducible apply yk hS);(first|with_reducible exact ya|exact yg rfl rfl);(first|exact yb rfl|exact yh);(first|exact yb rfl|exact yh);(repeat (with_reducible first|exact yf|apply ye));rfl;(first|(focus (simp;done))|(simp;omega)|omega);(repeat (with_reducible first|exact Upd.hd|apply Upd.tl));rfl;(with_reducible first|exact sz29|exact sz31|exact sz50);rfl;clear hS;intro w hS;(try simp only [yo, q2, q3] at hS);(try simp only [Act.put,q1,q2,q3]))|((with_reducible apply yi hS);(first|with_reducible exact ya|exact yg rfl rfl);(first|exact yb rfl|exact yh);(repeat (with_reducible first|exact yf|apply ye));rfl;decide +kernel;(try simp only [Act.put,q1,q2,q3]))|((with_reducible apply yC hS);(first|with_reducible exact ya|exact yg rfl rfl);(first|exact yb rfl|exact yh);(repeat (with_reducible first|exact yf|apply ye));(with_reducible first|exact sz29|exact sz31|exact sz50);decide +kernel;rfl;rfl;(try simp only [Act.put,q1,q2,q3]))|((with_reducible apply yE);(first|with_reducible exact ya|exact yg rfl rfl);(first|exact yb rfl|exact yh);(first|exact hS.ownNN (by (repeat (with_reducible first|exact yf|apply ye))) (by omega)|exact Sat.rdAd2 (by assumption) hS (by ((repeat (with_reducible first|exact yf|apply ye)));try assumption) (by first|(simp only [Yr, Yt, List.length_take, List.length_drop];omega)|omega|(simp;omega)|(simp;done))|assumption);(with_reducible first|exact fo29_0|exact fo29_1|exact fo31_0|exact fo31_1|exact fo50_0|exact fo50_1);(try simp only [Act.put,q1,q2,q3]))|(go_at_call 19;refine (PD _ _ (by ((repeat (with_reducible first|exact yf|apply ye));(try assumption))) hS).mono ?_;clear hS;rintro e w ⟨rfl, hS⟩)|(go_at_call 20;refine (SC _ _ hS).mono ?_;clear hS;rintro e w ⟨rfl, hS⟩))
      go_ret
      exact ⟨rfl, hS.sb (by (repeat (first | with_reducible exact Sb.refl | with_reducible exact Sb.nil | (with_reducible refine Sb.take (by (repeat (with_reducible first | exact Rem.hd | apply Rem.tl)); done) ?_) | with_reducible apply Sb.skip)))⟩
    have h5b : (c == 5) = false := by simp [h5]
    clear h0 h5
    by_cases hat : l1 = l2 ∧ c1 = c2
    · obtain ⟨rfl, rfl⟩ := hat
      clear PF hmo hsp hst
      go_wp2_with (first|((with_reducible apply yl hS);(first|with_reducible exact ya|exact yg rfl rfl);(with_reducible first|exact z22|exact z29|exact z31|exact z50);clear hS;intro NB w hS;(try simp only [Act.put,q1,q2,q3]))|((with_reducible apply yk hS);(first|with_reducible exact ya|exact yg rfl rfl);(first|exact yb rfl|exact yh);(first|exact yb rfl|exact yh);(repeat (with_reducible first|exact yf|apply ye));rfl;(first|(focus (simp;done))|(simp;omega)|omega);(repeat (with_reducible first|exact Upd.hd|apply Upd.tl));rfl;(with_reducible first|exact sz29|exact sz31|exact sz50);rfl;clear hS;intro w hS;(try simp only [yo, q2, q3] at hS);(try simp only [Act.put,q1,q2,q3]))|((with_reducible apply yi hS);(first|with_reducible exact ya|exact yg rfl rfl);(first|exact yb rfl|exact yh);(repeat (with_reducible first|exact yf|apply ye));rfl;decide +kernel;(try simp only [Act.put,q1,q2,q3]))|((with_reducible apply yC hS);(first|with_reducible exact ya|exact yg rfl rfl);(first|exact yb rfl|exact yh);(repeat (with_reducible first|exact yf|apply ye));(with_reducible first|exact sz29|exact sz31|exact sz50);decide +kernel;rfl;rfl;(try simp only [Act.put,q1,q2,q3]))|((with_reducible apply yE);(first|with_reducible exact ya|exact yg rfl rfl);(first|exact yb rfl|exact yh);(first|exact hS.ownNN (by (repeat (with_reducible first|exact yf|apply ye))) (by omega)|exact Sat.rdAd2 (by assumption) hS (by ((repeat (with_reducible first|exact yf|apply ye)));try assumption) (by first|(simp only [Yr, Yt, List.length_take, List.length_drop];omega)|omega|(simp;omega)|(simp;done))|assumption);(with_reducible first|exact fo29_0|exact fo29_1|exact fo31_0|exact fo31_1|exact fo50_0|exact fo50_1);(try simp only [Act.put,q1,q2,q3]))|(go_at_call 19;refine (PD _ _ (by ((repeat (with_reducible first|exact yf|apply ye));(try assumption))) hS).mono ?_;clear hS;rintro e w ⟨rfl, hS⟩)|(go_at_call 20;refine (SC _ _ hS).mono ?_;clear hS;rintro e w ⟨rfl, hS⟩))
      go_ret
      exact ⟨rfl, hS.sb (by (repeat (first | with_reducible exact Sb.refl | with_reducible exact Sb.nil | (with_reducible refine Sb.take (by (repeat (with_reducible first | exact Rem.hd | apply Rem.tl)); done) ?_) | with_reducible apply Sb.skip)))⟩
    have hplt : p < text.length := by
      refine Nat.lt_of_le_of_ne hpl fun e => hat ?_
      have := hsp e
      injection this with a b; exact ⟨a, b⟩
    by_cases h1 : l1 = l2
    · subst h1
      have hb2 : ¬ c1 = c2 := fun e => hat ⟨rfl, e⟩
      have hb : ((c1 : Int) == (c2 : Int)) = false := beq_eq_false_iff_ne.2 (by omega)
      by_cases hsz : 1048576 < text.length + 1 + more.length
      · have hsi : (1048576 : Int) < (text.length : Int) + 1 + (more.length : Int) := by omega
        clear PF hmo hsp hst hat
        go_wp2_with (first|((with_reducible apply yl hS);(first|with_reducible exact ya|exact yg rfl rfl);(with_reducible first|exact z22|exact z29|exact z31|exact z50);clear hS;intro NB w hS;(try simp only [Act.put,q1,q2,q3]))|((with_reducible apply yk hS);(first|with_reducible exact ya|exact yg rfl rfl);(first|exact yb rfl|exact yh);(first|exact yb rfl|exact yh);(repeat (with_reducible first|exact yf|apply ye));rfl;(first|(focus (simp;done))|(simp;omega)|omega);(repeat (with_reducible first|exact Upd.hd|apply Upd.tl));rfl;(with_reducible first|exact sz29|exact sz31|exact sz50);rfl;clear hS;intro w hS;(try simp only [yo, q2, q3] at hS);(try simp only [Act.put,q1,q2,q3]))|((with_reducible apply yi hS);(first|with_reducible exact ya|exact yg rfl rfl);(first|exact yb rfl|exact yh);(repeat (with_reducible first|exact yf|apply ye));rfl;decide +kernel;(try simp only [Act.put,q1,q2,q3]))|((with_reducible apply yC hS);(first|with_reducible exact ya|exact yg rfl rfl);(first|exact yb rfl|exact yh);(repeat (with_reducible first|exact yf|apply ye));(with_reducible first|exact sz29|exact sz31|exact sz50);decide +kernel;rfl;rfl;(try simp only [Act.put,q1,q2,q3]))|((with_reducible apply yE);(first|with_reducible exact ya|exact yg rfl rfl);(first|exact yb rfl|exact yh);(first|exact hS.ownNN (by (repeat (with_reducible first|exact yf|apply ye))) (by omega)|exact Sat.rdAd2 (by assumption) hS (by ((repeat (with_reducible first|exact yf|apply ye)));try assumption) (by first|(simp only [Yr, Yt, List.length_take, List.length_drop];omega)|omega|(simp;omega)|(simp;done))|assumption);(with_reducible first|exact fo29_0|exact fo29_1|exact fo31_0|exact fo31_1|exact fo50_0|exact fo50_1);(try simp only [Act.put,q1,q2,q3]))|(go_at_call 19;refine (PD _ _ (by ((repeat (with_reducible first|exact yf|apply ye));(try assumption))) hS).mono ?_;clear hS;rintro e w ⟨rfl, hS⟩)|(go_at_call 20;refine (SC _ _ hS).mono ?_;clear hS;rintro e w ⟨rfl, hS⟩))
        go_ret
        exact ⟨rfl, hS.sb (by (repeat (first | with_reducible exact Sb.refl | with_reducible exact Sb.nil | (with_reducible refine Sb.take (by (repeat (with_reducible first | exact Rem.hd | apply Rem.tl)); done) ?_) | with_reducible apply Sb.skip)))⟩
      · have hsi : ¬ (1048576 : Int) < (text.length : Int) + 1 + (more.length : Int) := by omega
        have hlen : (text ++ 32 :: more).length ≤ 1048576 := by simp; omega
        have PFk := PF hlen
        have HMO := hid (fun r' h' => hmo r' h' hplt)
        have HST := hid hst
        clear PF hmo hsp hst hlen hsz hat
        go_wp2_with (first|((with_reducible apply yl hS);(first|with_reducible exact ya|exact yg rfl rfl);(with_reducible first|exact z22|exact z29|exact z31|exact z50);clear hS;intro NB w hS;(try simp only [Act.put,q1,q2,q3]))|((with_reducible apply yk hS);(first|with_reducible exact ya|exact yg rfl rfl);(first|exact yb rfl|exact yh);(first|exact yb rfl|exact yh);(repeat (with_reducible first|exact yf|apply ye));rfl;(first|(focus (simp;done))|(simp;omega)|omega);(repeat (with_reducible first|exact Upd.hd|apply Upd.tl));rfl;(with_reducible first|exact sz29|exact sz31|exact sz50);rfl;clear hS;intro w hS;(try simp only [yo, q2, q3] at hS);(try simp only [Act.put,q1,q2,q3]))|((with_reducible apply yi hS);(first|with_reducible exact ya|exact yg rfl rfl);(first|exact yb rfl|exact yh);(repeat (with_reducible first|exact yf|apply ye));rfl;decide +kernel;(try simp only [Act.put,q1,q2,q3]))|((with_reducible apply yC hS);(first|with_reducible exact ya|exact yg rfl rfl);(first|exact yb rfl|exact yh);(repeat (with_reducible first|exact yf|apply ye));(with_reducible first|exact sz29|exact sz31|exact sz50);decide +kernel;rfl;rfl;(try simp only [Act.put,q1,q2,q3]))|((with_reducible apply yE);(first|with_reducible exact ya|exact yg rfl rfl);(first|exact yb rfl|exact yh);(first|exact hS.ownNN (by (repeat (with_reducible first|exact yf|apply ye))) (by omega)|exact Sat.rdAd2 (by assumption) hS (by ((repeat (with_reducible first|exact yf|apply ye)));try assumption) (by first|(simp only [Yr, Yt, List.length_take, List.length_drop];omega)|omega|(simp;omega)|(simp;done))|assumption);(with_reducible first|exact fo29_0|exact fo29_1|exact fo31_0|exact fo31_1|exact fo50_0|exact fo50_1);(try simp only [Act.put,q1,q2,q3]))|((with_reducible apply kz);(first|with_reducible exact ya|exact yg rfl rfl);(first|exact yb rfl|exact yh);(first|exact yb rfl|exact yh);(first|omega|(simp only [List.length_append, List.length_cons, List.length_nil];omega)|(simp;omega));(try simp only [Act.put,q1,q2,q3]))|(go_at_call 19;refine (PD _ _ (by ((repeat (with_reducible first|exact yf|apply ye));(try assumption))) hS).mono ?_;clear hS;rintro e w ⟨rfl, hS⟩)|(go_at_call 20;refine (SC _ _ hS).mono ?_;clear hS;rintro e w ⟨rfl, hS⟩))
        refine (PFk _ _ (by ((repeat (with_reducible first | exact yf | apply ye)); (try assumption))) hS).mono ?_
        clear hS PFk
        rintro e w ⟨r', hr', hq'⟩
        have he := HMO.out r' hr'
        subst he
        obtain ⟨rfl, hS⟩ := hq'
        clear HMO hr'
        rw [HST.out]
        dsimp only
        go_wp2_with (first|((with_reducible apply yl hS);(first|with_reducible exact ya|exact yg rfl rfl);(with_reducible first|exact z22|exact z29|exact z31|exact z50);clear hS;intro NB w hS;(try simp only [Act.put,q1,q2,q3]))|((with_reducible apply yk hS);(first|with_reducible exact ya|exact yg rfl rfl);(first|exact yb rfl|exact yh);(first|exact yb rfl|exact yh);(repeat (with_reducible first|exact yf|apply ye));rfl;(first|(focus (simp;done))|(simp;omega)|omega);(repeat (with_reducible first|exact Upd.hd|apply Upd.tl));rfl;(with_reducible first|exact sz29|exact sz31|exact sz50);rfl;clear hS;intro w hS;(try simp only [yo, q2, q3] at hS);(try simp only [Act.put,q1,q2,q3]))|((with_reducible apply yi hS);(first|with_reducible exact ya|exact yg rfl rfl);(first|exact yb rfl|exact yh);(repeat (with_reducible first|exact yf|apply ye));rfl;decide +kernel;(try simp only [Act.put,q1,q2,q3]))|((with_reducible apply yC hS);(first|with_reducible exact ya|exact yg rfl rfl);(first|exact yb rfl|exact yh);(repeat (with_reducible first|exact yf|apply ye));(with_reducible first|exact sz29|exact sz31|exact sz50);decide +kernel;rfl;rfl;(try simp only [Act.put,q1,q2,q3])))
        go_ret
        exact ⟨rfl, hS.sb (by (repeat (first | with_reducible exact Sb.refl | with_reducible exact Sb.nil | (with_reducible refine Sb.take (by (repeat (with_reducible first | exact Rem.hd | apply Rem.tl)); done) ?_) | with_reducible apply Sb.skip)))⟩
    · have hb : ((l1 : Int) == (l2 : Int)) = false := beq_eq_false_iff_ne.2 (by omega)
      by_cases hsz : 1048576 < text.length + 1 + more.length
      · have hsi : (1048576 : Int) < (text.length : Int) + 1 + (more.length : Int) := by omega
        clear PF hmo hsp hst hat
        go_wp2_with (first|((with_reducible apply yl hS);(first|with_reducible exact ya|exact yg rfl rfl);(with_reducible first|exact z22|exact z29|exact z31|exact z50);clear hS;intro NB w hS;(try simp only [Act.put,q1,q2,q3]))|((with_reducible apply yk hS);(first|with_reducible exact ya|exact yg rfl rfl);(first|exact yb rfl|exact yh);(first|exact yb rfl|exact yh);(repeat (with_reducible first|exact yf|apply ye));rfl;(first|(focus (simp;done))|(simp;omega)|omega);(repeat (with_reducible first|exact Upd.hd|apply Upd.tl));rfl;(with_reducible first|exact sz29|exact sz31|exact sz50);rfl;clear hS;intro w hS;(try simp only [yo, q2, q3] at hS);(try simp only [Act.put,q1,q2,q3]))|((with_reducible apply yi hS);(first|with_reducible exact ya|exact yg rfl rfl);(first|exact yb rfl|exact yh);(repeat (with_reducible first|exact yf|apply ye));rfl;decide +kernel;(try simp only [Act.put,q1,q2,q3]))|((with_reducible apply yC hS);(first|with_reducible exact ya|exact yg rfl rfl);(first|exact yb rfl|exact yh);(repeat (with_reducible first|exact yf|apply ye));(with_reducible first|exact sz29|exact sz31|exact sz50);decide +kernel;rfl;rfl;(try simp only [Act.put,q1,q2,q3]))|((with_reducible apply yE);(first|with_reducible exact ya|exact yg rfl rfl);(first|exact yb rfl|exact yh);(first|exact hS.ownNN (by (repeat (with_reducible first|exact yf|apply ye))) (by omega)|exact Sat.rdAd2 (by assumption) hS (by ((repeat (with_reducible first|exact yf|apply ye)));try assumption) (by first|(simp only [Yr, Yt, List.length_take, List.length_drop];omega)|omega|(simp;omega)|(simp;done))|assumption);(with_reducible first|exact fo29_0|exact fo29_1|exact fo31_0|exact fo31_1|exact fo50_0|exact fo50_1);(try simp only [Act.put,q1,q2,q3]))|(go_at_call 19;refine (PD _ _ (by ((repeat (with_reducible first|exact yf|apply ye));(try assumption))) hS).mono ?_;clear hS;rintro e w ⟨rfl, hS⟩)|(go_at_call 20;refine (SC _ _ hS).mono ?_;clear hS;rintro e w ⟨rfl, hS⟩))
        go_ret
        exact ⟨rfl, hS.sb (by (repeat (first | with_reducible exact Sb.refl | with_reducible exact Sb.nil | (with_reducible refine Sb.take (by (repeat (with_reducible first | exact Rem.hd | apply Rem.tl)); done) ?_) | with_reducible apply Sb.skip)))⟩
      · have hsi : ¬ (1048576 : Int) < (text.length : Int) + 1 + (more.length : Int) := by omega
        have hlen : (text ++ 32 :: more).length ≤ 1048576 := by simp; omega
        have PFk := PF hlen
        have HMO := hid (fun r' h' => hmo r' h' hplt)
        have HST := hid hst
        clear PF hmo hsp hst hlen hsz hat
        go_wp2_with (first|((with_reducible apply yl hS);(first|with_reducible exact ya|exact yg rfl rfl);(with_reducible first|exact z22|exact z29|exact z31|exact z50);clear hS;intro NB w hS;(try simp only [Act.put,q1,q2,q3]))|((with_reducible apply yk hS);(first|with_reducible exact ya|exact yg rfl rfl);(first|exact yb rfl|exact yh);(first|exact yb rfl|exact yh);(repeat (with_reducible first|exact yf|apply ye));rfl;(first|(focus (simp;done))|(simp;omega)|omega);(repeat (with_reducible first|exact Upd.hd|apply Upd.tl));rfl;(with_reducible first|exact sz29|exact sz31|exact sz50);rfl;clear hS;intro w hS;(try simp only [yo, q2, q3] at hS);(try simp only [Act.put,q1,q2,q3]))|((with_reducible apply yi hS);(first|with_reducible exact ya|exact yg rfl rfl);(first|exact yb rfl|exact yh);(repeat (with_reducible first|exact yf|apply ye));rfl;decide +kernel;(try simp only [Act.put,q1,q2,q3]))|((with_reducible apply yC hS);(first|with_reducible exact ya|exact yg rfl rfl);(first|exact yb rfl|exact yh);(repeat (with_reducible first|exact yf|apply ye));(with_reducible first|exact sz29|exact sz31|exact sz50);decide +kernel;rfl;rfl;(try simp only [Act.put,q1,q2,q3]))|((with_reducible apply yE);(first|with_reducible exact ya|exact yg rfl rfl);(first|exact yb rfl|exact yh);(first|exact hS.ownNN (by (repeat (with_reducible first|exact yf|apply ye))) (by omega)|exact Sat.rdAd2 (by assumption) hS (by ((repeat (with_reducible first|exact yf|apply ye)));try assumption) (by first|(simp only [Yr, Yt, List.length_take, List.length_drop];omega)|omega|(simp;omega)|(simp;done))|assumption);(with_reducible first|exact fo29_0|exact fo29_1|exact fo31_0|exact fo31_1|exact fo50_0|exact fo50_1);(try simp only [Act.put,q1,q2,q3]))|((with_reducible apply kz);(first|with_reducible exact ya|exact yg rfl rfl);(first|exact yb rfl|exact yh);(first|exact yb rfl|exact yh);(first|omega|(simp only [List.length_append, List.length_cons, List.length_nil];omega)|(simp;omega));(try simp only [Act.put,q1,q2,q3]))|(go_at_call 19;refine (PD _ _ (by ((repeat (with_reducible first|exact yf|apply ye));(try assumption))) hS).mono ?_;clear hS;rintro e w ⟨rfl, hS⟩)|(go_at_call 20;refine (SC _ _ hS).mono ?_;clear hS;rintro e w ⟨rfl, hS⟩))
        refine (PFk _ _ (by ((repeat (with_reducible first | exact yf | apply ye)); (try assumption))) hS).mono ?_
        clear hS PFk
        rintro e w ⟨r', hr', hq'⟩
        have he := HMO.out r' hr'
        subst he
        obtain ⟨rfl, hS⟩ := hq'
        clear HMO hr'
        rw [HST.out]
        dsimp only
        go_wp2_with (first|((with_reducible apply yl hS);(first|with_reducible exact ya|exact yg rfl rfl);(with_reducible first|exact z22|exact z29|exact z31|exact z50);clear hS;intro NB w hS;(try simp only [Act.put,q1,q2,q3]))|((with_reducible apply yk hS);(first|with_reducible exact ya|exact yg rfl rfl);(first|exact yb rfl|exact yh);(first|exact yb rfl|exact yh);(repeat (with_reducible first|exact yf|apply ye));rfl;(first|(focus (simp;done))|(simp;omega)|omega);(repeat (with_reducible first|exact Upd.hd|apply Upd.tl));rfl;(with_reducible first|exact sz29|exact sz31|exact sz50);rfl;clear hS;intro w hS;(try simp only [yo, q2, q3] at hS);(try simp only [Act.put,q1,q2,q3]))|((with_reducible apply yi hS);(first|with_reducible exact ya|exact yg rfl rfl);(first|exact yb rfl|exact yh);(repeat (with_reducible first|exact yf|apply ye));rfl;decide +kernel;(try simp only [Act.put,q1,q2,q3]))|((with_reducible apply yC hS);(first|with_reducible exact ya|exact yg rfl rfl);(first|exact yb rfl|exact yh);(repeat (with_reducible first|exact yf|apply ye));(with_reducible first|exact sz29|exact sz31|exact sz50);decide +kernel;rfl;rfl;(try simp only [Act.put,q1,q2,q3])))
        go_ret
        exact ⟨rfl, hS.sb (by (repeat (first | with_reducible exact Sb.refl | with_reducible exact Sb.nil | (with_reducible refine Sb.take (by (repeat (with_reducible first | exact Rem.hd | apply Rem.tl)); done) ?_) | with_reducible apply Sb.skip)))⟩
end
end
end Go.Proofs.YthackanffcaejaaGreatDoor
