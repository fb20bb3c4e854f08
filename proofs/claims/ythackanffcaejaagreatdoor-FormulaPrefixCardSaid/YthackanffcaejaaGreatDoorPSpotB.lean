/- Places in great texts: the document's Spot. -/
import Derived.Test.YthackanffcaejaaGreatDoorO1
import Derived.Test.YthackanffcaejaaGreatDoorO4
set_option linter.unusedSimpArgs false
set_option linter.unusedVariables false
set_option linter.unusedSectionVars false
namespace Go.Proofs.YthackanffcaejaaGreatDoor
section
set_option maxRecDepth 20000
open Go Go.RowKit Go.SL Go.ClauseP
theorem spotRB (text : List UInt8) (k : Nat) (hk : k ≤ text.length) (hl : text.length ≤ 140737488351232) (w0 w : World) (Hs : List HP) (hS : Sat w0 w Hs) :
    Calls Tryz.prog 52 #[.string ⟨text.toArray⟩, .int .i64 k] w fun e w' => e = .returned (.agg #[.int .i64 ((Yf text k).1 : Int), .int .i64 ((Yf text k).2 : Int)]) ∧ Sat w0 w' Hs := by
  go_enter Tryz.func52, Tryz.ntmps52
  (have tok_B4 : True := trivial;have tok_B5 : True := trivial;go_wp2_with (first|(have tokk := tok_B4;(clear tokk tok_B4);((with_reducible apply yl hS);(first|with_reducible exact ya|exact yg rfl rfl);(with_reducible first|exact z29|exact z66);clear hS;intro B4 w hS;(try simp only [Act.put,q1,q2,q3])))|(have tokk := tok_B5;(clear tokk tok_B5);((with_reducible apply yl hS);(first|with_reducible exact ya|exact yg rfl rfl);(with_reducible first|exact z29|exact z66);clear hS;intro B5 w hS;(try simp only [Act.put,q1,q2,q3])))|((with_reducible apply yx hS);(first|with_reducible exact ya|exact yg rfl rfl);(first|exact yb rfl|exact yh);(first|exact yb rfl|exact yh);(repeat (with_reducible first|exact yf|apply ye));rfl;(first|(focus (simp;done))|(simp;omega)|omega);(repeat (with_reducible first|exact Upd.hd|apply Upd.tl));rfl;decide +kernel;clear hS;intro w hS;(try simp only [q2, q3] at hS);(try simp only [Act.put,q1,q2,q3]))|((with_reducible apply yk hS);(first|with_reducible exact ya|exact yg rfl rfl);(first|exact yb rfl|exact yh);(first|exact yb rfl|exact yh);(repeat (with_reducible first|exact yf|apply ye));rfl;(first|(focus (simp;done))|(simp;omega)|omega);(repeat (with_reducible first|exact Upd.hd|apply Upd.tl));rfl;(first|with_reducible exact sz29);rfl;clear hS;intro w hS;(try simp only [yo, q2, q3] at hS);(try simp only [Act.put,q1,q2,q3]))))
  go_loopw [6] (fun i wr => ∃ j : Nat, i = .int .i64 j ∧ j ≤ k ∧ Sat w0 wr (blk B5 29 [.int .i64 ((Yf text j).1 : Int), .int .i64 ((Yf text j).2 : Int)] :: blk B4 29 [.int .i64 0, .int .i64 0] :: Hs)) (fun i _ => k - (intOf i).toNat)
  case atStart => exact ⟨0, rfl, Nat.zero_le _, hS⟩
  case round =>
    clear hS
    obtain ⟨j, rfl, hj, hS⟩ := hrel
    by_cases hlt : j < k
    · obtain ⟨c, hc⟩ : ∃ c, text[j]? = some c := ⟨_, List.getElem?_eq_getElem (by omega)⟩
      obtain ⟨hpk, hck⟩ := ks text j c hc
      have HS1 := hid (UH hc)
      have hjt : (j : Int) < (text.length : Int) := by omega
      obtain ⟨b1, b2⟩ := xS text j
      have e10 := Kp c 10 10 rfl
      clear hc
      by_cases h10 : c = 10
      · rw [show (c == 10) = true by simp [h10]] at e10
        have HS2 : Hid (Yf text (j + 1) = ((Yf text j).1 + 1, 1)) := hid (by rw [HS1.out, if_pos h10])
        clear HS1 h10
        have h1 : (Yf text (j + 1)).1 = (Yf text j).1 + 1 := by rw [HS2.out]
        have h2 : (Yf text (j + 1)).2 = 1 := by rw [HS2.out]
        generalize (Yf text j).1 = p1 at *
        generalize (Yf text j).2 = p2 at *
        have E1 := hid h1
        have E2 := hid h2
        clear h1 h2 HS2
        go_wp2_with (first|((with_reducible apply yi hS);(first|with_reducible exact ya|exact yg rfl rfl);(first|exact yb rfl|exact yh);(repeat (with_reducible first|exact yf|apply ye));rfl;decide +kernel;(try simp only [Act.put,q1,q2,q3]))|((with_reducible apply yx hS);(first|with_reducible exact ya|exact yg rfl rfl);(first|exact yb rfl|exact yh);(first|exact yb rfl|exact yh);(repeat (with_reducible first|exact yf|apply ye));rfl;(first|(focus (simp;done))|(simp;omega)|omega);(repeat (with_reducible first|exact Upd.hd|apply Upd.tl));rfl;decide +kernel;clear hS;intro w hS;(try simp only [q2, q3] at hS);(try simp only [Act.put,q1,q2,q3])))
        go_roundw
        case rel => exact ⟨j + 1, by go_num, by omega, by rw [E1.out, E2.out]; exact hS⟩
        case measure => simp [intOf]; omega
      · rw [show (c == 10) = false by simp [h10]] at e10
        have HS2 : Hid (Yf text (j + 1) = ((Yf text j).1, (Yf text j).2 + 1)) := hid (by rw [HS1.out, if_neg h10])
        clear HS1 h10
        have h1 : (Yf text (j + 1)).1 = (Yf text j).1 := by rw [HS2.out]
        have h2 : (Yf text (j + 1)).2 = (Yf text j).2 + 1 := by rw [HS2.out]
        generalize (Yf text j).1 = p1 at *
        generalize (Yf text j).2 = p2 at *
        have E1 := hid h1
        have E2 := hid h2
        clear h1 h2 HS2
        go_wp2_with (first|((with_reducible apply yi hS);(first|with_reducible exact ya|exact yg rfl rfl);(first|exact yb rfl|exact yh);(repeat (with_reducible first|exact yf|apply ye));rfl;decide +kernel;(try simp only [Act.put,q1,q2,q3]))|((with_reducible apply yx hS);(first|with_reducible exact ya|exact yg rfl rfl);(first|exact yb rfl|exact yh);(first|exact yb rfl|exact yh);(repeat (with_reducible first|exact yf|apply ye));rfl;(first|(focus (simp;done))|(simp;omega)|omega);(repeat (with_reducible first|exact Upd.hd|apply Upd.tl));rfl;decide +kernel;clear hS;intro w hS;(try simp only [q2, q3] at hS);(try simp only [Act.put,q1,q2,q3])))
        go_roundw
        case rel => exact ⟨j + 1, by go_num, by omega, by rw [E1.out, E2.out]; exact hS⟩
        case measure => simp [intOf]; omega
    · obtain rfl : j = k := by omega
      go_wp2_with (first|((with_reducible apply yi hS);(first|with_reducible exact ya|exact yg rfl rfl);(first|exact yb rfl|exact yh);(repeat (with_reducible first|exact yf|apply ye));rfl;decide +kernel;(try simp only [Act.put,q1,q2,q3]))|((with_reducible apply yx hS);(first|with_reducible exact ya|exact yg rfl rfl);(first|exact yb rfl|exact yh);(first|exact yb rfl|exact yh);(repeat (with_reducible first|exact yf|apply ye));rfl;(first|(focus (simp;done))|(simp;omega)|omega);(repeat (with_reducible first|exact Upd.hd|apply Upd.tl));rfl;decide +kernel;clear hS;intro w hS;(try simp only [q2, q3] at hS);(try simp only [Act.put,q1,q2,q3]))|((with_reducible apply yC hS);(first|with_reducible exact ya|exact yg rfl rfl);(first|exact yb rfl|exact yh);(repeat (with_reducible first|exact yf|apply ye));(first|with_reducible exact sz29);decide +kernel;rfl;rfl;(try simp only [Act.put,q1,q2,q3]))|((with_reducible apply yk hS);(first|with_reducible exact ya|exact yg rfl rfl);(first|exact yb rfl|exact yh);(first|exact yb rfl|exact yh);(repeat (with_reducible first|exact yf|apply ye));rfl;(first|(focus (simp;done))|(simp;omega)|omega);(repeat (with_reducible first|exact Upd.hd|apply Upd.tl));rfl;(first|with_reducible exact sz29);rfl;clear hS;intro w hS;(try simp only [yo, q2, q3] at hS);(try simp only [Act.put,q1,q2,q3])))
      refine bodyPost_ret (yR rfl rfl (hS.loadWhole (by (repeat (with_reducible first | exact yf | apply ye))) (by kernel_rfl) (by kernel_rfl))) rfl ?_
      exact ⟨rfl, hS.sb (by (repeat (first | with_reducible exact Sb.refl | with_reducible exact Sb.nil | (with_reducible refine Sb.take (by (repeat (with_reducible first | exact Rem.hd | apply Rem.tl)); done) ?_) | with_reducible apply Sb.skip)))⟩
theorem spotC (text : List UInt8) (k : Nat) (hk : k ≤ text.length) (hl : text.length ≤ 140737488351232) (w0 w : World) (Hs : List HP) (hS : Sat w0 w Hs) :
    Calls Tryz.prog 20 #[.string ⟨text.toArray⟩, .int .i64 k] w fun e w' => e = .returned (.agg #[.int .i64 ((Yf text k).1 : Int), .int .i64 ((Yf text k).2 : Int)]) ∧ Sat w0 w' Hs := by
  have SR := fun w1 R h => spotRB text k hk hl w0 w1 R h
  go_enter Tryz.func20, Tryz.ntmps20
  go_wp2_with (first|((with_reducible apply yl hS);(first|with_reducible exact ya|exact yg rfl rfl);(with_reducible first|exact z29|exact z66);clear hS;intro NB w hS;(try simp only [Act.put,q1,q2,q3]))|((with_reducible apply yk hS);(first|with_reducible exact ya|exact yg rfl rfl);(first|exact yb rfl|exact yh);(first|exact yb rfl|exact yh);(repeat (with_reducible first|exact yf|apply ye));rfl;(first|(focus (simp;done))|(simp;omega)|omega);(repeat (with_reducible first|exact Upd.hd|apply Upd.tl));rfl;(first|with_reducible exact sz29);rfl;clear hS;intro w hS;(try simp only [yo, q2, q3] at hS);(try simp only [Act.put,q1,q2,q3]))|(go_at_call 52;refine (SR _ _ hS).mono ?_;clear hS;rintro e w ⟨rfl, hS⟩))
  refine bodyPost_ret (yR rfl rfl (hS.loadWhole (by (repeat (with_reducible first | exact yf | apply ye))) (by kernel_rfl) (by kernel_rfl))) rfl ?_
  exact ⟨rfl, hS.drop⟩
theorem gz (text x : List UInt8) (k : Nat) (hk : k ≤ text.length) : Yf (text ++ x) k = Yf text k := by
  unfold Yf; rw [List.take_append_of_le_length hk]
end
end Go.Proofs.YthackanffcaejaaGreatDoor
