/- Package formula: Eval. -/
import Derived.Test.YthackanffcaejaaGreatDoorY1
import Derived.Test.YthackanffcaejaaGreatDoorYEv5
import Derived.Test.YthackanffcaejaaGreatDoorYEm1
set_option linter.unusedSimpArgs false
set_option linter.unusedVariables false
set_option linter.unusedSectionVars false
set_option maxRecDepth 20000
namespace Go.Proofs.YthackanffcaejaaGreatDoor
open Go Go.RowKit Go.SL

section
variable (fs : List (Int × Int)) (hl : fs.length ≤ 9223372036854775807) (ad : Option Addr) (cap : Nat) (w0 w : World) (Hs : List HP) (hS : Sat w0 w Hs) {A : HP} (hA : A ∈ Hs) (hr : Rd A ad (Fs fs))
include hl hS hA hr
theorem evalE (bits : List Bool) (adB : Option Addr) (capB : Nat) (hbl : bits.length ≤ 140737488355328) {B : HP} (hB : B ∈ Hs) (hrB : Rd B adB (BV bits)) :
    Calls Tryz.prog 22 #[.slice ad fs.length cap, .slice adB bits.length capB] w fun e w' => e = .returned (.tuple #[.bool (evalP fs bits).1, .int .i64 (evalP fs bits).2]) ∧ Sat w0 w' Hs := by
  cases h : treeP fs with
  | none =>
    have HO : evalP fs bits = (false, 134) := by unfold evalP; rw [h]
    have TN := treeNone fs hl ad cap w0 w Hs hS hA hr h
    rw [HO]
    clear h HO
    go_enter Tryz.func22, Tryz.ntmps22
    go_wp2_with (first | (go_at_call 33; refine TN.mono ?_; clear hS TN; rintro e w ⟨rfl, hS⟩))
    go_ret2
    exact ⟨rfl, hS⟩
  | some t =>
    obtain ⟨q1, q2, q3, q4, q5⟩ := treeQ_some (treeP_some h).1
    have TS := treeSome fs hl ad cap w0 w Hs hS hA hr t h
    have NM := fun v H w R hS hm hT => nestedM t v H w0 w R hS hm hT (by omega)
    have VM := fun v H w R hS hm hT hB => valueM t bits [] adB none capB 0 v H w0 w R B B hS hm hT q3 (by simp; omega) hbl hB hrB hB (rd_nil B none) (fun _ => rfl) (Nat.le_refl _)
    rw [envE_nil] at VM
    by_cases hn : nst t > 8
    · have HO : evalP fs bits = (false, 8) := by unfold evalP; rw [h]; simp only [if_pos hn]
      have hn2 : (nst t : Int) > 8 := by omega
      rw [HO]
      clear h HO VM hn q4
      go_enter Tryz.func22, Tryz.ntmps22
      go_wp2_with (first | (go_at_call 33; refine TS.mono ?_; clear hS TS; rintro e w ⟨v, H, rfl, hT, hS⟩; obtain ⟨K, b, rfl⟩ := hT.form) | (go_at_call 53; refine (NM _ H _ _ hS (by (repeat (with_reducible first | exact mem_hd | apply mem_tl))) hT).mono ?_; clear hS; rintro e w ⟨rfl, hS⟩))
      go_ret2
      exact ⟨rfl, hS.drop⟩
    · have HO : evalP fs bits = (evT t (envD bits), 0) := by unfold evalP; rw [h]; simp only [if_neg hn]
      have hn2 : ¬ (nst t : Int) > 8 := by omega
      rw [HO]
      clear h HO hn q4
      generalize evT t (envD bits) = E at *
      go_enter Tryz.func22, Tryz.ntmps22
      go_wp2_with (first | (go_at_call 33; refine TS.mono ?_; clear hS TS; rintro e w ⟨v, H, rfl, hT, hS⟩; obtain ⟨K, b, rfl⟩ := hT.form) | (go_at_call 53; refine (NM _ H _ _ hS (by (repeat (with_reducible first | exact mem_hd | apply mem_tl))) hT).mono ?_; clear hS; rintro e w ⟨rfl, hS⟩) | (go_at_call 54; refine (VM _ H _ _ hS (by (repeat (with_reducible first | exact mem_hd | apply mem_tl))) hT (.tail _ hB)).mono ?_; clear hS; rintro e w ⟨rfl, hS⟩))
      go_ret2
      exact ⟨rfl, hS.drop⟩
end
end Go.Proofs.YthackanffcaejaaGreatDoor
