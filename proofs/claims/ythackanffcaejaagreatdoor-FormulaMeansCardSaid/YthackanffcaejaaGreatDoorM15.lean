/- A part of the proof: Form6. -/
import Derived.Test.YthackanffcaejaaGreatDoorM1
import Derived.Test.YthackanffcaejaaGreatDoorM14
set_option linter.unusedSimpArgs false
set_option linter.unusedVariables false
set_option linter.unusedSectionVars false
set_option maxRecDepth 20000
namespace Go.Proofs.YthackanffcaejaaGreatDoor
open Go Go.RowKit Go.SL

theorem arity (op n : Int) (w0 w : World) (Hs : List HP) (hS : Sat w0 w Hs) :
    Calls Tryz.prog 68 #[.agg #[.int .i64 op, .int .i64 n]] w fun e w' => e = .returned (.int .i64 (arityP op n)) ∧ Sat w0 w' Hs := by
  have pf : ∀ r, arityP op n = r → Calls Tryz.prog 68 #[.agg #[.int .i64 op, .int .i64 n]] w (fun e w' => e = .returned (.int .i64 r) ∧ Sat w0 w' Hs) → Calls Tryz.prog 68 #[.agg #[.int .i64 op, .int .i64 n]] w fun e w' => e = .returned (.int .i64 (arityP op n)) ∧ Sat w0 w' Hs := fun r h k => by rw [h]; exact k
  by_cases o1 : op = 1
  · subst o1
    by_cases q0 : n = 0
    · subst q0; refine pf (0) ?_ (ar0   w0 w Hs hS)
      (unfold arityP; (repeat' split) <;> omega)
    by_cases q1 : n = 1
    · subst q1; refine pf (0) ?_ (ar1   w0 w Hs hS)
      (unfold arityP; (repeat' split) <;> omega)
    refine pf (-1) ?_ (ar2 n (by (simp; omega)) (by (simp; omega)) w0 w Hs hS)
    (unfold arityP; (repeat' split) <;> omega)
  by_cases o2 : op = 2
  · subst o2
    by_cases q0 : n < 0
    · refine pf (-1) ?_ (ar3 n (by (simp; omega)) w0 w Hs hS)
      (unfold arityP; (repeat' split) <;> omega)
    by_cases q1 : n < 65536
    · refine pf (0) ?_ (ar4 n (by (simp; omega)) (by (simp; omega)) w0 w Hs hS)
      (unfold arityP; (repeat' split) <;> omega)
    refine pf (-1) ?_ (ar5 n (by (simp; omega)) (by (simp; omega)) w0 w Hs hS)
    (unfold arityP; (repeat' split) <;> omega)
  by_cases o3 : op = 3
  · subst o3
    by_cases q0 : n = 0
    · subst q0; refine pf (1) ?_ (ar6   w0 w Hs hS)
      (unfold arityP; (repeat' split) <;> omega)
    refine pf (-1) ?_ (ar7 n (by (simp; omega)) w0 w Hs hS)
    (unfold arityP; (repeat' split) <;> omega)
  by_cases o4 : op = 4
  · subst o4
    by_cases q0 : n < 0
    · refine pf (-1) ?_ (ar8 n (by (simp; omega)) w0 w Hs hS)
      (unfold arityP; (repeat' split) <;> omega)
    by_cases q1 : n < 65536
    · refine pf (1) ?_ (ar9 n (by (simp; omega)) (by (simp; omega)) w0 w Hs hS)
      (unfold arityP; (repeat' split) <;> omega)
    refine pf (-1) ?_ (ar10 n (by (simp; omega)) (by (simp; omega)) w0 w Hs hS)
    (unfold arityP; (repeat' split) <;> omega)
  by_cases o5 : op = 5
  · subst o5
    by_cases q0 : n < 0
    · refine pf (-1) ?_ (ar11 n (by (simp; omega)) w0 w Hs hS)
      (unfold arityP; (repeat' split) <;> omega)
    by_cases q1 : n < 65536
    · refine pf (1) ?_ (ar12 n (by (simp; omega)) (by (simp; omega)) w0 w Hs hS)
      (unfold arityP; (repeat' split) <;> omega)
    refine pf (-1) ?_ (ar13 n (by (simp; omega)) (by (simp; omega)) w0 w Hs hS)
    (unfold arityP; (repeat' split) <;> omega)
  by_cases o11 : op = 11
  · subst o11
    by_cases q0 : n = 0
    · subst q0; refine pf (3) ?_ (ar16   w0 w Hs hS)
      (unfold arityP; (repeat' split) <;> omega)
    refine pf (-1) ?_ (ar17 n (by (simp; omega)) w0 w Hs hS)
    (unfold arityP; (repeat' split) <;> omega)
  by_cases p6 : 6 ≤ op
  · by_cases p7 : op ≤ 10
    · by_cases q0 : n = 0
      · subst q0; refine pf (2) ?_ (ar14 op (by (simp; omega)) (by (simp; omega)) (by (simp; omega)) (by (simp; omega)) (by (simp; omega)) (by (simp; omega)) (by (simp; omega)) w0 w Hs hS)
        (unfold arityP; (repeat' split) <;> omega)
      · refine pf (-1) ?_ (ar15 op n (by (simp; omega)) (by (simp; omega)) (by (simp; omega)) (by (simp; omega)) (by (simp; omega)) (by (simp; omega)) (by (simp; omega)) (by (simp; omega)) (by (simp; omega)) w0 w Hs hS)
        (unfold arityP; (repeat' split) <;> omega)
    · refine pf (-1) ?_ (ar19 op n (by (simp; omega)) (by (simp; omega)) (by (simp; omega)) (by (simp; omega)) (by (simp; omega)) (by (simp; omega)) (by (simp; omega)) (by (simp; omega)) w0 w Hs hS)
      (unfold arityP; (repeat' split) <;> omega)
  · refine pf (-1) ?_ (ar18 op n (by (simp; omega)) (by (simp; omega)) (by (simp; omega)) (by (simp; omega)) (by (simp; omega)) (by (simp; omega)) (by (simp; omega)) w0 w Hs hS)
    (unfold arityP; (repeat' split) <;> omega)
end Go.Proofs.YthackanffcaejaaGreatDoor
