/- Two lists of clauses held against each other; what a reading of clauses leaves. -/
import Derived.Test.YthackanffcaejaaDoorCl7
set_option linter.unusedSimpArgs false
set_option linter.unusedVariables false
set_option maxRecDepth 20000
namespace Go.Proofs.YthackanffcaejaaDoor
open Go Go.RowKit Go.SL Go.ClauseP Go.LinesP

theorem sameCnfE (v : Int) (es ls : List Int) (he : es.length ≤ maxLen) (hl : ls.length ≤ maxLen) (w0 w : World) (Hs : List HP) (hS : Sat w0 w Hs) {A1 A2 A3 A4 : HP} (h1 : A1 ∈ Hs) (h2 : A2 ∈ Hs) (h3 : A3 ∈ Hs) (h4 : A4 ∈ Hs)
    {ad1 ad2 ad3 ad4 : Option Addr} {c1 c2 c3 c4 : Nat} (r1 : Rd A1 ad1 (Is es)) (r2 : Rd A2 ad2 (Is ls)) (r3 : Rd A3 ad3 (Is es)) (r4 : Rd A4 ad4 (Is ls)) :
    Calls Tryd.prog 12 #[.agg #[.int .i64 v, .slice ad1 es.length c1, .slice ad2 ls.length c2], .agg #[.int .i64 v, .slice ad3 es.length c3, .slice ad4 ls.length c4]] w fun e w' => e = .returned (.bool true) ∧ Sat w0 w' Hs := by
  go_enter Tryd.func12, Tryd.ntmps12
  go_wp2_with (first | ((with_reducible apply (arm_box hS)); (first | with_reducible exact wanted_none | exact wanted_guard rfl rfl); (first | exact ev_tmp rfl | exact ev_const); (first | with_reducible exact cells_agg | exact cells_one rfl); clear hS; intro NB w hS; (try simp only [Act.put, List.setIfInBounds_toArray, List.set_cons_zero, List.set_cons_succ])) | ((with_reducible apply (arm_load hS)); (first | with_reducible exact wanted_none | exact wanted_guard rfl rfl); (first | exact ev_tmp rfl | exact ev_const); (repeat (first | with_reducible exact mem_hd | with_reducible apply mem_tl)); rfl; decide +kernel; (try simp only [Act.put, List.setIfInBounds_toArray, List.set_cons_zero, List.set_cons_succ])) | (go_at_call 31; (first | with_reducible refine (sameInts es es _ _ _ hS (by ((repeat (first | with_reducible exact mem_hd | with_reducible apply mem_tl)); (try assumption))) (by ((repeat (first | with_reducible exact mem_hd | with_reducible apply mem_tl)); (try assumption))) r1 r3 he he).mono ?_ | with_reducible refine (sameInts ls ls _ _ _ hS (by ((repeat (first | with_reducible exact mem_hd | with_reducible apply mem_tl)); (try assumption))) (by ((repeat (first | with_reducible exact mem_hd | with_reducible apply mem_tl)); (try assumption))) r2 r4 hl hl).mono ?_); clear hS; rintro e w ⟨rfl, hS⟩; (try simp only [decide_true])))
  go_ret
  exact ⟨rfl, hS.drop.drop⟩
theorem cnfQ_inl {w0 : World} {R : List HP} {c : CnfV} {e : Ending} {w' : World} (h : cnfQ w0 R (.inl c) e w') : ∃ (ad1 ad2 : Option Addr) (c1 c2 : Nat), e = .returned (.tuple #[.agg #[.int .i64 c.vars, .slice ad1 c.ends.length c1, .slice ad2 c.lits.length c2], .agg #[.int .i64 0, .int .i64 0, .int .i64 0]]) ∧ (c.ends.length ≤ maxLen ∧ c.lits.length ≤ maxLen) ∧ Sat w0 w' (own 3 1 ad1 c.ends.length c1 (Is c.ends) :: own 3 1 ad2 c.lits.length c2 (Is c.lits) :: R) := by
  obtain ⟨ad1, ad2, c1, c2, he, hS⟩ := h
  have h1 := hS.ownCap (xs := Is c.ends) mem_hd
  have h2 := hS.ownCap (xs := Is c.lits) (mem_tl mem_hd)
  exact ⟨ad1, ad2, c1, c2, he, ⟨by omega, by omega⟩, hS⟩
end Go.Proofs.YthackanffcaejaaDoor
