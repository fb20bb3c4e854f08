/- Package formula's small functions: how operators bind. -/
import Derived.Test.YthackanffcaejaaDoorMap
import Derived.Test.YthackanffcaejaaDoorCnf1
set_option linter.unusedSimpArgs false
set_option linter.unusedVariables false
set_option linter.unusedSectionVars false
set_option maxRecDepth 20000
namespace Go.Proofs.YthackanffcaejaaDoor
open Go Go.RowKit Go.SL

def tightP (op : Int) : Int := if op = 6 then 5 else if op = 7 then 3 else if op = 8 then 4 else if op = 9 then 2 else if op = 10 then 1 else 0
def tightD : DataW Unit := .map [(.int .i64 6, .lit (.int .i64 5)), (.int .i64 7, .lit (.int .i64 3)), (.int .i64 8, .lit (.int .i64 4)), (.int .i64 9, .lit (.int .i64 2)), (.int .i64 10, .lit (.int .i64 1))]
theorem tightD_at (op : Int) : tightD.atKey (.int .i64 op) (.lit (.int .i64 0)) = .lit (.int .i64 (tightP op)) := by
  by_cases h6 : op = 6
  · subst h6; rfl
  by_cases h7 : op = 7
  · subst h7; rfl
  by_cases h8 : op = 8
  · subst h8; rfl
  by_cases h9 : op = 9
  · subst h9; rfl
  by_cases h10 : op = 10
  · subst h10; rfl
  · have e : ∀ c : Int, op ≠ c → Lit.sameKey (.int .i64 c) (.int .i64 op) = false := fun c hc => by simp [Lit.sameKey, hc, Ne.symm hc]; first | done | omega
    simp [tightD, DataW.atKey, tightP, h6, h7, h8, h9, h10, e 6 h6, e 7 h7, e 8 h8, e 9 h9, e 10 h10]
theorem zeroInt (w : World) : (zeroValue 3).run Tryd.prog w = .ok (.int .i64 0) w := by
  obtain ⟨i, hi, hz⟩ : ∃ i, Tryd.prog.info? 3 = some i ∧ i.zero = some (.int .i64 0) := by
    have h : (Tryd.prog.info? 3).bind (·.zero) = some (.int .i64 0) := by kernel_rfl
    cases hi : Tryd.prog.info? 3 with
    | none => rw [hi] at h; cases h
    | some i => rw [hi] at h; exact ⟨i, rfl, h⟩
  simp [zeroValue, typeInfo, hi, hz]
theorem tight (op : Int) (h0 : -9223372036854775808 ≤ op) (h1 : op ≤ 9223372036854775807) (w0 w : World) (Hs : List HP) (hS : Sat w0 w Hs) :
    Calls Tryd.prog 120 #[.int .i64 op] w fun e w' => e = .returned (.int .i64 (tightP op)) ∧ Sat w0 w' Hs := by
  have hwf : (Lit.int .i64 op).wf = true := by simp [Lit.wf, IntKind.min, IntKind.max, IntKind.signed, IntKind.bits]; omega
  go_enter Tryd.func120, Tryd.ntmps120
  go_wp2_with (first | ((with_reducible apply (arm_makeMap Tryd.prog 3 (plainElem Tryd.prog 3) hS)); rfl; clear hS; intro MB w hS; (try simp only [Act.put, List.setIfInBounds_toArray, List.set_cons_zero, List.set_cons_succ])) | ((with_reducible apply (arm_mapSet hS)); (first | exact Or.inl rfl | exact Or.inr rfl); (first | with_reducible exact wanted_none | exact wanted_guard rfl rfl); (first | exact ev_tmp rfl | exact ev_const); (first | exact ev_tmp rfl | exact ev_const); (first | exact ev_tmp rfl | exact ev_const); exact Tryd.underlying199; exact (Maps.int_keyed Tryd.underlying3); (repeat (first | with_reducible exact mem_hd | with_reducible apply mem_tl)); exact (Maps.keyOf_int_mk Tryd.underlying3 (by decide)); exact (plainElem_int Tryd.underlying3 (by decide)); (unfold maxLen; omega); rfl; (repeat (first | with_reducible exact Upd.hd | with_reducible apply Upd.tl)); clear hS; intro w hS; (try simp only [Act.put, List.setIfInBounds_toArray, List.set_cons_zero, List.set_cons_succ])) | ((with_reducible apply (arm_lookup hS)); (first | with_reducible exact wanted_none | exact wanted_guard rfl rfl); (first | exact ev_tmp rfl | exact ev_const); (first | exact ev_tmp rfl | exact ev_const); exact Tryd.underlying199; exact (Maps.int_keyed Tryd.underlying3); (repeat (first | with_reducible exact mem_hd | with_reducible apply mem_tl)); exact (Maps.keyOf_int_mk Tryd.underlying3 hwf); exact zeroInt; exact (plainElem_int Tryd.underlying3 (by decide)); intro LV LP hlk; (try simp only [Act.put, List.setIfInBounds_toArray, List.set_cons_zero, List.set_cons_succ])))
  go_ret
  obtain ⟨c, rfl, hc, _⟩ := plainElem_int_inv Tryd.underlying3 hlk
  have hd := tightD_at op
  simp only [Prod.mk.injEq] at hc
  have hc1 : tightD.atKey (.int .i64 op) (.lit (.int .i64 0)) = .lit (.int .i64 c) := hc.1
  rw [hd] at hc1
  have : tightP op = c := by simpa using hc1
  exact ⟨by rw [this]; rfl, hS.drop⟩
end Go.Proofs.YthackanffcaejaaDoor
