/- FormulaReads, for every text: the engine's Parse answers as the document's, the formula or the fault and its place, so the law returns true; nothing that stood in memory is changed. Condition: the listed tables, among them the two lists of signs, hold what the program's text lays. -/
import Derived.Test.YthackanffcaejaaDoorM1
import Derived.Test.YthackanffcaejaaDoorM20
import Derived.Test.YthackanffcaejaaDoorPRx10
import Derived.Test.YthackanffcaejaaDoorCards
import Derived.Test.YthackanffcaejaaDoorTie
import Derived.Deep.DeepWitnessRowRef
import Derived.ChangeMaps5
set_option linter.unusedVariables false
namespace Go.Proofs.YthackanffcaejaaDoor.FormulaReads
open Go.ChangeShapes Go.WideShapes Go.ChangeAt Go.RowKit Go.SL Go.ChangeMaps Go.LexP

theorem own0 : ownKnob Tryd.prog.godebug = none := by kernel_rfl
def rowsE : List (List (DataW Unit)) := signs11.map fun s => [.lit (.string s.1), .lit (.int .i64 (tokE s.2).1)]
def rowsR : List (List (DataW Unit)) := (signs11 ++ signs10).map fun s => [.lit (.string s.1), .lit (.int .i64 (tokF s.2).1), .lit (.int .i64 (tokF s.2).2)]
theorem metP {W : World} (hL : laidMetH Tryd.prog Rows.formulaReadsRow.laid W) : laidMet Tryd.prog Rows.formulaReadsRow.laid W := by
  rw [MakeChecks.laidMetH_plain _ _ _ (by kernel_rfl)] at hL; exact hL
theorem sigE {W : World} (hL : laidMetH Tryd.prog Rows.formulaReadsRow.laid W) : SigE W := by
  have hr : Lib.VarReads Tryd.prog W "strata/formula.signs" (.slice (rowsE.map .agg) []) := Lib.laidMet.reads (metP hL) (n := "strata/formula.signs") (d := Rows.laid_strata_formula_signs) (by simp [Rows.formulaReadsRow])
  obtain ⟨a, cap, h1, h2, h3⟩ := table_of (m := 2) (show Tryd.prog.globalNamed "strata/formula.signs" = some 2 by kernel_rfl) (show (Tryd.prog.globals[2]?).map (·.type) = some 186 by kernel_rfl) (by kernel_rfl) Tryd.underlying186 Tryd.underlying187
    (fun i f h => by
      match i, h with
      | 0, h => obtain rfl := Option.some.inj h; exact ⟨.inr Tryd.underlying9, rfl, by kernel_rfl⟩
      | 1, h => obtain rfl := Option.some.inj h; exact ⟨.inl Tryd.underlying3, rfl, by kernel_rfl⟩
      | n + 2, h => simp at h) (by kernel_rfl) rfl (by decide) (by decide) hr
  exact ⟨some a, cap, h1, h3, a, rfl, h2⟩
theorem sigR {W : World} (hL : laidMetH Tryd.prog Rows.formulaReadsRow.laid W) : SigR W := by
  have hr : Lib.VarReads Tryd.prog W "strata/strataref13.signs" (.slice (rowsR.map .agg) []) := Lib.laidMet.reads (metP hL) (n := "strata/strataref13.signs") (d := Rows.laid_strata_strataref13_signs) (by simp [Rows.formulaReadsRow])
  obtain ⟨a, cap, h1, h2, h3⟩ := table_of (m := 3) (show Tryd.prog.globalNamed "strata/strataref13.signs" = some 0 by kernel_rfl) (show (Tryd.prog.globals[0]?).map (·.type) = some 160 by kernel_rfl) (by kernel_rfl) Tryd.underlying160 Tryd.underlying161
    (fun i f h => by
      match i, h with
      | 0, h => obtain rfl := Option.some.inj h; exact ⟨.inr Tryd.underlying9, rfl, by kernel_rfl⟩
      | 1, h => obtain rfl := Option.some.inj h; exact ⟨.inl Tryd.underlying3, rfl, by kernel_rfl⟩
      | 2, h => obtain rfl := Option.some.inj h; exact ⟨.inl Tryd.underlying3, rfl, by kernel_rfl⟩
      | n + 3, h => simp at h) (by kernel_rfl) rfl (by decide) (by decide) hr
  exact ⟨some a, cap, h1, h3, a, rfl, h2⟩
set_option maxRecDepth 100000 in
theorem contract (H : Type) (enc : TypeId × Value → H) (W : World) (bs : Nat) (args : Array Value) (ds gs : List (DataW H)) (before : List MemPlace)
    (hval : ∀ (j : Nat) t v, Tryd.f7.params[j]? = some t → args[j]? = some v → Value.okWide Tryd.prog W .any bs t v)
    (hW : DataW.Whole enc Tryd.prog Tryd.f7.params.toList Rows.formulaReadsSpec.vars false W args.toList ds gs before) (hsz : (DataW.weightsEach Tryd.prog (Tryd.f7.params.toList ++ ((OpenSpec.ofChange Rows.formulaReadsSpec).bare.plain.varTypes Tryd.prog)) (ds ++ gs)).all (· ≤ reachBytes) = true) (hL : laidMetH Tryd.prog Rows.formulaReadsRow.laid W) :
    Calls Tryd.prog 7 args W fun e W' => ∃ v, e = .returned v ∧ Rows.formulaReadsSpec.post enc Tryd.prog Tryd.f7 false true false false W args v W' := by
  have hW' := hW
  obtain ⟨p, q, hA0, hV, rfl, hfz, hnd⟩ := hW
  have hA : DataW.TrodAll enc Tryd.prog W 0 (fun _ => true) true Tryd.f7.params.toList args.toList ds p := hA0
  rw [Tryd.params7] at hA hval
  obtain ⟨v0, vs0, d0, ds0, p0, q0, hargs, rfl, rfl, h0, r0⟩ := trodAll_cons hA
  obtain ⟨rfl, rfl, rfl⟩ := trodAll_nil r0
  obtain rfl : args = #[v0] := by cases args; simp_all
  obtain ⟨s, rfl, rfl, rfl, hsz0⟩ := open_string Tryd.underlying9 (hval 0 9 v0 rfl rfl) h0
  have hw1 : ∀ n ∈ (DataW.lit (.string s.data.toList) : DataW H).weights Tryd.prog 9, n ≤ reachBytes := fun n hn => by
    refine of_decide_eq_true (List.all_eq_true.1 hsz n ?_)
    rw [Tryd.params7]
    simp [DataW.weightsEach, hn]
  have l1 : s.data.toList.length ≤ 140737488351232 := by
    have := hw1 s.data.toList.length (by simp [DataW.weights])
    unfold reachBytes at this
    exact this
  refine (show Calls Tryd.prog 7 #[.string s] W _ from readsLaw s.data.toList l1 W (sigE hL) (sigR hL)).mono fun e W' ⟨he, hS⟩ => ⟨.bool true, he, ?_⟩
  exact post_law (show laidOutB Tryd.prog = true by kernel_rfl) (by rw [Tryd.params7]; intro t ht; simp at ht; subst ht; exact ⟨by kernel_rfl, of_decide_eq_true (by kernel_rfl)⟩) rfl
    (fun ds hds => by match ds, hds with | [d], _ => exact ⟨rfl, rfl, rfl⟩) rfl Tryd.underlying4 hW' (hS.below mem_hd)

noncomputable def laidWorld (os : Os) : World := World.laidAll Tryd.prog os Rows.formulaReadsRow.laid
set_option maxRecDepth 100000 in
theorem laid_met (os : Os) : laidMet Tryd.prog Rows.formulaReadsRow.laid ((laidWorld os).forCall (fun _ _ => 0) ⟨#[], #[.string ⟨#[]⟩], []⟩).memory :=
  laidMet_laidAll _ (by kernel_rfl) (by kernel_rfl)
theorem reads (os : Os) {H : Type} (enc : TypeId × Value → H) : ∃ places, DataW.whole enc Tryd.prog ((laidWorld os).forCall (fun _ _ => 0) ⟨#[], #[.string ⟨#[]⟩], []⟩).memory Tryd.f7.params.toList Rows.formulaReadsSpec.vars false #[Value.string ⟨#[]⟩].toList 8 = some ([.lit (.string [])], [], places) :=
  ⟨[], by kernel_rfl⟩

set_option maxRecDepth 100000 in
theorem lifted (os : Os) (started : os.Started) (H : Type) (enc : TypeId × Value → H) (F : Stop.Interp) :
    ReturnsInHanded {} Tryd.checked os 7 .any ((OpenSpec.ofChange Rows.formulaReadsSpec).preRow enc Tryd.prog Tryd.f7 Rows.formulaReadsRow.domain false Rows.formulaReadsRow.laid) (((OpenSpec.ofChange Rows.formulaReadsSpec).at F).post enc Tryd.prog Tryd.f7 false true false false) := by
  obtain ⟨places, hx⟩ := reads os enc
  refine returnsInHanded_of_row (C := Tryd.checked) (s := OpenSpec.ofChange Rows.formulaReadsSpec) own0 started (by kernel_rfl) Tryd.func7
    (witness_row_atRef (enc := enc) (C := Tryd.checked) false (laidWorld os) #[.string ⟨#[]⟩] (World.laidAll_os _ _ _) (by kernel_rfl) (by kernel_rfl) (by kernel_rfl)
      (OpenSpec.preRow_of_cond 8 hx (by kernel_rfl) (fun k hk => by cases hk) (by kernel_rfl) (laid_met os))) ?_
  intro W bs args ds gs before hval hW _ _ hsz hL _ _
  exact contract H enc W bs args ds gs before hval hW hsz hL

theorem said : Rows.FormulaReadsSaid :=
  OpenClaim.holds_of_cond 7 Tryd.f7 rfl rfl rfl rfl rfl rfl rfl ⟨rfl, rfl, rfl, rfl, rfl⟩ rfl rfl rfl rfl rfl (by kernel_rfl) Tryd.func7 (by kernel_rfl)
    (of_decide_eq_true (by kernel_rfl)) (by unfold Func.isWrapper; first | (rw [if_pos (by decide +kernel)]; kernel_rfl) | (rw [if_neg (by decide +kernel)]; exact ⟨rfl, rfl⟩))
    (fun os started H enc _ F => by rw [OpenClaim.pre_eq_preRow]; exact lifted os started H enc F)

theorem plain (f : FuncId) (fn : Func) (hf : Tryd.pinned.checked.prog.funcNamed "strata/stratalaw13.FormulaReads" = some f) (hfn : Tryd.pinned.checked.prog.funcs[f]? = some fn) :
    true = Tryd.pinned.checked.prog.looks [] ∧ ∀ (j : Nat) t, fn.params[j]? = some t → Tryd.pinned.checked.prog.wantsStandIn t = false := by
  obtain rfl : f = 7 := Option.some.inj ((show Tryd.prog.funcNamed "strata/stratalaw13.FormulaReads" = some 7 by kernel_rfl).symm.trans hf) |>.symm
  obtain rfl : fn = Tryd.f7 := (Option.some.inj (Tryd.func7.symm.trans hfn)).symm
  refine ⟨by kernel_rfl, fun j t ht => ?_⟩
  rw [Tryd.params7] at ht
  obtain rfl : t = 9 := by simpa using Array.mem_of_getElem? ht
  exact (show Tryd.prog.wantsStandIn 9 = false by kernel_rfl)

theorem card : Rows.FormulaReadsCardSaid :=
  Claim7.holds_tied_plain_at .later [] _ _ _ _ said (fun _ h => by cases h) (by kernel_rfl) (fun _ h => by cases h) formulaReads_row_tie rfl ⟨rfl, rfl⟩ (by kernel_rfl) rfl plain (by kernel_rfl)
end Go.Proofs.YthackanffcaejaaDoor.FormulaReads
