/- FormulaSays, for every list of nodes and every list of truths: the engine's Eval answers as the document's, and what was handed in is as it was; so the law returns true; nothing that stood in memory is changed. Condition: the listed tables, among them the list of signs, hold what the program's text lays. -/
import Derived.Test.YthackanffcaejaaGreatDoorY1
import Derived.Test.YthackanffcaejaaGreatDoorYSaysLaw
import Derived.Test.YthackanffcaejaaGreatDoorYArgB
import Derived.Test.YthackanffcaejaaGreatDoorCards
import Derived.Test.YthackanffcaejaaGreatDoorTie
import Derived.Deep.DeepWitnessRowRef
set_option linter.unusedVariables false
namespace Go.Proofs.YthackanffcaejaaGreatDoor.FormulaSays
open Go.ChangeShapes Go.WideShapes Go.ChangeAt Go.RowKit Go.SL Go.LexP

theorem own0 : ownKnob Tryz.prog.godebug = none := by kernel_rfl
theorem gTab : Tryz.prog.globalNamed "internal/strconv.uint64pow10" = some 3 := by kernel_rfl
theorem gTabType : (Tryz.prog.globals[3]?).map (·.type) = some 224 := by kernel_rfl
theorem cellsT : Tryz.prog.cellsOf 224 = 20 := by kernel_rfl
theorem cellsE : Tryz.prog.cellsOf 214 = 1 := by kernel_rfl
def nums : DataW Unit → List Int
  | .agg ps => ps.map fun | .lit (.int _ n) => n | _ => 0
  | _ => []
theorem isTab : (Rows.laid_internal_strconv_uint64pow10 : DataW Unit) = Lib.tabData .u64 Lib.pow10Tab := by kernel_rfl
def rowsE : List (List (DataW Unit)) := signs11.map fun s => [.lit (.string s.1), .lit (.int .i64 (tokE s.2).1)]
theorem metP {W : World} (hL : laidMetH Tryz.prog Rows.formulaSaysRow.laid W) : laidMet Tryz.prog Rows.formulaSaysRow.laid W := by
  rw [MakeChecks.laidMetH_plain _ _ _ (by kernel_rfl)] at hL; exact hL
theorem sigE {W : World} (hL : laidMetH Tryz.prog Rows.formulaSaysRow.laid W) : SigE W := by
  have hr : Lib.VarReads Tryz.prog W "strata/formula.signs" (.slice (rowsE.map .agg) []) := Lib.laidMet.reads (metP hL) (n := "strata/formula.signs") (d := Rows.laid_strata_formula_signs) (by simp [Rows.formulaSaysRow])
  obtain ⟨a, cap, h1, h2, h3⟩ := table_of (m := 2) (show Tryz.prog.globalNamed "strata/formula.signs" = some 1 by kernel_rfl) (show (Tryz.prog.globals[1]?).map (·.type) = some 205 by kernel_rfl) (by kernel_rfl) Tryz.underlying205 Tryz.underlying206
    (fun i f h => by
      match i, h with
      | 0, h => obtain rfl := Option.some.inj h; exact ⟨.inr Tryz.underlying9, rfl, by kernel_rfl⟩
      | 1, h => obtain rfl := Option.some.inj h; exact ⟨.inl Tryz.underlying3, rfl, by kernel_rfl⟩
      | n + 2, h => simp at h) (by kernel_rfl) rfl (by decide) (by decide) hr
  exact ⟨some a, cap, h1, h3, a, rfl, h2⟩
theorem table {W : World} (h : laidMetH Tryz.prog Rows.formulaSaysRow.laid W) : Tab W := by
  have h0 := metP h
  have h1 : laidMet Tryz.prog (("internal/strconv.uint64pow10", Rows.laid_internal_strconv_uint64pow10) :: [("strata/formula.signs", Rows.laid_strata_formula_signs)]) W := laidMet_tail (x := ("math/bits.deBruijn64tab", Rows.laid_math_bits_deBruijn64tab)) (laidMet_tail (x := ("math/bits.deBruijn32tab", Rows.laid_math_bits_deBruijn32tab)) h0)
  rw [isTab] at h1
  exact Lib.tabIs_of_head gTab gTabType Tryz.underlying224 Tryz.underlying214 cellsE cellsT h1

theorem bytesB : Tryz.prog.bytesOf 4 = 1 := by kernel_rfl
theorem bytesN : Tryz.prog.bytesOf 50 = 16 := by kernel_rfl

set_option maxRecDepth 100000 in
theorem contract (H : Type) (enc : TypeId × Value → H) (W : World) (bs : Nat) (args : Array Value) (ds gs : List (DataW H)) (before : List MemPlace)
    (hval : ∀ (j : Nat) t v, Tryz.f8.params[j]? = some t → args[j]? = some v → Value.okWide Tryz.prog W .any bs t v)
    (hW : DataW.Whole enc Tryz.prog Tryz.f8.params.toList Rows.formulaSaysSpec.vars false W args.toList ds gs before) (hsz : (DataW.weightsEach Tryz.prog (Tryz.f8.params.toList ++ ((OpenSpec.ofChange Rows.formulaSaysSpec).bare.plain.varTypes Tryz.prog)) (ds ++ gs)).all (· ≤ reachBytes) = true) (hL : laidMetH Tryz.prog Rows.formulaSaysRow.laid W) :
    Calls Tryz.prog 8 args W fun e W' => ∃ v, e = .returned v ∧ Rows.formulaSaysSpec.post enc Tryz.prog Tryz.f8 false true false false W args v W' := by
  have hW' := hW
  obtain ⟨p, q, hA0, hV, rfl, hfz, hnd⟩ := hW
  have hA : DataW.TrodAll enc Tryz.prog W 0 (fun _ => true) true Tryz.f8.params.toList args.toList ds p := hA0
  rw [Tryz.params8] at hA hval
  obtain ⟨v0, vs0, d0, ds0, p0, q0, hargs, rfl, rfl, h0, r0⟩ := trodAll_cons hA
  obtain ⟨v1, vs1, d1, ds1, p1, q1, hargs1, rfl, rfl, h1, r1⟩ := trodAll_cons r0
  obtain ⟨rfl, rfl, rfl⟩ := trodAll_nil r1
  obtain rfl : args = #[v0, v1] := by cases args; simp_all
  obtain ⟨fuel, h0⟩ := h0
  obtain ⟨fuel1, h1⟩ := h1
  obtain ⟨ad, fs, c, e0, k1, s1, b1⟩ := argNodes h0
  obtain ⟨adb, zs, cb, e2, k2, s2, b2⟩ := argBools h1
  obtain ⟨a', len', cap', rfl⟩ := okWide_slice Tryz.underlying22 (hval 0 22 v0 rfl rfl)
  obtain ⟨a2, len2, cap2, rfl⟩ := okWide_slice Tryz.underlying42 (hval 1 42 v1 rfl rfl)
  have e1 : Value.slice a' len' cap' = .slice ad fs.length c := by
    have : [Value.slice a' len' cap'] = [Value.slice ad fs.length c] := e0
    simpa using this
  have e3 : Value.slice a2 len2 cap2 = .slice adb zs.length cb := by
    have : [Value.slice a2 len2 cap2] = [Value.slice adb zs.length cb] := e2
    simpa using this
  rw [e1, e3] at hW' hval ⊢
  have hw1 : ∀ n ∈ d0.weights Tryz.prog 22 ++ d1.weights Tryz.prog 42, n ≤ reachBytes := fun n hn => by
    refine of_decide_eq_true (List.all_eq_true.1 hsz n ?_)
    rw [Tryz.params8]
    rcases List.mem_append.1 hn with hn | hn <;> simp [DataW.weightsEach, hn]
  have l1 := b1 reachBytes fun n hn => hw1 n (List.mem_append_left _ hn)
  have l2 := b2 reachBytes fun n hn => hw1 n (List.mem_append_right _ hn)
  rw [bytesN] at l1
  rw [bytesB] at l2
  unfold reachBytes at l1 l2
  refine (saysLaw fs (by omega) zs (by omega) ad c adb cb W s1 s2 k2 (table hL) (sigE hL)).mono fun e W' ⟨he, hS⟩ => ⟨.bool true, he, ?_⟩
  exact post_law (show laidOutB Tryz.prog = true by kernel_rfl) (by rw [Tryz.params8]; intro t ht; simp at ht; rcases ht with rfl | rfl <;> exact ⟨by kernel_rfl, of_decide_eq_true (by kernel_rfl)⟩) rfl
    (fun ds hds => by match ds, hds with | [d, d'], _ => exact ⟨rfl, rfl, rfl⟩) rfl Tryz.underlying4 hW' (hS.below mem_hd)

noncomputable def laidWorld (os : Os) : World := World.laidAll Tryz.prog os Rows.formulaSaysRow.laid
set_option maxRecDepth 100000 in
theorem laid_met (os : Os) : laidMet Tryz.prog Rows.formulaSaysRow.laid ((laidWorld os).forCall (fun _ _ => 0) ⟨#[], #[.slice none 0 0, .slice none 0 0], []⟩).memory :=
  laidMet_laidAll _ (by kernel_rfl) (by kernel_rfl)
theorem reads (os : Os) {H : Type} (enc : TypeId × Value → H) : ∃ places, DataW.whole enc Tryz.prog ((laidWorld os).forCall (fun _ _ => 0) ⟨#[], #[.slice none 0 0, .slice none 0 0], []⟩).memory Tryz.f8.params.toList Rows.formulaSaysSpec.vars false #[Value.slice none 0 0, Value.slice none 0 0].toList 8 = some ([.nil, .nil], [], places) :=
  ⟨[], by kernel_rfl⟩

set_option maxRecDepth 100000 in
theorem lifted (os : Os) (started : os.Started) (H : Type) (enc : TypeId × Value → H) (F : Stop.Interp) :
    ReturnsInHanded {} Tryz.checked os 8 .any ((OpenSpec.ofChange Rows.formulaSaysSpec).preRow enc Tryz.prog Tryz.f8 Rows.formulaSaysRow.domain false Rows.formulaSaysRow.laid) (((OpenSpec.ofChange Rows.formulaSaysSpec).at F).post enc Tryz.prog Tryz.f8 false true false false) := by
  obtain ⟨places, hx⟩ := reads os enc
  refine returnsInHanded_of_row (C := Tryz.checked) (s := OpenSpec.ofChange Rows.formulaSaysSpec) own0 started (by kernel_rfl) Tryz.func8
    (witness_row_atRef (enc := enc) (C := Tryz.checked) false (laidWorld os) #[.slice none 0 0, .slice none 0 0] (World.laidAll_os _ _ _) (by kernel_rfl) (by kernel_rfl) (by kernel_rfl)
      (OpenSpec.preRow_of_cond 8 hx (by kernel_rfl) (fun k hk => by cases hk) (by kernel_rfl) (laid_met os))) ?_
  intro W bs args ds gs before hval hW _ _ hsz hL _ _
  exact contract H enc W bs args ds gs before hval hW hsz hL

theorem said : Rows.FormulaSaysSaid :=
  OpenClaim.holds_of_cond 8 Tryz.f8 rfl rfl rfl rfl rfl rfl rfl ⟨rfl, rfl, rfl, rfl, rfl⟩ rfl rfl rfl rfl rfl (by kernel_rfl) Tryz.func8 (by kernel_rfl)
    (of_decide_eq_true (by kernel_rfl)) (by unfold Func.isWrapper; first | (rw [if_pos (by decide +kernel)]; kernel_rfl) | (rw [if_neg (by decide +kernel)]; exact ⟨rfl, rfl⟩))
    (fun os started H enc _ F => by rw [OpenClaim.pre_eq_preRow]; exact lifted os started H enc F)

/-- No parameter wants a stand-in; the program's own looks are off. -/
theorem plain (f : FuncId) (fn : Func) (hf : Tryz.pinned.checked.prog.funcNamed "strata/stratalaw13.FormulaSays" = some f) (hfn : Tryz.pinned.checked.prog.funcs[f]? = some fn) :
    true = Tryz.pinned.checked.prog.looks [] ∧ ∀ (j : Nat) t, fn.params[j]? = some t → Tryz.pinned.checked.prog.wantsStandIn t = false := by
  obtain rfl : f = 8 := Option.some.inj ((show Tryz.prog.funcNamed "strata/stratalaw13.FormulaSays" = some 8 by kernel_rfl).symm.trans hf) |>.symm
  obtain rfl : fn = Tryz.f8 := (Option.some.inj (Tryz.func8.symm.trans hfn)).symm
  refine ⟨by kernel_rfl, fun j t ht => ?_⟩
  rw [Tryz.params8] at ht
  have hm := Array.mem_of_getElem? ht
  simp at hm
  rcases hm with rfl | rfl
  · exact (show Tryz.prog.wantsStandIn 22 = false by kernel_rfl)
  · exact (show Tryz.prog.wantsStandIn 42 = false by kernel_rfl)

theorem card : Rows.FormulaSaysCardSaid :=
  Claim7.holds_tied_plain_at .later [] _ _ _ _ said (fun _ h => by cases h) (by kernel_rfl) (fun _ h => by cases h) formulaSays_row_tie rfl ⟨rfl, rfl⟩ (by kernel_rfl) rfl plain (by kernel_rfl)
end Go.Proofs.YthackanffcaejaaGreatDoor.FormulaSays
