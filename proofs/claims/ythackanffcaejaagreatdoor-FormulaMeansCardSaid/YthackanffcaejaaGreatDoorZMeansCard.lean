/- FormulaMeans, for every two lists of nodes, every number and every list of truths: what the engine's Eval says of larger formulas is said by the smaller ones (the opposite, the operators of two, a quantifier by both truths of its variable); so the law returns true; nothing that stood in memory is changed. Condition: the listed tables, among them the list of signs, hold what the program's text lays. -/
import Derived.Test.YthackanffcaejaaGreatDoorZ1
import Derived.Test.YthackanffcaejaaGreatDoorZMeansEnd
import Derived.Test.YthackanffcaejaaGreatDoorYArgB
import Derived.Test.YthackanffcaejaaGreatDoorCards
import Derived.Test.YthackanffcaejaaGreatDoorTie
import Derived.Deep.DeepWitnessRowRef
set_option linter.unusedVariables false
namespace Go.Proofs.YthackanffcaejaaGreatDoor.FormulaMeans
open Go.ChangeShapes Go.WideShapes Go.ChangeAt Go.RowKit Go.SL Go.LexP

theorem own0 : ownKnob Tryz.prog.godebug = none := by kernel_rfl
theorem gTab : Tryz.prog.globalNamed "internal/strconv.uint64pow10" = some 3 := by kernel_rfl
theorem gTabType : (Tryz.prog.globals[3]?).map (·.type) = some 224 := by kernel_rfl
theorem cellsT : Tryz.prog.cellsOf 224 = 20 := by kernel_rfl
theorem cellsE : Tryz.prog.cellsOf 214 = 1 := by kernel_rfl
def nums : DataW Unit → List Int
  | .agg ps => ps.map fun | .lit (.int _ n) => n | _ => 0
  | _ => []
theorem isTab : (Rows.laid_internal_strconv_uint64pow10 : DataW Unit) = Lib.tabData .u64 Lib.pow10Tab := by kernel_rfl
def rowsE : List (List (DataW Unit)) := signs11.map fun s => [.lit (.string s.1), .lit (.int .i64 (tokE s.2).1)]
theorem metP {W : World} (hL : laidMetH Tryz.prog Rows.formulaMeansRow.laid W) : laidMet Tryz.prog Rows.formulaMeansRow.laid W := by
  rw [MakeChecks.laidMetH_plain _ _ _ (by kernel_rfl)] at hL; exact hL
theorem sigE {W : World} (hL : laidMetH Tryz.prog Rows.formulaMeansRow.laid W) : SigE W := by
  have hr : Lib.VarReads Tryz.prog W "strata/formula.signs" (.slice (rowsE.map .agg) []) := Lib.laidMet.reads (metP hL) (n := "strata/formula.signs") (d := Rows.laid_strata_formula_signs) (by simp [Rows.formulaMeansRow])
  obtain ⟨a, cap, h1, h2, h3⟩ := table_of (m := 2) (show Tryz.prog.globalNamed "strata/formula.signs" = some 1 by kernel_rfl) (show (Tryz.prog.globals[1]?).map (·.type) = some 205 by kernel_rfl) (by kernel_rfl) Tryz.underlying205 Tryz.underlying206
    (fun i f h => by
      match i, h with
      | 0, h => obtain rfl := Option.some.inj h; exact ⟨.inr Tryz.underlying9, rfl, by kernel_rfl⟩
      | 1, h => obtain rfl := Option.some.inj h; exact ⟨.inl Tryz.underlying3, rfl, by kernel_rfl⟩
      | n + 2, h => simp at h) (by kernel_rfl) rfl (by decide) (by decide) hr
  exact ⟨some a, cap, h1, h3, a, rfl, h2⟩
theorem table {W : World} (h : laidMetH Tryz.prog Rows.formulaMeansRow.laid W) : Tab W := by
  have h0 := metP h
  have h1 : laidMet Tryz.prog (("internal/strconv.uint64pow10", Rows.laid_internal_strconv_uint64pow10) :: [("strata/formula.signs", Rows.laid_strata_formula_signs)]) W := laidMet_tail (x := ("math/bits.deBruijn64tab", Rows.laid_math_bits_deBruijn64tab)) (laidMet_tail (x := ("math/bits.deBruijn32tab", Rows.laid_math_bits_deBruijn32tab)) h0)
  rw [isTab] at h1
  exact Lib.tabIs_of_head gTab gTabType Tryz.underlying224 Tryz.underlying214 cellsE cellsT h1

theorem bytesB : Tryz.prog.bytesOf 4 = 1 := by kernel_rfl
theorem bytesN : Tryz.prog.bytesOf 50 = 16 := by kernel_rfl

set_option maxRecDepth 100000 in
theorem contract (H : Type) (enc : TypeId × Value → H) (W : World) (bs : Nat) (args : Array Value) (ds gs : List (DataW H)) (before : List MemPlace)
    (hval : ∀ (j : Nat) t v, Tryz.f9.params[j]? = some t → args[j]? = some v → Value.okWide Tryz.prog W .any bs t v)
    (hW : DataW.Whole enc Tryz.prog Tryz.f9.params.toList Rows.formulaMeansSpec.vars false W args.toList ds gs before) (hsz : (DataW.weightsEach Tryz.prog (Tryz.f9.params.toList ++ ((OpenSpec.ofChange Rows.formulaMeansSpec).bare.plain.varTypes Tryz.prog)) (ds ++ gs)).all (· ≤ reachBytes) = true) (hL : laidMetH Tryz.prog Rows.formulaMeansRow.laid W) :
    Calls Tryz.prog 9 args W fun e W' => ∃ v, e = .returned v ∧ Rows.formulaMeansSpec.post enc Tryz.prog Tryz.f9 false true false false W args v W' := by
  have hW' := hW
  obtain ⟨p, q, hA0, hV, rfl, hfz, hnd⟩ := hW
  have hA : DataW.TrodAll enc Tryz.prog W 0 (fun _ => true) true Tryz.f9.params.toList args.toList ds p := hA0
  rw [Tryz.params9] at hA hval
  obtain ⟨v0, vs0, d0, ds0, p0, q0, hargs, rfl, rfl, h0, r0⟩ := trodAll_cons hA
  obtain ⟨v1, vs1, d1, ds1, p1, q1, hargs1, rfl, rfl, h1, r1⟩ := trodAll_cons r0
  obtain ⟨v2, vs2, d2, ds2, p2, q2, hargs2, rfl, rfl, h2, r2⟩ := trodAll_cons r1
  obtain ⟨v3, vs3, d3, ds3, p3, q3, hargs3, rfl, rfl, h3, r3⟩ := trodAll_cons r2
  obtain ⟨rfl, rfl, rfl⟩ := trodAll_nil r3
  obtain rfl : args = #[v0, v1, v2, v3] := by cases args; simp_all
  obtain ⟨fuel0, h0⟩ := h0
  obtain ⟨fuel1, h1⟩ := h1
  obtain ⟨fuel2, h2⟩ := h2
  obtain ⟨fuel3, h3⟩ := h3
  obtain ⟨adf, f, cf, e0, k0, s0, b0⟩ := argNodes h0
  obtain ⟨adg, g, cg, e1, k1, s1, b1⟩ := argNodes h1
  obtain ⟨z, e2, _, wz⟩ := DataW.trod_int Tryz.underlying3 h2
  obtain ⟨adb, zs, cb, e3, k3, s3, b3⟩ := argBools h3
  obtain ⟨a0', l0', c0', rfl⟩ := okWide_slice Tryz.underlying22 (hval 0 22 v0 rfl rfl)
  obtain ⟨a1', l1', c1', rfl⟩ := okWide_slice Tryz.underlying22 (hval 1 22 v1 rfl rfl)
  obtain ⟨z', rfl⟩ := okWide_int Tryz.underlying3 (hval 2 3 v2 rfl rfl)
  obtain ⟨a3', l3', c3', rfl⟩ := okWide_slice Tryz.underlying42 (hval 3 42 v3 rfl rfl)
  have g0 : Value.slice a0' l0' c0' = .slice adf f.length cf := by
    have : [Value.slice a0' l0' c0'] = [Value.slice adf f.length cf] := e0
    simpa using this
  have g1 : Value.slice a1' l1' c1' = .slice adg g.length cg := by
    have : [Value.slice a1' l1' c1'] = [Value.slice adg g.length cg] := e1
    simpa using this
  have g2 : Value.int .i64 z' = .int .i64 z := by
    have : [Value.int .i64 z'] = [Value.int .i64 z] := e2
    simpa using this
  have g3 : Value.slice a3' l3' c3' = .slice adb zs.length cb := by
    have : [Value.slice a3' l3' c3'] = [Value.slice adb zs.length cb] := e3
    simpa using this
  rw [g0, g1, g2, g3] at hW' hval ⊢
  have hw1 : ∀ n ∈ d0.weights Tryz.prog 22 ++ d1.weights Tryz.prog 22 ++ d3.weights Tryz.prog 42, n ≤ reachBytes := fun n hn => by
    refine of_decide_eq_true (List.all_eq_true.1 hsz n ?_)
    rw [Tryz.params9]
    rcases List.mem_append.1 hn with hn | hn
    · rcases List.mem_append.1 hn with hn | hn <;> simp [DataW.weightsEach, hn]
    · simp [DataW.weightsEach, hn]
  have l0 := b0 reachBytes fun n hn => hw1 n (List.mem_append_left _ (List.mem_append_left _ hn))
  have l1 := b1 reachBytes fun n hn => hw1 n (List.mem_append_left _ (List.mem_append_right _ hn))
  have l3 := b3 reachBytes fun n hn => hw1 n (List.mem_append_right _ hn)
  rw [bytesN] at l0 l1
  rw [bytesB] at l3
  unfold reachBytes at l0 l1 l3
  have hz : -9223372036854775808 ≤ z ∧ z ≤ 9223372036854775807 := by simpa [Lit.wf, IntKind.min, IntKind.max, IntKind.signed, IntKind.bits] using wz
  refine (meansLaw f (by omega) g (by omega) zs (by omega) adf cf adg cg adb cb W s0 s1 s3 k0 k1 k3 (table hL) (sigE hL) z hz.1 hz.2).mono fun e W' ⟨he, hS⟩ => ⟨.bool true, he, ?_⟩
  exact post_law (show laidOutB Tryz.prog = true by kernel_rfl) (by rw [Tryz.params9]; intro t ht; simp at ht; rcases ht with rfl | rfl | rfl <;> exact ⟨by kernel_rfl, of_decide_eq_true (by kernel_rfl)⟩) rfl
    (fun ds hds => by match ds, hds with | [d, d', d2, d3], _ => exact ⟨rfl, rfl, rfl⟩) rfl Tryz.underlying4 hW' (hS.below mem_hd)

noncomputable def laidWorld (os : Os) : World := World.laidAll Tryz.prog os Rows.formulaMeansRow.laid
set_option maxRecDepth 100000 in
theorem laid_met (os : Os) : laidMet Tryz.prog Rows.formulaMeansRow.laid ((laidWorld os).forCall (fun _ _ => 0) ⟨#[], #[.slice none 0 0, .slice none 0 0, .int .i64 0, .slice none 0 0], []⟩).memory :=
  laidMet_laidAll _ (by kernel_rfl) (by kernel_rfl)
theorem reads (os : Os) {H : Type} (enc : TypeId × Value → H) : ∃ places, DataW.whole enc Tryz.prog ((laidWorld os).forCall (fun _ _ => 0) ⟨#[], #[.slice none 0 0, .slice none 0 0, .int .i64 0, .slice none 0 0], []⟩).memory Tryz.f9.params.toList Rows.formulaMeansSpec.vars false #[Value.slice none 0 0, Value.slice none 0 0, Value.int .i64 0, Value.slice none 0 0].toList 8 = some ([.nil, .nil, .lit (.int .i64 0), .nil], [], places) :=
  ⟨[], by kernel_rfl⟩

set_option maxRecDepth 100000 in
theorem lifted (os : Os) (started : os.Started) (H : Type) (enc : TypeId × Value → H) (F : Stop.Interp) :
    ReturnsInHanded {} Tryz.checked os 9 .any ((OpenSpec.ofChange Rows.formulaMeansSpec).preRow enc Tryz.prog Tryz.f9 Rows.formulaMeansRow.domain false Rows.formulaMeansRow.laid) (((OpenSpec.ofChange Rows.formulaMeansSpec).at F).post enc Tryz.prog Tryz.f9 false true false false) := by
  obtain ⟨places, hx⟩ := reads os enc
  refine returnsInHanded_of_row (C := Tryz.checked) (s := OpenSpec.ofChange Rows.formulaMeansSpec) own0 started (by kernel_rfl) Tryz.func9
    (witness_row_atRef (enc := enc) (C := Tryz.checked) false (laidWorld os) #[.slice none 0 0, .slice none 0 0, .int .i64 0, .slice none 0 0] (World.laidAll_os _ _ _) (by kernel_rfl) (by kernel_rfl) (by kernel_rfl)
      (OpenSpec.preRow_of_cond 8 hx (by kernel_rfl) (fun k hk => by cases hk) (by kernel_rfl) (laid_met os))) ?_
  intro W bs args ds gs before hval hW _ _ hsz hL _ _
  exact contract H enc W bs args ds gs before hval hW hsz hL

theorem said : Rows.FormulaMeansSaid :=
  OpenClaim.holds_of_cond 9 Tryz.f9 rfl rfl rfl rfl rfl rfl rfl ⟨rfl, rfl, rfl, rfl, rfl⟩ rfl rfl rfl rfl rfl (by kernel_rfl) Tryz.func9 (by kernel_rfl)
    (of_decide_eq_true (by kernel_rfl)) (by unfold Func.isWrapper; first | (rw [if_pos (by decide +kernel)]; kernel_rfl) | (rw [if_neg (by decide +kernel)]; exact ⟨rfl, rfl⟩))
    (fun os started H enc _ F => by rw [OpenClaim.pre_eq_preRow]; exact lifted os started H enc F)

/-- No parameter wants a stand-in; the program's own looks are off. -/
theorem plain (f : FuncId) (fn : Func) (hf : Tryz.pinned.checked.prog.funcNamed "strata/stratalaw13.FormulaMeans" = some f) (hfn : Tryz.pinned.checked.prog.funcs[f]? = some fn) :
    true = Tryz.pinned.checked.prog.looks [] ∧ ∀ (j : Nat) t, fn.params[j]? = some t → Tryz.pinned.checked.prog.wantsStandIn t = false := by
  obtain rfl : f = 9 := Option.some.inj ((show Tryz.prog.funcNamed "strata/stratalaw13.FormulaMeans" = some 9 by kernel_rfl).symm.trans hf) |>.symm
  obtain rfl : fn = Tryz.f9 := (Option.some.inj (Tryz.func9.symm.trans hfn)).symm
  refine ⟨by kernel_rfl, fun j t ht => ?_⟩
  rw [Tryz.params9] at ht
  have hm := Array.mem_of_getElem? ht
  simp at hm
  rcases hm with rfl | rfl | rfl
  · exact (show Tryz.prog.wantsStandIn 22 = false by kernel_rfl)
  · exact (show Tryz.prog.wantsStandIn 3 = false by kernel_rfl)
  · exact (show Tryz.prog.wantsStandIn 42 = false by kernel_rfl)

theorem card : Rows.FormulaMeansCardSaid :=
  Claim7.holds_tied_plain_at .later [] _ _ _ _ said (fun _ h => by cases h) (by kernel_rfl) (fun _ h => by cases h) formulaMeans_row_tie rfl ⟨rfl, rfl⟩ (by kernel_rfl) rfl plain (by kernel_rfl)
end Go.Proofs.YthackanffcaejaaGreatDoor.FormulaMeans
