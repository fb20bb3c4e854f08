/- FormulaCnfBack, for every value: what PrintCnf writes of formed clauses ParseCnf reads as the same clauses, a value that is not formed or too long is not printed, so the law returns true; nothing that stood in memory is changed. Condition: the listed tables hold what the program's and the library's text lays (of them the proof uses strconv's powers of ten). -/
import Derived.Test.YthackanffcaejaaDoorCards
import Derived.Test.YthackanffcaejaaDoorTie
import Derived.Test.YthackanffcaejaaDoorCb2
import Derived.Test.YthackanffcaejaaDoorArg
import Derived.Test.YthackanffcaejaaDoorRow2
set_option linter.unusedVariables false
namespace Go.Proofs.YthackanffcaejaaDoor.FormulaCnfBack
open Go.ChangeShapes Go.WideShapes Go.ChangeAt Go.RowKit Go.SL

theorem own0 : ownKnob Tryd.prog.godebug = none := by kernel_rfl
theorem gTab : Tryd.prog.globalNamed "internal/strconv.uint64pow10" = some 3 := by kernel_rfl
theorem gTabType : (Tryd.prog.globals[3]?).map (·.type) = some 194 := by kernel_rfl
theorem cellsT : Tryd.prog.cellsOf 194 = 20 := by kernel_rfl
theorem cellsE : Tryd.prog.cellsOf 176 = 1 := by kernel_rfl
def nums : DataW Unit → List Int
  | .agg ps => ps.map fun | .lit (.int _ n) => n | _ => 0
  | _ => []
theorem isTab : (Rows.laid_internal_strconv_uint64pow10 : DataW Unit) = Lib.tabData .u64 Lib.pow10Tab := by kernel_rfl
theorem table {W : World} (h : laidMetH Tryd.prog Rows.formulaCnfBackRow.laid W) : Tab W := by
  have h1 : laidMet Tryd.prog (("internal/strconv.uint64pow10", Rows.laid_internal_strconv_uint64pow10) :: [("unicode/utf8.acceptRanges", Rows.laid_unicode_utf8_acceptRanges), ("unicode/utf8.first", Rows.laid_unicode_utf8_first)]) W := laidMet_tail (x := ("math/bits.deBruijn64tab", Rows.laid_math_bits_deBruijn64tab)) (laidMet_tail (x := ("math/bits.deBruijn32tab", Rows.laid_math_bits_deBruijn32tab)) h)
  rw [isTab] at h1
  exact Lib.tabIs_of_head gTab gTabType Tryd.underlying194 Tryd.underlying176 cellsE cellsT h1

theorem cellsI : Tryd.prog.cellsOf 3 = 1 := by kernel_rfl
theorem cellsS : Tryd.prog.cellsOf 22 = 1 := by kernel_rfl
theorem cellsC : Tryd.prog.cellsOf 24 = 3 := by kernel_rfl
theorem bytesI : Tryd.prog.bytesOf 3 = 8 := by kernel_rfl

set_option maxRecDepth 100000 in
theorem contract (H : Type) (enc : TypeId × Value → H) (W : World) (bs : Nat) (args : Array Value) (ds gs : List (DataW H)) (before : List MemPlace)
    (hval : ∀ (j : Nat) t v, Tryd.f5.params[j]? = some t → args[j]? = some v → Value.okWide Tryd.prog W .any bs t v)
    (hW : DataW.Whole enc Tryd.prog Tryd.f5.params.toList Rows.formulaCnfBackSpec.vars false W args.toList ds gs before) (hsz : (DataW.weightsEach Tryd.prog (Tryd.f5.params.toList ++ ((OpenSpec.ofChange Rows.formulaCnfBackSpec).bare.plain.varTypes Tryd.prog)) (ds ++ gs)).all (· ≤ reachBytes) = true) (hL : laidMetH Tryd.prog Rows.formulaCnfBackRow.laid W) :
    Calls Tryd.prog 5 args W fun e W' => ∃ v, e = .returned v ∧ Rows.formulaCnfBackSpec.post enc Tryd.prog Tryd.f5 false true false false W args v W' := by
  have hW' := hW
  obtain ⟨p, q, hA0, hV, rfl, hfz, hnd⟩ := hW
  have hA : DataW.TrodAll enc Tryd.prog W 0 (fun _ => true) true Tryd.f5.params.toList args.toList ds p := hA0
  rw [Tryd.params5] at hA hval
  obtain ⟨v0, vs0, d0, ds0, p0, q0, hargs, rfl, rfl, h0, r0⟩ := trodAll_cons hA
  obtain ⟨rfl, rfl, rfl⟩ := trodAll_nil r0
  obtain rfl : args = #[v0] := by cases args; simp_all
  obtain ⟨cs, rfl, hcs⟩ := okWide_struct Tryd.underlying24 (hval 0 24 v0 rfl rfl)
  obtain ⟨fuel, h0⟩ := h0
  obtain ⟨xs, n, rfl, hx, hlc, hxl, hf⟩ := DataW.trod_struct Tryd.underlying24 h0
  obtain ⟨y0, y1, y2, rfl⟩ : ∃ y0 y1 y2, xs = [y0, y1, y2] := by
    match xs, hxl with
    | [y0, y1, y2], _ => exact ⟨y0, y1, y2, rfl⟩
  have g0 := hf 0 _ rfl
  have g1 := hf 1 _ rfl
  have g2 := hf 2 _ rfl
  change DataW.trod enc Tryd.prog W 0 (fun _ => true) true n 3 (((Value.agg cs).cells.toList.drop 0).take (Tryd.prog.cellsOf 3)) = _ at g0
  change DataW.trod enc Tryd.prog W 0 (fun _ => true) true n 22 (((Value.agg cs).cells.toList.drop 1).take (Tryd.prog.cellsOf 22)) = _ at g1
  change DataW.trod enc Tryd.prog W 0 (fun _ => true) true n 22 (((Value.agg cs).cells.toList.drop 2).take (Tryd.prog.cellsOf 22)) = _ at g2
  rw [cellsI] at g0
  rw [cellsS] at g1 g2
  have hc3 : (Value.agg cs).cells.toList.length = 3 := hlc.trans cellsC
  obtain ⟨a, b, c, hcl⟩ : ∃ a b c, (Value.agg cs).cells.toList = [a, b, c] := by
    match h : (Value.agg cs).cells.toList, hc3 with
    | [a, b, c], _ => exact ⟨a, b, c, rfl⟩
  rw [hcl] at g0 g1 g2
  obtain ⟨v, e0, _, w0⟩ := DataW.trod_int Tryd.underlying3 g0
  obtain ⟨ad1, es, c1, e1, k1, n1, r1, _, b1⟩ := argInts Tryd.underlying22 Tryd.underlying3 cellsI g1
  obtain ⟨ad2, ls, c2, e2, k2, n2, r2, _, b2⟩ := argInts Tryd.underlying22 Tryd.underlying3 cellsI g2
  have ea : a = .int .i64 v := by simpa using e0
  have eb : b = .slice ad1 es.length c1 := by simpa using e1
  have ec : c = .slice ad2 ls.length c2 := by simpa using e2
  have hcs2 : cs = #[.int .i64 v, .slice ad1 es.length c1, .slice ad2 ls.length c2] := by
    have : cs.toList = [a, b, c] := hcl
    rw [ea, eb, ec] at this
    exact Array.toList_inj.1 (by simpa using this)
  subst hcs2
  have hv : -9223372036854775808 ≤ v ∧ v ≤ 9223372036854775807 := by simpa [Lit.wf, IntKind.min, IntKind.max, IntKind.signed, IntKind.bits] using w0
  simp only [Prod.mk.injEq] at hx
  have hw1 : ∀ n ∈ y1.1.weights Tryd.prog 22, n ≤ reachBytes := fun n hn => by
    refine of_decide_eq_true (List.all_eq_true.1 hsz n ?_)
    rw [Tryd.params5, hx.1]
    simp [DataW.weightsEach, DataW.weights, Tryd.underlying24, hn]
  have hw2 : ∀ n ∈ y2.1.weights Tryd.prog 22, n ≤ reachBytes := fun n hn => by
    refine of_decide_eq_true (List.all_eq_true.1 hsz n ?_)
    rw [Tryd.params5, hx.1]
    simp [DataW.weightsEach, DataW.weights, Tryd.underlying24, hn]
  have l1 := b1 reachBytes hw1
  have l2 := b2 reachBytes hw2
  rw [bytesI] at l1 l2
  unfold reachBytes at l1 l2
  refine (backLaw v es ls hv.1 hv.2 (by omega) (by omega) W r1 r2 k2 (table hL)).mono fun e W' ⟨he, hS⟩ => ⟨.bool true, he, ?_⟩
  exact post_law (show laidOutB Tryd.prog = true by kernel_rfl) (by rw [Tryd.params5]; intro t ht; simp at ht; subst ht; exact ⟨by kernel_rfl, of_decide_eq_true (by kernel_rfl)⟩) rfl
    (fun ds hds => by match ds, hds with | [d], _ => exact ⟨rfl, rfl, rfl⟩) rfl Tryd.underlying4 hW' (hS.below mem_hd)

noncomputable def laidWorld (os : Os) : World := laidTabs2 Tryd.prog os [(6, Rows.laid_math_bits_deBruijn32tab), (7, Rows.laid_math_bits_deBruijn64tab), (3, Rows.laid_internal_strconv_uint64pow10), (5, Rows.laid_unicode_utf8_acceptRanges), (4, Rows.laid_unicode_utf8_first)]
set_option maxRecDepth 100000 in
theorem laid_met (os : Os) : laidMet Tryd.prog Rows.formulaCnfBackRow.laid ((laidWorld os).forCall (fun _ _ => 0) ⟨#[], #[.agg #[.int .i64 0, .slice none 0 0, .slice none 0 0]], []⟩).memory :=
  laidMet_of_run' 8 (by kernel_rfl) (by kernel_rfl)
theorem reads (os : Os) {H : Type} (enc : TypeId × Value → H) : ∃ places, DataW.whole enc Tryd.prog ((laidWorld os).forCall (fun _ _ => 0) ⟨#[], #[.agg #[.int .i64 0, .slice none 0 0, .slice none 0 0]], []⟩).memory Tryd.f5.params.toList Rows.formulaCnfBackSpec.vars false #[Value.agg #[.int .i64 0, .slice none 0 0, .slice none 0 0]].toList 8 = some ([.agg [.lit (.int .i64 0), .nil, .nil]], [], places) :=
  ⟨[], by kernel_rfl⟩

set_option maxRecDepth 100000 in
theorem lifted (os : Os) (started : os.Started) (H : Type) (enc : TypeId × Value → H) (F : Stop.Interp) :
    ReturnsInHanded {} Tryd.checked os 5 .any ((OpenSpec.ofChange Rows.formulaCnfBackSpec).preRow enc Tryd.prog Tryd.f5 Rows.formulaCnfBackRow.domain false Rows.formulaCnfBackRow.laid) (((OpenSpec.ofChange Rows.formulaCnfBackSpec).at F).post enc Tryd.prog Tryd.f5 false true false false) := by
  obtain ⟨places, hx⟩ := reads os enc
  refine returnsInHanded_of_row (C := Tryd.checked) (s := OpenSpec.ofChange Rows.formulaCnfBackSpec) own0 started (by kernel_rfl) Tryd.func5
    (witness_row_at (enc := enc) (C := Tryd.checked) false (laidWorld os) #[.agg #[.int .i64 0, .slice none 0 0, .slice none 0 0]] rfl (by kernel_rfl) (by kernel_rfl) (by kernel_rfl)
      (OpenSpec.preRow_of_cond 8 hx (by kernel_rfl) (fun k hk => by cases hk) (by kernel_rfl) (laid_met os))) ?_
  intro W bs args ds gs before hval hW _ _ hsz hL _ _
  exact contract H enc W bs args ds gs before hval hW hsz hL

theorem said : Rows.FormulaCnfBackSaid :=
  OpenClaim.holds_of_cond 5 Tryd.f5 rfl rfl rfl rfl rfl rfl rfl ⟨rfl, rfl, rfl, rfl, rfl⟩ rfl rfl rfl rfl rfl (by kernel_rfl) Tryd.func5 (by kernel_rfl)
    (of_decide_eq_true (by kernel_rfl)) (by unfold Func.isWrapper; first | (rw [if_pos (by decide +kernel)]; kernel_rfl) | (rw [if_neg (by decide +kernel)]; exact ⟨rfl, rfl⟩))
    (fun os started H enc _ F => by rw [OpenClaim.pre_eq_preRow]; exact lifted os started H enc F)

/-- No parameter wants a stand-in; the program's own looks are off. -/
theorem plain (f : FuncId) (fn : Func) (hf : Tryd.pinned.checked.prog.funcNamed "strata/stratalaw13.FormulaCnfBack" = some f) (hfn : Tryd.pinned.checked.prog.funcs[f]? = some fn) :
    true = Tryd.pinned.checked.prog.looks [] ∧ ∀ (j : Nat) t, fn.params[j]? = some t → Tryd.pinned.checked.prog.wantsStandIn t = false := by
  obtain rfl : f = 5 := Option.some.inj ((show Tryd.prog.funcNamed "strata/stratalaw13.FormulaCnfBack" = some 5 by kernel_rfl).symm.trans hf) |>.symm
  obtain rfl : fn = Tryd.f5 := (Option.some.inj (Tryd.func5.symm.trans hfn)).symm
  refine ⟨by kernel_rfl, fun j t ht => ?_⟩
  rw [Tryd.params5] at ht
  obtain rfl : t = 24 := by simpa using Array.mem_of_getElem? ht
  exact (show Tryd.prog.wantsStandIn 24 = false by kernel_rfl)

theorem card : Rows.FormulaCnfBackCardSaid :=
  Claim7.holds_tied_plain_at .later [] _ _ _ _ said (fun _ h => by cases h) (by kernel_rfl) (fun _ h => by cases h) formulaCnfBack_row_tie rfl ⟨rfl, rfl⟩ (by kernel_rfl) rfl plain (by kernel_rfl)
end Go.Proofs.YthackanffcaejaaDoor.FormulaCnfBack
