/- FormulaFresh, for every text, every other text, every text of clauses: each answer of the readers is memory of its own, spare room too: written over and grown, none turns with another, and asked once more they answer the same; so the law returns true; nothing that stood in memory is changed. Condition: the listed tables, among them the two lists of signs, hold what the program's text lays. -/
import Derived.Test.YteopodbkhgcpmaaGreatDoorM1
import Derived.Test.YteopodbkhgcpmaaGreatDoorM29
import Derived.Test.YteopodbkhgcpmaaGreatDoorPFrLaw
import Derived.Test.YteopodbkhgcpmaaGreatDoorCards
import Derived.Test.YteopodbkhgcpmaaGreatDoorTie
import Derived.Deep.DeepWitnessRowRef
import Derived.ChangeMaps5
set_option linter.unusedSimpArgs false
set_option linter.unusedVariables false
set_option linter.unusedSectionVars false
namespace Go.Proofs.YteopodbkhgcpmaaGreatDoor.FormulaFresh
section
open Go.ChangeShapes Go.WideShapes Go.ChangeAt Go.RowKit Go.SL Go.ChangeMaps Go.LexP

theorem own0:ownKnob Tryz.prog.godebug=none:=by kernel_rfl
theorem gTab : Tryz.prog.globalNamed "internal/strconv.uint64pow10" = some 5 := by kernel_rfl
theorem gTabType:(Tryz.prog.globals[5]?).map (·.type)=some 193:=by kernel_rfl
theorem cellsT:Tryz.prog.cellsOf 193=20:=by kernel_rfl
theorem cellsE:Tryz.prog.cellsOf 179=1:=by kernel_rfl
def nums:DataW Unit→List Int
 | .agg ps=>ps.map fun|.lit (.int _ n)=>n|_=>0
 | _=>[]
theorem isTab:(Rows.laid_internal_strconv_uint64pow10:DataW Unit)=Lib.tabData .u64 Lib.pow10Tab:=by kernel_rfl
def rowsE:List (List (DataW Unit)):=signs11.map fun s=>[.lit (.string s.1),.lit (.int .i64 (yZ s.2).1)]
def rowsR:List (List (DataW Unit)):=(signs11++signs10).map fun s=>[.lit (.string s.1),.lit (.int .i64 (Yq s.2).1),.lit (.int .i64 (Yq s.2).2)]
theorem metP {W:World} (hL:laidMetH Tryz.prog Rows.formulaFreshRow.laid W):laidMet Tryz.prog Rows.formulaFreshRow.laid W:=by
 rw[MakeChecks.laidMetH_plain _ _ _ (by kernel_rfl)] at hL;exact hL
theorem sigE {W:World} (hL:laidMetH Tryz.prog Rows.formulaFreshRow.laid W):kY W:=by
 have hr : Lib.VarReads Tryz.prog W "strata/formula.signs" (.slice (rowsE.map .agg) []) := Lib.laidMet.reads (metP hL) (n := "strata/formula.signs") (d := Rows.laid_strata_formula_signs) (by simp [Rows.formulaFreshRow])
 obtain ⟨a, cap, h1, h2, h3⟩ := gw (m := 2) (show Tryz.prog.globalNamed "strata/formula.signs" = some 1 by kernel_rfl) (show (Tryz.prog.globals[1]?).map (·.type) = some 161 by kernel_rfl) (by kernel_rfl) Tryz.underlying161 Tryz.underlying162
  (fun i f h=>by
   match i,h with
   | 0,h=>obtain rfl:=Option.some.inj h;exact⟨.inr Tryz.underlying9,rfl,by kernel_rfl⟩
   | 1,h=>obtain rfl:=Option.some.inj h;exact⟨.inl Tryz.underlying3,rfl,by kernel_rfl⟩
   | n+2,h=>simp at h) (by kernel_rfl) rfl (by decide) (by decide) hr
 exact⟨some a,cap,h1,h3,a,rfl,h2⟩
theorem sigR {W:World} (hL:laidMetH Tryz.prog Rows.formulaFreshRow.laid W):SigR W:=by
 have hr : Lib.VarReads Tryz.prog W "strata/strataref13.signs" (.slice (rowsR.map .agg) []) := Lib.laidMet.reads (metP hL) (n := "strata/strataref13.signs") (d := Rows.laid_strata_strataref13_signs) (by simp [Rows.formulaFreshRow])
 obtain ⟨a, cap, h1, h2, h3⟩ := gw (m := 3) (show Tryz.prog.globalNamed "strata/strataref13.signs" = some 0 by kernel_rfl) (show (Tryz.prog.globals[0]?).map (·.type) = some 133 by kernel_rfl) (by kernel_rfl) Tryz.underlying133 Tryz.underlying134
  (fun i f h=>by
   match i,h with
   | 0,h=>obtain rfl:=Option.some.inj h;exact⟨.inr Tryz.underlying9,rfl,by kernel_rfl⟩
   | 1,h=>obtain rfl:=Option.some.inj h;exact⟨.inl Tryz.underlying3,rfl,by kernel_rfl⟩
   | 2,h=>obtain rfl:=Option.some.inj h;exact⟨.inl Tryz.underlying3,rfl,by kernel_rfl⟩
   | n+3,h=>simp at h) (by kernel_rfl) rfl (by decide) (by decide) hr
 exact⟨some a,cap,h1,h3,a,rfl,h2⟩
theorem table {W:World} (h:laidMetH Tryz.prog Rows.formulaFreshRow.laid W):Tab W:=by
 have h0:=metP h
 have h1 : laidMet Tryz.prog (("internal/strconv.uint64pow10", Rows.laid_internal_strconv_uint64pow10) :: [("strata/strataref13.signs", Rows.laid_strata_strataref13_signs), ("unicode/utf8.acceptRanges", Rows.laid_unicode_utf8_acceptRanges), ("strata/formula.signs", Rows.laid_strata_formula_signs), ("unicode/utf8.first", Rows.laid_unicode_utf8_first)]) W := Jy (x := ("math/bits.deBruijn64tab", Rows.laid_math_bits_deBruijn64tab)) (Jy (x := ("math/bits.deBruijn32tab", Rows.laid_math_bits_deBruijn32tab)) h0)
 rw[isTab] at h1
 exact Lib.tabIs_of_head gTab gTabType Tryz.underlying193 Tryz.underlying179 cellsE cellsT h1

set_option maxRecDepth 100000 in
theorem contract (H:Type) (enc:TypeId × Value→H) (W:World) (bs:Nat) (args:Array Value) (ds gs:List (DataW H)) (before:List MemPlace)
  (hval:∀ (j:Nat) t v,Tryz.f3.params[j]?=some t→args[j]?=some v→Value.okWide Tryz.prog W .any bs t v)
  (hW:DataW.Whole enc Tryz.prog Tryz.f3.params.toList Rows.formulaFreshSpec.vars false W args.toList ds gs before) (hsz:(DataW.weightsEach Tryz.prog (Tryz.f3.params.toList++((OpenSpec.ofChange Rows.formulaFreshSpec).bare.plain.varTypes Tryz.prog)) (ds++gs)).all (·≤reachBytes)=true) (hL:laidMetH Tryz.prog Rows.formulaFreshRow.laid W) :
  Calls Tryz.prog 3 args W fun e W'=>∃ v,e=.returned v∧Rows.formulaFreshSpec.post enc Tryz.prog Tryz.f3 false true false false W args v W':=by
 have hW':=hW
 obtain⟨p,q,hA0,hV,rfl,hfz,hnd⟩:=hW
 have hA:DataW.TrodAll enc Tryz.prog W 0 (fun _=>true) true Tryz.f3.params.toList args.toList ds p:=hA0
 rw[Tryz.params3] at hA hval
 obtain⟨v0,vs0,d0,ds0,p0,q0,hargs,rfl,rfl,h0,r0⟩:=trodAll_cons hA
 obtain⟨v1,vs1,d1,ds1,p1,q1,hargs1,rfl,rfl,h1,r1⟩:=trodAll_cons r0
 obtain⟨v2,vs2,d2,ds2,p2,q2,hargs2,rfl,rfl,h2,r2⟩:=trodAll_cons r1
 obtain⟨rfl,rfl,rfl⟩:=trodAll_nil r2
 obtain rfl:args=#[v0,v1,v2]:=by cases args;simp_all
 obtain⟨s,rfl,rfl,rfl,hsz0⟩:=open_string Tryz.underlying9 (hval 0 9 v0 rfl rfl) h0
 obtain⟨m,rfl,rfl,rfl,hsz1⟩:=open_string Tryz.underlying9 (hval 1 9 v1 rfl rfl) h1
 obtain⟨c,rfl,rfl,rfl,hsz2⟩:=open_string Tryz.underlying9 (hval 2 9 v2 rfl rfl) h2
 have hw1:∀ n∈(DataW.lit (.string s.data.toList):DataW H).weights Tryz.prog 9++(DataW.lit (.string m.data.toList):DataW H).weights Tryz.prog 9++(DataW.lit (.string c.data.toList):DataW H).weights Tryz.prog 9,n≤reachBytes:=fun n hn=>by
  refine of_decide_eq_true (List.all_eq_true.1 hsz n ?_)
  rw[Tryz.params3]
  rcases List.mem_append.1 hn with hn|hn
  ·rcases List.mem_append.1 hn with hn|hn <;> simp[DataW.weightsEach,hn]
  ·simp[DataW.weightsEach,hn]
 have l1:s.data.toList.length≤140737488351232:=by
  have:=hw1 s.data.toList.length (by simp[DataW.weights])
  unfold reachBytes at this
  exact this
 have l2:m.data.toList.length≤140737488351232:=by
  have:=hw1 m.data.toList.length (by simp[DataW.weights])
  unfold reachBytes at this
  exact this
 have l3:c.data.toList.length≤140737488351232:=by
  have:=hw1 c.data.toList.length (by simp[DataW.weights])
  unfold reachBytes at this
  exact this
 refine (show Calls Tryz.prog 3 #[.string s,.string m,.string c] W _ from freshLaw s.data.toList m.data.toList c.data.toList l1 l2 l3 W (sigE hL) (sigR hL) (table hL)).mono fun e W' ⟨he,hS⟩=>⟨.bool true,he,?_⟩
 exact post_law (show laidOutB Tryz.prog=true by kernel_rfl) (by rw[Tryz.params3];intro t ht;simp at ht;subst ht;exact⟨by kernel_rfl,of_decide_eq_true (by kernel_rfl)⟩) rfl
  (fun ds hds=>by match ds,hds with|[d,d',d''],_=>exact⟨rfl,rfl,rfl⟩) rfl Tryz.underlying4 hW' (hS.below ye)

noncomputable def JY (os:Os):World:=World.laidAll Tryz.prog os Rows.formulaFreshRow.laid
set_option maxRecDepth 100000 in
theorem laid_met (os:Os):laidMet Tryz.prog Rows.formulaFreshRow.laid ((JY os).forCall (fun _ _=>0) ⟨#[],#[.string ⟨#[]⟩,.string ⟨#[]⟩,.string ⟨#[]⟩],[]⟩).memory :=
 laidMet_laidAll _ (by kernel_rfl) (by kernel_rfl)
theorem reads (os:Os) {H:Type} (enc:TypeId × Value→H):∃ places,DataW.whole enc Tryz.prog ((JY os).forCall (fun _ _=>0) ⟨#[],#[.string ⟨#[]⟩,.string ⟨#[]⟩,.string ⟨#[]⟩],[]⟩).memory Tryz.f3.params.toList Rows.formulaFreshSpec.vars false #[Value.string ⟨#[]⟩,Value.string ⟨#[]⟩,Value.string ⟨#[]⟩].toList 8=some ([.lit (.string []),.lit (.string []),.lit (.string [])],[],places) :=
 ⟨[],by kernel_rfl⟩

set_option maxRecDepth 100000 in
theorem lifted (os:Os) (started:os.Started) (H:Type) (enc:TypeId × Value→H) (F:Stop.Interp) :
  ReturnsInHanded {} Tryz.checked os 3 .any ((OpenSpec.ofChange Rows.formulaFreshSpec).preRow enc Tryz.prog Tryz.f3 Rows.formulaFreshRow.domain false Rows.formulaFreshRow.laid) (((OpenSpec.ofChange Rows.formulaFreshSpec).at F).post enc Tryz.prog Tryz.f3 false true false false):=by
 obtain⟨places,hx⟩:=reads os enc
 refine returnsInHanded_of_row (C:=Tryz.checked) (s:=OpenSpec.ofChange Rows.formulaFreshSpec) own0 started (by kernel_rfl) Tryz.func3
  (witness_row_atRef (enc:=enc) (C:=Tryz.checked) false (JY os) #[.string ⟨#[]⟩,.string ⟨#[]⟩,.string ⟨#[]⟩] (World.laidAll_os _ _ _) (by kernel_rfl) (by kernel_rfl) (by kernel_rfl)
   (OpenSpec.preRow_of_cond 8 hx (by kernel_rfl) (fun k hk=>by cases hk) (by kernel_rfl) (laid_met os))) ?_
 intro W bs args ds gs before hval hW _ _ hsz hL _ _
 exact contract H enc W bs args ds gs before hval hW hsz hL

theorem said:Rows.FormulaFreshSaid :=
 OpenClaim.holds_of_cond 3 Tryz.f3 rfl rfl rfl rfl rfl rfl rfl ⟨rfl,rfl,rfl,rfl,rfl⟩ rfl rfl rfl rfl rfl (by kernel_rfl) Tryz.func3 (by kernel_rfl)
  (of_decide_eq_true (by kernel_rfl)) (by unfold Func.isWrapper;first|(rw[if_pos (by decide +kernel)];kernel_rfl)|(rw[if_neg (by decide +kernel)];exact⟨rfl,rfl⟩))
  (fun os started H enc _ F=>by rw[OpenClaim.pre_eq_preRow];exact lifted os started H enc F)

theorem plain (f : FuncId) (fn : Func) (hf : Tryz.pinned.checked.prog.funcNamed "strata/stratalaw13.FormulaFresh" = some f) (hfn : Tryz.pinned.checked.prog.funcs[f]? = some fn) :
  true=Tryz.pinned.checked.prog.looks []∧∀ (j:Nat) t,fn.params[j]?=some t→Tryz.pinned.checked.prog.wantsStandIn t=false:=by
 obtain rfl : f = 3 := Option.some.inj ((show Tryz.prog.funcNamed "strata/stratalaw13.FormulaFresh" = some 3 by kernel_rfl).symm.trans hf) |>.symm
 obtain rfl:fn=Tryz.f3:=(Option.some.inj (Tryz.func3.symm.trans hfn)).symm
 refine ⟨by kernel_rfl,fun j t ht=>?_⟩
 rw[Tryz.params3] at ht
 obtain rfl:t=9:=by simpa using Array.mem_of_getElem? ht
 exact(show Tryz.prog.wantsStandIn 9=false by kernel_rfl)

theorem card:Rows.FormulaFreshCardSaid :=
 Claim7.holds_tied_plain_at .later [] _ _ _ _ said (fun _ h=>by cases h) (by kernel_rfl) (fun _ h=>by cases h) formulaFresh_row_tie rfl ⟨rfl,rfl⟩ (by kernel_rfl) rfl plain (by kernel_rfl)
end
end Go.Proofs.YteopodbkhgcpmaaGreatDoor.FormulaFresh
