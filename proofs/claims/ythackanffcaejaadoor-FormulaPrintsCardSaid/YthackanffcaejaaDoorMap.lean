/- Maps under a list of assertions on the heap. -/
import Derived.Test.YthackanffcaejaaDoorOwn3
import Derived.Maps.Own
import Derived.Maps.OwnSet
set_option linter.unusedVariables false
set_option linter.unusedSimpArgs false
namespace Go.SL
open Go Go.RowKit
open Go.WideElems (Fit rg)
open Go.Maps (Keyed)
open Go.ChangeShapes Go.WideShapes Go.MapKept

section
variable {P : Program} {ops : Array Oper} {Q : Exit → Act → World → Prop} {rest : List Oper} {a : Act} {w w0 : World} {Hs : List HP} {k e : TypeId} {R : Value → Option (DataW Unit × List MemPlace)} {b n : Nat} {D : DataW Unit}

/-- Block b is a map of at most n entries that reads as D. -/
def mp (P : Program) (k : TypeId) (R : Value → Option (DataW Unit × List MemPlace)) (b n : Nat) (D : DataW Unit) : HP := fun h =>
  ∃ es clock, pt b (.map es clock) h ∧ Fit P k R es clock ∧ es.size ≤ n ∧ D = .map ((es.toList.map (rg P k R)).foldr DataW.insert [])
theorem Sat.mapOwns (hS : Sat w0 w Hs) (hm : mp P k R b n D ∈ Hs) : w.ownsMap P k R b n D := by
  obtain ⟨h, ⟨es, clock, hp, F, hs, hD⟩, hw⟩ := hS.get hm
  exact ⟨es, clock, hw b _ (by rw [hp b]; simp), F, hs, hD⟩
theorem Sat.mapTurn {w' : World} {n' : Nat} {D' : DataW Unit} {Hs' : List HP} (hS : Sat w0 w Hs) (u : Upd Hs (mp P k R b n D) (mp P k R b n' D') Hs') (ho : w'.ownsMap P k R b n' D') (hg : w.grownBy w' (some b)) : Sat w0 w' Hs' := by
  refine hS.stepU u hg.os hg.tape hg.output hg.size fun g hA hw => ?_
  obtain ⟨es, clock, hp, _⟩ := hA
  obtain ⟨es', clock', hb', F', hs', hD'⟩ := ho
  refine ⟨fun c => if c = b then some (.map es' clock') else none, ⟨es', clock', fun c => rfl, F', hs', hD'⟩, fun c o hc => ?_, fun c hc => .inl ?_, fun c hlt hcn => ?_⟩
  · by_cases hcb : c = b
    · simp [hcb] at hc; subst hc; rw [hcb]; exact hb'
    · simp [hcb] at hc
  · by_cases hcb : c = b
    · rw [hp c, if_pos hcb]; simp
    · simp [hcb] at hc
  · by_cases hcb : c = b
    · rw [hp c, if_pos hcb] at hcn; cases hcn
    · exact hg.block c hlt (fun he => hcb (by cases he; rfl))
theorem run_op_makeMap {o : Oper} {t : TypeId} (ho : o.op = .makeMap t none) {ρ : Operand → Value} : (execOp ρ o).run P w = .ok (.value (.map (some w.heap.size))) (w.alloc (.map #[] 0)) := by
  simp [execOp, ho, Instr.makeMap, newObj, Sem.run]
theorem arm_makeMap (P' : Program) (k : TypeId) (R : Value → Option (DataW Unit × List MemPlace)) {dst : Option Tmp} {t : TypeId} {ty : TypeId} {pos : String} {after : Array Edge} {gd : Option (Nat × Bool)} (hS : Sat w0 w Hs)
    (hw : Region.wanted ⟨dst, .makeMap t none, ty, pos, after, gd⟩ (yielded ops a.tmps) = true)
    (K : ∀ b w', Sat w0 w' (mp P' k R b 0 (.map []) :: Hs) → wpList P ops Q rest (a.put dst (.map (some b))) w') : wpList P ops Q (⟨dst, .makeMap t none, ty, pos, after, gd⟩ :: rest) a w := by
  refine arm_val hw (run_op_makeMap rfl) (K _ _ ((hS.alloc (.map #[] 0)).turn fun g hg => ?_))
  obtain ⟨es, clock, hb, F, hs, hD⟩ := World.ownsMap_made w P' k R
  rw [(MapKept.heap_alloc w _).1] at hb
  have : es = #[] ∧ clock = 0 := by
    injection hb with h1
    injection h1 with h2 h3
    exact ⟨h2.symm, h3.symm⟩
  obtain ⟨rfl, rfl⟩ := this
  exact ⟨_, _, hg, F, hs, hD⟩
theorem run_op_mapSet {o : Oper} {t : TypeId} {m x y : Operand} (ho : o.op = .mapUpdate t m x y ∨ o.op = .insert t m x y) {ρ : Operand → Value} {w' : World} {mv xv yv : Value} (hm : ρ m = mv) (hx : ρ x = xv) (hy : ρ y = yv)
    (hr : (Instr.mapUpdate t mv xv yv).run P w = .ok () w') : (execOp ρ o).run P w = .ok .skip w' := by
  subst hm; subst hx; subst hy
  rcases ho with ho | ho <;> simp [execOp, ho, hr]
theorem arm_mapSet {o : Oper} {t : TypeId} {m x y : Operand} (hS : Sat w0 w Hs) (ho : o.op = .mapUpdate t m x y ∨ o.op = .insert t m x y)
    (hw : Region.wanted o (yielded ops a.tmps) = true) (hm : a.eval m = .map (some b)) {key val : Value} (hx : a.eval x = key) (hy : a.eval y = val) (ht : P.underlying t = some (.map k e)) (K0 : Keyed P k) (hmem : mp P k R b n D ∈ Hs) {kl : Lit} (hkey : keyOf P k key = some kl)
    {d : DataW Unit} {ps : List MemPlace} (hv : R val = some (d, ps)) (hn : n < maxLen) {D' : DataW Unit} (hD : D.put kl d = D') {Hs' : List HP} (u : Upd Hs (mp P k R b n D) (mp P k R b (n + 1) D') Hs')
    (K : ∀ w', Sat w0 w' Hs' → wpList P ops Q rest (a.put o.dst undef) w') : wpList P ops Q (o :: rest) a w := by
  subst hD
  obtain ⟨w', hr, ho', hg⟩ := (hS.mapOwns hmem).update K0 ht hn hkey hv
  exact arm_skip hw (run_op_mapSet ho hm hx hy hr) (K w' (hS.mapTurn u ho' hg))
theorem run_op_lookup {o : Oper} {t : TypeId} {m x : Operand} {ok : Bool} (ho : o.op = .lookup t m x ok) {ρ : Operand → Value} {mv xv v : Value} (hm : ρ m = mv) (hx : ρ x = xv) (hr : (Instr.lookup t mv xv ok).run P w = .ok v w) :
    (execOp ρ o).run P w = .ok (.value v) w := by
  subst hm; subst hx
  simp [execOp, ho, hr]
theorem arm_lookup {dst : Option Tmp} {t : TypeId} {m x : Operand} {ty : TypeId} {pos : String} {after : Array Edge} {gd : Option (Nat × Bool)} (hS : Sat w0 w Hs)
    (hw : Region.wanted ⟨dst, .lookup t m x false, ty, pos, after, gd⟩ (yielded ops a.tmps) = true) (hm : a.eval m = .map (some b)) {key : Value} (hx : a.eval x = key) (ht : P.underlying t = some (.map k e)) (K0 : Keyed P k) (hmem : mp P k R b n D ∈ Hs) {kl : Lit} (hkey : keyOf P k key = some kl)
    {z : Value} (hz : ∀ w, (zeroValue e).run P w = .ok z w) {zd : DataW Unit} {zp : List MemPlace} (hzd : R z = some (zd, zp))
    (K : ∀ v ps, R v = some (D.atKey kl zd, ps) → wpList P ops Q rest (a.put dst v) w) : wpList P ops Q (⟨dst, .lookup t m x false, ty, pos, after, gd⟩ :: rest) a w := by
  obtain ⟨v, ps, hr, hv⟩ := (hS.mapOwns hmem).lookup K0 ht (hz w) hzd hkey
  exact arm_val hw (run_op_lookup rfl hm hx hr) (K v ps hv)
end
end Go.SL
