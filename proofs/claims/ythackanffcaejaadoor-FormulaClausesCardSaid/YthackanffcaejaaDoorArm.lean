/- Rules by which one operation of the model is carried out under a list of assertions on the heap (Sl): loads, stores, new variables, slices. -/
import Derived.Test.YthackanffcaejaaDoorSl
import Derived.WalkKit
set_option linter.unusedVariables false
set_option linter.unusedSimpArgs false
namespace Go.SL
open Go Go.RowKit

section
variable {P : Program} {ops : Array Oper} {Q : Exit → Act → World → Prop} {rest : List Oper} {a : Act} {w w0 : World} {Hs : List HP}

theorem ev_tmp {l : List Value} {d : List Deferred} {t : Nat} {v : Value} (h : l[t]? = some v) : (Act.mk l.toArray d).eval (.tmp t) = v := by
  simp [Act.eval, h]
theorem ev_const {v : Value} : a.eval (.const v) = v := rfl
theorem arm_val {o : Oper} {v : Value} {w' : World} (hw : Region.wanted o (yielded ops a.tmps) = true) (hr : (execOp a.eval o).run P w = .ok (.value v) w')
    (K : wpList P ops Q rest (a.put o.dst v) w') : wpList P ops Q (o :: rest) a w := by
  simp only [wpList, hw, if_true, Oper.wp, hr, Oper.upon]
  exact .inl K
theorem arm_skip {o : Oper} {w' : World} (hw : Region.wanted o (yielded ops a.tmps) = true) (hr : (execOp a.eval o).run P w = .ok .skip w')
    (K : wpList P ops Q rest (a.put o.dst undef) w') : wpList P ops Q (o :: rest) a w := by
  simp only [wpList, hw, if_true, Oper.wp, hr, Oper.upon]
  exact .inl K

theorem wanted_none {dst : Option Tmp} {op : Op} {ty : TypeId} {pos : String} {after : Array Edge} {y : Nat → Option Bool} : Region.wanted ⟨dst, op, ty, pos, after, none⟩ y = true := rfl
theorem wanted_guard {dst : Option Tmp} {op : Op} {ty : TypeId} {pos : String} {after : Array Edge} {j d : Nat} {b : Bool} {tmps : Array Value} (h : (ops[j]?).bind (·.dst) = some d) (hv : tmps[d]? = some (.bool b)) :
    Region.wanted ⟨dst, op, ty, pos, after, some (j, b)⟩ (yielded ops tmps) = true := by
  simp [Region.wanted, yielded, h, hv]
theorem wanted_not {dst : Option Tmp} {op : Op} {ty : TypeId} {pos : String} {after : Array Edge} {j d : Nat} {b : Bool} {tmps : Array Value} (h : (ops[j]?).bind (·.dst) = some d) (hv : tmps[d]? = some (.bool (!b))) :
    Region.wanted ⟨dst, op, ty, pos, after, some (j, b)⟩ (yielded ops tmps) = false := by
  cases b <;> simp_all [Region.wanted, yielded]

theorem cells_one {v : Value} (h : v.oneCell' = true) : v.cells.toList = [v] := by
  cases v <;> simp_all [Value.cells, Value.oneCell']
theorem cells_agg {cs : List Value} : (Value.agg cs.toArray).cells.toList = cs := by simp [Value.cells]

/-! ### Loads -/
theorem run_op_load {o : Oper} {t : TypeId} {x : Operand} (ho : o.op = .load t x) {ad : Addr} {v : Value} {ρ : Operand → Value} (hx : ρ x = .pointer (some ad)) (hr : (loadVar t ad).run P w = .ok v w) :
    (execOp ρ o).run P w = .ok (.value v) w := by
  simp [execOp, ho, hx, Instr.loadAt, Instr.sureAddr, hr]
theorem run_loadVar1 {t : TypeId} (h : scalarTy P t = true) {ad : Addr} {v : Value} (hc : w.cell? ad = some v) : (loadVar t ad).run P w = .ok v w := by
  have hi := run_isAgg_scalar h w
  simp only [loadVar]
  simp [hi, load, Sem.run, hc]
/-- A variable of one cell in a block. -/
theorem arm_load {dst : Option Tmp} {t : TypeId} {x : Operand} {ty : TypeId} {pos : String} {after : Array Edge} {gd : Option (Nat × Bool)} (hS : Sat w0 w Hs)
    (hw : Region.wanted ⟨dst, .load t x, ty, pos, after, gd⟩ (yielded ops a.tmps) = true) {b off : Nat} (hx : a.eval x = .pointer (some ⟨b, off, none⟩)) {e : TypeId} {cs : List Value}
    (hm : blk b e cs ∈ Hs) {v : Value} (hv : cs[off]? = some v) (ht : scalarTy P t = true) (K : wpList P ops Q rest (a.put dst v) w) :
    wpList P ops Q (⟨dst, .load t x, ty, pos, after, gd⟩ :: rest) a w :=
  arm_val hw (run_op_load rfl hx (run_loadVar1 ht (hS.cell hm hv))) K
/-- The same by a fact on the cell. -/
theorem arm_load_cell {dst : Option Tmp} {t : TypeId} {x : Operand} {ty : TypeId} {pos : String} {after : Array Edge} {gd : Option (Nat × Bool)}
    (hw : Region.wanted ⟨dst, .load t x, ty, pos, after, gd⟩ (yielded ops a.tmps) = true) {ad : Addr} (hx : a.eval x = .pointer (some ad)) {v : Value} (hv : w.cell? ad = some v) (ht : scalarTy P t = true)
    (K : wpList P ops Q rest (a.put dst v) w) : wpList P ops Q (⟨dst, .load t x, ty, pos, after, gd⟩ :: rest) a w :=
  arm_val hw (run_op_load rfl hx (run_loadVar1 ht hv)) K
theorem Sat.baseCell (hS : Sat w0 w Hs) (hm : base w0 ∈ Hs) {ad : Addr} {v : Value} (hv : w0.cell? ad = some v) : w.cell? ad = some v := by
  have hb := World.block_lt_of_cell? w0 ad hv
  rw [World.cell?_of_block (hS.old hm ad.block hb)]
  exact hv
/-- The same in what stood when the run began. -/
theorem arm_load_base {dst : Option Tmp} {t : TypeId} {x : Operand} {ty : TypeId} {pos : String} {after : Array Edge} {gd : Option (Nat × Bool)} (hS : Sat w0 w Hs)
    (hw : Region.wanted ⟨dst, .load t x, ty, pos, after, gd⟩ (yielded ops a.tmps) = true) {ad : Addr} (hx : a.eval x = .pointer (some ad)) (hm : base w0 ∈ Hs) {v : Value} (hv : w0.cell? ad = some v) (ht : scalarTy P t = true)
    (K : wpList P ops Q rest (a.put dst v) w) : wpList P ops Q (⟨dst, .load t x, ty, pos, after, gd⟩ :: rest) a w :=
  arm_val hw (run_op_load rfl hx (run_loadVar1 ht (hS.baseCell hm hv))) K
/-- A struct or an array, whole. -/
def sizeTy (P : Program) (t : TypeId) : Option Nat := (P.info? t).map (·.size)
theorem run_sizeOf {t : TypeId} {n : Nat} (h : sizeTy P t = some n) (w : World) : (sizeOf t).run P w = .ok n w := by
  unfold sizeTy at h
  cases hi : P.info? t with
  | none => rw [hi] at h; cases h
  | some i =>
    rw [hi] at h
    simp only [Option.map_some, Option.some.injEq] at h
    subst h
    simp [sizeOf, typeInfo, hi]
theorem run_loadVarN {t : TypeId} (h : aggTy P t = true) {ad : Addr} {vs : List Value} (hn : sizeTy P t = some vs.length) (hc : ∀ (j : Nat) v, vs[j]? = some v → w.cell? (ad.add j) = some v) :
    (loadVar t ad).run P w = .ok (.agg vs.toArray) w := by
  have hi := run_isAgg_agg h w
  have hs := run_sizeOf hn w
  have hl := run_loadCells_list (P := P) (w := w) ad vs hc
  simp only [loadVar]
  simp [hi, hs, hl]
theorem add_eq (b off j : Nat) : (⟨b, off, none⟩ : Addr).add j = ⟨b, off + j, none⟩ := by unfold Addr.add; split <;> simp_all
theorem arm_loadN {dst : Option Tmp} {t : TypeId} {x : Operand} {ty : TypeId} {pos : String} {after : Array Edge} {gd : Option (Nat × Bool)} (hS : Sat w0 w Hs)
    (hw : Region.wanted ⟨dst, .load t x, ty, pos, after, gd⟩ (yielded ops a.tmps) = true) {b off : Nat} (hx : a.eval x = .pointer (some ⟨b, off, none⟩)) {e : TypeId} {cs : List Value}
    (hm : blk b e cs ∈ Hs) {n : Nat} (hn : sizeTy P t = some n) (ht : aggTy P t = true) {vs : List Value} (hv : (cs.drop off).take n = vs) (hl : vs.length = n) (K : wpList P ops Q rest (a.put dst (.agg vs.toArray)) w) :
    wpList P ops Q (⟨dst, .load t x, ty, pos, after, gd⟩ :: rest) a w := by
  refine arm_val hw (run_op_load rfl hx (run_loadVarN ht (by rw [hl]; exact hn) fun j v hj => ?_)) K
  rw [add_eq]
  refine hS.cell hm ?_
  rw [← hv, List.getElem?_take] at hj
  split at hj
  · rw [List.getElem?_drop] at hj; exact hj
  · cases hj

/-! ### Stores -/
theorem run_storeVar1 {t : TypeId} (h : sizeTy P t = some 1) {ad : Addr} {v u : Value} (h1 : v.oneCell' = true) (hc : w.cell? ad = some u) (hf : w.frozen? ad = false) : (storeVar t ad v).run P w = .ok () (w.setCell ad v) := by
  have hs := run_sizeOf h w
  have e0 : ad.add 0 = ad := by simp [Addr.add]
  cases v <;> simp_all [storeVar, Value.cells, Value.oneCell', storeCells, store, Sem.run]
theorem run_op_store {o : Oper} {t : TypeId} {x y : Operand} (ho : o.op = .store t x y) {ad : Addr} {v : Value} {ρ : Operand → Value} {w' : World} (hx : ρ x = .pointer (some ad)) (hy : ρ y = v) (hr : (storeVar t ad v).run P w = .ok () w') :
    (execOp ρ o).run P w = .ok .skip w' := by
  simp [execOp, ho, hx, hy, Instr.storeAt, Instr.sureAddr, hr]
theorem arm_store {dst : Option Tmp} {t : TypeId} {x y : Operand} {ty : TypeId} {pos : String} {after : Array Edge} {gd : Option (Nat × Bool)} (hS : Sat w0 w Hs)
    (hw : Region.wanted ⟨dst, .store t x y, ty, pos, after, gd⟩ (yielded ops a.tmps) = true) {b off : Nat} (hx : a.eval x = .pointer (some ⟨b, off, none⟩)) {v : Value} (hy : a.eval y = v) {e : TypeId} {cs cs' : List Value}
    (hm : blk b e cs ∈ Hs) (hcs : cs.set off v = cs') (hlt : off < cs.length) {Hs' : List HP} (u : Upd Hs (blk b e cs) (blk b e cs') Hs') (h1 : v.oneCell' = true) (ht : sizeTy P t = some 1)
    (K : ∀ w', Sat w0 w' Hs' → wpList P ops Q rest (a.put dst undef) w') : wpList P ops Q (⟨dst, .store t x y, ty, pos, after, gd⟩ :: rest) a w := by
  subst hcs
  have hc : w.cell? ⟨b, off, none⟩ = some (cs[off]'hlt) := hS.cell hm (List.getElem?_eq_getElem hlt)
  exact arm_skip hw (run_op_store rfl hx hy (run_storeVar1 ht h1 hc (hS.frozen hm))) (K _ (hS.setCell v u))

/-! ### New variables -/
def zeroTy (P : Program) (t : TypeId) : Option (List Value) := ((P.info? t).bind (·.zero)).map (·.cells.toList)
theorem run_op_alloc {o : Oper} {t : TypeId} (ho : o.op = .alloc t) {cs : List Value} (hz : zeroTy P t = some cs) {ρ : Operand → Value} :
    (execOp ρ o).run P w = .ok (.value (.pointer (some ⟨w.heap.size, 0, none⟩))) (w.alloc (.cells cs.toArray t)) := by
  unfold zeroTy at hz
  cases hi : P.info? t with
  | none => rw [hi] at hz; cases hz
  | some i =>
    rw [hi] at hz
    cases hzz : i.zero with
    | none => simp [hzz] at hz
    | some z =>
      simp [hzz] at hz
      subst hz
      simp [execOp, ho, Instr.alloc, zeroValue, typeInfo, hi, hzz, newVar, newRow, newObj, Sem.run]
theorem arm_alloc {dst : Option Tmp} {t : TypeId} {ty : TypeId} {pos : String} {after : Array Edge} {gd : Option (Nat × Bool)} (hS : Sat w0 w Hs)
    (hw : Region.wanted ⟨dst, .alloc t, ty, pos, after, gd⟩ (yielded ops a.tmps) = true) {cs : List Value} (hz : zeroTy P t = some cs)
    (K : ∀ b w', Sat w0 w' (blk b t cs :: Hs) → wpList P ops Q rest (a.put dst (.pointer (some ⟨b, 0, none⟩))) w') : wpList P ops Q (⟨dst, .alloc t, ty, pos, after, gd⟩ :: rest) a w :=
  arm_val hw (run_op_alloc rfl hz) (K _ _ (hS.alloc _))
theorem run_op_box {o : Oper} {t : TypeId} {x : Operand} (ho : o.op = .box t x) {ρ : Operand → Value} {v : Value} (hx : ρ x = v) :
    (execOp ρ o).run P w = .ok (.value (.pointer (some ⟨w.heap.size, 0, none⟩))) (w.alloc (.cells v.cells t)) := by
  subst hx
  simp [execOp, ho, Instr.box, newVar, newRow, newObj, Sem.run]
theorem arm_box {dst : Option Tmp} {t : TypeId} {x : Operand} {ty : TypeId} {pos : String} {after : Array Edge} {gd : Option (Nat × Bool)} (hS : Sat w0 w Hs)
    (hw : Region.wanted ⟨dst, .box t x, ty, pos, after, gd⟩ (yielded ops a.tmps) = true) {v : Value} (hx : a.eval x = v) {cs : List Value} (hc : v.cells.toList = cs)
    (K : ∀ b w', Sat w0 w' (blk b t cs :: Hs) → wpList P ops Q rest (a.put dst (.pointer (some ⟨b, 0, none⟩))) w') : wpList P ops Q (⟨dst, .box t x, ty, pos, after, gd⟩ :: rest) a w := by
  subst hc
  exact arm_val hw (run_op_box rfl hx) (K _ _ (by simpa [blk] using hS.alloc (.cells v.cells t)))
end
end Go.SL
