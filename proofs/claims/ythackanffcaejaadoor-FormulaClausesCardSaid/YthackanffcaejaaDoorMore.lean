/- A struct stored whole. -/
import Derived.Test.YthackanffcaejaaDoorOwn3
set_option linter.unusedVariables false
set_option linter.unusedSimpArgs false
namespace Go.SL
open Go Go.RowKit

def setFrom (cs : List Value) (k : Nat) : List Value → List Value
  | [] => cs
  | v :: vs => setFrom (cs.set k v) (k + 1) vs
section
variable {P : Program} {ops : Array Oper} {Q : Exit → Act → World → Prop} {rest : List Oper} {a : Act} {w w0 : World} {Hs R : List HP} {e b : Nat}
theorem run_storeCells_blk (off : Nat) : ∀ (vs : List Value) (i : Nat) (w : World) (cs : List Value), Sat w0 w (blk b e cs :: R) → off + i + vs.length ≤ cs.length → (∀ v ∈ vs, v.oneCell' = true) →
    ∃ w', (storeCells ⟨b, off, none⟩ vs i).run P w = .ok () w' ∧ Sat w0 w' (blk b e (setFrom cs (off + i) vs) :: R)
  | [], i, w, cs, hS, _, _ => ⟨w, by simp [storeCells], hS⟩
  | v :: vs, i, w, cs, hS, hl, h1 => by
    simp only [List.length_cons] at hl
    have hc : w.cell? ⟨b, off + i, none⟩ = some (cs[off + i]'(by omega)) := hS.cell mem_hd (List.getElem?_eq_getElem (by omega))
    have hf := hS.frozen (off := off + i) mem_hd
    have hS' := hS.setCell (off := off + i) v Upd.hd
    obtain ⟨w', hr, hS2⟩ := run_storeCells_blk off vs (i + 1) _ _ hS' (by simp; omega) (fun u hu => h1 u (by simp [hu]))
    have hv := h1 v (by simp)
    refine ⟨w', ?_, hS2⟩
    simp only [storeCells, add_eq]
    have hst : (store ⟨b, off + i, none⟩ v).run P w = .ok () (w.setCell ⟨b, off + i, none⟩ v) := by
      cases v <;> simp_all [store, Sem.run, Value.oneCell']
    simp [hst, hr]
theorem arm_storeN {dst : Option Tmp} {t : TypeId} {x y : Operand} {ty : TypeId} {pos : String} {after : Array Edge} {gd : Option (Nat × Bool)} (hS : Sat w0 w Hs)
    (hw : Region.wanted ⟨dst, .store t x y, ty, pos, after, gd⟩ (yielded ops a.tmps) = true) {b off : Nat} (hx : a.eval x = .pointer (some ⟨b, off, none⟩)) {vs : List Value} (hy : a.eval y = .agg vs.toArray) {e : TypeId} {cs cs' : List Value}
    (hm : blk b e cs ∈ Hs) (hcs : setFrom cs off vs = cs') (hlt : off + vs.length ≤ cs.length) {Hs' : List HP} (u : Upd Hs (blk b e cs) (blk b e cs') Hs') (h1 : vs.all (·.oneCell') = true) {n : Nat} (ht : sizeTy P t = some n) (hn : vs.length = n)
    (K : ∀ w', Sat w0 w' Hs' → wpList P ops Q rest (a.put dst undef) w') : wpList P ops Q (⟨dst, .store t x y, ty, pos, after, gd⟩ :: rest) a w := by
  subst hcs
  obtain ⟨R, r1, r2⟩ := u.rem
  obtain ⟨w', hr, hS'⟩ := run_storeCells_blk (P := P) off vs 0 w cs (hS.front r1) (by omega) (fun v hv => List.all_eq_true.1 h1 v hv)
  have hs := run_sizeOf ht w
  refine arm_skip hw (run_op_store rfl hx hy ?_) (K w' (hS'.put r2))
  simp [storeVar, hs, Value.cells, hn, hr]
theorem run_zero {t : TypeId} {z : Value} (hz : (P.info? t).bind (·.zero) = some z) : (zeroValue t).run P w = .ok z w := by
  cases hi : P.info? t with
  | none => rw [hi] at hz; cases hz
  | some i =>
    rw [hi] at hz
    simp only [Option.bind_some] at hz
    simp [zeroValue, typeInfo, hi, hz]
/-- x.(*S), x of an interface type: it is one. -/
theorem arm_assertY {dst : Option Tmp} {x : Operand} {xt t : TypeId} {ty : TypeId} {pos : String} {after : Array Edge} {gd : Option (Nat × Bool)}
    (hw : Region.wanted ⟨dst, .typeAssert x xt t true, ty, pos, after, gd⟩ (yielded ops a.tmps) = true) {v : Value} (hx : a.eval x = .iface t v) {e : TypeId} (hu : P.underlying t = some (.pointer e))
    (K : wpList P ops Q rest (a.put dst (.tuple #[v, .bool true])) w) : wpList P ops Q (⟨dst, .typeAssert x xt t true, ty, pos, after, gd⟩ :: rest) a w := by
  refine arm_val hw ?_ K
  simp [execOp, hx, Instr.typeAssert, run_underlying hu]
/-- It is none. -/
theorem arm_assertN {dst : Option Tmp} {x : Operand} {xt t : TypeId} {ty : TypeId} {pos : String} {after : Array Edge} {gd : Option (Nat × Bool)}
    (hw : Region.wanted ⟨dst, .typeAssert x xt t true, ty, pos, after, gd⟩ (yielded ops a.tmps) = true) {v : Value} {u : TypeId} (hx : a.eval x = .iface u v) (hne : u ≠ t) {e : TypeId} (hu : P.underlying t = some (.pointer e)) (hz : (P.info? t).bind (·.zero) = some (.pointer none))
    (K : wpList P ops Q rest (a.put dst (.tuple #[.pointer none, .bool false])) w) : wpList P ops Q (⟨dst, .typeAssert x xt t true, ty, pos, after, gd⟩ :: rest) a w := by
  refine arm_val hw ?_ K
  have := run_zero (w := w) hz
  simp [execOp, hx, Instr.typeAssert, run_underlying hu, hne, this]
/-- A field of one cell of a struct's value. -/
def fieldCell (P : Program) (s : TypeId) (f : Nat) : Option Nat :=
  match P.underlying s with
  | some (.struct fs) => (fs[f]?).bind fun x => if scalarTy P x.type then some x.offset else none
  | _ => none
theorem arm_field1 {dst : Option Tmp} {x : Operand} {s : TypeId} {f : Nat} {ty : TypeId} {pos : String} {after : Array Edge} {gd : Option (Nat × Bool)}
    (hw : Region.wanted ⟨dst, .field s x f, ty, pos, after, gd⟩ (yielded ops a.tmps) = true) {cs : List Value} (hx : a.eval x = .agg cs.toArray) {off : Nat} (hf : fieldCell P s f = some off) {v : Value} (hv : cs[off]? = some v)
    (K : wpList P ops Q rest (a.put dst v) w) : wpList P ops Q (⟨dst, .field s x f, ty, pos, after, gd⟩ :: rest) a w := by
  refine arm_val hw ?_ K
  unfold fieldCell at hf
  cases hu : P.underlying s with
  | none => simp [hu] at hf
  | some d =>
    cases d with
    | struct fs =>
      simp only [hu] at hf
      cases hx2 : fs[f]? with
      | none => simp [hx2] at hf
      | some fl =>
        simp only [hx2, Option.bind_some] at hf
        split at hf
        · rename_i hsc
          simp only [Option.some.injEq] at hf
          subst hf
          have hi := run_isAgg_scalar hsc w
          simp [execOp, hx, Instr.field, run_underlying hu, hx2, asAgg, part, hi, hv]
        · cases hf
    | _ => simp [hu] at hf
theorem Sat.loadWhole {cs : List Value} {t : TypeId} (hS : Sat w0 w Hs) (hm : blk b e cs ∈ Hs) (hn : sizeTy P t = some cs.length) (ha : aggTy P t = true) : (loadVar t ⟨b, 0, none⟩).run P w = .ok (.agg cs.toArray) w :=
  run_loadVarN ha hn fun j v hj => by rw [add_eq, Nat.zero_add]; exact hS.cell hm hj
theorem Sat.loadOne {cs : List Value} {t : TypeId} {v : Value} (hS : Sat w0 w Hs) (hm : blk b e cs ∈ Hs) (hv : cs[0]? = some v) (ht : scalarTy P t = true) : (loadVar t ⟨b, 0, none⟩).run P w = .ok v w :=
  run_loadVar1 ht (hS.cell hm hv)
theorem results_cell1 {fn : Func} {t : Tmp} {T : TypeId} (h : fn.results = #[.cell t T]) {tmps : Array Value} {ad : Addr} (hp : tmps.getD t undef = .pointer (some ad)) {v : Value} (hl : (loadVar T ad).run P w = .ok v w) :
    (results fn tmps).run P w = .ok v w := by
  rw [Array.getD_eq_getD_getElem?] at hp
  simp [results, h, hp, asAddr, hl]
theorem results_cell2 {fn : Func} {t t' : Tmp} {T T' : TypeId} (h : fn.results = #[.cell t T, .cell t' T']) {tmps : Array Value} {ad ad' : Addr} (hp : tmps.getD t undef = .pointer (some ad)) (hp' : tmps.getD t' undef = .pointer (some ad')) {v v' : Value}
    (hl : (loadVar T ad).run P w = .ok v w) (hl' : (loadVar T' ad').run P w = .ok v' w) : (results fn tmps).run P w = .ok (.tuple #[v, v']) w := by
  rw [Array.getD_eq_getD_getElem?] at hp hp'
  simp [results, h, hp, hp', asAddr, hl, hl']
end
end Go.SL
