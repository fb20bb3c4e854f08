/- A part of the proof: Own3 CMap Draw Range Shelf More Ty. -/
import Derived.Test.YthackanffcaejaaGreatDoorM1
import Derived.Laws.MakeOwn
import Derived.MapKept
import Derived.RangeFuncRecord
import Derived.OrdersHeld
import Derived.Tactics
import Derived.KernelRfl
import Derived.OrdersIn
import Derived.RangeFuncNested
import Derived.RangeFuncBound
import Derived.RangeFuncCalls
import Derived.RangeFuncLeaves
import Derived.Shelf.Small.Utf8
import Derived.Shelf.Small.Strs
import Derived.Shelf.Small.Wraps
import Derived.Shelf.Strconv.Itoa0
import Derived.Shelf.Strconv.Itoa1
import Derived.Shelf.LaysM
import Derived.Shelf.Strconv.Itoa2
import Derived.Shelf.Strconv.Itoa3
import Derived.Shelf.Strings.Search1
import Derived.Shelf.Strings.Search2
import Derived.Shelf.Strings.Search3
import Derived.Shelf.Strings.Count
import Derived.Shelf.Strings.Shaped
import Derived.Shelf.Strings.LastIndex
import Derived.Shelf.Strings.Prefix
import Derived.Shelf.Unicode.Decode
import Derived.Shelf.Unicode.DecodeSlow
import Derived.Test.YthackanffcaejaaGreatDoorProg
import Derived.Test.YthackanffcaejaaGreatDoorChecked
section
set_option linter.unusedVariables false
set_option linter.unusedSimpArgs false
namespace Go.SL
open Go Go.RowKit Go.Lib

abbrev B (c : UInt8) : Value := .int .u8 c.toNat
def Bs (l : List UInt8) : List Value := l.map B
theorem Bs_length (l : List UInt8) : (Bs l).length = l.length := by simp [Bs]
theorem Bs_append (l m : List UInt8) : Bs (l ++ m) = Bs l ++ Bs m := by simp [Bs]
theorem Bs_at {l : List UInt8} {j : Nat} {x : UInt8} (h : l[j]? = some x) : (Bs l)[j]? = some (B x) := by simp [Bs, h]
theorem Bs_get {l : List UInt8} {j : Nat} (h : j < l.length) : (Bs l)[j]? = some (B l[j]) := by simp [Bs, h]

section
variable {P : Program} {ops : Array Oper} {Q : Exit → Act → World → Prop} {rest : List Oper} {a : Act} {w w0 : World} {Hs R R1 R2 : List HP} {e : TypeId} {size n cap : Nat} {ad : Option Addr} {xs : List Value}

theorem run_op_append {o : Oper} {s x : Operand} {t u : TypeId} (ho : o.op = .call { callee := .builtin .append, args := #[s, x], argTypes := #[t, u] }) {ρ : Operand → Value} {v : Value} {w' : World}
    (hr : (Builtin.append_ #[t, u] o.type #[ρ s, ρ x]).run P w = .ok v w') : (execOp ρ o).run P w = .ok (.value v) w' := by
  simp [execOp, ho, resolve, invoke, builtin, hr]
theorem arm_appendB {dst : Option Tmp} {s x : Operand} {t ty : TypeId} {pos : String} {after : Array Edge} {gd : Option (Nat × Bool)} {bytes : Nat} (hS : Sat w0 w Hs)
    (hw : Region.wanted ⟨dst, .call { callee := .builtin .append, args := #[s, x], argTypes := #[t, t] }, ty, pos, after, gd⟩ (yielded ops a.tmps) = true)
    (hs : a.eval s = .slice ad n cap) {nb m c : Nat} (hx : a.eval x = .slice (some ⟨nb, 0, none⟩) m c) (E : ElemTy P t e size bytes) (r1 : Rem Hs (own e size ad n cap xs) R1) {news : List Value} (r2 : Rem R1 (blk nb e news) R2)
    (hl : news.length = m * size) (h1 : news.all (·.oneCell') = true) (hb : (n + m) * bytes ≤ 140737488355328) (h63 : n + m ≤ 9223372036854775807)
    (K : ∀ ad' cap' w', Sat w0 w' (own e size ad' (n + m) cap' (xs ++ news) :: R2) → wpList P ops Q rest (a.put dst (.slice ad' (n + m) cap')) w') :
    wpList P ops Q (⟨dst, .call { callee := .builtin .append, args := #[s, x], argTypes := #[t, t] }, ty, pos, after, gd⟩ :: rest) a w := by
  have hS1 := hS.front r1
  obtain ⟨ad', cap', w', hr, hS'⟩ := run_append_sl (P := P) (ty := ty) E hS1 (sd := some ⟨nb, 0, none⟩) (c := c) hl
    (fun j u hj => ⟨⟨_, rfl, rfl⟩, hS1.rdCell (A := blk nb e news) (.tail _ (by exact (Rem.mem r2))) Rd.of_blk hj⟩) (fun u hu => by simpa using List.all_eq_true.1 h1 u hu) (fun h => by cases h) h63 hb
  refine arm_val hw (run_op_append rfl (by rw [hs, hx]; exact hr)) (K ad' cap' w' ?_)
  have hS2 : Sat w0 w' (blk nb e news :: own e size ad' (n + m) cap' (xs ++ news) :: R2) := hS'.front (Rem.tl r2)
  exact hS2.drop
theorem arm_appendStr {dst : Option Tmp} {s x : Operand} {t u ty : TypeId} {pos : String} {after : Array Edge} {gd : Option (Nat × Bool)} (hS : Sat w0 w Hs)
    (hw : Region.wanted ⟨dst, .call { callee := .builtin .append, args := #[s, x], argTypes := #[t, u] }, ty, pos, after, gd⟩ (yielded ops a.tmps) = true)
    (hs : a.eval s = .slice ad n cap) {b : ByteArray} (hx : a.eval x = .string b) (E : ElemTy P t e 1 1) (hu : P.underlying u = some .string) (hz0 : (P.info? e).bind (·.zero) = some (.int .u8 0)) (r1 : Rem Hs (own e 1 ad n cap xs) R1)
    (hb : n + b.size ≤ 140737488355328)
    (K : ∀ ad' cap' w', Sat w0 w' (own e 1 ad' (n + b.size) cap' (xs ++ Bs b.data.toList) :: R1) → wpList P ops Q rest (a.put dst (.slice ad' (n + b.size) cap')) w') :
    wpList P ops Q (⟨dst, .call { callee := .builtin .append, args := #[s, x], argTypes := #[t, u] }, ty, pos, after, gd⟩ :: rest) a w := by
  have hS1 := hS.front r1
  obtain ⟨ad', cap', w', hr, hS'⟩ := run_append_str (P := P) (ty := ty) E hu hz0 hS1 b (by unfold maxLen; omega) hb
  exact arm_val hw (run_op_append rfl (by rw [hs, hx]; exact hr)) (K ad' cap' w' hS')

theorem Sat.ownNil (hS : Sat w0 w Hs) (e : TypeId) (size : Nat) : Sat w0 w (own e size none 0 0 [] :: Hs) := hS.emp ⟨by simp, .inl ⟨rfl, rfl, rfl, fun _ => rfl⟩⟩

/-! ### A slice literal of one element -/
theorem run_op_build1 {o : Oper} {T : TypeId} {x : Operand} (ho : o.op = .buildSlice T 1 #[(0, x)]) {bytes : Nat} (E : ElemTy P T e size bytes) (hsz : size ≤ 16777216) {ρ : Operand → Value} (hc : (ρ x).cells.size = size) :
    (execOp ρ o).run P w = .ok (.value (.slice (some ⟨w.heap.size, 0, none⟩) 1 1)) (w.alloc (.cells (ρ x).cells e)) := by
  obtain ⟨i, z, hi, hz, hs, hby, hzs⟩ := E.parts
  have hpos := E.pos
  have hfold : ∀ (vs : List Value) (k : Nat) (cs : List Value), cs.length = k + vs.length → (vs.zipIdx k).foldl (fun (cs : Array Value) (x : Value × Nat) => cs.setIfInBounds x.2 x.1) cs.toArray = (cs.take k ++ vs).toArray := by
    intro vs
    induction vs with
    | nil => intro k cs h; simp only [List.zipIdx_nil, List.foldl_nil, List.append_nil]; rw [List.take_of_length_le (by simp at h; omega)]
    | cons v vs ih =>
      intro k cs h
      simp only [List.zipIdx_cons, List.foldl_cons, List.setIfInBounds_toArray]
      rw [ih (k + 1) (cs.set k v) (by simp at h ⊢; omega)]
      congr 1
      rw [List.take_succ_eq_append_getElem (by simp at h ⊢; omega), List.take_set_of_le (by omega)]
      simp
  have hf : Instr.fill (fun i => some (i * size, size)) ((Array.range (1 * size)).map (z.cells[· % z.cells.size]!)) [(0, ρ x)] = some (ρ x).cells := by
    have h1 : ¬ (0 + (ρ x).cells.size > ((Array.range (1 * size)).map (z.cells[· % z.cells.size]!)).size) := by simp [hc]
    simp only [Instr.fill, Nat.zero_mul, hc, ne_eq, not_true_eq_false, decide_false, Bool.false_or, h1, if_false, ite_false]
    rw [if_neg (by simp)]
    have h2 := hfold (ρ x).cells.toList 0 ((Array.range (1 * size)).map (z.cells[· % z.cells.size]!)).toList (by simp [hc])
    simp only [Nat.zero_add]
    rw [← Array.foldl_toList, Array.toList_zipIdx]
    have h3 : ((Array.range (1 * size)).map (z.cells[· % z.cells.size]!)).toList.toArray = (Array.range (1 * size)).map (z.cells[· % z.cells.size]!) := Array.toArray_toList
    rw [h3] at h2
    rw [h2]
    simp
  have hne : ¬ (1 * size = 0) := by omega
  have hbig : ¬ (1 * size > 2 ^ 24) := by omega
  simp only [Nat.one_mul] at hf hne hbig
  have hs1 : ¬ (size > 16777216) := by omega
  simp [execOp, ho, Instr.buildSlice, run_underlying E.ht, sizeOf, typeInfo, hi, hs, hne, zeroValue, hz, newRow, newObj, Sem.run]
  rw [if_neg (by omega), hf]
  rfl
theorem arm_build1 {dst : Option Tmp} {T : TypeId} {x : Operand} {ty : TypeId} {pos : String} {after : Array Edge} {gd : Option (Nat × Bool)} {bytes : Nat} (hS : Sat w0 w Hs)
    (hw : Region.wanted ⟨dst, .buildSlice T 1 #[(0, x)], ty, pos, after, gd⟩ (yielded ops a.tmps) = true) (E : ElemTy P T e size bytes) {v : Value} (hx : a.eval x = v) {cs : List Value} (hv : v.cells.toList = cs) (hc : cs.length = size) (hsz : size ≤ 16777216)
    (K : ∀ b w', Sat w0 w' (blk b e cs :: Hs) → wpList P ops Q rest (a.put dst (.slice (some ⟨b, 0, none⟩) 1 1)) w') : wpList P ops Q (⟨dst, .buildSlice T 1 #[(0, x)], ty, pos, after, gd⟩ :: rest) a w := by
  subst hv
  subst hx
  exact arm_val hw (run_op_build1 rfl E hsz (by simpa using hc)) (K _ _ (by simpa [blk] using hS.alloc (.cells (a.eval x).cells e)))

/-! ### string(b) -/
theorem run_op_convert {o : Oper} {s d : TypeId} {x : Operand} (ho : o.op = .convert s d x) {ρ : Operand → Value} {v : Value} (hr : (convert s d (ρ x)).run P w = .ok v w) : (execOp ρ o).run P w = .ok (.value v) w := by
  simp [execOp, ho, hr]
theorem arm_str {dst : Option Tmp} {src d : TypeId} {x : Operand} {ty : TypeId} {pos : String} {after : Array Edge} {gd : Option (Nat × Bool)}
    (hw : Region.wanted ⟨dst, .convert src d x, ty, pos, after, gd⟩ (yielded ops a.tmps) = true) {aa : Addr} {m c : Nat} (hx : a.eval x = .slice (some aa) m c) (E : ElemTy P src e 1 1) (he : P.underlying e = some (.int .u8)) (hd : P.underlying d = some .string)
    {l : List UInt8} (hl : l.length = m) (hc : ∀ (j : Nat) v, (Bs l)[j]? = some v → w.cell? (aa.add j) = some v)
    (K : wpList P ops Q rest (a.put dst (.string ⟨l.toArray⟩)) w) : wpList P ops Q (⟨dst, .convert src d x, ty, pos, after, gd⟩ :: rest) a w := by
  subst hl
  refine arm_val hw (run_op_convert rfl ?_) K
  rw [hx]
  exact run_convert_bytes_back w src d e aa c l E.ht he hd fun j hj => hc j _ (Bs_get hj)
theorem run_convert_nil {src d : TypeId} (hs : P.underlying src = some (.slice e)) (he : P.underlying e = some (.int .u8)) (hd : P.underlying d = some .string) : (convert src d (.slice none 0 0)).run P w = .ok (.string ⟨#[]⟩) w := by
  rw [run_convert_bytes_string w src d e none 0 0 hs he hd]
  rfl
theorem Sat.cellDrop {b off : Nat} {cs : List Value} {l : List UInt8} (hS : Sat w0 w Hs) (hm : blk b e cs ∈ Hs) (hd : (cs.drop off).take l.length = Bs l) : ∀ (j : Nat) v, (Bs l)[j]? = some v → w.cell? ((⟨b, off, none⟩ : Addr).add j) = some v := by
  intro j v hj
  rw [add_eq]
  refine hS.cell hm ?_
  rw [← hd, List.getElem?_take] at hj
  split at hj
  · rw [List.getElem?_drop] at hj; exact hj
  · cases hj
theorem arm_strOwn {dst : Option Tmp} {src d : TypeId} {x : Operand} {ty : TypeId} {pos : String} {after : Array Edge} {gd : Option (Nat × Bool)} (hS : Sat w0 w Hs)
    (hw : Region.wanted ⟨dst, .convert src d x, ty, pos, after, gd⟩ (yielded ops a.tmps) = true) (hx : a.eval x = .slice ad n cap) (E : ElemTy P src e 1 1) (he : P.underlying e = some (.int .u8)) (hd : P.underlying d = some .string)
    {l : List UInt8} (hm : own e 1 ad n cap (Bs l) ∈ Hs) (K : wpList P ops Q rest (a.put dst (.string ⟨l.toArray⟩)) w) : wpList P ops Q (⟨dst, .convert src d x, ty, pos, after, gd⟩ :: rest) a w := by
  have hlen := hS.ownLen hm
  rw [Bs_length, Nat.mul_one] at hlen
  rcases hS.ownAd hm with ⟨rfl, rfl, rfl, h0⟩ | ⟨g, rfl⟩
  · have : l = [] := by simpa using hlen
    subst this
    exact arm_val hw (run_op_convert rfl (by rw [hx]; exact run_convert_nil E.ht he hd)) K
  · exact arm_str hw hx E he hd hlen (fun j v hj => by have := (hS.ownCell hm hj).1; simpa [adr] using this) K
/-! ### Slices of an array variable -/
theorem run_op_slice {o : Oper} {t : TypeId} {x : Operand} {lo hi mx : Option Operand} (ho : o.op = .slice t x lo hi mx) {ρ : Operand → Value} {v : Value} (hr : (Instr.sliceAt t (ρ x) (lo.map ρ) (hi.map ρ) (mx.map ρ)).run P w = .ok v w) :
    (execOp ρ o).run P w = .ok (.value v) w := by
  simp [execOp, ho, hr]
end
end Go.SL
end
section
set_option linter.unusedVariables false
set_option linter.unusedSimpArgs false
namespace Go.SL
open Go Go.RowKit

section
variable {P : Program} {ops : Array Oper} {Q : Exit → Act → World → Prop} {rest : List Oper} {a : Act} {w w0 : World} {Hs : List HP} {k e : TypeId} {b : Nat}

def cm (b : Nat) (es : List MapEntry) (clock : Nat) : HP := pt b (.map es.toArray clock)
structure KeyTy (P : Program) (t k e : TypeId) (d : TypeDesc) : Prop where
  ht : P.underlying t = some (.map k e)
  hk : P.underlying k = some d
  hd : d = .string ∨ ∃ j, d = .int j
theorem run_checkKey {t : TypeId} {d : TypeDesc} (K : KeyTy P t k e d) (b : Bool) (n : Nat) (v : Value) (w : World) : (Instr.checkKey b (n + 1) k v).run P w = .ok () w := by
  have h := run_underlying K.hk
  rcases K.hd with rfl | ⟨j, rfl⟩
  all_goals
    unfold Instr.checkKey
    simp [h]
theorem run_findKey {t : TypeId} {d : TypeDesc} (K : KeyTy P t k e d) {key : Value} {es : List MapEntry} {r : Option (Nat × Value)} (hf : Instr.findNow d key es 0 = some r) (w : World) : (Instr.findKey k key es).run P w = .ok r w := by
  have h := run_underlying K.hk
  simp [Instr.findKey, h, hf]
theorem run_lookupC {t : TypeId} {d : TypeDesc} (K : KeyTy P t k e d) {es : List MapEntry} {c : Nat} (hS : Sat w0 w Hs) (hm : cm b es c ∈ Hs) {key : Value} {r : Option (Nat × Value)} (hf : Instr.findNow d key es 0 = some r) {z : Value} (hz : ∀ w, (zeroValue e).run P w = .ok z w) (ok : Bool) :
    (Instr.lookup t (.map (some b)) key ok).run P w = .ok (if ok then .tuple #[(r.map (·.2)).getD z, .bool r.isSome] else (r.map (·.2)).getD z) w := by
  have hb := hS.block (show pt b (.map es.toArray c) ∈ Hs from hm)
  have ht := run_underlying K.ht
  have h1 := MapKept.run_getObj_map (P := P) hb
  have h2 := fun x => run_checkKey K x 9999 key w
  have h3 := run_findKey K hf w
  unfold Instr.lookup
  cases r with
  | none => cases ok <;> simp [ht, h1, h2, h3, hz]
  | some iv => cases ok <;> simp [ht, h1, h2, h3, hz]
theorem arm_lookupC {dst : Option Tmp} {t : TypeId} {m x : Operand} {ok : Bool} {ty : TypeId} {pos : String} {after : Array Edge} {gd : Option (Nat × Bool)} {d : TypeDesc} (hS : Sat w0 w Hs)
    (hw : Region.wanted ⟨dst, .lookup t m x ok, ty, pos, after, gd⟩ (yielded ops a.tmps) = true) (hm : a.eval m = .map (some b)) {key : Value} (hx : a.eval x = key) (K0 : KeyTy P t k e d) {es : List MapEntry} {c : Nat} (hmem : cm b es c ∈ Hs)
    {r : Option (Nat × Value)} (hf : Instr.findNow d key es 0 = some r) {z : Value} (hz : ∀ w, (zeroValue e).run P w = .ok z w) {v : Value} (hv : (if ok then .tuple #[(r.map (·.2)).getD z, .bool r.isSome] else (r.map (·.2)).getD z) = v)
    (K : wpList P ops Q rest (a.put dst v) w) : wpList P ops Q (⟨dst, .lookup t m x ok, ty, pos, after, gd⟩ :: rest) a w := by
  subst hv
  have hr := run_lookupC K0 hS hmem hf hz ok
  refine arm_val hw ?_ K
  simp [execOp, hm, hx, hr]
theorem run_mapUpdateC {t : TypeId} {d : TypeDesc} (K : KeyTy P t k e d) {es : List MapEntry} {c : Nat} (hS : Sat w0 w Hs) {Hs' : List HP} {key val : Value} (u : Upd Hs (cm b es c) (cm b (es ++ [⟨key, val, c⟩]) (c + 1)) Hs') (hf : Instr.findNow d key es 0 = some none) :
    ∃ w', (Instr.mapUpdate t (.map (some b)) key val).run P w = .ok () w' ∧ Sat w0 w' Hs' := by
  have hb := hS.block (show pt b (.map es.toArray c) ∈ Hs from u.mem)
  have ht := run_underlying K.ht
  have h1 := MapKept.run_getObj_map (P := P) hb
  have h2 := run_checkKey K false 9999 key w
  have h3 := run_findKey K hf w
  have h4 := fun o => MapKept.run_setObj_map (P := P) o hb
  refine ⟨w.putObj b (.map (es ++ [(⟨key, val, c⟩ : MapEntry)]).toArray (c + 1)), ?_, ?_⟩
  · unfold Instr.mapUpdate
    simp [ht, h1, h2, h3, h4, World.putObj]
  · have hlt := (Array.getElem?_eq_some_iff.1 hb).1
    have u' : Upd Hs (pt b (.map es.toArray c)) (pt b (.map (es ++ [(⟨key, val, c⟩ : MapEntry)]).toArray (c + 1))) Hs' := u
    exact hS.setObj u' rfl rfl rfl (by simp) (World.putObj_heap_same hlt) fun c' hc => World.putObj_heap_other hc
theorem run_op_insert {o : Oper} {t : TypeId} {m x y : Operand} (ho : o.op = .insert t m x y ∨ o.op = .mapUpdate t m x y) {ρ : Operand → Value} {w' : World} {mv xv yv : Value} (hm : ρ m = mv) (hx : ρ x = xv) (hy : ρ y = yv) (hr : (Instr.mapUpdate t mv xv yv).run P w = .ok () w') : (execOp ρ o).run P w = .ok .skip w' := by
  subst hm; subst hx; subst hy
  rcases ho with ho | ho <;> simp [execOp, ho, hr]
theorem arm_insertC {o : Oper} {t : TypeId} {m x y : Operand} {d : TypeDesc} (hS : Sat w0 w Hs) (ho : o.op = .insert t m x y ∨ o.op = .mapUpdate t m x y)
    (hw : Region.wanted o (yielded ops a.tmps) = true) (hm : a.eval m = .map (some b)) {key val : Value} (hx : a.eval x = key) (hy : a.eval y = val) (K0 : KeyTy P t k e d) {es : List MapEntry} {c : Nat} (hmem : cm b es c ∈ Hs) (hf : Instr.findNow d key es 0 = some none)
    {Hs' : List HP} (u : Upd Hs (cm b es c) (cm b (es ++ [⟨key, val, c⟩]) (c + 1)) Hs') (K : ∀ w', Sat w0 w' Hs' → wpList P ops Q rest (a.put o.dst undef) w') : wpList P ops Q (o :: rest) a w := by
  obtain ⟨w', hr, hS'⟩ := run_mapUpdateC K0 hS u hf
  exact arm_skip hw (run_op_insert ho hm hx hy hr) (K w' hS')
theorem arm_makeMapC {dst : Option Tmp} {t : TypeId} {ty : TypeId} {pos : String} {after : Array Edge} {gd : Option (Nat × Bool)} (hS : Sat w0 w Hs)
    (hw : Region.wanted ⟨dst, .makeMap t none, ty, pos, after, gd⟩ (yielded ops a.tmps) = true)
    (K : ∀ b w', Sat w0 w' (cm b [] 0 :: Hs) → wpList P ops Q rest (a.put dst (.map (some b))) w') : wpList P ops Q (⟨dst, .makeMap t none, ty, pos, after, gd⟩ :: rest) a w := by
  have hr : (execOp a.eval ⟨dst, .makeMap t none, ty, pos, after, gd⟩).run P w = .ok (.value (.map (some w.heap.size))) (w.alloc (.map #[] 0)) := by
    simp [execOp, Instr.makeMap, newObj, Sem.run]
  exact arm_val hw hr (K _ _ (hS.alloc (.map #[] 0)))
end
end Go.SL
end
section
set_option linter.unusedVariables false
namespace Go.SL
open Go

section
variable {P : Program} {ops : Array Oper} {Q : Exit → Act → World → Prop} {md : Region.Mode} {S : World → Prop} {js : List Nat}

def brk (js : List Nat) (listed : Array Bool) : Bool := js.any fun j => listed.getD j false
def wpAnyS (P : Program) (md : Region.Mode) (ops : Array Oper) (Q : Exit → Act → World → Prop) (S : World → Prop) (js : List Nat) : Nat → Array Bool → Act → World → Prop
  | 0, listed, a, w => Region.ready md ops listed = [] ∧ Q .normal a w
  | fuel + 1, listed, a, w =>
    (Region.ready md ops listed = [] → Q .normal a w) ∧
    ∀ i ∈ Region.ready md ops listed, wpOp P ops Q i (fun a' w' => (brk js (listed.setIfInBounds i true) = true ∨ S w') ∧ wpAnyS P md ops Q S js fuel (listed.setIfInBounds i true) a' w') a w
theorem wpAny_of_S : ∀ (fuel : Nat) (listed : Array Bool) (a : Act) (w : World), wpAnyS P md ops Q S js fuel listed a w → wpAny P md ops Q fuel listed a w
  | 0, _, _, _, h => h
  | fuel + 1, _, _, _, h => ⟨h.1, fun i hi => wpOp_mono (fun a' w' h' => wpAny_of_S fuel _ a' w' h'.2) (h.2 i hi)⟩

def Closed (md : Region.Mode) (ops : Array Oper) (listed : Array Bool) : Prop := ∀ j o, ops[j]? = some o → listed.getD j false = true → ∀ e ∈ o.after, Region.binds md e = true → listed.getD e.on false = true
def anc (md : Region.Mode) (ops : Array Oper) : Nat → Nat → Nat → Bool
  | 0, _, _ => false
  | k + 1, j, i => match ops[j]? with
    | none => false
    | some o => o.after.any fun e => Region.binds md e && (e.on == i || anc md ops k e.on i)
theorem anc_listed {listed : Array Bool} (hc : Closed md ops listed) {i : Nat} : ∀ (k j : Nat), anc md ops k j i = true → listed.getD j false = true → listed.getD i false = true := by
  intro k
  induction k with
  | zero => intro j h; simp [anc] at h
  | succ k ih =>
    intro j h hj
    simp only [anc] at h
    cases ho : ops[j]? with
    | none => simp [ho] at h
    | some o =>
      simp only [ho] at h
      obtain ⟨e, he, hb⟩ := Array.any_eq_true'.1 h
      simp only [Bool.and_eq_true, Bool.or_eq_true, beq_iff_eq] at hb
      have h1 := hc j o ho hj e he hb.1
      rcases hb.2 with h2 | h2
      · rw [← h2]; exact h1
      · exact ih _ h2 h1
theorem anc_ready {listed : Array Bool} (hc : Closed md ops listed) {i k j : Nat} (h : anc md ops k j i = true) (hr : j ∈ Region.ready md ops listed) : listed.getD i false = true := by
  obtain ⟨h0, o, ho, hall⟩ := mem_ready.1 hr
  cases k with
  | zero => simp [anc] at h
  | succ k =>
    simp only [anc, ho] at h
    obtain ⟨e, he, hb⟩ := Array.any_eq_true'.1 h
    simp only [Bool.and_eq_true, Bool.or_eq_true, beq_iff_eq] at hb
    have h1 := hall e he hb.1
    rcases hb.2 with h2 | h2
    · rw [← h2]; exact h1
    · exact anc_listed hc _ _ h2 h1
theorem Closed.set {listed : Array Bool} (hc : Closed md ops listed) {i : Nat} (hr : i ∈ Region.ready md ops listed) : Closed md ops (listed.setIfInBounds i true) := by
  intro j o ho hj e he hb
  obtain ⟨h0, oi, hoi, hall⟩ := mem_ready.1 hr
  by_cases hij : i = j
  · subst hij
    rw [ho] at hoi
    cases hoi
    exact getD_set_true (hall e he hb)
  · rw [getD_set_ne false hij] at hj
    exact getD_set_true (hc j o ho hj e he hb)
theorem Closed.start (n : Nat) : Closed md ops (Array.replicate n false) := by
  intro j o ho hj
  by_cases h : j < n <;> simp [Array.getD, h] at hj
theorem brk_set {listed : Array Bool} {i : Nat} (hi : i ∉ js) : brk js (listed.setIfInBounds i true) = brk js listed := by
  unfold brk
  induction js with
  | nil => rfl
  | cons j js ih =>
    simp only [List.mem_cons, not_or] at hi
    simp only [List.any_cons]
    rw [getD_set_ne false hi.1, ih hi.2]

theorem notIn {listed : Array Bool} {i : Nat} (h0 : listed.getD i true = false) : listed.getD i false = false := by
  rcases Nat.lt_or_ge i listed.size with h' | h'
  · simp [Array.getD, h'] at h0 ⊢; exact h0
  · simp [Array.getD, Nat.not_lt.2 h'] at h0
theorem wpAnyS_first {i : Nat} {oi : Oper} {v : Value} (hi : ops[i]? = some oi) (hsel : ∀ (j : Nat) (o : Oper) cs b, ops[j]? = some o → o.op ≠ .select cs b)
    (hQ : ∀ c a w, Q (.panic c) (a.put oi.dst v) w → Q (.panic c) a w) (hjs : ∀ j ∈ js, ∃ k, anc md ops k j i = true) (hni : i ∉ js) :
    ∀ (fuel : Nat) (listed : Array Bool) (a : Act) (w : World),
      (∀ j oj, ops[j]? = some oj → j ≠ i → listed.getD j true = false → (∀ e ∈ oj.after, Region.binds md e = true → e.on ≠ i) → oi.apart ops oj = true) →
      Closed md ops listed → i ∈ Region.ready md ops listed → YieldsIf P ops S oi v a → S w →
      wpAnyS P md ops Q S js fuel (listed.setIfInBounds i true) (a.put oi.dst v) w → wpAnyS P md ops Q S js (fuel + 1) listed a w := by
  intro fuel
  induction fuel with
  | zero =>
    intro listed a w _ hc hr hy hS H
    refine ⟨fun h => (by rw [h] at hr; cases hr), fun j hj => ?_⟩
    by_cases hji : j = i
    · subst hji; exact hy.wpOp hi hS ⟨.inr hS, H⟩
    · have := ready_mono hj hji
      rw [H.1] at this
      cases this
  | succ fuel ih =>
    intro listed a w hfree hc hr hy hS H
    refine ⟨fun h => (by rw [h] at hr; cases hr), fun j hj => ?_⟩
    by_cases hji : j = i
    · subst hji; exact hy.wpOp hi hS ⟨.inr hS, H⟩
    · have h1 := H.2 j (ready_mono hj hji)
      obtain ⟨hjun, oj, hoj, hall⟩ := mem_ready.1 hj
      have hiun := notIn (mem_ready.1 hr).1
      have hnot : ∀ e ∈ oj.after, Region.binds md e = true → e.on ≠ i := fun e he hb heq => by
        have h1 := hall e he hb
        rw [heq, hiun] at h1
        cases h1
      have hjn : j ∉ js := fun hm => by
        obtain ⟨k, hk⟩ := hjs j hm
        have := anc_ready hc hk hj
        rw [hiun] at this
        cases this
      have hb0 : brk js listed = false := by
        unfold brk
        rw [List.any_eq_false]
        intro x hx hxl
        obtain ⟨k, hk⟩ := hjs x hx
        have := anc_listed hc _ _ hk hxl
        rw [hiun] at this
        cases this
      have hb1 : brk js ((listed.setIfInBounds i true).setIfInBounds j true) = false := by rw [brk_set hjn, brk_set hni, hb0]
      have h2 := wpOp_putIf hoj (hfree j oj hoj hji hjun hnot) (fun cs b => hsel i oi cs b hi) (fun cs b => hsel j oj cs b hoj) hQ hy h1
      have hfree' : ∀ k ok, ops[k]? = some ok → k ≠ i → (listed.setIfInBounds j true).getD k true = false →
          (∀ e ∈ ok.after, Region.binds md e = true → e.on ≠ i) → oi.apart ops ok = true := fun k ok hk hki hun hno => by
        refine hfree k ok hk hki ?_ hno
        by_cases hjk : j = k
        · subst hjk; exact hjun
        · rw [getD_set_ne true hjk] at hun; exact hun
      refine wpOp_mono (fun a' w' h3 => ?_) h2
      have hS' : S w' := h3.2.1.resolve_left (by rw [hb1]; simp)
      refine ⟨.inr hS', ih (listed.setIfInBounds j true) a' w' hfree' (hc.set hj) (ready_mono hr (Ne.symm hji)) h3.1 hS' ?_⟩
      rw [Array.setIfInBounds_comm _ _ hji]
      exact h3.2.2
theorem wpAnyS_firstAny {i : Nat} {oi : Oper} {v : Value} (hi : ops[i]? = some oi) (hsel : ∀ (j : Nat) (o : Oper) cs b, ops[j]? = some o → o.op ≠ .select cs b)
    (hQ : ∀ c a w, Q (.panic c) (a.put oi.dst v) w → Q (.panic c) a w) (hni : i ∉ js) :
    ∀ (fuel : Nat) (listed : Array Bool) (a : Act) (w : World),
      (∀ j oj, ops[j]? = some oj → j ≠ i → listed.getD j true = false → (∀ e ∈ oj.after, Region.binds md e = true → e.on ≠ i) → oi.apart ops oj = true) →
      i ∈ Region.ready md ops listed → YieldsIf P ops (fun _ => True) oi v a → (brk js listed = true ∨ S w) →
      wpAnyS P md ops Q S js fuel (listed.setIfInBounds i true) (a.put oi.dst v) w → wpAnyS P md ops Q S js (fuel + 1) listed a w := by
  intro fuel
  induction fuel with
  | zero =>
    intro listed a w _ hr hy hS H
    refine ⟨fun h => (by rw [h] at hr; cases hr), fun j hj => ?_⟩
    by_cases hji : j = i
    · subst hji; exact hy.wpOp hi trivial ⟨by rw [brk_set hni]; exact hS, H⟩
    · have := ready_mono hj hji
      rw [H.1] at this
      cases this
  | succ fuel ih =>
    intro listed a w hfree hr hy hS H
    refine ⟨fun h => (by rw [h] at hr; cases hr), fun j hj => ?_⟩
    by_cases hji : j = i
    · subst hji; exact hy.wpOp hi trivial ⟨by rw [brk_set hni]; exact hS, H⟩
    · have h1 := H.2 j (ready_mono hj hji)
      obtain ⟨hjun, oj, hoj, hall⟩ := mem_ready.1 hj
      have hiun := notIn (mem_ready.1 hr).1
      have hnot : ∀ e ∈ oj.after, Region.binds md e = true → e.on ≠ i := fun e he hb heq => by
        have h1 := hall e he hb
        rw [heq, hiun] at h1
        cases h1
      have h2 := wpOp_putIf hoj (hfree j oj hoj hji hjun hnot) (fun cs b => hsel i oi cs b hi) (fun cs b => hsel j oj cs b hoj) hQ hy h1
      have hfree' : ∀ k ok, ops[k]? = some ok → k ≠ i → (listed.setIfInBounds j true).getD k true = false →
          (∀ e ∈ ok.after, Region.binds md e = true → e.on ≠ i) → oi.apart ops ok = true := fun k ok hk hki hun hno => by
        refine hfree k ok hk hki ?_ hno
        by_cases hjk : j = k
        · subst hjk; exact hjun
        · rw [getD_set_ne true hjk] at hun; exact hun
      refine wpOp_mono (fun a' w' h3 => ?_) h2
      have hb : brk js ((listed.setIfInBounds i true).setIfInBounds j true) = brk js (listed.setIfInBounds j true) := by
        rw [Array.setIfInBounds_comm _ _ (Ne.symm hji), brk_set hni]
      have hS' : brk js (listed.setIfInBounds j true) = true ∨ S w' := by rw [← hb]; exact h3.2.1
      refine ⟨hS', ih (listed.setIfInBounds j true) a' w' hfree' (ready_mono hr (Ne.symm hji)) h3.1 hS' ?_⟩
      rw [Array.setIfInBounds_comm _ _ hji]
      exact h3.2.2

/-! ### The moves -/
theorem brk_keep {listed : Array Bool} {i : Nat} {w : World} (hn : js.contains i = false) (hS : brk js listed = true ∨ S w) : brk js (listed.setIfInBounds i true) = true ∨ S w := by
  rw [brk_set (by simpa using hn)]; exact hS
theorem draw_read {i : Nat} {oi : Oper} {v : Value} {fuel : Nat} {listed : Array Bool} {a : Act} {w : World} (hi : ops[i]? = some oi) (hs : Region.noSelect ops = true) (hf : Region.free md ops listed i = true)
    (hr : (Region.ready md ops listed).contains i = true) (ha : (js.all fun j => anc md ops ops.size j i) = true) (hn : js.contains i = false) (hc : Closed md ops listed) (hQ : ∀ c a w, Q (.panic c) (a.put oi.dst v) w → Q (.panic c) a w) (hS : brk js listed = true ∨ S w) (hb : brk js listed = false)
    (hw : Region.wanted oi (yielded ops a.tmps) = true) (hy : ∀ w, S w → (execOp a.eval oi).run P w = .ok (.value v) w)
    (h : (brk js (listed.setIfInBounds i true) = true ∨ S w) → Closed md ops (listed.setIfInBounds i true) → wpAnyS P md ops Q S js fuel (listed.setIfInBounds i true) (a.put oi.dst v) w) : wpAnyS P md ops Q S js (fuel + 1) listed a w :=
  wpAnyS_first hi (Region.noSelect_spec hs) hQ (fun j hj => ⟨_, by simpa using List.all_eq_true.1 ha j hj⟩) (by simpa using hn) fuel listed a w (Region.free_spec hi hf) hc (by simpa using hr) (.inl ⟨hw, hy⟩) (hS.resolve_left (by rw [hb]; simp)) (h (brk_keep hn hS) (hc.set (by simpa using hr)))
theorem draw_pure {i : Nat} {oi : Oper} {v : Value} {fuel : Nat} {listed : Array Bool} {a : Act} {w : World} (hi : ops[i]? = some oi) (hs : Region.noSelect ops = true) (hf : Region.free md ops listed i = true)
    (hr : (Region.ready md ops listed).contains i = true) (hn : js.contains i = false) (hc : Closed md ops listed) (hQ : ∀ c a w, Q (.panic c) (a.put oi.dst v) w → Q (.panic c) a w) (hS : brk js listed = true ∨ S w)
    (hw : Region.wanted oi (yielded ops a.tmps) = true) (hy : ∀ w, (execOp a.eval oi).run P w = .ok (.value v) w)
    (h : (brk js (listed.setIfInBounds i true) = true ∨ S w) → Closed md ops (listed.setIfInBounds i true) → wpAnyS P md ops Q S js fuel (listed.setIfInBounds i true) (a.put oi.dst v) w) : wpAnyS P md ops Q S js (fuel + 1) listed a w :=
  wpAnyS_firstAny hi (Region.noSelect_spec hs) hQ (by simpa using hn) fuel listed a w (Region.free_spec hi hf) (by simpa using hr) (.inl ⟨hw, fun w _ => hy w⟩) hS (h (brk_keep hn hS) (hc.set (by simpa using hr)))
theorem draw_skip {i : Nat} {oi : Oper} {fuel : Nat} {listed : Array Bool} {a : Act} {w : World} (hi : ops[i]? = some oi) (hs : Region.noSelect ops = true) (hf : Region.free md ops listed i = true)
    (hr : (Region.ready md ops listed).contains i = true) (hn : js.contains i = false) (hc : Closed md ops listed) (hQ : ∀ c a w, Q (.panic c) (a.put oi.dst undef) w → Q (.panic c) a w) (hS : brk js listed = true ∨ S w)
    (hw : Region.wanted oi (yielded ops a.tmps) = false)
    (h : (brk js (listed.setIfInBounds i true) = true ∨ S w) → Closed md ops (listed.setIfInBounds i true) → wpAnyS P md ops Q S js fuel (listed.setIfInBounds i true) (a.put oi.dst undef) w) : wpAnyS P md ops Q S js (fuel + 1) listed a w :=
  wpAnyS_firstAny hi (Region.noSelect_spec hs) hQ (by simpa using hn) fuel listed a w (Region.free_spec hi hf) (by simpa using hr) (.inr ⟨hw, rfl⟩) hS (h (brk_keep hn hS) (hc.set (by simpa using hr)))
def Cont (P : Program) (md : Region.Mode) (ops : Array Oper) (Q : Exit → Act → World → Prop) (S : World → Prop) (js : List Nat) (fuel : Nat) (listed : Array Bool) (a : Act) (w : World) : Prop :=
  (brk js listed = true ∨ S w) ∧ (Closed md ops listed → wpAnyS P md ops Q S js fuel listed a w)
theorem Cont.intro {fuel : Nat} {listed : Array Bool} {a : Act} {w : World} (h : brk js listed = true ∨ S w) (k : (brk js listed = true ∨ S w) → Closed md ops listed → wpAnyS P md ops Q S js fuel listed a w) : Cont P md ops Q S js fuel listed a w := ⟨h, k h⟩
theorem draw_act {i : Nat} {oi : Oper} {fuel : Nat} {listed : Array Bool} {a : Act} {w : World} (hi : ops[i]? = some oi) (hr : Region.ready md ops listed = [i]) (hc : Closed md ops listed)
    (h : wpList P ops (Exit.then (Cont P md ops Q S js fuel (listed.setIfInBounds i true)) Q) [oi] a w) : wpAnyS P md ops Q S js (fuel + 1) listed a w := by
  refine ⟨fun h0 => (by rw [hr] at h0; cases h0), fun j hj => ?_⟩
  rw [hr, List.mem_singleton] at hj
  subst hj
  have hmem : j ∈ Region.ready md ops listed := by rw [hr]; exact List.mem_singleton.2 rfl
  refine wpOp_mono (K := Cont P md ops Q S js fuel (listed.setIfInBounds j true)) (fun a' w' h' => ⟨h'.1, h'.2 (hc.set hmem)⟩) ?_
  unfold wpOp
  simp only [hi]
  simp only [wpList] at h
  split
  · rename_i hw
    rw [if_pos hw] at h
    rcases h with h1 | ⟨h1, h2⟩
    · left
      unfold Oper.wp at *
      generalize (execOp a.eval oi).run P w = r at *
      cases r with
      | ok n w' => cases n <;> simp only [Oper.upon] at h1 ⊢ <;> first | exact h1 | exact Calls.mono h1 (fun e w'' he => by cases e <;> first | exact he | (obtain ⟨a0, w0, h0⟩ := he; exact ⟨a0, w0, h0⟩)) | exact Rows.mono h1 (fun _ _ he => he)
      | halt x w' => cases x <;> simp only [Oper.upon] at h1 ⊢ <;> exact h1
    · right
      obtain ⟨a0, w0, h0⟩ := h2
      exact ⟨h1, a0, w0, h0⟩
  · rename_i hw
    rw [if_neg hw] at h
    exact h
theorem draw_done {fuel : Nat} {listed : Array Bool} {a : Act} {w : World} (hr : Region.ready md ops listed = []) (h : Q .normal a w) : wpAnyS P md ops Q S js fuel listed a w := by
  cases fuel with
  | zero => exact ⟨hr, h⟩
  | succ n => exact ⟨fun _ => h, by rw [hr]; simp⟩
theorem draw_start {id : Nat} {a : Act} {w : World} (hm : P.follows .mixedOrders = true) (S : World → Prop) (js : List Nat)
    (h : Closed .any ops (Array.replicate ops.size false) → wpAnyS P .any ops Q S js ops.size (Array.replicate ops.size false) a w.drew) : (Code.region id ops true).wp P Q a w :=
  wp_region_any hm (wpAny_of_S _ _ _ _ (h (Closed.start _)))
theorem draw_sat {w0 : World} {Hs : List HP} (id n : Nat) {a : Act} {w : World} (hS : Sat w0 w Hs) (hm : P.follows .mixedOrders = true) (js : List Nat) (hn : ops.size = n)
    (h : ∀ w, Sat w0 w Hs → (brk js (Array.replicate n false) = true ∨ Sat w0 w Hs) → Closed .any ops (Array.replicate n false) → wpAnyS P .any ops Q (fun w => Sat w0 w Hs) js n (Array.replicate n false) a w) : (Code.region id ops true).wp P Q a w := by
  subst hn; exact draw_start hm _ js (h _ hS.drew (.inr hS.drew))
theorem draw_rem {w0 : World} {Hs Hr : List HP} (A : HP) (id n : Nat) {a : Act} {w : World} (hS : Sat w0 w Hs) (s : Rem Hs A Hr) (hm : P.follows .mixedOrders = true) (js : List Nat) (hn : ops.size = n)
    (h : ∀ w, Sat w0 w Hs → (brk js (Array.replicate n false) = true ∨ Sat w0 w Hr) → Closed .any ops (Array.replicate n false) → wpAnyS P .any ops Q (fun w => Sat w0 w Hr) js n (Array.replicate n false) a w) : (Code.region id ops true).wp P Q a w := by
  subst hn; exact draw_start hm _ js (h _ hS.drew (.inr (hS.drew.front s).drop))
end
theorem draw_ia {P : Program} {T e : TypeId} {size bytes : Nat} (E : ElemTy P T e size bytes) {o : Oper} {x i : Operand} (ho : o.op = .indexAddr T x i) {ρ : Operand → Value} {w : World} {ad : Option Addr} {n cap : Nat} {k : IntKind} {ix : Int}
    (hx : ρ x = .slice ad n cap) (hi : ρ i = .int k ix) (h0 : 0 ≤ ix) (h1 : ix < n) (hne : ∃ aa, ad = some aa ∧ aa.spot = none) {j : Nat} (hj : ix.toNat * size = j) : (execOp ρ o).run P w = .ok (.value (.pointer (some (adr ad j)))) w := by
  obtain ⟨aa, rfl, _⟩ := hne
  subst hj
  exact run_op_indexAddr ho hx hi E.ht E.sz h0 h1
end Go.SL
end
section
set_option linter.unusedVariables false
set_option linter.unusedSimpArgs false
namespace Go.SL
open Go Go.RowKit

section
variable {P : Program} {ops : Array Oper} {Q : Exit → Act → World → Prop} {n l : Nat}

/-! ### A range over a function whose body goes on in every round -/
theorem Upd.mid (A : List HP) (x y : HP) (L : List HP) : Upd (A ++ x :: L) x y (A ++ y :: L) := by
  induction A with
  | nil => exact .hd
  | cons c A ih => exact .tl ih
theorem mem_mid (A : List HP) (x : HP) (L : List HP) : x ∈ A ++ x :: L := List.mem_append_right _ (.head _)
theorem Sat.putObj {w0 w : World} {A L : List HP} {b : Nat} {o : Obj} (o' : Obj) (hS : Sat w0 w (A ++ pt b o :: L)) : Sat w0 (w.putObj b o') (A ++ pt b o' :: L) := by
  have h := hS.block (mem_mid A (pt b o) L)
  exact hS.setObj (Upd.mid A _ _ L) rfl rfl rfl (by simp) (World.putObj_heap_same (Array.getElem?_eq_some_iff.1 h).1) fun c hc => World.putObj_heap_other hc
end
end Go.SL
end
section
namespace Go.Proofs
open Go.Shelf
def Tryz.lays118_ren : Go.Shelf.Ren := ⟨fun | 118 => 138 | n => n, fun | 21 => 21 | 3 => 3 | 4 => 4 | n => n, fun | n => n⟩
theorem Tryz.lays118 : Go.Proofs.Lays.n118 Tryz.prog Tryz.lays118_ren := {
  mixed := by kernel_rfl
  f118 := Tryz.func138.trans (congrArg some (by kernel_rfl))
  t3 := Tryz.underlying3
  a3 := Tryz.isAgg3
  z3 := Tryz.sizeOf3
  v3 := Tryz.zeroValue3
  t4 := Tryz.underlying4
  a4 := Tryz.isAgg4
  z4 := Tryz.sizeOf4
  v4 := Tryz.zeroValue4
  t21 := Tryz.underlying21
  a21 := Tryz.isAgg21
  z21 := Tryz.sizeOf21
  v21 := Tryz.zeroValue21 }
theorem Tryz.utf8_RuneLen (r : Int) (w : World) :
    Calls Tryz.prog 138 #[.int .i32 r] w fun e w' => e = .returned (.int .i64 (Lib.runeLen r)) ∧ w' = w := Any.utf8_RuneLen Tryz.lays118 r w
def Tryz.lays137_ren : Go.Shelf.Ren := ⟨fun | 137 => 132 | 217 => 148 | 266 => 161 | n => n, fun | 9 => 9 | 5 => 5 | 3 => 3 | n => n, fun | n => n⟩
theorem Tryz.lays137 : Go.Proofs.Lays.n137 Tryz.prog Tryz.lays137_ren := {
  mixed := by kernel_rfl
  f137 := Tryz.func132.trans (congrArg some (by kernel_rfl))
  f217 := Tryz.func148.trans (congrArg some (by kernel_rfl))
  f266 := Tryz.func161.trans (congrArg some (by kernel_rfl))
  t3 := Tryz.underlying3
  a3 := Tryz.isAgg3
  z3 := Tryz.sizeOf3
  v3 := Tryz.zeroValue3
  t5 := Tryz.underlying5
  a5 := Tryz.isAgg5
  z5 := Tryz.sizeOf5
  v5 := Tryz.zeroValue5
  t9 := Tryz.underlying9
  a9 := Tryz.isAgg9
  z9 := Tryz.sizeOf9
  v9 := Tryz.zeroValue9 }
open Go.RowKit in
/-- strings.IndexByte: "IndexByte returns the index of the first instance of c in s, or -1 if c is not present in s.": IT RETURNS 'Lib.indexByte s c'; the world is as it was. (LAID: no walk: one application.) -/
theorem Tryz.strings_IndexByte (s : ByteArray) (c : Int) (w : World) :
    Calls Tryz.prog 132 #[.string s, .int .u8 c] w fun e w' => e = .returned (.int .i64 (Lib.indexByte s.data.toList c.toNat.toUInt8)) ∧ w' = w := Any.strings_IndexByte Tryz.lays137 s c w
def Tryz.laysM171_ren : Go.Shelf.Ren := ⟨fun | 171 => 75 | 243 => 110 | 246 => 130 | 283 => 144 | 284 => 145 | 285 => 146 | 286 => 147 | 129 => 157 | 317 => 156 | 318 => 158 | 319 => 159 | 320 => 160 | 337 => 164 | 338 => 165 | n => n, fun | 3 => 3 | 9 => 9 | 2 => 2 | 4 => 4 | 171 => 213 | 0 => 0 | 53 => 214 | 37 => 66 | 5 => 5 | 173 => 217 | 212 => 224 | 51 => 225 | 20 => 20 | 213 => 226 | 46 => 222 | 232 => 236 | 233 => 237 | n => n, fun | 17 => 3 | 18 => 6 | 19 => 7 | n => n⟩
theorem Tryz.laysM171 : Go.Proofs.LaysM.n171 Tryz.prog Tryz.laysM171_ren := {
  mixed := by kernel_rfl
  f129 := Tryz.func157.trans (congrArg some (by kernel_rfl))
  f171 := Tryz.func75.trans (congrArg some (by kernel_rfl))
  f243 := Tryz.func110.trans (congrArg some (by kernel_rfl))
  f246 := Tryz.func130.trans (congrArg some (by kernel_rfl))
  f283 := Tryz.func144.trans (congrArg some (by kernel_rfl))
  f284 := Tryz.func145.trans (congrArg some (by kernel_rfl))
  f285 := Tryz.func146.trans (congrArg some (by kernel_rfl))
  f286 := Tryz.func147.trans (congrArg some (by kernel_rfl))
  f317 := Tryz.func156.trans (congrArg some (by kernel_rfl))
  f318 := Tryz.func158.trans (congrArg some (by kernel_rfl))
  f319 := Tryz.func159.trans (congrArg some (by kernel_rfl))
  f320 := Tryz.func160.trans (congrArg some (by kernel_rfl))
  f337 := Tryz.func164.trans (congrArg some (by kernel_rfl))
  f338 := Tryz.func165.trans (congrArg some (by kernel_rfl))
  t0 := Tryz.underlying0
  a0 := Tryz.isAgg0
  z0 := Tryz.sizeOf0
  v0 := Tryz.zeroValue0
  t2 := Tryz.underlying2
  a2 := Tryz.isAgg2
  z2 := Tryz.sizeOf2
  v2 := Tryz.zeroValue2
  t3 := Tryz.underlying3
  a3 := Tryz.isAgg3
  z3 := Tryz.sizeOf3
  v3 := Tryz.zeroValue3
  t4 := Tryz.underlying4
  a4 := Tryz.isAgg4
  z4 := Tryz.sizeOf4
  v4 := Tryz.zeroValue4
  t5 := Tryz.underlying5
  a5 := Tryz.isAgg5
  z5 := Tryz.sizeOf5
  v5 := Tryz.zeroValue5
  t9 := Tryz.underlying9
  a9 := Tryz.isAgg9
  z9 := Tryz.sizeOf9
  v9 := Tryz.zeroValue9
  t20 := Tryz.underlying20
  a20 := Tryz.isAgg20
  z20 := Tryz.sizeOf20
  v20 := Tryz.zeroValue20
  t37 := Tryz.underlying66
  a37 := Tryz.isAgg66
  z37 := Tryz.sizeOf66
  v37 := Tryz.zeroValue66
  t46 := Tryz.underlying222
  a46 := Tryz.isAgg222
  z46 := Tryz.sizeOf222
  v46 := Tryz.zeroValue222
  t51 := Tryz.underlying225
  a51 := Tryz.isAgg225
  z51 := Tryz.sizeOf225
  v51 := Tryz.zeroValue225
  t53 := Tryz.underlying214
  a53 := Tryz.isAgg214
  z53 := Tryz.sizeOf214
  v53 := Tryz.zeroValue214
  t171 := Tryz.underlying213
  a171 := Tryz.isAgg213
  z171 := Tryz.sizeOf213
  v171 := Tryz.zeroValue213
  t173 := Tryz.underlying217
  a173 := Tryz.isAgg217
  z173 := Tryz.sizeOf217
  v173 := Tryz.zeroValue217
  t212 := Tryz.underlying224
  a212 := Tryz.isAgg224
  z212 := Tryz.sizeOf224
  v212 := Tryz.zeroValue224
  t213 := Tryz.underlying226
  a213 := Tryz.isAgg226
  z213 := Tryz.sizeOf226
  t232 := Tryz.underlying236
  a232 := Tryz.isAgg236
  z232 := Tryz.sizeOf236
  v232 := Tryz.zeroValue236
  t233 := Tryz.underlying237
  a233 := Tryz.isAgg237
  z233 := Tryz.sizeOf237
  v233 := Tryz.zeroValue237
  g17 := by kernel_rfl
  g18 := by kernel_rfl
  g19 := by kernel_rfl
  i0 := by kernel_rfl
  i2 := by kernel_rfl
  i3 := by kernel_rfl
  i4 := by kernel_rfl
  i5 := by kernel_rfl
  i9 := by kernel_rfl
  i20 := by kernel_rfl
  i37 := by kernel_rfl
  i46 := by kernel_rfl
  i51 := by kernel_rfl
  i53 := by kernel_rfl
  i171 := by kernel_rfl
  i173 := by kernel_rfl
  i212 := by kernel_rfl
  i232 := by kernel_rfl
  i233 := by kernel_rfl
  m17 := by kernel_rfl
  m18 := by kernel_rfl
  m19 := by kernel_rfl }
open Go.RowKit Go.Sort Go.Lib in
/-- strconv.Itoa: "Itoa is equivalent to FormatInt(int64(i), 10).": i's DECIMAL NUMERAL ('Lib.itoa': a '-' where i is negative, then the digits), FOR EVERY int. The world behind the call: the world before it, new blocks behind the heap (the library's 'var a [24]byte'), draws. (LAID: no walk: one application.) -/
theorem Tryz.strconv_Itoa (n : Int) (h0 : -9223372036854775808 ≤ n) (h1 : n ≤ 9223372036854775807) (w : World) (htab : Lib.TabIs Tryz.prog w "internal/strconv.uint64pow10" .u64 Lib.pow10Tab) :
    Calls Tryz.prog 75 #[.int .i64 n] w fun e w' => e = .returned (.string ⟨(Lib.itoa n).toArray⟩) ∧ ∃ k os, w' = grow (w.drewN k) os := Any.strconv_Itoa Tryz.laysM171 n h0 h1 w htab
def Tryz.lays138_ren : Go.Shelf.Ren := ⟨fun | 138 => 84 | 195 => 116 | 218 => 117 | 143 => 118 | 219 => 140 | 217 => 148 | 225 => 152 | 224 => 153 | 267 => 154 | 266 => 161 | 314 => 163 | n => n, fun | 9 => 9 | 3 => 3 | 4 => 4 | 5 => 5 | 0 => 0 | 46 => 222 | 146 => 228 | 51 => 225 | n => n, fun | 1 => 2 | n => n⟩
theorem Tryz.lays138 : Go.Proofs.Lays.n138 Tryz.prog Tryz.lays138_ren := {
  mixed := by kernel_rfl
  f138 := Tryz.func84.trans (congrArg some (by kernel_rfl))
  f143 := Tryz.func118.trans (congrArg some (by kernel_rfl))
  f195 := Tryz.func116.trans (congrArg some (by kernel_rfl))
  f217 := Tryz.func148.trans (congrArg some (by kernel_rfl))
  f218 := Tryz.func117.trans (congrArg some (by kernel_rfl))
  f219 := Tryz.func140.trans (congrArg some (by kernel_rfl))
  f224 := Tryz.func153.trans (congrArg some (by kernel_rfl))
  f225 := Tryz.func152.trans (congrArg some (by kernel_rfl))
  f266 := Tryz.func161.trans (congrArg some (by kernel_rfl))
  f267 := Tryz.func154.trans (congrArg some (by kernel_rfl))
  f314 := Tryz.func163.trans (congrArg some (by kernel_rfl))
  t0 := Tryz.underlying0
  a0 := Tryz.isAgg0
  z0 := Tryz.sizeOf0
  v0 := Tryz.zeroValue0
  t3 := Tryz.underlying3
  a3 := Tryz.isAgg3
  z3 := Tryz.sizeOf3
  v3 := Tryz.zeroValue3
  t4 := Tryz.underlying4
  a4 := Tryz.isAgg4
  z4 := Tryz.sizeOf4
  v4 := Tryz.zeroValue4
  t5 := Tryz.underlying5
  a5 := Tryz.isAgg5
  z5 := Tryz.sizeOf5
  v5 := Tryz.zeroValue5
  t9 := Tryz.underlying9
  a9 := Tryz.isAgg9
  z9 := Tryz.sizeOf9
  v9 := Tryz.zeroValue9
  t46 := Tryz.underlying222
  a46 := Tryz.isAgg222
  z46 := Tryz.sizeOf222
  v46 := Tryz.zeroValue222
  t51 := Tryz.underlying225
  a51 := Tryz.isAgg225
  z51 := Tryz.sizeOf225
  v51 := Tryz.zeroValue225
  t146 := Tryz.underlying228
  a146 := Tryz.isAgg228
  z146 := Tryz.sizeOf228
  v146 := Tryz.zeroValue228
  g1 := by kernel_rfl }
open Go.RowKit Go.Lib in
/-- strings.Count AT A substr OF ONE BYTE ('hp'): "Count counts the number of non-overlapping instances of substr in s.": IT RETURNS 'Lib.countByte s (that byte)'; the world is as it was. ✋ NO CONTRACT HERE YET at an empty substr (utf8.RuneCountInString) or at a longer one (a loop over strings.Index). (LAID: no walk: one application.) -/
theorem Tryz.strings_Count_one (s : ByteArray) (c : UInt8) (w : World) :
    Calls Tryz.prog 84 #[.string s, .string ⟨#[c]⟩] w fun e w' => e = .returned (.int .i64 (Lib.countByte s.data.toList c)) ∧ w' = w := Any.strings_Count_one Tryz.lays138 s c w
def Tryz.lays149_ren : Go.Shelf.Ren := ⟨fun | 149 => 85 | 222 => 119 | n => n, fun | 9 => 9 | 5 => 5 | 3 => 3 | 4 => 4 | n => n, fun | n => n⟩
theorem Tryz.lays149 : Go.Proofs.Lays.n149 Tryz.prog Tryz.lays149_ren := {
  mixed := by kernel_rfl
  f149 := Tryz.func85.trans (congrArg some (by kernel_rfl))
  f222 := Tryz.func119.trans (congrArg some (by kernel_rfl))
  t3 := Tryz.underlying3
  a3 := Tryz.isAgg3
  z3 := Tryz.sizeOf3
  v3 := Tryz.zeroValue3
  t4 := Tryz.underlying4
  a4 := Tryz.isAgg4
  z4 := Tryz.sizeOf4
  v4 := Tryz.zeroValue4
  t5 := Tryz.underlying5
  a5 := Tryz.isAgg5
  z5 := Tryz.sizeOf5
  v5 := Tryz.zeroValue5
  t9 := Tryz.underlying9
  a9 := Tryz.isAgg9
  z9 := Tryz.sizeOf9
  v9 := Tryz.zeroValue9 }
open Go.RowKit Go.Lib in
/-- strings.LastIndexByte: "LastIndexByte returns the index of the last instance of c in s, or -1 if c is not present in s." (LAID: no walk: one application.) -/
theorem Tryz.strings_LastIndexByte (s : ByteArray) (c : Int) (hs : s.size < 4611686018427387904) (w : World) :
    Calls Tryz.prog 85 #[.string s, .int .u8 c] w fun e w' => e = .returned (.int .i64 (Lib.lastIndexByte s c)) ∧ w' = w := Any.strings_LastIndexByte Tryz.lays149 s c hs w
def Tryz.lays99_ren : Go.Shelf.Ren := ⟨fun | 99 => 136 | 206 => 150 | n => n, fun | 9 => 9 | 4 => 4 | 3 => 3 | n => n, fun | n => n⟩
theorem Tryz.lays99 : Go.Proofs.Lays.n99 Tryz.prog Tryz.lays99_ren := {
  mixed := by kernel_rfl
  f99 := Tryz.func136.trans (congrArg some (by kernel_rfl))
  f206 := Tryz.func150.trans (congrArg some (by kernel_rfl))
  t3 := Tryz.underlying3
  a3 := Tryz.isAgg3
  z3 := Tryz.sizeOf3
  v3 := Tryz.zeroValue3
  t4 := Tryz.underlying4
  a4 := Tryz.isAgg4
  z4 := Tryz.sizeOf4
  v4 := Tryz.zeroValue4
  t9 := Tryz.underlying9
  a9 := Tryz.isAgg9
  z9 := Tryz.sizeOf9
  v9 := Tryz.zeroValue9 }
open Go.RowKit Go.Lib in
/-- strings.HasPrefix: "HasPrefix reports whether the string s begins with prefix.": IT RETURNS 'Lib.hasPrefix s prefix'; the world is as it was. (LAID: no walk: one application.) -/
theorem Tryz.strings_HasPrefix (s p : ByteArray) (w : World) :
    Calls Tryz.prog 136 #[.string s, .string p] w fun e w' => e = .returned (.bool (Lib.hasPrefix s.data.toList p.data.toList)) ∧ w' = w := Any.strings_HasPrefix Tryz.lays99 s p w
end Go.Proofs
end
section
set_option linter.unusedVariables false
set_option linter.unusedSimpArgs false
namespace Go.SL
open Go Go.RowKit

def setFrom (cs : List Value) (k : Nat) : List Value → List Value
  | [] => cs
  | v :: vs => setFrom (cs.set k v) (k + 1) vs
section
variable {P : Program} {ops : Array Oper} {Q : Exit → Act → World → Prop} {rest : List Oper} {a : Act} {w w0 : World} {Hs R : List HP} {e b : Nat}
theorem run_storeCells_blk (off : Nat) : ∀ (vs : List Value) (i : Nat) (w : World) (cs : List Value), Sat w0 w (blk b e cs :: R) → off + i + vs.length ≤ cs.length → (∀ v ∈ vs, v.oneCell' = true) →
    ∃ w', (storeCells ⟨b, off, none⟩ vs i).run P w = .ok () w' ∧ Sat w0 w' (blk b e (setFrom cs (off + i) vs) :: R)
  | [], i, w, cs, hS, _, _ => ⟨w, by simp [storeCells], hS⟩
  | v :: vs, i, w, cs, hS, hl, h1 => by
    simp only [List.length_cons] at hl
    have hc : w.cell? ⟨b, off + i, none⟩ = some (cs[off + i]'(by omega)) := hS.cell mem_hd (List.getElem?_eq_getElem (by omega))
    have hf := hS.frozen (off := off + i) mem_hd
    have hS' := hS.setCell (off := off + i) v Upd.hd
    obtain ⟨w', hr, hS2⟩ := run_storeCells_blk off vs (i + 1) _ _ hS' (by simp; omega) (fun u hu => h1 u (by simp [hu]))
    have hv := h1 v (by simp)
    refine ⟨w', ?_, hS2⟩
    simp only [storeCells, add_eq]
    have hst : (store ⟨b, off + i, none⟩ v).run P w = .ok () (w.setCell ⟨b, off + i, none⟩ v) := by
      cases v <;> simp_all [store, Sem.run, Value.oneCell']
    simp [hst, hr]
theorem arm_storeN {dst : Option Tmp} {t : TypeId} {x y : Operand} {ty : TypeId} {pos : String} {after : Array Edge} {gd : Option (Nat × Bool)} (hS : Sat w0 w Hs)
    (hw : Region.wanted ⟨dst, .store t x y, ty, pos, after, gd⟩ (yielded ops a.tmps) = true) {b off : Nat} (hx : a.eval x = .pointer (some ⟨b, off, none⟩)) {vs : List Value} (hy : a.eval y = .agg vs.toArray) {e : TypeId} {cs cs' : List Value}
    (hm : blk b e cs ∈ Hs) (hcs : setFrom cs off vs = cs') (hlt : off + vs.length ≤ cs.length) {Hs' : List HP} (u : Upd Hs (blk b e cs) (blk b e cs') Hs') (h1 : vs.all (·.oneCell') = true) {n : Nat} (ht : sizeTy P t = some n) (hn : vs.length = n)
    (K : ∀ w', Sat w0 w' Hs' → wpList P ops Q rest (a.put dst undef) w') : wpList P ops Q (⟨dst, .store t x y, ty, pos, after, gd⟩ :: rest) a w := by
  subst hcs
  obtain ⟨R, r1, r2⟩ := u.rem
  obtain ⟨w', hr, hS'⟩ := run_storeCells_blk (P := P) off vs 0 w cs (hS.front r1) (by omega) (fun v hv => List.all_eq_true.1 h1 v hv)
  have hs := run_sizeOf ht w
  refine arm_skip hw (run_op_store rfl hx hy ?_) (K w' (hS'.put r2))
  simp [storeVar, hs, Value.cells, hn, hr]
theorem run_zero {t : TypeId} {z : Value} (hz : (P.info? t).bind (·.zero) = some z) : (zeroValue t).run P w = .ok z w := by
  cases hi : P.info? t with
  | none => rw [hi] at hz; cases hz
  | some i =>
    rw [hi] at hz
    simp only [Option.bind_some] at hz
    simp [zeroValue, typeInfo, hi, hz]
theorem arm_assertY {dst : Option Tmp} {x : Operand} {xt t : TypeId} {ty : TypeId} {pos : String} {after : Array Edge} {gd : Option (Nat × Bool)}
    (hw : Region.wanted ⟨dst, .typeAssert x xt t true, ty, pos, after, gd⟩ (yielded ops a.tmps) = true) {v : Value} (hx : a.eval x = .iface t v) {e : TypeId} (hu : P.underlying t = some (.pointer e))
    (K : wpList P ops Q rest (a.put dst (.tuple #[v, .bool true])) w) : wpList P ops Q (⟨dst, .typeAssert x xt t true, ty, pos, after, gd⟩ :: rest) a w := by
  refine arm_val hw ?_ K
  simp [execOp, hx, Instr.typeAssert, run_underlying hu]
theorem arm_assertN {dst : Option Tmp} {x : Operand} {xt t : TypeId} {ty : TypeId} {pos : String} {after : Array Edge} {gd : Option (Nat × Bool)}
    (hw : Region.wanted ⟨dst, .typeAssert x xt t true, ty, pos, after, gd⟩ (yielded ops a.tmps) = true) {v : Value} {u : TypeId} (hx : a.eval x = .iface u v) (hne : u ≠ t) {e : TypeId} (hu : P.underlying t = some (.pointer e)) (hz : (P.info? t).bind (·.zero) = some (.pointer none))
    (K : wpList P ops Q rest (a.put dst (.tuple #[.pointer none, .bool false])) w) : wpList P ops Q (⟨dst, .typeAssert x xt t true, ty, pos, after, gd⟩ :: rest) a w := by
  refine arm_val hw ?_ K
  have := run_zero (w := w) hz
  simp [execOp, hx, Instr.typeAssert, run_underlying hu, hne, this]
def fieldCell (P : Program) (s : TypeId) (f : Nat) : Option Nat :=
  match P.underlying s with
  | some (.struct fs) => (fs[f]?).bind fun x => if scalarTy P x.type then some x.offset else none
  | _ => none
theorem arm_field1 {dst : Option Tmp} {x : Operand} {s : TypeId} {f : Nat} {ty : TypeId} {pos : String} {after : Array Edge} {gd : Option (Nat × Bool)}
    (hw : Region.wanted ⟨dst, .field s x f, ty, pos, after, gd⟩ (yielded ops a.tmps) = true) {cs : List Value} (hx : a.eval x = .agg cs.toArray) {off : Nat} (hf : fieldCell P s f = some off) {v : Value} (hv : cs[off]? = some v)
    (K : wpList P ops Q rest (a.put dst v) w) : wpList P ops Q (⟨dst, .field s x f, ty, pos, after, gd⟩ :: rest) a w := by
  refine arm_val hw ?_ K
  unfold fieldCell at hf
  cases hu : P.underlying s with
  | none => simp [hu] at hf
  | some d =>
    cases d with
    | struct fs =>
      simp only [hu] at hf
      cases hx2 : fs[f]? with
      | none => simp [hx2] at hf
      | some fl =>
        simp only [hx2, Option.bind_some] at hf
        split at hf
        · rename_i hsc
          simp only [Option.some.injEq] at hf
          subst hf
          have hi := run_isAgg_scalar hsc w
          simp [execOp, hx, Instr.field, run_underlying hu, hx2, asAgg, part, hi, hv]
        · cases hf
    | _ => simp [hu] at hf
theorem Sat.loadWhole {cs : List Value} {t : TypeId} (hS : Sat w0 w Hs) (hm : blk b e cs ∈ Hs) (hn : sizeTy P t = some cs.length) (ha : aggTy P t = true) : (loadVar t ⟨b, 0, none⟩).run P w = .ok (.agg cs.toArray) w :=
  run_loadVarN ha hn fun j v hj => by rw [add_eq, Nat.zero_add]; exact hS.cell hm hj
theorem results_cell1 {fn : Func} {t : Tmp} {T : TypeId} (h : fn.results = #[.cell t T]) {tmps : Array Value} {ad : Addr} (hp : tmps.getD t undef = .pointer (some ad)) {v : Value} (hl : (loadVar T ad).run P w = .ok v w) :
    (results fn tmps).run P w = .ok v w := by
  rw [Array.getD_eq_getD_getElem?] at hp
  simp [results, h, hp, asAddr, hl]
end
end Go.SL
end
section
namespace Go.Proofs.YthackanffcaejaaGreatDoor
open Go.SL
theorem z1 : zeroTy Tryz.prog 1 = some ([.nilFunc]) := by kernel_rfl
theorem z2 : zeroTy Tryz.prog 2 = some ([.int .i64 0]) := by kernel_rfl
theorem z3 : zeroTy Tryz.prog 3 = some ([.int .i64 0]) := by kernel_rfl
theorem z4 : zeroTy Tryz.prog 4 = some ([.bool false]) := by kernel_rfl
theorem z5 : zeroTy Tryz.prog 5 = some ([.int .u8 0]) := by kernel_rfl
theorem sz7 : sizeTy Tryz.prog 7 = some 4 := by kernel_rfl
theorem fo7_0 : fieldOff Tryz.prog 7 0 = some 0 := by kernel_rfl
theorem z9 : zeroTy Tryz.prog 9 = some ([.string ⟨#[]⟩]) := by kernel_rfl
theorem z20 : zeroTy Tryz.prog 20 = some ([.nilIface]) := by kernel_rfl
theorem z21 : zeroTy Tryz.prog 21 = some ([.int .i32 0]) := by kernel_rfl
theorem E22 : ElemTy Tryz.prog 22 50 2 16 := ⟨by kernel_rfl, by kernel_rfl, by decide⟩
theorem z22 : zeroTy Tryz.prog 22 = some ([.slice none 0 0]) := by kernel_rfl
theorem sz29 : sizeTy Tryz.prog 29 = some 2 := by kernel_rfl
theorem z29 : zeroTy Tryz.prog 29 = some ([.int .i64 0, .int .i64 0]) := by kernel_rfl
theorem fo29_0 : fieldOff Tryz.prog 29 0 = some 0 := by kernel_rfl
theorem fo29_1 : fieldOff Tryz.prog 29 1 = some 1 := by kernel_rfl
theorem sz31 : sizeTy Tryz.prog 31 = some 3 := by kernel_rfl
theorem z31 : zeroTy Tryz.prog 31 = some ([.int .i64 0, .int .i64 0, .int .i64 0]) := by kernel_rfl
theorem fo31_0 : fieldOff Tryz.prog 31 0 = some 0 := by kernel_rfl
theorem fo31_1 : fieldOff Tryz.prog 31 1 = some 1 := by kernel_rfl
theorem E35 : ElemTy Tryz.prog 35 3 1 8 := ⟨by kernel_rfl, by kernel_rfl, by decide⟩
theorem z37 : zeroTy Tryz.prog 37 = some ([.nilFunc]) := by kernel_rfl
theorem E42 : ElemTy Tryz.prog 42 4 1 1 := ⟨by kernel_rfl, by kernel_rfl, by decide⟩
theorem z46 : zeroTy Tryz.prog 46 = some ([.bool false, .bool false, .bool false, .bool false, .bool false]) := by kernel_rfl
theorem sz50 : sizeTy Tryz.prog 50 = some 2 := by kernel_rfl
theorem z50 : zeroTy Tryz.prog 50 = some ([.int .i64 0, .int .i64 0]) := by kernel_rfl
theorem fo50_0 : fieldOff Tryz.prog 50 0 = some 0 := by kernel_rfl
theorem fo50_1 : fieldOff Tryz.prog 50 1 = some 1 := by kernel_rfl
theorem z51 : zeroTy Tryz.prog 51 = some ([.nilFunc]) := by kernel_rfl
theorem z53 : zeroTy Tryz.prog 53 = some ([.int .i64 0, .slice none 0 0, .slice none 0 0]) := by kernel_rfl
theorem E59 : ElemTy Tryz.prog 59 22 1 24 := ⟨by kernel_rfl, by kernel_rfl, by decide⟩
theorem E61 : ElemTy Tryz.prog 61 35 1 24 := ⟨by kernel_rfl, by kernel_rfl, by decide⟩
theorem E66 : ElemTy Tryz.prog 66 5 1 1 := ⟨by kernel_rfl, by kernel_rfl, by decide⟩
theorem z74 : zeroTy Tryz.prog 74 = some ([.pointer none, .slice none 0 0]) := by kernel_rfl
theorem sz80 : sizeTy Tryz.prog 80 = some 4 := by kernel_rfl
theorem z80 : zeroTy Tryz.prog 80 = some ([.int .i64 0, .int .i64 0, .int .i64 0, .int .i64 0]) := by kernel_rfl
theorem fo80_0 : fieldOff Tryz.prog 80 0 = some 0 := by kernel_rfl
theorem sz82 : sizeTy Tryz.prog 82 = some 10 := by kernel_rfl
theorem fo82_6 : fieldOff Tryz.prog 82 6 = some 9 := by kernel_rfl
theorem E88 : ElemTy Tryz.prog 88 9 1 16 := ⟨by kernel_rfl, by kernel_rfl, by decide⟩
theorem E90 : ElemTy Tryz.prog 90 100 3 24 := ⟨by kernel_rfl, by kernel_rfl, by decide⟩
theorem E112 : ElemTy Tryz.prog 112 116 1 24 := ⟨by kernel_rfl, by kernel_rfl, by decide⟩
theorem E116 : ElemTy Tryz.prog 116 188 2 24 := ⟨by kernel_rfl, by kernel_rfl, by decide⟩
theorem E120 : ElemTy Tryz.prog 120 125 3 32 := ⟨by kernel_rfl, by kernel_rfl, by decide⟩
theorem E130 : ElemTy Tryz.prog 130 70 1 16 := ⟨by kernel_rfl, by kernel_rfl, by decide⟩
theorem sz134 : sizeTy Tryz.prog 134 = some 2 := by kernel_rfl
theorem z134 : zeroTy Tryz.prog 134 = some ([.int .i64 0, .int .i64 0]) := by kernel_rfl
theorem fc134_0 : fieldCell Tryz.prog 134 0 = some 0 := by kernel_rfl
theorem fc134_1 : fieldCell Tryz.prog 134 1 = some 1 := by kernel_rfl
theorem z146 : zeroTy Tryz.prog 146 = some ([.nilIface]) := by kernel_rfl
theorem z171 : zeroTy Tryz.prog 171 = some ([.nilFunc]) := by kernel_rfl
theorem z173 : zeroTy Tryz.prog 173 = some ([.nilFunc]) := by kernel_rfl
theorem E174 : ElemTy Tryz.prog 174 175 3 32 := ⟨by kernel_rfl, by kernel_rfl, by decide⟩
theorem E177 : ElemTy Tryz.prog 177 179 2 16 := ⟨by kernel_rfl, by kernel_rfl, by decide⟩
theorem E205 : ElemTy Tryz.prog 205 206 2 24 := ⟨by kernel_rfl, by kernel_rfl, by decide⟩
theorem sz206 : sizeTy Tryz.prog 206 = some 2 := by kernel_rfl
theorem z206 : zeroTy Tryz.prog 206 = some ([.string ⟨#[]⟩, .int .i64 0]) := by kernel_rfl
theorem z212 : zeroTy Tryz.prog 212 = some ([.nilFunc]) := by kernel_rfl
theorem z213 : zeroTy Tryz.prog 213 = some (List.replicate 24 (.int .u8 0)) := by kernel_rfl
theorem z232 : zeroTy Tryz.prog 232 = some ([.int .u8 0, .int .u8 0]) := by kernel_rfl
theorem z233 : zeroTy Tryz.prog 233 = some (List.replicate 32 (.int .u8 0)) := by kernel_rfl
end Go.Proofs.YthackanffcaejaaGreatDoor
end
