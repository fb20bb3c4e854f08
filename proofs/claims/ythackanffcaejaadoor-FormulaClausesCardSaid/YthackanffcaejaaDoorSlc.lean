/- Parts of slices; numbers in slices; elements that are read through a view. -/
import Derived.Test.YthackanffcaejaaDoorOwn3
import Derived.Laws.Concat
set_option linter.unusedVariables false
set_option linter.unusedSimpArgs false
namespace Go.SL
open Go Go.RowKit

section
variable {P : Program} {ops : Array Oper} {Q : Exit → Act → World → Prop} {rest : List Oper} {a : Act} {w w0 : World} {Hs : List HP} {e : TypeId} {size n cap : Nat} {ad : Option Addr}

/-- The numbers of a []int. -/
def Is (l : List Int) : List Value := l.map (Value.int .i64)
theorem Is_length (l : List Int) : (Is l).length = l.length := by simp [Is]
theorem Is_at {l : List Int} {j : Nat} {x : Int} (h : l[j]? = some x) : (Is l)[j]? = some (.int .i64 x) := by simp [Is, h]
theorem Is_append (l m : List Int) : Is (l ++ m) = Is l ++ Is m := by simp [Is]
theorem Is_one (l : List Int) : ∀ u ∈ Is l, u.oneCell' = true := by
  intro u hu
  simp only [Is, List.mem_map] at hu
  obtain ⟨x, _, rfl⟩ := hu
  rfl
theorem Is_drop (l : List Int) (k : Nat) : (Is l).drop k = Is (l.drop k) := by simp [Is]
theorem Is_take (l : List Int) (k : Nat) : (Is l).take k = Is (l.take k) := by simp [Is]

theorem Sat.rdAd2 {A : HP} {cs : List Value} (hr : Rd A ad cs) (hS : Sat w0 w Hs) (hm : A ∈ Hs) (h0 : 0 < cs.length) : ∃ aa, ad = some aa ∧ aa.spot = none := hS.rdAd hm hr h0
theorem Sat.rdCell2 {A : HP} {cs : List Value} (hr : Rd A ad cs) (hS : Sat w0 w Hs) (hm : A ∈ Hs) {j : Nat} {v : Value} (hv : cs[j]? = some v) : w.cell? (adr ad j) = some v := hS.rdCell hm hr hv

/-- Where the part from element l on begins. -/
def sub (ad : Option Addr) (l cap size : Nat) : Option Addr := if cap = l then ad else ad.map (·.add (l * size))
theorem Rd.sub {A : HP} {cs : List Value} (hr : Rd A ad cs) (l m : Nat) (hm : cap = l → m = 0) : Rd A (sub ad l cap size) ((cs.drop (l * size)).take m) := by
  intro w h hA hw j v hv
  rw [List.getElem?_take] at hv
  split at hv
  · rename_i hlt
    rw [List.getElem?_drop] at hv
    obtain ⟨⟨a, ha, hs⟩, hc⟩ := hr w h hA hw _ _ hv
    have hcl : cap ≠ l := fun h0 => by have := hm h0; omega
    subst ha
    refine ⟨⟨a.add (l * size), by simp [SL.sub, hcl], ?_⟩, ?_⟩
    · obtain ⟨b, o, s⟩ := a
      simp only at hs
      subst hs
      rw [add_eq]
    · simp only [SL.sub, if_neg hcl, Option.map_some]
      simp only [adr, Option.getD_some] at hc ⊢
      rw [add_add _ hs]
      exact hc
  · cases hv
theorem run_sliceSl {t : TypeId} {bytes : Nat} (E : ElemTy P t e size bytes) {lo hi : Option Value} {l h : Nat} (hb : (Instr.sliceBounds true n cap lo hi none).run P w = .ok (l, h, cap) w) :
    (Instr.sliceAt t (.slice ad n cap) lo hi none).run P w = .ok (.slice (sub ad l cap size) (h - l) (cap - l)) w := by
  have hs := run_sizeOf E.sz w
  have hu := run_underlying E.ht w
  simp [Instr.sliceAt, Instr.slice, hu, hb, hs, SL.sub]
theorem run_bounds_lh {k k' : IntKind} {l h : Int} (h0 : 0 ≤ l) (h1 : l ≤ h) (h2 : h ≤ cap) : (Instr.sliceBounds true n cap (some (.int k l)) (some (.int k' h)) none).run P w = .ok (l.toNat, h.toNat, cap) w := by
  have e1 : 0 ≤ h := by omega
  have e2 : l ≤ (h.toNat : Int) := by omega
  have e3 : l ≤ max h 0 := by omega
  simp [Instr.sliceBounds, Instr.sliceBound, asIntOf, h0, h2, e1, e2, e3]
theorem run_bounds_l {k : IntKind} {l : Int} (h0 : 0 ≤ l) (h1 : l ≤ n) : (Instr.sliceBounds true n cap (some (.int k l)) none none).run P w = .ok (l.toNat, n, cap) w := by
  simp [Instr.sliceBounds, Instr.sliceBound, asIntOf, h0, h1]
theorem run_bounds_h {k : IntKind} {h : Int} (h0 : 0 ≤ h) (h1 : h ≤ cap) : (Instr.sliceBounds true n cap none (some (.int k h)) none).run P w = .ok (0, h.toNat, cap) w := by
  simp [Instr.sliceBounds, Instr.sliceBound, asIntOf, h0, h1]
theorem arm_slice_lh {dst : Option Tmp} {t : TypeId} {x lo hi : Operand} {ty : TypeId} {pos : String} {after : Array Edge} {gd : Option (Nat × Bool)}
    (hw : Region.wanted ⟨dst, .slice t x (some lo) (some hi) none, ty, pos, after, gd⟩ (yielded ops a.tmps) = true) (hx : a.eval x = .slice ad n cap) {k k' : IntKind} {l h : Int} (hl : a.eval lo = .int k l) (hh : a.eval hi = .int k' h)
    {bytes : Nat} (E : ElemTy P t e size bytes) (h0 : 0 ≤ l) (h1 : l ≤ h) (h2 : h ≤ cap) {i m c : Nat} (hi' : l.toNat = i) (hm : h.toNat - i = m) (hc : cap - i = c)
    (K : wpList P ops Q rest (a.put dst (.slice (sub ad i cap size) m c)) w) : wpList P ops Q (⟨dst, .slice t x (some lo) (some hi) none, ty, pos, after, gd⟩ :: rest) a w := by
  subst hi'; subst hm; subst hc
  exact arm_val hw (run_op_slice rfl (by simp only [hx, hl, hh, Option.map_some, Option.map_none]; exact run_sliceSl E (run_bounds_lh h0 h1 h2))) K
theorem arm_slice_l {dst : Option Tmp} {t : TypeId} {x lo : Operand} {ty : TypeId} {pos : String} {after : Array Edge} {gd : Option (Nat × Bool)}
    (hw : Region.wanted ⟨dst, .slice t x (some lo) none none, ty, pos, after, gd⟩ (yielded ops a.tmps) = true) (hx : a.eval x = .slice ad n cap) {k : IntKind} {l : Int} (hl : a.eval lo = .int k l)
    {bytes : Nat} (E : ElemTy P t e size bytes) (h0 : 0 ≤ l) (h1 : l ≤ n) {i m c : Nat} (hi' : l.toNat = i) (hm : n - i = m) (hc : cap - i = c)
    (K : wpList P ops Q rest (a.put dst (.slice (sub ad i cap size) m c)) w) : wpList P ops Q (⟨dst, .slice t x (some lo) none none, ty, pos, after, gd⟩ :: rest) a w := by
  subst hi'; subst hm; subst hc
  exact arm_val hw (run_op_slice rfl (by simp only [hx, hl, Option.map_some, Option.map_none]; exact run_sliceSl E (run_bounds_l h0 h1))) K
theorem arm_slice_h {dst : Option Tmp} {t : TypeId} {x hi : Operand} {ty : TypeId} {pos : String} {after : Array Edge} {gd : Option (Nat × Bool)}
    (hw : Region.wanted ⟨dst, .slice t x none (some hi) none, ty, pos, after, gd⟩ (yielded ops a.tmps) = true) (hx : a.eval x = .slice ad n cap) {k : IntKind} {h : Int} (hh : a.eval hi = .int k h)
    {bytes : Nat} (E : ElemTy P t e size bytes) (h0 : 0 ≤ h) (h1 : h ≤ cap) {m : Nat} (hm : h.toNat = m)
    (K : wpList P ops Q rest (a.put dst (.slice ad m cap)) w) : wpList P ops Q (⟨dst, .slice t x none (some hi) none, ty, pos, after, gd⟩ :: rest) a w := by
  subst hm
  have hz : sub ad 0 cap size = ad := by
    unfold sub
    split
    · rfl
    · cases ad with
      | none => rfl
      | some aa => simp [Addr.add]
  have hr := run_sliceSl (P := P) (w := w) (ad := ad) (n := n) E (run_bounds_h (k := k) h0 h1)
  rw [hz] at hr
  exact arm_val hw (run_op_slice rfl (by simp only [hx, hh, Option.map_some, Option.map_none]; exact hr)) K

/-! ### Strings put together -/
theorem run_op_addStr {o : Oper} {T ty : TypeId} {x y : Operand} (ho : o.op = .binOp .add T x y ty) {ρ : Operand → Value} {l m : List UInt8} (hx : ρ x = .string ⟨l.toArray⟩) (hy : ρ y = .string ⟨m.toArray⟩) (h : l.length + m.length ≤ 9223372036854775807) :
    (execOp ρ o).run P w = .ok (.value (.string ⟨(l ++ m).toArray⟩)) w := by
  have h1 := run_string_add_sum (P := P) w ⟨l.toArray⟩ ⟨m.toArray⟩ (by simpa [ByteArray.size] using h)
  rw [ByteArray.mk_append_mk] at h1
  simp [execOp, ho, hx, hy, eqGuard, binOp, h1]
theorem arm_addStr {dst : Option Tmp} {T ty ty' : TypeId} {x y : Operand} {pos : String} {after : Array Edge} {gd : Option (Nat × Bool)}
    (hw : Region.wanted ⟨dst, .binOp .add T x y ty, ty', pos, after, gd⟩ (yielded ops a.tmps) = true) {l m : List UInt8} (hx : a.eval x = .string ⟨l.toArray⟩) (hy : a.eval y = .string ⟨m.toArray⟩) (h : l.length + m.length ≤ 9223372036854775807)
    (K : wpList P ops Q rest (a.put dst (.string ⟨(l ++ m).toArray⟩)) w) : wpList P ops Q (⟨dst, .binOp .add T x y ty, ty', pos, after, gd⟩ :: rest) a w :=
  arm_val hw (run_op_addStr rfl hx hy h) K

theorem arm_appendStrL {dst : Option Tmp} {s x : Operand} {t u ty : TypeId} {pos : String} {after : Array Edge} {gd : Option (Nat × Bool)} {xs : List Value} {R1 : List HP} (hS : Sat w0 w Hs)
    (hw : Region.wanted ⟨dst, .call { callee := .builtin .append, args := #[s, x], argTypes := #[t, u] }, ty, pos, after, gd⟩ (yielded ops a.tmps) = true)
    (hs : a.eval s = .slice ad n cap) {l : List UInt8} (hx : a.eval x = .string ⟨l.toArray⟩) (E : ElemTy P t e 1 1) (hu : P.underlying u = some .string) (hz0 : (P.info? e).bind (·.zero) = some (.int .u8 0)) (r1 : Rem Hs (own e 1 ad n cap xs) R1)
    (hb : n + l.length ≤ 140737488355328)
    (K : ∀ ad' cap' w', Sat w0 w' (own e 1 ad' (n + l.length) cap' (xs ++ Bs l) :: R1) → wpList P ops Q rest (a.put dst (.slice ad' (n + l.length) cap')) w') :
    wpList P ops Q (⟨dst, .call { callee := .builtin .append, args := #[s, x], argTypes := #[t, u] }, ty, pos, after, gd⟩ :: rest) a w :=
  arm_appendStr hS hw hs hx E hu hz0 r1 hb K

/-! ### A slice literal of two elements of one cell -/
theorem run_op_build2 {o : Oper} {T : TypeId} {x y : Operand} (ho : o.op = .buildSlice T 2 #[(0, x), (1, y)]) {bytes : Nat} (E : ElemTy P T e 1 bytes) {ρ : Operand → Value} {u v : Value} (hx : ρ x = u) (hy : ρ y = v) (h1 : u.oneCell' = true) (h2 : v.oneCell' = true) :
    (execOp ρ o).run P w = .ok (.value (.slice (some ⟨w.heap.size, 0, none⟩) 2 2)) (w.alloc (.cells #[u, v] e)) := by
  obtain ⟨i, z, hi, hz, hs, hby, hzs⟩ := E.parts
  have hu : u.cells = #[u] := by cases u <;> simp_all [Value.cells, Value.oneCell']
  have hv : v.cells = #[v] := by cases v <;> simp_all [Value.cells, Value.oneCell']
  have hr : (Array.range 2).map (z.cells[· % z.cells.size]!) = #[z.cells[0]!, z.cells[0]!] := by
    have h2 : Array.range 2 = #[0, 1] := by decide
    simp [h2, hzs, Nat.mod_one]
  simp [execOp, ho, Instr.buildSlice, run_underlying E.ht, sizeOf, typeInfo, hi, hs, zeroValue, hz, newRow, newObj, Sem.run, hx, hy, Instr.fill, hu, hv, hr]
theorem arm_build2 {dst : Option Tmp} {T : TypeId} {x y : Operand} {ty : TypeId} {pos : String} {after : Array Edge} {gd : Option (Nat × Bool)} {bytes : Nat} (hS : Sat w0 w Hs)
    (hw : Region.wanted ⟨dst, .buildSlice T 2 #[(0, x), (1, y)], ty, pos, after, gd⟩ (yielded ops a.tmps) = true) (E : ElemTy P T e 1 bytes) {u v : Value} (hx : a.eval x = u) (hy : a.eval y = v) (h1 : u.oneCell' = true) (h2 : v.oneCell' = true)
    (K : ∀ b w', Sat w0 w' (blk b e [u, v] :: Hs) → wpList P ops Q rest (a.put dst (.slice (some ⟨b, 0, none⟩) 2 2)) w') : wpList P ops Q (⟨dst, .buildSlice T 2 #[(0, x), (1, y)], ty, pos, after, gd⟩ :: rest) a w :=
  arm_val hw (run_op_build2 rfl E hx hy h1 h2) (K _ _ (by simpa [blk] using hS.alloc (.cells #[u, v] e)))
end
end Go.SL
