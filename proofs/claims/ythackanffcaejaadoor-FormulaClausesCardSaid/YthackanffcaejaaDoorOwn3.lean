/- The rules of Own2 at the operations: append, slice literals, make, string(bytes). -/
import Derived.Test.YthackanffcaejaaDoorOwn2
import Derived.Laws.MakeOwn
set_option linter.unusedVariables false
set_option linter.unusedSimpArgs false
namespace Go.SL
open Go Go.RowKit Go.Lib

/-- A byte as a cell; bytes as cells. -/
abbrev B (c : UInt8) : Value := .int .u8 c.toNat
def Bs (l : List UInt8) : List Value := l.map B
theorem Bs_length (l : List UInt8) : (Bs l).length = l.length := by simp [Bs]
theorem Bs_append (l m : List UInt8) : Bs (l ++ m) = Bs l ++ Bs m := by simp [Bs]
theorem Bs_one (l : List UInt8) : ∀ u ∈ Bs l, u.oneCell' = true := by
  intro u hu
  simp only [Bs, List.mem_map] at hu
  obtain ⟨b, _, rfl⟩ := hu
  rfl
theorem strCells_Bs (s : ByteArray) : strCells s = Bs s.data.toList := rfl
theorem Bs_at {l : List UInt8} {j : Nat} {x : UInt8} (h : l[j]? = some x) : (Bs l)[j]? = some (B x) := by simp [Bs, h]
theorem Bs_get {l : List UInt8} {j : Nat} (h : j < l.length) : (Bs l)[j]? = some (B l[j]) := by simp [Bs, h]

section
variable {P : Program} {ops : Array Oper} {Q : Exit → Act → World → Prop} {rest : List Oper} {a : Act} {w w0 : World} {Hs R R1 R2 : List HP} {e : TypeId} {size n cap : Nat} {ad : Option Addr} {xs : List Value}

theorem run_op_append {o : Oper} {s x : Operand} {t u : TypeId} (ho : o.op = .call { callee := .builtin .append, args := #[s, x], argTypes := #[t, u] }) {ρ : Operand → Value} {v : Value} {w' : World}
    (hr : (Builtin.append_ #[t, u] o.type #[ρ s, ρ x]).run P w = .ok v w') : (execOp ρ o).run P w = .ok (.value v) w' := by
  simp [execOp, ho, resolve, invoke, builtin, hr]
/-- append(v, x, y, ..): the source is a block that was laid for it: it is let go. -/
theorem arm_appendB {dst : Option Tmp} {s x : Operand} {t ty : TypeId} {pos : String} {after : Array Edge} {gd : Option (Nat × Bool)} {bytes : Nat} (hS : Sat w0 w Hs)
    (hw : Region.wanted ⟨dst, .call { callee := .builtin .append, args := #[s, x], argTypes := #[t, t] }, ty, pos, after, gd⟩ (yielded ops a.tmps) = true)
    (hs : a.eval s = .slice ad n cap) {nb m c : Nat} (hx : a.eval x = .slice (some ⟨nb, 0, none⟩) m c) (E : ElemTy P t e size bytes) (r1 : Rem Hs (own e size ad n cap xs) R1) {news : List Value} (r2 : Rem R1 (blk nb e news) R2)
    (hl : news.length = m * size) (h1 : news.all (·.oneCell') = true) (hb : (n + m) * bytes ≤ 140737488355328) (h63 : n + m ≤ 9223372036854775807)
    (K : ∀ ad' cap' w', Sat w0 w' (own e size ad' (n + m) cap' (xs ++ news) :: R2) → wpList P ops Q rest (a.put dst (.slice ad' (n + m) cap')) w') :
    wpList P ops Q (⟨dst, .call { callee := .builtin .append, args := #[s, x], argTypes := #[t, t] }, ty, pos, after, gd⟩ :: rest) a w := by
  have hS1 := hS.front r1
  obtain ⟨ad', cap', w', hr, hS'⟩ := run_append_sl (P := P) (ty := ty) E hS1 (sd := some ⟨nb, 0, none⟩) (c := c) hl
    (fun j u hj => ⟨⟨_, rfl, rfl⟩, hS1.rdCell (A := blk nb e news) (.tail _ (by exact (Rem.mem r2))) Rd.of_blk hj⟩) (fun u hu => by simpa using List.all_eq_true.1 h1 u hu) (fun h => by cases h) h63 hb
  refine arm_val hw (run_op_append rfl (by rw [hs, hx]; exact hr)) (K ad' cap' w' ?_)
  have hS2 : Sat w0 w' (blk nb e news :: own e size ad' (n + m) cap' (xs ++ news) :: R2) := hS'.front (Rem.tl r2)
  exact hS2.drop
/-- append(v, src...): the source is read. -/
theorem arm_appendS {A : HP} {dst : Option Tmp} {s x : Operand} {t ty : TypeId} {pos : String} {after : Array Edge} {gd : Option (Nat × Bool)} {bytes : Nat} (hS : Sat w0 w Hs)
    (hw : Region.wanted ⟨dst, .call { callee := .builtin .append, args := #[s, x], argTypes := #[t, t] }, ty, pos, after, gd⟩ (yielded ops a.tmps) = true)
    (hs : a.eval s = .slice ad n cap) {sd : Option Addr} {m c : Nat} (hx : a.eval x = .slice sd m c) (E : ElemTy P t e size bytes) (r1 : Rem Hs (own e size ad n cap xs) R1) {news : List Value} (hr : Rd A sd news) (hm : A ∈ R1)
    (hl : news.length = m * size) (hsd : sd = none → c = 0 ∧ m = 0) (h1 : ∀ u ∈ news, u.oneCell' = true) (hb : (n + m) * bytes ≤ 140737488355328) (h63 : n + m ≤ 9223372036854775807)
    (K : ∀ ad' cap' w', Sat w0 w' (own e size ad' (n + m) cap' (xs ++ news) :: R1) → wpList P ops Q rest (a.put dst (.slice ad' (n + m) cap')) w') :
    wpList P ops Q (⟨dst, .call { callee := .builtin .append, args := #[s, x], argTypes := #[t, t] }, ty, pos, after, gd⟩ :: rest) a w := by
  have hS1 := hS.front r1
  obtain ⟨ad', cap', w', hr', hS'⟩ := run_append_sl (P := P) (ty := ty) E hS1 (sd := sd) (c := c) hl
    (fun j u hj => ⟨hS1.rdAd (.tail _ hm) hr (by have := (List.getElem?_eq_some_iff.1 hj).1; omega), hS1.rdCell (.tail _ hm) hr hj⟩) h1 hsd h63 hb
  exact arm_val hw (run_op_append rfl (by rw [hs, hx]; exact hr')) (K ad' cap' w' hS')
/-- append(b, s...), s a string. -/
theorem arm_appendStr {dst : Option Tmp} {s x : Operand} {t u ty : TypeId} {pos : String} {after : Array Edge} {gd : Option (Nat × Bool)} (hS : Sat w0 w Hs)
    (hw : Region.wanted ⟨dst, .call { callee := .builtin .append, args := #[s, x], argTypes := #[t, u] }, ty, pos, after, gd⟩ (yielded ops a.tmps) = true)
    (hs : a.eval s = .slice ad n cap) {b : ByteArray} (hx : a.eval x = .string b) (E : ElemTy P t e 1 1) (hu : P.underlying u = some .string) (hz0 : (P.info? e).bind (·.zero) = some (.int .u8 0)) (r1 : Rem Hs (own e 1 ad n cap xs) R1)
    (hb : n + b.size ≤ 140737488355328)
    (K : ∀ ad' cap' w', Sat w0 w' (own e 1 ad' (n + b.size) cap' (xs ++ Bs b.data.toList) :: R1) → wpList P ops Q rest (a.put dst (.slice ad' (n + b.size) cap')) w') :
    wpList P ops Q (⟨dst, .call { callee := .builtin .append, args := #[s, x], argTypes := #[t, u] }, ty, pos, after, gd⟩ :: rest) a w := by
  have hS1 := hS.front r1
  obtain ⟨ad', cap', w', hr, hS'⟩ := run_append_str (P := P) (ty := ty) E hu hz0 hS1 b (by unfold maxLen; omega) hb
  exact arm_val hw (run_op_append rfl (by rw [hs, hx]; exact hr)) (K ad' cap' w' hS')

theorem Sat.ownNil (hS : Sat w0 w Hs) (e : TypeId) (size : Nat) : Sat w0 w (own e size none 0 0 [] :: Hs) := hS.emp ⟨by simp, .inl ⟨rfl, rfl, rfl, fun _ => rfl⟩⟩

/-! ### A slice literal of one element -/
theorem run_op_build1 {o : Oper} {T : TypeId} {x : Operand} (ho : o.op = .buildSlice T 1 #[(0, x)]) {bytes : Nat} (E : ElemTy P T e size bytes) (hsz : size ≤ 16777216) {ρ : Operand → Value} (hc : (ρ x).cells.size = size) :
    (execOp ρ o).run P w = .ok (.value (.slice (some ⟨w.heap.size, 0, none⟩) 1 1)) (w.alloc (.cells (ρ x).cells e)) := by
  obtain ⟨i, z, hi, hz, hs, hby, hzs⟩ := E.parts
  have hpos := E.pos
  have hfold : ∀ (vs : List Value) (k : Nat) (cs : List Value), cs.length = k + vs.length → (vs.zipIdx k).foldl (fun (cs : Array Value) (x : Value × Nat) => cs.setIfInBounds x.2 x.1) cs.toArray = (cs.take k ++ vs).toArray := by
    intro vs
    induction vs with
    | nil => intro k cs h; simp only [List.zipIdx_nil, List.foldl_nil, List.append_nil]; rw [List.take_of_length_le (by simp at h; omega)]
    | cons v vs ih =>
      intro k cs h
      simp only [List.zipIdx_cons, List.foldl_cons, List.setIfInBounds_toArray]
      rw [ih (k + 1) (cs.set k v) (by simp at h ⊢; omega)]
      congr 1
      rw [List.take_succ_eq_append_getElem (by simp at h ⊢; omega), List.take_set_of_le (by omega)]
      simp
  have hf : Instr.fill (fun i => some (i * size, size)) ((Array.range (1 * size)).map (z.cells[· % z.cells.size]!)) [(0, ρ x)] = some (ρ x).cells := by
    have h1 : ¬ (0 + (ρ x).cells.size > ((Array.range (1 * size)).map (z.cells[· % z.cells.size]!)).size) := by simp [hc]
    simp only [Instr.fill, Nat.zero_mul, hc, ne_eq, not_true_eq_false, decide_false, Bool.false_or, h1, if_false, ite_false]
    rw [if_neg (by simp)]
    have h2 := hfold (ρ x).cells.toList 0 ((Array.range (1 * size)).map (z.cells[· % z.cells.size]!)).toList (by simp [hc])
    simp only [Nat.zero_add]
    rw [← Array.foldl_toList, Array.toList_zipIdx]
    have h3 : ((Array.range (1 * size)).map (z.cells[· % z.cells.size]!)).toList.toArray = (Array.range (1 * size)).map (z.cells[· % z.cells.size]!) := Array.toArray_toList
    rw [h3] at h2
    rw [h2]
    simp
  have hne : ¬ (1 * size = 0) := by omega
  have hbig : ¬ (1 * size > 2 ^ 24) := by omega
  simp only [Nat.one_mul] at hf hne hbig
  have hs1 : ¬ (size > 16777216) := by omega
  simp [execOp, ho, Instr.buildSlice, run_underlying E.ht, sizeOf, typeInfo, hi, hs, hne, zeroValue, hz, newRow, newObj, Sem.run]
  rw [if_neg (by omega), hf]
  rfl
theorem arm_build1 {dst : Option Tmp} {T : TypeId} {x : Operand} {ty : TypeId} {pos : String} {after : Array Edge} {gd : Option (Nat × Bool)} {bytes : Nat} (hS : Sat w0 w Hs)
    (hw : Region.wanted ⟨dst, .buildSlice T 1 #[(0, x)], ty, pos, after, gd⟩ (yielded ops a.tmps) = true) (E : ElemTy P T e size bytes) {v : Value} (hx : a.eval x = v) {cs : List Value} (hv : v.cells.toList = cs) (hc : cs.length = size) (hsz : size ≤ 16777216)
    (K : ∀ b w', Sat w0 w' (blk b e cs :: Hs) → wpList P ops Q rest (a.put dst (.slice (some ⟨b, 0, none⟩) 1 1)) w') : wpList P ops Q (⟨dst, .buildSlice T 1 #[(0, x)], ty, pos, after, gd⟩ :: rest) a w := by
  subst hv
  subst hx
  exact arm_val hw (run_op_build1 rfl E hsz (by simpa using hc)) (K _ _ (by simpa [blk] using hS.alloc (.cells (a.eval x).cells e)))

/-! ### string(b) -/
theorem run_op_convert {o : Oper} {s d : TypeId} {x : Operand} (ho : o.op = .convert s d x) {ρ : Operand → Value} {v : Value} (hr : (convert s d (ρ x)).run P w = .ok v w) : (execOp ρ o).run P w = .ok (.value v) w := by
  simp [execOp, ho, hr]
theorem arm_str {dst : Option Tmp} {src d : TypeId} {x : Operand} {ty : TypeId} {pos : String} {after : Array Edge} {gd : Option (Nat × Bool)}
    (hw : Region.wanted ⟨dst, .convert src d x, ty, pos, after, gd⟩ (yielded ops a.tmps) = true) {aa : Addr} {m c : Nat} (hx : a.eval x = .slice (some aa) m c) (E : ElemTy P src e 1 1) (he : P.underlying e = some (.int .u8)) (hd : P.underlying d = some .string)
    {l : List UInt8} (hl : l.length = m) (hc : ∀ (j : Nat) v, (Bs l)[j]? = some v → w.cell? (aa.add j) = some v)
    (K : wpList P ops Q rest (a.put dst (.string ⟨l.toArray⟩)) w) : wpList P ops Q (⟨dst, .convert src d x, ty, pos, after, gd⟩ :: rest) a w := by
  subst hl
  refine arm_val hw (run_op_convert rfl ?_) K
  rw [hx]
  exact run_convert_bytes_back w src d e aa c l E.ht he hd fun j hj => hc j _ (Bs_get hj)
theorem run_convert_nil {src d : TypeId} (hs : P.underlying src = some (.slice e)) (he : P.underlying e = some (.int .u8)) (hd : P.underlying d = some .string) : (convert src d (.slice none 0 0)).run P w = .ok (.string ⟨#[]⟩) w := by
  rw [run_convert_bytes_string w src d e none 0 0 hs he hd]
  rfl
theorem Sat.cellDrop {b off : Nat} {cs : List Value} {l : List UInt8} (hS : Sat w0 w Hs) (hm : blk b e cs ∈ Hs) (hd : (cs.drop off).take l.length = Bs l) : ∀ (j : Nat) v, (Bs l)[j]? = some v → w.cell? ((⟨b, off, none⟩ : Addr).add j) = some v := by
  intro j v hj
  rw [add_eq]
  refine hS.cell hm ?_
  rw [← hd, List.getElem?_take] at hj
  split at hj
  · rw [List.getElem?_drop] at hj; exact hj
  · cases hj
/-- string(b), b a slice that owns its array. -/
theorem arm_strOwn {dst : Option Tmp} {src d : TypeId} {x : Operand} {ty : TypeId} {pos : String} {after : Array Edge} {gd : Option (Nat × Bool)} (hS : Sat w0 w Hs)
    (hw : Region.wanted ⟨dst, .convert src d x, ty, pos, after, gd⟩ (yielded ops a.tmps) = true) (hx : a.eval x = .slice ad n cap) (E : ElemTy P src e 1 1) (he : P.underlying e = some (.int .u8)) (hd : P.underlying d = some .string)
    {l : List UInt8} (hm : own e 1 ad n cap (Bs l) ∈ Hs) (K : wpList P ops Q rest (a.put dst (.string ⟨l.toArray⟩)) w) : wpList P ops Q (⟨dst, .convert src d x, ty, pos, after, gd⟩ :: rest) a w := by
  have hlen := hS.ownLen hm
  rw [Bs_length, Nat.mul_one] at hlen
  rcases hS.ownAd hm with ⟨rfl, rfl, rfl, h0⟩ | ⟨g, rfl⟩
  · have : l = [] := by simpa using hlen
    subst this
    exact arm_val hw (run_op_convert rfl (by rw [hx]; exact run_convert_nil E.ht he hd)) K
  · exact arm_str hw hx E he hd hlen (fun j v hj => by have := (hS.ownCell hm hj).1; simpa [adr] using this) K
/-! ### Slices of an array variable -/
def arrTy (P : Program) (t : TypeId) : Option (Nat × Nat) :=
  match P.underlying t with
  | some (.array n e) => (P.info? e).map fun i => (n, i.size)
  | _ => none
theorem arrTy_parts {t : TypeId} {N : Nat} (h : arrTy P t = some (N, size)) : ∃ e, P.underlying t = some (.array N e) ∧ sizeTy P e = some size := by
  unfold arrTy at h
  split at h
  · rename_i n e hu
    cases hi : P.info? e with
    | none => rw [hi] at h; cases h
    | some i =>
      rw [hi] at h
      simp only [Option.map_some, Option.some.injEq, Prod.mk.injEq] at h
      obtain ⟨rfl, rfl⟩ := h
      exact ⟨e, hu, by simp [sizeTy, hi]⟩
  · cases h
theorem run_sliceArr_l {t : TypeId} {N : Nat} (h : arrTy P t = some (N, size)) {b off : Nat} {k : IntKind} {l : Int} (h0 : 0 ≤ l) (h1 : l < N) :
    (Instr.sliceAt t (.pointer (some ⟨b, off, none⟩)) (some (.int k l)) none none).run P w = .ok (.slice (some ⟨b, off + l.toNat * size, none⟩) (N - l.toNat) (N - l.toNat)) w := by
  obtain ⟨e, hu, hz⟩ := arrTy_parts h
  have hs := run_sizeOf hz w
  have hl : ¬ (N = l.toNat) := by omega
  have hle : l ≤ (N : Int) := by omega
  simp [Instr.sliceAt, run_underlying hu, Instr.sureAddr, Instr.sliceBounds, Instr.sliceBound, asIntOf, h0, hle, hs, hl, add_eq]
theorem run_sliceArr_h {t : TypeId} {N : Nat} (h : arrTy P t = some (N, size)) {b off : Nat} {k : IntKind} {hh : Int} (h0 : 0 ≤ hh) (h1 : hh ≤ N) (hN : 0 < N) :
    (Instr.sliceAt t (.pointer (some ⟨b, off, none⟩)) none (some (.int k hh)) none).run P w = .ok (.slice (some ⟨b, off, none⟩) hh.toNat N) w := by
  obtain ⟨e, hu, hz⟩ := arrTy_parts h
  have hs := run_sizeOf hz w
  have hl : ¬ (N = 0) := by omega
  simp [Instr.sliceAt, run_underlying hu, Instr.sureAddr, Instr.sliceBounds, Instr.sliceBound, asIntOf, h0, h1, hs, hl, add_eq]
theorem run_op_slice {o : Oper} {t : TypeId} {x : Operand} {lo hi mx : Option Operand} (ho : o.op = .slice t x lo hi mx) {ρ : Operand → Value} {v : Value} (hr : (Instr.sliceAt t (ρ x) (lo.map ρ) (hi.map ρ) (mx.map ρ)).run P w = .ok v w) :
    (execOp ρ o).run P w = .ok (.value v) w := by
  simp [execOp, ho, hr]
theorem arm_sliceArr_l {dst : Option Tmp} {t : TypeId} {x l : Operand} {ty : TypeId} {pos : String} {after : Array Edge} {gd : Option (Nat × Bool)}
    (hw : Region.wanted ⟨dst, .slice t x (some l) none none, ty, pos, after, gd⟩ (yielded ops a.tmps) = true) {b off : Nat} (hx : a.eval x = .pointer (some ⟨b, off, none⟩)) {k : IntKind} {li : Int} (hl : a.eval l = .int k li) {N : Nat} (h : arrTy P t = some (N, size))
    (h0 : 0 ≤ li) (h1 : li < N) {j m : Nat} (hj : off + li.toNat * size = j) (hm : N - li.toNat = m) (K : wpList P ops Q rest (a.put dst (.slice (some ⟨b, j, none⟩) m m)) w) : wpList P ops Q (⟨dst, .slice t x (some l) none none, ty, pos, after, gd⟩ :: rest) a w := by
  subst hj
  subst hm
  exact arm_val hw (run_op_slice rfl (by simp only [hx, hl, Option.map_some, Option.map_none]; exact run_sliceArr_l h h0 h1)) K
theorem arm_sliceArr_h {dst : Option Tmp} {t : TypeId} {x l : Operand} {ty : TypeId} {pos : String} {after : Array Edge} {gd : Option (Nat × Bool)}
    (hw : Region.wanted ⟨dst, .slice t x none (some l) none, ty, pos, after, gd⟩ (yielded ops a.tmps) = true) {b off : Nat} (hx : a.eval x = .pointer (some ⟨b, off, none⟩)) {k : IntKind} {li : Int} (hl : a.eval l = .int k li) {N : Nat} (h : arrTy P t = some (N, size))
    (h0 : 0 ≤ li) (h1 : li ≤ N) (hN : 0 < N) {m : Nat} (hm : li.toNat = m) (K : wpList P ops Q rest (a.put dst (.slice (some ⟨b, off, none⟩) m N)) w) : wpList P ops Q (⟨dst, .slice t x none (some l) none, ty, pos, after, gd⟩ :: rest) a w := by
  subst hm
  exact arm_val hw (run_op_slice rfl (by simp only [hx, hl, Option.map_some, Option.map_none]; exact run_sliceArr_h h h0 h1 hN)) K
end
end Go.SL
