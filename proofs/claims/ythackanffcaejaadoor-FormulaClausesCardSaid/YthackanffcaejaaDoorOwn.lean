/- Slices under a list of assertions on the heap (Sl, Arm): a slice that owns its array ('own'), a slice that is read ('Rd'); elements read and written, append, make. -/
import Derived.Test.YthackanffcaejaaDoorArm
import Derived.OwnWalk
import Derived.ArgAppend
set_option linter.unusedVariables false
set_option linter.unusedSimpArgs false
namespace Go.SL
open Go Go.RowKit

/-- The address of cell j behind a slice's first. -/
def adr (ad : Option Addr) (j : Nat) : Addr := (ad.getD ⟨0, 0, none⟩).add j
/-- The slice '.slice ad n cap', of elements of 'size' cells each, owns its array, whose first n elements are the cells xs. -/
def own (e : TypeId) (size : Nat) (ad : Option Addr) (n cap : Nat) (xs : List Value) : HP := fun h =>
  xs.length = n * size ∧ ((ad = none ∧ n = 0 ∧ cap = 0 ∧ emp h) ∨ ∃ g cur, ad = some ⟨g, 0, none⟩ ∧ n ≤ cap ∧ cap ≤ maxLen ∧ cur.length = cap * size ∧ cur.take (n * size) = xs ∧ blk g e cur h)

theorem add_add (a : Addr) (h : a.spot = none) (m n : Nat) : (a.add m).add n = a.add (m + n) := by
  obtain ⟨b, o, s⟩ := a
  simp only at h
  subst h
  simp only [add_eq, Nat.add_assoc]
/-- A slice that is read: its cells as they lie wherever A holds. -/
def Rd (A : HP) (ad : Option Addr) (cs : List Value) : Prop :=
  ∀ (w : World) (h : Nat → Option Obj), A h → (∀ b o, h b = some o → w.heap[b]? = some o) → ∀ (j : Nat) v, cs[j]? = some v → (∃ a, ad = some a ∧ a.spot = none) ∧ w.cell? (adr ad j) = some v

/-- What append asks of a slice's type. -/
structure ElemTy (P : Program) (t e : TypeId) (size bytes : Nat) : Prop where
  ht : P.underlying t = some (.slice e)
  hi : (P.info? e).map (fun i => (i.zero.map (·.cells.size), i.size, i.bytes)) = some (some size, size, bytes)
  pos : 0 < size
theorem ElemTy.parts {P : Program} {t e : TypeId} {size bytes : Nat} (E : ElemTy P t e size bytes) : ∃ i z, P.info? e = some i ∧ i.zero = some z ∧ i.size = size ∧ i.bytes = bytes ∧ z.cells.size = size := by
  have h := E.hi
  cases hi : P.info? e with
  | none => rw [hi] at h; cases h
  | some i =>
    rw [hi] at h
    simp only [Option.map_some, Option.some.injEq, Prod.mk.injEq] at h
    obtain ⟨h1, h2, h3⟩ := h
    cases hz : i.zero with
    | none => rw [hz] at h1; cases h1
    | some z => rw [hz] at h1; exact ⟨i, z, rfl, hz, h2, h3, by simpa using h1⟩

theorem ElemTy.sz {P : Program} {t e : TypeId} {size bytes : Nat} (E : ElemTy P t e size bytes) : sizeTy P e = some size := by
  obtain ⟨i, z, hi, _, h, _⟩ := E.parts
  simp [sizeTy, hi, h]

section
variable {P : Program} {ops : Array Oper} {Q : Exit → Act → World → Prop} {rest : List Oper} {a : Act} {w w0 : World} {Hs R : List HP} {e : TypeId} {size n cap : Nat} {ad : Option Addr} {xs : List Value}

theorem Sat.ownLen (hS : Sat w0 w Hs) (hm : own e size ad n cap xs ∈ Hs) : xs.length = n * size := by
  obtain ⟨g, hg, _⟩ := hS.get hm
  exact hg.1
theorem Sat.ownCap (hS : Sat w0 w Hs) (hm : own e size ad n cap xs ∈ Hs) : n ≤ cap ∧ cap ≤ maxLen := by
  obtain ⟨g, hg, _⟩ := hS.get hm
  rcases hg.2 with ⟨_, h1, h2, _⟩ | ⟨_, _, _, h1, h2, _⟩
  · subst h1; subst h2; exact ⟨Nat.le_refl _, Nat.zero_le _⟩
  · exact ⟨h1, h2⟩
theorem Sat.ownAd (hS : Sat w0 w Hs) (hm : own e size ad n cap xs ∈ Hs) : (ad = none ∧ n = 0 ∧ cap = 0 ∧ xs = []) ∨ ∃ g, ad = some ⟨g, 0, none⟩ := by
  obtain ⟨g, hg, _⟩ := hS.get hm
  rcases hg.2 with ⟨h0, h1, h2, _⟩ | ⟨g, _, h0, _⟩
  · refine .inl ⟨h0, h1, h2, ?_⟩
    have := hg.1
    subst h1
    simpa using this
  · exact .inr ⟨g, h0⟩
theorem Sat.ownNN (hS : Sat w0 w Hs) (hm : own e size ad n cap xs ∈ Hs) (h0 : 0 < n) : ∃ aa, ad = some aa ∧ aa.spot = none := by
  rcases hS.ownAd hm with ⟨_, h, _⟩ | ⟨g, h⟩
  · omega
  · exact ⟨_, h, rfl⟩
theorem Sat.ownCell (hS : Sat w0 w Hs) (hm : own e size ad n cap xs ∈ Hs) {j : Nat} {v : Value} (hv : xs[j]? = some v) : w.cell? (adr ad j) = some v ∧ w.frozen? (adr ad j) = false ∧ ∃ g, ad = some ⟨g, 0, none⟩ ∧ adr ad j = ⟨g, j, none⟩ := by
  obtain ⟨g, hg, hw⟩ := hS.get hm
  have hlt : j < xs.length := (List.getElem?_eq_some_iff.1 hv).1
  rcases hg.2 with ⟨_, h1, _, _⟩ | ⟨b, cur, rfl, hnc, hcm, hcl, hcur, hblk⟩
  · have := hg.1; subst h1; simp at this; simp [this] at hlt
  · have hb : w.heap[b]? = some (.cells cur.toArray e (0, 0)) := hw b _ (by rw [hblk b]; simp)
    have e1 : adr (some (⟨b, 0, none⟩ : Addr)) j = ⟨b, j, none⟩ := by simp [adr, add_eq]
    rw [e1]
    have hcj : cur[j]? = some v := by
      rw [← hcur, List.getElem?_take] at hv
      split at hv
      · exact hv
      · cases hv
    refine ⟨by simp [World.cell?, hb, hcj], by simp [World.frozen?, hb], b, rfl, rfl⟩
theorem Sat.rdCell {A : HP} {cs : List Value} (hS : Sat w0 w Hs) (hm : A ∈ Hs) (hr : Rd A ad cs) {j : Nat} {v : Value} (hv : cs[j]? = some v) : w.cell? (adr ad j) = some v := by
  obtain ⟨g, hg, hw⟩ := hS.get hm
  exact (hr w g hg hw j v hv).2
theorem Sat.rdAd {A : HP} {cs : List Value} (hS : Sat w0 w Hs) (hm : A ∈ Hs) (hr : Rd A ad cs) (h0 : 0 < cs.length) : ∃ a, ad = some a ∧ a.spot = none := by
  obtain ⟨g, hg, hw⟩ := hS.get hm
  exact (hr w g hg hw 0 _ (List.getElem?_eq_getElem h0)).1
theorem Rd.of_own : Rd (own e size ad n cap xs) ad xs := by
  intro w h hA hw j v hv
  have hS : Sat w w [own e size ad n cap xs] := ⟨rfl, rfl, rfl, Nat.le_refl _, h, ⟨h, fun _ => none, fun b => .inr rfl, fun b => by simp, hA, fun b => rfl⟩, hw⟩
  obtain ⟨h1, _, g, h2, _⟩ := hS.ownCell mem_hd hv
  exact ⟨⟨_, h2, rfl⟩, h1⟩
theorem Rd.of_blk {b : Nat} {cs : List Value} : Rd (blk b e cs) (some ⟨b, 0, none⟩) cs := by
  intro w h hA hw j v hv
  refine ⟨⟨_, rfl, rfl⟩, ?_⟩
  have hb : w.heap[b]? = some (.cells cs.toArray e (0, 0)) := hw b _ (by rw [hA b]; simp)
  simp [adr, add_eq, World.cell?, hb, hv]

/-! ### Elements -/
theorem run_op_indexAddr {o : Oper} {T : TypeId} {x i : Operand} (ho : o.op = .indexAddr T x i) {ρ : Operand → Value} {aa : Addr} {k : IntKind} {ix : Int} (hx : ρ x = .slice (some aa) n cap) (hi : ρ i = .int k ix)
    (ht : P.underlying T = some (.slice e)) (hz : sizeTy P e = some size) (h0 : 0 ≤ ix) (h1 : ix < n) : (execOp ρ o).run P w = .ok (.value (.pointer (some (aa.add (ix.toNat * size))))) w := by
  have hs := run_sizeOf hz w
  simp [execOp, ho, hx, hi, Instr.indexAt, asIntOf, run_underlying ht, h0, h1, hs]
theorem arm_indexAddr {dst : Option Tmp} {T : TypeId} {x i : Operand} {ty : TypeId} {pos : String} {after : Array Edge} {gd : Option (Nat × Bool)}
    (hw : Region.wanted ⟨dst, .indexAddr T x i, ty, pos, after, gd⟩ (yielded ops a.tmps) = true) (hx : a.eval x = .slice ad n cap) {k : IntKind} {ix : Int} (hi : a.eval i = .int k ix)
    {bytes : Nat} (E : ElemTy P T e size bytes) (h0 : 0 ≤ ix) (h1 : ix < n) (hne : ∃ aa, ad = some aa ∧ aa.spot = none) {j : Nat} (hj : ix.toNat * size = j)
    (K : wpList P ops Q rest (a.put dst (.pointer (some (adr ad j)))) w) : wpList P ops Q (⟨dst, .indexAddr T x i, ty, pos, after, gd⟩ :: rest) a w := by
  obtain ⟨aa, rfl, _⟩ := hne
  subst hj
  exact arm_val hw (run_op_indexAddr rfl hx hi E.ht E.sz h0 h1) K
theorem arm_loadE {dst : Option Tmp} {t : TypeId} {x : Operand} {ty : TypeId} {pos : String} {after : Array Edge} {gd : Option (Nat × Bool)}
    (hw : Region.wanted ⟨dst, .load t x, ty, pos, after, gd⟩ (yielded ops a.tmps) = true) {j : Nat} (hx : a.eval x = .pointer (some (adr ad j))) {v : Value} (hc : w.cell? (adr ad j) = some v) (ht : scalarTy P t = true)
    (K : wpList P ops Q rest (a.put dst v) w) : wpList P ops Q (⟨dst, .load t x, ty, pos, after, gd⟩ :: rest) a w :=
  arm_val hw (run_op_load rfl hx (run_loadVar1 ht hc)) K
/-- An element of n cells, whole. -/
theorem arm_loadEN {dst : Option Tmp} {t : TypeId} {x : Operand} {ty : TypeId} {pos : String} {after : Array Edge} {gd : Option (Nat × Bool)} {m : Nat}
    (hw : Region.wanted ⟨dst, .load t x, ty, pos, after, gd⟩ (yielded ops a.tmps) = true) {j : Nat} (hx : a.eval x = .pointer (some (adr ad j))) (hsp : ∃ aa, ad = some aa ∧ aa.spot = none) {vs : List Value}
    (hc : ∀ (i : Nat) v, vs[i]? = some v → w.cell? (adr ad (j + i)) = some v) (hn : sizeTy P t = some m) (hl : vs.length = m) (ht : aggTy P t = true)
    (K : wpList P ops Q rest (a.put dst (.agg vs.toArray)) w) : wpList P ops Q (⟨dst, .load t x, ty, pos, after, gd⟩ :: rest) a w := by
  refine arm_val hw (run_op_load rfl hx (run_loadVarN ht (by rw [hl]; exact hn) fun i v hv => ?_)) K
  have h := hc i v hv
  obtain ⟨aa, rfl, hs⟩ := hsp
  simp only [adr, Option.getD_some] at h ⊢
  rw [add_add _ hs]
  exact h
def fieldOff (P : Program) (s : TypeId) (f : Nat) : Option Nat :=
  match P.underlying s with
  | some (.struct fs) => (fs[f]?).bind fun x => (P.info? x.type).bind fun i => if i.size = 0 then none else some x.offset
  | _ => none
theorem run_op_fieldAddr {o : Oper} {s : TypeId} {x : Operand} {f : Nat} (ho : o.op = .fieldAddr s x f) {ρ : Operand → Value} {aa : Addr} (hx : ρ x = .pointer (some aa)) {k : Nat} (hf : fieldOff P s f = some k) :
    (execOp ρ o).run P w = .ok (.value (.pointer (some (aa.add k)))) w := by
  unfold fieldOff at hf
  cases hu : P.underlying s with
  | none => simp [hu] at hf
  | some d =>
    cases d with
    | struct fs =>
      simp only [hu] at hf
      cases hx2 : fs[f]? with
      | none => simp [hx2] at hf
      | some fl =>
        simp only [hx2, Option.bind_some] at hf
        cases hi : P.info? fl.type with
        | none => simp [hi] at hf
        | some i =>
          simp only [hi, Option.bind_some] at hf
          split at hf
          · cases hf
          · rename_i hne
            simp only [Option.some.injEq] at hf
            subst hf
            simp [execOp, ho, hx, Instr.fieldAt, run_underlying hu, hx2, Instr.sureAddr, fieldPlace, sizeOf, typeInfo, hi, hne]
    | _ => simp [hu] at hf
theorem arm_fieldAddrE {dst : Option Tmp} {s : TypeId} {x : Operand} {f : Nat} {ty : TypeId} {pos : String} {after : Array Edge} {gd : Option (Nat × Bool)}
    (hw : Region.wanted ⟨dst, .fieldAddr s x f, ty, pos, after, gd⟩ (yielded ops a.tmps) = true) {j : Nat} (hx : a.eval x = .pointer (some (adr ad j))) (hsp : ∃ aa, ad = some aa ∧ aa.spot = none) {k : Nat} (hf : fieldOff P s f = some k)
    (K : wpList P ops Q rest (a.put dst (.pointer (some (adr ad (j + k))))) w) : wpList P ops Q (⟨dst, .fieldAddr s x f, ty, pos, after, gd⟩ :: rest) a w := by
  refine arm_val hw (run_op_fieldAddr rfl hx hf) ?_
  obtain ⟨aa, rfl, hs⟩ := hsp
  simp only [adr, Option.getD_some, add_add _ hs] at K ⊢
  exact K

theorem own_step {cs' : List Value} (hl : cs'.length = xs.length) {w' : World} (hS : Sat w0 w (own e size ad n cap xs :: R)) (hne : ∃ g, ad = some ⟨g, 0, none⟩) (hos : w'.os = w.os) (htp : w'.tape = w.tape) (hou : w'.output = w.output) (hsz : w'.heap.size = w.heap.size)
    (hst : ∀ (g : Nat) (cur : List Value), ad = some ⟨g, 0, none⟩ → cur.length = cap * size → cur.take (n * size) = xs → w.heap[g]? = some (.cells cur.toArray e (0, 0)) →
      ∃ cur' : List Value, cur'.length = cap * size ∧ cur'.take (n * size) = cs' ∧ w'.heap[g]? = some (.cells cur'.toArray e (0, 0)) ∧ ∀ c, c ≠ g → w'.heap[c]? = w.heap[c]?) :
    Sat w0 w' (own e size ad n cap cs' :: R) := by
  refine hS.step hos htp hou (by omega) fun g hg hw => ?_
  obtain ⟨hlen, h⟩ := hg
  obtain ⟨gg, rfl⟩ := hne
  rcases h with ⟨h0, _⟩ | ⟨b, cur, hb, hnc, hcm, hcl, hcur, hblk⟩
  · cases h0
  · have hbe : gg = b := by simpa using hb
    subst hbe
    obtain ⟨cur', h1, h2, h3, h4⟩ := hst gg cur rfl hcl hcur (hw gg _ (by rw [hblk gg]; simp))
    refine ⟨fun c => if c = gg then some (.cells cur'.toArray e (0, 0)) else none, ⟨by rw [hl]; exact hlen, .inr ⟨gg, cur', rfl, hnc, hcm, h1, h2, fun c => rfl⟩⟩, fun c o hc => ?_, fun c hc => .inl ?_, fun c _ hcn => h4 c ?_⟩
    · by_cases hcg : c = gg
      · simp [hcg] at hc; subst hc; rw [hcg]; exact h3
      · simp [hcg] at hc
    · by_cases hcg : c = gg
      · rw [hblk c, if_pos hcg]; simp
      · simp [hcg] at hc
    · intro hcg
      rw [hblk c, if_pos hcg] at hcn
      cases hcn
theorem arm_storeE {dst : Option Tmp} {t : TypeId} {x y : Operand} {ty : TypeId} {pos : String} {after : Array Edge} {gd : Option (Nat × Bool)} (hS : Sat w0 w Hs)
    (hw : Region.wanted ⟨dst, .store t x y, ty, pos, after, gd⟩ (yielded ops a.tmps) = true) {j : Nat} (hx : a.eval x = .pointer (some (adr ad j))) {v : Value} (hy : a.eval y = v)
    (hm : own e size ad n cap xs ∈ Hs) (hlt : j < xs.length) {Hs' : List HP} (u : Upd Hs (own e size ad n cap xs) (own e size ad n cap (xs.set j v)) Hs') (h1 : v.oneCell' = true) (ht : sizeTy P t = some 1)
    (K : ∀ w', Sat w0 w' Hs' → wpList P ops Q rest (a.put dst undef) w') : wpList P ops Q (⟨dst, .store t x y, ty, pos, after, gd⟩ :: rest) a w := by
  obtain ⟨hc, hf, g, hg, he⟩ := hS.ownCell hm (List.getElem?_eq_getElem hlt)
  refine arm_skip hw (run_op_store rfl hx hy (run_storeVar1 ht h1 hc hf)) (K _ ?_)
  obtain ⟨R, r1, r2⟩ := u.rem
  have hS' : Sat w0 (w.setCell (adr ad j) v) (own e size ad n cap (xs.set j v) :: R) := by
   refine own_step (by simp) (hS.front r1) ⟨g, hg⟩ rfl rfl rfl (by simp) fun b cur hb hcl hcur hh => ?_
   rw [hg] at hb
   have hbe : g = b := by simpa using hb
   subst hbe
   have hxl := hS.ownLen hm
   rw [he]
   refine ⟨cur.set j v, by simpa using hcl, by rw [← hcur, List.take_set], ?_, fun c hc => Below.heap_setCell _ _ _ _ hc⟩
   simp [World.setCell, Array.getElem?_modify, hh]
  exact hS'.put r2
end
end Go.SL
