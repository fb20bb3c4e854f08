/- A slice with three indexes; append to a slice that is full and is another's. -/
import Derived.Test.YthackanffcaejaaGreatDoorY1
set_option linter.unusedVariables false
set_option linter.unusedSimpArgs false
namespace Go.SL
open Go Go.RowKit
section
variable {P : Program} {ops : Array Oper} {Q : Exit → Act → World → Prop} {rest : List Oper} {a : Act} {w w0 : World} {Hs R1 R2 : List HP} {e : TypeId} {ad : Option Addr} {n cap size : Nat} {xs : List Value}
theorem run_bounds_hm {k k' : IntKind} {h m : Int} (h0 : 0 ≤ h) (h1 : h ≤ m) (h2 : m ≤ cap) : (Instr.sliceBounds true n cap none (some (.int k h)) (some (.int k' m))).run P w = .ok (0, h.toNat, m.toNat) w := by
  have e1 : 0 ≤ m := by omega
  have e2 : h ≤ (m.toNat : Int) := by omega
  have e3 : h ≤ max m 0 := by omega
  simp [Instr.sliceBounds, Instr.sliceBound, asIntOf, h0, h2, e1, e2, e3]
theorem run_sliceSl3 {t : TypeId} {bytes : Nat} (E : ElemTy P t e size bytes) {lo hi mx : Option Value} {l h m : Nat} (hb : (Instr.sliceBounds true n cap lo hi mx).run P w = .ok (l, h, m) w) :
    (Instr.sliceAt t (.slice ad n cap) lo hi mx).run P w = .ok (.slice (sub ad l m size) (h - l) (m - l)) w := by
  have hs := run_sizeOf E.sz w
  have hu := run_underlying E.ht w
  simp [Instr.sliceAt, Instr.slice, hu, hb, hs, SL.sub]
theorem arm_slice_hm {dst : Option Tmp} {t : TypeId} {x hi mx : Operand} {ty : TypeId} {pos : String} {after : Array Edge} {gd : Option (Nat × Bool)}
    (hw : Region.wanted ⟨dst, .slice t x none (some hi) (some mx), ty, pos, after, gd⟩ (yielded ops a.tmps) = true) (hx : a.eval x = .slice ad n cap) {k k' : IntKind} {h m : Int} (hh : a.eval hi = .int k h) (hm : a.eval mx = .int k' m)
    {bytes : Nat} (E : ElemTy P t e size bytes) (h0 : 0 ≤ h) (h1 : h ≤ m) (h2 : m ≤ cap) {i c : Nat} (hi' : h.toNat = i) (hc : m.toNat = c)
    (K : wpList P ops Q rest (a.put dst (.slice (sub ad 0 c size) i c)) w) : wpList P ops Q (⟨dst, .slice t x none (some hi) (some mx), ty, pos, after, gd⟩ :: rest) a w := by
  subst hi'; subst hc
  exact arm_val hw (run_op_slice rfl (by simp only [hx, hh, hm, Option.map_some, Option.map_none]; exact run_sliceSl3 E (run_bounds_hm h0 h1 h2))) K
/-- append(v, x): v is a view, full; what comes is a new slice of one's own. -/
theorem arm_appendG {A : HP} {dst : Option Tmp} {s x : Operand} {t ty : TypeId} {pos : String} {after : Array Edge} {gd : Option (Nat × Bool)} {bytes : Nat} (hS : Sat w0 w Hs)
    (hw : Region.wanted ⟨dst, .call { callee := .builtin .append, args := #[s, x], argTypes := #[t, t] }, ty, pos, after, gd⟩ (yielded ops a.tmps) = true)
    (hs : a.eval s = .slice ad n n) {nb m c : Nat} (hx : a.eval x = .slice (some ⟨nb, 0, none⟩) m c) (E : ElemTy P t e size bytes) (hr : Rd A ad xs) (hA : A ∈ Hs) (hxl : xs.length = n * size) (hn : ad = none → n = 0) {news : List Value} (r2 : Rem Hs (blk nb e news) R2)
    (hl : news.length = m * size) (hm0 : 0 < m) (h1 : news.all (·.oneCell') = true) (hb : (n + m) * bytes ≤ 140737488355328) (h63 : n + m ≤ 9223372036854775807)
    (K : ∀ ad' cap' w', Sat w0 w' (own e size ad' (n + m) cap' (xs ++ news) :: R2) → wpList P ops Q rest (a.put dst (.slice ad' (n + m) cap')) w') :
    wpList P ops Q (⟨dst, .call { callee := .builtin .append, args := #[s, x], argTypes := #[t, t] }, ty, pos, after, gd⟩ :: rest) a w := by
  obtain ⟨i, z, hi, hz, hsz, hby, hzs⟩ := E.parts
  have hnews : ∀ (j : Nat) u, news[j]? = some u → w.cell? ((⟨nb, 0, none⟩ : Addr).add j) = some u := fun j u hj => by
    have := hS.rdCell (A := blk nb e news) (Rem.mem r2) Rd.of_blk hj
    simpa [adr] using this
  have h1' : ∀ u ∈ news, u.oneCell' = true := fun u hu => by simpa using List.all_eq_true.1 h1 u hu
  have key : ∃ v' w', (Builtin.append_ #[t, t] ty #[.slice ad n n, .slice (some ⟨nb, 0, none⟩) m c]).run P w = .ok v' w' ∧ ∃ ad' cap', v' = .slice ad' (n + m) cap' ∧ Sat w0 w' (own e size ad' (n + m) cap' (xs ++ news) :: Hs) := by
    cases ad with
    | none =>
      obtain rfl := hn rfl
      have hx0 : xs = [] := by simpa using hxl
      subst hx0
      obtain ⟨v', w', hr', ho, hg, _⟩ := run_append_own (P := P) w w.heap.size t ty e i z size bytes E.ht hi hz hsz hby hzs E.pos (.slice none 0 0) 0 [] (World.ownsRow_nil _ _ _ _) ⟨nb, 0, none⟩ m c news hl hnews h1' h63 hb (Nat.le_refl _)
      obtain ⟨ad', cap', rfl, hS'⟩ := (hS.ownNil e size).newOwn (by simpa [Value.ownBlock] using hg) ho
      exact ⟨_, w', hr', ad', cap', rfl, hS'⟩
    | some g =>
      have holds : ∀ (j : Nat) u, xs[j]? = some u → w.cell? (g.add j) = some u := fun j u h => by
        have := hS.rdCell hA hr h
        simpa [adr] using this
      obtain ⟨v', w', hr', ho, hg⟩ := run_append_arg_grows (P := P) w t ty e i z size bytes E.ht hi hz hsz hby hzs E.pos g n n xs hxl holds ⟨nb, 0, none⟩ m c news hl hnews (by omega) h63 hb
      obtain ⟨ad', cap', rfl, hS'⟩ := (hS.ownNil e size).newOwn hg ho
      exact ⟨_, w', hr', ad', cap', rfl, hS'⟩
  obtain ⟨v', w', hr', ad', cap', rfl, hS'⟩ := key
  refine arm_val hw (run_op_append rfl (by rw [hs, hx]; exact hr')) (K ad' cap' w' ?_)
  have hS2 : Sat w0 w' (blk nb e news :: own e size ad' (n + m) cap' (xs ++ news) :: R2) := hS'.front (Rem.tl r2)
  exact hS2.drop
/-- x[i] of an array value whose elements have one cell each. -/
theorem arm_indexA {dst : Option Tmp} {T el : TypeId} {x i : Operand} {ty : TypeId} {pos : String} {after : Array Edge} {gd : Option (Nat × Bool)}
    (hw : Region.wanted ⟨dst, .index T x i, ty, pos, after, gd⟩ (yielded ops a.tmps) = true) {cs : List Value} (hx : a.eval x = .agg cs.toArray) {k : IntKind} {j : Int} (hi : a.eval i = .int k j) {len : Nat} (ht : P.underlying T = some (.array len el)) (hsz : (P.info? el).map (·.size) = some 1) (hsc : scalarTy P el = true)
    (h0 : 0 ≤ j) (h1 : j < len) {v : Value} (hv : cs[j.toNat]? = some v) (K : wpList P ops Q rest (a.put dst v) w) : wpList P ops Q (⟨dst, .index T x i, ty, pos, after, gd⟩ :: rest) a w := by
  obtain ⟨inf, hinf, hs⟩ : ∃ inf, P.info? el = some inf ∧ inf.size = 1 := by
    cases h : P.info? el with
    | none => rw [h] at hsz; cases hsz
    | some inf => rw [h] at hsz; exact ⟨inf, rfl, by simpa using hsz⟩
  refine arm_val hw ?_ K
  have hp : (part el cs.toArray j.toNat).run P w = .ok v w := by
    unfold part
    simp [run_isAgg_scalar hsc, hv]
  have hz : (sizeOf el).run P w = .ok 1 w := run_sizeOf (by unfold sizeTy; rw [hinf]; simp [hs]) w
  simp [execOp, Instr.index, hx, hi, asIntOf, run_underlying ht, h0, h1, hz, hp]
/-- The same for a region whose order is open. -/
theorem draw_slhm {T : TypeId} {bytes : Nat} (E : ElemTy P T e size bytes) {o : Oper} {x hi mx : Operand} (ho : o.op = .slice T x none (some hi) (some mx)) {ρ : Operand → Value} {k k' : IntKind} {h m : Int}
    (hx : ρ x = .slice ad n cap) (hh : ρ hi = .int k h) (hm : ρ mx = .int k' m) (h0 : 0 ≤ h) (h1 : h ≤ m) (h2 : m ≤ cap) {i c : Nat} (hi' : h.toNat = i) (hc : m.toNat = c) {ad' : Option Addr} (hs : sub ad 0 c size = ad') : (execOp ρ o).run P w = .ok (.value (.slice ad' i c)) w := by
  subst hi'; subst hc; subst hs
  exact run_op_slice ho (by simp only [hx, hh, hm, Option.map_some, Option.map_none]; exact run_sliceSl3 E (run_bounds_hm h0 h1 h2))
/-- A view from its begin. -/
theorem sub_zero {A : HP} (hr : Rd A ad xs) (hxl : xs.length = n * size) (hn : ad = none → n = 0) : ∃ ad', sub ad 0 n size = ad' ∧ Rd A ad' xs ∧ (ad' = none → n = 0) := by
  refine ⟨_, rfl, ?_, ?_⟩
  · have := Rd.sub (cap := n) (size := size) hr 0 (n * size) (by rintro rfl; omega)
    rw [Nat.zero_mul, List.drop_zero, List.take_of_length_le (by omega)] at this
    exact this
  · intro h
    unfold sub at h
    split at h
    · exact hn h
    · cases ad with
      | none => exact hn rfl
      | some g => cases h
end
end Go.SL
