/- A slice literal of two elements of two cells each; a view's beginning. -/
import Derived.Test.YthackanffcaejaaDoorOwn6
set_option linter.unusedVariables false
set_option linter.unusedSimpArgs false
namespace Go.SL
open Go Go.RowKit
section
variable {P : Program} {ops : Array Oper} {Q : Exit → Act → World → Prop} {rest : List Oper} {a : Act} {w w0 : World} {Hs : List HP} {e : TypeId} {ad : Option Addr}
theorem Rd.pre {A : HP} {xs ys : List Value} (h : Rd A ad (xs ++ ys)) : Rd A ad xs := by
  intro w hp hA hw j v hv
  have hj := (List.getElem?_eq_some_iff.1 hv).1
  exact h w hp hA hw j v (by rw [List.getElem?_append_left hj]; exact hv)
theorem run_op_build22 {o : Oper} {T : TypeId} {x y : Operand} (ho : o.op = .buildSlice T 2 #[(0, x), (1, y)]) {bytes : Nat} (E : ElemTy P T e 2 bytes) {ρ : Operand → Value} {u1 u2 v1 v2 : Value} (hx : ρ x = .agg #[u1, u2]) (hy : ρ y = .agg #[v1, v2]) :
    (execOp ρ o).run P w = .ok (.value (.slice (some ⟨w.heap.size, 0, none⟩) 2 2)) (w.alloc (.cells #[u1, u2, v1, v2] e)) := by
  obtain ⟨i, z, hi, hz, hs, hby, hzs⟩ := E.parts
  have hu : (Value.agg #[u1, u2]).cells = #[u1, u2] := rfl
  have hv : (Value.agg #[v1, v2]).cells = #[v1, v2] := rfl
  have hr : (Array.range 4).map (z.cells[· % z.cells.size]!) = #[z.cells[0]!, z.cells[1]!, z.cells[0]!, z.cells[1]!] := by
    have h2 : Array.range 4 = #[0, 1, 2, 3] := by decide
    simp [h2, hzs]
  simp [execOp, ho, Instr.buildSlice, run_underlying E.ht, sizeOf, typeInfo, hi, hs, zeroValue, hz, newRow, newObj, Sem.run, hx, hy, Instr.fill, hu, hv, hr]
theorem arm_build22 {dst : Option Tmp} {T : TypeId} {x y : Operand} {ty : TypeId} {pos : String} {after : Array Edge} {gd : Option (Nat × Bool)} {bytes : Nat} (hS : Sat w0 w Hs)
    (hw : Region.wanted ⟨dst, .buildSlice T 2 #[(0, x), (1, y)], ty, pos, after, gd⟩ (yielded ops a.tmps) = true) (E : ElemTy P T e 2 bytes) {u1 u2 v1 v2 : Value} (hx : a.eval x = .agg #[u1, u2]) (hy : a.eval y = .agg #[v1, v2])
    (K : ∀ b w', Sat w0 w' (blk b e [u1, u2, v1, v2] :: Hs) → wpList P ops Q rest (a.put dst (.slice (some ⟨b, 0, none⟩) 2 2)) w') : wpList P ops Q (⟨dst, .buildSlice T 2 #[(0, x), (1, y)], ty, pos, after, gd⟩ :: rest) a w :=
  arm_val hw (run_op_build22 rfl E hx hy) (K _ _ (by simpa [blk] using hS.alloc (.cells #[u1, u2, v1, v2] e)))
theorem run_loadRN {A : HP} {t : TypeId} {m j : Nat} {cs vs : List Value} (hS : Sat w0 w Hs) (hr : Rd A ad cs) (hm : A ∈ Hs) (hv : (cs.drop j).take m = vs) (hl : vs.length = m) (hn : sizeTy P t = some m) (ht : aggTy P t = true) (h0 : 0 < m) :
    (loadVar t (adr ad j)).run P w = .ok (.agg vs.toArray) w := by
  have hlen : 0 < cs.length := by
    rcases Nat.eq_zero_or_pos cs.length with h | h
    · have : cs = [] := List.length_eq_zero_iff.1 h
      subst this
      simp at hv
      subst hv
      simp at hl; omega
    · exact h
  refine run_loadVarN ht (by rw [hl]; exact hn) fun i v hi => ?_
  have h := hS.rdCell hm hr (j := j + i) (v := v) (by
    rw [← hv, List.getElem?_take] at hi
    split at hi
    · rw [List.getElem?_drop] at hi; exact hi
    · cases hi)
  obtain ⟨aa, rfl, hs⟩ := hS.rdAd hm hr hlen
  simp only [adr, Option.getD_some] at h ⊢
  rw [add_add _ hs]
  exact h
end
end Go.SL
