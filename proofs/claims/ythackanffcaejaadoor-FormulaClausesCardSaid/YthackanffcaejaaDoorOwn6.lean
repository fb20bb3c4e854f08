/- make([]T, n), elements of one cell. -/
import Derived.Test.YthackanffcaejaaDoorOwn5
set_option linter.unusedVariables false
set_option linter.unusedSimpArgs false
namespace Go.SL
open Go Go.RowKit
section
variable {P : Program} {ops : Array Oper} {Q : Exit → Act → World → Prop} {rest : List Oper} {a : Act} {w w0 : World} {Hs : List HP} {e : TypeId}
theorem madeCells_one (z : Value) (n : Nat) : (madeCells #[z] n).toList = List.replicate n z := by
  apply List.ext_getElem?
  intro i
  by_cases hi : i < n
  · simp [madeCells, hi, List.getElem?_replicate, Nat.mod_one]
  · simp [madeCells, hi, List.getElem?_replicate]
theorem run_op_make {o : Oper} {T : TypeId} {x y : Operand} (ho : o.op = .makeSlice T x y) {ρ : Operand → Value} {u v r : Value} {w' : World} (hx : ρ x = u) (hy : ρ y = v) (hr : (Instr.makeSlice T u v).run P w = .ok r w') : (execOp ρ o).run P w = .ok (.value r) w' := by
  simp [execOp, ho, hx, hy, hr]
theorem arm_make {dst : Option Tmp} {T : TypeId} {x y : Operand} {ty : TypeId} {pos : String} {after : Array Edge} {gd : Option (Nat × Bool)} (hS : Sat w0 w Hs)
    (hw : Region.wanted ⟨dst, .makeSlice T x y, ty, pos, after, gd⟩ (yielded ops a.tmps) = true) {n bytes : Nat} {kl kc : IntKind} (hx : a.eval x = .int kl (n : Int)) (hy : a.eval y = .int kc (n : Int)) (E : ElemTy P T e 1 bytes) {z : Value}
    (hz : zeroTy P e = some [z]) (hb : bytes * n ≤ 281474976710656) (h63 : n ≤ 9223372036854775807)
    (K : ∀ b w', Sat w0 w' (own e 1 (some ⟨b, 0, none⟩) n n (List.replicate n z) :: Hs) → wpList P ops Q rest (a.put dst (.slice (some ⟨b, 0, none⟩) n n)) w') :
    wpList P ops Q (⟨dst, .makeSlice T x y, ty, pos, after, gd⟩ :: rest) a w := by
  obtain ⟨i, z', hi, hz', hsz, hby, hzs⟩ := E.parts
  have hz1 : z'.cells = #[z] := by
    unfold zeroTy at hz
    rw [hi] at hz
    simp only [Option.bind_some] at hz
    rw [hz'] at hz
    simp only [Option.map_some, Option.some.injEq] at hz
    exact Array.toList_inj.1 hz
  have hr := run_make (P := P) w T e i z' E.ht hi hz' kl kc n n (by omega) (by omega) (by rw [hby, ← Int.natCast_mul]; omega) (by omega)
  rw [Int.toNat_natCast, hsz, Nat.mul_one, hz1] at hr
  refine arm_val hw (run_op_make rfl hx hy hr) (K w.heap.size _ ?_)
  refine (hS.alloc (.cells (madeCells #[z] n) e)).turn fun h hh => ⟨by rw [List.length_replicate, Nat.mul_one], .inr ⟨w.heap.size, List.replicate n z, rfl, Nat.le_refl _, h63, by rw [List.length_replicate, Nat.mul_one], by rw [Nat.mul_one]; exact List.take_of_length_le (by rw [List.length_replicate]; exact Nat.le_refl _), ?_⟩⟩
  have : madeCells #[z] n = (List.replicate n z).toArray := by rw [← madeCells_one]
  unfold blk
  rw [← this]
  exact hh
end
end Go.SL
