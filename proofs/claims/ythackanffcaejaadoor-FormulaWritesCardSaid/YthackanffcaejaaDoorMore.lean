/- A struct stored whole. -/
import Derived.Test.YthackanffcaejaaDoorOwn3
set_option linter.unusedVariables false
set_option linter.unusedSimpArgs false
namespace Go.SL
open Go Go.RowKit

def setFrom (cs : List Value) (k : Nat) : List Value → List Value
  | [] => cs
  | v :: vs => setFrom (cs.set k v) (k + 1) vs
section
variable {P : Program} {ops : Array Oper} {Q : Exit → Act → World → Prop} {rest : List Oper} {a : Act} {w w0 : World} {Hs R : List HP} {e b : Nat}
theorem run_storeCells_blk (off : Nat) : ∀ (vs : List Value) (i : Nat) (w : World) (cs : List Value), Sat w0 w (blk b e cs :: R) → off + i + vs.length ≤ cs.length → (∀ v ∈ vs, v.oneCell' = true) →
    ∃ w', (storeCells ⟨b, off, none⟩ vs i).run P w = .ok () w' ∧ Sat w0 w' (blk b e (setFrom cs (off + i) vs) :: R)
  | [], i, w, cs, hS, _, _ => ⟨w, by simp [storeCells], hS⟩
  | v :: vs, i, w, cs, hS, hl, h1 => by
    simp only [List.length_cons] at hl
    have hc : w.cell? ⟨b, off + i, none⟩ = some (cs[off + i]'(by omega)) := hS.cell mem_hd (List.getElem?_eq_getElem (by omega))
    have hf := hS.frozen (off := off + i) mem_hd
    have hS' := hS.setCell (off := off + i) v Upd.hd
    obtain ⟨w', hr, hS2⟩ := run_storeCells_blk off vs (i + 1) _ _ hS' (by simp; omega) (fun u hu => h1 u (by simp [hu]))
    have hv := h1 v (by simp)
    refine ⟨w', ?_, hS2⟩
    simp only [storeCells, add_eq]
    have hst : (store ⟨b, off + i, none⟩ v).run P w = .ok () (w.setCell ⟨b, off + i, none⟩ v) := by
      cases v <;> simp_all [store, Sem.run, Value.oneCell']
    simp [hst, hr]
theorem arm_storeN {dst : Option Tmp} {t : TypeId} {x y : Operand} {ty : TypeId} {pos : String} {after : Array Edge} {gd : Option (Nat × Bool)} (hS : Sat w0 w Hs)
    (hw : Region.wanted ⟨dst, .store t x y, ty, pos, after, gd⟩ (yielded ops a.tmps) = true) {b off : Nat} (hx : a.eval x = .pointer (some ⟨b, off, none⟩)) {vs : List Value} (hy : a.eval y = .agg vs.toArray) {e : TypeId} {cs cs' : List Value}
    (hm : blk b e cs ∈ Hs) (hcs : setFrom cs off vs = cs') (hlt : off + vs.length ≤ cs.length) {Hs' : List HP} (u : Upd Hs (blk b e cs) (blk b e cs') Hs') (h1 : vs.all (·.oneCell') = true) {n : Nat} (ht : sizeTy P t = some n) (hn : vs.length = n)
    (K : ∀ w', Sat w0 w' Hs' → wpList P ops Q rest (a.put dst undef) w') : wpList P ops Q (⟨dst, .store t x y, ty, pos, after, gd⟩ :: rest) a w := by
  subst hcs
  obtain ⟨R, r1, r2⟩ := u.rem
  obtain ⟨w', hr, hS'⟩ := run_storeCells_blk (P := P) off vs 0 w cs (hS.front r1) (by omega) (fun v hv => List.all_eq_true.1 h1 v hv)
  have hs := run_sizeOf ht w
  refine arm_skip hw (run_op_store rfl hx hy ?_) (K w' (hS'.put r2))
  simp [storeVar, hs, Value.cells, hn, hr]
end
end Go.SL
