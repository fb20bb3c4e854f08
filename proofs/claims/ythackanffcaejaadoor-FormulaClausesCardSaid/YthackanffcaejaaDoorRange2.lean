/- Operations carried out inside a fence that lets all functions in: what an iterator does between two rounds. -/
import Derived.Test.YthackanffcaejaaDoorRange
set_option linter.unusedVariables false
set_option linter.unusedSimpArgs false
namespace Go.SL
open Go Go.RowKit
section
variable {F : Fence} {n : Nat} {P : Program} {ops : Array Oper} {Q : Exit → Act → World → Prop} {rest : List Oper} {a : Act} {w w0 : World} {Hs : List HP}
theorem in_val {o : Oper} (hF : ∀ f, F.fn f) (hd : ∀ c, o.op ≠ .defer c) {v : Value} {w' : World} (hw : Region.wanted o (yielded ops a.tmps) = true) (hr : (execOp a.eval o).run P w = .ok (.value v) w')
    (K : wpListIn F n P ops Q rest (a.put o.dst v) w') : wpListIn F n P ops Q (o :: rest) a w := by
  simp only [wpListIn]
  rw [if_pos hw]
  refine ⟨fun f _ => hF f, ?_⟩
  rw [Oper.semAt_eq _ _ _ hd, hr]
  exact K
theorem in_skip {o : Oper} (hF : ∀ f, F.fn f) (hd : ∀ c, o.op ≠ .defer c) {w' : World} (hw : Region.wanted o (yielded ops a.tmps) = true) (hr : (execOp a.eval o).run P w = .ok .skip w')
    (K : wpListIn F n P ops Q rest (a.put o.dst undef) w') : wpListIn F n P ops Q (o :: rest) a w := by
  simp only [wpListIn]
  rw [if_pos hw]
  refine ⟨fun f _ => hF f, ?_⟩
  rw [Oper.semAt_eq _ _ _ hd, hr]
  exact K
theorem in_load {dst : Option Tmp} {t : TypeId} {x : Operand} {ty : TypeId} {pos : String} {after : Array Edge} {gd : Option (Nat × Bool)} (hF : ∀ f, F.fn f) (hS : Sat w0 w Hs)
    (hw : Region.wanted ⟨dst, .load t x, ty, pos, after, gd⟩ (yielded ops a.tmps) = true) {b off : Nat} (hx : a.eval x = .pointer (some ⟨b, off, none⟩)) {e : TypeId} {cs : List Value}
    (hm : blk b e cs ∈ Hs) {v : Value} (hv : cs[off]? = some v) (ht : scalarTy P t = true) (K : wpListIn F n P ops Q rest (a.put dst v) w) :
    wpListIn F n P ops Q (⟨dst, .load t x, ty, pos, after, gd⟩ :: rest) a w :=
  in_val hF (fun c h => by cases h) hw (run_op_load rfl hx (run_loadVar1 ht (hS.cell hm hv))) K
theorem in_store {dst : Option Tmp} {t : TypeId} {x y : Operand} {ty : TypeId} {pos : String} {after : Array Edge} {gd : Option (Nat × Bool)} (hF : ∀ f, F.fn f) (hS : Sat w0 w Hs)
    (hw : Region.wanted ⟨dst, .store t x y, ty, pos, after, gd⟩ (yielded ops a.tmps) = true) {b off : Nat} (hx : a.eval x = .pointer (some ⟨b, off, none⟩)) {v : Value} (hy : a.eval y = v) {e : TypeId} {cs cs' : List Value}
    (hm : blk b e cs ∈ Hs) (hcs : cs.set off v = cs') (hlt : off < cs.length) {Hs' : List HP} (u : Upd Hs (blk b e cs) (blk b e cs') Hs') (h1 : v.oneCell' = true) (ht : sizeTy P t = some 1)
    (K : ∀ w', Sat w0 w' Hs' → wpListIn F n P ops Q rest (a.put dst undef) w') : wpListIn F n P ops Q (⟨dst, .store t x y, ty, pos, after, gd⟩ :: rest) a w := by
  subst hcs
  have hc : w.cell? ⟨b, off, none⟩ = some (cs[off]'hlt) := hS.cell hm (List.getElem?_eq_getElem hlt)
  exact in_skip hF (fun c h => by cases h) hw (run_op_store rfl hx hy (run_storeVar1 ht h1 hc (hS.frozen hm))) (K _ (hS.setCell v u))
theorem seps_perm {L L' : List HP} (h : L.Perm L') : ∀ g, seps L g → seps L' g := by
  induction h with
  | nil => exact fun g H => H
  | cons x _ ih => exact fun g H => sep_mono ih H
  | swap x y l => exact fun g H => sep_swap H
  | trans _ _ ih1 ih2 => exact fun g H => ih2 g (ih1 g H)
theorem Sat.permL {L L' : List HP} (hS : Sat w0 w L) (h : L.Perm L') : Sat w0 w L' := hS.perm (seps_perm h)
theorem permI (X C Y G : List HP) : (X ++ (C ++ (Y ++ G))).Perm (C ++ (Y ++ (X ++ G))) := by
  have h : (X ++ (C ++ Y)).Perm ((C ++ Y) ++ X) := List.perm_append_comm
  have := h.append_right G
  simpa [List.append_assoc] using this
end
end Go.SL
