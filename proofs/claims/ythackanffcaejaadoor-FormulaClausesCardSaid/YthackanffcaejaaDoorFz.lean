/- Memory that is no longer written: a heap told as it stands. What is said of it stays true when it grows. -/
import Derived.Test.YthackanffcaejaaDoorOwn3
set_option linter.unusedVariables false
set_option linter.unusedSimpArgs false
namespace Go.SL
open Go Go.RowKit

abbrev Hp := Nat → Option Obj
/-- Just this heap. -/
def fz (H : Hp) : HP := fun h => ∀ b, h b = H b
/-- H' holds all that H holds. -/
def Ext (H H' : Hp) : Prop := ∀ b o, H b = some o → H' b = some o
theorem Ext.refl (H : Hp) : Ext H H := fun _ _ h => h
theorem Ext.trans {H H' H'' : Hp} (h : Ext H H') (h' : Ext H' H'') : Ext H H'' := fun b o hb => h' b o (h b o hb)
/-- A cell of H. -/
def celH (H : Hp) (b off : Nat) : Option Value := match H b with | some (.cells cs _ _) => cs[off]? | _ => none
theorem celH.ext {H H' : Hp} (h : Ext H H') {b off : Nat} {v : Value} (hv : celH H b off = some v) : celH H' b off = some v := by
  unfold celH at *
  cases hb : H b with
  | none => rw [hb] at hv; cases hv
  | some o => rw [hb] at hv; rw [h b o hb]; exact hv

section
variable {P : Program} {ops : Array Oper} {Q : Exit → Act → World → Prop} {rest : List Oper} {a : Act} {w w0 : World} {Hs R : List HP} {H : Hp}
theorem Sat.fzCell (hS : Sat w0 w Hs) (hm : fz H ∈ Hs) {b off : Nat} {v : Value} (hv : celH H b off = some v) : w.cell? ⟨b, off, none⟩ = some v := by
  obtain ⟨h, hA, hw⟩ := hS.get hm
  unfold celH at hv
  cases hb : H b with
  | none => rw [hb] at hv; cases hv
  | some o =>
    rw [hb] at hv
    have := hw b o (by rw [hA b]; exact hb)
    unfold World.cell?
    rw [this]
    cases o <;> simp_all
/-- A block is let go into the heap that is no longer written. -/
theorem Sat.fzBlk {b e : Nat} {cs : List Value} (hS : Sat w0 w (blk b e cs :: fz H :: R)) : ∃ H', Ext H H' ∧ H' b = some (.cells cs.toArray e (0, 0)) ∧ Sat w0 w (fz H' :: R) := by
  refine ⟨fun c => if c = b then some (.cells cs.toArray e (0, 0)) else H c, ?_, by simp, ?_⟩
  · obtain ⟨h, ⟨g, k, d, e1, hA, g2, k2, d2, e2, hF, _⟩, hw⟩ := hS.heap
    intro c o hc
    by_cases hcb : c = b
    · subst hcb
      have h1 : g c = some (.cells cs.toArray e (0, 0)) := by rw [hA c]; simp
      rcases d c with h2 | h2
      · rw [h1] at h2; cases h2
      · rw [e2 c, hF c, hc] at h2; simp at h2
    · simp [hcb, hc]
  · refine (hS.join).turn fun h ⟨g, k, d, e1, hA, hF⟩ c => ?_
    rw [e1 c]
    have h1 := hA c
    by_cases hcb : c = b
    · rw [h1]; simp [hcb]
    · rw [h1]; simp [hcb, hF c]
theorem Sat.fzNil (hS : Sat w0 w R) : Sat w0 w (fz (fun _ => none) :: R) := hS.emp fun _ => rfl
/-- So is the array of a slice. -/
theorem Sat.fzOwn {e size : Nat} {ad : Option Addr} {n cap : Nat} {xs : List Value} (hS : Sat w0 w (own e size ad n cap xs :: fz H :: R)) :
    ∃ H', Ext H H' ∧ (∀ (j : Nat) v, xs[j]? = some v → ∃ g, ad = some ⟨g, 0, none⟩ ∧ celH H' g j = some v) ∧ Sat w0 w (fz H' :: R) := by
  obtain ⟨h, ⟨g, k, d, e1, ⟨hl, hA⟩, hK⟩, hw⟩ := hS.heap
  rcases hA with ⟨rfl, rfl, rfl, h0⟩ | ⟨b, cur, rfl, hnc, hcm, hcl, hcur, hblk⟩
  · refine ⟨H, Ext.refl _, fun j v hv => ?_, hS.drop⟩
    have : xs = [] := by simpa using hl
    subst this
    simp at hv
  · have hS2 : Sat w0 w (blk b e cur :: fz H :: R) := ⟨hS.os, hS.tape, hS.output, hS.size, h, ⟨g, k, d, e1, hblk, hK⟩, hw⟩
    obtain ⟨H', x1, x2, x3⟩ := hS2.fzBlk
    refine ⟨H', x1, fun j v hv => ⟨b, rfl, ?_⟩, x3⟩
    simp only [celH, x2]
    rw [← hcur, List.getElem?_take] at hv
    split at hv
    · simpa using hv
    · cases hv
theorem Rd.of_fz {b off : Nat} {cs : List Value} (h : ∀ (j : Nat) v, cs[j]? = some v → celH H b (off + j) = some v) : Rd (fz H) (some ⟨b, off, none⟩) cs := by
  intro w hp hA hw j v hv
  refine ⟨⟨_, rfl, rfl⟩, ?_⟩
  have h1 := h j v hv
  simp only [adr, Option.getD_some, add_eq]
  unfold celH at h1
  cases hb : H b with
  | none => rw [hb] at h1; cases h1
  | some o =>
    rw [hb] at h1
    have := hw b o (by rw [hA b]; exact hb)
    unfold World.cell?
    simp only [this]
    cases o <;> simp_all
theorem arm_loadF {dst : Option Tmp} {t : TypeId} {x : Operand} {ty : TypeId} {pos : String} {after : Array Edge} {gd : Option (Nat × Bool)} (hS : Sat w0 w Hs)
    (hw : Region.wanted ⟨dst, .load t x, ty, pos, after, gd⟩ (yielded ops a.tmps) = true) {b off : Nat} (hx : a.eval x = .pointer (some ⟨b, off, none⟩)) {H : Hp} {v : Value} (hv : celH H b off = some v) (hm : fz H ∈ Hs) (ht : scalarTy P t = true)
    (K : wpList P ops Q rest (a.put dst v) w) : wpList P ops Q (⟨dst, .load t x, ty, pos, after, gd⟩ :: rest) a w :=
  arm_val hw (run_op_load rfl hx (run_loadVar1 ht (hS.fzCell hm hv))) K
end
end Go.SL
