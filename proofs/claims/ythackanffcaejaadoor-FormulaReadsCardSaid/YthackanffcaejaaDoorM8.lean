/- A part of the proof: Act2 FormT. -/
import Derived.Test.YthackanffcaejaaDoorM1
import Derived.Test.YthackanffcaejaaDoorM2
import Derived.Test.YthackanffcaejaaDoorM6
section
set_option linter.unusedVariables false
set_option linter.unusedSimpArgs false
namespace Go.SL
open Go Go.RowKit
theorem draw_act2 {P : Program} {ops : Array Oper} {Q : Exit → Act → World → Prop} {md : Region.Mode} {S : World → Prop} {js : List Nat} {i i2 : Nat} {oi oi2 : Oper} {fuel : Nat} {listed : Array Bool} {a : Act} {w : World} (hi : ops[i]? = some oi) (hi2 : ops[i2]? = some oi2) (hr : Region.ready md ops listed = [i, i2]) (hc : Closed md ops listed)
    (h : wpList P ops (Exit.then (Cont P md ops Q S js fuel (listed.setIfInBounds i true)) Q) [oi] a w) (h' : wpList P ops (Exit.then (Cont P md ops Q S js fuel (listed.setIfInBounds i2 true)) Q) [oi2] a w) : wpAnyS P md ops Q S js (fuel + 1) listed a w := by
  refine ⟨fun h0 => (by rw [hr] at h0; cases h0), fun j hj => ?_⟩
  have hmem := hj
  rw [hr] at hj
  have hj2 : j = i ∨ j = i2 := by simpa using hj
  rcases hj2 with rfl | rfl
  · refine wpOp_mono (K := Cont P md ops Q S js fuel (listed.setIfInBounds j true)) (fun a' w' h'' => ⟨h''.1, h''.2 (hc.set hmem)⟩) ?_
    unfold wpOp
    simp only [hi]
    simp only [wpList] at h
    split
    · rename_i hw
      rw [if_pos hw] at h
      rcases h with h1 | ⟨h1, h2⟩
      · left
        unfold Oper.wp at *
        generalize (execOp a.eval oi).run P w = r at *
        cases r with
        | ok n w' => cases n <;> simp only [Oper.upon] at h1 ⊢ <;> first | exact h1 | exact Calls.mono h1 (fun e w'' he => by cases e <;> first | exact he | (obtain ⟨a0, w0, h0⟩ := he; exact ⟨a0, w0, h0⟩)) | exact Rows.mono h1 (fun _ _ he => he)
        | halt x w' => cases x <;> simp only [Oper.upon] at h1 ⊢ <;> exact h1
      · right
        obtain ⟨a0, w0, h0⟩ := h2
        exact ⟨h1, a0, w0, h0⟩
    · rename_i hw
      rw [if_neg hw] at h
      exact h
  · refine wpOp_mono (K := Cont P md ops Q S js fuel (listed.setIfInBounds j true)) (fun a' w' h'' => ⟨h''.1, h''.2 (hc.set hmem)⟩) ?_
    unfold wpOp
    simp only [hi2]
    simp only [wpList] at h'
    split
    · rename_i hw
      rw [if_pos hw] at h'
      rcases h' with h1 | ⟨h1, h2⟩
      · left
        unfold Oper.wp at *
        generalize (execOp a.eval oi2).run P w = r at *
        cases r with
        | ok n w' => cases n <;> simp only [Oper.upon] at h1 ⊢ <;> first | exact h1 | exact Calls.mono h1 (fun e w'' he => by cases e <;> first | exact he | (obtain ⟨a0, w0, h0⟩ := he; exact ⟨a0, w0, h0⟩)) | exact Rows.mono h1 (fun _ _ he => he)
        | halt x w' => cases x <;> simp only [Oper.upon] at h1 ⊢ <;> exact h1
      · right
        obtain ⟨a0, w0, h0⟩ := h2
        exact ⟨h1, a0, w0, h0⟩
    · rename_i hw
      rw [if_neg hw] at h'
      exact h'
end Go.SL
end
section
set_option linter.unusedSimpArgs false
set_option linter.unusedVariables false
set_option linter.unusedSectionVars false
namespace Go.Proofs.YthackanffcaejaaDoor
open Go Go.RowKit Go.SL

def Fs : List (Int × Int) → List Value
  | [] => []
  | x :: xs => .int .i64 x.1 :: .int .i64 x.2 :: Fs xs
theorem Fs_length : ∀ fs : List (Int × Int), (Fs fs).length = fs.length * 2
  | [] => rfl
  | x :: xs => by simp [Fs, Fs_length xs]; omega
theorem Fs_drop : ∀ (fs : List (Int × Int)) (k : Nat), (Fs fs).drop (k * 2) = Fs (fs.drop k)
  | [], k => by simp [Fs]
  | x :: xs, 0 => by simp
  | x :: xs, k + 1 => by
    have : (k + 1) * 2 = k * 2 + 1 + 1 := by omega
    rw [this]
    simp only [Fs, List.drop_succ_cons, Fs_drop xs k]
theorem Fs_at {fs : List (Int × Int)} {k : Nat} {op n : Int} (h : fs[k]? = some (op, n)) : ((Fs fs).drop (k * 2)).take 2 = [.int .i64 op, .int .i64 n] := by
  rw [Fs_drop]
  have hk := (List.getElem?_eq_some_iff.1 h).1
  rw [List.drop_eq_getElem_cons hk]
  have : fs[k] = (op, n) := (List.getElem?_eq_some_iff.1 h).2
  rw [this]
  rfl
def Vs (H : Hp) : List T → List Value → Prop
  | [], vs => vs = []
  | t :: st, vs => ∃ vs' v, vs = vs' ++ [v] ∧ Vs H st vs' ∧ InT H t v
theorem Vs.ext {H H' : Hp} (h : Ext H H') : ∀ {st : List T} {vs : List Value}, Vs H st vs → Vs H' st vs
  | [], _, k => k
  | _ :: _, _, ⟨vs', v, e, k, k'⟩ => ⟨vs', v, e, k.ext h, k'.ext h⟩
theorem Vs.len {H : Hp} : ∀ {st : List T} {vs : List Value}, Vs H st vs → vs.length = st.length
  | [], _, k => by simp only [Vs] at k; subst k; rfl
  | _ :: _, _, ⟨vs', v, e, k, k'⟩ => by subst e; simp [k.len]
def TI (fs : List (Int × Int)) (k : Nat) (st : List T) : Prop := runT [] (fs.take k) = some st
theorem TI.zero (fs : List (Int × Int)) : TI fs 0 [] := rfl
theorem TI.step {fs : List (Int × Int)} {k : Nat} {st st' : List T} {op n : Int} (h : TI fs k st) (hx : fs[k]? = some (op, n)) (hs : stepT st op n = some st') : TI fs (k + 1) st' := by
  unfold TI at *
  have hk := (List.getElem?_eq_some_iff.1 hx).1
  rw [List.take_succ_eq_append_getElem hk, runT_append, h]
  have : fs[k] = (op, n) := (List.getElem?_eq_some_iff.1 hx).2
  simp [this, runT, hs]
theorem TI.bad {fs : List (Int × Int)} {k : Nat} {st : List T} {op n : Int} (h : TI fs k st) (hx : fs[k]? = some (op, n)) (hs : stepT st op n = none) : treeQ fs = none := by
  unfold TI at *
  have hk := (List.getElem?_eq_some_iff.1 hx).1
  have he : fs[k] = (op, n) := (List.getElem?_eq_some_iff.1 hx).2
  have hr : runT [] fs = none := by
    conv => lhs; rw [← List.take_append_drop k fs]
    rw [runT_append, h, List.drop_eq_getElem_cons hk, he]
    simp [runT, hs]
  unfold treeQ
  split
  · rfl
  · rw [hr]
theorem TI.done {fs : List (Int × Int)} {st : List T} (h : TI fs fs.length st) (hl : fs.length ≤ 65536) : (∃ t, st = [t] ∧ treeQ fs = some t) ∨ (st.length ≠ 1 ∧ treeQ fs = none) := by
  unfold TI at h
  rw [List.take_length] at h
  unfold treeQ
  rw [if_neg (by omega), h]
  rcases st with _ | ⟨a, _ | ⟨b, r⟩⟩
  · exact .inr ⟨by simp, rfl⟩
  · exact .inl ⟨a, rfl, rfl⟩
  · exact .inr ⟨by simp, rfl⟩
end Go.Proofs.YthackanffcaejaaDoor
end
