/- Truths that grow, and what larger formulas say: plain Lean. -/
import Derived.Test.YthackanffcaejaaGreatDoorY1
import Derived.Test.YthackanffcaejaaGreatDoorYEv3
set_option linter.unusedSimpArgs false
set_option linter.unusedVariables false
set_option maxRecDepth 20000
namespace Go.Proofs.YthackanffcaejaaGreatDoor
open Go Go.RowKit Go.SL

def envD (l : List Bool) (v : Int) : Bool := decide (v < l.length) && (l[v.toNat]?).getD false
theorem envE_nil (l : List Bool) : envE l [] = envD l := rfl
theorem evT_congr : ∀ {t : T} {f g : Int → Bool}, okT t → (∀ u, 0 ≤ u → f u = g u) → evT t f = evT t g
  | .cst n, f, g, _, _ => rfl
  | .var v, f, g, h, e => e v h.1
  | .neg a, f, g, h, e => by simp only [evT]; rw [evT_congr (t := a) h e]
  | .qu op v a, f, g, h, e => by
    have h2 : ∀ b, evT a (setF f v b) = evT a (setF g v b) := fun b => evT_congr h.2.2.2 (fun u hu => by unfold setF; by_cases hv : u = v; (rw [if_pos hv, if_pos hv]); (rw [if_neg hv, if_neg hv]; exact e u hu))
    have h3 := h2 true
    have h4 := h2 false
    show (if op = 4 then evT a (setF f v false) || evT a (setF f v true) else evT a (setF f v false) && evT a (setF f v true)) = _
    rw [h3, h4]
    rfl
  | .bin op a b, f, g, h, e => by simp only [evT]; rw [evT_congr h.2.2.1 e, evT_congr h.2.2.2 e]
  | .ite c a b, f, g, h, e => by simp only [evT]; rw [evT_congr h.1 e, evT_congr h.2.1 e, evT_congr h.2.2 e]
def Grw (l l' : List Bool) : Prop := ∃ k, l' = l ++ List.replicate k false
section
variable {l m n l1 l2 : List Bool}
theorem Grw.refl (l : List Bool) : Grw l l := ⟨0, by simp⟩
theorem Grw.trans (h : Grw l m) (h' : Grw m n) : Grw l n := by
  obtain ⟨i, rfl⟩ := h
  obtain ⟨j, rfl⟩ := h'
  exact ⟨i + j, by rw [List.append_assoc, List.replicate_append_replicate]⟩
theorem Grw.le (h : Grw l m) : l.length ≤ m.length := by
  obtain ⟨i, rfl⟩ := h
  simp
theorem Grw.more (l : List Bool) : Grw l (l ++ [false]) := ⟨1, rfl⟩
theorem Grw.env (h : Grw l m) : envD m = envD l := by
  obtain ⟨k, rfl⟩ := h
  funext v
  unfold envD
  by_cases hv : v.toNat < l.length
  · rw [List.getElem?_append_left hv, decide_eq_true (show v < ((l ++ List.replicate k false).length : Nat) by simp; omega), decide_eq_true (show v < (l.length : Int) by omega)]
  · have e1 : l[v.toNat]? = none := List.getElem?_eq_none (by omega)
    have e2 : ((l ++ List.replicate k false)[v.toNat]?).getD false = false := by
      rw [List.getElem?_append_right (by omega), List.getElem?_replicate]
      split <;> rfl
    rw [e1, e2]
    simp
theorem Grw.set {v : Nat} (h : Grw l m) (hv : v < l.length) (b : Bool) : Grw (l.set v b) (m.set v b) := by
  obtain ⟨k, rfl⟩ := h
  exact ⟨k, List.set_append_left _ _ hv⟩
theorem Grw.two {v : Nat} (hv : v < l.length) (h1 : Grw (l.set v false) l1) : Grw (l.set v true) (l1.set v true) := by
  have := h1.set (v := v) (by simpa using hv) true
  rwa [List.set_set] at this
theorem Grw.back {v : Nat} {was : Bool} (h0 : l[v]? = some was) (h1 : Grw (l.set v false) l1) (h2 : Grw (l1.set v true) l2) : Grw l (l2.set v was) := by
  have hv : v < l.length := (List.getElem?_eq_some_iff.1 h0).1
  have g2 := ((h1.two hv).trans h2).set (v := v) (by simpa using hv) was
  rw [List.set_set] at g2
  have e : l.set v was = l := by
    apply List.ext_getElem?
    intro i
    by_cases hi : v = i
    · subst hi; rw [List.getElem?_set_self hv, h0]
    · rw [List.getElem?_set_ne hi]
  rwa [e] at g2
end
theorem ev_set {a : T} (hk : okT a) {l : List Bool} {v : Nat} (hv : v < l.length) (b : Bool) : evT a (envD (l.set v b)) = evT a (setF (envD l) v b) := evT_congr hk fun u hu => by
  obtain ⟨m, rfl⟩ : ∃ m : Nat, u = m := ⟨u.toNat, by omega⟩
  unfold envD setF
  by_cases h : m = v
  · subst h; simp [hv]
  · have h2 : ¬ (m : Int) = (v : Int) := by omega
    rw [if_neg h2]
    simp [List.getElem?_set_ne (fun e => h e.symm)]
/-- What Eval answers. -/
def evalP (fs : List (Int × Int)) (bits : List Bool) : Bool × Int := match treeP fs with
  | none => (false, 134)
  | some t => if nst t > 8 then (false, 8) else (evT t (envD bits), 0)
theorem evalP_ok {fs : List (Int × Int)} {bits : List Bool} (h : (evalP fs bits).2 = 0) : ∃ t, treeP fs = some t ∧ nst t ≤ 8 ∧ ∀ b, evalP fs b = (evT t (envD b), 0) := by
  unfold evalP at h
  cases ht : treeP fs with
  | none => rw [ht] at h; simp at h
  | some t =>
    rw [ht] at h
    by_cases hn : nst t > 8
    · simp [hn] at h
    · exact ⟨t, rfl, by omega, fun b => by unfold evalP; rw [ht]; simp only [if_neg hn]⟩
theorem treeP_run {fs : List (Int × Int)} {t u : T} (h : treeP fs = some t) (hu : okT u) (hf : fs = post u) : t = u := by
  have h1 := (treeQ_some (treeP_some h).1).2.1
  rw [hf, runT_back u [] hu] at h1
  simpa using h1.symm
theorem treeP_post {fs : List (Int × Int)} {t : T} (h : treeP fs = some t) : okT t ∧ fs = post t := ⟨(treeQ_some (treeP_some h).1).2.2.1, (treeQ_some (treeP_some h).1).2.2.2.1⟩
section
variable {f g : List (Int × Int)} {bits : List Bool} (hf : (evalP f bits).2 = 0)
include hf
theorem means_bin (hg : (evalP g bits).2 = 0) {op : Int} (h1 : 6 ≤ op) (h2 : op ≤ 10) (h : (treeP (f ++ g ++ [(op, 0)])).isSome = true) : evalP (f ++ g ++ [(op, 0)]) bits = (opV op (evalP f bits).1 (evalP g bits).1, 0) := by
  obtain ⟨a, ha, na, ea⟩ := evalP_ok hf
  obtain ⟨b, hb, nb, eb⟩ := evalP_ok hg
  obtain ⟨t, ht⟩ := Option.isSome_iff_exists.1 h
  obtain ⟨ka, pa⟩ := treeP_post ha
  obtain ⟨kb, pb⟩ := treeP_post hb
  obtain rfl := treeP_run ht (u := .bin op a b) ⟨h1, h2, ka, kb⟩ (by rw [pa, pb]; rfl)
  rw [ea, eb]
  unfold evalP
  rw [ht]
  have : ¬ nst (.bin op a b) > 8 := by simp only [nst]; omega
  simp only [if_neg this]
  rfl
theorem means_not (h : (treeP (f ++ [(3, 0)])).isSome = true) : evalP (f ++ [(3, 0)]) bits = (!(evalP f bits).1, 0) := by
  obtain ⟨a, ha, na, ea⟩ := evalP_ok hf
  obtain ⟨t, ht⟩ := Option.isSome_iff_exists.1 h
  obtain ⟨ka, pa⟩ := treeP_post ha
  obtain rfl := treeP_run ht (u := .neg a) ka (by rw [pa]; rfl)
  rw [ea]
  unfold evalP
  rw [ht]
  have : ¬ nst (.neg a) > 8 := by simp only [nst]; omega
  simp only [if_neg this]
  rfl
theorem means_set (l : List Bool) : (evalP f l).2 = 0 := by
  obtain ⟨a, ha, na, ea⟩ := evalP_ok hf
  rw [ea]
theorem means_qu {v : Nat} (hv : v < 65536) {l l2 : List Bool} (hl : Grw bits l) (hvl : v < l.length) (hl2 : Grw bits l2) (hvl2 : v < l2.length) : (evalP (f ++ [(4, (v : Int))]) bits).2 ≠ 0 ∨ ((evalP (f ++ [(5, (v : Int))]) bits).2 = 0 ∧ (evalP (f ++ [(4, (v : Int))]) bits).1 = ((evalP f (l.set v false)).1 || (evalP f (l2.set v true)).1) ∧ (evalP (f ++ [(5, (v : Int))]) bits).1 = ((evalP f (l.set v false)).1 && (evalP f (l2.set v true)).1)) := by
  by_cases h0 : (evalP (f ++ [(4, (v : Int))]) bits).2 = 0
  · right
    obtain ⟨a, ha, na, ea⟩ := evalP_ok hf
    obtain ⟨ka, pa⟩ := treeP_post ha
    obtain ⟨t, ht, nt, et⟩ := evalP_ok h0
    obtain rfl := treeP_run ht (u := .qu 4 v a) ⟨.inl rfl, by omega, by omega, ka⟩ (by rw [pa]; rfl)
    have hq := treeQ_some (treeP_some ht).1
    have h5 : treeP (f ++ [(5, (v : Int))]) = some (.qu 5 v a) := by
      have h1 : treeQ (f ++ [(5, (v : Int))]) = some (.qu 5 v a) := by
        have h2 : f ++ [(5, (v : Int))] = post (.qu 5 v a) := by rw [pa]; rfl
        have hl5 : ¬ (post (.qu 5 (v : Int) a)).length > 65536 := by
          rw [← h2]; have := hq.1; simp at this ⊢; omega
        rw [h2]
        unfold treeQ
        rw [if_neg hl5, runT_back (.qu 5 v a) [] ⟨.inr rfl, by omega, by omega, ka⟩]
      have h3 := (treeP_some ht).2
      have h4 : (look (.qu 5 (v : Int) a)).1 = (look (.qu 4 (v : Int) a)).1 := rfl
      unfold treeP
      rw [h1]
      simp only [Option.bind_some]
      rw [if_neg (by omega)]
    have e5 : evalP (f ++ [(5, (v : Int))]) bits = (evT (.qu 5 v a) (envD bits), 0) := by
      unfold evalP
      rw [h5]
      have : ¬ nst (.qu 5 (v : Int) a) > 8 := by simp only [nst] at nt ⊢; omega
      simp only [if_neg this]
    rw [et, e5, ea, ea, ev_set ka hvl, ev_set ka hvl2, hl.env, hl2.env]
    exact ⟨rfl, rfl, rfl⟩
  · exact .inl h0
end
end Go.Proofs.YthackanffcaejaaGreatDoor
