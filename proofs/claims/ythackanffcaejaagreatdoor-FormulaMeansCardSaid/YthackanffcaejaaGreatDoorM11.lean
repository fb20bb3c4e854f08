/- A part of the proof: FormT Lv5 Lv6. -/
import Derived.Test.YthackanffcaejaaGreatDoorM1
import Derived.Test.YthackanffcaejaaGreatDoorM7
import Derived.Test.YthackanffcaejaaGreatDoorM10
section
set_option linter.unusedSimpArgs false
set_option linter.unusedVariables false
set_option linter.unusedSectionVars false
namespace Go.Proofs.YthackanffcaejaaGreatDoor
open Go Go.RowKit Go.SL

theorem stepT_split (st : List T) (op n : Int) :
    (stepT st op n = none ∧ (arityP op n < 0 ∨ (¬ arityP op n < 0 ∧ arityP op n > (st.length : Int)))) ∨
    (op = 1 ∧ arityP op n = 0 ∧ stepT st op n = some (.cst n :: st)) ∨
    (op = 2 ∧ arityP op n = 0 ∧ stepT st op n = some (.var n :: st)) ∨
    (∃ a r, st = a :: r ∧ op = 3 ∧ arityP op n = 1 ∧ stepT st op n = some (.neg a :: r)) ∨
    (∃ a r, st = a :: r ∧ (op = 4 ∨ op = 5) ∧ arityP op n = 1 ∧ stepT st op n = some (.qu op n a :: r)) ∨
    (∃ a b r, st = b :: a :: r ∧ (6 ≤ op ∧ op ≤ 10) ∧ arityP op n = 2 ∧ stepT st op n = some (.bin op a b :: r)) ∨
    (∃ c a b r, st = b :: a :: c :: r ∧ op = 11 ∧ arityP op n = 3 ∧ stepT st op n = some (.ite c a b :: r)) := by
  by_cases c1 : op = 1 ∧ (n = 0 ∨ n = 1)
  · refine .inr (.inl ⟨c1.1, ?_, ?_⟩)
    · unfold arityP; rw [if_pos (.inl c1)]
    · unfold stepT; rw [if_pos c1]
  by_cases c2 : op = 2 ∧ 0 ≤ n ∧ n < 65536
  · refine .inr (.inr (.inl ⟨c2.1, ?_, ?_⟩))
    · unfold arityP; rw [if_pos (.inr c2)]
    · unfold stepT; rw [if_neg c1, if_pos c2]
  have e0 : ¬ (op = 1 ∧ (n = 0 ∨ n = 1) ∨ op = 2 ∧ 0 ≤ n ∧ n < 65536) := by rintro (h | h); exact c1 h; exact c2 h
  by_cases c3 : op = 3 ∧ n = 0
  · have ea : arityP op n = 1 := by unfold arityP; rw [if_neg e0, if_pos (.inl c3)]
    have es : stepT st op n = (match st with | a :: r => some (.neg a :: r) | _ => none) := by unfold stepT; rw [if_neg c1, if_neg c2, if_pos c3] <;> rfl
    cases st with
    | nil => exact .inl ⟨es, .inr ⟨by omega, by simp [ea]⟩⟩
    | cons a r => exact .inr (.inr (.inr (.inl ⟨a, r, rfl, c3.1, ea, es⟩)))
  by_cases c4 : (op = 4 ∨ op = 5) ∧ 0 ≤ n ∧ n < 65536
  · have ea : arityP op n = 1 := by unfold arityP; rw [if_neg e0, if_pos (.inr c4)]
    have es : stepT st op n = (match st with | a :: r => some (.qu op n a :: r) | _ => none) := by unfold stepT; rw [if_neg c1, if_neg c2, if_neg c3, if_pos c4] <;> rfl
    cases st with
    | nil => exact .inl ⟨es, .inr ⟨by omega, by simp [ea]⟩⟩
    | cons a r => exact .inr (.inr (.inr (.inr (.inl ⟨a, r, rfl, c4.1, ea, es⟩))))
  have e1 : ¬ (op = 3 ∧ n = 0 ∨ (op = 4 ∨ op = 5) ∧ 0 ≤ n ∧ n < 65536) := by rintro (h | h); exact c3 h; exact c4 h
  by_cases c5 : 6 ≤ op ∧ op ≤ 10 ∧ n = 0
  · have ea : arityP op n = 2 := by unfold arityP; rw [if_neg e0, if_neg e1, if_pos c5]
    have es : stepT st op n = (match st with | b :: a :: r => some (.bin op a b :: r) | _ => none) := by unfold stepT; rw [if_neg c1, if_neg c2, if_neg c3, if_neg c4, if_pos c5] <;> rfl
    rcases st with _ | ⟨b, _ | ⟨a, r⟩⟩
    · exact .inl ⟨es, .inr ⟨by omega, by simp [ea]⟩⟩
    · exact .inl ⟨es, .inr ⟨by omega, by simp [ea]⟩⟩
    · exact .inr (.inr (.inr (.inr (.inr (.inl ⟨a, b, r, rfl, ⟨c5.1, c5.2.1⟩, ea, es⟩)))))
  by_cases c6 : op = 11 ∧ n = 0
  · have ea : arityP op n = 3 := by unfold arityP; rw [if_neg e0, if_neg e1, if_neg c5, if_pos c6]
    have es : stepT st op n = (match st with | b :: a :: c :: r => some (.ite c a b :: r) | _ => none) := by unfold stepT; rw [if_neg c1, if_neg c2, if_neg c3, if_neg c4, if_neg c5, if_pos c6] <;> rfl
    rcases st with _ | ⟨b, _ | ⟨a, _ | ⟨c, r⟩⟩⟩
    · exact .inl ⟨es, .inr ⟨by omega, by simp [ea]⟩⟩
    · exact .inl ⟨es, .inr ⟨by omega, by simp [ea]⟩⟩
    · exact .inl ⟨es, .inr ⟨by omega, by simp [ea]⟩⟩
    · exact .inr (.inr (.inr (.inr (.inr (.inr ⟨c, a, b, r, rfl, c6.1, ea, es⟩)))))
  · refine .inl ⟨?_, .inl ?_⟩
    · unfold stepT; rw [if_neg c1, if_neg c2, if_neg c3, if_neg c4, if_neg c5, if_neg c6]
    · unfold arityP; rw [if_neg e0, if_neg e1, if_neg c5, if_neg c6]; omega

def Fs : List (Int × Int) → List Value
  | [] => []
  | x :: xs => .int .i64 x.1 :: .int .i64 x.2 :: Fs xs
theorem Fs_length : ∀ fs : List (Int × Int), (Fs fs).length = fs.length * 2
  | [] => rfl
  | x :: xs => by simp [Fs, Fs_length xs]; omega
theorem Fs_drop : ∀ (fs : List (Int × Int)) (k : Nat), (Fs fs).drop (k * 2) = Fs (fs.drop k)
  | [], k => by simp [Fs]
  | x :: xs, 0 => by simp
  | x :: xs, k + 1 => by
    have : (k + 1) * 2 = k * 2 + 1 + 1 := by omega
    rw [this]
    simp only [Fs, List.drop_succ_cons, Fs_drop xs k]
theorem Fs_at {fs : List (Int × Int)} {k : Nat} {op n : Int} (h : fs[k]? = some (op, n)) : ((Fs fs).drop (k * 2)).take 2 = [.int .i64 op, .int .i64 n] := by
  rw [Fs_drop]
  have hk := (List.getElem?_eq_some_iff.1 h).1
  rw [List.drop_eq_getElem_cons hk]
  have : fs[k] = (op, n) := (List.getElem?_eq_some_iff.1 h).2
  rw [this]
  rfl
def Vs (H : Hp) : List T → List Value → Prop
  | [], vs => vs = []
  | t :: st, vs => ∃ vs' v, vs = vs' ++ [v] ∧ Vs H st vs' ∧ InT H t v
theorem Vs.ext {H H' : Hp} (h : Ext H H') : ∀ {st : List T} {vs : List Value}, Vs H st vs → Vs H' st vs
  | [], _, k => k
  | _ :: _, _, ⟨vs', v, e, k, k'⟩ => ⟨vs', v, e, k.ext h, k'.ext h⟩
theorem Vs.len {H : Hp} : ∀ {st : List T} {vs : List Value}, Vs H st vs → vs.length = st.length
  | [], _, k => by simp only [Vs] at k; subst k; rfl
  | _ :: _, _, ⟨vs', v, e, k, k'⟩ => by subst e; simp [k.len]
def TI (fs : List (Int × Int)) (k : Nat) (st : List T) : Prop := runT [] (fs.take k) = some st
theorem TI.zero (fs : List (Int × Int)) : TI fs 0 [] := rfl
theorem TI.step {fs : List (Int × Int)} {k : Nat} {st st' : List T} {op n : Int} (h : TI fs k st) (hx : fs[k]? = some (op, n)) (hs : stepT st op n = some st') : TI fs (k + 1) st' := by
  unfold TI at *
  have hk := (List.getElem?_eq_some_iff.1 hx).1
  rw [List.take_succ_eq_append_getElem hk, runT_append, h]
  have : fs[k] = (op, n) := (List.getElem?_eq_some_iff.1 hx).2
  simp [this, runT, hs]
theorem TI.bad {fs : List (Int × Int)} {k : Nat} {st : List T} {op n : Int} (h : TI fs k st) (hx : fs[k]? = some (op, n)) (hs : stepT st op n = none) : treeQ fs = none := by
  unfold TI at *
  have hk := (List.getElem?_eq_some_iff.1 hx).1
  have he : fs[k] = (op, n) := (List.getElem?_eq_some_iff.1 hx).2
  have hr : runT [] fs = none := by
    conv => lhs; rw [← List.take_append_drop k fs]
    rw [runT_append, h, List.drop_eq_getElem_cons hk, he]
    simp [runT, hs]
  unfold treeQ
  split
  · rfl
  · rw [hr]
theorem TI.done {fs : List (Int × Int)} {st : List T} (h : TI fs fs.length st) (hl : fs.length ≤ 65536) : (∃ t, st = [t] ∧ treeQ fs = some t) ∨ (st.length ≠ 1 ∧ treeQ fs = none) := by
  unfold TI at h
  rw [List.take_length] at h
  unfold treeQ
  rw [if_neg (by omega), h]
  rcases st with _ | ⟨a, _ | ⟨b, r⟩⟩
  · exact .inr ⟨by simp, rfl⟩
  · exact .inl ⟨a, rfl, rfl⟩
  · exact .inr ⟨by simp, rfl⟩
theorem TI.bnd {fs : List (Int × Int)} {k : Nat} {st : List T} (h : TI fs k st) (hl : fs.length ≤ 65536) : st.length ≤ 65536 ∧ ∀ t ∈ st, okT t ∧ size t ≤ 65536 := by
  unfold TI at h
  have h1 := stack_le h
  have h2 := runT_ok _ _ _ h (by simp)
  have h3 : (fs.take k).length ≤ 65536 := by rw [List.length_take]; omega
  exact ⟨by omega, fun t ht => ⟨h2 t ht, by have := h1.2 t ht; omega⟩⟩
end Go.Proofs.YthackanffcaejaaGreatDoor
end
section
set_option linter.unusedSimpArgs false
set_option linter.unusedVariables false
set_option maxRecDepth 20000
namespace Go.Proofs.YthackanffcaejaaGreatDoor
open Go Go.RowKit Go.SL Go.ClauseP Go.LexP

theorem impD (text : List UInt8) (hD : LvD text 115) : LvD text 82 := by
  intro B k n tat te fin o nd d a w0 w R hd hS
  have GD := fun w R hS => hD B k n tat te fin o nd d a w0 w R hd hS
  unfold psV at hS GD
  have hd2 : (d == 0) = false := by simp [hd]
  have hd3 : (d != 0) = true := by simp [hd]
  go_enter Tryz.func82, Tryz.ntmps82
  go_wp2_with (first | ((with_reducible apply arm_build1 hS); exact wanted_none; exact E130; exact ev_tmp rfl; exact cells_one rfl; rfl; decide; clear hS; intro NB w hS; (try simp only [Act.put, q1, q2, q3])) | (go_at_call 115; refine (GD _ _ hS).mono ?_; clear hS; rintro e w ⟨rfl, hS⟩))
  go_loopw [3] (fun _ wr => Sat w0 wr (blk B 82 [.string ⟨text.toArray⟩, .int .i64 k, .int .i64 n, .int .i64 tat, .int .i64 te, .int .i64 fin, .int .i64 o, .int .i64 nd, .int .i64 d, .int .i64 a] :: R)) (fun _ _ => 0)
  case atStart => exact hS.sb (by (repeat (first | with_reducible exact Sb.refl | (with_reducible refine Sb.take (by (repeat (with_reducible first | exact Rem.hd | apply Rem.tl)); done) ?_) | with_reducible apply Sb.skip)))
  case round =>
    clear hS
    have hS := hrel
    clear hrel
    go_wp2_with ((with_reducible apply arm_load hS); exact wanted_none; exact ev_tmp rfl; (repeat (with_reducible exact mem_hd)); rfl; decide +kernel; (try simp only [Act.put, q1, q2, q3]))
    go_ret
    exact ⟨rfl, hS⟩
theorem Vs.at_ {H : Hp} : ∀ {xs : List T} {vs : List Value} (m : Nat) (x : T), Vs H xs vs → xs[m]? = some x → ∃ v, vs[xs.length - 1 - m]? = some v ∧ InT H x v
  | [], _, m, x, _, hx => by simp at hx
  | y :: ys, _, 0, x, ⟨vs', v, e, k, k'⟩, hx => by
    simp at hx
    subst hx
    subst e
    refine ⟨v, ?_, k'⟩
    have := k.len
    rw [List.getElem?_append_right (by simp; omega)]
    simp [this]
  | y :: ys, _, m + 1, x, ⟨vs', v, e, k, k'⟩, hx => by
    subst e
    have hx2 : ys[m]? = some x := by simpa using hx
    obtain ⟨v2, h1, h2⟩ := Vs.at_ m x k hx2
    refine ⟨v2, ?_, h2⟩
    have hm := (List.getElem?_eq_some_iff.1 hx2).1
    have := k.len
    rw [List.getElem?_append_left (by simp only [List.length_cons]; omega)]
    simp only [List.length_cons]
    rw [← h1]
    congr 1
    omega
def imSt (w0 : World) (R : List HP) (H : Hp) (B : Nat) (text : List UInt8) (p : Ps) (ad : Option Addr) (m cap : Nat) (vs : List Value) (w : World) : (Int × Nat) ⊕ (List T × Ps × Hp) → Prop
  | .inl x => RD text (.lvl 2) p (.inl x) ∧ ∃ H', Ext H H' ∧ Dead w0 w (fz H' :: own 70 1 ad m cap vs :: R) B text p.opn x
  | .inr (xs, q, H') => Ext H H' ∧ Vs H' xs vs ∧ xs ≠ [] ∧ PsB text q ∧ q.opn = p.opn ∧ meas text q ≤ meas text p ∧ p.nds + sumSz xs + (xs.length - 1) ≤ q.nds ∧ (∀ x ∈ xs, okT x) ∧ (∀ r, RD text (.imps xs) q r → RD text (.lvl 2) p r) ∧
      Sat w0 w (blk B 82 (alV text q) :: fz H' :: own 70 1 ad m cap vs :: R)
theorem sumSz_len : ∀ xs : List T, xs.length ≤ sumSz xs
  | [] => by simp [sumSz]
  | x :: xs => by
    have := sumSz_len xs
    have h := size_pos x
    simp only [sumSz, List.map_cons, List.sum_cons, List.length_cons] at this ⊢
    omega
theorem size_le_sum : ∀ {xs : List T} {y : T}, y ∈ xs → size y ≤ sumSz xs
  | x :: xs, y, h => by
    simp only [sumSz, List.map_cons, List.sum_cons]
    rcases List.mem_cons.1 h with rfl | h
    · omega
    · have := size_le_sum h
      unfold sumSz at this
      omega
theorem impT_snoc (x y : T) (rest : List T) : impT (x :: (rest ++ [y])) = .bin 9 y (impT (x :: rest)) := by simp [impT, List.foldl_append]
theorem impT_take {xs : List T} {k : Nat} {y : T} (h : xs[k + 1]? = some y) : impT (xs.take (k + 2)) = .bin 9 y (impT (xs.take (k + 1))) := by
  cases xs with
  | nil => simp at h
  | cons x rest =>
    have h2 : rest[k]? = some y := by simpa using h
    obtain ⟨hk, hy⟩ := List.getElem?_eq_some_iff.1 h2
    rw [List.take_succ_cons, List.take_succ_cons, List.take_succ_eq_append_getElem hk, hy]
    exact impT_snoc _ _ _
theorem size_impT : ∀ (rest : List T) (x : T), size (impT (x :: rest)) = sumSz (x :: rest) + rest.length
  | [], x => by simp [impT, sumSz]
  | y :: rest, x => by
    have := size_impT rest (.bin 9 y x)
    simp only [impT, List.foldl_cons] at this ⊢
    rw [this]
    simp only [sumSz, List.map_cons, List.sum_cons, size, List.length_cons]
    omega
theorem okT_impT : ∀ (rest : List T) (x : T), (∀ y ∈ x :: rest, okT y) → okT (impT (x :: rest))
  | [], x, h => h x (.head _)
  | y :: rest, x, h => by
    have := okT_impT rest (.bin 9 y x) (fun z hz => by
      rcases List.mem_cons.1 hz with rfl | hz
      · exact ⟨by decide, by decide, h y (.tail _ (.head _)), h x (.head _)⟩
      · exact h z (.tail _ (.tail _ hz)))
    simpa only [impT, List.foldl_cons] using this
theorem sumSz_take (xs : List T) (k : Nat) : sumSz (xs.take k) ≤ sumSz xs := by
  have h : xs = xs.take k ++ xs.drop k := (List.take_append_drop k xs).symm
  have h2 : sumSz xs = sumSz (xs.take k) + sumSz (xs.drop k) := by conv => lhs; rw [h]
                                                                   simp only [sumSz, List.map_append, List.sum_append]
  omega
theorem impT_bd {xs : List T} {k m : Nat} (hk : k < xs.length) (hs : sumSz xs + (xs.length - 1) ≤ m) (ho : ∀ x ∈ xs, okT x) : size (impT (xs.take (k + 1))) ≤ m ∧ okT (impT (xs.take (k + 1))) := by
  cases xs with
  | nil => simp at hk
  | cons x rest =>
    have h1 := sumSz_take (x :: rest) (k + 1)
    rw [List.take_succ_cons] at h1 ⊢
    have h2 : (rest.take k).length ≤ rest.length := by simp [List.length_take]; omega
    simp only [List.length_cons] at hs
    refine ⟨by rw [size_impT]; omega, okT_impT _ _ fun y hy => ho y ?_⟩
    rcases List.mem_cons.1 hy with rfl | hy
    · exact .head _
    · exact .tail _ (List.mem_of_mem_take hy)
def pst (text : List UInt8) (p : Ps) (H' : Hp) (v : Value) (k n tat te fin o nd d a : Int) : Rt → Prop
  | .inl x => x = (d, a.toNat) ∧ (x.2 : Int) = a ∧ d ≠ 0 ∧ p.opn ≤ o ∧ o ≤ 65 ∧ 0 ≤ nd ∧ nd ≤ 65537
  | .inr (t, q) => alV text q = psV text k n tat te fin o nd d a ∧ PsB text q ∧ q.opn = p.opn ∧ meas text q ≤ meas text p ∧ p.nds + size t ≤ q.nds ∧ okT t ∧ InT H' t v
theorem IfV.cell {v : Value} (h : IfV v) : v.oneCell' = true := by
  rcases h with rfl | ⟨K, b, rfl⟩ <;> rfl
theorem okR_cells {w0 w : World} {R : List HP} {H : Hp} {B : Nat} {text : List UInt8} {p : Ps} {v : Value} {r : Rt} (h : okR w0 w R H B text p v r) :
    ∃ (k n tat te fin o nd d a : Int) (H' : Hp), Ext H H' ∧ pst text p H' v k n tat te fin o nd d a r ∧ v.oneCell' = true ∧ Sat w0 w (blk B 82 [.string ⟨text.toArray⟩, .int .i64 k, .int .i64 n, .int .i64 tat, .int .i64 te, .int .i64 fin, .int .i64 o, .int .i64 nd, .int .i64 d, .int .i64 a] :: fz H' :: R) := by
  rcases r with ⟨d, a⟩ | ⟨t, q⟩
  · obtain ⟨hv, H1, hx, h0, k, n, tat, te, fin, o, nd, h1, h2, h3, h4, hS⟩ := h
    exact ⟨k, n, tat, te, fin, o, nd, d, a, H1, hx, ⟨by simp, rfl, h0, h1, h2, h3, h4⟩, hv.cell, hS⟩
  · obtain ⟨h1, h2, h3, h4, h5, H1, h6, h7, hS⟩ := h
    exact ⟨_, _, _, _, _, _, _, _, _, H1, h6, ⟨rfl, h1, h2, h3, h4, h5, h7⟩, IfV.cell (.inr h7.form), hS⟩
set_option maxHeartbeats 8000000 in
theorem impA (text : List UInt8) (hl : text.length ≤ 1048576) (n : Nat) (hA : LvA text 115 3 n) (hD : LvD text 115) : LvA text 82 2 n := by
  intro B p w0 w R H hp hm hSig hbm hS
  have UA := hA B p w0 w R H hp hm hSig hbm hS
  go_enter Tryz.func82, Tryz.ntmps82
  go_wp2_with (first | (go_at_call 115; refine UA.mono ?_; clear hS UA; rintro e w ⟨v, rfl, r, hrd, hok⟩; obtain ⟨k, n, tat, te, fin, o, nd, d, a, H1, hx, hps, hoc, hS⟩ := okR_cells hok; clear hok) | ((with_reducible apply arm_build1 hS); exact wanted_none; exact E130; exact ev_tmp rfl; exact cells_one hoc; rfl; decide; clear hS; intro B3 w hS; (try simp only [Act.put, q1, q2, q3])))
  have hS1 := hS.turn (B := own 70 1 (some ⟨B3, 0, none⟩) 1 1 [v]) fun g h => ⟨rfl, .inr ⟨B3, [v], rfl, Nat.le_refl _, by unfold maxLen; omega, rfl, rfl, h⟩⟩
  have hS2 : Sat w0 w (blk B 82 [.string ⟨text.toArray⟩, .int .i64 k, .int .i64 n, .int .i64 tat, .int .i64 te, .int .i64 fin, .int .i64 o, .int .i64 nd, .int .i64 d, .int .i64 a] :: fz H1 :: own 70 1 (some ⟨B3, 0, none⟩) 1 1 [v] :: R) := hS1.sb (by (repeat (first | with_reducible exact Sb.refl | (with_reducible refine Sb.take (by (repeat (with_reducible first | exact Rem.hd | apply Rem.tl)); done) ?_))))
  clear hS hS1
  go_loopw [3] (fun l wr => ∃ ad m cap vs s, l = .slice ad m cap ∧ imSt w0 R H B text p ad m cap vs wr s) (fun _ wr => loopM text B wr)
  case atStart =>
    refine ⟨some ⟨B3, 0, none⟩, 1, 1, [v], ?_⟩
    rcases r with x | ⟨t, q⟩
    · obtain ⟨rfl, ha, h0, h1, h2, h3, h4⟩ := hps
      exact ⟨.inl _, rfl, .impE hrd, H1, hx, h0, k, n, tat, te, fin, o, nd, h1, h2, h3, h4, by dsimp only at ha ⊢; rw [ha]; exact hS2⟩
    · obtain ⟨e1, h1, h2, h3, h4, h5, h6⟩ := hps
      refine ⟨.inr ([t], q, H1), rfl, hx, ⟨[], v, rfl, rfl, h6⟩, by simp, h1, h2, h3, by simp [sumSz]; omega, by simpa using h5, fun r h => .impK hrd h, ?_⟩
      rw [e1]
      exact hS2
  case round =>
    clear hS2 hrd hps
    obtain ⟨ad, m, cap, vs, s, rfl, hs⟩ := hrel
    rcases s with x | ⟨xs, q, H1⟩
    · obtain ⟨hrd, H1, hx, h0, k, n, tat, te, fin, o, nd, h1, h2, h3, h4, hS⟩ := hs
      obtain ⟨d, a⟩ := x
      dsimp only at *
      have hd2 : (d == 0) = false := by simp [h0]
      have hd3 : (d != 0) = true := by simp [h0]
      unfold psV at hS
      go_wp2_with ((with_reducible apply arm_load hS); exact wanted_none; exact ev_tmp rfl; (repeat (with_reducible exact mem_hd)); rfl; decide +kernel; (try simp only [Act.put, q1, q2, q3]))
      go_ret
      exact ⟨_, rfl, .inl (d, a), hrd, .inl rfl, H1, hx, h0, k, n, tat, te, fin, o, nd, h1, h2, h3, h4, by dsimp only; unfold psV; exact hS.sb (by (repeat (first | with_reducible exact Sb.refl | (with_reducible refine Sb.take (by (repeat (with_reducible first | exact Rem.hd | apply Rem.tl)); done) ?_) | with_reducible apply Sb.skip)))⟩
    · obtain ⟨hx, hvs, hne, hq, ho, hmm, hsz, hok, hR, hS⟩ := hs
      have hM := loopM_al hS mem_hd
      have hS0 := hS
      have hln : vs.length = m * 1 := hS.ownLen (mem_tl (mem_tl mem_hd))
      have hxl := hvs.len
      have hml : m ≤ 65536 := by
        have h1 := sumSz_len xs
        have h2 := hq.2.1
        omega
      have HLN := hid hln
      have HXL := hid hxl
      clear hln hxl
      unfold alV psV at hS
      by_cases hk : knd q = 7
      · have hkk : ((tokE q.tk).1 == 7) = true := by simpa [knd] using hk
        have MC := makesC B text q hq w0 wr (fz H1 :: own 70 1 ad m cap vs :: R) hS0
        rcases hmk : makesP q with ⟨d, a⟩ | q1
        · rw [hmk] at MC
          have hth : thenP (makesP q) (advP text) = .inl (d, a) := by rw [hmk]; rfl
          clear hmk
          go_wp2_with (first | ((with_reducible apply arm_load hS); (first | with_reducible exact wanted_none | exact wanted_guard rfl rfl); exact ev_tmp rfl; (repeat (with_reducible exact mem_hd)); rfl; decide +kernel; (try simp only [Act.put, q1, q2, q3])) | ((with_reducible apply arm_build1 hS); exact wanted_none; exact E130; exact ev_tmp rfl; exact cells_one rfl; rfl; decide; clear hS; intro NB w hS; (try simp only [Act.put, q1, q2, q3])) | ((with_reducible apply arm_appendB hS); exact wanted_none; exact ev_tmp rfl; exact ev_tmp rfl; exact E130; (repeat (with_reducible first | exact Rem.hd | apply Rem.tl)); (repeat (with_reducible apply Rem.tl)); rfl; rfl; (omega); (omega); clear hS; intro AD CAP w hS; (try simp only [Nat.zero_add, List.nil_append] at hS); (try simp only [Act.put, q1, q2, q3])) | (go_at_call 114; refine MC.mono ?_; clear MC hS hS0; rintro e w ⟨rfl, hDd⟩) | (go_at_call 37; refine (advD_aft B text _ _ w0 _ _ hDd).mono ?_; clear hDd; rintro e w ⟨rfl, hDd⟩) | (go_at_call 115; refine (lvD_aft text _ hD B _ _ w0 _ _ hDd).mono ?_; clear hDd; rintro e w ⟨rfl, h0, k, n, tat, te, fin, o, nd, h1, h2, h3, h4, hS⟩; have hd2 : (d == 0) = false := (by simpa using h0); unfold psV at hS; dsimp only at hS))
          have hS4 : Sat w0 w (blk B 82 (psV text k n tat te fin o nd d a) :: fz H1 :: own 70 1 AD (m + 1) CAP (vs ++ [.nilIface]) :: R) := by unfold psV; exact hS.sb (by (repeat (first | with_reducible exact Sb.refl | (with_reducible refine Sb.take (by (repeat (with_reducible first | exact Rem.hd | apply Rem.tl)); done) ?_))))
          go_roundw
          case rel => exact ⟨AD, m + 1, CAP, _, .inl (d, a), rfl, hR _ (.impsA hk hth), H1, hx, h0, k, n, tat, te, fin, o, nd, by omega, h2, h3, h4, hS4⟩
          case measure =>
            have := loopM_dead (text := text) h0 hS4 mem_hd
            omega
        · have hq1o : q1.opn = q.opn ∧ q1.nds = q.nds + 1 ∧ meas text q1 = meas text q ∧ knd q1 = knd q := by
            unfold makesP at hmk
            split at hmk
            · cases hmk
            · injection hmk with hmk
              subst hmk
              exact ⟨rfl, rfl, rfl, rfl⟩
          obtain ⟨o1, o2, o3, o4⟩ := hq1o
          rw [hmk] at MC
          rcases had : advP text q1 with ⟨d, a⟩ | q2
          · have hth : thenP (makesP q) (advP text) = .inl (d, a) := by rw [hmk]; exact had
            have AC := fun w hq1 hS => advC B text hl q1 hq1 w0 w hSig (fz H1 :: own 70 1 ad m cap vs :: R) (List.mem_cons_of_mem _ (List.mem_cons_of_mem _ hbm)) hS
            rw [had] at AC
            clear hmk had
            go_wp2_with (first | ((with_reducible apply arm_load hS); (first | with_reducible exact wanted_none | exact wanted_guard rfl rfl); exact ev_tmp rfl; (repeat (with_reducible exact mem_hd)); rfl; decide +kernel; (try simp only [Act.put, q1, q2, q3])) | ((with_reducible apply arm_build1 hS); exact wanted_none; exact E130; exact ev_tmp rfl; exact cells_one rfl; rfl; decide; clear hS; intro NB w hS; (try simp only [Act.put, q1, q2, q3])) | ((with_reducible apply arm_appendB hS); exact wanted_none; exact ev_tmp rfl; exact ev_tmp rfl; exact E130; (repeat (with_reducible first | exact Rem.hd | apply Rem.tl)); (repeat (with_reducible apply Rem.tl)); rfl; rfl; (omega); (omega); clear hS; intro AD CAP w hS; (try simp only [Nat.zero_add, List.nil_append] at hS); (try simp only [Act.put, q1, q2, q3])) | (go_at_call 114; refine MC.mono ?_; clear MC hS hS0; rintro e w ⟨rfl, hq1, hS⟩) | (go_at_call 37; refine (AC _ hq1 hS).mono ?_; clear AC hS; rintro e w ⟨rfl, hDd⟩) | (go_at_call 115; refine (lvD_aft text _ hD B _ _ w0 _ _ hDd).mono ?_; clear hDd; rintro e w ⟨rfl, h0, k, n, tat, te, fin, o, nd, h1, h2, h3, h4, hS⟩; have hd2 : (d == 0) = false := (by simpa using h0); unfold psV at hS; dsimp only at hS))
            have hS4 : Sat w0 w (blk B 82 (psV text k n tat te fin o nd d a) :: fz H1 :: own 70 1 AD (m + 1) CAP (vs ++ [.nilIface]) :: R) := by unfold psV; exact hS.sb (by (repeat (first | with_reducible exact Sb.refl | (with_reducible refine Sb.take (by (repeat (with_reducible first | exact Rem.hd | apply Rem.tl)); done) ?_))))
            go_roundw
            case rel => exact ⟨AD, m + 1, CAP, _, .inl (d, a), rfl, hR _ (.impsA hk hth), H1, hx, h0, k, n, tat, te, fin, o, nd, by omega, h2, h3, h4, hS4⟩
            case measure =>
              have := loopM_dead (text := text) h0 hS4 mem_hd
              omega
          · have hth : thenP (makesP q) (advP text) = .inr q2 := by rw [hmk]; exact had
            have AC := fun w hq1 hS => advC B text hl q1 hq1 w0 w hSig (fz H1 :: own 70 1 ad m cap vs :: R) (List.mem_cons_of_mem _ (List.mem_cons_of_mem _ hbm)) hS
            rw [had] at AC
            have hms : ∀ hq1 : PsB text q1, meas text q2 < meas text q1 ∧ q2.opn = q1.opn ∧ q2.nds = q1.nds := fun hq1 => advP_meas hq1 (by rw [o4, hk]; decide) had
            have UA := fun w hq2 hm2 hS => hA B q2 w0 w (own 70 1 ad m cap vs :: R) H1 hq2 hm2 hSig (List.mem_cons_of_mem _ hbm) hS
            clear hmk had
            go_wp2_with (first | ((with_reducible apply arm_load hS); (first | with_reducible exact wanted_none | exact wanted_guard rfl rfl); exact ev_tmp rfl; (repeat (with_reducible exact mem_hd)); rfl; decide +kernel; (try simp only [Act.put, q1, q2, q3])) | (go_at_call 114; refine MC.mono ?_; clear MC hS hS0; rintro e w ⟨rfl, hq1, hS⟩) | (go_at_call 37; refine (AC _ hq1 hS).mono ?_; clear AC hS; rintro e w ⟨rfl, hq2, hS⟩; obtain ⟨m1, m2, m3⟩ := hms hq1; clear hms) | (go_at_call 115; refine (UA _ hq2 (by omega) hS).mono ?_; clear UA hS; rintro e w ⟨y, rfl, r3, hrd, hok3⟩; (obtain ⟨k, n, tat, te, fin, o, nd, d, a, H3, hx3, hps, hoc, hS⟩ := okR_cells hok3); clear hok3) | ((with_reducible apply arm_build1 hS); exact wanted_none; exact E130; exact ev_tmp rfl; exact cells_one hoc; rfl; decide; clear hS; intro B3 w hS; (try simp only [Act.put, q1, q2, q3])) | ((with_reducible apply arm_appendB hS); exact wanted_none; exact ev_tmp rfl; exact ev_tmp rfl; exact E130; (repeat (with_reducible first | exact Rem.hd | apply Rem.tl)); (repeat (with_reducible apply Rem.tl)); rfl; (simp only [List.all_cons, List.all_nil, hoc, Bool.and_true]); omega; omega; clear hS; intro AD CAP w hS; (try simp only [Act.put, q1, q2, q3])))
            have hS4 : Sat w0 w (blk B 82 (psV text k n tat te fin o nd d a) :: fz H3 :: own 70 1 AD (m + 1) CAP (vs ++ [y]) :: R) := by unfold psV; exact hS.sb (by (repeat (first | with_reducible exact Sb.refl | (with_reducible refine Sb.take (by (repeat (with_reducible first | exact Rem.hd | apply Rem.tl)); done) ?_))))
            clear hS
            rcases r3 with x | ⟨t2, q3⟩
            · obtain ⟨rfl, ha, h0, h1, h2, h3, h4⟩ := hps
              go_roundw
              case rel => exact ⟨AD, m + 1, CAP, _, .inl _, rfl, hR _ (.impsE hk hth hrd), H3, hx.trans hx3, h0, k, n, tat, te, fin, o, nd, by omega, h2, h3, h4, by dsimp only at ha ⊢; rw [ha]; exact hS4⟩
              case measure =>
                have := loopM_dead (text := text) h0 hS4 mem_hd
                omega
            · obtain ⟨e1, c1, c2, c3, c4, c5, hi3⟩ := hps
              rw [← e1] at hS4
              go_roundw
              case rel => exact ⟨AD, m + 1, CAP, _, .inr (t2 :: xs, q3, H3), rfl, hx.trans hx3, ⟨vs, y, rfl, hvs.ext hx3, hi3⟩, by simp, c1, by omega, by omega, by
                have : 0 < xs.length := List.length_pos_iff.2 hne
                simp only [sumSz, List.map_cons, List.sum_cons, List.length_cons] at hsz ⊢
                omega, fun z hz => (by rcases List.mem_cons.1 hz with rfl | hz; exact c5; exact hok z hz), fun r h => hR r (.impsK hk hth hrd h), hS4⟩
              case measure =>
                have := loopM_al hS4 mem_hd
                omega
      · have hkk : ((tokE q.tk).1 == 7) = false := by simpa [knd] using hk
        have h0l : 0 < xs.length := List.length_pos_iff.2 hne
        have hmx : m = xs.length := by have := HLN.out; have := HXL.out; omega
        obtain ⟨x0, hx0⟩ : ∃ x0, xs[0]? = some x0 := ⟨_, List.getElem?_eq_getElem h0l⟩
        obtain ⟨v0, hv0, hi0⟩ := hvs.at_ 0 x0 hx0
        rw [← hmx, Nat.sub_zero] at hv0
        have h0m : 0 < m := by omega
        have HMX := hid hmx
        clear hmx
        have hone : v0.oneCell' = true := IfV.cell (.inr hi0.form)
        go_wp2_with (first | ((with_reducible apply arm_load hS); (first | with_reducible exact wanted_none | exact wanted_guard rfl rfl); exact ev_tmp rfl; (repeat (with_reducible exact mem_hd)); rfl; decide +kernel; (try simp only [Act.put, q1, q2, q3])) | ((with_reducible apply arm_indexAddr); exact wanted_none; exact ev_tmp rfl; exact ev_tmp rfl; exact E130; (omega); (omega); (exact hS.ownNN (by (repeat (with_reducible first | exact mem_hd | apply mem_tl))) (by omega)); (simp only [Int.toNat_natCast, Nat.mul_one, Nat.zero_add, tn_sub, tn_sub1, tn_sub2, tn_sub3, tn_add, tn_add1, tn_add2]; rfl); (try simp only [Act.put, q1, q2, q3])) | ((with_reducible apply arm_loadE); exact wanted_none; exact ev_tmp rfl; (exact (hS.ownCell (by (repeat (with_reducible first | exact mem_hd | apply mem_tl))) (by (assumption))).1); decide +kernel; (try simp only [Act.put, q1, q2, q3])))
        go_loopw [4, 5] (fun x i wi => ∃ k : Nat, ∃ H', k < m ∧ Ext H1 H' ∧ InT H' (impT (xs.take (k + 1))) x ∧ ((k + 1 = m ∧ i = .int .i64 (-1)) ∨ ∃ j : Nat, k + 2 + j = m ∧ i = .int .i64 j) ∧ Sat w0 wi (blk B 82 (alV text q) :: fz H' :: own 70 1 ad m cap vs :: R)) (fun _ i _ => (intOf i + 1).toNat)
        case atStart =>
          refine ⟨0, H1, h0m, Ext.refl _, ?_, ?_, hS0⟩
          · cases xs with
            | nil => exact (hne rfl).elim
            | cons x rest =>
              simp only [List.getElem?_cons_zero, Option.some.injEq] at hx0
              subst hx0
              exact hi0
          · by_cases h1 : m = 1
            · exact .inl ⟨by omega, by subst h1; rfl⟩
            · exact .inr ⟨m - 2, by omega, congrArg (Value.int .i64) (by omega)⟩
        case round =>
          clear hS hS0
          obtain ⟨k, H2, hk1, hx2, hiT, hj, hS⟩ := hrel
          have hS0 := hS
          unfold alV psV at hS
          rcases hj with ⟨hk2, rfl⟩ | ⟨j, hk2, rfl⟩
          · have HK2 := hid hk2
            clear hk2
            go_wp2_with ((with_reducible apply arm_load hS); exact wanted_guard rfl rfl; exact ev_const; (repeat (with_reducible apply mem_tl)); rfl; decide +kernel; (try simp only [Act.put, q1, q2, q3]))
            go_ret
            have hkm := HK2.out
            have hall : xs.take (k + 1) = xs := List.take_of_length_le (by have := HMX.out; omega)
            have hbd := impT_bd (xs := xs) (k := k) (m := q.nds - p.nds) (by have := HMX.out; omega) (by omega) hok
            rw [hall] at hbd hiT
            exact ⟨_, rfl, .inr (impT xs, q), hR _ (.impsN hk), hq, ho, hmm, by have := hbd.1; omega, hbd.2, H2, hx.trans hx2, hiT, hS0.sb (by (repeat (first | with_reducible exact Sb.refl | (with_reducible refine Sb.take (by (repeat (with_reducible first | exact Rem.hd | apply Rem.tl)); done) ?_) | with_reducible apply Sb.skip)))⟩
          · obtain ⟨y, hy⟩ : ∃ y, xs[k + 1]? = some y := ⟨_, List.getElem?_eq_getElem (by have := HMX.out; omega)⟩
            obtain ⟨vy, hvy, hiy⟩ := hvs.at_ (k + 1) y hy
            have hjx : xs.length - 1 - (k + 1) = j := by have := HMX.out; omega
            rw [hjx] at hvy
            have hjm : j < m := by omega
            have hbd := impT_bd (xs := xs) (k := k) (m := q.nds - p.nds) (by have := HMX.out; omega) (by omega) hok
            have hby := impT_take hy
            have hys : size y ≤ q.nds := by
              have h1 : y ∈ xs := List.mem_of_getElem? hy
              have h2 := size_le_sum h1
              omega
            have hoy := hok y (List.mem_of_getElem? hy)
            have JM := fun w hS => joinM 9 (by unfold i64; omega) y (impT (xs.take (k + 1))) hoy.ops hbd.2.ops (by have := hq.2.1; omega) (by have := hq.2.1; have := hbd.1; omega) vy _ H2 (hiy.ext hx2) hiT w0 w (blk B 82 (alV text q) :: own 70 1 ad m cap vs :: R) hS
            have HK2 := hid hk2
            have HBY := hid hby
            clear hk2 hby hjx hy
            go_wp2_with (first | ((with_reducible apply arm_indexAddr); exact wanted_none; exact ev_tmp rfl; exact ev_tmp rfl; exact E130; (omega); (omega); (exact hS.ownNN (by (repeat (with_reducible first | exact mem_hd | apply mem_tl))) (by omega)); (simp only [Int.toNat_natCast, Nat.mul_one, Nat.zero_add, tn_sub, tn_sub1, tn_sub2, tn_sub3, tn_add, tn_add1, tn_add2]; rfl); (try simp only [Act.put, q1, q2, q3])) | ((with_reducible apply arm_loadE); exact wanted_none; exact ev_tmp rfl; (exact (hS.ownCell (by (repeat (with_reducible first | exact mem_hd | apply mem_tl))) (by (assumption))).1); decide +kernel; (try simp only [Act.put, q1, q2, q3])) | (go_at_call 71; refine (JM _ (by unfold alV psV; exact hS.sb (by (repeat (first | with_reducible exact Sb.refl | (with_reducible refine Sb.take (by (repeat (with_reducible first | exact Rem.hd | apply Rem.tl)); done) ?_)))))).mono ?_; clear hS JM; rintro e w ⟨z, rfl, H4, hx4, hi4, hS⟩))
            go_roundw
            case rel =>
              refine ⟨k + 1, H4, by have := HK2.out; omega, hx2.trans hx4, by rw [HBY.out]; exact hi4, ?_, hS.sb (by (repeat (first | with_reducible exact Sb.refl | (with_reducible refine Sb.take (by (repeat (with_reducible first | exact Rem.hd | apply Rem.tl)); done) ?_))))⟩
              have := HK2.out
              rcases j with _ | j
              · exact .inl ⟨by omega, rfl⟩
              · exact .inr ⟨j, by omega, congrArg (Value.int .i64) (by omega)⟩
            case measure => (simp [intOf]) <;> omega
end Go.Proofs.YthackanffcaejaaGreatDoor
end
section
set_option linter.unusedSimpArgs false
set_option linter.unusedVariables false
set_option maxRecDepth 20000
namespace Go.Proofs.YthackanffcaejaaGreatDoor
open Go Go.RowKit Go.SL Go.ClauseP Go.LexP

def aftN (w0 w : World) (R : List HP) (B : Nat) (text : List UInt8) (lo hi : Nat) : Rp → Prop
  | .inl x => x.1 ≠ 0 ∧ ∃ k n tat te fin o nd : Int, lo ≤ o ∧ o ≤ 65 ∧ 0 ≤ nd ∧ nd ≤ hi ∧ Sat w0 w (blk B 82 (psV text k n tat te fin o nd x.1 x.2) :: R)
  | .inr q => PsB text q ∧ q.opn = lo ∧ Sat w0 w (blk B 82 (alV text q) :: R)
theorem aftN.dead {w0 w : World} {R : List HP} {B : Nat} {text : List UInt8} {lo : Nat} {x : Int × Nat} (h : aftN w0 w R B text lo 65537 (.inl x)) : Dead w0 w R B text lo x := h
theorem aftN.wide {w0 w : World} {R : List HP} {B : Nat} {text : List UInt8} {lo : Nat} {r : Rp} (h : aftN w0 w R B text lo 65536 r) : aftN w0 w R B text lo 65537 r := by
  cases r with
  | inl x => obtain ⟨h0, k, n, tat, te, fin, o, nd, h1, h2, h3, h4, h5⟩ := h; exact ⟨h0, k, n, tat, te, fin, o, nd, h1, h2, h3, by omega, h5⟩
  | inr q => exact h
theorem aftN.sb {w0 w : World} {R R' : List HP} {B : Nat} {text : List UInt8} {lo hi : Nat} {r : Rp} (h : aftN w0 w R B text lo hi r) (s : ∀ A, Sb (A :: R) (A :: R')) : aftN w0 w R' B text lo hi r := by
  cases r with
  | inl x => obtain ⟨h0, k, n, tat, te, fin, o, nd, h1, h2, h3, h4, h5⟩ := h; exact ⟨h0, k, n, tat, te, fin, o, nd, h1, h2, h3, h4, h5.sb (s _)⟩
  | inr q => exact ⟨h.1, h.2.1, h.2.2.sb (s _)⟩
theorem aftN.of_aft {w0 w : World} {R : List HP} {B : Nat} {text : List UInt8} {lo : Nat} {r : Rp} (h : aft w0 w R B text lo r) (ho : ∀ q, r = .inr q → q.opn = lo) : aftN w0 w R B text lo 65537 r := by
  cases r with
  | inl x => exact h
  | inr q => exact ⟨h.1, ho q rfl, h.2⟩
def cellF (text : List UInt8) (k n tat te fin o nd d a : Int) : Rp → Prop
  | .inl x => x = (d, a.toNat) ∧ (x.2 : Int) = a ∧ d ≠ 0
  | .inr q => alV text q = psV text k n tat te fin o nd d a ∧ d = 0
theorem aftN.cells {w0 w : World} {R : List HP} {B : Nat} {text : List UInt8} {lo : Nat} {r : Rp} (h : aftN w0 w R B text lo 65537 r) :
    ∃ k n tat te fin o nd d a : Int, lo ≤ o ∧ o ≤ 65 ∧ 0 ≤ nd ∧ nd ≤ 65537 ∧ cellF text k n tat te fin o nd d a r ∧ (∀ q, r = .inr q → PsB text q ∧ q.opn = lo) ∧ Sat w0 w (blk B 82 [.string ⟨text.toArray⟩, .int .i64 k, .int .i64 n, .int .i64 tat, .int .i64 te, .int .i64 fin, .int .i64 o, .int .i64 nd, .int .i64 d, .int .i64 a] :: R) := by
  rcases r with ⟨d, a⟩ | q
  · obtain ⟨h0, k, n, tat, te, fin, o, nd, h1, h2, h3, h4, h5⟩ := h
    exact ⟨k, n, tat, te, fin, o, nd, d, a, h1, h2, h3, by omega, ⟨by simp, rfl, h0⟩, fun q e => (nomatch e), h5⟩
  · obtain ⟨h1, h2, h3⟩ := h
    have := h1.1; have := h1.2.1
    exact ⟨_, _, _, _, _, q.opn, q.nds, _, _, by omega, by omega, by omega, by omega, ⟨rfl, rfl⟩, fun q' e => (by injection e with e; subst e; exact ⟨h1, h2⟩), h3⟩
theorem opensX (B : Nat) (text : List UInt8) (p : Ps) (hp : PsB text p) (w0 w : World) (R : List HP) (hS : Sat w0 w (blk B 82 (alV text p) :: R)) :
    Calls Tryz.prog 166 #[.pointer (some ⟨B, 0, none⟩)] w fun e w' => e = .returned (.tuple #[]) ∧ aftN w0 w' R B text (p.opn + 1) 65536 (opensP p) := by
  obtain ⟨h1, h2, h3⟩ := hp
  unfold alV at hS
  unfold opensP
  by_cases ho : p.opn = 64
  · rw [if_pos ho]
    have FA := fun w R => failA B text (tokE p.tk).1 (tokE p.tk).2.1 p.at_ 0 p.fin 64 p.nds 0 132 w0 w R
    rw [ho] at hS
    have HO := hid ho
    clear ho
    unfold psV at hS FA
    generalize (tokE p.tk).1 = k at *
    generalize (tokE p.tk).2.1 = n at *
    go_enter Tryz.func166, Tryz.ntmps166
    go_wp2_with (first | ((with_reducible apply arm_load hS); exact wanted_none; exact ev_tmp rfl; (repeat (with_reducible exact mem_hd)); rfl; decide +kernel; (try simp only [Act.put, q1, q2, q3])) | ((with_reducible apply arm_store hS); exact wanted_none; exact ev_tmp rfl; exact ev_tmp rfl; (repeat (with_reducible exact mem_hd)); rfl; (focus (simp; done)); (repeat (with_reducible exact Upd.hd)); rfl; decide +kernel; clear hS; intro w hS; (try simp only [q2, q3] at hS); (try simp only [Act.put, q1, q2, q3])) | (go_at_call 80; refine (FA _ _ hS).mono ?_; clear hS; rintro e w ⟨rfl, hS⟩))
    go_end0
    exact ⟨rfl, by show (132 : Int) ≠ 0; decide, _, _, _, _, _, (65 : Int), (p.nds : Int), by have := HO.out; omega, by omega, by omega, by omega, hS⟩
  · rw [if_neg ho]
    have ho2 : ((p.opn : Int) == 64) = false := by simp; omega
    unfold psV at hS
    go_enter Tryz.func166, Tryz.ntmps166
    go_wp2_with (first | ((with_reducible apply arm_load hS); exact wanted_none; exact ev_tmp rfl; (repeat (with_reducible exact mem_hd)); rfl; decide +kernel; (try simp only [Act.put, q1, q2, q3])) | ((with_reducible apply arm_store hS); exact wanted_none; exact ev_tmp rfl; exact ev_tmp rfl; (repeat (with_reducible exact mem_hd)); rfl; (focus (simp; done)); (repeat (with_reducible exact Upd.hd)); rfl; decide +kernel; clear hS; intro w hS; (try simp only [q2, q3] at hS); (try simp only [Act.put, q1, q2, q3])))
    go_end0
    exact ⟨rfl, ⟨by dsimp only; omega, h2, h3⟩, rfl, hS⟩
theorem makesX (B : Nat) (text : List UInt8) (lo : Nat) (r : Rp) (w0 w : World) (R : List HP) (h : aftN w0 w R B text lo 65536 r) :
    Calls Tryz.prog 114 #[.pointer (some ⟨B, 0, none⟩)] w fun e w' => e = .returned (.tuple #[]) ∧ aftN w0 w' R B text lo 65537 (thenP r makesP) := by
  rcases r with x | q
  · obtain ⟨h0, k, n, tat, te, fin, o, nd, h1, h2, h3, h4, hS⟩ := h
    refine (makesD B text k n tat te fin o nd x.1 x.2 h0 h3 h4 w0 w R hS).mono ?_
    rintro e w' ⟨rfl, hS⟩
    exact ⟨rfl, h0, k, n, tat, te, fin, o, nd + 1, h1, h2, by omega, by omega, hS⟩
  · obtain ⟨h1, h2, hS⟩ := h
    refine (makesC B text q h1 w0 w R hS).mono ?_
    rintro e w' ⟨rfl, ha⟩
    refine ⟨rfl, ?_⟩
    rw [h2] at ha
    refine aftN.of_aft ha fun q' hq => ?_
    unfold thenP makesP at hq
    dsimp only at hq
    split at hq
    · cases hq
    · injection hq with hq; subst hq; exact h2
theorem advX (B : Nat) (text : List UInt8) (hl : text.length ≤ 1048576) (lo : Nat) (r : Rp) (w0 w : World) (hSig : SigE w0) (R : List HP) (hbm : base w0 ∈ R) (h : aftN w0 w R B text lo 65537 r) :
    Calls Tryz.prog 37 #[.pointer (some ⟨B, 0, none⟩)] w fun e w' => e = .returned (.tuple #[]) ∧ aftN w0 w' R B text lo 65537 (thenP r (advP text)) := by
  rcases r with x | q
  · exact advD_aft B text lo x w0 w R h
  · obtain ⟨h1, h2, hS⟩ := h
    refine (advC B text hl q h1 w0 w hSig R hbm hS).mono ?_
    rintro e w' ⟨rfl, ha⟩
    refine ⟨rfl, ?_⟩
    rw [h2] at ha
    refine aftN.of_aft ha fun q' hq => ?_
    have := advP_inr hq
    subst this
    exact h2
theorem needX (B : Nat) (text : List UInt8) (hl : text.length ≤ 1048576) (c : Int) (lo : Nat) (r : Rp) (w0 w : World) (hSig : SigE w0) (R : List HP) (hbm : base w0 ∈ R) (h : aftN w0 w R B text lo 65537 r) :
    Calls Tryz.prog 39 #[.pointer (some ⟨B, 0, none⟩), .int .i64 c] w fun e w' => e = .returned (.tuple #[]) ∧ aftN w0 w' R B text lo 65537 (thenP r (needP text c)) := by
  rcases r with x | q
  · obtain ⟨h0, k, n, tat, te, fin, o, nd, h1, h2, h3, h4, hS⟩ := h
    refine (needD B text k n tat te fin o nd x.1 x.2 c h0 w0 w R hS).mono ?_
    rintro e w' ⟨rfl, hS⟩
    exact ⟨rfl, h0, k, n, tat, te, fin, o, nd, h1, h2, h3, h4, hS⟩
  · obtain ⟨h1, h2, hS⟩ := h
    refine (needC B text hl q h1 w0 w hSig R hbm hS c).mono ?_
    rintro e w' ⟨rfl, ha⟩
    refine ⟨rfl, ?_⟩
    rw [h2] at ha
    refine aftN.of_aft ha fun q' hq => ?_
    unfold thenP needP at hq
    dsimp only at hq
    split at hq
    · have := advP_inr hq
      subst this
      exact h2
    · cases hq
def rpR : Rt → Rp
  | .inl x => .inl x
  | .inr (_, q) => .inr q
def thenR (text : List UInt8) (tsk : Tsk) : Rp → Rt → Prop
  | .inl x, r => r = .inl x
  | .inr q, r => RD text tsk q r
def treeF (text : List UInt8) (H : Hp) (v : Value) (r : Rp) (r' : Rt) : Prop := ∀ t q, r' = .inr (t, q) → okT t ∧ InT H t v ∧ q.fin ≤ text.length ∧ ∀ q0, r = .inr q0 → meas text q ≤ meas text q0 ∧ q0.nds + size t ≤ q.nds
theorem treeF.ext {text : List UInt8} {H H' : Hp} {v : Value} {r : Rp} {r' : Rt} (h : treeF text H v r r') (hx : Ext H H') : treeF text H' v r r' := fun t q e => ⟨(h t q e).1, (h t q e).2.1.ext hx, (h t q e).2.2⟩
theorem lvX (text : List UInt8) (f b n : Nat) (hA : LvA text f b n) (hD : LvD text f) (B : Nat) (lo : Nat) (r : Rp) (w0 w : World) (hSig : SigE w0) (R : List HP) (H : Hp) (hbm : base w0 ∈ R) (hm : ∀ q, r = .inr q → meas text q ≤ n) (h : aftN w0 w (fz H :: R) B text lo 65537 r) :
    Calls Tryz.prog f #[.pointer (some ⟨B, 0, none⟩)] w fun e w' => ∃ v, e = .returned v ∧ ∃ r' H', thenR text (.lvl b) r r' ∧ Ext H H' ∧ IfV v ∧ treeF text H' v r r' ∧ aftN w0 w' (fz H' :: R) B text lo 65537 (rpR r') := by
  rcases r with x | q
  · refine (lvD_aft text f hD B lo x w0 w _ h).mono ?_
    rintro e w' ⟨rfl, h⟩
    exact ⟨_, rfl, .inl x, H, rfl, Ext.refl _, .inl rfl, fun t q e => (nomatch e), h⟩
  · obtain ⟨h1, h2, hS⟩ := h
    refine (hA B q w0 w R H h1 (hm q rfl) hSig hbm hS).mono ?_
    rintro e w' ⟨v, rfl, r', hrd, hok⟩
    rcases r' with x | ⟨t, q'⟩
    · obtain ⟨hv, H', hx, hd⟩ := hok
      rw [h2] at hd
      exact ⟨v, rfl, .inl x, H', hrd, hx, hv, fun t q e => (nomatch e), hd⟩
    · obtain ⟨c1, c2, c3, c4, c5, H', c6, c7, c8⟩ := hok
      refine ⟨v, rfl, .inr (t, q'), H', hrd, c6, .inr c7.form, fun t2 q2 e => ?_, c1, c2.trans h2, c8⟩
      injection e with e
      injection e with e1 e2
      subst e1; subst e2
      refine ⟨c5, c7, c1.2.2.1, fun q0 e => ?_⟩
      injection e with e
      subst e
      exact ⟨c3, c4⟩
theorem unaryD (text : List UInt8) : LvD text 162 := by
  intro B k n tat te fin o nd d a w0 w R hd hS
  unfold psV at hS
  have hd2 : (d == 0) = false := by simp [hd]
  have hd3 : (d != 0) = true := by simp [hd]
  go_enter Tryz.func162, Tryz.ntmps162
  go_wp2_with ((with_reducible apply arm_load hS); exact wanted_none; exact ev_tmp rfl; (repeat (with_reducible exact mem_hd)); rfl; decide +kernel; (try simp only [Act.put, q1, q2, q3]))
  go_ret
  exact ⟨rfl, hS⟩
theorem formulaDD (text : List UInt8) : LvD text 38 := formulaD text (impD text (orD text (xorD text (andD text (unaryD text)))))
theorem formulaAA (text : List UInt8) (hl : text.length ≤ 1048576) (n : Nat) (hA : LvA text 162 6 n) : LvA text 38 1 n := by
  have u := unaryD text
  have a := andA text hl n hA u
  have x := xorA text hl n a (andD text u)
  have o := orA text hl n x (xorD text (andD text u))
  have i := impA text hl n o (orD text (xorD text (andD text u)))
  exact formulaA text hl n i (impD text (orD text (xorD text (andD text u))))
end Go.Proofs.YthackanffcaejaaGreatDoor
end
