/- Package formula: a tree is written. -/
import Derived.Test.YthackanffcaejaaDoorForm5
import Derived.Test.YthackanffcaejaaDoorFormP
import Derived.Test.YthackanffcaejaaDoorBld2
set_option linter.unusedSimpArgs false
set_option linter.unusedVariables false
set_option linter.unusedSectionVars false
set_option maxRecDepth 20000
namespace Go.Proofs.YthackanffcaejaaDoor
open Go Go.RowKit Go.SL

theorem fzC {H : Hp} {b off : Nat} {v : Value} (hv : celH H b off = some v) {w0 w : World} {Hs : List HP} (hS : Sat w0 w Hs) (hm : fz H ∈ Hs) : w.cell? ⟨b, off, none⟩ = some v := hS.fzCell hm hv
/-! ### A value is one tree -/
theorem At.inj {H : Hp} {v : Value} {K K' S S' : TypeId} {cs cs' : List Value} (h : At H v K S cs) (h' : At H v K' S' cs') : K = K' ∧ S = S' ∧ cs = cs' := by
  obtain ⟨b, rfl, h1⟩ := h
  obtain ⟨b', e, h2⟩ := h'
  simp only [Value.iface.injEq, Value.pointer.injEq, Option.some.injEq, Addr.mk.injEq] at e
  obtain ⟨rfl, rfl, _⟩ := e
  rw [h1] at h2
  simp at h2
  exact ⟨rfl, h2.2, h2.1⟩
theorem InT.inj {H : Hp} : ∀ {u u' : T} {v : Value}, InT H u v → InT H u' v → u = u'
  | .cst n, u', v, h, h' => by
    cases u' with
    | cst m => have := (At.inj h h').2.2; simp at this; rw [this]
    | var m => exact absurd (At.inj h h').1 (by decide)
    | neg a => obtain ⟨_, _, h'⟩ := h'; exact absurd (At.inj h h').1 (by decide)
    | qu o m a => obtain ⟨_, _, h'⟩ := h'; exact absurd (At.inj h h').1 (by decide)
    | bin o a b => obtain ⟨_, _, _, _, h'⟩ := h'; exact absurd (At.inj h h').1 (by decide)
    | ite c a b => obtain ⟨_, _, _, _, _, _, h'⟩ := h'; exact absurd (At.inj h h').1 (by decide)
  | .var n, u', v, h, h' => by
    cases u' with
    | cst m => exact absurd (At.inj h h').1 (by decide)
    | var m => have := (At.inj h h').2.2; simp at this; rw [this]
    | neg a => obtain ⟨_, _, h'⟩ := h'; exact absurd (At.inj h h').1 (by decide)
    | qu o m a => obtain ⟨_, _, h'⟩ := h'; exact absurd (At.inj h h').1 (by decide)
    | bin o a b => obtain ⟨_, _, _, _, h'⟩ := h'; exact absurd (At.inj h h').1 (by decide)
    | ite c a b => obtain ⟨_, _, _, _, _, _, h'⟩ := h'; exact absurd (At.inj h h').1 (by decide)
  | .neg a, u', v, ⟨va, k, h⟩, h' => by
    cases u' with
    | cst m => exact absurd (At.inj h h').1 (by decide)
    | var m => exact absurd (At.inj h h').1 (by decide)
    | neg a' => obtain ⟨_, k', h'⟩ := h'; have := (At.inj h h').2.2; simp at this; obtain ⟨_, _, rfl⟩ := this; rw [InT.inj k k']
    | qu o m a => obtain ⟨_, _, h'⟩ := h'; exact absurd (At.inj h h').1 (by decide)
    | bin o a b => obtain ⟨_, _, _, _, h'⟩ := h'; exact absurd (At.inj h h').1 (by decide)
    | ite c a b => obtain ⟨_, _, _, _, _, _, h'⟩ := h'; exact absurd (At.inj h h').1 (by decide)
  | .qu o m a, u', v, ⟨va, k, h⟩, h' => by
    cases u' with
    | cst m => exact absurd (At.inj h h').1 (by decide)
    | var m => exact absurd (At.inj h h').1 (by decide)
    | neg a' => obtain ⟨_, _, h'⟩ := h'; exact absurd (At.inj h h').1 (by decide)
    | qu o' m' a' => obtain ⟨_, k', h'⟩ := h'; have := (At.inj h h').2.2; simp at this; obtain ⟨_, _, rfl, rfl, rfl⟩ := this; rw [InT.inj k k']
    | bin o a b => obtain ⟨_, _, _, _, h'⟩ := h'; exact absurd (At.inj h h').1 (by decide)
    | ite c a b => obtain ⟨_, _, _, _, _, _, h'⟩ := h'; exact absurd (At.inj h h').1 (by decide)
  | .bin o a b, u', v, ⟨va, vb, k1, k2, h⟩, h' => by
    cases u' with
    | cst m => exact absurd (At.inj h h').1 (by decide)
    | var m => exact absurd (At.inj h h').1 (by decide)
    | neg a' => obtain ⟨_, _, h'⟩ := h'; exact absurd (At.inj h h').1 (by decide)
    | qu o m a => obtain ⟨_, _, h'⟩ := h'; exact absurd (At.inj h h').1 (by decide)
    | bin o' a' b' => obtain ⟨_, _, k1', k2', h'⟩ := h'; have := (At.inj h h').2.2; simp at this; obtain ⟨_, _, rfl, rfl, rfl⟩ := this; rw [InT.inj k1 k1', InT.inj k2 k2']
    | ite c a b => obtain ⟨_, _, _, _, _, _, h'⟩ := h'; exact absurd (At.inj h h').1 (by decide)
  | .ite c a b, u', v, ⟨vc, va, vb, k0, k1, k2, h⟩, h' => by
    cases u' with
    | cst m => exact absurd (At.inj h h').1 (by decide)
    | var m => exact absurd (At.inj h h').1 (by decide)
    | neg a' => obtain ⟨_, _, h'⟩ := h'; exact absurd (At.inj h h').1 (by decide)
    | qu o m a => obtain ⟨_, _, h'⟩ := h'; exact absurd (At.inj h h').1 (by decide)
    | bin o' a' b' => obtain ⟨_, _, _, _, h'⟩ := h'; exact absurd (At.inj h h').1 (by decide)
    | ite c' a' b' => obtain ⟨_, _, _, k0', k1', k2', h'⟩ := h'; have := (At.inj h h').2.2; simp at this; obtain ⟨_, _, rfl, rfl, rfl⟩ := this; rw [InT.inj k0 k0', InT.inj k1 k1', InT.inj k2 k2']
open Classical in
noncomputable def szOf (H : Hp) (v : Value) : Nat := if h : ∃ u, InT H u v then size (Classical.choose h) else 0
theorem szOf_eq {H : Hp} {v : Value} {u : T} (h : InT H u v) : szOf H v = size u := by
  have hx : ∃ u, InT H u v := ⟨u, h⟩
  unfold szOf
  rw [dif_pos hx, InT.inj (Classical.choose_spec hx) h]
/-- What is no quantifier. -/
theorem InT.notQu {H : Hp} {u : T} {v : Value} (h : InT H u v) (hq : ∀ o m a, u ≠ .qu o m a) : ∃ K b, v = .iface K (.pointer (some ⟨b, 0, none⟩)) ∧ K ≠ 142 := by
  cases u with
  | cst n => obtain ⟨b, rfl, _⟩ := h; exact ⟨_, _, rfl, by decide⟩
  | var n => obtain ⟨b, rfl, _⟩ := h; exact ⟨_, _, rfl, by decide⟩
  | neg a => obtain ⟨_, _, b, rfl, _⟩ := h; exact ⟨_, _, rfl, by decide⟩
  | qu o m a => exact absurd rfl (hq o m a)
  | bin o a b => obtain ⟨_, _, _, _, b, rfl, _⟩ := h; exact ⟨_, _, rfl, by decide⟩
  | ite c a b => obtain ⟨_, _, _, _, _, _, b, rfl, _⟩ := h; exact ⟨_, _, rfl, by decide⟩

theorem spelled (op : Int) (h1 : 4 ≤ op) (h2 : op ≤ 10) (w0 w : World) (Hs : List HP) (hS : Sat w0 w Hs) :
    Calls Tryd.prog 78 #[.int .i64 op] w fun e w' => e = .returned (.string ⟨(spellP op).toArray⟩) ∧ Sat w0 w' Hs := by
  have h3 : op = 4 ∨ op = 5 ∨ op = 6 ∨ op = 7 ∨ op = 8 ∨ op = 9 ∨ op = 10 := by omega
  rcases h3 with rfl | rfl | rfl | rfl | rfl | rfl | rfl
  all_goals
    go_enter Tryd.func78, Tryd.ntmps78
    go_wp2
    go_ret
    exact ⟨rfl, hS⟩

/-- What write does at the tree t. -/
def WC (t : T) : Prop := ∀ (b : Nat) (l : List UInt8) (v : Value) (H : Hp) (last : Bool) (w0 w : World) (R : List HP), InT H t v → Sat w0 w (bld b l :: R) → fz H ∈ R → base w0 ∈ R → Tab w0 → l.length + 50 * size t ≤ 1000000000 →
  Calls Tryd.prog 42 #[.pointer (some ⟨b, 0, none⟩), v, .bool last] w fun e w' => e = .returned (.tuple #[]) ∧ Sat w0 w' (bld b (l ++ wr t last) :: R)

set_option maxHeartbeats 2000000 in
theorem operandM (op side : Int) (hop : i64 op) (t : T) (ht : okT t) (hsz : size t ≤ 1000000) (hW : WC t) (b : Nat) (l : List UInt8) (v : Value) (H : Hp) (last : Bool) (w0 w : World) (R : List HP) (hT : InT H t v) (hS : Sat w0 w (bld b l :: R)) (hf : fz H ∈ R) (hb : base w0 ∈ R) (htb : Tab w0) (hl : l.length + 50 * size t + 20 ≤ 1000000000) :
    Calls Tryd.prog 77 #[.pointer (some ⟨b, 0, none⟩), .int .i64 op, .int .i64 side, v, .bool last] w fun e w' => e = .returned (.tuple #[]) ∧ Sat w0 w' (bld b (l ++ opd op side t last) :: R) := by
  have BR := bracketed op side hop t ht.ops last v H hT
  have hx : (opd op side t last) = if brkP op side t last then [40] ++ wr t true ++ [41] else wr t last := rfl
  obtain ⟨h1, h2, h3⟩ := wr_le t ht hsz
  obtain ⟨X, hX⟩ : ∃ X, X = opd op side t last := ⟨_, rfl⟩
  rw [← hX] at hx ⊢
  clear hX
  cases hb0 : brkP op side t last with
  | false =>
    rw [hb0] at BR hx
    have HX := hid (show X = wr t last from hx)
    have W1 := hW b l v H last
    clear hx hb0
    obtain ⟨K, bv, rfl⟩ := hT.form
    go_enter Tryd.func77, Tryd.ntmps77
    go_wp2_with (first | (go_at_call 102; refine (BR _ _ _ hS (.tail _ hf)).mono ?_; clear hS BR; rintro e w ⟨rfl, hS⟩) | (go_at_call 42; refine (W1 _ _ R hT hS hf hb htb (by omega)).mono ?_; clear hS W1; rintro e w ⟨rfl, hS⟩))
    refine bodyPost_ret (results_none rfl _ _ _) rfl ?_
    exact ⟨rfl, by rw [HX.out]; exact hS⟩
  | true =>
    rw [hb0] at BR hx
    have HX := hid (show X = [40] ++ wr t true ++ [41] from hx)
    have W1 := hW b (l ++ [40]) v H true
    clear hx hb0
    obtain ⟨K, bv, rfl⟩ := hT.form
    have h40 : Value.int .u8 40 = .int .u8 (40 : UInt8).toNat := rfl
    go_enter Tryd.func77, Tryd.ntmps77
    go_wp2_with (first | (go_at_call 102; refine (BR _ _ _ hS (.tail _ hf)).mono ?_; clear hS BR; rintro e w ⟨rfl, hS⟩) | (go_at_call 42; refine (W1 _ _ R hT hS hf hb htb (by simp; omega)).mono ?_; clear hS W1; rintro e w ⟨rfl, hS⟩) | (go_at_call 76; (first | with_reducible refine (bldByteL b _ 40 40 rfl _ _ _ hS (by simp; omega)).mono ?_ | with_reducible refine (bldByteL b _ 41 41 rfl _ _ _ hS (by simp; omega)).mono ?_); clear hS; rintro e w ⟨rfl, hS⟩))
    go_end0
    exact ⟨rfl, by rw [HX.out]; simpa using hS⟩

set_option maxHeartbeats 2000000 in
theorem writeLeaf (t : T) (ht : okT t) (hsz : size t ≤ 1000000) (hq : (∃ n, t = .cst n) ∨ (∃ n, t = .var n) ∨ (∃ a, t = .neg a ∧ WC a)) : WC t := by
  intro b l v H last w0 w R hT hS hf hb htb hl
  rcases hq with ⟨n, rfl⟩ | ⟨n, rfl⟩ | ⟨a, rfl, ih⟩
  · have HX0 := wr_cst n last
    obtain ⟨X, hX⟩ : ∃ X, X = wr (.cst n) last := ⟨_, rfl⟩
    rw [← hX] at HX0 ⊢
    clear hX
    obtain ⟨bv, rfl, hbv⟩ := hT
    have c2 : celH H bv 2 = some (.int .i64 n) := by simp [celH, hbv]
    simp only [size] at hl
    rcases ht with rfl | rfl
    · have HX := hid (show X = [102, 97, 108, 115, 101] from HX0)
      clear HX0 hbv hsz
      go_enter Tryd.func42, Tryd.ntmps42
      go_wp2_with (first | ((with_reducible apply arm_assertY); (first | with_reducible exact wanted_none | exact wanted_guard rfl rfl); (first | exact ev_tmp rfl | exact ev_const); (first | with_reducible exact Tryd.underlying15 | with_reducible exact Tryd.underlying16 | with_reducible exact Tryd.underlying17 | with_reducible exact Tryd.underlying46 | with_reducible exact Tryd.underlying67 | with_reducible exact Tryd.underlying82 | with_reducible exact Tryd.underlying87 | with_reducible exact Tryd.underlying95 | with_reducible exact Tryd.underlying108 | with_reducible exact Tryd.underlying123 | with_reducible exact Tryd.underlying128 | with_reducible exact Tryd.underlying137 | with_reducible exact Tryd.underlying142 | with_reducible exact Tryd.underlying146 | with_reducible exact Tryd.underlying149); (try simp only [Act.put, List.setIfInBounds_toArray, List.set_cons_zero, List.set_cons_succ])) | ((with_reducible apply arm_assertN); (first | with_reducible exact wanted_none | exact wanted_guard rfl rfl); (first | exact ev_tmp rfl | exact ev_const); (first | assumption | decide); (first | with_reducible exact Tryd.underlying15 | with_reducible exact Tryd.underlying16 | with_reducible exact Tryd.underlying17 | with_reducible exact Tryd.underlying46 | with_reducible exact Tryd.underlying67 | with_reducible exact Tryd.underlying82 | with_reducible exact Tryd.underlying87 | with_reducible exact Tryd.underlying95 | with_reducible exact Tryd.underlying108 | with_reducible exact Tryd.underlying123 | with_reducible exact Tryd.underlying128 | with_reducible exact Tryd.underlying137 | with_reducible exact Tryd.underlying142 | with_reducible exact Tryd.underlying146 | with_reducible exact Tryd.underlying149); kernel_rfl; (try simp only [Act.put, List.setIfInBounds_toArray, List.set_cons_zero, List.set_cons_succ])) | ((with_reducible apply (arm_loadF hS)); (first | with_reducible exact wanted_none | exact wanted_guard rfl rfl); (first | exact ev_tmp rfl | exact ev_const); assumption; (((repeat (first | with_reducible exact mem_hd | with_reducible apply mem_tl))); (try assumption)); decide +kernel; (try simp only [Act.put, List.setIfInBounds_toArray, List.set_cons_zero, List.set_cons_succ])) | (go_at_call 75; refine (formatBool false _ _ _ hS).mono ?_; clear hS; rintro e w ⟨rfl, hS⟩) | (go_at_call 26; refine (bldWriteL b _ _ _ _ _ hS (by simp; omega)).mono ?_; clear hS; rintro e w ⟨rfl, hS⟩))
      go_end0
      exact ⟨rfl, by rw [HX.out]; simpa using hS⟩
    · have HX := hid (show X = [116, 114, 117, 101] from HX0)
      clear HX0 hbv hsz
      go_enter Tryd.func42, Tryd.ntmps42
      go_wp2_with (first | ((with_reducible apply arm_assertY); (first | with_reducible exact wanted_none | exact wanted_guard rfl rfl); (first | exact ev_tmp rfl | exact ev_const); (first | with_reducible exact Tryd.underlying15 | with_reducible exact Tryd.underlying16 | with_reducible exact Tryd.underlying17 | with_reducible exact Tryd.underlying46 | with_reducible exact Tryd.underlying67 | with_reducible exact Tryd.underlying82 | with_reducible exact Tryd.underlying87 | with_reducible exact Tryd.underlying95 | with_reducible exact Tryd.underlying108 | with_reducible exact Tryd.underlying123 | with_reducible exact Tryd.underlying128 | with_reducible exact Tryd.underlying137 | with_reducible exact Tryd.underlying142 | with_reducible exact Tryd.underlying146 | with_reducible exact Tryd.underlying149); (try simp only [Act.put, List.setIfInBounds_toArray, List.set_cons_zero, List.set_cons_succ])) | ((with_reducible apply arm_assertN); (first | with_reducible exact wanted_none | exact wanted_guard rfl rfl); (first | exact ev_tmp rfl | exact ev_const); (first | assumption | decide); (first | with_reducible exact Tryd.underlying15 | with_reducible exact Tryd.underlying16 | with_reducible exact Tryd.underlying17 | with_reducible exact Tryd.underlying46 | with_reducible exact Tryd.underlying67 | with_reducible exact Tryd.underlying82 | with_reducible exact Tryd.underlying87 | with_reducible exact Tryd.underlying95 | with_reducible exact Tryd.underlying108 | with_reducible exact Tryd.underlying123 | with_reducible exact Tryd.underlying128 | with_reducible exact Tryd.underlying137 | with_reducible exact Tryd.underlying142 | with_reducible exact Tryd.underlying146 | with_reducible exact Tryd.underlying149); kernel_rfl; (try simp only [Act.put, List.setIfInBounds_toArray, List.set_cons_zero, List.set_cons_succ])) | ((with_reducible apply (arm_loadF hS)); (first | with_reducible exact wanted_none | exact wanted_guard rfl rfl); (first | exact ev_tmp rfl | exact ev_const); assumption; (((repeat (first | with_reducible exact mem_hd | with_reducible apply mem_tl))); (try assumption)); decide +kernel; (try simp only [Act.put, List.setIfInBounds_toArray, List.set_cons_zero, List.set_cons_succ])) | (go_at_call 75; refine (formatBool true _ _ _ hS).mono ?_; clear hS; rintro e w ⟨rfl, hS⟩) | (go_at_call 26; refine (bldWriteL b _ _ _ _ _ hS (by simp; omega)).mono ?_; clear hS; rintro e w ⟨rfl, hS⟩))
      go_end0
      exact ⟨rfl, by rw [HX.out]; simpa using hS⟩
  · have HX := hid (wr_var n last)
    obtain ⟨X, hX⟩ : ∃ X, X = wr (.var n) last := ⟨_, rfl⟩
    rw [← hX] at HX ⊢
    clear hX
    obtain ⟨bv, rfl, hbv⟩ := hT
    have c2 : celH H bv 2 = some (.int .i64 n) := by simp [celH, hbv]
    simp only [size] at hl
    have h1 := ht.1
    have h2 := ht.2
    have hil := Lib.itoa_length_le n (by omega) (by omega)
    clear hbv hsz ht
    go_enter Tryd.func42, Tryd.ntmps42
    go_wp2_with (first | ((with_reducible apply arm_assertY); (first | with_reducible exact wanted_none | exact wanted_guard rfl rfl); (first | exact ev_tmp rfl | exact ev_const); (first | with_reducible exact Tryd.underlying15 | with_reducible exact Tryd.underlying16 | with_reducible exact Tryd.underlying17 | with_reducible exact Tryd.underlying46 | with_reducible exact Tryd.underlying67 | with_reducible exact Tryd.underlying82 | with_reducible exact Tryd.underlying87 | with_reducible exact Tryd.underlying95 | with_reducible exact Tryd.underlying108 | with_reducible exact Tryd.underlying123 | with_reducible exact Tryd.underlying128 | with_reducible exact Tryd.underlying137 | with_reducible exact Tryd.underlying142 | with_reducible exact Tryd.underlying146 | with_reducible exact Tryd.underlying149); (try simp only [Act.put, List.setIfInBounds_toArray, List.set_cons_zero, List.set_cons_succ])) | ((with_reducible apply arm_assertN); (first | with_reducible exact wanted_none | exact wanted_guard rfl rfl); (first | exact ev_tmp rfl | exact ev_const); (first | assumption | decide); (first | with_reducible exact Tryd.underlying15 | with_reducible exact Tryd.underlying16 | with_reducible exact Tryd.underlying17 | with_reducible exact Tryd.underlying46 | with_reducible exact Tryd.underlying67 | with_reducible exact Tryd.underlying82 | with_reducible exact Tryd.underlying87 | with_reducible exact Tryd.underlying95 | with_reducible exact Tryd.underlying108 | with_reducible exact Tryd.underlying123 | with_reducible exact Tryd.underlying128 | with_reducible exact Tryd.underlying137 | with_reducible exact Tryd.underlying142 | with_reducible exact Tryd.underlying146 | with_reducible exact Tryd.underlying149); kernel_rfl; (try simp only [Act.put, List.setIfInBounds_toArray, List.set_cons_zero, List.set_cons_succ])) | ((with_reducible apply (arm_loadF hS)); (first | with_reducible exact wanted_none | exact wanted_guard rfl rfl); (first | exact ev_tmp rfl | exact ev_const); assumption; (((repeat (first | with_reducible exact mem_hd | with_reducible apply mem_tl))); (try assumption)); decide +kernel; (try simp only [Act.put, List.setIfInBounds_toArray, List.set_cons_zero, List.set_cons_succ])) | ((with_reducible apply arm_addStr); (first | with_reducible exact wanted_none | exact wanted_guard rfl rfl); (first | exact ev_tmp rfl | exact ev_const); (first | exact ev_tmp rfl | exact ev_const); (first | omega | (simp only [List.length_append, List.length_cons, List.length_nil]; omega) | (simp; omega)); (try simp only [Act.put, List.setIfInBounds_toArray, List.set_cons_zero, List.set_cons_succ])) | (go_at_call 27; refine (itoaC _ (by omega) (by omega) _ _ _ hS (by ((repeat (first | with_reducible exact mem_hd | with_reducible apply mem_tl)); (try assumption))) htb).mono ?_; clear hS; rintro e w ⟨rfl, hS⟩) | (go_at_call 26; refine (bldWriteL b _ _ _ _ _ hS (by simp; omega)).mono ?_; clear hS; rintro e w ⟨rfl, hS⟩))
    go_end0
    exact ⟨rfl, by rw [HX.out]; simpa using hS⟩
  · have HX := hid (wr_neg a last)
    obtain ⟨X, hX⟩ : ∃ X, X = wr (.neg a) last := ⟨_, rfl⟩
    rw [← hX] at HX ⊢
    clear hX
    obtain ⟨va, hva, bv, rfl, hbv⟩ := hT
    have c2 : celH H bv 2 = some va := by simp [celH, hbv]
    simp only [size] at hl hsz
    have OM := operandM 3 0 (by unfold i64; omega) a ht (by omega) ih b (l ++ [33]) va H last
    obtain ⟨Ka, ba, rfl⟩ := hva.form
    clear hbv ht ih
    go_enter Tryd.func42, Tryd.ntmps42
    go_wp2_with (first | ((with_reducible apply arm_assertY); (first | with_reducible exact wanted_none | exact wanted_guard rfl rfl); (first | exact ev_tmp rfl | exact ev_const); (first | with_reducible exact Tryd.underlying15 | with_reducible exact Tryd.underlying16 | with_reducible exact Tryd.underlying17 | with_reducible exact Tryd.underlying46 | with_reducible exact Tryd.underlying67 | with_reducible exact Tryd.underlying82 | with_reducible exact Tryd.underlying87 | with_reducible exact Tryd.underlying95 | with_reducible exact Tryd.underlying108 | with_reducible exact Tryd.underlying123 | with_reducible exact Tryd.underlying128 | with_reducible exact Tryd.underlying137 | with_reducible exact Tryd.underlying142 | with_reducible exact Tryd.underlying146 | with_reducible exact Tryd.underlying149); (try simp only [Act.put, List.setIfInBounds_toArray, List.set_cons_zero, List.set_cons_succ])) | ((with_reducible apply arm_assertN); (first | with_reducible exact wanted_none | exact wanted_guard rfl rfl); (first | exact ev_tmp rfl | exact ev_const); (first | assumption | decide); (first | with_reducible exact Tryd.underlying15 | with_reducible exact Tryd.underlying16 | with_reducible exact Tryd.underlying17 | with_reducible exact Tryd.underlying46 | with_reducible exact Tryd.underlying67 | with_reducible exact Tryd.underlying82 | with_reducible exact Tryd.underlying87 | with_reducible exact Tryd.underlying95 | with_reducible exact Tryd.underlying108 | with_reducible exact Tryd.underlying123 | with_reducible exact Tryd.underlying128 | with_reducible exact Tryd.underlying137 | with_reducible exact Tryd.underlying142 | with_reducible exact Tryd.underlying146 | with_reducible exact Tryd.underlying149); kernel_rfl; (try simp only [Act.put, List.setIfInBounds_toArray, List.set_cons_zero, List.set_cons_succ])) | ((with_reducible apply (arm_loadF hS)); (first | with_reducible exact wanted_none | exact wanted_guard rfl rfl); (first | exact ev_tmp rfl | exact ev_const); assumption; (((repeat (first | with_reducible exact mem_hd | with_reducible apply mem_tl))); (try assumption)); decide +kernel; (try simp only [Act.put, List.setIfInBounds_toArray, List.set_cons_zero, List.set_cons_succ])) | (go_at_call 76; refine (bldByteL b _ 33 33 rfl _ _ _ hS (by simp; omega)).mono ?_; clear hS; rintro e w ⟨rfl, hS⟩) | (go_at_call 77; refine (OM _ _ R hva hS hf hb htb (by simp; omega)).mono ?_; clear hS OM; rintro e w ⟨rfl, hS⟩))
    go_end0
    exact ⟨rfl, by rw [HX.out]; simpa using hS⟩

end Go.Proofs.YthackanffcaejaaDoor
