/- A part of the proof: Bld2 Form8 Form9 Form10. -/
import Derived.Test.YthackanffcaejaaGreatDoorM1
import Derived.Test.YthackanffcaejaaGreatDoorM2
import Derived.Test.YthackanffcaejaaGreatDoorM3
import Derived.Test.YthackanffcaejaaGreatDoorM6
import Derived.Test.YthackanffcaejaaGreatDoorM7
import Derived.Test.YthackanffcaejaaGreatDoorM13
import Derived.Test.YthackanffcaejaaGreatDoorM16
section
set_option linter.unusedVariables false
set_option linter.unusedSimpArgs false
set_option maxRecDepth 20000
namespace Go.Proofs.YthackanffcaejaaGreatDoor
open Go Go.RowKit Go.SL

theorem bldByte (b : Nat) (l : List UInt8) (c : UInt8) (w0 w : World) (Hs Hs' : List HP) (hS : Sat w0 w Hs) (u : Upd Hs (bld b l) (bld b (l ++ [c])) Hs') (hl : l.length + 1 ≤ 140737488355328) :
    Calls Tryz.prog 76 #[.pointer (some ⟨b, 0, none⟩), .int .u8 c.toNat] w fun e w' => e = .returned .nilIface ∧ Sat w0 w' Hs' := by
  obtain ⟨R, r1, r2⟩ := u.rem
  obtain ⟨p, ad, cap, hp, hS⟩ := open_bld (Hs := Hs) (hS.front r1)
  go_enter Tryz.func76, Tryz.ntmps76
  go_wp2_with (first | (go_at_call 108; refine (copyCheck b p hp _ _ _ _ hS).mono ?_; clear hS; rintro e w ⟨rfl, hS⟩) | ((with_reducible apply arm_load hS); (first | with_reducible exact wanted_none | exact wanted_guard rfl rfl); (first | exact ev_tmp rfl | exact ev_const); (repeat (with_reducible first | exact mem_hd | apply mem_tl)); rfl; decide +kernel; (try simp only [Act.put, q1, q2, q3])) | ((with_reducible apply arm_store hS); (first | with_reducible exact wanted_none | exact wanted_guard rfl rfl); (first | exact ev_tmp rfl | exact ev_const); (first | exact ev_tmp rfl | exact ev_const); (repeat (with_reducible first | exact mem_hd | apply mem_tl)); rfl; (first | (focus (simp; done)) | (simp; omega) | omega); (repeat (with_reducible first | exact Upd.hd | apply Upd.tl)); rfl; decide +kernel; clear hS; intro w hS; (try simp only [q2, q3] at hS); (try simp only [Act.put, q1, q2, q3])) | ((with_reducible apply arm_build1 hS); (first | with_reducible exact wanted_none | exact wanted_guard rfl rfl); (with_reducible first | exact E22 | exact E35 | exact E42 | exact E59 | exact E61 | exact E66 | exact E88 | exact E90 | exact E112 | exact E116 | exact E120 | exact E130 | exact E174 | exact E177 | exact E205); (first | exact ev_tmp rfl | exact ev_const); (first | with_reducible exact cells_agg | exact cells_one rfl); rfl; decide; clear hS; intro NB w hS; (try simp only [Act.put, q1, q2, q3])) | ((with_reducible apply arm_appendB hS); (first | with_reducible exact wanted_none | exact wanted_guard rfl rfl); (first | exact ev_tmp rfl | exact ev_const); (first | exact ev_tmp rfl | exact ev_const); (with_reducible first | exact E22 | exact E35 | exact E42 | exact E59 | exact E61 | exact E66 | exact E88 | exact E90 | exact E112 | exact E116 | exact E120 | exact E130 | exact E174 | exact E177 | exact E205); (repeat (with_reducible first | exact Rem.hd | apply Rem.tl)); (repeat (with_reducible first | exact Rem.hd | apply Rem.tl)); rfl; rfl; (first | omega | (focus (simp; done)) | (simp; omega)); (first | omega | (focus (simp; done)) | (simp; omega)); clear hS; intro AD CAP w hS; (try simp only [Nat.zero_add, List.nil_append] at hS); (try simp only [Act.put, q1, q2, q3])))
  go_ret
  have hb : Bs l ++ [Value.int .u8 c.toNat] = Bs (l ++ [c]) := by rw [Bs_append]; rfl
  rw [hb] at hS
  exact ⟨rfl, Sat.put (shut_bld (ad := AD) (cap := CAP) (.inr rfl) (by simp) (hS.front (Rem.tl Rem.hd))) r2⟩
theorem formatBool (b : Bool) (w0 w : World) (Hs : List HP) (hS : Sat w0 w Hs) :
    Calls Tryz.prog 74 #[.bool b] w fun e w' => e = .returned (.string ⟨(if b then [116, 114, 117, 101] else [102, 97, 108, 115, 101] : List UInt8).toArray⟩) ∧ Sat w0 w' Hs := by
  cases b
  all_goals
    go_enter Tryz.func74, Tryz.ntmps74
    go_wp2
    go_ret
    exact ⟨rfl, hS⟩
theorem bldWriteL (b : Nat) (l s : List UInt8) (w0 w : World) (R : List HP) (hS : Sat w0 w (bld b l :: R)) (hl : l.length + s.length ≤ 140737488355328) :
    Calls Tryz.prog 73 #[.pointer (some ⟨b, 0, none⟩), .string ⟨s.toArray⟩] w fun e w' => e = .returned (.tuple #[.int .i64 s.length, .nilIface]) ∧ Sat w0 w' (bld b (l ++ s) :: R) :=
  (bldWrite b l ⟨s.toArray⟩ w0 w (bld b l :: R) _ hS Upd.hd (by simpa [ByteArray.size] using hl)).mono fun e w' ⟨h1, h2⟩ => ⟨by simpa [ByteArray.size] using h1, by simpa using h2⟩
theorem bldByteL (b : Nat) (l : List UInt8) (c : UInt8) (n : Int) (hn : n = c.toNat) (w0 w : World) (R : List HP) (hS : Sat w0 w (bld b l :: R)) (hl : l.length + 1 ≤ 140737488355328) :
    Calls Tryz.prog 76 #[.pointer (some ⟨b, 0, none⟩), .int .u8 n] w fun e w' => e = .returned .nilIface ∧ Sat w0 w' (bld b (l ++ [c]) :: R) := by
  subst hn
  exact bldByte b l c w0 w _ _ hS Upd.hd hl
end Go.Proofs.YthackanffcaejaaGreatDoor
end
section
set_option linter.unusedSimpArgs false
set_option linter.unusedVariables false
set_option linter.unusedSectionVars false
set_option maxRecDepth 20000
namespace Go.Proofs.YthackanffcaejaaGreatDoor
open Go Go.RowKit Go.SL

/-! ### A value is one tree -/
theorem At.inj {H : Hp} {v : Value} {K K' S S' : TypeId} {cs cs' : List Value} (h : At H v K S cs) (h' : At H v K' S' cs') : K = K' ∧ S = S' ∧ cs = cs' := by
  obtain ⟨b, rfl, h1⟩ := h
  obtain ⟨b', e, h2⟩ := h'
  simp only [Value.iface.injEq, Value.pointer.injEq, Option.some.injEq, Addr.mk.injEq] at e
  obtain ⟨rfl, rfl, _⟩ := e
  rw [h1] at h2
  simp at h2
  exact ⟨rfl, h2.2, h2.1⟩
theorem InT.inj {H : Hp} : ∀ {u u' : T} {v : Value}, InT H u v → InT H u' v → u = u'
  | .cst n, u', v, h, h' => by
    cases u' with
    | cst m => have := (At.inj h h').2.2; simp at this; rw [this]
    | var m => exact absurd (At.inj h h').1 (by decide)
    | neg a => obtain ⟨_, _, h'⟩ := h'; exact absurd (At.inj h h').1 (by decide)
    | qu o m a => obtain ⟨_, _, h'⟩ := h'; exact absurd (At.inj h h').1 (by decide)
    | bin o a b => obtain ⟨_, _, _, _, h'⟩ := h'; exact absurd (At.inj h h').1 (by decide)
    | ite c a b => obtain ⟨_, _, _, _, _, _, h'⟩ := h'; exact absurd (At.inj h h').1 (by decide)
  | .var n, u', v, h, h' => by
    cases u' with
    | cst m => exact absurd (At.inj h h').1 (by decide)
    | var m => have := (At.inj h h').2.2; simp at this; rw [this]
    | neg a => obtain ⟨_, _, h'⟩ := h'; exact absurd (At.inj h h').1 (by decide)
    | qu o m a => obtain ⟨_, _, h'⟩ := h'; exact absurd (At.inj h h').1 (by decide)
    | bin o a b => obtain ⟨_, _, _, _, h'⟩ := h'; exact absurd (At.inj h h').1 (by decide)
    | ite c a b => obtain ⟨_, _, _, _, _, _, h'⟩ := h'; exact absurd (At.inj h h').1 (by decide)
  | .neg a, u', v, ⟨va, k, h⟩, h' => by
    cases u' with
    | cst m => exact absurd (At.inj h h').1 (by decide)
    | var m => exact absurd (At.inj h h').1 (by decide)
    | neg a' => obtain ⟨_, k', h'⟩ := h'; have := (At.inj h h').2.2; simp at this; obtain ⟨_, _, rfl⟩ := this; rw [InT.inj k k']
    | qu o m a => obtain ⟨_, _, h'⟩ := h'; exact absurd (At.inj h h').1 (by decide)
    | bin o a b => obtain ⟨_, _, _, _, h'⟩ := h'; exact absurd (At.inj h h').1 (by decide)
    | ite c a b => obtain ⟨_, _, _, _, _, _, h'⟩ := h'; exact absurd (At.inj h h').1 (by decide)
  | .qu o m a, u', v, ⟨va, k, h⟩, h' => by
    cases u' with
    | cst m => exact absurd (At.inj h h').1 (by decide)
    | var m => exact absurd (At.inj h h').1 (by decide)
    | neg a' => obtain ⟨_, _, h'⟩ := h'; exact absurd (At.inj h h').1 (by decide)
    | qu o' m' a' => obtain ⟨_, k', h'⟩ := h'; have := (At.inj h h').2.2; simp at this; obtain ⟨_, _, rfl, rfl, rfl⟩ := this; rw [InT.inj k k']
    | bin o a b => obtain ⟨_, _, _, _, h'⟩ := h'; exact absurd (At.inj h h').1 (by decide)
    | ite c a b => obtain ⟨_, _, _, _, _, _, h'⟩ := h'; exact absurd (At.inj h h').1 (by decide)
  | .bin o a b, u', v, ⟨va, vb, k1, k2, h⟩, h' => by
    cases u' with
    | cst m => exact absurd (At.inj h h').1 (by decide)
    | var m => exact absurd (At.inj h h').1 (by decide)
    | neg a' => obtain ⟨_, _, h'⟩ := h'; exact absurd (At.inj h h').1 (by decide)
    | qu o m a => obtain ⟨_, _, h'⟩ := h'; exact absurd (At.inj h h').1 (by decide)
    | bin o' a' b' => obtain ⟨_, _, k1', k2', h'⟩ := h'; have := (At.inj h h').2.2; simp at this; obtain ⟨_, _, rfl, rfl, rfl⟩ := this; rw [InT.inj k1 k1', InT.inj k2 k2']
    | ite c a b => obtain ⟨_, _, _, _, _, _, h'⟩ := h'; exact absurd (At.inj h h').1 (by decide)
  | .ite c a b, u', v, ⟨vc, va, vb, k0, k1, k2, h⟩, h' => by
    cases u' with
    | cst m => exact absurd (At.inj h h').1 (by decide)
    | var m => exact absurd (At.inj h h').1 (by decide)
    | neg a' => obtain ⟨_, _, h'⟩ := h'; exact absurd (At.inj h h').1 (by decide)
    | qu o m a => obtain ⟨_, _, h'⟩ := h'; exact absurd (At.inj h h').1 (by decide)
    | bin o' a' b' => obtain ⟨_, _, _, _, h'⟩ := h'; exact absurd (At.inj h h').1 (by decide)
    | ite c' a' b' => obtain ⟨_, _, _, k0', k1', k2', h'⟩ := h'; have := (At.inj h h').2.2; simp at this; obtain ⟨_, _, rfl, rfl, rfl⟩ := this; rw [InT.inj k0 k0', InT.inj k1 k1', InT.inj k2 k2']
open Classical in
noncomputable def szOf (H : Hp) (v : Value) : Nat := if h : ∃ u, InT H u v then size (Classical.choose h) else 0
theorem szOf_eq {H : Hp} {v : Value} {u : T} (h : InT H u v) : szOf H v = size u := by
  have hx : ∃ u, InT H u v := ⟨u, h⟩
  unfold szOf
  rw [dif_pos hx, InT.inj (Classical.choose_spec hx) h]
theorem InT.notQu {H : Hp} {u : T} {v : Value} (h : InT H u v) (hq : ∀ o m a, u ≠ .qu o m a) : ∃ K b, v = .iface K (.pointer (some ⟨b, 0, none⟩)) ∧ K ≠ 156 := by
  cases u with
  | cst n => obtain ⟨b, rfl, _⟩ := h; exact ⟨_, _, rfl, by decide⟩
  | var n => obtain ⟨b, rfl, _⟩ := h; exact ⟨_, _, rfl, by decide⟩
  | neg a => obtain ⟨_, _, b, rfl, _⟩ := h; exact ⟨_, _, rfl, by decide⟩
  | qu o m a => exact absurd rfl (hq o m a)
  | bin o a b => obtain ⟨_, _, _, _, b, rfl, _⟩ := h; exact ⟨_, _, rfl, by decide⟩
  | ite c a b => obtain ⟨_, _, _, _, _, _, b, rfl, _⟩ := h; exact ⟨_, _, rfl, by decide⟩

theorem spelled (op : Int) (h1 : 4 ≤ op) (h2 : op ≤ 10) (w0 w : World) (Hs : List HP) (hS : Sat w0 w Hs) :
    Calls Tryz.prog 78 #[.int .i64 op] w fun e w' => e = .returned (.string ⟨(spellP op).toArray⟩) ∧ Sat w0 w' Hs := by
  have h3 : op = 4 ∨ op = 5 ∨ op = 6 ∨ op = 7 ∨ op = 8 ∨ op = 9 ∨ op = 10 := by omega
  rcases h3 with rfl | rfl | rfl | rfl | rfl | rfl | rfl
  all_goals
    go_enter Tryz.func78, Tryz.ntmps78
    go_wp2
    go_ret
    exact ⟨rfl, hS⟩

def WC (t : T) : Prop := ∀ (b : Nat) (l : List UInt8) (v : Value) (H : Hp) (last : Bool) (w0 w : World) (R : List HP), InT H t v → Sat w0 w (bld b l :: R) → fz H ∈ R → base w0 ∈ R → Tab w0 → l.length + 50 * size t ≤ 1000000000 →
  Calls Tryz.prog 34 #[.pointer (some ⟨b, 0, none⟩), v, .bool last] w fun e w' => e = .returned (.tuple #[]) ∧ Sat w0 w' (bld b (l ++ wr t last) :: R)

set_option maxHeartbeats 2000000 in
theorem operandM (op side : Int) (hop : i64 op) (t : T) (ht : okT t) (hsz : size t ≤ 1000000) (hW : WC t) (b : Nat) (l : List UInt8) (v : Value) (H : Hp) (last : Bool) (w0 w : World) (R : List HP) (hT : InT H t v) (hS : Sat w0 w (bld b l :: R)) (hf : fz H ∈ R) (hb : base w0 ∈ R) (htb : Tab w0) (hl : l.length + 50 * size t + 20 ≤ 1000000000) :
    Calls Tryz.prog 77 #[.pointer (some ⟨b, 0, none⟩), .int .i64 op, .int .i64 side, v, .bool last] w fun e w' => e = .returned (.tuple #[]) ∧ Sat w0 w' (bld b (l ++ opd op side t last) :: R) := by
  have BR := bracketed op side hop t ht.ops last v H hT
  have hx : (opd op side t last) = if brkP op side t last then [40] ++ wr t true ++ [41] else wr t last := rfl
  obtain ⟨h1, h2, h3⟩ := wr_le t ht hsz
  obtain ⟨X, hX⟩ : ∃ X, X = opd op side t last := ⟨_, rfl⟩
  rw [← hX] at hx ⊢
  clear hX
  cases hb0 : brkP op side t last with
  | false =>
    rw [hb0] at BR hx
    have HX := hid (show X = wr t last from hx)
    have W1 := hW b l v H last
    clear hx hb0
    obtain ⟨K, bv, rfl⟩ := hT.form
    go_enter Tryz.func77, Tryz.ntmps77
    go_wp2_with (first | (go_at_call 111; refine (BR _ _ _ hS (.tail _ hf)).mono ?_; clear hS BR; rintro e w ⟨rfl, hS⟩) | (go_at_call 34; refine (W1 _ _ R hT hS hf hb htb (by omega)).mono ?_; clear hS W1; rintro e w ⟨rfl, hS⟩))
    refine bodyPost_ret (results_none rfl _ _ _) rfl ?_
    exact ⟨rfl, by rw [HX.out]; exact hS⟩
  | true =>
    rw [hb0] at BR hx
    have HX := hid (show X = [40] ++ wr t true ++ [41] from hx)
    have W1 := hW b (l ++ [40]) v H true
    clear hx hb0
    obtain ⟨K, bv, rfl⟩ := hT.form
    have h40 : Value.int .u8 40 = .int .u8 (40 : UInt8).toNat := rfl
    go_enter Tryz.func77, Tryz.ntmps77
    go_wp2_with (first | (go_at_call 111; refine (BR _ _ _ hS (.tail _ hf)).mono ?_; clear hS BR; rintro e w ⟨rfl, hS⟩) | (go_at_call 34; refine (W1 _ _ R hT hS hf hb htb (by simp; omega)).mono ?_; clear hS W1; rintro e w ⟨rfl, hS⟩) | (go_at_call 76; (first | with_reducible refine (bldByteL b _ 40 40 rfl _ _ _ hS (by simp; omega)).mono ?_ | with_reducible refine (bldByteL b _ 41 41 rfl _ _ _ hS (by simp; omega)).mono ?_); clear hS; rintro e w ⟨rfl, hS⟩))
    go_end0
    exact ⟨rfl, by rw [HX.out]; simpa using hS⟩

set_option maxHeartbeats 2000000 in
theorem writeLeaf (t : T) (ht : okT t) (hsz : size t ≤ 1000000) (hq : (∃ n, t = .cst n) ∨ (∃ n, t = .var n) ∨ (∃ a, t = .neg a ∧ WC a)) : WC t := by
  intro b l v H last w0 w R hT hS hf hb htb hl
  rcases hq with ⟨n, rfl⟩ | ⟨n, rfl⟩ | ⟨a, rfl, ih⟩
  · have HX0 := wr_cst n last
    obtain ⟨X, hX⟩ : ∃ X, X = wr (.cst n) last := ⟨_, rfl⟩
    rw [← hX] at HX0 ⊢
    clear hX
    obtain ⟨bv, rfl, hbv⟩ := hT
    have c2 : celH H bv 2 = some (.int .i64 n) := by simp [celH, hbv]
    simp only [size] at hl
    rcases ht with rfl | rfl
    · have HX := hid (show X = [102, 97, 108, 115, 101] from HX0)
      clear HX0 hbv hsz
      go_enter Tryz.func34, Tryz.ntmps34
      go_wp2_with (first | ((with_reducible apply arm_assertY); exact wanted_none; exact ev_tmp rfl; exact Tryz.underlying132; (try simp only [Act.put, q1, q2, q3])) | ((with_reducible apply arm_loadF hS); exact wanted_none; exact ev_tmp rfl; assumption; (((repeat (with_reducible apply mem_tl))); (try assumption)); decide +kernel; (try simp only [Act.put, q1, q2, q3])) | (go_at_call 74; refine (formatBool false _ _ _ hS).mono ?_; clear hS; rintro e w ⟨rfl, hS⟩) | (go_at_call 73; refine (bldWriteL b _ _ _ _ _ hS (by simp; omega)).mono ?_; clear hS; rintro e w ⟨rfl, hS⟩))
      go_end0
      exact ⟨rfl, by rw [HX.out]; simpa using hS⟩
    · have HX := hid (show X = [116, 114, 117, 101] from HX0)
      clear HX0 hbv hsz
      go_enter Tryz.func34, Tryz.ntmps34
      go_wp2_with (first | ((with_reducible apply arm_assertY); exact wanted_none; exact ev_tmp rfl; exact Tryz.underlying132; (try simp only [Act.put, q1, q2, q3])) | ((with_reducible apply arm_loadF hS); exact wanted_none; exact ev_tmp rfl; assumption; (((repeat (with_reducible apply mem_tl))); (try assumption)); decide +kernel; (try simp only [Act.put, q1, q2, q3])) | (go_at_call 74; refine (formatBool true _ _ _ hS).mono ?_; clear hS; rintro e w ⟨rfl, hS⟩) | (go_at_call 73; refine (bldWriteL b _ _ _ _ _ hS (by simp; omega)).mono ?_; clear hS; rintro e w ⟨rfl, hS⟩))
      go_end0
      exact ⟨rfl, by rw [HX.out]; simpa using hS⟩
  · have HX := hid (wr_var n last)
    obtain ⟨X, hX⟩ : ∃ X, X = wr (.var n) last := ⟨_, rfl⟩
    rw [← hX] at HX ⊢
    clear hX
    obtain ⟨bv, rfl, hbv⟩ := hT
    have c2 : celH H bv 2 = some (.int .i64 n) := by simp [celH, hbv]
    simp only [size] at hl
    have h1 := ht.1
    have h2 := ht.2
    have hil := Lib.itoa_length_le n (by omega) (by omega)
    clear hbv hsz ht
    go_enter Tryz.func34, Tryz.ntmps34
    go_wp2_with (first | ((with_reducible apply arm_assertY); exact wanted_none; exact ev_tmp rfl; exact Tryz.underlying137; (try simp only [Act.put, q1, q2, q3])) | ((with_reducible apply arm_assertN); exact wanted_none; exact ev_tmp rfl; (decide); exact Tryz.underlying132; kernel_rfl; (try simp only [Act.put, q1, q2, q3])) | ((with_reducible apply arm_loadF hS); exact wanted_none; exact ev_tmp rfl; assumption; (((repeat (with_reducible apply mem_tl))); (try assumption)); decide +kernel; (try simp only [Act.put, q1, q2, q3])) | ((with_reducible apply arm_addStr); exact wanted_none; exact ev_const; exact ev_tmp rfl; (simp only [List.length_append, List.length_cons, List.length_nil]; omega); (try simp only [Act.put, q1, q2, q3])) | (go_at_call 75; refine (itoaC _ (by omega) (by omega) _ _ _ hS (by ((repeat (with_reducible apply mem_tl)); (try assumption))) htb).mono ?_; clear hS; rintro e w ⟨rfl, hS⟩) | (go_at_call 73; refine (bldWriteL b _ _ _ _ _ hS (by simp; omega)).mono ?_; clear hS; rintro e w ⟨rfl, hS⟩))
    go_end0
    exact ⟨rfl, by rw [HX.out]; simpa using hS⟩
  · have HX := hid (wr_neg a last)
    obtain ⟨X, hX⟩ : ∃ X, X = wr (.neg a) last := ⟨_, rfl⟩
    rw [← hX] at HX ⊢
    clear hX
    obtain ⟨va, hva, bv, rfl, hbv⟩ := hT
    have c2 : celH H bv 2 = some va := by simp [celH, hbv]
    simp only [size] at hl hsz
    have OM := operandM 3 0 (by unfold i64; omega) a ht (by omega) ih b (l ++ [33]) va H last
    obtain ⟨Ka, ba, rfl⟩ := hva.form
    clear hbv ht ih
    go_enter Tryz.func34, Tryz.ntmps34
    go_wp2_with (first | ((with_reducible apply arm_assertY); exact wanted_none; exact ev_tmp rfl; exact Tryz.underlying151; (try simp only [Act.put, q1, q2, q3])) | ((with_reducible apply arm_assertN); exact wanted_none; exact ev_tmp rfl; (decide); (with_reducible first | exact Tryz.underlying132 | exact Tryz.underlying137); kernel_rfl; (try simp only [Act.put, q1, q2, q3])) | ((with_reducible apply arm_loadF hS); exact wanted_none; exact ev_tmp rfl; assumption; (((repeat (with_reducible apply mem_tl))); (try assumption)); decide +kernel; (try simp only [Act.put, q1, q2, q3])) | (go_at_call 76; refine (bldByteL b _ 33 33 rfl _ _ _ hS (by simp; omega)).mono ?_; clear hS; rintro e w ⟨rfl, hS⟩) | (go_at_call 77; refine (OM _ _ R hva hS hf hb htb (by simp; omega)).mono ?_; clear hS OM; rintro e w ⟨rfl, hS⟩))
    go_end0
    exact ⟨rfl, by rw [HX.out]; simpa using hS⟩

end Go.Proofs.YthackanffcaejaaGreatDoor
end
section
set_option linter.unusedSimpArgs false
set_option linter.unusedVariables false
set_option linter.unusedSectionVars false
set_option maxRecDepth 20000
namespace Go.Proofs.YthackanffcaejaaGreatDoor
open Go Go.RowKit Go.SL

set_option maxHeartbeats 4000000 in
theorem writeBin (op : Int) (p q : T) (ht : okT (.bin op p q)) (hsz : size (.bin op p q) ≤ 1000000) (ih1 : WC p) (ih2 : WC q) : WC (.bin op p q) := by
  intro b l v H last w0 w R hT hS hf hb htb hl
  have HX := hid (wr_bin op p q last)
  obtain ⟨X, hX⟩ : ∃ X, X = wr (.bin op p q) last := ⟨_, rfl⟩
  rw [← hX] at HX ⊢
  clear hX
  obtain ⟨va, vb, hva, hvb, bv, rfl, hbv⟩ := hT
  have c2 : celH H bv 2 = some (.int .i64 op) := by simp [celH, hbv]
  have c3 : celH H bv 3 = some va := by simp [celH, hbv]
  have c4 : celH H bv 4 = some vb := by simp [celH, hbv]
  obtain ⟨o1, o2, kp, kq⟩ := ht
  simp only [size] at hl hsz
  obtain ⟨p1, p2, p3⟩ := wr_le p kp (by omega)
  have k1 : (opd op 0 p false).length ≤ 40 * size p + 2 := by unfold opd; split <;> (try simp only [List.length_append, List.length_cons, List.length_nil]) <;> omega
  have k3 : (spellP op).length ≤ 7 := by
    unfold spellP; repeat' split
    all_goals decide
  have OM1 := operandM op 0 (by unfold i64; omega) p kp (by omega) ih1 b l va H false
  have OM2 := operandM op 1 (by unfold i64; omega) q kq (by omega) ih2 b (l ++ opd op 0 p false ++ spellP op) vb H last
  have SP := spelled op (by omega) o2
  obtain ⟨Ka, ba, rfl⟩ := hva.form
  obtain ⟨Kb, bb, rfl⟩ := hvb.form
  generalize opd op 0 p false = O1 at *
  generalize opd op 1 q last = O2 at *
  generalize spellP op = S1 at *
  clear hbv ih1 ih2
  go_enter Tryz.func34, Tryz.ntmps34
  go_wp2_with (first | ((with_reducible apply Cont.intro); (first | (focus (apply Or.inr; apply (Sat.sb hS); (repeat (first | with_reducible exact Sb.refl | (with_reducible refine Sb.take (by (repeat (with_reducible apply Rem.tl)); done) ?_) | with_reducible apply Sb.skip)); done)) | (exact Or.inl (by kernel_rfl))); intro hR hC) | ((first | ((with_reducible apply draw_pure (i := 0)); (simp only [q4, q6, q5]; with_reducible rfl); kernel_rfl; kernel_rfl; decide +kernel; rfl; exact hC; exact (fun _ _ _ h => h); exact hR; with_reducible exact wanted_none) | ((with_reducible apply draw_pure (i := 1)); (simp only [q4, q6, q5]; with_reducible rfl); kernel_rfl; kernel_rfl; decide +kernel; rfl; exact hC; exact (fun _ _ _ h => h); exact hR; with_reducible exact wanted_none) | ((with_reducible apply draw_pure (i := 2)); (simp only [q4, q6, q5]; with_reducible rfl); kernel_rfl; kernel_rfl; decide +kernel; rfl; exact hC; exact (fun _ _ _ h => h); exact hR; with_reducible exact wanted_none) | ((with_reducible apply draw_pure (i := 5)); (simp only [q4, q6, q5]; with_reducible rfl); kernel_rfl; kernel_rfl; decide +kernel; rfl; exact hC; exact (fun _ _ _ h => h); exact hR; with_reducible exact wanted_none) | ((with_reducible apply draw_pure (i := 6)); (simp only [q4, q6, q5]; with_reducible rfl); kernel_rfl; kernel_rfl; decide +kernel; rfl; exact hC; exact (fun _ _ _ h => h); exact hR; with_reducible exact wanted_none)); (intro w; first | (go_simp; done) | (go_simp; rw [wrapI (by omega) (by omega)]) | (go_simp; with_reducible rfl) | (go_simp; rfl)); (clear hR hC; intro hR hC); (try simp only [Act.put, q1, q2, q3])) | ((first | ((with_reducible apply draw_pure (i := 3)); (simp only [q4, q6, q5]; with_reducible rfl); kernel_rfl; kernel_rfl; decide +kernel; rfl; exact hC; exact (fun _ _ _ h => h); exact hR; with_reducible exact wanted_none) | ((with_reducible apply draw_pure (i := 7)); (simp only [q4, q6, q5]; with_reducible rfl); kernel_rfl; kernel_rfl; decide +kernel; rfl; exact hC; exact (fun _ _ _ h => h); exact hR; with_reducible exact wanted_none)); (intro w; first | (exact draw_fa rfl (by (exact ev_const)) (by assumption) (by with_reducible exact fo7_0)) | (go_simp; done) | (go_simp; rw [wrapI (by omega) (by omega)]) | (go_simp; with_reducible rfl) | (go_simp; rfl)); (clear hR hC; intro hR hC); (try simp only [Act.put, q1, q2, q3])) | ((first | ((with_reducible apply draw_read (i := 4)); (simp only [q4, q6, q5]; with_reducible rfl); kernel_rfl; kernel_rfl; decide +kernel; kernel_rfl; rfl; exact hC; exact (fun _ _ _ h => h); exact hR; kernel_rfl; with_reducible exact wanted_none) | ((with_reducible apply draw_read (i := 8)); (simp only [q4, q6, q5]; with_reducible rfl); kernel_rfl; kernel_rfl; decide +kernel; kernel_rfl; rfl; exact hC; exact (fun _ _ _ h => h); exact hR; kernel_rfl; with_reducible exact wanted_none)); (intro w hS; (apply run_op_load rfl (by (exact ev_tmp rfl))); first | exact run_loadVar1 (by decide +kernel) (hS.cell (by (repeat (with_reducible apply mem_tl))) rfl) | exact run_loadVar1 (by decide +kernel) ((hS.ownCell (by (repeat (with_reducible apply mem_tl))) (by (rfl))).1) | exact run_loadVar1 (by decide +kernel) (Sat.rdCell2 (by assumption) hS (by ((repeat (with_reducible apply mem_tl))); try assumption) (by (rfl))) | exact run_loadVar1 (by decide +kernel) (hS.baseCell (by ((repeat (with_reducible apply mem_tl))); try assumption) (by assumption)) | exact run_loadVar1 (by decide +kernel) (fzC (by assumption) hS (by ((repeat (with_reducible apply mem_tl))); try assumption)) | exact run_loadRN hS (by assumption) (by ((repeat (with_reducible apply mem_tl))); try assumption) (by assumption) (by rfl) (by with_reducible exact sz7) (by decide +kernel) (by decide) | exact hS.loadWhole (by (repeat (with_reducible apply mem_tl))) (by kernel_rfl) (by kernel_rfl)); (clear hR hC; intro hR hC); (try simp only [Act.put, q1, q2, q3])) | ((with_reducible apply draw_act (i := 9)); (simp only [q4, q6, q5]; with_reducible rfl); decide +kernel; exact hC; clear hR hC) | ((with_reducible apply draw_done); decide +kernel; clear hR hC) | (refine draw_sat 23 10 hS (by kernel_rfl) [9] rfl ?_; clear hS; intro w hS hR hC) | ((with_reducible apply draw_act (i := 10)); (simp only [q4, q6, q5]; with_reducible rfl); decide +kernel; exact hC; clear hR hC) | (refine draw_sat 25 11 hS (by kernel_rfl) [10] rfl ?_; clear hS; intro w hS hR hC) | ((with_reducible apply arm_assertY); exact wanted_none; exact ev_tmp rfl; exact Tryz.underlying160; (try simp only [Act.put, q1, q2, q3])) | ((with_reducible apply arm_assertN); exact wanted_none; exact ev_tmp rfl; (decide); (with_reducible first | exact Tryz.underlying132 | exact Tryz.underlying137 | exact Tryz.underlying151 | exact Tryz.underlying156); kernel_rfl; (try simp only [Act.put, q1, q2, q3])) | ((with_reducible apply arm_loadF hS); exact wanted_none; exact ev_tmp rfl; assumption; (((repeat (with_reducible apply mem_tl))); (try assumption)); decide +kernel; (try simp only [Act.put, q1, q2, q3])) | (go_at_call 78; refine (SP _ _ _ hS).mono ?_; clear hS; rintro e w ⟨rfl, hS⟩) | (go_at_call 73; refine (bldWriteL b _ _ _ _ _ hS (by simp; omega)).mono ?_; clear hS; rintro e w ⟨rfl, hS⟩) | (go_at_call 77; (first | with_reducible refine (OM1 _ _ R hva hS hf hb htb (by omega)).mono ?_ | with_reducible refine (OM2 _ _ R hvb hS hf hb htb (by simp; omega)).mono ?_); clear hS; rintro e w ⟨rfl, hS⟩))
  go_end0
  exact ⟨rfl, by rw [HX.out]; simpa using hS⟩
set_option maxHeartbeats 4000000 in
theorem writeIte (c p q : T) (ht : okT (.ite c p q)) (hsz : size (.ite c p q) ≤ 1000000) (ih0 : WC c) (ih1 : WC p) (ih2 : WC q) : WC (.ite c p q) := by
  intro b l v H last w0 w R hT hS hf hb htb hl
  have HX := hid (wr_ite c p q last)
  obtain ⟨X, hX⟩ : ∃ X, X = wr (.ite c p q) last := ⟨_, rfl⟩
  rw [← hX] at HX ⊢
  clear hX
  obtain ⟨vc, va, vb, hvc, hva, hvb, bv, rfl, hbv⟩ := hT
  have c2 : celH H bv 2 = some vc := by simp [celH, hbv]
  have c3 : celH H bv 3 = some va := by simp [celH, hbv]
  have c4 : celH H bv 4 = some vb := by simp [celH, hbv]
  obtain ⟨kc, kp, kq⟩ := ht
  simp only [size] at hl hsz
  obtain ⟨n1, n2, n3⟩ := wr_le c kc (by omega)
  obtain ⟨p1, p2, p3⟩ := wr_le p kp (by omega)
  obtain ⟨q1, q2, q3⟩ := wr_le q kq (by omega)
  have W0 := ih0 b (l ++ [105, 116, 101, 40]) vc H true
  have W1 := ih1 b (l ++ [105, 116, 101, 40] ++ wr c true ++ [44, 32]) va H true
  have W2 := ih2 b (l ++ [105, 116, 101, 40] ++ wr c true ++ [44, 32] ++ wr p true ++ [44, 32]) vb H true
  obtain ⟨Kc, bc, rfl⟩ := hvc.form
  obtain ⟨Ka, ba, rfl⟩ := hva.form
  obtain ⟨Kb, bb, rfl⟩ := hvb.form
  generalize wr c true = O0 at *
  generalize wr p true = O1 at *
  generalize wr q true = O2 at *
  clear hbv ih0 ih1 ih2
  go_enter Tryz.func34, Tryz.ntmps34
  go_wp2_with (first | ((with_reducible apply arm_assertY); exact wanted_none; exact ev_tmp rfl; exact Tryz.underlying163; (try simp only [Act.put, q1, q2, q3])) | ((with_reducible apply arm_assertN); exact wanted_none; exact ev_tmp rfl; (decide); (with_reducible first | exact Tryz.underlying132 | exact Tryz.underlying137 | exact Tryz.underlying151 | exact Tryz.underlying156 | exact Tryz.underlying160); kernel_rfl; (try simp only [Act.put, q1, q2, q3])) | ((with_reducible apply arm_loadF hS); exact wanted_none; exact ev_tmp rfl; assumption; (((repeat (with_reducible apply mem_tl))); (try assumption)); decide +kernel; (try simp only [Act.put, q1, q2, q3])) | (go_at_call 73; refine (bldWriteL b _ _ _ _ _ hS (by simp; omega)).mono ?_; clear hS; rintro e w ⟨rfl, hS⟩) | (go_at_call 76; refine (bldByteL b _ 41 41 rfl _ _ _ hS (by simp; omega)).mono ?_; clear hS; rintro e w ⟨rfl, hS⟩) | (go_at_call 34; (first | with_reducible refine (W0 _ _ R hvc hS hf hb htb (by simp; omega)).mono ?_ | with_reducible refine (W1 _ _ R hva hS hf hb htb (by simp; omega)).mono ?_ | with_reducible refine (W2 _ _ R hvb hS hf hb htb (by simp; omega)).mono ?_); clear hS; rintro e w ⟨rfl, hS⟩))
  go_end0
  exact ⟨rfl, by rw [HX.out]; simpa using hS⟩

set_option maxHeartbeats 4000000 in
theorem writeQu (op n : Int) (a : T) (ht : okT (.qu op n a)) (hsz : size (.qu op n a) ≤ 1000000) (ih : ∀ u, size u < size (.qu op n a) → okT u → WC u) : WC (.qu op n a) := by
  intro b l v H last w0 w R hT hS hf hb htb hl
  have HX := hid (wr_qu op n a last)
  obtain ⟨X, hX⟩ : ∃ X, X = wr (.qu op n a) last := ⟨_, rfl⟩
  rw [← hX] at HX ⊢
  clear hX
  obtain ⟨va, hva, bv, rfl, hbv⟩ := hT
  have c2 : celH H bv 2 = some (.int .i64 op) := by simp [celH, hbv]
  have c3 : celH H bv 3 = some (.int .i64 n) := by simp [celH, hbv]
  have c4 : celH H bv 4 = some va := by simp [celH, hbv]
  obtain ⟨o1, n1, n2, ka⟩ := ht
  simp only [size] at hl hsz
  obtain ⟨p1, p2, p3⟩ := wr_le a ka (by omega)
  have p4 := p3 op
  have hil := Lib.itoa_length_le n (by omega) (by omega)
  have k3 : (spellP op).length ≤ 7 := by rcases o1 with rfl | rfl <;> decide
  have SP := spelled op (by omega) (by omega)
  obtain ⟨Ka, ba, rfl⟩ := hva.form
  have hch : (chain op a).length ≤ 40 * size a + 2 := p4
  have HIH := hid ih
  generalize spellP op = S1 at *
  clear hbv p4 ih o1
  go_enter Tryz.func34, Tryz.ntmps34
  go_wp2_with (first | ((with_reducible apply Cont.intro); (first | (focus (apply Or.inr; apply (Sat.sb hS); (repeat (first | with_reducible exact Sb.refl | (with_reducible refine Sb.take (by (repeat (with_reducible apply Rem.tl)); done) ?_) | with_reducible apply Sb.skip)); done)) | (exact Or.inl (by kernel_rfl))); intro hR hC) | ((first | ((with_reducible apply draw_pure (i := 0)); (simp only [q4, q6, q5]; with_reducible rfl); kernel_rfl; kernel_rfl; decide +kernel; rfl; exact hC; exact (fun _ _ _ h => h); exact hR; with_reducible exact wanted_none) | ((with_reducible apply draw_pure (i := 1)); (simp only [q4, q6, q5]; with_reducible rfl); kernel_rfl; kernel_rfl; decide +kernel; rfl; exact hC; exact (fun _ _ _ h => h); exact hR; with_reducible exact wanted_none) | ((with_reducible apply draw_pure (i := 2)); (simp only [q4, q6, q5]; with_reducible rfl); kernel_rfl; kernel_rfl; decide +kernel; rfl; exact hC; exact (fun _ _ _ h => h); exact hR; with_reducible exact wanted_none) | ((with_reducible apply draw_pure (i := 7)); (simp only [q4, q6, q5]; with_reducible rfl); kernel_rfl; kernel_rfl; decide +kernel; rfl; exact hC; exact (fun _ _ _ h => h); exact hR; with_reducible exact wanted_none) | ((with_reducible apply draw_pure (i := 8)); (simp only [q4, q6, q5]; with_reducible rfl); kernel_rfl; kernel_rfl; decide +kernel; rfl; exact hC; exact (fun _ _ _ h => h); exact hR; with_reducible exact wanted_none)); (intro w; first | (go_simp; done) | (go_simp; rw [wrapI (by omega) (by omega)]) | (go_simp; with_reducible rfl) | (go_simp; rfl)); (clear hR hC; intro hR hC); (try simp only [Act.put, q1, q2, q3])) | ((first | ((with_reducible apply draw_pure (i := 3)); (simp only [q4, q6, q5]; with_reducible rfl); kernel_rfl; kernel_rfl; decide +kernel; rfl; exact hC; exact (fun _ _ _ h => h); exact hR; with_reducible exact wanted_none) | ((with_reducible apply draw_pure (i := 9)); (simp only [q4, q6, q5]; with_reducible rfl); kernel_rfl; kernel_rfl; decide +kernel; rfl; exact hC; exact (fun _ _ _ h => h); exact hR; with_reducible exact wanted_none)); (intro w; first | (exact draw_fa rfl (by (exact ev_const)) (by assumption) (by with_reducible exact fo7_0)) | (go_simp; done) | (go_simp; rw [wrapI (by omega) (by omega)]) | (go_simp; with_reducible rfl) | (go_simp; rfl)); (clear hR hC; intro hR hC); (try simp only [Act.put, q1, q2, q3])) | ((first | ((with_reducible apply draw_pure (i := 6)); (simp only [q4, q6, q5]; with_reducible rfl); kernel_rfl; kernel_rfl; decide +kernel; rfl; exact hC; exact (fun _ _ _ h => h); exact hR; with_reducible exact wanted_none) | ((with_reducible apply draw_pure (i := 12)); (simp only [q4, q6, q5]; with_reducible rfl); kernel_rfl; kernel_rfl; decide +kernel; rfl; exact hC; exact (fun _ _ _ h => h); exact hR; with_reducible exact wanted_none)); (intro w; first | (exact run_op_addStr rfl (by (exact ev_tmp rfl)) (by (first | exact ev_tmp rfl | exact ev_const)) (by (simp only [List.length_append, List.length_cons, List.length_nil]; omega))) | (go_simp; done) | (go_simp; rw [wrapI (by omega) (by omega)]) | (go_simp; with_reducible rfl) | (go_simp; rfl)); (clear hR hC; intro hR hC); (try simp only [Act.put, q1, q2, q3])) | ((first | ((with_reducible apply draw_read (i := 4)); (simp only [q4, q6, q5]; with_reducible rfl); kernel_rfl; kernel_rfl; decide +kernel; kernel_rfl; rfl; exact hC; exact (fun _ _ _ h => h); exact hR; kernel_rfl; with_reducible exact wanted_none) | ((with_reducible apply draw_read (i := 10)); (simp only [q4, q6, q5]; with_reducible rfl); kernel_rfl; kernel_rfl; decide +kernel; kernel_rfl; rfl; exact hC; exact (fun _ _ _ h => h); exact hR; kernel_rfl; with_reducible exact wanted_none)); (intro w hS; (apply run_op_load rfl (by (exact ev_tmp rfl))); first | exact run_loadVar1 (by decide +kernel) (hS.cell (by (repeat (with_reducible apply mem_tl))) rfl) | exact run_loadVar1 (by decide +kernel) ((hS.ownCell (by (repeat (with_reducible apply mem_tl))) (by (rfl))).1) | exact run_loadVar1 (by decide +kernel) (Sat.rdCell2 (by assumption) hS (by ((repeat (with_reducible apply mem_tl))); try assumption) (by (rfl))) | exact run_loadVar1 (by decide +kernel) (hS.baseCell (by ((repeat (with_reducible apply mem_tl))); try assumption) (by assumption)) | exact run_loadVar1 (by decide +kernel) (fzC (by assumption) hS (by ((repeat (with_reducible apply mem_tl))); try assumption)) | exact run_loadRN hS (by assumption) (by ((repeat (with_reducible apply mem_tl))); try assumption) (by assumption) (by rfl) (by with_reducible exact sz7) (by decide +kernel) (by decide) | exact hS.loadWhole (by (repeat (with_reducible apply mem_tl))) (by kernel_rfl) (by kernel_rfl)); (clear hR hC; intro hR hC); (try simp only [Act.put, q1, q2, q3])) | ((with_reducible apply draw_act (i := 5)); (simp only [q4, q6, q5]; with_reducible rfl); decide +kernel; exact hC; clear hR hC) | ((with_reducible apply draw_act (i := 11)); (simp only [q4, q6, q5]; with_reducible rfl); decide +kernel; exact hC; clear hR hC) | ((with_reducible apply draw_act (i := 13)); (simp only [q4, q6, q5]; with_reducible rfl); decide +kernel; exact hC; clear hR hC) | ((with_reducible apply draw_done); decide +kernel; clear hR hC) | (refine draw_sat 13 14 hS (by kernel_rfl) [13] rfl ?_; clear hS; intro w hS hR hC) | ((with_reducible apply arm_assertY); exact wanted_none; exact ev_tmp rfl; exact Tryz.underlying156; (try simp only [Act.put, q1, q2, q3])) | ((with_reducible apply arm_assertN); exact wanted_none; exact ev_tmp rfl; (decide); (with_reducible first | exact Tryz.underlying132 | exact Tryz.underlying137 | exact Tryz.underlying151); kernel_rfl; (try simp only [Act.put, q1, q2, q3])) | ((with_reducible apply arm_loadF hS); exact wanted_none; exact ev_tmp rfl; assumption; (((repeat (with_reducible apply mem_tl))); (try assumption)); decide +kernel; (try simp only [Act.put, q1, q2, q3])) | (go_at_call 78; refine (SP _ _ _ hS).mono ?_; clear hS; rintro e w ⟨rfl, hS⟩) | (go_at_call 75; refine (itoaC _ (by omega) (by omega) _ _ _ hS (by ((repeat (with_reducible apply mem_tl)); (try assumption))) htb).mono ?_; clear hS; rintro e w ⟨rfl, hS⟩) | (go_at_call 73; refine (bldWriteL b _ _ _ _ _ hS (by simp; omega)).mono ?_; clear hS; rintro e w ⟨rfl, hS⟩))
  have hch2 : size a < size (.qu op n a) := by simp [size]
  go_loopw [10] (fun x wr => ∃ (u : T) (cur : List UInt8), InT H u x ∧ okT u ∧ size u < size (.qu op n a) ∧ cur.length + 50 * size u + 10 ≤ 1000000000 ∧ cur ++ chain op u = l ++ X ∧ Sat w0 wr (bld b cur :: R)) (fun x _ => szOf H x)
  case atStart => exact ⟨a, l ++ (S1 ++ [120] ++ Lib.itoa n), hva, ka, hch2, by simp; omega, by rw [HX.out]; simp, by simpa using hS⟩
  case round =>
    clear hS
    obtain ⟨u, cur, hu, ku, su, hcl, hcur, hS⟩ := hrel
    have HC := hid hcur
    clear hcur
    have fin : ∀ (e : Ending) (w' : World), isQu op u = false → e = .returned (.tuple #[]) ∧ Sat w0 w' (bld b (cur ++ [58, 32] ++ Go.Proofs.YthackanffcaejaaGreatDoor.wr u true) :: R) → e = .returned (.tuple #[]) ∧ Sat w0 w' (bld b (l ++ X) :: R) := fun e w' hq h => by
      refine ⟨h.1, ?_⟩
      rw [← HC.out, chain_end hq, ← List.append_assoc]
      exact h.2
    have WU := HIH.out u su ku b (cur ++ [58, 32])
    by_cases hq : ∃ o m c, u = .qu o m c
    · obtain ⟨o, m, c, rfl⟩ := hq
      have hu0 := hu
      obtain ⟨vc, hvc, b2, rfl, hb2⟩ := hu
      have d2 : celH H b2 2 = some (.int .i64 o) := by simp [celH, hb2]
      have d3 : celH H b2 3 = some (.int .i64 m) := by simp [celH, hb2]
      have d4 : celH H b2 4 = some vc := by simp [celH, hb2]
      obtain ⟨o2, m1, m2, kc⟩ := ku
      have hml := Lib.itoa_length_le m (by omega) (by omega)
      by_cases ho : o = op
      · subst ho
        have HE := hid (show cur ++ ([44, 32, 120] ++ Lib.itoa m) ++ chain o c = l ++ X by rw [← HC.out, chain_same]; simp)
        have hz1 := szOf_eq hu0
        have hz2 := szOf_eq hvc
        obtain ⟨Kc, bc, rfl⟩ := hvc.form
        have hms : szOf H (.iface Kc (.pointer (some ⟨bc, 0, none⟩))) < szOf H (.iface 156 (.pointer (some ⟨b2, 0, none⟩))) := by rw [hz1, hz2]; simp [size]
        simp only [size] at hcl su
        clear fin WU hb2 hz1 hz2
        go_wp2_with (first | ((first | ((with_reducible apply draw_pure (i := 0)); (simp only [q4, q6, q5]; with_reducible rfl); kernel_rfl; kernel_rfl; decide +kernel; rfl; exact hC; exact (fun _ _ _ h => h); exact hR; with_reducible exact wanted_none) | ((with_reducible apply draw_pure (i := 1)); (simp only [q4, q6, q5]; with_reducible rfl); kernel_rfl; kernel_rfl; decide +kernel; rfl; exact hC; exact (fun _ _ _ h => h); exact hR; with_reducible exact wanted_none) | ((with_reducible apply draw_pure (i := 2)); (simp only [q4, q6, q5]; with_reducible rfl); kernel_rfl; kernel_rfl; decide +kernel; rfl; exact hC; exact (fun _ _ _ h => h); exact hR; with_reducible exact wanted_none) | ((with_reducible apply draw_pure (i := 3)); (simp only [q4, q6, q5]; with_reducible rfl); kernel_rfl; kernel_rfl; decide +kernel; rfl; exact hC; exact (fun _ _ _ h => h); exact hR; exact wanted_guard rfl rfl) | ((with_reducible apply draw_pure (i := 4)); (simp only [q4, q6, q5]; with_reducible rfl); kernel_rfl; kernel_rfl; decide +kernel; rfl; exact hC; exact (fun _ _ _ h => h); exact hR; exact wanted_guard rfl rfl) | ((with_reducible apply draw_pure (i := 7)); (simp only [q4, q6, q5]; with_reducible rfl); kernel_rfl; kernel_rfl; decide +kernel; rfl; exact hC; exact (fun _ _ _ h => h); exact hR; exact wanted_guard rfl rfl) | ((with_reducible apply draw_pure (i := 8)); (simp only [q4, q6, q5]; with_reducible rfl); kernel_rfl; kernel_rfl; decide +kernel; rfl; exact hC; exact (fun _ _ _ h => h); exact hR; exact wanted_guard rfl rfl) | ((with_reducible apply draw_pure (i := 11)); (simp only [q4, q6, q5]; with_reducible rfl); kernel_rfl; kernel_rfl; decide +kernel; rfl; exact hC; exact (fun _ _ _ h => h); exact hR; exact wanted_guard rfl rfl) | ((with_reducible apply draw_pure (i := 12)); (simp only [q4, q6, q5]; with_reducible rfl); kernel_rfl; kernel_rfl; decide +kernel; rfl; exact hC; exact (fun _ _ _ h => h); exact hR; with_reducible exact wanted_none)); (intro w; first | (go_simp; done) | (go_simp; rw [wrapI (by omega) (by omega)]) | (go_simp; with_reducible rfl) | (go_simp; rfl)); (clear hR hC; intro hR hC); (try simp only [Act.put, q1, q2, q3])) | ((first | ((with_reducible apply draw_pure (i := 5)); (simp only [q4, q6, q5]; with_reducible rfl); kernel_rfl; kernel_rfl; decide +kernel; rfl; exact hC; exact (fun _ _ _ h => h); exact hR; exact wanted_guard rfl rfl) | ((with_reducible apply draw_pure (i := 9)); (simp only [q4, q6, q5]; with_reducible rfl); kernel_rfl; kernel_rfl; decide +kernel; rfl; exact hC; exact (fun _ _ _ h => h); exact hR; exact wanted_guard rfl rfl)); (intro w; first | (exact draw_fa rfl (by (exact ev_const)) (by assumption) (by with_reducible exact fo7_0)) | (go_simp; done) | (go_simp; rw [wrapI (by omega) (by omega)]) | (go_simp; with_reducible rfl) | (go_simp; rfl)); (clear hR hC; intro hR hC); (try simp only [Act.put, q1, q2, q3])) | ((first | ((with_reducible apply draw_read (i := 6)); (simp only [q4, q6, q5]; with_reducible rfl); kernel_rfl; kernel_rfl; decide +kernel; kernel_rfl; rfl; exact hC; exact (fun _ _ _ h => h); exact hR; kernel_rfl; exact wanted_guard rfl rfl) | ((with_reducible apply draw_read (i := 10)); (simp only [q4, q6, q5]; with_reducible rfl); kernel_rfl; kernel_rfl; decide +kernel; kernel_rfl; rfl; exact hC; exact (fun _ _ _ h => h); exact hR; kernel_rfl; exact wanted_guard rfl rfl)); (intro w hS; (apply run_op_load rfl (by (exact ev_tmp rfl))); first | exact run_loadVar1 (by decide +kernel) (hS.cell (by (repeat (with_reducible apply mem_tl))) rfl) | exact run_loadVar1 (by decide +kernel) ((hS.ownCell (by (repeat (with_reducible apply mem_tl))) (by (rfl))).1) | exact run_loadVar1 (by decide +kernel) (Sat.rdCell2 (by assumption) hS (by ((repeat (with_reducible apply mem_tl))); try assumption) (by (rfl))) | exact run_loadVar1 (by decide +kernel) (hS.baseCell (by ((repeat (with_reducible apply mem_tl))); try assumption) (by assumption)) | exact run_loadVar1 (by decide +kernel) (fzC (by assumption) hS (by ((repeat (with_reducible apply mem_tl))); try assumption)) | exact run_loadRN hS (by assumption) (by ((repeat (with_reducible apply mem_tl))); try assumption) (by assumption) (by rfl) (by with_reducible exact sz7) (by decide +kernel) (by decide) | exact hS.loadWhole (by (repeat (with_reducible apply mem_tl))) (by kernel_rfl) (by kernel_rfl)); (clear hR hC; intro hR hC); (try simp only [Act.put, q1, q2, q3])) | ((with_reducible apply draw_done); decide +kernel; clear hR hC) | (refine draw_sat 16 13 hS (by kernel_rfl) [] rfl ?_; clear hS; intro w hS hR hC) | ((with_reducible apply arm_assertY); exact wanted_none; exact ev_tmp rfl; exact Tryz.underlying156; (try simp only [Act.put, q1, q2, q3])) | ((with_reducible apply arm_loadF hS); exact wanted_none; exact ev_tmp rfl; assumption; (((repeat (with_reducible apply mem_tl))); (try assumption)); decide +kernel; (try simp only [Act.put, q1, q2, q3])) | ((with_reducible apply arm_addStr); exact wanted_none; exact ev_const; exact ev_tmp rfl; (simp only [List.length_append, List.length_cons, List.length_nil]; omega); (try simp only [Act.put, q1, q2, q3])) | (go_at_call 75; refine (itoaC _ (by omega) (by omega) _ _ _ hS (by ((repeat (with_reducible apply mem_tl)); (try assumption))) htb).mono ?_; clear hS; rintro e w ⟨rfl, hS⟩) | (go_at_call 73; refine (bldWriteL b _ _ _ _ _ hS (by simp; omega)).mono ?_; clear hS; rintro e w ⟨rfl, hS⟩))
        go_roundw
        case rel => exact ⟨c, cur ++ ([44, 32, 120] ++ Lib.itoa m), hvc, kc, by simp [size]; omega, by simp; omega, HE.out, by simpa using hS⟩
        case measure => exact hms
      · have hqf : isQu op (.qu o m c) = false := by simp [isQu, ho]
        have hne : (o == op) = false := by simp [ho]
        simp only [size] at hcl su
        clear hb2
        go_wp2_with (first | ((first | ((with_reducible apply draw_pure (i := 0)); (simp only [q4, q6, q5]; with_reducible rfl); kernel_rfl; kernel_rfl; decide +kernel; rfl; exact hC; exact (fun _ _ _ h => h); exact hR; with_reducible exact wanted_none) | ((with_reducible apply draw_pure (i := 1)); (simp only [q4, q6, q5]; with_reducible rfl); kernel_rfl; kernel_rfl; decide +kernel; rfl; exact hC; exact (fun _ _ _ h => h); exact hR; with_reducible exact wanted_none) | ((with_reducible apply draw_pure (i := 2)); (simp only [q4, q6, q5]; with_reducible rfl); kernel_rfl; kernel_rfl; decide +kernel; rfl; exact hC; exact (fun _ _ _ h => h); exact hR; with_reducible exact wanted_none) | ((with_reducible apply draw_pure (i := 3)); (simp only [q4, q6, q5]; with_reducible rfl); kernel_rfl; kernel_rfl; decide +kernel; rfl; exact hC; exact (fun _ _ _ h => h); exact hR; exact wanted_guard rfl rfl) | ((with_reducible apply draw_pure (i := 4)); (simp only [q4, q6, q5]; with_reducible rfl); kernel_rfl; kernel_rfl; decide +kernel; rfl; exact hC; exact (fun _ _ _ h => h); exact hR; exact wanted_guard rfl rfl) | ((with_reducible apply draw_pure (i := 7)); (simp only [q4, q6, q5]; with_reducible rfl); kernel_rfl; kernel_rfl; decide +kernel; rfl; exact hC; exact (fun _ _ _ h => h); exact hR; exact wanted_guard rfl rfl) | ((with_reducible apply draw_pure (i := 8)); (simp only [q4, q6, q5]; with_reducible rfl); kernel_rfl; kernel_rfl; decide +kernel; rfl; exact hC; exact (fun _ _ _ h => h); exact hR; exact wanted_guard rfl rfl) | ((with_reducible apply draw_pure (i := 11)); (simp only [q4, q6, q5]; with_reducible rfl); kernel_rfl; kernel_rfl; decide +kernel; rfl; exact hC; exact (fun _ _ _ h => h); exact hR; exact wanted_guard rfl rfl) | ((with_reducible apply draw_pure (i := 12)); (simp only [q4, q6, q5]; with_reducible rfl); kernel_rfl; kernel_rfl; decide +kernel; rfl; exact hC; exact (fun _ _ _ h => h); exact hR; with_reducible exact wanted_none)); (intro w; first | (go_simp; done) | (go_simp; rw [wrapI (by omega) (by omega)]) | (go_simp; with_reducible rfl) | (go_simp; rfl)); (clear hR hC; intro hR hC); (try simp only [Act.put, q1, q2, q3])) | ((first | ((with_reducible apply draw_pure (i := 5)); (simp only [q4, q6, q5]; with_reducible rfl); kernel_rfl; kernel_rfl; decide +kernel; rfl; exact hC; exact (fun _ _ _ h => h); exact hR; exact wanted_guard rfl rfl) | ((with_reducible apply draw_pure (i := 9)); (simp only [q4, q6, q5]; with_reducible rfl); kernel_rfl; kernel_rfl; decide +kernel; rfl; exact hC; exact (fun _ _ _ h => h); exact hR; exact wanted_guard rfl rfl)); (intro w; first | (exact draw_fa rfl (by (exact ev_const)) (by assumption) (by with_reducible exact fo7_0)) | (go_simp; done) | (go_simp; rw [wrapI (by omega) (by omega)]) | (go_simp; with_reducible rfl) | (go_simp; rfl)); (clear hR hC; intro hR hC); (try simp only [Act.put, q1, q2, q3])) | ((first | ((with_reducible apply draw_read (i := 6)); (simp only [q4, q6, q5]; with_reducible rfl); kernel_rfl; kernel_rfl; decide +kernel; kernel_rfl; rfl; exact hC; exact (fun _ _ _ h => h); exact hR; kernel_rfl; exact wanted_guard rfl rfl) | ((with_reducible apply draw_read (i := 10)); (simp only [q4, q6, q5]; with_reducible rfl); kernel_rfl; kernel_rfl; decide +kernel; kernel_rfl; rfl; exact hC; exact (fun _ _ _ h => h); exact hR; kernel_rfl; exact wanted_guard rfl rfl)); (intro w hS; (apply run_op_load rfl (by (exact ev_tmp rfl))); first | exact run_loadVar1 (by decide +kernel) (hS.cell (by (repeat (with_reducible apply mem_tl))) rfl) | exact run_loadVar1 (by decide +kernel) ((hS.ownCell (by (repeat (with_reducible apply mem_tl))) (by (rfl))).1) | exact run_loadVar1 (by decide +kernel) (Sat.rdCell2 (by assumption) hS (by ((repeat (with_reducible apply mem_tl))); try assumption) (by (rfl))) | exact run_loadVar1 (by decide +kernel) (hS.baseCell (by ((repeat (with_reducible apply mem_tl))); try assumption) (by assumption)) | exact run_loadVar1 (by decide +kernel) (fzC (by assumption) hS (by ((repeat (with_reducible apply mem_tl))); try assumption)) | exact run_loadRN hS (by assumption) (by ((repeat (with_reducible apply mem_tl))); try assumption) (by assumption) (by rfl) (by with_reducible exact sz7) (by decide +kernel) (by decide) | exact hS.loadWhole (by (repeat (with_reducible apply mem_tl))) (by kernel_rfl) (by kernel_rfl)); (clear hR hC; intro hR hC); (try simp only [Act.put, q1, q2, q3])) | ((with_reducible apply draw_done); decide +kernel; clear hR hC) | (refine draw_sat 16 13 hS (by kernel_rfl) [] rfl ?_; clear hS; intro w hS hR hC) | ((with_reducible apply arm_assertY); exact wanted_none; exact ev_tmp rfl; exact Tryz.underlying156; (try simp only [Act.put, q1, q2, q3])) | (go_at_call 73; refine (bldWriteL b _ _ _ _ _ hS (by simp; omega)).mono ?_; clear hS; rintro e w ⟨rfl, hS⟩) | (go_at_call 34; refine (WU _ H true _ _ R hu0 hS hf hb htb (by simp [size]; omega)).mono ?_; clear hS WU; rintro e w ⟨rfl, hS⟩))
        go_end0
        exact fin _ _ hqf ⟨rfl, hS⟩
    · have hqf : isQu op u = false := by
        cases u with
        | qu o m c => exact absurd ⟨o, m, c, rfl⟩ hq
        | _ => rfl
      obtain ⟨Ku, bu, rfl, hK⟩ := hu.notQu fun o m c e => hq ⟨o, m, c, e⟩
      go_wp2_with (first | ((first | ((with_reducible apply draw_pure (i := 0)); (simp only [q4, q6, q5]; with_reducible rfl); kernel_rfl; kernel_rfl; decide +kernel; rfl; exact hC; exact (fun _ _ _ h => h); exact hR; with_reducible exact wanted_none) | ((with_reducible apply draw_pure (i := 1)); (simp only [q4, q6, q5]; with_reducible rfl); kernel_rfl; kernel_rfl; decide +kernel; rfl; exact hC; exact (fun _ _ _ h => h); exact hR; with_reducible exact wanted_none) | ((with_reducible apply draw_pure (i := 2)); (simp only [q4, q6, q5]; with_reducible rfl); kernel_rfl; kernel_rfl; decide +kernel; rfl; exact hC; exact (fun _ _ _ h => h); exact hR; with_reducible exact wanted_none) | ((with_reducible apply draw_pure (i := 12)); (simp only [q4, q6, q5]; with_reducible rfl); kernel_rfl; kernel_rfl; decide +kernel; rfl; exact hC; exact (fun _ _ _ h => h); exact hR; with_reducible exact wanted_none)); (intro w; first | (go_simp; done) | (go_simp; rw [wrapI (by omega) (by omega)]) | (go_simp; with_reducible rfl) | (go_simp; rfl)); (clear hR hC; intro hR hC); (try simp only [Act.put, q1, q2, q3])) | ((first | ((with_reducible apply draw_skip (i := 3)); (simp only [q4, q6, q5]; with_reducible rfl); kernel_rfl; kernel_rfl; decide +kernel; rfl; exact hC; exact (fun _ _ _ h => h); exact hR; (exact wanted_not rfl rfl)) | ((with_reducible apply draw_skip (i := 4)); (simp only [q4, q6, q5]; with_reducible rfl); kernel_rfl; kernel_rfl; decide +kernel; rfl; exact hC; exact (fun _ _ _ h => h); exact hR; (exact wanted_not rfl rfl)) | ((with_reducible apply draw_skip (i := 5)); (simp only [q4, q6, q5]; with_reducible rfl); kernel_rfl; kernel_rfl; decide +kernel; rfl; exact hC; exact (fun _ _ _ h => h); exact hR; (exact wanted_not rfl rfl)) | ((with_reducible apply draw_skip (i := 6)); (simp only [q4, q6, q5]; with_reducible rfl); kernel_rfl; kernel_rfl; decide +kernel; rfl; exact hC; exact (fun _ _ _ h => h); exact hR; (exact wanted_not rfl rfl)) | ((with_reducible apply draw_skip (i := 7)); (simp only [q4, q6, q5]; with_reducible rfl); kernel_rfl; kernel_rfl; decide +kernel; rfl; exact hC; exact (fun _ _ _ h => h); exact hR; (exact wanted_not rfl rfl)) | ((with_reducible apply draw_skip (i := 8)); (simp only [q4, q6, q5]; with_reducible rfl); kernel_rfl; kernel_rfl; decide +kernel; rfl; exact hC; exact (fun _ _ _ h => h); exact hR; (exact wanted_not rfl rfl)) | ((with_reducible apply draw_skip (i := 9)); (simp only [q4, q6, q5]; with_reducible rfl); kernel_rfl; kernel_rfl; decide +kernel; rfl; exact hC; exact (fun _ _ _ h => h); exact hR; (exact wanted_not rfl rfl)) | ((with_reducible apply draw_skip (i := 10)); (simp only [q4, q6, q5]; with_reducible rfl); kernel_rfl; kernel_rfl; decide +kernel; rfl; exact hC; exact (fun _ _ _ h => h); exact hR; (exact wanted_not rfl rfl)) | ((with_reducible apply draw_skip (i := 11)); (simp only [q4, q6, q5]; with_reducible rfl); kernel_rfl; kernel_rfl; decide +kernel; rfl; exact hC; exact (fun _ _ _ h => h); exact hR; (exact wanted_not rfl rfl))); (clear hR hC; intro hR hC); (try simp only [Act.put, q1, q2, q3])) | ((with_reducible apply draw_done); decide +kernel; clear hR hC) | (refine draw_sat 16 13 hS (by kernel_rfl) [] rfl ?_; clear hS; intro w hS hR hC) | ((with_reducible apply arm_assertN); exact wanted_none; exact ev_tmp rfl; (assumption); exact Tryz.underlying156; kernel_rfl; (try simp only [Act.put, q1, q2, q3])) | (go_at_call 73; refine (bldWriteL b _ _ _ _ _ hS (by simp; omega)).mono ?_; clear hS; rintro e w ⟨rfl, hS⟩) | (go_at_call 34; refine (WU _ H true _ _ R hu hS hf hb htb (by simp; omega)).mono ?_; clear hS WU; rintro e w ⟨rfl, hS⟩))
      go_end0
      exact fin _ _ hqf ⟨rfl, hS⟩

theorem writeM : ∀ (n : Nat) (t : T), size t = n → okT t → size t ≤ 1000000 → WC t := by
  intro n
  induction n using Nat.strongRecOn with
  | _ n ih =>
    intro t hn ht hs
    subst hn
    cases t with
    | cst m => exact writeLeaf _ ht hs (.inl ⟨m, rfl⟩)
    | var m => exact writeLeaf _ ht hs (.inr (.inl ⟨m, rfl⟩))
    | neg a => exact writeLeaf _ ht hs (.inr (.inr ⟨a, rfl, ih _ (by simp [size]) a rfl ht (by simp [size] at hs; omega)⟩))
    | qu op m a => exact writeQu op m a ht hs fun u hu hk => ih _ hu u rfl hk (by omega)
    | bin op a b => exact writeBin op a b ht hs (ih _ (by simp [size]; omega) a rfl ht.2.2.1 (by simp [size] at hs; omega)) (ih _ (by simp [size]; omega) b rfl ht.2.2.2 (by simp [size] at hs; omega))
    | ite c a b => exact writeIte c a b ht hs (ih _ (by simp [size]; omega) c rfl ht.1 (by simp [size] at hs; omega)) (ih _ (by simp [size]; omega) a rfl ht.2.1 (by simp [size] at hs; omega)) (ih _ (by simp [size]; omega) b rfl ht.2.2 (by simp [size] at hs; omega))
end Go.Proofs.YthackanffcaejaaGreatDoor
end
section
set_option linter.unusedSimpArgs false
set_option linter.unusedVariables false
set_option linter.unusedSectionVars false
set_option maxRecDepth 20000
namespace Go.Proofs.YthackanffcaejaaGreatDoor
open Go Go.RowKit Go.SL

section
variable (fs : List (Int × Int)) (hl : fs.length ≤ 9223372036854775807) (ad : Option Addr) (cap : Nat) (w0 w : World) (Hs : List HP) (hS : Sat w0 w Hs) {A : HP} (hA : A ∈ Hs) (hr : Rd A ad (Fs fs))
include hl hS hA hr
theorem treeNone (h : treeP fs = none) : Calls Tryz.prog 33 #[.slice ad fs.length cap] w fun e w' => e = .returned .nilIface ∧ Sat w0 w' Hs := by
  by_cases hb : fs.length ≤ 65536
  · refine (treeM fs hb ad cap w0 w Hs hS hA hr).mono fun e w' ⟨v, he, hp⟩ => ?_
    rcases hp with ⟨rfl, _, hS'⟩ | ⟨t, H, ht, _⟩
    · exact ⟨he, hS'⟩
    · rw [h] at ht; cases ht
  · refine (treeBig fs hb hl ad cap w0 w Hs hS).mono fun e w' ⟨v, he, hp⟩ => ?_
    rcases hp with ⟨rfl, _, hS'⟩ | ⟨t, H, ht, _⟩
    · exact ⟨he, hS'⟩
    · rw [h] at ht; cases ht
theorem treeSome (t : T) (h : treeP fs = some t) : Calls Tryz.prog 33 #[.slice ad fs.length cap] w fun e w' => ∃ v H, e = .returned v ∧ InT H t v ∧ Sat w0 w' (fz H :: Hs) := by
  refine (treeM fs (treeQ_some (treeP_some h).1).1 ad cap w0 w Hs hS hA hr).mono fun e w' ⟨v, he, hp⟩ => ?_
  rcases hp with ⟨rfl, hn, hS'⟩ | ⟨t', H, ht, hT, hS'⟩
  · rw [h] at hn; cases hn
  · rw [h] at ht; simp at ht; subst ht; exact ⟨v, H, he, hT, hS'⟩
theorem printE (hm : base w0 ∈ Hs) (htb : Tab w0) : Calls Tryz.prog 14 #[.slice ad fs.length cap] w fun e w' => e = .returned (.tuple #[.string ⟨(printsP fs).1.toArray⟩, .int .i64 (printsP fs).2]) ∧ Sat w0 w' Hs := by
  obtain ⟨O, hO⟩ : ∃ O, O = printsP fs := ⟨_, rfl⟩
  cases h : treeP fs with
  | none =>
    have HO := hid (show O = ([], 134) by rw [hO, printsP, h])
    have TN := treeNone fs hl ad cap w0 w Hs hS hA hr h
    rw [← hO]
    clear h hO
    go_enter Tryz.func14, Tryz.ntmps14
    go_wp2_with (go_at_call 33; refine TN.mono ?_; clear hS TN; rintro e w ⟨rfl, hS⟩)
    go_ret2
    exact ⟨by rw [HO.out]; rfl, hS⟩
  | some t =>
    obtain ⟨q1, q2, q3, q4, q5⟩ := treeQ_some (treeP_some h).1
    have HO1 := hid (show (wr t true).length > 1048576 → O = ([], 5) from fun hh => by rw [hO, printsP, h]; simp only [if_pos hh])
    have HO2 := hid (show ¬ (wr t true).length > 1048576 → O = (wr t true, 0) from fun hh => by rw [hO, printsP, h]; simp only [if_neg hh])
    have TS := treeSome fs hl ad cap w0 w Hs hS hA hr t h
    have WM := writeM _ t rfl q3 (by omega)
    obtain ⟨w1, w2, w3⟩ := wr_le t q3 (by omega)
    rw [← hO]
    generalize hX : wr t true = X at *
    have HX := hid hX
    clear h hO q4 hX
    by_cases hbig : X.length > 1048576
    · go_enter Tryz.func14, Tryz.ntmps14
      go_wp2_with (first | ((with_reducible apply arm_alloc hS); exact wanted_none; exact z74; clear hS; intro NB w hS; (replace hS := new_bld hS); (try simp only [Act.put, q1, q2, q3])) | (go_at_call 33; refine TS.mono ?_; clear hS TS; rintro e w ⟨v, H, rfl, hT, hS⟩; obtain ⟨K, b, rfl⟩ := hT.form) | (go_at_call 34; refine (WM NB [] _ H true _ _ _ hT hS (by ((repeat (with_reducible exact mem_hd)); (try assumption))) (by ((repeat (with_reducible apply mem_tl)); (try assumption))) htb (by simp; omega)).mono ?_; clear hS; rintro e w ⟨rfl, hS⟩; rw [HX.out, List.nil_append] at hS) | (go_at_call 35; refine (bldLen NB _ _ _ _ hS (by ((repeat (with_reducible exact mem_hd)); (try assumption)))).mono ?_; clear hS; rintro e w ⟨rfl, hS⟩))
      go_ret2
      refine ⟨?_, hS.drop.drop⟩
      rw [HO1.out hbig]
      rfl
    · go_enter Tryz.func14, Tryz.ntmps14
      go_wp2_with (first | ((with_reducible apply arm_alloc hS); exact wanted_none; exact z74; clear hS; intro NB w hS; (replace hS := new_bld hS); (try simp only [Act.put, q1, q2, q3])) | (go_at_call 33; refine TS.mono ?_; clear hS TS; rintro e w ⟨v, H, rfl, hT, hS⟩; obtain ⟨K, b, rfl⟩ := hT.form) | (go_at_call 34; refine (WM NB [] _ H true _ _ _ hT hS (by ((repeat (with_reducible exact mem_hd)); (try assumption))) (by ((repeat (with_reducible apply mem_tl)); (try assumption))) htb (by simp; omega)).mono ?_; clear hS; rintro e w ⟨rfl, hS⟩; rw [HX.out, List.nil_append] at hS) | (go_at_call 35; refine (bldLen NB _ _ _ _ hS (by ((repeat (with_reducible exact mem_hd)); (try assumption)))).mono ?_; clear hS; rintro e w ⟨rfl, hS⟩) | (go_at_call 36; refine (bldString NB _ _ _ _ _ hS (by repeat (with_reducible exact Rem.hd))).mono ?_; clear hS; rintro e w ⟨rfl, hS⟩))
      go_ret2
      refine ⟨?_, hS.drop⟩
      rw [HO2.out hbig]
      rfl
end
end Go.Proofs.YthackanffcaejaaGreatDoor
end
