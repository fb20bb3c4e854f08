/- A part of the proof: Bld Slc CnfP Cnf1 Cl1 ClR Own4 Own5 Own6 Own7 Byt. -/
import Derived.Test.YthackanffcaejaaGreatDoorM1
import Derived.Test.YthackanffcaejaaGreatDoorM2
import Derived.Lib.Builder
import Derived.Lib.UnsafeStr
import Derived.Laws.Externs
import Derived.WalkKit
import Derived.Laws.Concat
import Derived.Lib.ItoaLen
import Derived.Lib.ItoaMem
import Derived.WalkLawsBesides
import Derived.WalkSpells
import Derived.Shelf.Abstract
import Derived.Shelf.RegionOpen
import Derived.OwnWalkIn
import Derived.TacticsInMore
import Derived.LoopNIn
import Derived.LoopIn
import Derived.Lib.Bytealg
import Derived.Lib.ConvBytes
section
set_option linter.unusedVariables false
set_option linter.unusedSimpArgs false
set_option maxRecDepth 20000
namespace Go.Proofs.YthackanffcaejaaGreatDoor
open Go Go.RowKit Go.SL

theorem run_op_sliceData {P : Program} {w w' : World} {o : Oper} {x : Operand} {ts : Array TypeId} (ho : o.op = .call { callee := .builtin .unsafeSliceData, args := #[x], argTypes := ts }) {ρ : Operand → Value} {v u : Value} (hx : ρ x = u)
    (hr : (Builtin.unsafeSliceData_ ts o.type #[u]).run P w = .ok v w') : (execOp ρ o).run P w = .ok (.value v) w' := by
  subst hx; simp [execOp, ho, resolve, invoke, builtin, hr]
theorem run_op_unsafeString {P : Program} {w w' : World} {o : Oper} {x y : Operand} {ts : Array TypeId} (ho : o.op = .call { callee := .builtin .unsafeString, args := #[x, y], argTypes := ts }) {ρ : Operand → Value} {v u z : Value} (hx : ρ x = u) (hy : ρ y = z)
    (hr : (Builtin.unsafeString_ ts o.type #[u, z]).run P w = .ok v w') : (execOp ρ o).run P w = .ok (.value v) w' := by
  subst hx; subst hy; simp [execOp, ho, resolve, invoke, builtin, hr]
theorem Sat.freeze {w0 w : World} {R : List HP} {e : TypeId} {size n cap g k : Nat} {xs : List Value} (hS : Sat w0 w (own e size (some ⟨g, 0, none⟩) n cap xs :: R)) : Sat w0 (w.freeze ⟨g, 0, none⟩ k) R := by
  refine Sat.drop (A := emp) (hS.step (by unfold World.freeze; split <;> rfl) (by unfold World.freeze; split <;> rfl) (by unfold World.freeze; split <;> rfl) ?_ fun h hA hw => ⟨fun _ => none, fun _ => rfl, fun _ _ h => (by cases h), fun _ h => absurd rfl h, fun b hb hn => ?_⟩)
  · unfold World.freeze; split <;> simp
  · have hbg : g ≠ b := by
      rintro rfl
      rcases hA.2 with ⟨h0, _⟩ | ⟨g', cur, hg, _, _, _, _, hblk⟩
      · cases h0
      · have : g' = g := by simpa using hg.symm
        subst this
        rw [hblk g'] at hn
        simp at hn
    unfold World.freeze
    split
    · rfl
    · simp [Array.getElem?_modify, hbg]

def bld (b : Nat) (l : List UInt8) : HP := fun h => ∃ (p : Option Addr) (ad : Option Addr) (cap : Nat), (p = none ∨ p = some ⟨b, 0, none⟩) ∧ sep (blk b 74 [.pointer p, .slice ad l.length cap]) (own 5 1 ad l.length cap (Bs l)) h
theorem open_bld {w0 w : World} {Hs R : List HP} {b : Nat} {l : List UInt8} (hS : Sat w0 w (bld b l :: R)) :
    ∃ (p : Option Addr) (ad : Option Addr) (cap : Nat), (p = none ∨ p = some ⟨b, 0, none⟩) ∧ Sat w0 w (blk b 74 [.pointer p, .slice ad l.length cap] :: own 5 1 ad l.length cap (Bs l) :: R) := by
  obtain ⟨p, hS⟩ := hS.ex
  obtain ⟨ad, hS⟩ := hS.ex
  obtain ⟨cap, hS⟩ := hS.ex
  obtain ⟨hp, hS⟩ := hS.pure
  exact ⟨p, ad, cap, hp, hS.split⟩
theorem shut_bld {w0 w : World} {R : List HP} {b : Nat} {l : List UInt8} {p ad : Option Addr} {n cap : Nat} (hp : p = none ∨ p = some ⟨b, 0, none⟩) (hn : n = l.length)
    (hS : Sat w0 w (blk b 74 [.pointer p, .slice ad n cap] :: own 5 1 ad n cap (Bs l) :: R)) : Sat w0 w (bld b l :: R) := by
  subst hn
  exact (hS.join).turn fun g h => ⟨p, ad, cap, hp, h⟩
theorem new_bld {w0 w : World} {R : List HP} {b : Nat} (hS : Sat w0 w (blk b 74 [.pointer none, .slice none 0 0] :: R)) : Sat w0 w (bld b [] :: R) := by
  have h := hS.ownNil 5 1
  have h2 : Sat w0 w (blk b 74 [.pointer none, .slice none 0 0] :: own 5 1 none 0 0 [] :: R) := h.front (Rem.tl Rem.hd)
  exact shut_bld (l := []) (.inl rfl) rfl h2

theorem copyCheck (b : Nat) (p : Option Addr) (hp : p = none ∨ p = some ⟨b, 0, none⟩) (v : Value) (w0 w : World) (R : List HP) (hS : Sat w0 w (blk b 74 [.pointer p, v] :: R)) :
    Calls Tryz.prog 108 #[.pointer (some ⟨b, 0, none⟩)] w fun e w' => e = .returned (.tuple #[]) ∧ Sat w0 w' (blk b 74 [.pointer (some ⟨b, 0, none⟩), v] :: R) := by
  have hb := hS.block mem_hd
  have hsh : w.shape? b = some (74, 2) := by simp [World.shape?, hb]
  obtain ⟨j, hj, hjs⟩ : ∃ j, Tryz.prog.info? 74 = some j ∧ j.size = 2 := Option.map_eq_some_iff.1 (show (Tryz.prog.info? 74).map (·.size) = some 2 by kernel_rfl)
  rcases hp with rfl | rfl
  · go_enter Tryz.func108, Tryz.ntmps108
    go_wp2_with ((with_reducible apply arm_load hS); exact wanted_none; exact ev_tmp rfl; (repeat (with_reducible exact mem_hd)); rfl; decide +kernel; (try simp only [Act.put, q1, q2, q3]))
    rw [Lib.run_to_unsafe w ⟨b, 0, none⟩ Tryz.underlying72 Tryz.underlying200 hj (by rw [hjs]; decide) hsh (Nat.zero_lt_succ 1)]
    simp only [Result.andThen]
    rw [Oper.upon_value]
    go_wp2
    rw [run_callFunc_extern Tryz.func129 (by kernel_rfl) (by kernel_rfl) (by kernel_rfl) (e := Extern.AbiNoEscape.same) (by kernel_rfl)]
    rw [Lib.run_noEscape]
    simp only [Result.andThen]
    rw [Oper.upon_value]
    go_wp2
    rw [Lib.run_from_unsafe w ⟨b, 0, none⟩ Tryz.underlying200 Tryz.underlying72 hj hsh (by kernel_rfl)]
    simp only [Result.andThen]
    rw [Oper.upon_value]
    go_wp2_with ((with_reducible apply arm_store hS); exact wanted_none; exact ev_tmp rfl; exact ev_tmp rfl; (repeat (with_reducible exact mem_hd)); rfl; (focus (simp; done)); (repeat (with_reducible exact Upd.hd)); rfl; decide +kernel; clear hS; intro w hS; (try simp only [q2, q3] at hS); (try simp only [Act.put, q1, q2, q3]))
    go_end0
    exact ⟨rfl, hS⟩
  · go_enter Tryz.func108, Tryz.ntmps108
    go_wp2_with ((with_reducible apply arm_load hS); exact wanted_none; exact ev_tmp rfl; (repeat (with_reducible exact mem_hd)); rfl; decide +kernel; (try simp only [Act.put, q1, q2, q3]))
    rw [Lib.run_neq_ptr_same w _ Tryz.underlying72 hj]
    go_wp2
    go_end0
    exact ⟨rfl, hS⟩

theorem bldWrite (b : Nat) (l : List UInt8) (s : ByteArray) (w0 w : World) (Hs Hs' : List HP) (hS : Sat w0 w Hs) (u : Upd Hs (bld b l) (bld b (l ++ s.data.toList)) Hs') (hl : l.length + s.size ≤ 140737488355328) :
    Calls Tryz.prog 73 #[.pointer (some ⟨b, 0, none⟩), .string s] w fun e w' => e = .returned (.tuple #[.int .i64 s.size, .nilIface]) ∧ Sat w0 w' Hs' := by
  obtain ⟨R, r1, r2⟩ := u.rem
  obtain ⟨p, ad, cap, hp, hS⟩ := open_bld (Hs := Hs) (hS.front r1)
  go_enter Tryz.func73, Tryz.ntmps73
  go_wp2_with (first | (go_at_call 108; refine (copyCheck b p hp _ _ _ _ hS).mono ?_; clear hS; rintro e w ⟨rfl, hS⟩) | ((with_reducible apply arm_load hS); exact wanted_none; exact ev_tmp rfl; (repeat (with_reducible exact mem_hd)); rfl; decide +kernel; (try simp only [Act.put, q1, q2, q3])) | ((with_reducible apply arm_store hS); exact wanted_none; exact ev_tmp rfl; exact ev_tmp rfl; (repeat (with_reducible first | exact mem_hd | apply mem_tl)); rfl; (focus (simp; done)); (repeat (with_reducible first | exact Upd.hd | apply Upd.tl)); rfl; decide +kernel; clear hS; intro w hS; (try simp only [q2, q3] at hS); (try simp only [Act.put, q1, q2, q3])) | ((with_reducible apply arm_appendStr hS); exact wanted_none; exact ev_tmp rfl; exact ev_tmp rfl; exact E66; kernel_rfl; kernel_rfl; (repeat (with_reducible first | exact Rem.hd | apply Rem.tl)); (omega); clear hS; intro AD CAP w hS; (try simp only [Act.put, q1, q2, q3])))
  go_ret2
  rw [← Bs_append] at hS
  exact ⟨rfl, Sat.put (shut_bld (ad := AD) (cap := CAP) (.inr rfl) (by simp) (hS.front (Rem.tl Rem.hd))) r2⟩

theorem bldLen (b : Nat) (l : List UInt8) (w0 w : World) (Hs : List HP) (hS : Sat w0 w Hs) (hm : bld b l ∈ Hs) :
    Calls Tryz.prog 35 #[.pointer (some ⟨b, 0, none⟩)] w fun e w' => e = .returned (.int .i64 l.length) ∧ Sat w0 w' Hs := by
  obtain ⟨R, r⟩ := Rem.of_mem hm
  obtain ⟨p, ad, cap, hp, hS⟩ := open_bld (Hs := Hs) (hS.front r)
  go_enter Tryz.func35, Tryz.ntmps35
  go_wp2_with ((with_reducible apply arm_load hS); exact wanted_none; exact ev_tmp rfl; (repeat (with_reducible exact mem_hd)); rfl; decide +kernel; (try simp only [Act.put, q1, q2, q3]))
  go_ret
  exact ⟨rfl, (shut_bld hp rfl hS).put r⟩

set_option maxHeartbeats 1000000 in
/-- The builder is let go: what it holds is the string's. -/
theorem bldString (b : Nat) (l : List UInt8) (w0 w : World) (Hs R : List HP) (hS : Sat w0 w Hs) (r : Rem Hs (bld b l) R) :
    Calls Tryz.prog 36 #[.pointer (some ⟨b, 0, none⟩)] w fun e w' => e = .returned (.string ⟨l.toArray⟩) ∧ Sat w0 w' R := by
  obtain ⟨p, ad, cap, hp, hS⟩ := open_bld (Hs := Hs) (hS.front r)
  rcases hS.ownAd (mem_tl mem_hd) with ⟨rfl, h0, rfl, hx⟩ | ⟨g, rfl⟩
  · have hl : l = [] := by simpa using h0
    subst hl
    go_enter Tryz.func36, Tryz.ntmps36
    go_wp2_with (first | ((with_reducible apply Cont.intro); (focus (apply Or.inr; apply (Sat.sb hS); (repeat (with_reducible exact Sb.refl)); done)); intro hR hC) | ((first | ((with_reducible apply draw_pure (i := 0)); (simp only [q4, q6, q5]; with_reducible rfl); kernel_rfl; kernel_rfl; decide +kernel; rfl; exact hC; exact (fun _ _ _ h => h); exact hR; with_reducible exact wanted_none) | ((with_reducible apply draw_pure (i := 1)); (simp only [q4, q6, q5]; with_reducible rfl); kernel_rfl; kernel_rfl; decide +kernel; rfl; exact hC; exact (fun _ _ _ h => h); exact hR; with_reducible exact wanted_none) | ((with_reducible apply draw_pure (i := 5)); (simp only [q4, q6, q5]; with_reducible rfl); kernel_rfl; kernel_rfl; decide +kernel; rfl; exact hC; exact (fun _ _ _ h => h); exact hR; with_reducible exact wanted_none) | ((with_reducible apply draw_pure (i := 6)); (simp only [q4, q6, q5]; with_reducible rfl); kernel_rfl; kernel_rfl; decide +kernel; rfl; exact hC; exact (fun _ _ _ h => h); exact hR; with_reducible exact wanted_none) | ((with_reducible apply draw_pure (i := 9)); (simp only [q4, q6, q5]; with_reducible rfl); kernel_rfl; kernel_rfl; decide +kernel; rfl; exact hC; exact (fun _ _ _ h => h); exact hR; with_reducible exact wanted_none) | ((with_reducible apply draw_pure (i := 11)); (simp only [q4, q6, q5]; with_reducible rfl); kernel_rfl; kernel_rfl; decide +kernel; rfl; exact hC; exact (fun _ _ _ h => h); exact hR; with_reducible exact wanted_none)); (intro w; first | (go_simp; done) | (go_simp; rw [wrapI (by omega) (by omega)]) | (go_simp; with_reducible rfl) | (go_simp; rfl)); (clear hR hC; intro hR hC); (try simp only [Act.put, q1, q2, q3])) | ((first | ((with_reducible apply draw_pure (i := 2)); (simp only [q4, q6, q5]; with_reducible rfl); kernel_rfl; kernel_rfl; decide +kernel; rfl; exact hC; exact (fun _ _ _ h => h); exact hR; with_reducible exact wanted_none) | ((with_reducible apply draw_pure (i := 7)); (simp only [q4, q6, q5]; with_reducible rfl); kernel_rfl; kernel_rfl; decide +kernel; rfl; exact hC; exact (fun _ _ _ h => h); exact hR; with_reducible exact wanted_none)); (intro w; first | (exact draw_fa rfl (by (exact ev_const)) (by assumption) (by with_reducible exact fo7_0)) | (go_simp; done) | (go_simp; rw [wrapI (by omega) (by omega)]) | (go_simp; with_reducible rfl) | (go_simp; rfl)); (clear hR hC; intro hR hC); (try simp only [Act.put, q1, q2, q3])) | ((first | ((with_reducible apply draw_read (i := 3)); (simp only [q4, q6, q5]; with_reducible rfl); kernel_rfl; kernel_rfl; decide +kernel; kernel_rfl; rfl; exact hC; exact (fun _ _ _ h => h); exact hR; kernel_rfl; with_reducible exact wanted_none) | ((with_reducible apply draw_read (i := 8)); (simp only [q4, q6, q5]; with_reducible rfl); kernel_rfl; kernel_rfl; decide +kernel; kernel_rfl; rfl; exact hC; exact (fun _ _ _ h => h); exact hR; kernel_rfl; with_reducible exact wanted_none)); (intro w hS; (apply run_op_load rfl (by (exact ev_tmp rfl))); first | exact run_loadVar1 (by decide +kernel) (hS.cell (by (repeat (with_reducible exact mem_hd))) rfl) | exact run_loadVar1 (by decide +kernel) ((hS.ownCell (by (repeat (with_reducible apply mem_tl))) (by (rfl))).1) | exact run_loadVar1 (by decide +kernel) (Sat.rdCell2 (by assumption) hS (by ((repeat (with_reducible apply mem_tl))); try assumption) (by (rfl))) | exact run_loadVar1 (by decide +kernel) (hS.baseCell (by ((repeat (with_reducible apply mem_tl))); try assumption) (by assumption)) | exact run_loadVar1 (by decide +kernel) (fzC (by assumption) hS (by ((repeat (with_reducible apply mem_tl))); try assumption)) | exact run_loadRN hS (by assumption) (by ((repeat (with_reducible apply mem_tl))); try assumption) (by assumption) (by rfl) (by with_reducible exact sz7) (by decide +kernel) (by decide) | exact hS.loadWhole (by (repeat (with_reducible apply mem_tl))) (by kernel_rfl) (by kernel_rfl)); (clear hR hC; intro hR hC); (try simp only [Act.put, q1, q2, q3])) | ((with_reducible apply draw_act (i := 4)); (simp only [q4, q6, q5]; with_reducible rfl); decide +kernel; exact hC; clear hR hC) | ((with_reducible apply draw_act (i := 10)); (simp only [q4, q6, q5]; with_reducible rfl); decide +kernel; exact hC; clear hR hC) | ((with_reducible apply draw_done); decide +kernel; clear hR hC) | (refine draw_sat 1 12 hS (by kernel_rfl) [10] rfl ?_; clear hS; intro w hS hR hC) | ((with_reducible apply arm_val); kernel_rfl; (exact run_op_sliceData rfl (by (first | exact ev_tmp rfl | exact ev_const)) (Lib.run_unsafeSliceData_nil ..)); (try simp only [Act.put, q1, q2, q3])) | ((with_reducible apply arm_val); kernel_rfl; (exact run_op_unsafeString rfl (by (exact ev_tmp rfl)) (by (exact ev_tmp rfl)) (Lib.run_unsafeString_none ..)); (try simp only [Act.put, q1, q2, q3])))
    go_ret
    exact ⟨rfl, hS.drop.drop⟩
  · by_cases hc : cap = 0
    · subst hc
      have hl : l = [] := by simpa using (hS.ownCap (mem_tl mem_hd)).1
      subst hl
      have hsh : ∀ w, Sat w0 w (blk b 74 [.pointer p, .slice (some ⟨g, 0, none⟩) ([] : List UInt8).length 0] :: own 5 1 (some ⟨g, 0, none⟩) ([] : List UInt8).length 0 (Bs []) :: R) → w.shape? g = some (5, 0) := fun w hS => by
        obtain ⟨h, ⟨_, hA⟩, hw⟩ := hS.get (A := own 5 1 (some ⟨g, 0, none⟩) ([] : List UInt8).length 0 (Bs [])) (mem_tl mem_hd)
        rcases hA with ⟨h0, _⟩ | ⟨g', cur, hg, _, _, hcl, _, hblk⟩
        · cases h0
        · have hgg : g' = g := by simpa using hg.symm
          have hb := hw g' (.cells cur.toArray 5 (0, 0)) (by rw [hblk g']; simp)
          rw [hgg] at hb
          simp [World.shape?, hb, hcl]
      go_enter Tryz.func36, Tryz.ntmps36
      go_wp2_with (first | ((with_reducible apply Cont.intro); (focus (apply Or.inr; apply (Sat.sb hS); (repeat (with_reducible exact Sb.refl)); done)); intro hR hC) | ((first | ((with_reducible apply draw_pure (i := 0)); (simp only [q4, q6, q5]; with_reducible rfl); kernel_rfl; kernel_rfl; decide +kernel; rfl; exact hC; exact (fun _ _ _ h => h); exact hR; with_reducible exact wanted_none) | ((with_reducible apply draw_pure (i := 1)); (simp only [q4, q6, q5]; with_reducible rfl); kernel_rfl; kernel_rfl; decide +kernel; rfl; exact hC; exact (fun _ _ _ h => h); exact hR; with_reducible exact wanted_none) | ((with_reducible apply draw_pure (i := 5)); (simp only [q4, q6, q5]; with_reducible rfl); kernel_rfl; kernel_rfl; decide +kernel; rfl; exact hC; exact (fun _ _ _ h => h); exact hR; with_reducible exact wanted_none) | ((with_reducible apply draw_pure (i := 6)); (simp only [q4, q6, q5]; with_reducible rfl); kernel_rfl; kernel_rfl; decide +kernel; rfl; exact hC; exact (fun _ _ _ h => h); exact hR; with_reducible exact wanted_none) | ((with_reducible apply draw_pure (i := 9)); (simp only [q4, q6, q5]; with_reducible rfl); kernel_rfl; kernel_rfl; decide +kernel; rfl; exact hC; exact (fun _ _ _ h => h); exact hR; with_reducible exact wanted_none) | ((with_reducible apply draw_pure (i := 11)); (simp only [q4, q6, q5]; with_reducible rfl); kernel_rfl; kernel_rfl; decide +kernel; rfl; exact hC; exact (fun _ _ _ h => h); exact hR; with_reducible exact wanted_none)); (intro w; first | (go_simp; done) | (go_simp; rw [wrapI (by omega) (by omega)]) | (go_simp; with_reducible rfl) | (go_simp; rfl)); (clear hR hC; intro hR hC); (try simp only [Act.put, q1, q2, q3])) | ((first | ((with_reducible apply draw_pure (i := 2)); (simp only [q4, q6, q5]; with_reducible rfl); kernel_rfl; kernel_rfl; decide +kernel; rfl; exact hC; exact (fun _ _ _ h => h); exact hR; with_reducible exact wanted_none) | ((with_reducible apply draw_pure (i := 7)); (simp only [q4, q6, q5]; with_reducible rfl); kernel_rfl; kernel_rfl; decide +kernel; rfl; exact hC; exact (fun _ _ _ h => h); exact hR; with_reducible exact wanted_none)); (intro w; first | (exact draw_fa rfl (by (exact ev_const)) (by assumption) (by with_reducible exact fo7_0)) | (go_simp; done) | (go_simp; rw [wrapI (by omega) (by omega)]) | (go_simp; with_reducible rfl) | (go_simp; rfl)); (clear hR hC; intro hR hC); (try simp only [Act.put, q1, q2, q3])) | ((first | ((with_reducible apply draw_read (i := 3)); (simp only [q4, q6, q5]; with_reducible rfl); kernel_rfl; kernel_rfl; decide +kernel; kernel_rfl; rfl; exact hC; exact (fun _ _ _ h => h); exact hR; kernel_rfl; with_reducible exact wanted_none) | ((with_reducible apply draw_read (i := 8)); (simp only [q4, q6, q5]; with_reducible rfl); kernel_rfl; kernel_rfl; decide +kernel; kernel_rfl; rfl; exact hC; exact (fun _ _ _ h => h); exact hR; kernel_rfl; with_reducible exact wanted_none)); (intro w hS; (apply run_op_load rfl (by (exact ev_tmp rfl))); first | exact run_loadVar1 (by decide +kernel) (hS.cell (by (repeat (with_reducible exact mem_hd))) rfl) | exact run_loadVar1 (by decide +kernel) ((hS.ownCell (by (repeat (with_reducible apply mem_tl))) (by (rfl))).1) | exact run_loadVar1 (by decide +kernel) (Sat.rdCell2 (by assumption) hS (by ((repeat (with_reducible apply mem_tl))); try assumption) (by (rfl))) | exact run_loadVar1 (by decide +kernel) (hS.baseCell (by ((repeat (with_reducible apply mem_tl))); try assumption) (by assumption)) | exact run_loadVar1 (by decide +kernel) (fzC (by assumption) hS (by ((repeat (with_reducible apply mem_tl))); try assumption)) | exact run_loadRN hS (by assumption) (by ((repeat (with_reducible apply mem_tl))); try assumption) (by assumption) (by rfl) (by with_reducible exact sz7) (by decide +kernel) (by decide) | exact hS.loadWhole (by (repeat (with_reducible apply mem_tl))) (by kernel_rfl) (by kernel_rfl)); (clear hR hC; intro hR hC); (try simp only [Act.put, q1, q2, q3])) | ((with_reducible apply draw_act (i := 4)); (simp only [q4, q6, q5]; with_reducible rfl); decide +kernel; exact hC; clear hR hC) | ((with_reducible apply draw_act (i := 10)); (simp only [q4, q6, q5]; with_reducible rfl); decide +kernel; exact hC; clear hR hC) | ((with_reducible apply draw_done); decide +kernel; clear hR hC) | (refine draw_sat 1 12 hS (by kernel_rfl) [10] rfl ?_; clear hS; intro w hS hR hC) | ((with_reducible apply arm_val); kernel_rfl; (exact run_op_sliceData rfl (by (exact ev_tmp rfl)) (Lib.run_unsafeSliceData_zero _ _ _ 5 Tryz.underlying166 _ _ _ (hsh _ hS))); (replace hS := (hS.alloc (.view ⟨g, 0, none⟩ 5)).drop); (try simp only [Act.put, q1, q2, q3])) | ((with_reducible apply arm_val); kernel_rfl; (exact run_op_unsafeString rfl (by (exact ev_tmp rfl)) (by (exact ev_tmp rfl)) (Lib.run_unsafeString_none ..)); (try simp only [Act.put, q1, q2, q3])))
      go_ret
      exact ⟨rfl, hS.drop.drop⟩
    · by_cases hl : l = []
      · subst hl
        go_enter Tryz.func36, Tryz.ntmps36
        go_wp2_with (first | ((with_reducible apply Cont.intro); (focus (apply Or.inr; apply (Sat.sb hS); (repeat (with_reducible exact Sb.refl)); done)); intro hR hC) | ((first | ((with_reducible apply draw_pure (i := 0)); (simp only [q4, q6, q5]; with_reducible rfl); kernel_rfl; kernel_rfl; decide +kernel; rfl; exact hC; exact (fun _ _ _ h => h); exact hR; with_reducible exact wanted_none) | ((with_reducible apply draw_pure (i := 1)); (simp only [q4, q6, q5]; with_reducible rfl); kernel_rfl; kernel_rfl; decide +kernel; rfl; exact hC; exact (fun _ _ _ h => h); exact hR; with_reducible exact wanted_none) | ((with_reducible apply draw_pure (i := 5)); (simp only [q4, q6, q5]; with_reducible rfl); kernel_rfl; kernel_rfl; decide +kernel; rfl; exact hC; exact (fun _ _ _ h => h); exact hR; with_reducible exact wanted_none) | ((with_reducible apply draw_pure (i := 6)); (simp only [q4, q6, q5]; with_reducible rfl); kernel_rfl; kernel_rfl; decide +kernel; rfl; exact hC; exact (fun _ _ _ h => h); exact hR; with_reducible exact wanted_none) | ((with_reducible apply draw_pure (i := 9)); (simp only [q4, q6, q5]; with_reducible rfl); kernel_rfl; kernel_rfl; decide +kernel; rfl; exact hC; exact (fun _ _ _ h => h); exact hR; with_reducible exact wanted_none) | ((with_reducible apply draw_pure (i := 11)); (simp only [q4, q6, q5]; with_reducible rfl); kernel_rfl; kernel_rfl; decide +kernel; rfl; exact hC; exact (fun _ _ _ h => h); exact hR; with_reducible exact wanted_none)); (intro w; first | (go_simp; done) | (go_simp; rw [wrapI (by omega) (by omega)]) | (go_simp; with_reducible rfl) | (go_simp; rfl)); (clear hR hC; intro hR hC); (try simp only [Act.put, q1, q2, q3])) | ((first | ((with_reducible apply draw_pure (i := 2)); (simp only [q4, q6, q5]; with_reducible rfl); kernel_rfl; kernel_rfl; decide +kernel; rfl; exact hC; exact (fun _ _ _ h => h); exact hR; with_reducible exact wanted_none) | ((with_reducible apply draw_pure (i := 7)); (simp only [q4, q6, q5]; with_reducible rfl); kernel_rfl; kernel_rfl; decide +kernel; rfl; exact hC; exact (fun _ _ _ h => h); exact hR; with_reducible exact wanted_none)); (intro w; first | (exact draw_fa rfl (by (exact ev_const)) (by assumption) (by with_reducible exact fo7_0)) | (go_simp; done) | (go_simp; rw [wrapI (by omega) (by omega)]) | (go_simp; with_reducible rfl) | (go_simp; rfl)); (clear hR hC; intro hR hC); (try simp only [Act.put, q1, q2, q3])) | ((first | ((with_reducible apply draw_read (i := 3)); (simp only [q4, q6, q5]; with_reducible rfl); kernel_rfl; kernel_rfl; decide +kernel; kernel_rfl; rfl; exact hC; exact (fun _ _ _ h => h); exact hR; kernel_rfl; with_reducible exact wanted_none) | ((with_reducible apply draw_read (i := 8)); (simp only [q4, q6, q5]; with_reducible rfl); kernel_rfl; kernel_rfl; decide +kernel; kernel_rfl; rfl; exact hC; exact (fun _ _ _ h => h); exact hR; kernel_rfl; with_reducible exact wanted_none)); (intro w hS; (apply run_op_load rfl (by (exact ev_tmp rfl))); first | exact run_loadVar1 (by decide +kernel) (hS.cell (by (repeat (with_reducible exact mem_hd))) rfl) | exact run_loadVar1 (by decide +kernel) ((hS.ownCell (by (repeat (with_reducible apply mem_tl))) (by (rfl))).1) | exact run_loadVar1 (by decide +kernel) (Sat.rdCell2 (by assumption) hS (by ((repeat (with_reducible apply mem_tl))); try assumption) (by (rfl))) | exact run_loadVar1 (by decide +kernel) (hS.baseCell (by ((repeat (with_reducible apply mem_tl))); try assumption) (by assumption)) | exact run_loadVar1 (by decide +kernel) (fzC (by assumption) hS (by ((repeat (with_reducible apply mem_tl))); try assumption)) | exact run_loadRN hS (by assumption) (by ((repeat (with_reducible apply mem_tl))); try assumption) (by assumption) (by rfl) (by with_reducible exact sz7) (by decide +kernel) (by decide) | exact hS.loadWhole (by (repeat (with_reducible apply mem_tl))) (by kernel_rfl) (by kernel_rfl)); (clear hR hC; intro hR hC); (try simp only [Act.put, q1, q2, q3])) | ((with_reducible apply draw_act (i := 4)); (simp only [q4, q6, q5]; with_reducible rfl); decide +kernel; exact hC; clear hR hC) | ((with_reducible apply draw_act (i := 10)); (simp only [q4, q6, q5]; with_reducible rfl); decide +kernel; exact hC; clear hR hC) | ((with_reducible apply draw_done); decide +kernel; clear hR hC) | (refine draw_sat 1 12 hS (by kernel_rfl) [10] rfl ?_; clear hS; intro w hS hR hC) | ((with_reducible apply arm_val); kernel_rfl; (exact run_op_sliceData rfl (by (first | exact ev_tmp rfl | exact ev_const)) (Lib.run_unsafeSliceData_row _ _ _ _ _ _ hc)); (try simp only [Act.put, q1, q2, q3])) | ((with_reducible apply arm_val); kernel_rfl; (exact run_op_unsafeString rfl (by (exact ev_tmp rfl)) (by (exact ev_tmp rfl)) (Lib.run_unsafeString_none ..)); (try simp only [Act.put, q1, q2, q3])))
        go_ret
        exact ⟨rfl, hS.drop.drop⟩
      · have hrow : ∀ w, Sat w0 w (blk b 74 [.pointer p, .slice (some ⟨g, 0, none⟩) l.length cap] :: own 5 1 (some ⟨g, 0, none⟩) l.length cap (Bs l) :: R) →
            ∀ pt it ty : TypeId, Tryz.prog.underlying pt = some (.pointer 5) → (Builtin.unsafeString_ #[pt, it] ty #[.pointer (some ⟨g, 0, none⟩), .int .i64 l.length]).run Tryz.prog w = .ok (.string ⟨l.toArray⟩) (w.freeze ⟨g, 0, none⟩ l.length) := fun w hS pt it ty hp => by
          obtain ⟨hlc, hcm⟩ := hS.ownCap (mem_tl mem_hd)
          obtain ⟨h, ⟨_, hA⟩, hw⟩ := hS.get (A := own 5 1 (some ⟨g, 0, none⟩) l.length cap (Bs l)) (mem_tl mem_hd)
          have hsh : w.shape? g = some (5, cap) := by
            rcases hA with ⟨h0, _⟩ | ⟨g', cur, hg, _, _, hcl, _, hblk⟩
            · cases h0
            · have hgg : g' = g := by simpa using hg.symm
              have hb := hw g' (.cells cur.toArray 5 (0, 0)) (by rw [hblk g']; simp)
              rw [hgg] at hb
              simp [World.shape?, hb, hcl]
          refine Lib.run_unsafeString_row w pt it ty 5 hp (by kernel_rfl) g cap hsh l hl hlc (by unfold maxLen at hcm; omega) fun j x hj => ?_
          have := (hS.ownCell (mem_tl mem_hd) (j := j) (v := B x) (by simp [Bs, hj])).1
          simpa [adr] using this
        go_enter Tryz.func36, Tryz.ntmps36
        go_wp2_with (first | ((with_reducible apply Cont.intro); (first | (focus (apply Or.inr; apply (Sat.sb hS); (repeat (with_reducible exact Sb.refl)); done)) | (exact Or.inl (by kernel_rfl))); intro hR hC) | ((first | ((with_reducible apply draw_pure (i := 0)); (simp only [q4, q6, q5]; with_reducible rfl); kernel_rfl; kernel_rfl; decide +kernel; rfl; exact hC; exact (fun _ _ _ h => h); exact hR; with_reducible exact wanted_none) | ((with_reducible apply draw_pure (i := 1)); (simp only [q4, q6, q5]; with_reducible rfl); kernel_rfl; kernel_rfl; decide +kernel; rfl; exact hC; exact (fun _ _ _ h => h); exact hR; with_reducible exact wanted_none) | ((with_reducible apply draw_pure (i := 5)); (simp only [q4, q6, q5]; with_reducible rfl); kernel_rfl; kernel_rfl; decide +kernel; rfl; exact hC; exact (fun _ _ _ h => h); exact hR; with_reducible exact wanted_none) | ((with_reducible apply draw_pure (i := 6)); (simp only [q4, q6, q5]; with_reducible rfl); kernel_rfl; kernel_rfl; decide +kernel; rfl; exact hC; exact (fun _ _ _ h => h); exact hR; with_reducible exact wanted_none) | ((with_reducible apply draw_pure (i := 9)); (simp only [q4, q6, q5]; with_reducible rfl); kernel_rfl; kernel_rfl; decide +kernel; rfl; exact hC; exact (fun _ _ _ h => h); exact hR; with_reducible exact wanted_none) | ((with_reducible apply draw_pure (i := 11)); (simp only [q4, q6, q5]; with_reducible rfl); kernel_rfl; kernel_rfl; decide +kernel; rfl; exact hC; exact (fun _ _ _ h => h); exact hR; with_reducible exact wanted_none)); (intro w; first | (go_simp; done) | (go_simp; rw [wrapI (by omega) (by omega)]) | (go_simp; with_reducible rfl) | (go_simp; rfl)); (clear hR hC; intro hR hC); (try simp only [Act.put, q1, q2, q3])) | ((first | ((with_reducible apply draw_pure (i := 2)); (simp only [q4, q6, q5]; with_reducible rfl); kernel_rfl; kernel_rfl; decide +kernel; rfl; exact hC; exact (fun _ _ _ h => h); exact hR; with_reducible exact wanted_none) | ((with_reducible apply draw_pure (i := 7)); (simp only [q4, q6, q5]; with_reducible rfl); kernel_rfl; kernel_rfl; decide +kernel; rfl; exact hC; exact (fun _ _ _ h => h); exact hR; with_reducible exact wanted_none)); (intro w; first | (exact draw_fa rfl (by (exact ev_const)) (by assumption) (by with_reducible exact fo7_0)) | (go_simp; done) | (go_simp; rw [wrapI (by omega) (by omega)]) | (go_simp; with_reducible rfl) | (go_simp; rfl)); (clear hR hC; intro hR hC); (try simp only [Act.put, q1, q2, q3])) | ((first | ((with_reducible apply draw_read (i := 3)); (simp only [q4, q6, q5]; with_reducible rfl); kernel_rfl; kernel_rfl; decide +kernel; kernel_rfl; rfl; exact hC; exact (fun _ _ _ h => h); exact hR; kernel_rfl; with_reducible exact wanted_none) | ((with_reducible apply draw_read (i := 8)); (simp only [q4, q6, q5]; with_reducible rfl); kernel_rfl; kernel_rfl; decide +kernel; kernel_rfl; rfl; exact hC; exact (fun _ _ _ h => h); exact hR; kernel_rfl; with_reducible exact wanted_none)); (intro w hS; (apply run_op_load rfl (by (exact ev_tmp rfl))); first | exact run_loadVar1 (by decide +kernel) (hS.cell (by (repeat (with_reducible exact mem_hd))) rfl) | exact run_loadVar1 (by decide +kernel) ((hS.ownCell (by (repeat (with_reducible apply mem_tl))) (by (rfl))).1) | exact run_loadVar1 (by decide +kernel) (Sat.rdCell2 (by assumption) hS (by ((repeat (with_reducible apply mem_tl))); try assumption) (by (rfl))) | exact run_loadVar1 (by decide +kernel) (hS.baseCell (by ((repeat (with_reducible apply mem_tl))); try assumption) (by assumption)) | exact run_loadVar1 (by decide +kernel) (fzC (by assumption) hS (by ((repeat (with_reducible apply mem_tl))); try assumption)) | exact run_loadRN hS (by assumption) (by ((repeat (with_reducible apply mem_tl))); try assumption) (by assumption) (by rfl) (by with_reducible exact sz7) (by decide +kernel) (by decide) | exact hS.loadWhole (by (repeat (with_reducible apply mem_tl))) (by kernel_rfl) (by kernel_rfl)); (clear hR hC; intro hR hC); (try simp only [Act.put, q1, q2, q3])) | ((with_reducible apply draw_act (i := 4)); (simp only [q4, q6, q5]; with_reducible rfl); decide +kernel; exact hC; clear hR hC) | ((with_reducible apply draw_act (i := 10)); (simp only [q4, q6, q5]; with_reducible rfl); decide +kernel; exact hC; clear hR hC) | ((with_reducible apply draw_done); decide +kernel; clear hR hC) | (refine draw_sat 1 12 hS (by kernel_rfl) [10] rfl ?_; clear hS; intro w hS hR hC) | ((with_reducible apply arm_val); kernel_rfl; (exact run_op_sliceData rfl (by (first | exact ev_tmp rfl | exact ev_const)) (Lib.run_unsafeSliceData_row _ _ _ _ _ _ hc)); (try simp only [Act.put, q1, q2, q3])) | ((with_reducible apply arm_val); kernel_rfl; (exact run_op_unsafeString rfl (by (exact ev_tmp rfl)) (by (exact ev_tmp rfl)) (hrow _ hS _ _ _ (by exact Tryz.underlying166))); (replace hS := Sat.freeze (k := l.length) hS.drop); (clear hrow); (try simp only [Act.put, q1, q2, q3])))
        go_ret
        exact ⟨rfl, hS⟩
end Go.Proofs.YthackanffcaejaaGreatDoor
end
section
set_option linter.unusedVariables false
set_option linter.unusedSimpArgs false
namespace Go.SL
open Go Go.RowKit

section
variable {P : Program} {ops : Array Oper} {Q : Exit → Act → World → Prop} {rest : List Oper} {a : Act} {w w0 : World} {Hs : List HP} {e : TypeId} {size n cap : Nat} {ad : Option Addr}

def Is (l : List Int) : List Value := l.map (Value.int .i64)
theorem Is_length (l : List Int) : (Is l).length = l.length := by simp [Is]
theorem Is_at {l : List Int} {j : Nat} {x : Int} (h : l[j]? = some x) : (Is l)[j]? = some (.int .i64 x) := by simp [Is, h]
theorem Is_append (l m : List Int) : Is (l ++ m) = Is l ++ Is m := by simp [Is]
theorem Is_take (l : List Int) (k : Nat) : (Is l).take k = Is (l.take k) := by simp [Is]

theorem Sat.rdAd2 {A : HP} {cs : List Value} (hr : Rd A ad cs) (hS : Sat w0 w Hs) (hm : A ∈ Hs) (h0 : 0 < cs.length) : ∃ aa, ad = some aa ∧ aa.spot = none := hS.rdAd hm hr h0
theorem Sat.rdCell2 {A : HP} {cs : List Value} (hr : Rd A ad cs) (hS : Sat w0 w Hs) (hm : A ∈ Hs) {j : Nat} {v : Value} (hv : cs[j]? = some v) : w.cell? (adr ad j) = some v := hS.rdCell hm hr hv

def sub (ad : Option Addr) (l cap size : Nat) : Option Addr := if cap = l then ad else ad.map (·.add (l * size))
theorem Rd.sub {A : HP} {cs : List Value} (hr : Rd A ad cs) (l m : Nat) (hm : cap = l → m = 0) : Rd A (sub ad l cap size) ((cs.drop (l * size)).take m) := by
  intro w h hA hw j v hv
  rw [List.getElem?_take] at hv
  split at hv
  · rename_i hlt
    rw [List.getElem?_drop] at hv
    obtain ⟨⟨a, ha, hs⟩, hc⟩ := hr w h hA hw _ _ hv
    have hcl : cap ≠ l := fun h0 => by have := hm h0; omega
    subst ha
    refine ⟨⟨a.add (l * size), by simp [SL.sub, hcl], ?_⟩, ?_⟩
    · obtain ⟨b, o, s⟩ := a
      simp only at hs
      subst hs
      rw [add_eq]
    · simp only [SL.sub, if_neg hcl, Option.map_some]
      simp only [adr, Option.getD_some] at hc ⊢
      rw [add_add _ hs]
      exact hc
  · cases hv
theorem run_sliceSl {t : TypeId} {bytes : Nat} (E : ElemTy P t e size bytes) {lo hi : Option Value} {l h : Nat} (hb : (Instr.sliceBounds true n cap lo hi none).run P w = .ok (l, h, cap) w) :
    (Instr.sliceAt t (.slice ad n cap) lo hi none).run P w = .ok (.slice (sub ad l cap size) (h - l) (cap - l)) w := by
  have hs := run_sizeOf E.sz w
  have hu := run_underlying E.ht w
  simp [Instr.sliceAt, Instr.slice, hu, hb, hs, SL.sub]
theorem run_bounds_l {k : IntKind} {l : Int} (h0 : 0 ≤ l) (h1 : l ≤ n) : (Instr.sliceBounds true n cap (some (.int k l)) none none).run P w = .ok (l.toNat, n, cap) w := by
  simp [Instr.sliceBounds, Instr.sliceBound, asIntOf, h0, h1]
theorem run_bounds_h {k : IntKind} {h : Int} (h0 : 0 ≤ h) (h1 : h ≤ cap) : (Instr.sliceBounds true n cap none (some (.int k h)) none).run P w = .ok (0, h.toNat, cap) w := by
  simp [Instr.sliceBounds, Instr.sliceBound, asIntOf, h0, h1]
theorem arm_slice_l {dst : Option Tmp} {t : TypeId} {x lo : Operand} {ty : TypeId} {pos : String} {after : Array Edge} {gd : Option (Nat × Bool)}
    (hw : Region.wanted ⟨dst, .slice t x (some lo) none none, ty, pos, after, gd⟩ (yielded ops a.tmps) = true) (hx : a.eval x = .slice ad n cap) {k : IntKind} {l : Int} (hl : a.eval lo = .int k l)
    {bytes : Nat} (E : ElemTy P t e size bytes) (h0 : 0 ≤ l) (h1 : l ≤ n) {i m c : Nat} (hi' : l.toNat = i) (hm : n - i = m) (hc : cap - i = c)
    (K : wpList P ops Q rest (a.put dst (.slice (sub ad i cap size) m c)) w) : wpList P ops Q (⟨dst, .slice t x (some lo) none none, ty, pos, after, gd⟩ :: rest) a w := by
  subst hi'; subst hm; subst hc
  exact arm_val hw (run_op_slice rfl (by simp only [hx, hl, Option.map_some, Option.map_none]; exact run_sliceSl E (run_bounds_l h0 h1))) K
theorem arm_slice_h {dst : Option Tmp} {t : TypeId} {x hi : Operand} {ty : TypeId} {pos : String} {after : Array Edge} {gd : Option (Nat × Bool)}
    (hw : Region.wanted ⟨dst, .slice t x none (some hi) none, ty, pos, after, gd⟩ (yielded ops a.tmps) = true) (hx : a.eval x = .slice ad n cap) {k : IntKind} {h : Int} (hh : a.eval hi = .int k h)
    {bytes : Nat} (E : ElemTy P t e size bytes) (h0 : 0 ≤ h) (h1 : h ≤ cap) {m : Nat} (hm : h.toNat = m)
    (K : wpList P ops Q rest (a.put dst (.slice ad m cap)) w) : wpList P ops Q (⟨dst, .slice t x none (some hi) none, ty, pos, after, gd⟩ :: rest) a w := by
  subst hm
  have hz : sub ad 0 cap size = ad := by
    unfold sub
    split
    · rfl
    · cases ad with
      | none => rfl
      | some aa => simp [Addr.add]
  have hr := run_sliceSl (P := P) (w := w) (ad := ad) (n := n) E (run_bounds_h (k := k) h0 h1)
  rw [hz] at hr
  exact arm_val hw (run_op_slice rfl (by simp only [hx, hh, Option.map_some, Option.map_none]; exact hr)) K

/-! ### Strings put together -/
theorem run_op_addStr {o : Oper} {T ty : TypeId} {x y : Operand} (ho : o.op = .binOp .add T x y ty) {ρ : Operand → Value} {l m : List UInt8} (hx : ρ x = .string ⟨l.toArray⟩) (hy : ρ y = .string ⟨m.toArray⟩) (h : l.length + m.length ≤ 9223372036854775807) :
    (execOp ρ o).run P w = .ok (.value (.string ⟨(l ++ m).toArray⟩)) w := by
  have h1 := run_string_add_sum (P := P) w ⟨l.toArray⟩ ⟨m.toArray⟩ (by simpa [ByteArray.size] using h)
  rw [ByteArray.mk_append_mk] at h1
  simp [execOp, ho, hx, hy, eqGuard, binOp, h1]
theorem arm_addStr {dst : Option Tmp} {T ty ty' : TypeId} {x y : Operand} {pos : String} {after : Array Edge} {gd : Option (Nat × Bool)}
    (hw : Region.wanted ⟨dst, .binOp .add T x y ty, ty', pos, after, gd⟩ (yielded ops a.tmps) = true) {l m : List UInt8} (hx : a.eval x = .string ⟨l.toArray⟩) (hy : a.eval y = .string ⟨m.toArray⟩) (h : l.length + m.length ≤ 9223372036854775807)
    (K : wpList P ops Q rest (a.put dst (.string ⟨(l ++ m).toArray⟩)) w) : wpList P ops Q (⟨dst, .binOp .add T x y ty, ty', pos, after, gd⟩ :: rest) a w :=
  arm_val hw (run_op_addStr rfl hx hy h) K

theorem arm_appendStrL {dst : Option Tmp} {s x : Operand} {t u ty : TypeId} {pos : String} {after : Array Edge} {gd : Option (Nat × Bool)} {xs : List Value} {R1 : List HP} (hS : Sat w0 w Hs)
    (hw : Region.wanted ⟨dst, .call { callee := .builtin .append, args := #[s, x], argTypes := #[t, u] }, ty, pos, after, gd⟩ (yielded ops a.tmps) = true)
    (hs : a.eval s = .slice ad n cap) {l : List UInt8} (hx : a.eval x = .string ⟨l.toArray⟩) (E : ElemTy P t e 1 1) (hu : P.underlying u = some .string) (hz0 : (P.info? e).bind (·.zero) = some (.int .u8 0)) (r1 : Rem Hs (own e 1 ad n cap xs) R1)
    (hb : n + l.length ≤ 140737488355328)
    (K : ∀ ad' cap' w', Sat w0 w' (own e 1 ad' (n + l.length) cap' (xs ++ Bs l) :: R1) → wpList P ops Q rest (a.put dst (.slice ad' (n + l.length) cap')) w') :
    wpList P ops Q (⟨dst, .call { callee := .builtin .append, args := #[s, x], argTypes := #[t, u] }, ty, pos, after, gd⟩ :: rest) a w :=
  arm_appendStr hS hw hs hx E hu hz0 r1 hb K

/-! ### A slice literal of two elements of one cell -/
end
end Go.SL
end
section
namespace Go.CnfP
open Go

def chk (fr : Int) : List Int → Option Int
  | [] => some fr
  | e :: es => if e < fr then none else chk e es
def okLit (v l : Int) : Bool := !(decide (l = 0) || decide (l < -v) || decide (l > v))
def formed (v : Int) (es ls : List Int) : Bool :=
  if v < 0 ∨ v > 65536 ∨ (es.length : Int) > 65536 ∨ (ls.length : Int) > 1048576 then false
  else match chk 0 es with
    | none => false
    | some fr => decide (fr = ls.length) && ls.all (okLit v)
def line (ns : List Int) : List UInt8 := ns.flatMap fun n => Lib.itoa n ++ [32]
def body (ls : List Int) (fr : Nat) : List Int → List UInt8
  | [] => []
  | e :: es => line ((ls.drop fr).take (e.toNat - fr)) ++ ([48, 10] ++ body ls e.toNat es)
def head (v : Int) (n : Nat) : List UInt8 := [112, 32, 99, 110, 102, 32] ++ Lib.itoa v ++ [32] ++ Lib.itoa n ++ [10]
def text (v : Int) (es ls : List Int) : List UInt8 := head v es.length ++ body ls 0 es
theorem dec_small {n : Nat} (h : n < 10) : Lib.decDigits n = [UInt8.ofNat (48 + n)] := Lib.decDigits_one h
theorem dec_big {n : Nat} (h : ¬ n < 10) : Lib.decDigits n = Lib.decDigits (n / 10) ++ Lib.decDigits (n % 10) := by
  rw [Lib.decDigits, dif_neg h, Lib.decDigits_one (Nat.mod_lt _ (by omega))]
end Go.CnfP
end
section
set_option linter.unusedSimpArgs false
set_option linter.unusedVariables false
set_option maxRecDepth 20000
namespace Go.Proofs.YthackanffcaejaaGreatDoor
open Go Go.RowKit Go.SL Go.CnfP

theorem tabOld {w0 w : World} {Hs : List HP} (hS : Sat w0 w Hs) (hm : base w0 ∈ Hs) {P : Program} {name : String} {k : IntKind} {zs : List Int} (h : Lib.TabIs P w0 name k zs) : Lib.TabIs P w name k zs := by
  unfold Lib.TabIs World.var? at *
  cases hg : P.globalNamed name with
  | none => rw [hg] at h; cases h
  | some g =>
    rw [hg] at h
    simp only [Option.bind_some] at h ⊢
    by_cases hlt : g < w0.heap.size
    · rw [hS.old hm g hlt]; exact h
    · rw [Array.getElem?_eq_none (by omega)] at h; cases h
theorem ofGrow {w0 w w' : World} {Hs : List HP} (hS : Sat w0 w Hs) (h : ∃ k os, w' = Sort.grow (w.drewN k) os) : Sat w0 w' Hs := by
  obtain ⟨k, os, rfl⟩ := h
  refine hS.ofBelow ⟨rfl, rfl, rfl, ?_, fun b hb => ?_⟩
  · simp [Sort.grow, World.drewN]
  · simp only [Sort.grow, World.drewN]
    rw [Array.getElem?_append_left hb]
abbrev Tab (w : World) : Prop := Lib.TabIs Tryz.prog w "internal/strconv.uint64pow10" .u64 Lib.pow10Tab
theorem itoaC (n : Int) (h0 : -9223372036854775808 ≤ n) (h1 : n ≤ 9223372036854775807) (w0 w : World) (Hs : List HP) (hS : Sat w0 w Hs) (hm : base w0 ∈ Hs) (ht : Tab w0) :
    Calls Tryz.prog 75 #[.int .i64 n] w fun e w' => e = .returned (.string ⟨(Lib.itoa n).toArray⟩) ∧ Sat w0 w' Hs :=
  (Tryz.strconv_Itoa n h0 h1 w (tabOld hS hm ht)).mono fun e w' ⟨he, hg⟩ => ⟨he, ofGrow hS hg⟩

theorem decimal : ∀ (n : Nat) (hn : n ≤ 9223372036854775807) (w0 w : World) (Hs : List HP) (hS : Sat w0 w Hs),
    Calls Tryz.prog 123 #[.int .i64 n] w fun e w' => e = .returned (.string ⟨(Lib.decDigits n).toArray⟩) ∧ Sat w0 w' Hs := by
  intro n
  induction n using Nat.strongRecOn with
  | ind n ih =>
    intro hn w0 w Hs hS
    by_cases hlt : n < 10
    · have hd := dec_small hlt
      have he : IntKind.u8.wrap (48 + (n : Int)) = ((UInt8.ofNat (48 + n)).toNat : Int) := by
        have : n = 0 ∨ n = 1 ∨ n = 2 ∨ n = 3 ∨ n = 4 ∨ n = 5 ∨ n = 6 ∨ n = 7 ∨ n = 8 ∨ n = 9 := by omega
        rcases this with rfl | rfl | rfl | rfl | rfl | rfl | rfl | rfl | rfl | rfl <;> decide
      rw [hd]
      generalize UInt8.ofNat (48 + n) = d at he
      clear hd ih
      have HD := hid (show (([B d] : List Value).drop 0).take [d].length = Bs [d] from rfl)
      have HL := hid (show [d].length = 1 from rfl)
      go_enter Tryz.func123, Tryz.ntmps123
      go_wp2_with (first | ((with_reducible apply arm_build1 hS); exact wanted_none; exact E66; exact ev_tmp rfl; exact cells_one rfl; rfl; decide; clear hS; intro NB w hS; (try simp only [Act.put, q1, q2, q3])) | ((with_reducible apply arm_str); exact wanted_none; exact ev_tmp rfl; exact E66; kernel_rfl; kernel_rfl; exact HL.out; exact hS.cellDrop (by (repeat (with_reducible exact mem_hd))) HD.out; (try simp only [Act.put, q1, q2, q3])))
      go_ret
      exact ⟨rfl, hS.drop⟩
    · have hd := dec_big hlt
      obtain ⟨q, hq⟩ : ∃ q, q = n / 10 := ⟨_, rfl⟩
      obtain ⟨r, hr⟩ : ∃ r, r = n % 10 := ⟨_, rfl⟩
      have E1 : (n : Int) / 10 = (q : Int) := by omega
      have E2 : (n : Int) % 10 = (r : Int) := by omega
      have E3 : Int.tdiv (n : Int) 10 = (q : Int) := by rw [Int.tdiv_eq_ediv_of_nonneg (by omega)]; exact E1
      have E4 : Int.tmod (n : Int) 10 = (r : Int) := by rw [Int.tmod_eq_emod_of_nonneg (by omega)]; exact E2
      rw [← hq, ← hr] at hd
      have l1 : (Lib.decDigits q).length ≤ 20 := by rw [Lib.decDigits_length]; exact Lib.nDigits_le20 _ (by omega)
      have l2 : (Lib.decDigits r).length ≤ 20 := by rw [Lib.decDigits_length]; exact Lib.nDigits_le20 _ (by omega)
      have IH1 := hid (ih q (by omega))
      have IH2 := hid (ih r (by omega))
      have hqn : q ≤ 9223372036854775807 := by omega
      have hrn : r ≤ 9223372036854775807 := by omega
      clear ih hq hr
      rw [hd]
      clear hd
      go_enter Tryz.func123, Tryz.ntmps123
      go_wp2_with (go_at_call 123; (first | with_reducible refine (IH1.out hqn _ _ _ hS).mono ?_ | with_reducible refine (IH2.out hrn _ _ _ hS).mono ?_); clear hS; rintro e w ⟨rfl, hS⟩)
      go_ret
      exact ⟨rfl, hS⟩
end Go.Proofs.YthackanffcaejaaGreatDoor
end
section
set_option linter.unusedSimpArgs false
set_option linter.unusedVariables false
set_option maxRecDepth 20000
namespace Go.Proofs.YthackanffcaejaaGreatDoor
open Go Go.RowKit Go.SL Go.LinesP

theorem u8_eq (c d : UInt8) (n : Int) (hn : n = (d.toNat : Int)) : ((c.toNat : Int) == n) = (c == d) := by
  subst hn
  by_cases h : c = d
  · rw [h]; rw [beq_self_eq_true, beq_self_eq_true]
  · have h2 : ¬ (c.toNat : Int) = (d.toNat : Int) := fun e => h (UInt8.toNat_inj.1 (by omega))
    rw [beq_eq_false_iff_ne.2 h, beq_eq_false_iff_ne.2 h2]
def runP (p : UInt8 → Bool) (text : List UInt8) (k : Nat) : Nat := k + ((text.drop k).takeWhile p).length
end Go.Proofs.YthackanffcaejaaGreatDoor
end
section
set_option linter.unusedSimpArgs false
set_option linter.unusedVariables false
namespace Go.ClauseP
open Go

def digP (c : UInt8) : Bool := 48 ≤ c && c ≤ 57
def valD (n : Nat) (s : List UInt8) : Nat := s.foldl (fun n c => 10 * n + (c.toNat - 48)) n
def numP (s : List UInt8) : Option Nat := if s = [] ∨ (1 < s.length ∧ s.head? = some 48) ∨ s.all digP = false then none else some (valD 0 s)
def numM (most : Nat) (s : List UInt8) : Int := match numP s with
  | none => -1
  | some n => if most < n then -1 else n
theorem valD_cons (n : Nat) (c : UInt8) (s : List UInt8) : valD n (c :: s) = valD (10 * n + (c.toNat - 48)) s := by unfold valD; rw [List.foldl_cons]
theorem valD_snoc (n : Nat) (s : List UInt8) (c : UInt8) : valD n (s ++ [c]) = 10 * valD n s + (c.toNat - 48) := by simp [valD]
theorem valD_ge : ∀ (s : List UInt8) (n : Nat), n * 10 ^ s.length ≤ valD n s
  | [], n => by simp [valD]
  | c :: s, n => by
    have h := valD_ge s (10 * n + (c.toNat - 48))
    rw [valD_cons]
    refine Nat.le_trans ?_ h
    rw [List.length_cons]
    generalize hm : s.length = k at *
    exact Nat.le_trans (Nat.le_of_eq (by rw [Nat.pow_succ, Nat.mul_comm (10 ^ k) 10, ← Nat.mul_assoc, Nat.mul_comm n 10])) (Nat.mul_le_mul_right (10 ^ k) (Nat.le_add_right _ _))
theorem digP_le {c : UInt8} (h : digP c = true) : 48 ≤ c.toNat ∧ c.toNat ≤ 57 := by
  simp only [digP, Bool.and_eq_true, decide_eq_true_eq, UInt8.le_iff_toNat_le] at h
  exact ⟨h.1, h.2⟩
theorem numM_empty (most : Nat) : numM most [] = -1 := rfl
theorem numM_zero {most : Nat} {s : List UInt8} (h : 1 < s.length) (h2 : s.head? = some 48) : numM most s = -1 := by
  have : numP s = none := by unfold numP; rw [if_pos (.inr (.inl ⟨h, h2⟩))]
  rw [numM, this]
theorem numM_not {most : Nat} {s : List UInt8} (h : s.all digP = false) : numM most s = -1 := by
  have : numP s = none := by unfold numP; rw [if_pos (.inr (.inr h))]
  rw [numM, this]
theorem numM_val {most : Nat} {s : List UInt8} (h0 : s ≠ []) (h1 : ¬ (1 < s.length ∧ s.head? = some 48)) (h2 : s.all digP = true) : numM most s = if most < valD 0 s then -1 else (valD 0 s : Int) := by
  have : numP s = some (valD 0 s) := by unfold numP; rw [if_neg (by rintro (h | h | h); exact h0 h; exact h1 h; rw [h2] at h; cases h)]
  rw [numM, this]
theorem numM_long {most : Nat} {s : List UInt8} (hm : most < 10 ^ 10) (h : 10 < s.length) : numM most s = -1 := by
  by_cases h1 : 1 < s.length ∧ s.head? = some 48
  · exact numM_zero h1.1 h1.2
  · cases h2 : s.all digP with
    | false => exact numM_not h2
    | true =>
      have h0 : s ≠ [] := by intro e; rw [e] at h; simp at h
      rw [numM_val h0 h1 h2, if_pos]
      obtain ⟨c, t, rfl⟩ : ∃ c t, s = c :: t := by cases s with | nil => exact absurd rfl h0 | cons c t => exact ⟨c, t, rfl⟩
      simp only [List.length_cons, List.head?_cons, Option.some.injEq] at h h1
      simp only [List.all_cons, Bool.and_eq_true] at h2
      have hc := digP_le h2.1
      have hc48 : c.toNat ≠ 48 := fun e => h1 ⟨by omega, UInt8.toNat_inj.1 e⟩
      have hv := valD_ge t (10 * 0 + (c.toNat - 48))
      rw [valD_cons]
      refine Nat.lt_of_lt_of_le hm (Nat.le_trans ?_ hv)
      have h10 : 10 ^ 10 ≤ 10 ^ t.length := Nat.pow_le_pow_right (by omega) (by omega)
      exact Nat.le_trans h10 (Nat.le_mul_of_pos_left _ (by omega))
theorem numM_ge (most : Nat) (s : List UInt8) : -1 ≤ numM most s ∧ numM most s ≤ most := by
  unfold numM
  split
  · omega
  · split <;> omega

abbrev Wd := List UInt8 × Nat
structure CnfV where
  vars : Int
  ends : List Int
  lits : List Int
end Go.ClauseP
end
section
set_option linter.unusedVariables false
set_option linter.unusedSimpArgs false
namespace Go.SL
open Go Go.RowKit

section
variable {P : Program} {ops : Array Oper} {Q : Exit → Act → World → Prop} {rest : List Oper} {a : Act} {w w0 : World} {Hs R R1 R2 : List HP} {e : TypeId} {size n cap : Nat} {ad : Option Addr} {xs : List Value}
theorem Sat.ownShrink {k : Nat} (hS : Sat w0 w (own e size ad n cap xs :: R)) (hk : k ≤ n) : Sat w0 w (own e size ad k cap (xs.take (k * size)) :: R) := by
  refine hS.turn fun h ⟨hl, hA⟩ => ⟨?_, ?_⟩
  · have := Nat.mul_le_mul_right size hk
    rw [List.length_take]; omega
  · rcases hA with ⟨rfl, rfl, rfl, h0⟩ | ⟨g, cur, rfl, h1, h2, h3, h4, h5⟩
    · exact .inl ⟨rfl, by omega, rfl, h0⟩
    · refine .inr ⟨g, cur, rfl, by omega, h2, h3, ?_, h5⟩
      have := Nat.mul_le_mul_right size hk
      rw [← h4, List.take_take]
      congr 1; omega
theorem arm_appendK {dst : Option Tmp} {s x : Operand} {t ty : TypeId} {pos : String} {after : Array Edge} {gd : Option (Nat × Bool)} {bytes k : Nat} (hS : Sat w0 w Hs)
    (hw : Region.wanted ⟨dst, .call { callee := .builtin .append, args := #[s, x], argTypes := #[t, t] }, ty, pos, after, gd⟩ (yielded ops a.tmps) = true)
    (hs : a.eval s = .slice ad k cap) {nb m c : Nat} (hx : a.eval x = .slice (some ⟨nb, 0, none⟩) m c) (E : ElemTy P t e size bytes) (r1 : Rem Hs (own e size ad n cap xs) R1) {news : List Value} (r2 : Rem R1 (blk nb e news) R2)
    (hk : k ≤ n) {ys : List Value} (hys : xs.take (k * size) = ys) (hl : news.length = m * size) (h1 : news.all (·.oneCell') = true) (hb : (k + m) * bytes ≤ 140737488355328) (h63 : k + m ≤ 9223372036854775807)
    (K : ∀ ad' cap' w', Sat w0 w' (own e size ad' (k + m) cap' (ys ++ news) :: R2) → wpList P ops Q rest (a.put dst (.slice ad' (k + m) cap')) w') :
    wpList P ops Q (⟨dst, .call { callee := .builtin .append, args := #[s, x], argTypes := #[t, t] }, ty, pos, after, gd⟩ :: rest) a w := by
  subst hys
  exact arm_appendB ((hS.front r1).ownShrink hk) hw hs hx E Rem.hd r2 hl h1 hb h63 K
theorem arm_loadRN {A : HP} {dst : Option Tmp} {t : TypeId} {x : Operand} {ty : TypeId} {pos : String} {after : Array Edge} {gd : Option (Nat × Bool)} {m : Nat} (hS : Sat w0 w Hs)
    (hw : Region.wanted ⟨dst, .load t x, ty, pos, after, gd⟩ (yielded ops a.tmps) = true) {j : Nat} (hx : a.eval x = .pointer (some (adr ad j))) {cs vs : List Value} (hr : Rd A ad cs) (hm : A ∈ Hs)
    (hv : (cs.drop j).take m = vs) (hl : vs.length = m) (hn : sizeTy P t = some m) (ht : aggTy P t = true) (h0 : 0 < m)
    (K : wpList P ops Q rest (a.put dst (.agg vs.toArray)) w) : wpList P ops Q (⟨dst, .load t x, ty, pos, after, gd⟩ :: rest) a w := by
  have hlen : 0 < cs.length := by
    rcases Nat.eq_zero_or_pos cs.length with h | h
    · have : cs = [] := List.length_eq_zero_iff.1 h
      subst this
      simp at hv
      subst hv
      simp at hl; omega
    · exact h
  refine arm_loadEN hw hx (hS.rdAd hm hr hlen) (fun i v hi => hS.rdCell hm hr ?_) hn hl ht K
  rw [← hv, List.getElem?_take] at hi
  split at hi
  · rw [List.getElem?_drop] at hi; exact hi
  · cases hi
end
end Go.SL
end
section
set_option linter.unusedVariables false
set_option linter.unusedSimpArgs false
namespace Go.SL
open Go Go.RowKit
section
variable {P : Program} {w : World} {ad : Option Addr}
theorem draw_fa {o : Oper} {s : TypeId} {x : Operand} {f : Nat} (ho : o.op = .fieldAddr s x f) {ρ : Operand → Value} {j : Nat} (hx : ρ x = .pointer (some (adr ad j))) (hsp : ∃ aa, ad = some aa ∧ aa.spot = none) {k : Nat} (hf : fieldOff P s f = some k) :
    (execOp ρ o).run P w = .ok (.value (.pointer (some (adr ad (j + k))))) w := by
  have h := run_op_fieldAddr (w := w) ho hx hf
  obtain ⟨aa, rfl, hs⟩ := hsp
  simp only [adr, Option.getD_some, add_add _ hs] at h ⊢
  exact h
theorem wrapI {n : Int} (h0 : -9223372036854775808 ≤ n) (h1 : n ≤ 9223372036854775807) : IntKind.i64.wrap n = n := by
  simp [IntKind.wrap, IntKind.bits, IntKind.signed]; omega
end
end Go.SL
end
section
set_option linter.unusedVariables false
set_option linter.unusedSimpArgs false
namespace Go.SL
open Go Go.RowKit
section
variable {P : Program} {ops : Array Oper} {Q : Exit → Act → World → Prop} {rest : List Oper} {a : Act} {w w0 : World} {Hs : List HP} {e : TypeId}
theorem madeCells_one (z : Value) (n : Nat) : (madeCells #[z] n).toList = List.replicate n z := by
  apply List.ext_getElem?
  intro i
  by_cases hi : i < n
  · simp [madeCells, hi, List.getElem?_replicate, Nat.mod_one]
  · simp [madeCells, hi, List.getElem?_replicate]
theorem run_op_make {o : Oper} {T : TypeId} {x y : Operand} (ho : o.op = .makeSlice T x y) {ρ : Operand → Value} {u v r : Value} {w' : World} (hx : ρ x = u) (hy : ρ y = v) (hr : (Instr.makeSlice T u v).run P w = .ok r w') : (execOp ρ o).run P w = .ok (.value r) w' := by
  simp [execOp, ho, hx, hy, hr]
theorem arm_make {dst : Option Tmp} {T : TypeId} {x y : Operand} {ty : TypeId} {pos : String} {after : Array Edge} {gd : Option (Nat × Bool)} (hS : Sat w0 w Hs)
    (hw : Region.wanted ⟨dst, .makeSlice T x y, ty, pos, after, gd⟩ (yielded ops a.tmps) = true) {n bytes : Nat} {kl kc : IntKind} (hx : a.eval x = .int kl (n : Int)) (hy : a.eval y = .int kc (n : Int)) (E : ElemTy P T e 1 bytes) {z : Value}
    (hz : zeroTy P e = some [z]) (hb : bytes * n ≤ 281474976710656) (h63 : n ≤ 9223372036854775807)
    (K : ∀ b w', Sat w0 w' (own e 1 (some ⟨b, 0, none⟩) n n (List.replicate n z) :: Hs) → wpList P ops Q rest (a.put dst (.slice (some ⟨b, 0, none⟩) n n)) w') :
    wpList P ops Q (⟨dst, .makeSlice T x y, ty, pos, after, gd⟩ :: rest) a w := by
  obtain ⟨i, z', hi, hz', hsz, hby, hzs⟩ := E.parts
  have hz1 : z'.cells = #[z] := by
    unfold zeroTy at hz
    rw [hi] at hz
    simp only [Option.bind_some] at hz
    rw [hz'] at hz
    simp only [Option.map_some, Option.some.injEq] at hz
    exact Array.toList_inj.1 hz
  have hr := run_make (P := P) w T e i z' E.ht hi hz' kl kc n n (by omega) (by omega) (by rw [hby, ← Int.natCast_mul]; omega) (by omega)
  rw [Int.toNat_natCast, hsz, Nat.mul_one, hz1] at hr
  refine arm_val hw (run_op_make rfl hx hy hr) (K w.heap.size _ ?_)
  refine (hS.alloc (.cells (madeCells #[z] n) e)).turn fun h hh => ⟨by rw [List.length_replicate, Nat.mul_one], .inr ⟨w.heap.size, List.replicate n z, rfl, Nat.le_refl _, h63, by rw [List.length_replicate, Nat.mul_one], by rw [Nat.mul_one]; exact List.take_of_length_le (by rw [List.length_replicate]; exact Nat.le_refl _), ?_⟩⟩
  have : madeCells #[z] n = (List.replicate n z).toArray := by rw [← madeCells_one]
  unfold blk
  rw [← this]
  exact hh
end
end Go.SL
end
section
set_option linter.unusedVariables false
set_option linter.unusedSimpArgs false
namespace Go.SL
open Go Go.RowKit
section
variable {P : Program} {ops : Array Oper} {Q : Exit → Act → World → Prop} {rest : List Oper} {a : Act} {w w0 : World} {Hs : List HP} {e : TypeId} {ad : Option Addr}
theorem run_loadRN {A : HP} {t : TypeId} {m j : Nat} {cs vs : List Value} (hS : Sat w0 w Hs) (hr : Rd A ad cs) (hm : A ∈ Hs) (hv : (cs.drop j).take m = vs) (hl : vs.length = m) (hn : sizeTy P t = some m) (ht : aggTy P t = true) (h0 : 0 < m) :
    (loadVar t (adr ad j)).run P w = .ok (.agg vs.toArray) w := by
  have hlen : 0 < cs.length := by
    rcases Nat.eq_zero_or_pos cs.length with h | h
    · have : cs = [] := List.length_eq_zero_iff.1 h
      subst this
      simp at hv
      subst hv
      simp at hl; omega
    · exact h
  refine run_loadVarN ht (by rw [hl]; exact hn) fun i v hi => ?_
  have h := hS.rdCell hm hr (j := j + i) (v := v) (by
    rw [← hv, List.getElem?_take] at hi
    split at hi
    · rw [List.getElem?_drop] at hi; exact hi
    · cases hi)
  obtain ⟨aa, rfl, hs⟩ := hS.rdAd hm hr hlen
  simp only [adr, Option.getD_some] at h ⊢
  rw [add_add _ hs]
  exact h
end
end Go.SL
end
section
set_option linter.unusedVariables false
set_option linter.unusedSimpArgs false
namespace Go.SL
open Go Go.RowKit
section
variable {P : Program} {ops : Array Oper} {Q : Exit → Act → World → Prop} {rest : List Oper} {a : Act} {w w0 : World} {Hs : List HP}
theorem Sat.newPt {w' : World} {o : Obj} (hS : Sat w0 w Hs) (hos : w'.os = w.os) (htp : w'.tape = w.tape) (hou : w'.output = w.output) (hsz : w.heap.size ≤ w'.heap.size) (hnew : w'.heap[w.heap.size]? = some o)
    (hold : ∀ b, b < w.heap.size → w'.heap[b]? = w.heap[b]?) : Sat w0 w' (pt w.heap.size o :: Hs) := by
  have h0 : Sat w0 w (SL.emp :: Hs) := hS.emp fun _ => rfl
  refine h0.step hos htp hou hsz fun g hg _ => ⟨fun c => if c = w.heap.size then some o else none, fun c => rfl, fun b o' hb => ?_, fun b hb => .inr ?_, fun b hb _ => hold b hb⟩
  · by_cases hbs : b = w.heap.size
    · simp [hbs] at hb; subst hb; rw [hbs]; exact hnew
    · simp [hbs] at hb
  · by_cases hbs : b = w.heap.size
    · omega
    · simp [hbs] at hb
theorem run_op_convertW {o : Oper} {s d : TypeId} {x : Operand} (ho : o.op = .convert s d x) {ρ : Operand → Value} {v : Value} {w' : World} (hr : (convert s d (ρ x)).run P w = .ok v w') : (execOp ρ o).run P w = .ok (.value v) w' := by
  simp [execOp, ho, hr]
theorem arm_bytesOf {dst : Option Tmp} {src d e : TypeId} {x : Operand} {ty : TypeId} {pos : String} {after : Array Edge} {gd : Option (Nat × Bool)} (hS : Sat w0 w Hs)
    (hw : Region.wanted ⟨dst, .convert src d x, ty, pos, after, gd⟩ (yielded ops a.tmps) = true) {l : List UInt8} (hx : a.eval x = .string ⟨l.toArray⟩) {bytes : Nat} (E : ElemTy P d e 1 bytes) (hs : (P.underlying src).isSome = true)
    (he : P.underlying e = some (.int .u8)) (K : ∀ (A : HP) (ad : Option Addr) (cap : Nat) (w' : World), Rd A ad (Bs l) → (∃ aa, ad = some aa ∧ aa.spot = none) → Sat w0 w' (A :: Hs) → wpList P ops Q rest (a.put dst (.slice ad l.length cap)) w') :
    wpList P ops Q (⟨dst, .convert src d x, ty, pos, after, gd⟩ :: rest) a w := by
  obtain ⟨u, hu⟩ := Option.isSome_iff_exists.1 hs
  have hr := Lib.run_convert_string_bytes (P := P) w src d e ⟨l.toArray⟩ hu E.ht he
  refine arm_val hw (run_op_convertW rfl (by rw [hx]; exact hr)) ?_
  have hsz : (⟨l.toArray⟩ : ByteArray).size = l.length := by simp [ByteArray.size]
  have hS2 := hS.newPt (w' := Lib.bytesWorld w e ⟨l.toArray⟩) (o := .cells (Lib.bytesCells w e ⟨l.toArray⟩) e ((Lib.bytesCells w e ⟨l.toArray⟩).size, (Lib.bytesCells w e ⟨l.toArray⟩).size + 1)) rfl rfl rfl
    (by rw [Lib.bytesWorld_size]; omega) (Lib.bytesWorld_at_new w e _) (fun b hb => Lib.bytesWorld_at_old w e _ b hb)
  have hK := K _ (some ⟨w.heap.size, 0, none⟩) (grownCap w l.length 0 e) _ ?_ ⟨_, rfl, rfl⟩ hS2
  · rw [hsz]; exact hK
  · intro w2 h hA hw2 j v hv
    refine ⟨⟨_, rfl, rfl⟩, ?_⟩
    have hb := hw2 w.heap.size _ (by rw [hA w.heap.size, if_pos rfl])
    have hlt : j < l.length := by
      have := (List.getElem?_eq_some_iff.1 hv).1
      rwa [Bs_length] at this
    simp only [adr, Option.getD_some, add_eq, Nat.zero_add]
    simp only [World.cell?, hb]
    have : (Lib.bytesCells w e ⟨l.toArray⟩)[j]? = some v := by
      simp only [Bs, List.getElem?_map] at hv
      rw [Lib.bytesCells, Array.getElem?_append_left (by simpa using hlt)]
      simpa [Array.getElem?_map] using hv
    simp [this]
end
end Go.SL
end
