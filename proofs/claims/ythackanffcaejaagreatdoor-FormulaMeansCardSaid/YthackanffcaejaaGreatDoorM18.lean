/- A part of the proof: Same Lit Al2 FormR Form11 Form12. -/
import Derived.Test.YthackanffcaejaaGreatDoorM1
import Derived.Test.YthackanffcaejaaGreatDoorM2
import Derived.Test.YthackanffcaejaaGreatDoorM3
import Derived.Test.YthackanffcaejaaGreatDoorM7
import Derived.Test.YthackanffcaejaaGreatDoorM9
import Derived.Test.YthackanffcaejaaGreatDoorM11
import Derived.Test.YthackanffcaejaaGreatDoorM14
import Derived.Test.YthackanffcaejaaGreatDoorM17
section
set_option linter.unusedSimpArgs false
set_option linter.unusedVariables false
set_option linter.unusedSectionVars false
set_option maxRecDepth 20000
namespace Go.Proofs.YthackanffcaejaaGreatDoor
open Go Go.RowKit Go.SL

section
variable (fs : List (Int × Int)) (hl : fs.length ≤ 8796093022200) (ad : Option Addr) (cap : Nat)
include hl
set_option maxHeartbeats 1000000 in
theorem sameT (ad2 : Option Addr) (cap2 : Nat) (w0 w : World) (Hs : List HP) (hS : Sat w0 w Hs) {A B : HP} (hA : A ∈ Hs) (hB : B ∈ Hs) (hr : Rd A ad (Fs fs)) (hr2 : Rd B ad2 (Fs fs)) :
    Calls Tryz.prog 16 #[.slice ad fs.length cap, .slice ad2 fs.length cap2] w fun e w' => e = .returned (.bool true) ∧ Sat w0 w' Hs := by
  go_enter Tryz.func16, Tryz.ntmps16
  go_wp2
  go_loopw [5] (fun i wr => ∃ k : Nat, i = .int .i64 k ∧ k ≤ fs.length ∧ Sat w0 wr Hs) (fun i _ => fs.length - (intOf i).toNat)
  case atStart => exact ⟨0, rfl, by omega, hS⟩
  case round =>
    clear hS
    obtain ⟨k, rfl, hk, hS⟩ := hrel
    by_cases hlt : k < fs.length
    · obtain ⟨⟨op, n⟩, hx⟩ : ∃ x, fs[k]? = some x := ⟨_, List.getElem?_eq_getElem hlt⟩
      have hfd := Fs_at hx
      have hne : ∃ aa, ad = some aa ∧ aa.spot = none := Sat.rdAd2 hr hS hA (by rw [Fs_length]; omega)
      have hne2 : ∃ aa, ad2 = some aa ∧ aa.spot = none := Sat.rdAd2 hr2 hS hB (by rw [Fs_length]; omega)
      clear hx
      go_wp2_with (first | ((first | ((with_reducible apply draw_pure (i := 0)); (simp only [q4, q6, q5]; with_reducible rfl); kernel_rfl; kernel_rfl; decide +kernel; rfl; exact hC; exact (fun _ _ _ h => h); exact hR; with_reducible exact wanted_none) | ((with_reducible apply draw_pure (i := 1)); (simp only [q4, q6, q5]; with_reducible rfl); kernel_rfl; kernel_rfl; decide +kernel; rfl; exact hC; exact (fun _ _ _ h => h); exact hR; with_reducible exact wanted_none) | ((with_reducible apply draw_pure (i := 4)); (simp only [q4, q6, q5]; with_reducible rfl); kernel_rfl; kernel_rfl; decide +kernel; rfl; exact hC; exact (fun _ _ _ h => h); exact hR; with_reducible exact wanted_none) | ((with_reducible apply draw_pure (i := 5)); (simp only [q4, q6, q5]; with_reducible rfl); kernel_rfl; kernel_rfl; decide +kernel; rfl; exact hC; exact (fun _ _ _ h => h); exact hR; with_reducible exact wanted_none) | ((with_reducible apply draw_pure (i := 8)); (simp only [q4, q6, q5]; with_reducible rfl); kernel_rfl; kernel_rfl; decide +kernel; rfl; exact hC; exact (fun _ _ _ h => h); exact hR; with_reducible exact wanted_none)); (intro w; first | (go_simp; done) | (go_simp; rw [wrapI (by omega) (by omega)]) | (go_simp; with_reducible rfl) | (go_simp; rfl)); (clear hR hC; intro hR hC); (try simp only [Act.put, q1, q2, q3])) | ((first | ((with_reducible apply draw_pure (i := 2)); (simp only [q4, q6, q5]; with_reducible rfl); kernel_rfl; kernel_rfl; decide +kernel; rfl; exact hC; exact (fun _ _ _ h => h); exact hR; with_reducible exact wanted_none) | ((with_reducible apply draw_pure (i := 6)); (simp only [q4, q6, q5]; with_reducible rfl); kernel_rfl; kernel_rfl; decide +kernel; rfl; exact hC; exact (fun _ _ _ h => h); exact hR; with_reducible exact wanted_none)); (intro w; first | (with_reducible exact draw_ia E22 rfl (by (exact ev_tmp rfl)) (by (exact ev_tmp rfl)) (by (omega)) (by (omega)) (by (assumption)) (by (simp only [Int.toNat_natCast, Nat.mul_one, Nat.zero_add, tn_sub, tn_sub1, tn_sub2, tn_sub3, tn_add, tn_add1, tn_add2]; rfl))) | (go_simp; done) | (go_simp; rw [wrapI (by omega) (by omega)]) | (go_simp; with_reducible rfl)); (clear hR hC; intro hR hC); (try simp only [Act.put, q1, q2, q3])) | ((first | ((with_reducible apply draw_read (i := 3)); (simp only [q4, q6, q5]; with_reducible rfl); kernel_rfl; kernel_rfl; decide +kernel; kernel_rfl; rfl; exact hC; exact (fun _ _ _ h => h); exact hR; kernel_rfl; with_reducible exact wanted_none) | ((with_reducible apply draw_read (i := 7)); (simp only [q4, q6, q5]; with_reducible rfl); kernel_rfl; kernel_rfl; decide +kernel; kernel_rfl; rfl; exact hC; exact (fun _ _ _ h => h); exact hR; kernel_rfl; with_reducible exact wanted_none)); (intro w hS; (apply run_op_load rfl (by (exact ev_tmp rfl))); first | exact run_loadVar1 (by decide +kernel) (hS.cell (by (repeat (with_reducible apply mem_tl))) rfl) | exact run_loadVar1 (by decide +kernel) ((hS.ownCell (by (repeat (with_reducible apply mem_tl))) (by (rfl))).1) | exact run_loadVar1 (by decide +kernel) (Sat.rdCell2 (by assumption) hS (by ((repeat (with_reducible apply mem_tl))); try assumption) (by (rfl))) | exact run_loadVar1 (by decide +kernel) (hS.baseCell (by ((repeat (with_reducible apply mem_tl))); try assumption) (by assumption)) | exact run_loadVar1 (by decide +kernel) (fzC (by assumption) hS (by ((repeat (with_reducible apply mem_tl))); try assumption)) | exact run_loadRN hS (by assumption) (by ((repeat (with_reducible apply mem_tl))); try assumption) (by assumption) (by rfl) (by with_reducible exact sz50) (by decide +kernel) (by decide) | exact hS.loadWhole (by (repeat (with_reducible apply mem_tl))) (by kernel_rfl) (by kernel_rfl)); (clear hR hC; intro hR hC); (try simp only [Act.put, q1, q2, q3])) | ((with_reducible apply draw_done); decide +kernel; clear hR hC) | (refine draw_sat 6 9 hS (by kernel_rfl) [] rfl ?_; clear hS; intro w hS hR hC))
      go_roundw
      case rel => exact ⟨k + 1, by go_num, by omega, hS⟩
      case measure => simp [intOf]; omega
    · go_wp2
      go_ret
      exact ⟨rfl, hS⟩
end
end Go.Proofs.YthackanffcaejaaGreatDoor
end
section
set_option linter.unusedVariables false
set_option linter.unusedSimpArgs false
namespace Go.SL
open Go Go.RowKit
section
variable {P : Program} {ops : Array Oper} {Q : Exit → Act → World → Prop} {rest : List Oper} {a : Act} {w w0 : World} {Hs : List HP} {e : TypeId}
theorem run_op_build26 {o : Oper} {T : TypeId} {x0 x1 x2 x3 x4 x5 : Operand} (ho : o.op = .buildSlice T 6 #[(0, x0), (1, x1), (2, x2), (3, x3), (4, x4), (5, x5)]) {bytes : Nat} (E : ElemTy P T e 2 bytes) {ρ : Operand → Value} {u0 v0 u1 v1 u2 v2 u3 v3 u4 v4 u5 v5 : Value} (h0 : ρ x0 = .agg #[u0, v0]) (h1 : ρ x1 = .agg #[u1, v1]) (h2 : ρ x2 = .agg #[u2, v2]) (h3 : ρ x3 = .agg #[u3, v3]) (h4 : ρ x4 = .agg #[u4, v4]) (h5 : ρ x5 = .agg #[u5, v5]) :
    (execOp ρ o).run P w = .ok (.value (.slice (some ⟨w.heap.size, 0, none⟩) 6 6)) (w.alloc (.cells #[u0, v0, u1, v1, u2, v2, u3, v3, u4, v4, u5, v5] e)) := by
  obtain ⟨i, z, hi, hz, hs, hby, hzs⟩ := E.parts
  have c0 : (Value.agg #[u0, v0]).cells = #[u0, v0] := rfl
  have c1 : (Value.agg #[u1, v1]).cells = #[u1, v1] := rfl
  have c2 : (Value.agg #[u2, v2]).cells = #[u2, v2] := rfl
  have c3 : (Value.agg #[u3, v3]).cells = #[u3, v3] := rfl
  have c4 : (Value.agg #[u4, v4]).cells = #[u4, v4] := rfl
  have c5 : (Value.agg #[u5, v5]).cells = #[u5, v5] := rfl
  have hr : (Array.range 12).map (z.cells[· % z.cells.size]!) = #[z.cells[0]!, z.cells[1]!, z.cells[0]!, z.cells[1]!, z.cells[0]!, z.cells[1]!, z.cells[0]!, z.cells[1]!, z.cells[0]!, z.cells[1]!, z.cells[0]!, z.cells[1]!] := by
    have h2 : Array.range 12 = #[0, 1, 2, 3, 4, 5, 6, 7, 8, 9, 10, 11] := by decide
    simp [h2, hzs]
  simp [execOp, ho, Instr.buildSlice, run_underlying E.ht, sizeOf, typeInfo, hi, hs, zeroValue, hz, newRow, newObj, Sem.run, h0, h1, h2, h3, h4, h5, Instr.fill, c0, c1, c2, c3, c4, c5, hr]
theorem arm_build26 {dst : Option Tmp} {T : TypeId} {x0 x1 x2 x3 x4 x5 : Operand} {ty : TypeId} {pos : String} {after : Array Edge} {gd : Option (Nat × Bool)} {bytes : Nat} (hS : Sat w0 w Hs)
    (hw : Region.wanted ⟨dst, .buildSlice T 6 #[(0, x0), (1, x1), (2, x2), (3, x3), (4, x4), (5, x5)], ty, pos, after, gd⟩ (yielded ops a.tmps) = true) (E : ElemTy P T e 2 bytes) {u0 v0 u1 v1 u2 v2 u3 v3 u4 v4 u5 v5 : Value} (h0 : a.eval x0 = .agg #[u0, v0]) (h1 : a.eval x1 = .agg #[u1, v1]) (h2 : a.eval x2 = .agg #[u2, v2]) (h3 : a.eval x3 = .agg #[u3, v3]) (h4 : a.eval x4 = .agg #[u4, v4]) (h5 : a.eval x5 = .agg #[u5, v5])
    (K : ∀ b w', Sat w0 w' (own e 2 (some ⟨b, 0, none⟩) 6 6 [u0, v0, u1, v1, u2, v2, u3, v3, u4, v4, u5, v5] :: Hs) → wpList P ops Q rest (a.put dst (.slice (some ⟨b, 0, none⟩) 6 6)) w') : wpList P ops Q (⟨dst, .buildSlice T 6 #[(0, x0), (1, x1), (2, x2), (3, x3), (4, x4), (5, x5)], ty, pos, after, gd⟩ :: rest) a w := by
  refine arm_val hw (run_op_build26 rfl E h0 h1 h2 h3 h4 h5) (K _ _ ?_)
  have hS1 : Sat w0 (w.alloc (.cells #[u0, v0, u1, v1, u2, v2, u3, v3, u4, v4, u5, v5] e)) (blk w.heap.size e [u0, v0, u1, v1, u2, v2, u3, v3, u4, v4, u5, v5] :: Hs) := by simpa [blk] using hS.alloc (.cells #[u0, v0, u1, v1, u2, v2, u3, v3, u4, v4, u5, v5] e)
  exact hS1.turn fun g h => ⟨rfl, .inr ⟨w.heap.size, [u0, v0, u1, v1, u2, v2, u3, v3, u4, v4, u5, v5], rfl, Nat.le_refl _, by unfold maxLen; omega, rfl, rfl, h⟩⟩
end
end Go.SL
end
section
set_option linter.unusedSimpArgs false
set_option linter.unusedVariables false
set_option maxRecDepth 20000
namespace Go.Proofs.YthackanffcaejaaGreatDoor
open Go Go.RowKit Go.SL Go.ClauseP Go.LexP

theorem parseKnown {text : List UInt8} (hl : text.length ≤ 1048576) {a : Ans} (ha : ∀ r, ParseR text r → ansT r = a) (w0 w : World) (hSig : SigE w0) (R : List HP) (hbm : base w0 ∈ R) (hS : Sat w0 w R) :
    Calls Tryz.prog 15 #[.string ⟨text.toArray⟩] w fun e w' => fnQ text w0 R e w' a :=
  (parseF text hl w0 w hSig R hbm hS).mono fun e w' ⟨r, h1, h2⟩ => by rw [← ha r h1]; exact h2
set_option maxHeartbeats 4000000 in
theorem aliveC (w0 w : World) (R : List HP) (hbm : base w0 ∈ R) (hSE : SigE w0) (htb : Tab w0) (hS : Sat w0 w R) : Calls Tryz.prog 11 #[] w fun e w' => e = .returned (.bool true) ∧ Sat w0 w' R := by
  have PK := fun w1 R hm h => parseKnown (text := aliveB) (by decide) (fun r h => alive_parse h) w0 w1 hSE R hm h
  have SM := fun ad cap ad2 cap2 w1 R h => sameT aliveL (by decide) ad cap ad2 cap2 w0 w1 R h (A := own 50 2 ad 6 cap (Fs aliveL)) (B := own 50 2 ad2 6 cap2 (Fs aliveL))
  have PR := fun ad cap w1 R hS hA hm => printE aliveL (by decide) ad cap w0 w1 R hS (A := own 50 2 ad 6 cap (Fs aliveL)) hA Rd.of_own hm htb
  simp only [alive_prints, show aliveL.length = 6 from rfl] at PR SM
  have hFs : Fs aliveL = [.int .i64 2, .int .i64 0, .int .i64 2, .int .i64 1, .int .i64 6, .int .i64 0, .int .i64 2, .int .i64 2, .int .i64 3, .int .i64 0, .int .i64 7, .int .i64 0] := rfl
  have HF := hid hFs
  clear hFs
  go_enter Tryz.func11, Tryz.ntmps11
  go_wp2_with (first | (go_at_call 15; refine (show Calls Tryz.prog 15 #[.string ⟨aliveB.toArray⟩] _ _ from (PK _ _ hbm hS).mono ?_); clear hS; rintro e w ⟨ad, cap, rfl, hS⟩; simp only [show aliveL.length = 6 from rfl] at hS ⊢) | ((with_reducible apply arm_alloc hS); (first | with_reducible exact wanted_none | exact wanted_guard rfl rfl); (with_reducible first | exact z22 | exact z29 | exact z31 | exact z50); clear hS; intro NB w hS; (try simp only [Act.put, q1, q2, q3])) | ((with_reducible apply arm_storeN hS); (first | with_reducible exact wanted_none | exact wanted_guard rfl rfl); (first | exact ev_tmp rfl | exact ev_const); (first | exact ev_tmp rfl | exact ev_const); (repeat (with_reducible first | exact mem_hd | apply mem_tl)); rfl; (first | (focus (simp; done)) | (simp; omega) | omega); (repeat (with_reducible first | exact Upd.hd | apply Upd.tl)); rfl; (with_reducible first | exact sz29 | exact sz31 | exact sz50); rfl; clear hS; intro w hS; (try simp only [setFrom, q2, q3] at hS); (try simp only [Act.put, q1, q2, q3])) | ((with_reducible apply arm_load hS); (first | with_reducible exact wanted_none | exact wanted_guard rfl rfl); (first | exact ev_tmp rfl | exact ev_const); (repeat (with_reducible first | exact mem_hd | apply mem_tl)); rfl; decide +kernel; (try simp only [Act.put, q1, q2, q3])) | ((with_reducible apply arm_loadN hS); (first | with_reducible exact wanted_none | exact wanted_guard rfl rfl); (first | exact ev_tmp rfl | exact ev_const); (repeat (with_reducible first | exact mem_hd | apply mem_tl)); (with_reducible first | exact sz29 | exact sz31 | exact sz50); decide +kernel; rfl; rfl; (try simp only [Act.put, q1, q2, q3])) | (((with_reducible apply arm_build26 hS); (first | with_reducible exact wanted_none | exact wanted_guard rfl rfl); (first | with_reducible exact E22); (first | exact ev_tmp rfl | exact ev_const); (first | exact ev_tmp rfl | exact ev_const); (first | exact ev_tmp rfl | exact ev_const); (first | exact ev_tmp rfl | exact ev_const); (first | exact ev_tmp rfl | exact ev_const); (first | exact ev_tmp rfl | exact ev_const); clear hS; intro NB w hS; (try simp only [Act.put, q1, q2, q3])); rw [← HF.out] at hS) | (go_at_call 16; refine (SM _ _ _ _ _ _ hS (by (repeat (with_reducible first | exact mem_hd | apply mem_tl))) (by (repeat (with_reducible first | exact mem_hd | apply mem_tl))) Rd.of_own Rd.of_own).mono ?_; clear hS; rintro e w ⟨rfl, hS⟩) | (go_at_call 14; refine (PR _ _ _ _ hS (by (repeat (with_reducible first | exact mem_hd | apply mem_tl))) (by ((repeat (with_reducible first | exact mem_hd | apply mem_tl)); (try assumption)))).mono ?_; clear hS; rintro e w ⟨rfl, hS⟩))
  go_ret
  exact ⟨rfl, hS.sb (by (repeat (first | with_reducible exact Sb.refl | with_reducible exact Sb.nil | (with_reducible refine Sb.take (by (repeat (with_reducible first | exact Rem.hd | apply Rem.tl)); done) ?_) | with_reducible apply Sb.skip)))⟩
end Go.Proofs.YthackanffcaejaaGreatDoor
end
section
set_option linter.unusedSimpArgs false
set_option linter.unusedVariables false
set_option linter.unusedSectionVars false
namespace Go.Proofs.YthackanffcaejaaGreatDoor
open Go Go.RowKit Go.SL

def rootOp : T → Int
  | .cst _ => 1
  | .var _ => 2
  | .neg _ => 3
  | .qu op _ _ => op
  | .bin op _ _ => op
  | .ite _ _ _ => 11
def rootN : T → Int
  | .cst n => n
  | .var v => v
  | .qu _ v _ => v
  | _ => 0
def Sub (fs : List (Int × Int)) (fr : List Int) (s : Nat) : T → Prop
  | .cst n => fs[s]? = some (1, n) ∧ fr[s]? = some (s : Int)
  | .var v => fs[s]? = some (2, v) ∧ fr[s]? = some (s : Int)
  | .neg a => Sub fs fr s a ∧ fs[s + size a]? = some (3, 0) ∧ fr[s + size a]? = some (s : Int)
  | .qu op v a => Sub fs fr s a ∧ fs[s + size a]? = some (op, v) ∧ fr[s + size a]? = some (s : Int)
  | .bin op a b => Sub fs fr s a ∧ Sub fs fr (s + size a) b ∧ fs[s + size a + size b]? = some (op, 0) ∧ fr[s + size a + size b]? = some (s : Int)
  | .ite c a b => Sub fs fr s c ∧ Sub fs fr (s + size c) a ∧ Sub fs fr (s + size c + size a) b ∧ fs[s + size c + size a + size b]? = some (11, 0) ∧ fr[s + size c + size a + size b]? = some (s : Int)
theorem Sub.root {fs : List (Int × Int)} {fr : List Int} {s : Nat} {t : T} (h : Sub fs fr s t) : fs[s + size t - 1]? = some (rootOp t, rootN t) ∧ fr[s + size t - 1]? = some (s : Int) := by
  cases t with
  | cst n => exact h
  | var n => exact h
  | neg a => exact ⟨h.2.1, h.2.2⟩
  | qu op v a => exact ⟨h.2.1, h.2.2⟩
  | bin op a b => exact ⟨by simpa [size, rootOp, rootN, ← Nat.add_assoc] using h.2.2.1, by simpa [size, ← Nat.add_assoc] using h.2.2.2⟩
  | ite c a b => exact ⟨by simpa [size, rootOp, rootN, ← Nat.add_assoc] using h.2.2.2.1, by simpa [size, ← Nat.add_assoc] using h.2.2.2.2⟩
theorem Sub.set {fs : List (Int × Int)} {fr : List Int} {i : Nat} {v : Int} : ∀ {t : T} {s : Nat}, Sub fs fr s t → s + size t ≤ i → Sub fs (fr.set i v) s t
  | .cst _, s, h, hi => ⟨h.1, by rw [List.getElem?_set_ne (by simp [size] at hi; omega)]; exact h.2⟩
  | .var _, s, h, hi => ⟨h.1, by rw [List.getElem?_set_ne (by simp [size] at hi; omega)]; exact h.2⟩
  | .neg a, s, h, hi => ⟨h.1.set (by simp [size] at hi; omega), h.2.1, by rw [List.getElem?_set_ne (by simp [size] at hi; omega)]; exact h.2.2⟩
  | .qu _ _ a, s, h, hi => ⟨h.1.set (by simp [size] at hi; omega), h.2.1, by rw [List.getElem?_set_ne (by simp [size] at hi; omega)]; exact h.2.2⟩
  | .bin _ a b, s, h, hi => ⟨h.1.set (by simp [size] at hi; omega), h.2.1.set (by simp [size] at hi; omega), h.2.2.1, by rw [List.getElem?_set_ne (by simp [size] at hi; omega)]; exact h.2.2.2⟩
  | .ite c a b, s, h, hi => ⟨h.1.set (by simp [size] at hi; omega), h.2.1.set (by simp [size] at hi; omega), h.2.2.1.set (by simp [size] at hi; omega), h.2.2.2.1, by rw [List.getElem?_set_ne (by simp [size] at hi; omega)]; exact h.2.2.2.2⟩
def Subs (fs : List (Int × Int)) (fr : List Int) : List T → Prop
  | [] => True
  | t :: st => Subs fs fr st ∧ Sub fs fr (sumSz st) t
def roots : List T → List Int
  | [] => []
  | t :: st => roots st ++ [((sumSz st + size t - 1 : Nat) : Int)]
theorem roots_length : ∀ st : List T, (roots st).length = st.length
  | [] => rfl
  | t :: st => by simp [roots, roots_length st]
theorem Subs.set {fs : List (Int × Int)} {fr : List Int} {i : Nat} {v : Int} : ∀ {st : List T}, Subs fs fr st → sumSz st ≤ i → Subs fs (fr.set i v) st
  | [], _, _ => trivial
  | t :: st, h, hi => by
    simp only [sumSz, List.map_cons, List.sum_cons] at hi
    exact ⟨h.1.set (by unfold sumSz; omega), h.2.set (by unfold sumSz; omega)⟩

/-! ### What stands in brackets -/
def bindsP (op : Int) : Int := if op = 6 then 5 else if op = 8 then 4 else if op = 7 then 3 else if op = 9 then 2 else 1
def twoP (op : Int) : Bool := decide (6 ≤ op) && decide (op ≤ 10)
def firstP (op root : Int) : Bool := if twoP root = false ∨ op = 10 then false else if op = 9 then decide (root = 9) || decide (root = 10) else decide (bindsP root < bindsP op)
def secondP (op root : Int) : Bool := if twoP root = false then false else if op = 9 ∨ op = 10 then decide (root = 10) else decide (bindsP root ≤ bindsP op)
def quP (op : Int) : Bool := decide (op = 4) || decide (op = 5)
theorem five {o : Int} (h1 : 6 ≤ o) (h2 : o ≤ 10) : o = 6 ∨ o = 7 ∨ o = 8 ∨ o = 9 ∨ o = 10 := by omega
theorem brk_neg {a : T} (h : okT a) (last : Bool) : (twoP (rootOp a) || (quP (rootOp a) && !last)) = brkP 3 0 a last := by
  cases a with
  | qu op v b => obtain ⟨rfl | rfl, _⟩ := h <;> cases last <;> rfl
  | bin op b c => obtain ⟨h1, h2, _⟩ := h; rcases five h1 h2 with rfl | rfl | rfl | rfl | rfl <;> cases last <;> rfl
  | _ => cases last <;> rfl
theorem brk_first {op : Int} (h1 : 6 ≤ op) (h2 : op ≤ 10) {a : T} (h : okT a) : (firstP op (rootOp a) || (quP (rootOp a) && !false)) = brkP op 0 a false := by
  cases a with
  | qu o v b => obtain ⟨rfl | rfl, _⟩ := h <;> rcases five h1 h2 with rfl | rfl | rfl | rfl | rfl <;> rfl
  | bin o b c =>
    obtain ⟨g1, g2, _⟩ := h
    rcases five g1 g2 with rfl | rfl | rfl | rfl | rfl <;> rcases five h1 h2 with rfl | rfl | rfl | rfl | rfl <;> rfl
  | _ => rcases five h1 h2 with rfl | rfl | rfl | rfl | rfl <;> rfl
theorem brk_second {op : Int} (h1 : 6 ≤ op) (h2 : op ≤ 10) {a : T} (h : okT a) (last : Bool) : (secondP op (rootOp a) || (quP (rootOp a) && !last)) = brkP op 1 a last := by
  cases a with
  | qu o v b => obtain ⟨rfl | rfl, _⟩ := h <;> rcases five h1 h2 with rfl | rfl | rfl | rfl | rfl <;> cases last <;> rfl
  | bin o b c =>
    obtain ⟨g1, g2, _⟩ := h
    rcases five g1 g2 with rfl | rfl | rfl | rfl | rfl <;> rcases five h1 h2 with rfl | rfl | rfl | rfl | rfl <;> cases last <;> rfl
  | _ => rcases five h1 h2 with rfl | rfl | rfl | rfl | rfl <;> cases last <;> rfl
def lkd (t : T) (last : Bool) : Int := if last then (look t).1 else (look t).2
def opB (t : T) (br last : Bool) : List UInt8 := if br then [40] ++ wr t true ++ [41] else wr t last
def lkB (t : T) (br last : Bool) : Int := if br then 1 + lkd t true else lkd t last
theorem lkB_cnt (op side : Int) (t : T) (last : Bool) : lkB t (brkP op side t last) last = cnt op side t last (look t) := by
  unfold lkB cnt lkd; cases brkP op side t last <;> cases last <;> rfl
theorem lkd_neg (a : T) (last : Bool) : lkd (.neg a) last = 1 + cnt 3 0 a last (look a) := by cases last <;> rfl
theorem lkd_qu (op v : Int) (a : T) (last : Bool) : lkd (.qu op v a) last = 1 + lkd a true := by cases last <;> rfl
theorem lkd_bin (op : Int) (a b : T) (last : Bool) : lkd (.bin op a b) last = max (cnt op 0 a false (look a)) (cnt op 1 b last (look b)) := by cases last <;> rfl
theorem lkd_ite (c a b : T) (last : Bool) : lkd (.ite c a b) last = 1 + max (max (lkd c true) (lkd a true)) (lkd b true) := by cases last <;> rfl
theorem lkd_le (t : T) (last : Bool) : 0 ≤ lkd t last ∧ lkd t last ≤ 2 * size t := by
  have := look_le t
  cases last <;> simp [lkd] <;> omega
end Go.Proofs.YthackanffcaejaaGreatDoor
end
section
set_option linter.unusedSimpArgs false
set_option linter.unusedVariables false
set_option linter.unusedSectionVars false
set_option maxRecDepth 20000
namespace Go.Proofs.YthackanffcaejaaGreatDoor
open Go Go.RowKit Go.SL

theorem twoR (op : Int) (w0 w : World) (Hs : List HP) (hS : Sat w0 w Hs) : Calls Tryz.prog 124 #[.int .i64 op] w fun e w' => e = .returned (.bool (twoP op)) ∧ Sat w0 w' Hs := by
  by_cases h1 : 6 ≤ op
  · by_cases h2 : op ≤ 10
    · have hx : twoP op = true := by simp [twoP, h1, h2]
      rw [hx]; clear hx
      go_enter Tryz.func124, Tryz.ntmps124
      go_wp2
      go_ret
      exact ⟨rfl, hS⟩
    · have hx : twoP op = false := by simp [twoP, h2]
      rw [hx]; clear hx
      go_enter Tryz.func124, Tryz.ntmps124
      go_wp2
      go_ret
      exact ⟨rfl, hS⟩
  · have hx : twoP op = false := by simp [twoP, h1]
    rw [hx]; clear hx
    go_enter Tryz.func124, Tryz.ntmps124
    go_wp2
    go_ret
    exact ⟨rfl, hS⟩
theorem bindsR (op : Int) (w0 w : World) (Hs : List HP) (hS : Sat w0 w Hs) : Calls Tryz.prog 89 #[.int .i64 op] w fun e w' => e = .returned (.int .i64 (bindsP op)) ∧ Sat w0 w' Hs := by
  by_cases h6 : op = 6
  · subst h6
    go_enter Tryz.func89, Tryz.ntmps89
    go_wp2
    go_ret
    exact ⟨rfl, hS⟩
  by_cases h8 : op = 8
  · subst h8
    go_enter Tryz.func89, Tryz.ntmps89
    go_wp2
    go_ret
    exact ⟨rfl, hS⟩
  by_cases h7 : op = 7
  · subst h7
    go_enter Tryz.func89, Tryz.ntmps89
    go_wp2
    go_ret
    exact ⟨rfl, hS⟩
  by_cases h9 : op = 9
  · subst h9
    go_enter Tryz.func89, Tryz.ntmps89
    go_wp2
    go_ret
    exact ⟨rfl, hS⟩
  have hx : bindsP op = 1 := by simp [bindsP, h6, h7, h8, h9]
  have g6 : (op == 6) = false := by simp [h6]
  have g7 : (op == 7) = false := by simp [h7]
  have g8 : (op == 8) = false := by simp [h8]
  have g9 : (op == 9) = false := by simp [h9]
  rw [hx]; clear hx
  go_enter Tryz.func89, Tryz.ntmps89
  go_wp2
  go_ret
  exact ⟨rfl, hS⟩
theorem signR (op : Int) (h1 : 6 ≤ op) (h2 : op ≤ 10) (w0 w : World) (Hs : List HP) (hS : Sat w0 w Hs) : Calls Tryz.prog 126 #[.int .i64 op] w fun e w' => e = .returned (.string ⟨(spellP op).toArray⟩) ∧ Sat w0 w' Hs := by
  rcases five h1 h2 with rfl | rfl | rfl | rfl | rfl
  all_goals
    go_enter Tryz.func126, Tryz.ntmps126
    go_wp2
    go_ret
    exact ⟨rfl, hS⟩
theorem firstR (op root : Int) (w0 w : World) (Hs : List HP) (hS : Sat w0 w Hs) : Calls Tryz.prog 125 #[.int .i64 op, .int .i64 root] w fun e w' => e = .returned (.bool (firstP op root)) ∧ Sat w0 w' Hs := by
  have TR := twoR root
  have B1 := bindsR root
  have B2 := bindsR op
  obtain ⟨X, hX⟩ : ∃ X, X = firstP op root := ⟨_, rfl⟩
  rw [← hX]
  cases ht : twoP root with
  | false =>
    have HX := hid (show X = false by rw [hX, firstP, ht]; rfl)
    rw [ht] at TR
    clear hX ht B1 B2
    go_enter Tryz.func125, Tryz.ntmps125
    go_wp2_with (go_at_call 124; refine (TR _ _ _ hS).mono ?_; clear hS; rintro e w ⟨rfl, hS⟩)
    go_ret
    exact ⟨by rw [HX.out]; rfl, hS⟩
  | true =>
    rw [ht] at TR
    by_cases h10 : op = 10
    · have HX := hid (show X = false by rw [hX, firstP, ht, h10]; rfl)
      subst h10
      clear hX ht B1 B2
      go_enter Tryz.func125, Tryz.ntmps125
      go_wp2_with (go_at_call 124; refine (TR _ _ _ hS).mono ?_; clear hS; rintro e w ⟨rfl, hS⟩)
      go_ret
      exact ⟨by rw [HX.out]; rfl, hS⟩
    · have g10 : (op == 10) = false := by simp [h10]
      by_cases h9 : op = 9
      · have HX := hid (show X = (decide (root = 9) || decide (root = 10)) by rw [hX, firstP, ht, h9]; rfl)
        subst h9
        by_cases r9 : root = 9
        · subst r9
          clear hX ht B1 B2
          go_enter Tryz.func125, Tryz.ntmps125
          go_wp2_with (go_at_call 124; refine (TR _ _ _ hS).mono ?_; clear hS; rintro e w ⟨rfl, hS⟩)
          go_ret
          exact ⟨by rw [HX.out]; rfl, hS⟩
        · have g9 : (root == 9) = false := by simp [r9]
          have HX := hid (show X = (root == 10) by rw [HX.out]; by_cases h : root = 10 <;> simp [h, r9])
          clear hX ht B1 B2 r9
          go_enter Tryz.func125, Tryz.ntmps125
          go_wp2_with (go_at_call 124; refine (TR _ _ _ hS).mono ?_; clear hS; rintro e w ⟨rfl, hS⟩)
          go_ret
          exact ⟨by rw [HX.out]; try rfl, hS⟩
      · have g9 : (op == 9) = false := by simp [h9]
        have HX := hid (show X = decide (bindsP root < bindsP op) by rw [hX, firstP, ht]; simp [h10, h9])
        generalize bindsP root = b1 at *
        generalize bindsP op = b2 at *
        clear hX ht h9 h10
        go_enter Tryz.func125, Tryz.ntmps125
        go_wp2_with (first | (go_at_call 124; refine (TR _ _ _ hS).mono ?_; clear hS; rintro e w ⟨rfl, hS⟩) | (go_at_call 89; (first | with_reducible refine (B1 _ _ _ hS).mono ?_ | with_reducible refine (B2 _ _ _ hS).mono ?_); clear hS; rintro e w ⟨rfl, hS⟩))
        go_ret
        exact ⟨by rw [HX.out]; try rfl, hS⟩
theorem secondR (op root : Int) (w0 w : World) (Hs : List HP) (hS : Sat w0 w Hs) : Calls Tryz.prog 127 #[.int .i64 op, .int .i64 root] w fun e w' => e = .returned (.bool (secondP op root)) ∧ Sat w0 w' Hs := by
  have TR := twoR root
  have B1 := bindsR root
  have B2 := bindsR op
  obtain ⟨X, hX⟩ : ∃ X, X = secondP op root := ⟨_, rfl⟩
  rw [← hX]
  cases ht : twoP root with
  | false =>
    have HX := hid (show X = false by rw [hX, secondP, ht]; rfl)
    rw [ht] at TR
    clear hX ht B1 B2
    go_enter Tryz.func127, Tryz.ntmps127
    go_wp2_with (go_at_call 124; refine (TR _ _ _ hS).mono ?_; clear hS; rintro e w ⟨rfl, hS⟩)
    go_ret
    exact ⟨by rw [HX.out]; rfl, hS⟩
  | true =>
    rw [ht] at TR
    by_cases h9 : op = 9
    · have HX := hid (show X = (root == 10) by rw [hX, secondP, ht, h9]; by_cases h : root = 10 <;> simp [h])
      subst h9
      clear hX ht B1 B2
      go_enter Tryz.func127, Tryz.ntmps127
      go_wp2_with (go_at_call 124; refine (TR _ _ _ hS).mono ?_; clear hS; rintro e w ⟨rfl, hS⟩)
      go_ret
      exact ⟨by rw [HX.out]; try rfl, hS⟩
    · have g9 : (op == 9) = false := by simp [h9]
      by_cases h10 : op = 10
      · have HX := hid (show X = (root == 10) by rw [hX, secondP, ht, h10]; by_cases h : root = 10 <;> simp [h])
        subst h10
        clear hX ht B1 B2
        go_enter Tryz.func127, Tryz.ntmps127
        go_wp2_with (go_at_call 124; refine (TR _ _ _ hS).mono ?_; clear hS; rintro e w ⟨rfl, hS⟩)
        go_ret
        exact ⟨by rw [HX.out]; try rfl, hS⟩
      · have g10 : (op == 10) = false := by simp [h10]
        have HX := hid (show X = decide (bindsP root ≤ bindsP op) by rw [hX, secondP, ht]; simp [h10, h9])
        generalize bindsP root = b1 at *
        generalize bindsP op = b2 at *
        clear hX ht h9 h10
        go_enter Tryz.func127, Tryz.ntmps127
        go_wp2_with (first | (go_at_call 124; refine (TR _ _ _ hS).mono ?_; clear hS; rintro e w ⟨rfl, hS⟩) | (go_at_call 89; (first | with_reducible refine (B1 _ _ _ hS).mono ?_ | with_reducible refine (B2 _ _ _ hS).mono ?_); clear hS; rintro e w ⟨rfl, hS⟩))
        go_ret
        exact ⟨by rw [HX.out]; try rfl, hS⟩

def pg (p : Nat) (x y : Value) (l : List UInt8) (deep most : Int) : HP := fun h => ∃ (ad : Option Addr) (cap : Nat), sep (blk p 68 [x, y, .slice ad l.length cap, .int .i64 deep, .int .i64 most]) (own 5 1 ad l.length cap (Bs l)) h
theorem open_pg {w0 w : World} {R : List HP} {p : Nat} {x y : Value} {l : List UInt8} {deep most : Int} (hS : Sat w0 w (pg p x y l deep most :: R)) :
    ∃ (ad : Option Addr) (cap : Nat), Sat w0 w (blk p 68 [x, y, .slice ad l.length cap, .int .i64 deep, .int .i64 most] :: own 5 1 ad l.length cap (Bs l) :: R) := by
  obtain ⟨ad, hS⟩ := hS.ex
  obtain ⟨cap, hS⟩ := hS.ex
  exact ⟨ad, cap, hS.split⟩
theorem shut_pg {w0 w : World} {R : List HP} {p : Nat} {x y : Value} {l : List UInt8} {deep most : Int} {ad : Option Addr} {n cap : Nat} (hn : n = l.length)
    (hS : Sat w0 w (blk p 68 [x, y, .slice ad n cap, .int .i64 deep, .int .i64 most] :: own 5 1 ad n cap (Bs l) :: R)) : Sat w0 w (pg p x y l deep most :: R) := by
  subst hn
  exact (hS.join).turn fun g h => ⟨ad, cap, h⟩

section
variable (p : Nat) (x y : Value) (hx : x.oneCell' = true) (hy : y.oneCell' = true) (l : List UInt8) (deep most : Int) (w0 w : World) (R : List HP) (hS : Sat w0 w (pg p x y l deep most :: R))
include hS
theorem putR (s : List UInt8) (hl : l.length + s.length ≤ 140737488355328) : Calls Tryz.prog 106 #[.pointer (some ⟨p, 0, none⟩), .string ⟨s.toArray⟩] w fun e w' => e = .returned (.tuple #[]) ∧ Sat w0 w' (pg p x y (l ++ s) deep most :: R) := by
  obtain ⟨ad, cap, hS⟩ := open_pg hS
  go_enter Tryz.func106, Tryz.ntmps106
  go_wp2_with (first | ((with_reducible apply arm_load hS); exact wanted_none; exact ev_tmp rfl; (repeat (with_reducible exact mem_hd)); rfl; decide +kernel; (try simp only [Act.put, q1, q2, q3])) | ((with_reducible apply arm_store hS); exact wanted_none; exact ev_tmp rfl; exact ev_tmp rfl; (repeat (with_reducible first | exact mem_hd | apply mem_tl)); rfl; (focus (simp; done)); (repeat (with_reducible first | exact Upd.hd | apply Upd.tl)); rfl; decide +kernel; clear hS; intro w hS; (try simp only [q2, q3] at hS); (try simp only [Act.put, q1, q2, q3])) | ((with_reducible apply arm_appendStrL hS); exact wanted_none; exact ev_tmp rfl; exact ev_tmp rfl; exact E66; kernel_rfl; kernel_rfl; (repeat (with_reducible first | exact Rem.hd | apply Rem.tl)); (omega); clear hS; intro AD CAP w hS; (try simp only [Act.put, q1, q2, q3])))
  go_end0
  refine ⟨rfl, ?_⟩
  rw [← Bs_append] at hS
  exact shut_pg (ad := AD) (cap := CAP) (n := l.length + s.length) (by simp) (hS.sb (by (repeat (first | with_reducible exact Sb.refl | (with_reducible refine Sb.take (by (repeat (with_reducible first | exact Rem.hd | apply Rem.tl)); done) ?_)))))
theorem opensR (h0 : 0 ≤ deep) (h1 : deep ≤ 4000000000) : Calls Tryz.prog 105 #[.pointer (some ⟨p, 0, none⟩)] w fun e w' => e = .returned (.tuple #[]) ∧ Sat w0 w' (pg p x y l (deep + 1) (max most (deep + 1)) :: R) := by
  obtain ⟨ad, cap, hS⟩ := open_pg hS
  obtain ⟨M, hM⟩ : ∃ M, M = max most (deep + 1) := ⟨_, rfl⟩
  rw [← hM]
  by_cases hd : deep + 1 > most
  · have HM := hid (show M = deep + 1 by omega)
    clear hM
    go_enter Tryz.func105, Tryz.ntmps105
    go_wp2_with (first | ((first | ((with_reducible apply draw_pure (i := 0)); (simp only [q4, q6, q5]; with_reducible rfl); kernel_rfl; kernel_rfl; decide +kernel; rfl; exact hC; exact (fun _ _ _ h => h); exact hR; with_reducible exact wanted_none) | ((with_reducible apply draw_pure (i := 1)); (simp only [q4, q6, q5]; with_reducible rfl); kernel_rfl; kernel_rfl; decide +kernel; rfl; exact hC; exact (fun _ _ _ h => h); exact hR; with_reducible exact wanted_none) | ((with_reducible apply draw_pure (i := 4)); (simp only [q4, q6, q5]; with_reducible rfl); kernel_rfl; kernel_rfl; decide +kernel; rfl; exact hC; exact (fun _ _ _ h => h); exact hR; with_reducible exact wanted_none) | ((with_reducible apply draw_pure (i := 5)); (simp only [q4, q6, q5]; with_reducible rfl); kernel_rfl; kernel_rfl; decide +kernel; rfl; exact hC; exact (fun _ _ _ h => h); exact hR; with_reducible exact wanted_none) | ((with_reducible apply draw_pure (i := 8)); (simp only [q4, q6, q5]; with_reducible rfl); kernel_rfl; kernel_rfl; decide +kernel; rfl; exact hC; exact (fun _ _ _ h => h); exact hR; with_reducible exact wanted_none)); (intro w; first | (go_simp; done) | (go_simp; rw [wrapI (by omega) (by omega)]) | (go_simp; with_reducible rfl) | (go_simp; rfl)); (clear hR hC; intro hR hC); (try simp only [Act.put, q1, q2, q3])) | ((first | ((with_reducible apply draw_pure (i := 2)); (simp only [q4, q6, q5]; with_reducible rfl); kernel_rfl; kernel_rfl; decide +kernel; rfl; exact hC; exact (fun _ _ _ h => h); exact hR; with_reducible exact wanted_none) | ((with_reducible apply draw_pure (i := 6)); (simp only [q4, q6, q5]; with_reducible rfl); kernel_rfl; kernel_rfl; decide +kernel; rfl; exact hC; exact (fun _ _ _ h => h); exact hR; with_reducible exact wanted_none)); (intro w; first | (exact draw_fa rfl (by (exact ev_const)) (by assumption) (by with_reducible exact fo7_0)) | (go_simp; done) | (go_simp; rw [wrapI (by omega) (by omega)]) | (go_simp; with_reducible rfl) | (go_simp; rfl)); (clear hR hC; intro hR hC); (try simp only [Act.put, q1, q2, q3])) | ((first | ((with_reducible apply draw_read (i := 3)); (simp only [q4, q6, q5]; with_reducible rfl); kernel_rfl; kernel_rfl; decide +kernel; kernel_rfl; rfl; exact hC; exact (fun _ _ _ h => h); exact hR; kernel_rfl; with_reducible exact wanted_none) | ((with_reducible apply draw_read (i := 7)); (simp only [q4, q6, q5]; with_reducible rfl); kernel_rfl; kernel_rfl; decide +kernel; kernel_rfl; rfl; exact hC; exact (fun _ _ _ h => h); exact hR; kernel_rfl; with_reducible exact wanted_none)); (intro w hS; (apply run_op_load rfl (by (exact ev_tmp rfl))); first | exact run_loadVar1 (by decide +kernel) (hS.cell (by (repeat (with_reducible exact mem_hd))) rfl) | exact run_loadVar1 (by decide +kernel) ((hS.ownCell (by (repeat (with_reducible apply mem_tl))) (by (rfl))).1) | exact run_loadVar1 (by decide +kernel) (Sat.rdCell2 (by assumption) hS (by ((repeat (with_reducible apply mem_tl))); try assumption) (by (rfl))) | exact run_loadVar1 (by decide +kernel) (hS.baseCell (by ((repeat (with_reducible apply mem_tl))); try assumption) (by assumption)) | exact run_loadVar1 (by decide +kernel) (fzC (by assumption) hS (by ((repeat (with_reducible apply mem_tl))); try assumption)) | exact run_loadRN hS (by assumption) (by ((repeat (with_reducible apply mem_tl))); try assumption) (by assumption) (by rfl) (by with_reducible exact sz7) (by decide +kernel) (by decide) | exact hS.loadWhole (by (repeat (with_reducible apply mem_tl))) (by kernel_rfl) (by kernel_rfl)); (clear hR hC; intro hR hC); (try simp only [Act.put, q1, q2, q3])) | ((with_reducible apply draw_done); decide +kernel; clear hR hC) | (refine draw_sat 1 9 hS (by kernel_rfl) [] rfl ?_; clear hS; intro w hS hR hC) | ((with_reducible apply arm_load hS); exact wanted_none; exact ev_tmp rfl; (repeat (with_reducible exact mem_hd)); rfl; decide +kernel; (try simp only [Act.put, q1, q2, q3])) | ((with_reducible apply arm_store hS); exact wanted_none; exact ev_tmp rfl; exact ev_tmp rfl; (repeat (with_reducible exact mem_hd)); rfl; (focus (simp; done)); (repeat (with_reducible exact Upd.hd)); rfl; decide +kernel; clear hS; intro w hS; (try simp only [q2, q3] at hS); (try simp only [Act.put, q1, q2, q3])))
    go_end0
    exact ⟨rfl, by rw [HM.out]; exact shut_pg rfl hS⟩
  · have HM := hid (show M = most by omega)
    clear hM
    go_enter Tryz.func105, Tryz.ntmps105
    go_wp2_with (first | ((first | ((with_reducible apply draw_pure (i := 0)); (simp only [q4, q6, q5]; with_reducible rfl); kernel_rfl; kernel_rfl; decide +kernel; rfl; exact hC; exact (fun _ _ _ h => h); exact hR; with_reducible exact wanted_none) | ((with_reducible apply draw_pure (i := 1)); (simp only [q4, q6, q5]; with_reducible rfl); kernel_rfl; kernel_rfl; decide +kernel; rfl; exact hC; exact (fun _ _ _ h => h); exact hR; with_reducible exact wanted_none) | ((with_reducible apply draw_pure (i := 4)); (simp only [q4, q6, q5]; with_reducible rfl); kernel_rfl; kernel_rfl; decide +kernel; rfl; exact hC; exact (fun _ _ _ h => h); exact hR; with_reducible exact wanted_none) | ((with_reducible apply draw_pure (i := 5)); (simp only [q4, q6, q5]; with_reducible rfl); kernel_rfl; kernel_rfl; decide +kernel; rfl; exact hC; exact (fun _ _ _ h => h); exact hR; with_reducible exact wanted_none) | ((with_reducible apply draw_pure (i := 8)); (simp only [q4, q6, q5]; with_reducible rfl); kernel_rfl; kernel_rfl; decide +kernel; rfl; exact hC; exact (fun _ _ _ h => h); exact hR; with_reducible exact wanted_none)); (intro w; first | (go_simp; done) | (go_simp; rw [wrapI (by omega) (by omega)]) | (go_simp; with_reducible rfl) | (go_simp; rfl)); (clear hR hC; intro hR hC); (try simp only [Act.put, q1, q2, q3])) | ((first | ((with_reducible apply draw_pure (i := 2)); (simp only [q4, q6, q5]; with_reducible rfl); kernel_rfl; kernel_rfl; decide +kernel; rfl; exact hC; exact (fun _ _ _ h => h); exact hR; with_reducible exact wanted_none) | ((with_reducible apply draw_pure (i := 6)); (simp only [q4, q6, q5]; with_reducible rfl); kernel_rfl; kernel_rfl; decide +kernel; rfl; exact hC; exact (fun _ _ _ h => h); exact hR; with_reducible exact wanted_none)); (intro w; first | (exact draw_fa rfl (by (exact ev_const)) (by assumption) (by with_reducible exact fo7_0)) | (go_simp; done) | (go_simp; rw [wrapI (by omega) (by omega)]) | (go_simp; with_reducible rfl) | (go_simp; rfl)); (clear hR hC; intro hR hC); (try simp only [Act.put, q1, q2, q3])) | ((first | ((with_reducible apply draw_read (i := 3)); (simp only [q4, q6, q5]; with_reducible rfl); kernel_rfl; kernel_rfl; decide +kernel; kernel_rfl; rfl; exact hC; exact (fun _ _ _ h => h); exact hR; kernel_rfl; with_reducible exact wanted_none) | ((with_reducible apply draw_read (i := 7)); (simp only [q4, q6, q5]; with_reducible rfl); kernel_rfl; kernel_rfl; decide +kernel; kernel_rfl; rfl; exact hC; exact (fun _ _ _ h => h); exact hR; kernel_rfl; with_reducible exact wanted_none)); (intro w hS; (apply run_op_load rfl (by (exact ev_tmp rfl))); first | exact run_loadVar1 (by decide +kernel) (hS.cell (by (repeat (with_reducible exact mem_hd))) rfl) | exact run_loadVar1 (by decide +kernel) ((hS.ownCell (by (repeat (with_reducible apply mem_tl))) (by (rfl))).1) | exact run_loadVar1 (by decide +kernel) (Sat.rdCell2 (by assumption) hS (by ((repeat (with_reducible apply mem_tl))); try assumption) (by (rfl))) | exact run_loadVar1 (by decide +kernel) (hS.baseCell (by ((repeat (with_reducible apply mem_tl))); try assumption) (by assumption)) | exact run_loadVar1 (by decide +kernel) (fzC (by assumption) hS (by ((repeat (with_reducible apply mem_tl))); try assumption)) | exact run_loadRN hS (by assumption) (by ((repeat (with_reducible apply mem_tl))); try assumption) (by assumption) (by rfl) (by with_reducible exact sz7) (by decide +kernel) (by decide) | exact hS.loadWhole (by (repeat (with_reducible apply mem_tl))) (by kernel_rfl) (by kernel_rfl)); (clear hR hC; intro hR hC); (try simp only [Act.put, q1, q2, q3])) | ((with_reducible apply draw_done); decide +kernel; clear hR hC) | (refine draw_sat 1 9 hS (by kernel_rfl) [] rfl ?_; clear hS; intro w hS hR hC) | ((with_reducible apply arm_load hS); exact wanted_none; exact ev_tmp rfl; (repeat (with_reducible exact mem_hd)); rfl; decide +kernel; (try simp only [Act.put, q1, q2, q3])) | ((with_reducible apply arm_store hS); exact wanted_none; exact ev_tmp rfl; exact ev_tmp rfl; (repeat (with_reducible exact mem_hd)); rfl; (focus (simp; done)); (repeat (with_reducible exact Upd.hd)); rfl; decide +kernel; clear hS; intro w hS; (try simp only [q2, q3] at hS); (try simp only [Act.put, q1, q2, q3])))
    go_end0
    exact ⟨rfl, by rw [HM.out]; exact shut_pg rfl hS⟩
end
end Go.Proofs.YthackanffcaejaaGreatDoor
end
section
set_option linter.unusedSimpArgs false
set_option linter.unusedVariables false
set_option linter.unusedSectionVars false
set_option maxRecDepth 20000
namespace Go.Proofs.YthackanffcaejaaGreatDoor
open Go Go.RowKit Go.SL

structure PgIn (fs : List (Int × Int)) (fr : List Int) (af ar : Option Addr) (AF AR : HP) (R : List HP) : Prop where
  rf : Rd AF af (Fs fs)
  rr : Rd AR ar (Is fr)
  mf : AF ∈ R
  mr : AR ∈ R
  hl : fr.length = fs.length
  hn : fs.length ≤ 65536
def TreeC (fs : List (Int × Int)) (fr : List Int) (t : T) : Prop := ∀ (s : Nat) (x : Int) (last : Bool) (p : Nat) (af ar : Option Addr) (cf cr : Nat) (AF AR : HP) (l : List UInt8) (deep most : Int) (w0 w : World) (R : List HP),
  Sub fs fr s t → s + size t ≤ fs.length → x = ((s + size t - 1 : Nat) : Int) → PgIn fs fr af ar AF AR R → 0 ≤ deep → deep ≤ most → deep + 4 * size t ≤ 1000000 → l.length + 50 * size t ≤ 1000000000 →
  Sat w0 w (pg p (.slice af fs.length cf) (.slice ar fs.length cr) l deep most :: R) →
  Calls Tryz.prog 104 #[.pointer (some ⟨p, 0, none⟩), .int .i64 x, .bool last] w fun e w' => e = .returned (.tuple #[]) ∧ Sat w0 w' (pg p (.slice af fs.length cf) (.slice ar fs.length cr) (l ++ wr t last) deep (max most (deep + lkd t last)) :: R)
theorem Fs_cell {fs : List (Int × Int)} {k : Nat} {op n : Int} (h : fs[k]? = some (op, n)) : (Fs fs)[k * 2 + 0]? = some (.int .i64 op) ∧ (Fs fs)[k * 2 + 1]? = some (.int .i64 n) := by
  have h1 := Fs_at h
  have e0 : ((Fs fs).drop (k * 2))[0]? = some (.int .i64 op) := by
    have := congrArg (fun l => l[0]?) h1
    simpa [List.getElem?_take] using this
  have e1 : ((Fs fs).drop (k * 2))[1]? = some (.int .i64 n) := by
    have := congrArg (fun l => l[1]?) h1
    simpa [List.getElem?_take] using this
  rw [List.getElem?_drop] at e0 e1
  exact ⟨e0, e1⟩

set_option maxHeartbeats 4000000 in
theorem operandR (fs : List (Int × Int)) (fr : List Int) (t : T) (ht : okT t) (hsz : size t ≤ 65536) (hC : TreeC fs fr t) (s : Nat) (x : Int) (br last E : Bool) (hE : (br || (quP (rootOp t) && !last)) = E) (p : Nat) (af ar : Option Addr) (cf cr : Nat) (AF AR : HP) (l : List UInt8) (deep most : Int) (w0 w : World) (R : List HP)
    (hs : Sub fs fr s t) (hb : s + size t ≤ fs.length) (hx : x = ((s + size t - 1 : Nat) : Int)) (hP : PgIn fs fr af ar AF AR R) (d0 : 0 ≤ deep) (d1 : deep ≤ most) (d2 : deep + 4 * size t + 1 ≤ 1000000) (hll : l.length + 50 * size t + 10 ≤ 1000000000)
    (hS : Sat w0 w (pg p (.slice af fs.length cf) (.slice ar fs.length cr) l deep most :: R)) :
    Calls Tryz.prog 67 #[.pointer (some ⟨p, 0, none⟩), .int .i64 x, .bool br, .bool last] w fun e w' => e = .returned (.tuple #[]) ∧ Sat w0 w' (pg p (.slice af fs.length cf) (.slice ar fs.length cr) (l ++ opB t E last) deep (max most (deep + lkB t E last)) :: R) := by
  have hsp := size_pos t
  obtain ⟨rf, rr, mf, mr, hl, hn⟩ := hP
  have hP : PgIn fs fr af ar AF AR R := ⟨rf, rr, mf, mr, hl, hn⟩
  have hroot := hs.root.1
  have hxn : x.toNat = s + size t - 1 := by omega
  rw [← hxn] at hroot
  have hF := (Fs_cell hroot).1
  have hx0 : 0 ≤ x := by omega
  have hx1 : x < fs.length := by omega
  have hnf : ∃ aa, af = some aa ∧ aa.spot = none := Sat.rdAd2 rf hS (.tail _ mf) (by rw [Fs_length]; omega)
  obtain ⟨w1, w2, w3⟩ := wr_le t ht (by omega)
  obtain ⟨k1, k2⟩ := lkd_le t true
  have hD := hC s x true p af ar cf cr AF AR (l ++ [40]) (deep + 1) (max most (deep + 1))
  have hI := hC s x last p af ar cf cr AF AR l deep most
  obtain ⟨X, hX⟩ : ∃ X, X = opB t E last := ⟨_, rfl⟩
  obtain ⟨M, hM⟩ : ∃ M, M = max most (deep + lkB t E last) := ⟨_, rfl⟩
  rw [← hX, ← hM]
  have h3 : rootOp t = 4 ∨ rootOp t = 5 ∨ (rootOp t ≠ 4 ∧ rootOp t ≠ 5) := by omega
  generalize rootOp t = o at *
  have HX := hid hX
  have HM := hid hM
  have HN := hid hx
  clear hX hM hC hroot hxn hx
  rcases h3 with rfl | rfl | ⟨o4, o5⟩
  · rw [show quP 4 = true from rfl] at hE
    cases br <;> cases last
    all_goals (simp only [Bool.false_or, Bool.true_or, Bool.true_and, Bool.false_and, Bool.not_true, Bool.not_false] at hE; subst hE)
    all_goals
      obtain ⟨PA, PC, hS⟩ := open_pg hS
      go_enter Tryz.func67, Tryz.ntmps67
      go_wp2_with (first | ((with_reducible apply arm_load hS); exact wanted_none; exact ev_tmp rfl; (repeat (with_reducible exact mem_hd)); rfl; decide +kernel; (try simp only [Act.put, q1, q2, q3])) | ((with_reducible apply arm_indexAddr); exact wanted_none; exact ev_tmp rfl; exact ev_tmp rfl; exact E22; (omega); (omega); (assumption); (rfl); (try simp only [Act.put, q1, q2, q3])) | ((with_reducible apply arm_fieldAddrE); exact wanted_none; exact ev_tmp rfl; (assumption); exact fo50_0; (try simp only [Act.put, q1, q2, q3])) | ((with_reducible apply arm_loadE); exact wanted_none; exact ev_tmp rfl; (exact Sat.rdCell2 (by assumption) hS (by ((repeat (with_reducible apply mem_tl))); try assumption) (by (assumption))); decide +kernel; (try simp only [Act.put, q1, q2, q3])) | ((with_reducible apply arm_store hS); exact wanted_none; exact ev_tmp rfl; exact ev_tmp rfl; (repeat (with_reducible exact mem_hd)); rfl; (focus (simp; done)); (repeat (with_reducible exact Upd.hd)); rfl; decide +kernel; clear hS; intro w hS; (try simp only [q2, q3] at hS); (try simp only [Act.put, q1, q2, q3])) | (go_at_call 104; (first | with_reducible refine (hI _ _ R hs hb HN.out hP d0 d1 (by omega) (by omega) (shut_pg rfl hS)).mono ?_ | with_reducible refine (hD _ _ R hs hb HN.out hP (by omega) (by omega) (by omega) (by simp; omega) (shut_pg rfl hS)).mono ?_); clear hS; rintro e w ⟨rfl, hS⟩; obtain ⟨PA, PC, hS⟩ := open_pg hS) | (go_at_call 105; refine (opensR p _ _ _ _ _ _ _ R (shut_pg rfl hS) d0 (by omega)).mono ?_; clear hS; rintro e w ⟨rfl, hS⟩; obtain ⟨PA, PC, hS⟩ := open_pg hS) | (go_at_call 106; refine (putR p _ _ _ _ _ _ _ R (shut_pg rfl hS) _ (by simp; omega)).mono ?_; clear hS; rintro e w ⟨rfl, hS⟩; obtain ⟨PA, PC, hS⟩ := open_pg hS))
    all_goals first
      | (refine bodyPost_ret (results_none rfl _ _ _) rfl ?_
         exact ⟨rfl, by rw [HX.out, HM.out]; exact shut_pg rfl hS⟩)
      | (go_end0
         have e1 : l ++ X = l ++ [40] ++ wr t true ++ [41] := by rw [HX.out]; simp [opB]
         have e2 : M = max (max most (deep + 1)) (deep + 1 + lkd t true) := by rw [HM.out]; simp only [lkB, if_true]; omega
         refine ⟨rfl, ?_⟩
         rw [e1, e2]
         exact shut_pg rfl hS)
  · rw [show quP 5 = true from rfl] at hE
    cases br <;> cases last
    all_goals (simp only [Bool.false_or, Bool.true_or, Bool.true_and, Bool.false_and, Bool.not_true, Bool.not_false] at hE; subst hE)
    all_goals
      obtain ⟨PA, PC, hS⟩ := open_pg hS
      go_enter Tryz.func67, Tryz.ntmps67
      go_wp2_with (first | ((with_reducible apply arm_load hS); (first | with_reducible exact wanted_none | exact wanted_guard rfl rfl); exact ev_tmp rfl; (repeat (with_reducible exact mem_hd)); rfl; decide +kernel; (try simp only [Act.put, q1, q2, q3])) | ((with_reducible apply arm_indexAddr); (first | with_reducible exact wanted_none | exact wanted_guard rfl rfl); exact ev_tmp rfl; exact ev_tmp rfl; exact E22; (omega); (omega); (assumption); (rfl); (try simp only [Act.put, q1, q2, q3])) | ((with_reducible apply arm_fieldAddrE); (first | with_reducible exact wanted_none | exact wanted_guard rfl rfl); exact ev_tmp rfl; (assumption); exact fo50_0; (try simp only [Act.put, q1, q2, q3])) | ((with_reducible apply arm_loadE); (first | with_reducible exact wanted_none | exact wanted_guard rfl rfl); exact ev_tmp rfl; (exact Sat.rdCell2 (by assumption) hS (by ((repeat (with_reducible apply mem_tl))); try assumption) (by (assumption))); decide +kernel; (try simp only [Act.put, q1, q2, q3])) | ((with_reducible apply arm_store hS); exact wanted_none; exact ev_tmp rfl; exact ev_tmp rfl; (repeat (with_reducible exact mem_hd)); rfl; (focus (simp; done)); (repeat (with_reducible exact Upd.hd)); rfl; decide +kernel; clear hS; intro w hS; (try simp only [q2, q3] at hS); (try simp only [Act.put, q1, q2, q3])) | (go_at_call 104; (first | with_reducible refine (hI _ _ R hs hb HN.out hP d0 d1 (by omega) (by omega) (shut_pg rfl hS)).mono ?_ | with_reducible refine (hD _ _ R hs hb HN.out hP (by omega) (by omega) (by omega) (by simp; omega) (shut_pg rfl hS)).mono ?_); clear hS; rintro e w ⟨rfl, hS⟩; obtain ⟨PA, PC, hS⟩ := open_pg hS) | (go_at_call 105; refine (opensR p _ _ _ _ _ _ _ R (shut_pg rfl hS) d0 (by omega)).mono ?_; clear hS; rintro e w ⟨rfl, hS⟩; obtain ⟨PA, PC, hS⟩ := open_pg hS) | (go_at_call 106; refine (putR p _ _ _ _ _ _ _ R (shut_pg rfl hS) _ (by simp; omega)).mono ?_; clear hS; rintro e w ⟨rfl, hS⟩; obtain ⟨PA, PC, hS⟩ := open_pg hS))
    all_goals first
      | (refine bodyPost_ret (results_none rfl _ _ _) rfl ?_
         exact ⟨rfl, by rw [HX.out, HM.out]; exact shut_pg rfl hS⟩)
      | (go_end0
         have e1 : l ++ X = l ++ [40] ++ wr t true ++ [41] := by rw [HX.out]; simp [opB]
         have e2 : M = max (max most (deep + 1)) (deep + 1 + lkd t true) := by rw [HM.out]; simp only [lkB, if_true]; omega
         refine ⟨rfl, ?_⟩
         rw [e1, e2]
         exact shut_pg rfl hS)
  · rw [show quP o = false by simp [quP, o4, o5]] at hE
    have g4 : (o == 4) = false := by simp [o4]
    have g5 : (o == 5) = false := by simp [o5]
    clear o4 o5
    cases br <;> cases last
    all_goals (simp only [Bool.false_or, Bool.true_or, Bool.true_and, Bool.false_and, Bool.not_true, Bool.not_false] at hE; subst hE)
    all_goals
      obtain ⟨PA, PC, hS⟩ := open_pg hS
      go_enter Tryz.func67, Tryz.ntmps67
      go_wp2_with (first | ((with_reducible apply arm_load hS); (first | with_reducible exact wanted_none | exact wanted_guard rfl rfl); exact ev_tmp rfl; (repeat (with_reducible exact mem_hd)); rfl; decide +kernel; (try simp only [Act.put, q1, q2, q3])) | ((with_reducible apply arm_indexAddr); (first | with_reducible exact wanted_none | exact wanted_guard rfl rfl); exact ev_tmp rfl; exact ev_tmp rfl; exact E22; (omega); (omega); (assumption); (rfl); (try simp only [Act.put, q1, q2, q3])) | ((with_reducible apply arm_fieldAddrE); (first | with_reducible exact wanted_none | exact wanted_guard rfl rfl); exact ev_tmp rfl; (assumption); exact fo50_0; (try simp only [Act.put, q1, q2, q3])) | ((with_reducible apply arm_loadE); (first | with_reducible exact wanted_none | exact wanted_guard rfl rfl); exact ev_tmp rfl; (exact Sat.rdCell2 (by assumption) hS (by ((repeat (with_reducible apply mem_tl))); try assumption) (by (assumption))); decide +kernel; (try simp only [Act.put, q1, q2, q3])) | ((with_reducible apply arm_store hS); exact wanted_none; exact ev_tmp rfl; exact ev_tmp rfl; (repeat (with_reducible exact mem_hd)); rfl; (focus (simp; done)); (repeat (with_reducible exact Upd.hd)); rfl; decide +kernel; clear hS; intro w hS; (try simp only [q2, q3] at hS); (try simp only [Act.put, q1, q2, q3])) | (go_at_call 104; (first | with_reducible refine (hI _ _ R hs hb HN.out hP d0 d1 (by omega) (by omega) (shut_pg rfl hS)).mono ?_ | with_reducible refine (hD _ _ R hs hb HN.out hP (by omega) (by omega) (by omega) (by simp; omega) (shut_pg rfl hS)).mono ?_); clear hS; rintro e w ⟨rfl, hS⟩; obtain ⟨PA, PC, hS⟩ := open_pg hS) | (go_at_call 105; refine (opensR p _ _ _ _ _ _ _ R (shut_pg rfl hS) d0 (by omega)).mono ?_; clear hS; rintro e w ⟨rfl, hS⟩; obtain ⟨PA, PC, hS⟩ := open_pg hS) | (go_at_call 106; refine (putR p _ _ _ _ _ _ _ R (shut_pg rfl hS) _ (by simp; omega)).mono ?_; clear hS; rintro e w ⟨rfl, hS⟩; obtain ⟨PA, PC, hS⟩ := open_pg hS))
    all_goals first
      | (refine bodyPost_ret (results_none rfl _ _ _) rfl ?_
         exact ⟨rfl, by rw [HX.out, HM.out]; exact shut_pg rfl hS⟩)
      | (go_end0
         have e1 : l ++ X = l ++ [40] ++ wr t true ++ [41] := by rw [HX.out]; simp [opB]
         have e2 : M = max (max most (deep + 1)) (deep + 1 + lkd t true) := by rw [HM.out]; simp only [lkB, if_true]; omega
         refine ⟨rfl, ?_⟩
         rw [e1, e2]
         exact shut_pg rfl hS)
end Go.Proofs.YthackanffcaejaaGreatDoor
end
