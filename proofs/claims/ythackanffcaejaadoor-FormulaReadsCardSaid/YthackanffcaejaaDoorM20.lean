/- A part of the proof: RdN Same Arg Tab Row. -/
import Derived.Test.YthackanffcaejaaDoorM1
import Derived.Test.YthackanffcaejaaDoorM2
import Derived.Test.YthackanffcaejaaDoorM8
import Derived.Test.YthackanffcaejaaDoorM14
import Derived.ChangeArms
import Derived.ChangeSlices
import Derived.WideShapes
import Derived.SizedLaws
import Derived.Lib.LaidU8
import Derived.Lay
import Derived.MakeChecks
import Derived.ChangeBears2
import Derived.WalkKit
import Derived.ProofKit
import Derived.OpenShut
import Derived.Deep.DeepHandedRow
import Derived.Lib.LaidTab
section
set_option linter.unusedSimpArgs false
set_option linter.unusedVariables false
namespace Go.Proofs.YthackanffcaejaaDoor
open Go Go.RowKit Go.SL Go.ClauseP Go.LexP

theorem run_len {text : List UInt8} {m : MS} {w q : Int} {t : TokR} {r : Ans} (h : MRun text m w q t r) : MInv m → ∀ o, r = .inr o → o.length ≤ 65536 := by
  induction h with
  | err hs => intro _ o e; cases e
  | @done m w q t o hs =>
    intro hi o' e
    injection e with e; subst e
    have h3 : Inv3 m.nds (m.st, m.out, m.opn) := ⟨hi.1, hi.2.1, hi.2.2.1⟩
    have h4 := inner_inv _ _ _ h3
    have h5 := hi.2.2.2
    cases t with
    | mk tk at_ fin =>
      dsimp only at hs
      cases tk with
      | fin =>
        simp only [mstep] at hs
        split at hs
        · generalize innerM m.st m.out m.opn = x at *
          obtain ⟨S, o1, k⟩ := x
          cases S with
          | nil => injection hs with hs; subst hs; have := h4.2.1; simp [sN] at this; omega
          | cons a S => cases hs
        · cases hs
      | op o => simp only [mstep, makesM] at hs; split at hs <;> (try split at hs) <;> cases hs
      | cls =>
        simp only [mstep] at hs; split at hs
        · generalize innerM m.st m.out m.opn = x at hs
          obtain ⟨S, o1, k⟩ := x
          rcases S with _ | ⟨a, S⟩
          · cases hs
          · cases a <;> simp only [closeM] at hs <;> (try split at hs) <;> cases hs
        · cases hs
      | comma =>
        simp only [mstep] at hs; split at hs
        · generalize innerM m.st m.out m.opn = x at hs
          obtain ⟨S, o1, k⟩ := x
          rcases S with _ | ⟨a, S⟩
          · cases hs
          · cases a <;> simp only [commaM] at hs <;> (try split at hs) <;> cases hs
        · split at hs <;> cases hs
      | _ => simp only [mstep, makesM, opensM] at hs <;> (repeat' split at hs) <;> cases hs
  | go hs _ ih => intro hi o e; exact ih (step_inv hi hs) o e
end Go.Proofs.YthackanffcaejaaDoor
end
section
set_option linter.unusedSimpArgs false
set_option linter.unusedVariables false
set_option linter.unusedSectionVars false
set_option maxRecDepth 20000
namespace Go.Proofs.YthackanffcaejaaDoor
open Go Go.RowKit Go.SL

section
variable (fs : List (Int × Int)) (hl : fs.length ≤ 8796093022200) (ad : Option Addr) (cap : Nat)
include hl
set_option maxHeartbeats 1000000 in
theorem sameT (ad2 : Option Addr) (cap2 : Nat) (w0 w : World) (Hs : List HP) (hS : Sat w0 w Hs) {A B : HP} (hA : A ∈ Hs) (hB : B ∈ Hs) (hr : Rd A ad (Fs fs)) (hr2 : Rd B ad2 (Fs fs)) :
    Calls Tryd.prog 25 #[.slice ad fs.length cap, .slice ad2 fs.length cap2] w fun e w' => e = .returned (.bool true) ∧ Sat w0 w' Hs := by
  go_enter Tryd.func25, Tryd.ntmps25
  go_wp2
  go_loopw [5] (fun i wr => ∃ k : Nat, i = .int .i64 k ∧ k ≤ fs.length ∧ Sat w0 wr Hs) (fun i _ => fs.length - (intOf i).toNat)
  case atStart => exact ⟨0, rfl, by omega, hS⟩
  case round =>
    clear hS
    obtain ⟨k, rfl, hk, hS⟩ := hrel
    by_cases hlt : k < fs.length
    · obtain ⟨⟨op, n⟩, hx⟩ : ∃ x, fs[k]? = some x := ⟨_, List.getElem?_eq_getElem hlt⟩
      have hfd := Fs_at hx
      have hne : ∃ aa, ad = some aa ∧ aa.spot = none := Sat.rdAd2 hr hS hA (by rw [Fs_length]; omega)
      have hne2 : ∃ aa, ad2 = some aa ∧ aa.spot = none := Sat.rdAd2 hr2 hS hB (by rw [Fs_length]; omega)
      clear hx
      go_wp2_with (first | ((first | ((with_reducible apply draw_pure (i := 0)); (simp only [q4, q6, q5]; with_reducible rfl); kernel_rfl; kernel_rfl; decide +kernel; rfl; exact hC; exact (fun _ _ _ h => h); exact hR; with_reducible exact wanted_none) | ((with_reducible apply draw_pure (i := 1)); (simp only [q4, q6, q5]; with_reducible rfl); kernel_rfl; kernel_rfl; decide +kernel; rfl; exact hC; exact (fun _ _ _ h => h); exact hR; with_reducible exact wanted_none) | ((with_reducible apply draw_pure (i := 4)); (simp only [q4, q6, q5]; with_reducible rfl); kernel_rfl; kernel_rfl; decide +kernel; rfl; exact hC; exact (fun _ _ _ h => h); exact hR; with_reducible exact wanted_none) | ((with_reducible apply draw_pure (i := 5)); (simp only [q4, q6, q5]; with_reducible rfl); kernel_rfl; kernel_rfl; decide +kernel; rfl; exact hC; exact (fun _ _ _ h => h); exact hR; with_reducible exact wanted_none) | ((with_reducible apply draw_pure (i := 8)); (simp only [q4, q6, q5]; with_reducible rfl); kernel_rfl; kernel_rfl; decide +kernel; rfl; exact hC; exact (fun _ _ _ h => h); exact hR; with_reducible exact wanted_none)); (intro w; first | (go_simp; done) | (go_simp; rw [wrapI (by omega) (by omega)]) | (go_simp; with_reducible rfl) | (go_simp; rfl)); (clear hR hC; intro hR hC); (try simp only [Act.put, q1, q2, q3])) | ((first | ((with_reducible apply draw_pure (i := 2)); (simp only [q4, q6, q5]; with_reducible rfl); kernel_rfl; kernel_rfl; decide +kernel; rfl; exact hC; exact (fun _ _ _ h => h); exact hR; with_reducible exact wanted_none) | ((with_reducible apply draw_pure (i := 6)); (simp only [q4, q6, q5]; with_reducible rfl); kernel_rfl; kernel_rfl; decide +kernel; rfl; exact hC; exact (fun _ _ _ h => h); exact hR; with_reducible exact wanted_none)); (intro w; first | (with_reducible exact draw_ia E37 rfl (by (exact ev_tmp rfl)) (by (exact ev_tmp rfl)) (by (omega)) (by (omega)) (by (assumption)) (by (simp only [Int.toNat_natCast, Nat.mul_one, Nat.zero_add, tn_sub, tn_sub1, tn_sub2, tn_sub3, tn_add, tn_add1, tn_add2]; rfl))) | (go_simp; done) | (go_simp; rw [wrapI (by omega) (by omega)]) | (go_simp; with_reducible rfl)); (clear hR hC; intro hR hC); (try simp only [Act.put, q1, q2, q3])) | ((first | ((with_reducible apply draw_read (i := 3)); (simp only [q4, q6, q5]; with_reducible rfl); kernel_rfl; kernel_rfl; decide +kernel; kernel_rfl; rfl; exact hC; exact (fun _ _ _ h => h); exact hR; kernel_rfl; with_reducible exact wanted_none) | ((with_reducible apply draw_read (i := 7)); (simp only [q4, q6, q5]; with_reducible rfl); kernel_rfl; kernel_rfl; decide +kernel; kernel_rfl; rfl; exact hC; exact (fun _ _ _ h => h); exact hR; kernel_rfl; with_reducible exact wanted_none)); (intro w hS; (apply run_op_load rfl (by (exact ev_tmp rfl))); first | exact run_loadVar1 (by decide +kernel) (hS.cell (by (repeat (with_reducible apply mem_tl))) rfl) | exact run_loadVar1 (by decide +kernel) ((hS.ownCell (by (repeat (with_reducible apply mem_tl))) (by (rfl))).1) | exact run_loadVar1 (by decide +kernel) (Sat.rdCell2 (by assumption) hS (by ((repeat (with_reducible apply mem_tl))); try assumption) (by (rfl))) | exact run_loadVar1 (by decide +kernel) (hS.baseCell (by ((repeat (with_reducible apply mem_tl))); try assumption) (by assumption)) | exact run_loadVar1 (by decide +kernel) (fzC (by assumption) hS (by ((repeat (with_reducible apply mem_tl))); try assumption)) | exact run_loadRN hS (by assumption) (by ((repeat (with_reducible apply mem_tl))); try assumption) (by assumption) (by rfl) (by with_reducible exact sz77) (by decide +kernel) (by decide) | exact hS.loadWhole (by (repeat (with_reducible apply mem_tl))) (by kernel_rfl) (by kernel_rfl)); (clear hR hC; intro hR hC); (try simp only [Act.put, q1, q2, q3])) | ((with_reducible apply draw_done); decide +kernel; clear hR hC) | (refine draw_sat 6 9 hS (by kernel_rfl) [] rfl ?_; clear hS; intro w hS hR hC))
      go_roundw
      case rel => exact ⟨k + 1, by go_num, by omega, hS⟩
      case measure => simp [intOf]; omega
    · go_wp2
      go_ret
      exact ⟨rfl, hS⟩
end
end Go.Proofs.YthackanffcaejaaDoor
end
section
set_option linter.unusedVariables false
set_option linter.unusedSimpArgs false
namespace Go.SL
open Go Go.RowKit Go.ChangeShapes Go.WideShapes

section
variable {H : Type} {enc : TypeId × Value → H} {P : Program} {W : World}

theorem rd_base {a : Addr} {cs : List Value} (hc : ∀ (j : Nat) v, cs[j]? = some v → W.cell? (a.add j) = some v) : Rd (base W) (some a) cs := by
  intro w h hA hw j v hv
  have h1 := hc j v hv
  have hsp : a.spot = none := by
    have hj := (List.getElem?_eq_some_iff.1 hv).1
    have h2 := hc 0 _ (List.getElem?_eq_getElem (by omega))
    have e0 : a.add 0 = a := by simp [Addr.add]
    rw [e0] at h2
    unfold World.cell? at h2
    split at h2
    · split at h2
      · cases h2
      · rename_i hs; simpa using hs
    · cases h2
  refine ⟨⟨a, rfl, hsp⟩, ?_⟩
  have hb := World.block_lt_of_cell? W _ h1
  simp only [adr, Option.getD_some]
  have : w.heap[(a.add j).block]? = W.heap[(a.add j).block]? := by
    cases hx : W.heap[(a.add j).block]? with
    | none => rw [Array.getElem?_eq_none_iff] at hx; omega
    | some o => exact hw _ o (by rw [hA, if_pos hb, hx])
  rw [World.cell?_of_block this]
  exact h1
end
end Go.SL
end
section
set_option linter.unusedVariables false
set_option linter.unusedSimpArgs false
namespace Go.SL
open Go Go.RowKit Go.ChangeShapes Go.WideShapes

def litV : DataW Unit → Value
  | .lit (.int k n) => .int k n
  | .lit (.string bs) => .string ⟨bs.toArray⟩
  | _ => undef
theorem flat_at {α : Type} {m : Nat} : ∀ (rows : List (List α)), (∀ r ∈ rows, r.length = m) → ∀ (i j : Nat), j < m → rows.flatten[i * m + j]? = (rows[i]?).bind (·[j]?)
  | [], _, i, j, _ => by simp
  | r :: rs, h, 0, j, hj => by
    have hr := h r (.head _)
    rw [Nat.zero_mul, Nat.zero_add, List.flatten_cons, List.getElem?_append_left (by omega)]; rfl
  | r :: rs, h, i + 1, j, hj => by
    have hr := h r (.head _)
    have e : (i + 1) * m + j - r.length = i * m + j := by rw [hr, Nat.succ_mul]; omega
    rw [List.flatten_cons, List.getElem?_append_right (by rw [hr, Nat.succ_mul]; omega), e, flat_at rs (fun x hx => h x (.tail _ hx)) i j hj]
    rfl
theorem flat_len {α : Type} {m : Nat} : ∀ (rows : List (List α)), (∀ r ∈ rows, r.length = m) → rows.flatten.length = rows.length * m
  | [], _ => by simp
  | r :: rs, h => by
    rw [List.flatten_cons, List.length_append, h r (.head _), flat_len rs fun x hx => h x (.tail _ hx), List.length_cons, Nat.succ_mul]; omega
section
variable {P : Program} {W : World} {t e : TypeId} {fs : Array Field} {fuel : Nat} {cs : List Value}
theorem field_lit {u : TypeId} {sp : Nat → Bool} {b : Bool} {x : DataW Unit × List MemPlace} (hu : P.underlying u = some (.int .i64) ∨ P.underlying u = some .string) (h : DataW.trod (fun _ => ()) P W 0 sp b fuel u cs = some x) : cs = [litV x.1] := by
  rcases hu with hu | hu
  · obtain ⟨n, rfl, rfl, _⟩ := DataW.trod_int hu h; rfl
  · obtain ⟨s, rfl, rfl, _⟩ := DataW.trod_string hu h; rfl
theorem row_lits {sp : Nat → Bool} {b : Bool} {x : DataW Unit × List MemPlace} (he : P.underlying e = some (.struct fs)) (hf : ∀ (i : Nat) (f : Field), fs[i]? = some f → (P.underlying f.type = some (.int .i64) ∨ P.underlying f.type = some .string) ∧ f.offset = i ∧ P.cellsOf f.type = 1)
    (hc : P.cellsOf e = fs.size) (h : DataW.trod (fun _ => ()) P W 0 sp b fuel e cs = some x) : ∃ ps : List (DataW Unit), x.1 = .agg ps ∧ cs = ps.map litV ∧ ps.length = fs.size := by
  obtain ⟨xs, n, rfl, hx, hlc, hxl, hall⟩ := DataW.trod_struct he h
  refine ⟨xs.map (·.1), by rw [hx], ?_, by simp [hxl]⟩
  apply List.ext_getElem?
  intro i
  by_cases hi : i < fs.size
  · obtain ⟨hu, ho, hc1⟩ := hf i fs[i] (by simp [hi])
    have h1 := hall i fs[i] (by simp [hi])
    obtain ⟨y, hy⟩ : ∃ y, xs[i]? = some y := ⟨xs[i]'(by omega), List.getElem?_eq_getElem (by omega)⟩
    rw [hy, ho, hc1] at h1
    have h2 := congrArg (fun l => l[0]?) (field_lit hu h1)
    simp only [List.getElem?_take, List.getElem?_drop, Nat.add_zero, List.getElem?_cons_zero] at h2
    rw [if_pos (by omega)] at h2
    rw [h2]
    simp [hy]
  · rw [List.getElem?_eq_none (by omega), List.getElem?_eq_none (by simp; omega)]
theorem table_view {p : List MemPlace} {rows : List (List (DataW Unit))} {m : Nat} (ht : P.underlying t = some (.slice e)) (he : P.underlying e = some (.struct fs))
    (hf : ∀ (i : Nat) (f : Field), fs[i]? = some f → (P.underlying f.type = some (.int .i64) ∨ P.underlying f.type = some .string) ∧ f.offset = i ∧ P.cellsOf f.type = 1) (hc : P.cellsOf e = m) (hm : fs.size = m) (h0 : 0 < m) (hr : 0 < rows.length)
    (h : DataW.trod (fun _ => ()) P W 0 (fun _ => true) false fuel t cs = some (.slice (rows.map .agg) [], p)) :
    ∃ (a : Addr) (cap : Nat), cs = [.slice (some a) rows.length cap] ∧ a.spot = none ∧ Rd (base W) (some a) (rows.map (·.map litV)).flatten := by
  rcases DataW.trod_slice ht h with ⟨_, hx⟩ | ⟨a, len, cap, elems, rest, n, _, rfl, hx, hb, hl, hmx, hlen, hel, hsp, hns⟩
  · cases hx
  · injection hx with hx1 hx2
    injection hx1 with hx1 hx3
    have hlr : rows.length = len := by rw [← hlen]; have := congrArg List.length hx1; simpa using this
    have each : ∀ i, i < len → ∃ r, rows[i]? = some r ∧ r.length = m ∧ ∀ j : Nat, j < m → W.cell? (a.add (i * m + j)) = (r.map litV)[j]? := by
      intro i hi
      have h1 := hel i hi
      rw [hc, List.getElem?_eq_getElem (show i < elems.length by omega), Option.bind_eq_some_iff] at h1
      obtain ⟨cs', hcs, hy⟩ := h1
      obtain ⟨ps, e1, e2, e3⟩ := row_lits he hf (by omega) hy
      have h2 : rows[i]? = some ps := by
        have h3 := congrArg (fun l => l[i]?) hx1
        simp only [List.getElem?_map, List.getElem?_eq_getElem (show i < elems.length by omega), Option.map_some, e1] at h3
        obtain ⟨r, hr1, hr2⟩ := Option.map_eq_some_iff.1 h3
        injection hr2 with hr2
        rw [hr1, hr2]
      obtain ⟨_, _, hcell⟩ := World.cells?_some hcs
      refine ⟨ps, h2, by omega, fun j hj => ?_⟩
      have hadd : (a.add (i * m)).add j = a.add (i * m + j) := by
        by_cases h1 : i * m = 0
        · rw [h1, Nat.zero_add]; simp [Addr.add]
        · by_cases h2 : j = 0
          · subst h2; simp [Addr.add]
          · have h3 : ¬ i * m + j = 0 := by omega
            simp [Addr.add, h1, h2, h3, Nat.add_assoc]
      have h4 := hcell j (by omega)
      rw [hadd] at h4
      rw [h4, e2]
    have hall : ∀ r ∈ rows.map (·.map litV), r.length = m := by
      intro r hr
      obtain ⟨r0, hr0, rfl⟩ := List.mem_map.1 hr
      obtain ⟨i, hi, e⟩ := List.getElem_of_mem hr0
      obtain ⟨r1, g1, g2, _⟩ := each i (by omega)
      rw [List.getElem?_eq_getElem hi, e] at g1
      injection g1 with g1
      rw [List.length_map, g1]; exact g2
    have hcells : ∀ (j : Nat) v, (rows.map (·.map litV)).flatten[j]? = some v → W.cell? (a.add j) = some v := by
      intro j v hv
      have hj := (List.getElem?_eq_some_iff.1 hv).1
      rw [flat_len _ hall, List.length_map, hlr] at hj
      have hi : j / m < len := Nat.div_lt_of_lt_mul (by rw [Nat.mul_comm]; exact hj)
      have hmod := Nat.mod_lt j h0
      have hdm : j / m * m + j % m = j := by rw [Nat.mul_comm]; exact Nat.div_add_mod j m
      obtain ⟨r, g1, g2, g3⟩ := each (j / m) hi
      have h1 := flat_at _ hall (j / m) (j % m) hmod
      rw [hdm, hv, List.getElem?_map, g1] at h1
      have h2 := g3 (j % m) hmod
      rw [hdm] at h2
      rw [h2]; exact h1.symm
    refine ⟨a, cap, by rw [hlr], ?_, rd_base hcells⟩
    obtain ⟨r, _, g2, g3⟩ := each 0 (by omega)
    have h1 := g3 0 h0
    have e0 : a.add (0 * m + 0) = a := by rw [Nat.zero_mul]; simp [Addr.add]
    rw [e0, List.getElem?_eq_getElem (by simp; omega)] at h1
    unfold World.cell? at h1
    split at h1
    · split at h1
      · cases h1
      · rename_i hs; simpa using hs
    · cases h1
theorem table_of {n : String} {g : Nat} {rows : List (List (DataW Unit))} {m : Nat} (hg : P.globalNamed n = some g) (hty : (P.globals[g]?).map (·.type) = some t) (hct : P.cellsOf t = 1) (ht : P.underlying t = some (.slice e)) (he : P.underlying e = some (.struct fs))
    (hf : ∀ (i : Nat) (f : Field), fs[i]? = some f → (P.underlying f.type = some (.int .i64) ∨ P.underlying f.type = some .string) ∧ f.offset = i ∧ P.cellsOf f.type = 1) (hc : P.cellsOf e = m) (hm : fs.size = m) (h0 : 0 < m) (hr : 0 < rows.length)
    (h : Lib.VarReads P W n (.slice (rows.map .agg) [])) :
    ∃ (a : Addr) (cap : Nat), W.cell? ⟨g, 0, none⟩ = some (.slice (some a) rows.length cap) ∧ a.spot = none ∧ Rd (base W) (some a) (rows.map (·.map litV)).flatten := by
  obtain ⟨g', t', cs, fuel, p, hg', ht', hvar, hd⟩ := h
  obtain rfl := Option.some.inj (hg.symm.trans hg')
  obtain rfl := Option.some.inj (hty.symm.trans ht')
  have hsp := @table_view P W t e fs fuel cs.toList p rows m ht he hf hc hm h0 hr
  obtain ⟨a, cap, h1, h2, h3⟩ := hsp hd
  refine ⟨a, cap, ?_, h2, h3⟩
  rw [World.var?_cell hg hvar 0]
  have : cs = #[.slice (some a) rows.length cap] := by
    rw [← Array.toList_inj, h1]
  rw [this]; rfl
end
end Go.SL
end
section
set_option linter.unusedVariables false
namespace Go.SL
open Go Go.RowKit Go.ChangeShapes Go.WideShapes Go.ChangeAt

theorem trodAll_below {H : Type} {enc : TypeId × Value → H} {P : Program} {W W' : World} (hl : laidOutB P = true) (hb : Below W.heap.size W W') :
    ∀ (ts : List TypeId) (vs : List Value) (ds : List (DataW H)) (ps : List MemPlace), (∀ t ∈ ts, P.readableRec t = true ∧ t < P.types.size) → (∀ p ∈ ps, p.block < W.heap.size) →
      DataW.TrodAll enc P W 0 (fun _ => true) true ts vs ds ps → DataW.TrodAll enc P W' 0 (fun b => decide (b < W.heap.size)) true ts vs ds ps
  | [], [], [], ps, _, _, h => h
  | t :: ts, v :: vs, d :: ds, ps, ht, hp, h => by
    obtain ⟨p, q, h1, h2, rfl⟩ := h
    obtain ⟨hr, hrow⟩ := ht t (by simp)
    exact ⟨p, q, Below.trod hl hr hrow h1 hb (fun x hx => hp x (by simp [hx])), trodAll_below hl hb ts vs ds q (fun t ht' => ht t (by simp [ht'])) (fun x hx => hp x (by simp [hx])) h2, rfl⟩
  | [], _ :: _, _, _, _, _, h => (h : False).elim
  | [], [], _ :: _, _, _, _, h => (h : False).elim
  | _ :: _, [], _, _, _, _, h => (h : False).elim
  | _ :: _, _ :: _, [], _, _, _, h => (h : False).elim
theorem trodAll_length {H : Type} {enc : TypeId × Value → H} {P : Program} {W : World} : ∀ (ts : List TypeId) (vs : List Value) (ds : List (DataW H)) (ps : List MemPlace),
    DataW.TrodAll enc P W 0 (fun _ => true) true ts vs ds ps → ds.length = ts.length
  | [], [], [], ps, _ => rfl
  | t :: ts, v :: vs, d :: ds, ps, h => by
    obtain ⟨p, q, _, h2, _⟩ := h
    simp [trodAll_length ts vs ds q h2]
  | [], _ :: _, _, _, h => (h : False).elim
  | [], [], _ :: _, _, h => (h : False).elim
  | _ :: _, [], _, _, h => (h : False).elim
  | _ :: _, _ :: _, [], _, h => (h : False).elim

theorem post_law {H : Type} {enc : TypeId × Value → H} {P : Program} {f : Func} {s : ChangeSpec} {W W' : World} {args : Array Value} {ds gs : List (DataW H)} {before : List MemPlace} {tb : TypeId}
    (hl : laidOutB P = true) (hts : ∀ t ∈ f.params.toList, P.readableRec t = true ∧ t < P.types.size) (hvars : s.vars = [])
    (hfn : ∀ ds : List (DataW H), ds.length = f.params.size → (s.fn H ds).results = [.lit (.bool true)] ∧ (s.fn H ds).args = ds ∧ (s.fn H ds).vars = [])
    (hrt : f.resultTypes = #[tb]) (hub : P.underlying tb = some .bool) (hW : DataW.Whole enc P f.params.toList s.vars false W args.toList ds gs before) (hb : Below W.heap.size W W') :
    s.post enc P f false true false false W args (.bool true) W' := by
  have hlt : ∀ p ∈ before, p.block < W.heap.size := fun p hp => hW.lt p hp
  have hW' := hW
  obtain ⟨p, q, hA, hV, rfl, hz, _⟩ := hW'
  rw [hvars] at hV
  obtain ⟨rfl, rfl⟩ := trodVars_none hV
  have hlen := trodAll_length _ _ _ _ hA
  obtain ⟨h1, h2, h3⟩ := hfn ds (by simpa using hlen)
  refine ⟨ds, [], p ++ [], [], p, [], hW, ?_, ?_, ?_, hb.frame _, fun h => by cases h⟩
  · rw [List.append_nil, h1, hrt]
    exact trodAll_mk1 (shut_bool hub true)
  · rw [List.append_nil, h2]
    exact trodAll_below hl hb _ _ _ _ hts (fun x hx => hlt x (by simp [hx])) hA
  · rw [List.append_nil, h3, hvars]
    exact rfl

end Go.SL
end
