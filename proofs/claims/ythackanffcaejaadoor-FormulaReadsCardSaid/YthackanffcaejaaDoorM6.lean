/- A part of the proof: Form3 Form4 Form5 FormP Ps Rd1. -/
import Derived.Test.YthackanffcaejaaDoorM1
import Derived.Test.YthackanffcaejaaDoorM5
section
set_option linter.unusedSimpArgs false
set_option linter.unusedVariables false
set_option linter.unusedSectionVars false
set_option maxRecDepth 20000
namespace Go.Proofs.YthackanffcaejaaDoor
open Go Go.RowKit Go.SL

inductive T
  | cst (n : Int) | var (v : Int) | neg (a : T) | qu (op v : Int) (a : T) | bin (op : Int) (a b : T) | ite (c a b : T)
def brkP (op side : Int) (x : T) (last : Bool) : Bool :=
  match x with
  | .qu _ _ _ => !last
  | .bin o _ _ => if op = 3 then true else if op = 9 ∧ side = 0 then decide (tightP o ≤ tightP op) else if op = 9 then decide (tightP o < tightP op) else if side = 0 then decide (tightP o < tightP op) else decide (tightP o ≤ tightP op)
  | _ => false
def cnt (op side : Int) (x : T) (last : Bool) (lk : Int × Int) : Int := if brkP op side x last then 1 + lk.1 else if last then lk.1 else lk.2
def look : T → Int × Int
  | .cst _ => (0, 0)
  | .var _ => (0, 0)
  | .neg a => (1 + cnt 3 0 a true (look a), 1 + cnt 3 0 a false (look a))
  | .qu _ _ a => (1 + (look a).1, 1 + (look a).1)
  | .bin op a b => (max (cnt op 0 a false (look a)) (cnt op 1 b true (look b)), max (cnt op 0 a false (look a)) (cnt op 1 b false (look b)))
  | .ite c a b => (1 + max (max (look c).1 (look a).1) (look b).1, 1 + max (max (look c).1 (look a).1) (look b).1)
def size : T → Nat
  | .cst _ => 1
  | .var _ => 1
  | .neg a => size a + 1
  | .qu _ _ a => size a + 1
  | .bin _ a b => size a + size b + 1
  | .ite c a b => size c + size a + size b + 1
theorem cnt_le {op side : Int} {x : T} {last : Bool} {lk : Int × Int} {n : Int} (h0 : 0 ≤ lk.1) (h1 : lk.1 ≤ n) (h2 : 0 ≤ lk.2) (h3 : lk.2 ≤ n) : 0 ≤ cnt op side x last lk ∧ cnt op side x last lk ≤ n + 1 := by
  unfold cnt; split
  · omega
  · split <;> omega
theorem look_le : ∀ t : T, 0 ≤ (look t).1 ∧ (look t).1 ≤ 2 * size t ∧ 0 ≤ (look t).2 ∧ (look t).2 ≤ 2 * size t
  | .cst _ => by simp [look, size]
  | .var _ => by simp [look, size]
  | .neg a => by
    have h := look_le a
    have h1 := cnt_le (op := 3) (side := 0) (x := a) (last := true) (lk := look a) (n := 2 * size a) h.1 h.2.1 h.2.2.1 h.2.2.2
    have h2 := cnt_le (op := 3) (side := 0) (x := a) (last := false) (lk := look a) (n := 2 * size a) h.1 h.2.1 h.2.2.1 h.2.2.2
    simp only [look, size]; omega
  | .qu _ _ a => by have h := look_le a; simp only [look, size]; omega
  | .bin op a b => by
    have h := look_le a
    have h' := look_le b
    have h1 := cnt_le (op := op) (side := 0) (x := a) (last := false) (lk := look a) (n := 2 * size a) h.1 h.2.1 h.2.2.1 h.2.2.2
    have h2 := cnt_le (op := op) (side := 1) (x := b) (last := true) (lk := look b) (n := 2 * size b) h'.1 h'.2.1 h'.2.2.1 h'.2.2.2
    have h3 := cnt_le (op := op) (side := 1) (x := b) (last := false) (lk := look b) (n := 2 * size b) h'.1 h'.2.1 h'.2.2.1 h'.2.2.2
    simp only [look, size]; omega
  | .ite c a b => by have h := look_le a; have h' := look_le b; have h'' := look_le c; simp only [look, size]; omega

def At (H : Hp) (v : Value) (K S : TypeId) (cs : List Value) : Prop := ∃ b, v = .iface K (.pointer (some ⟨b, 0, none⟩)) ∧ H b = some (.cells cs.toArray S (0, 0))
theorem At.ext {H H' : Hp} (h : Ext H H') {v : Value} {K S : TypeId} {cs : List Value} (ha : At H v K S cs) : At H' v K S cs := by
  obtain ⟨b, h1, h2⟩ := ha; exact ⟨b, h1, h _ _ h2⟩
def InT (H : Hp) : T → Value → Prop
  | .cst n, v => At H v 123 127 [.int .i64 0, .int .i64 0, .int .i64 n]
  | .var n, v => At H v 128 130 [.int .i64 0, .int .i64 0, .int .i64 n]
  | .neg a, v => ∃ va, InT H a va ∧ At H v 137 141 [.int .i64 (look (.neg a)).1, .int .i64 (look (.neg a)).2, va]
  | .qu op n a, v => ∃ va, InT H a va ∧ At H v 142 144 [.int .i64 (look (.qu op n a)).1, .int .i64 (look (.qu op n a)).2, .int .i64 op, .int .i64 n, va]
  | .bin op a b, v => ∃ va vb, InT H a va ∧ InT H b vb ∧ At H v 146 148 [.int .i64 (look (.bin op a b)).1, .int .i64 (look (.bin op a b)).2, .int .i64 op, va, vb]
  | .ite c a b, v => ∃ vc va vb, InT H c vc ∧ InT H a va ∧ InT H b vb ∧ At H v 149 151 [.int .i64 (look (.ite c a b)).1, .int .i64 (look (.ite c a b)).2, vc, va, vb]
theorem InT.ext {H H' : Hp} (h : Ext H H') : ∀ {t : T} {v : Value}, InT H t v → InT H' t v
  | .cst _, _, k => At.ext h k
  | .var _, _, k => At.ext h k
  | .neg _, _, ⟨va, k, k'⟩ => ⟨va, InT.ext h k, k'.ext h⟩
  | .qu _ _ _, _, ⟨va, k, k'⟩ => ⟨va, InT.ext h k, k'.ext h⟩
  | .bin _ _ _, _, ⟨va, vb, k1, k2, k'⟩ => ⟨va, vb, InT.ext h k1, InT.ext h k2, k'.ext h⟩
  | .ite _ _ _, _, ⟨vc, va, vb, k1, k2, k3, k'⟩ => ⟨vc, va, vb, InT.ext h k1, InT.ext h k2, InT.ext h k3, k'.ext h⟩

def Kind (K S : TypeId) : Prop := methodAt Tryd.prog K "strata/formula.look" = some ([(S, 0, true)], some (171, false)) ∧ fieldOff Tryd.prog S 0 = some 0 ∧ ∃ fs x, Tryd.prog.underlying S = some (.struct fs) ∧ fs[0]? = some x ∧ x.type = 125
theorem kCst : Kind 123 127 := ⟨by kernel_rfl, by kernel_rfl, _, _, Tryd.underlying127, rfl, rfl⟩
theorem kVar : Kind 128 130 := ⟨by kernel_rfl, by kernel_rfl, _, _, Tryd.underlying130, rfl, rfl⟩
theorem kNeg : Kind 137 141 := ⟨by kernel_rfl, by kernel_rfl, _, _, Tryd.underlying141, rfl, rfl⟩
theorem kQu : Kind 142 144 := ⟨by kernel_rfl, by kernel_rfl, _, _, Tryd.underlying144, rfl, rfl⟩
theorem kBin : Kind 146 148 := ⟨by kernel_rfl, by kernel_rfl, _, _, Tryd.underlying148, rfl, rfl⟩
theorem kIte : Kind 149 151 := ⟨by kernel_rfl, by kernel_rfl, _, _, Tryd.underlying151, rfl, rfl⟩
theorem InT.head {H : Hp} {t : T} {v : Value} (h : InT H t v) : ∃ K S cs, Kind K S ∧ At H v K S cs ∧ cs[0]? = some (.int .i64 (look t).1) ∧ cs[1]? = some (.int .i64 (look t).2) := by
  cases t with
  | cst n => exact ⟨_, _, _, kCst, h, rfl, rfl⟩
  | var n => exact ⟨_, _, _, kVar, h, rfl, rfl⟩
  | neg a => obtain ⟨_, _, h⟩ := h; exact ⟨_, _, _, kNeg, h, rfl, rfl⟩
  | qu op n a => obtain ⟨_, _, h⟩ := h; exact ⟨_, _, _, kQu, h, rfl, rfl⟩
  | bin op a b => obtain ⟨_, _, _, _, h⟩ := h; exact ⟨_, _, _, kBin, h, rfl, rfl⟩
  | ite c a b => obtain ⟨_, _, _, _, _, _, h⟩ := h; exact ⟨_, _, _, kIte, h, rfl, rfl⟩
theorem arm_look {ops : Array Oper} {Q : Exit → Act → World → Prop} {rest : List Oper} {a : Act} {w w0 : World} {Hs : List HP} {dst : Option Tmp} {x : Operand} {ts : Array TypeId} {ty : TypeId} {pos : String} {after : Array Edge} {gd : Option (Nat × Bool)} (hS : Sat w0 w Hs)
    (hw : Region.wanted ⟨dst, .call { callee := .invoke x "strata/formula.look", args := #[], argTypes := ts }, ty, pos, after, gd⟩ (yielded ops a.tmps) = true) {v : Value} (hx : a.eval x = v) {H : Hp} {t : T} (hT : InT H t v) (hm : fz H ∈ Hs)
    (K : ∀ w', Sat w0 w' Hs → wpList Tryd.prog ops Q rest (a.put dst (.agg #[.int .i64 (look t).1, .int .i64 (look t).2])) w') :
    wpList Tryd.prog ops Q (⟨dst, .call { callee := .invoke x "strata/formula.look", args := #[], argTypes := ts }, ty, pos, after, gd⟩ :: rest) a w := by
  obtain ⟨Kd, S, cs, hk, ⟨b, rfl, hb⟩, e0, e1⟩ := hT.head
  have c0 : w.cell? ⟨b, 0, none⟩ = some (.int .i64 (look t).1) := hS.fzCell hm (by simpa [celH, hb] using e0)
  have c1 : w.cell? ⟨b, 1, none⟩ = some (.int .i64 (look t).2) := hS.fzCell hm (by simpa [celH, hb] using e1)
  refine arm_invoke0 hw hx (recv := .agg #[.int .i64 (look t).1, .int .i64 (look t).2]) (fun n => run_promoted hk.1 hk.2.1 hk.2.2 Tryd.underlying125 (vs := [.int .i64 (look t).1, .int .i64 (look t).2]) (by kernel_rfl) (by kernel_rfl) (fun j u hj => ?_) n)
    Tryd.func171 (by kernel_rfl) (by kernel_rfl) (lookShape _ _ w0 w Hs hS) K
  match j, hj with
  | 0, hj => simp at hj; subst hj; exact c0
  | 1, hj => simp at hj; subst hj; exact c1
end Go.Proofs.YthackanffcaejaaDoor
end
section
set_option linter.unusedSimpArgs false
set_option linter.unusedVariables false
set_option linter.unusedSectionVars false
set_option maxRecDepth 20000
namespace Go.Proofs.YthackanffcaejaaDoor
open Go Go.RowKit Go.SL

def i64 (n : Int) : Prop := -9223372036854775808 ≤ n ∧ n ≤ 9223372036854775807
def opsOk : T → Prop
  | .bin op _ _ => i64 op
  | _ => True
set_option maxHeartbeats 1000000 in
theorem bracketed (op side : Int) (hop : i64 op) (t : T) (ht : opsOk t) (last : Bool) (v : Value) (H : Hp) (hT : InT H t v) (w0 w : World) (Hs : List HP) (hS : Sat w0 w Hs) (hm : fz H ∈ Hs) :
    Calls Tryd.prog 102 #[.int .i64 op, .int .i64 side, v, .bool last] w fun e w' => e = .returned (.bool (brkP op side t last)) ∧ Sat w0 w' Hs := by
  unfold i64 at hop
  cases t with
  | cst n =>
    obtain ⟨b, rfl, hb⟩ := hT
    go_enter Tryd.func102, Tryd.ntmps102
    go_wp2_with ((with_reducible apply arm_assertN); exact wanted_none; exact ev_tmp rfl; (decide); (with_reducible first | exact Tryd.underlying142 | exact Tryd.underlying146); kernel_rfl; (try simp only [Act.put, q1, q2, q3]))
    go_ret
    exact ⟨rfl, hS⟩
  | var n =>
    obtain ⟨b, rfl, hb⟩ := hT
    go_enter Tryd.func102, Tryd.ntmps102
    go_wp2_with ((with_reducible apply arm_assertN); exact wanted_none; exact ev_tmp rfl; (decide); (with_reducible first | exact Tryd.underlying142 | exact Tryd.underlying146); kernel_rfl; (try simp only [Act.put, q1, q2, q3]))
    go_ret
    exact ⟨rfl, hS⟩
  | neg n =>
    obtain ⟨_, _, b, rfl, hb⟩ := hT
    go_enter Tryd.func102, Tryd.ntmps102
    go_wp2_with ((with_reducible apply arm_assertN); exact wanted_none; exact ev_tmp rfl; (decide); (with_reducible first | exact Tryd.underlying142 | exact Tryd.underlying146); kernel_rfl; (try simp only [Act.put, q1, q2, q3]))
    go_ret
    exact ⟨rfl, hS⟩
  | ite _ _ _ =>
    obtain ⟨_, _, _, _, _, _, b, rfl, hb⟩ := hT
    go_enter Tryd.func102, Tryd.ntmps102
    go_wp2_with ((with_reducible apply arm_assertN); exact wanted_none; exact ev_tmp rfl; (decide); (with_reducible first | exact Tryd.underlying142 | exact Tryd.underlying146); kernel_rfl; (try simp only [Act.put, q1, q2, q3]))
    go_ret
    exact ⟨rfl, hS⟩
  | qu o n a =>
    obtain ⟨_, _, b, rfl, hb⟩ := hT
    go_enter Tryd.func102, Tryd.ntmps102
    go_wp2_with ((with_reducible apply arm_assertY); exact wanted_none; exact ev_tmp rfl; exact Tryd.underlying142; (try simp only [Act.put, q1, q2, q3]))
    go_ret
    exact ⟨rfl, hS⟩
  | bin o x y =>
    obtain ⟨va, vb, _, _, b, rfl, hb⟩ := hT
    have ho : i64 o := ht
    unfold i64 at ho
    have c2 : celH H b 2 = some (.int .i64 o) := by simp [celH, hb]
    clear hb
    obtain ⟨t1, ht1⟩ : ∃ t1, t1 = tightP o := ⟨_, rfl⟩
    obtain ⟨t2, ht2⟩ : ∃ t2, t2 = tightP op := ⟨_, rfl⟩
    have TO := tight o ho.1 ho.2
    have TP := tight op hop.1 hop.2
    rw [← ht1] at TO
    rw [← ht2] at TP
    have hbp : brkP op side (.bin o x y) last = if op = 3 then true else if op = 9 ∧ side = 0 then decide (t1 ≤ t2) else if op = 9 then decide (t1 < t2) else if side = 0 then decide (t1 < t2) else decide (t1 ≤ t2) := by simp only [brkP, ht1, ht2]
    obtain ⟨B0, hB0⟩ : ∃ B0, B0 = brkP op side (.bin o x y) last := ⟨_, rfl⟩
    rw [← hB0] at hbp ⊢
    have HB := hid hbp
    clear hbp hB0 ht1 ht2
    go_enter Tryd.func102, Tryd.ntmps102
    go_wp2_with (first | ((with_reducible apply arm_assertY); exact wanted_none; exact ev_tmp rfl; exact Tryd.underlying146; (try simp only [Act.put, q1, q2, q3])) | ((with_reducible apply arm_assertN); exact wanted_none; exact ev_tmp rfl; (decide); exact Tryd.underlying142; kernel_rfl; (try simp only [Act.put, q1, q2, q3])) | ((with_reducible apply arm_loadF hS); exact wanted_none; exact ev_tmp rfl; assumption; (((repeat (with_reducible apply mem_tl))); (try assumption)); decide +kernel; (try simp only [Act.put, q1, q2, q3])) | (go_at_call 120; (first | with_reducible refine (TO _ _ _ hS).mono ?_ | with_reducible refine (TP _ _ _ hS).mono ?_); clear hS; rintro e w ⟨rfl, hS⟩))
    all_goals (go_ret; refine ⟨?_, hS⟩; have hb := HB.out; clear HB TO TP c2 hS hop ho ht hm; subst hb; simp_all)

theorem counts (op side : Int) (hop : i64 op) (t : T) (ht : opsOk t) (hsz : size t ≤ 1000000) (last : Bool) (v : Value) (H : Hp) (hT : InT H t v) (w0 w : World) (Hs : List HP) (hS : Sat w0 w Hs) (hm : fz H ∈ Hs) :
    Calls Tryd.prog 100 #[.int .i64 op, .int .i64 side, v, .bool last] w fun e w' => e = .returned (.int .i64 (cnt op side t last (look t))) ∧ Sat w0 w' Hs := by
  obtain ⟨l1, l2, l3, l4⟩ := look_le t
  have BR := bracketed op side hop t ht last v H hT
  have hc : cnt op side t last (look t) = if brkP op side t last then 1 + (look t).1 else if last then (look t).1 else (look t).2 := rfl
  rw [hc]
  clear hc
  generalize brkP op side t last = b0 at *
  cases b0 <;> cases last
  all_goals
    simp only [if_true, if_false, Bool.false_eq_true]
    go_enter Tryd.func100, Tryd.ntmps100
    go_wp2_with (first | (go_at_call 102; refine (BR _ _ _ hS hm).mono ?_; clear hS; rintro e w ⟨rfl, hS⟩) | ((with_reducible apply arm_look hS); rfl; exact ev_tmp rfl; assumption; assumption; clear hS; intro w hS; (try simp only [Act.put, q1, q2, q3])) | ((with_reducible apply arm_field1); exact wanted_none; exact ev_tmp rfl; (with_reducible first | exact fc125_0 | exact fc125_1); rfl; (try simp only [Act.put, q1, q2, q3])))
    go_ret
    exact ⟨rfl, hS⟩
end Go.Proofs.YthackanffcaejaaDoor
end
section
set_option linter.unusedSimpArgs false
set_option linter.unusedVariables false
set_option linter.unusedSectionVars false
set_option maxRecDepth 20000
namespace Go.Proofs.YthackanffcaejaaDoor
open Go Go.RowKit Go.SL

theorem InT.form {H : Hp} {t : T} {v : Value} (h : InT H t v) : ∃ K b, v = .iface K (.pointer (some ⟨b, 0, none⟩)) := by
  obtain ⟨K, S, cs, _, ⟨b, rfl, _⟩, _⟩ := h.head; exact ⟨K, b, rfl⟩
theorem notM (a : T) (ha : opsOk a) (hsz : size a ≤ 1000000) (va : Value) (H : Hp) (hT : InT H a va) (w0 w : World) (R : List HP) (hS : Sat w0 w (fz H :: R)) :
    Calls Tryd.prog 71 #[va] w fun e w' => ∃ v, e = .returned v ∧ ∃ H', Ext H H' ∧ InT H' (.neg a) v ∧ Sat w0 w' (fz H' :: R) := by
  obtain ⟨l1, l2, l3, l4⟩ := look_le a
  obtain ⟨Ka, ba, rfl⟩ := hT.form
  have C1 := counts 3 0 (by unfold i64; omega) a ha hsz true _ H hT
  have C2 := counts 3 0 (by unfold i64; omega) a ha hsz false _ H hT
  have b1 := cnt_le (op := 3) (side := 0) (x := a) (last := true) (lk := look a) (n := 2 * size a) l1 (by omega) l3 (by omega)
  have b2 := cnt_le (op := 3) (side := 0) (x := a) (last := false) (lk := look a) (n := 2 * size a) l1 (by omega) l3 (by omega)
  have e1 : (look (.neg a)).1 = 1 + cnt 3 0 a true (look a) := rfl
  have e2 : (look (.neg a)).2 = 1 + cnt 3 0 a false (look a) := rfl
  generalize cnt 3 0 a true (look a) = n1 at *
  generalize cnt 3 0 a false (look a) = n2 at *
  have E1 := hid e1
  have E2 := hid e2
  clear e1 e2
  go_enter Tryd.func71, Tryd.ntmps71
  go_wp2_with (first | (go_at_call 100; (first | with_reducible refine (C1 _ _ _ hS (by ((repeat (with_reducible exact mem_hd)); (try assumption)))).mono ?_ | with_reducible refine (C2 _ _ _ hS (by ((repeat (with_reducible exact mem_hd)); (try assumption)))).mono ?_); clear hS; rintro e w ⟨rfl, hS⟩) | ((with_reducible apply arm_box hS); exact wanted_none; exact ev_tmp rfl; exact cells_agg; clear hS; intro NB w hS; (try simp only [Act.put, q1, q2, q3])))
  go_ret
  rw [← E1.out, ← E2.out] at hS
  obtain ⟨H', x1, x2, hS⟩ := hS.fzBlk
  exact ⟨_, rfl, H', x1, ⟨_, hT.ext x1, _, rfl, x2⟩, hS⟩
theorem quantifyM (op n : Int) (a : T) (hsz : size a ≤ 1000000) (va : Value) (H : Hp) (hT : InT H a va) (w0 w : World) (R : List HP) (hS : Sat w0 w (fz H :: R)) :
    Calls Tryd.prog 72 #[.int .i64 op, .int .i64 n, va] w fun e w' => ∃ v, e = .returned v ∧ ∃ H', Ext H H' ∧ InT H' (.qu op n a) v ∧ Sat w0 w' (fz H' :: R) := by
  obtain ⟨l1, l2, l3, l4⟩ := look_le a
  obtain ⟨Ka, ba, rfl⟩ := hT.form
  have e1 : (look (.qu op n a)).1 = 1 + (look a).1 := rfl
  have e2 : (look (.qu op n a)).2 = 1 + (look a).1 := rfl
  have E1 := hid e1
  have E2 := hid e2
  clear e1 e2
  go_enter Tryd.func72, Tryd.ntmps72
  go_wp2_with (first | ((with_reducible apply arm_look hS); rfl; exact ev_tmp rfl; assumption; (repeat (with_reducible exact mem_hd)); clear hS; intro w hS; (try simp only [Act.put, q1, q2, q3])) | ((with_reducible apply arm_field1); exact wanted_none; exact ev_tmp rfl; exact fc125_0; rfl; (try simp only [Act.put, q1, q2, q3])) | ((with_reducible apply arm_box hS); exact wanted_none; exact ev_tmp rfl; exact cells_agg; clear hS; intro NB w hS; (try simp only [Act.put, q1, q2, q3])))
  go_ret
  rw [show Value.int .i64 (1 + (look a).1) = .int .i64 (look (.qu op n a)).1 by rw [E1.out]] at hS
  obtain ⟨H', x1, x2, hS⟩ := hS.fzBlk
  exact ⟨_, rfl, H', x1, ⟨_, hT.ext x1, _, rfl, by rw [E2.out, ← E1.out]; exact x2⟩, hS⟩
theorem joinM (op : Int) (hop : i64 op) (a b : T) (ha : opsOk a) (hb : opsOk b) (hsz : size a ≤ 1000000) (hsz2 : size b ≤ 1000000) (va vb : Value) (H : Hp) (hT : InT H a va) (hT2 : InT H b vb) (w0 w : World) (R : List HP) (hS : Sat w0 w (fz H :: R)) :
    Calls Tryd.prog 73 #[.int .i64 op, va, vb] w fun e w' => ∃ v, e = .returned v ∧ ∃ H', Ext H H' ∧ InT H' (.bin op a b) v ∧ Sat w0 w' (fz H' :: R) := by
  obtain ⟨l1, l2, l3, l4⟩ := look_le a
  obtain ⟨m1, m2, m3, m4⟩ := look_le b
  obtain ⟨Ka, ba, rfl⟩ := hT.form
  obtain ⟨Kb, bb, rfl⟩ := hT2.form
  have C1 := counts op 0 hop a ha hsz false _ H hT
  have C2 := counts op 1 hop b hb hsz2 true _ H hT2
  have C3 := counts op 1 hop b hb hsz2 false _ H hT2
  have b1 := cnt_le (op := op) (side := 0) (x := a) (last := false) (lk := look a) (n := 2 * size a) l1 (by omega) l3 (by omega)
  have b2 := cnt_le (op := op) (side := 1) (x := b) (last := true) (lk := look b) (n := 2 * size b) m1 (by omega) m3 (by omega)
  have b3 := cnt_le (op := op) (side := 1) (x := b) (last := false) (lk := look b) (n := 2 * size b) m1 (by omega) m3 (by omega)
  have e1 : (look (.bin op a b)).1 = max (cnt op 0 a false (look a)) (cnt op 1 b true (look b)) := rfl
  have e2 : (look (.bin op a b)).2 = max (cnt op 0 a false (look a)) (cnt op 1 b false (look b)) := rfl
  generalize cnt op 0 a false (look a) = n1 at *
  generalize cnt op 1 b true (look b) = n2 at *
  generalize cnt op 1 b false (look b) = n3 at *
  have E1 := hid e1
  have E2 := hid e2
  clear e1 e2
  go_enter Tryd.func73, Tryd.ntmps73
  go_wp2_with (first | (go_at_call 100; (first | with_reducible refine (C1 _ _ _ hS (by ((repeat (with_reducible exact mem_hd)); (try assumption)))).mono ?_ | with_reducible refine (C2 _ _ _ hS (by ((repeat (with_reducible exact mem_hd)); (try assumption)))).mono ?_ | with_reducible refine (C3 _ _ _ hS (by ((repeat (with_reducible exact mem_hd)); (try assumption)))).mono ?_); clear hS; rintro e w ⟨rfl, hS⟩) | ((with_reducible apply arm_box hS); exact wanted_none; exact ev_tmp rfl; exact cells_agg; clear hS; intro NB w hS; (try simp only [Act.put, q1, q2, q3])))
  go_ret
  rw [← E1.out, ← E2.out] at hS
  obtain ⟨H', x1, x2, hS⟩ := hS.fzBlk
  exact ⟨_, rfl, H', x1, ⟨_, _, hT.ext x1, hT2.ext x1, _, rfl, x2⟩, hS⟩
theorem iteM (c a b : T) (hsz0 : size c ≤ 1000000) (hsz : size a ≤ 1000000) (hsz2 : size b ≤ 1000000) (vc va vb : Value) (H : Hp) (hT0 : InT H c vc) (hT : InT H a va) (hT2 : InT H b vb) (w0 w : World) (R : List HP) (hS : Sat w0 w (fz H :: R)) :
    Calls Tryd.prog 74 #[vc, va, vb] w fun e w' => ∃ v, e = .returned v ∧ ∃ H', Ext H H' ∧ InT H' (.ite c a b) v ∧ Sat w0 w' (fz H' :: R) := by
  obtain ⟨k1, k2, k3, k4⟩ := look_le c
  obtain ⟨l1, l2, l3, l4⟩ := look_le a
  obtain ⟨m1, m2, m3, m4⟩ := look_le b
  obtain ⟨Kc, bc, rfl⟩ := hT0.form
  obtain ⟨Ka, ba, rfl⟩ := hT.form
  obtain ⟨Kb, bb, rfl⟩ := hT2.form
  have e1 : (look (.ite c a b)).1 = 1 + max (max (look c).1 (look a).1) (look b).1 := rfl
  have e2 : (look (.ite c a b)).2 = 1 + max (max (look c).1 (look a).1) (look b).1 := rfl
  have hmx : 0 ≤ max (max (look c).1 (look a).1) (look b).1 ∧ max (max (look c).1 (look a).1) (look b).1 ≤ 2000000 := by omega
  have E1 := hid e1
  have E2 := hid e2
  clear e1 e2
  go_enter Tryd.func74, Tryd.ntmps74
  go_wp2_with (first | ((with_reducible apply arm_look hS); rfl; exact ev_tmp rfl; (first | exact hT0 | exact hT | exact hT2); (repeat (with_reducible exact mem_hd)); clear hS; intro w hS; (try simp only [Act.put, q1, q2, q3])) | ((with_reducible apply arm_field1); exact wanted_none; exact ev_tmp rfl; exact fc125_0; rfl; (try simp only [Act.put, q1, q2, q3])) | ((with_reducible apply arm_box hS); exact wanted_none; exact ev_tmp rfl; exact cells_agg; clear hS; intro NB w hS; (try simp only [Act.put, q1, q2, q3])))
  all_goals
    go_ret
    have hX : (1 + if (if (look c).1 < (look a).1 then (look a).1 else (look c).1) < (look b).1 then (look b).1 else if (look c).1 < (look a).1 then (look a).1 else (look c).1) = (look (.ite c a b)).1 := by
      rw [E1.out]
      clear E1 E2 hS hT0 hT hT2
      (repeat' split) <;> omega
    rw [hX] at hS
    obtain ⟨H', x1, x2, hS⟩ := hS.fzBlk
    exact ⟨_, rfl, H', x1, ⟨_, _, _, hT0.ext x1, hT.ext x1, hT2.ext x1, _, rfl, by rw [E2.out, ← E1.out]; exact x2⟩, hS⟩
end Go.Proofs.YthackanffcaejaaDoor
end
section
set_option linter.unusedSimpArgs false
set_option linter.unusedVariables false
set_option linter.unusedSectionVars false
namespace Go.Proofs.YthackanffcaejaaDoor
open Go Go.RowKit Go.SL

/-! ### A list as a tree -/
def stepT (st : List T) (op n : Int) : Option (List T) :=
  if op = 1 ∧ (n = 0 ∨ n = 1) then some (.cst n :: st)
  else if op = 2 ∧ 0 ≤ n ∧ n < 65536 then some (.var n :: st)
  else if op = 3 ∧ n = 0 then (match st with | a :: r => some (.neg a :: r) | _ => none)
  else if (op = 4 ∨ op = 5) ∧ 0 ≤ n ∧ n < 65536 then (match st with | a :: r => some (.qu op n a :: r) | _ => none)
  else if 6 ≤ op ∧ op ≤ 10 ∧ n = 0 then (match st with | b :: a :: r => some (.bin op a b :: r) | _ => none)
  else if op = 11 ∧ n = 0 then (match st with | b :: a :: c :: r => some (.ite c a b :: r) | _ => none)
  else none
def runT (st : List T) : List (Int × Int) → Option (List T)
  | [] => some st
  | x :: xs => match stepT st x.1 x.2 with | some st' => runT st' xs | none => none
def okT : T → Prop
  | .cst n => n = 0 ∨ n = 1
  | .var v => 0 ≤ v ∧ v < 65536
  | .neg a => okT a
  | .qu op v a => (op = 4 ∨ op = 5) ∧ 0 ≤ v ∧ v < 65536 ∧ okT a
  | .bin op a b => 6 ≤ op ∧ op ≤ 10 ∧ okT a ∧ okT b
  | .ite c a b => okT c ∧ okT a ∧ okT b
theorem okT.ops {t : T} (h : okT t) : opsOk t := by
  cases t <;> first | trivial | skip
  obtain ⟨h1, h2, _⟩ := h
  unfold opsOk i64; omega
def post : T → List (Int × Int)
  | .cst n => [(1, n)]
  | .var v => [(2, v)]
  | .neg a => post a ++ [(3, 0)]
  | .qu op v a => post a ++ [(op, v)]
  | .bin op a b => post a ++ post b ++ [(op, 0)]
  | .ite c a b => post c ++ post a ++ post b ++ [(11, 0)]
theorem post_len : ∀ t : T, (post t).length = size t
  | .cst _ => rfl
  | .var _ => rfl
  | .neg a => by simp [post, size, post_len a]
  | .qu _ _ a => by simp [post, size, post_len a]
  | .bin _ a b => by simp [post, size, post_len a, post_len b]; omega
  | .ite c a b => by simp [post, size, post_len a, post_len b, post_len c]; omega
theorem size_pos : ∀ t : T, 0 < size t := by intro t; cases t <;> simp [size]
def posts : List T → List (Int × Int)
  | [] => []
  | t :: st => posts st ++ post t
theorem runT_append : ∀ (xs ys : List (Int × Int)) (st : List T), runT st (xs ++ ys) = (runT st xs).bind fun st' => runT st' ys
  | [], ys, st => rfl
  | x :: xs, ys, st => by
    simp only [List.cons_append, runT]
    cases stepT st x.1 x.2 with
    | none => rfl
    | some st' => simpa using runT_append xs ys st'
def treeQ (fs : List (Int × Int)) : Option T :=
  if fs.length > 65536 then none else match runT [] fs with
    | some [t] => some t
    | _ => none
def sumSz (st : List T) : Nat := (st.map size).sum
/-! ### A tree's text -/
def spellP (op : Int) : List UInt8 :=
  if op = 6 then [32, 38, 32] else if op = 7 then [32, 124, 32] else if op = 8 then [32, 94, 32] else if op = 9 then [32, 45, 62, 32] else if op = 10 then [32, 60, 45, 62, 32]
  else if op = 4 then [101, 120, 105, 115, 116, 115, 32] else if op = 5 then [102, 111, 114, 97, 108, 108, 32] else []
def brT (t : List UInt8 × List UInt8) (br last : Bool) : List UInt8 := if br then [40] ++ t.1 ++ [41] else if last then t.1 else t.2
def W : T → (List UInt8 × List UInt8) × (Int → List UInt8)
  | .cst n => let s : List UInt8 := if n = 1 then [116, 114, 117, 101] else [102, 97, 108, 115, 101]; ((s, s), fun _ => [58, 32] ++ s)
  | .var v => let s : List UInt8 := [120] ++ Lib.itoa v; ((s, s), fun _ => [58, 32] ++ s)
  | .neg a =>
    let s (last : Bool) : List UInt8 := [33] ++ brT (W a).1 (brkP 3 0 a last) last
    ((s true, s false), fun _ => [58, 32] ++ s true)
  | .qu op v a =>
    let s : List UInt8 := spellP op ++ [120] ++ Lib.itoa v ++ (W a).2 op
    ((s, s), fun op' => if op' = op then [44, 32, 120] ++ Lib.itoa v ++ (W a).2 op' else [58, 32] ++ s)
  | .bin op a b =>
    let s (last : Bool) : List UInt8 := brT (W a).1 (brkP op 0 a false) false ++ spellP op ++ brT (W b).1 (brkP op 1 b last) last
    ((s true, s false), fun _ => [58, 32] ++ s true)
  | .ite c a b =>
    let s : List UInt8 := [105, 116, 101, 40] ++ (W c).1.1 ++ [44, 32] ++ (W a).1.1 ++ [44, 32] ++ (W b).1.1 ++ [41]
    ((s, s), fun _ => [58, 32] ++ s)
def wr (t : T) (last : Bool) : List UInt8 := if last then (W t).1.1 else (W t).1.2
def chain (op : Int) (t : T) : List UInt8 := (W t).2 op
end Go.Proofs.YthackanffcaejaaDoor
end
section
set_option linter.unusedSimpArgs false
set_option linter.unusedVariables false
namespace Go.Proofs.YthackanffcaejaaDoor
open Go Go.RowKit Go.SL Go.ClauseP Go.LexP

structure Ps where
  tk : Tk
  at_ : Nat
  fin : Nat
  opn : Nat
  nds : Nat
def knd (p : Ps) : Int := (tokE p.tk).1
abbrev Rp := (Int × Nat) ⊕ Ps
def advP (text : List UInt8) (p : Ps) : Rp := match (nextT text p.fin).tk with
  | .bad e => .inl (e, (nextT text p.fin).at_)
  | t => .inr ⟨t, (nextT text p.fin).at_, (nextT text p.fin).fin, p.opn, p.nds⟩
def opensP (p : Ps) : Rp := if p.opn = 64 then .inl (132, p.at_) else .inr { p with opn := p.opn + 1 }
def makesP (p : Ps) : Rp := if p.nds = 65536 then .inl (8, p.at_) else .inr { p with nds := p.nds + 1 }
def needP (text : List UInt8) (k : Int) (p : Ps) : Rp := if knd p = k then advP text p else .inl (131, p.at_)
def thenP (r : Rp) (f : Ps → Rp) : Rp := match r with
  | .inl e => .inl e
  | .inr p => f p
def impT : List T → T
  | [] => .cst 0
  | x :: rest => rest.foldl (fun acc y => .bin 9 y acc) x
def kOf : Nat → Int
  | 1 => 8
  | 3 => 5
  | 4 => 6
  | 5 => 4
  | _ => 7
def oOf : Nat → Int
  | 1 => 10
  | 3 => 7
  | 4 => 8
  | 5 => 6
  | _ => 9
inductive Tsk
  | lvl (b : Nat)
  | loop (b : Nat) (x : T)
  | imps (xs : List T)
abbrev Rt := (Int × Nat) ⊕ (T × Ps)
inductive Vars (text : List UInt8) : Ps → List Int → (Int × Nat) ⊕ (List Int × Ps) → Prop
  | adv {p vs e} : advP text p = .inl e → Vars text p vs (.inl e)
  | tok {p vs q} : advP text p = .inr q → (∀ n, q.tk ≠ .var n) → Vars text p vs (.inl (131, q.at_))
  | open_ {p vs q n e} : advP text p = .inr q → q.tk = .var n → thenP (thenP (opensP q) makesP) (advP text) = .inl e → Vars text p vs (.inl e)
  | more {p vs q n q' r} : advP text p = .inr q → q.tk = .var n → thenP (thenP (opensP q) makesP) (advP text) = .inr q' → q'.tk = .comma → Vars text q' (vs ++ [n]) r → Vars text p vs r
  | done {p vs q n q'} : advP text p = .inr q → q.tk = .var n → thenP (thenP (opensP q) makesP) (advP text) = .inr q' → q'.tk ≠ .comma → Vars text p vs (match needP text 12 q' with | .inl e => .inl e | .inr q'' => .inr (vs ++ [n], q''))
def quT (op : Int) (vs : List Int) (x : T) : T := vs.foldr (fun v a => .qu op v a) x
inductive RD (text : List UInt8) : Tsk → Ps → Rt → Prop
  | lvlE {b p e} : b = 1 ∨ b = 3 ∨ b = 4 ∨ b = 5 → RD text (.lvl (b + 1)) p (.inl e) → RD text (.lvl b) p (.inl e)
  | lvlK {b p x q r} : b = 1 ∨ b = 3 ∨ b = 4 ∨ b = 5 → RD text (.lvl (b + 1)) p (.inr (x, q)) → RD text (.loop b x) q r → RD text (.lvl b) p r
  | loopN {b x q} : knd q ≠ kOf b → RD text (.loop b x) q (.inr (x, q))
  | loopA {b x q e} : knd q = kOf b → thenP (makesP q) (advP text) = .inl e → RD text (.loop b x) q (.inl e)
  | loopE {b x q q' e} : knd q = kOf b → thenP (makesP q) (advP text) = .inr q' → RD text (.lvl (b + 1)) q' (.inl e) → RD text (.loop b x) q (.inl e)
  | loopK {b x q q' y q'' r} : knd q = kOf b → thenP (makesP q) (advP text) = .inr q' → RD text (.lvl (b + 1)) q' (.inr (y, q'')) → RD text (.loop b (.bin (oOf b) x y)) q'' r → RD text (.loop b x) q r
  | impE {p e} : RD text (.lvl 3) p (.inl e) → RD text (.lvl 2) p (.inl e)
  | impK {p x q r} : RD text (.lvl 3) p (.inr (x, q)) → RD text (.imps [x]) q r → RD text (.lvl 2) p r
  | impsN {xs q} : knd q ≠ 7 → RD text (.imps xs) q (.inr (impT xs, q))
  | impsA {xs q e} : knd q = 7 → thenP (makesP q) (advP text) = .inl e → RD text (.imps xs) q (.inl e)
  | impsE {xs q q' e} : knd q = 7 → thenP (makesP q) (advP text) = .inr q' → RD text (.lvl 3) q' (.inl e) → RD text (.imps xs) q (.inl e)
  | impsK {xs q q' y q'' r} : knd q = 7 → thenP (makesP q) (advP text) = .inr q' → RD text (.lvl 3) q' (.inr (y, q'')) → RD text (.imps (y :: xs)) q'' r → RD text (.imps xs) q r
  | notA {p e} : p.tk = .not → thenP (thenP (opensP p) makesP) (advP text) = .inl e → RD text (.lvl 6) p (.inl e)
  | notE {p q e} : p.tk = .not → thenP (thenP (opensP p) makesP) (advP text) = .inr q → RD text (.lvl 6) q (.inl e) → RD text (.lvl 6) p (.inl e)
  | notK {p q x q'} : p.tk = .not → thenP (thenP (opensP p) makesP) (advP text) = .inr q → RD text (.lvl 6) q (.inr (x, q')) → RD text (.lvl 6) p (.inr (.neg x, { q' with opn := q'.opn - 1 }))
  | quA {p op e} : p.tk = .quant op → Vars text p [] (.inl e) → RD text (.lvl 6) p (.inl e)
  | quE {p op vs q e} : p.tk = .quant op → Vars text p [] (.inr (vs, q)) → RD text (.lvl 1) q (.inl e) → RD text (.lvl 6) p (.inl e)
  | quK {p op vs q x q'} : p.tk = .quant op → Vars text p [] (.inr (vs, q)) → RD text (.lvl 1) q (.inr (x, q')) → RD text (.lvl 6) p (.inr (quT op vs x, { q' with opn := q'.opn - vs.length }))
  | cst {p n} : p.tk = .const n → RD text (.lvl 6) p (match thenP (makesP p) (advP text) with | .inl e => .inl e | .inr q => .inr (.cst n, q))
  | var {p n} : p.tk = .var n → RD text (.lvl 6) p (match thenP (makesP p) (advP text) with | .inl e => .inl e | .inr q => .inr (.var n, q))
  | opnA {p e} : p.tk = .opn → thenP (opensP p) (advP text) = .inl e → RD text (.lvl 6) p (.inl e)
  | opnE {p q e} : p.tk = .opn → thenP (opensP p) (advP text) = .inr q → RD text (.lvl 1) q (.inl e) → RD text (.lvl 6) p (.inl e)
  | opnK {p q x q'} : p.tk = .opn → thenP (opensP p) (advP text) = .inr q → RD text (.lvl 1) q (.inr (x, q')) → RD text (.lvl 6) p (match needP text 10 q' with | .inl e => .inl e | .inr q'' => .inr (x, { q'' with opn := q''.opn - 1 }))
  | iteA {p e} : p.tk = .ite → thenP (thenP (thenP (opensP p) makesP) (advP text)) (needP text 9) = .inl e → RD text (.lvl 6) p (.inl e)
  | iteC {p q e} : p.tk = .ite → thenP (thenP (thenP (opensP p) makesP) (advP text)) (needP text 9) = .inr q → RD text (.lvl 1) q (.inl e) → RD text (.lvl 6) p (.inl e)
  | iteD {p q c q1 e} : p.tk = .ite → thenP (thenP (thenP (opensP p) makesP) (advP text)) (needP text 9) = .inr q → RD text (.lvl 1) q (.inr (c, q1)) → needP text 11 q1 = .inl e → RD text (.lvl 6) p (.inl e)
  | iteE {p q c q1 q2 e} : p.tk = .ite → thenP (thenP (thenP (opensP p) makesP) (advP text)) (needP text 9) = .inr q → RD text (.lvl 1) q (.inr (c, q1)) → needP text 11 q1 = .inr q2 → RD text (.lvl 1) q2 (.inl e) → RD text (.lvl 6) p (.inl e)
  | iteF {p q c q1 q2 a q3 e} : p.tk = .ite → thenP (thenP (thenP (opensP p) makesP) (advP text)) (needP text 9) = .inr q → RD text (.lvl 1) q (.inr (c, q1)) → needP text 11 q1 = .inr q2 → RD text (.lvl 1) q2 (.inr (a, q3)) → needP text 11 q3 = .inl e → RD text (.lvl 6) p (.inl e)
  | iteG {p q c q1 q2 a q3 q4 e} : p.tk = .ite → thenP (thenP (thenP (opensP p) makesP) (advP text)) (needP text 9) = .inr q → RD text (.lvl 1) q (.inr (c, q1)) → needP text 11 q1 = .inr q2 → RD text (.lvl 1) q2 (.inr (a, q3)) → needP text 11 q3 = .inr q4 → RD text (.lvl 1) q4 (.inl e) → RD text (.lvl 6) p (.inl e)
  | iteK {p q c q1 q2 a q3 q4 b q5} : p.tk = .ite → thenP (thenP (thenP (opensP p) makesP) (advP text)) (needP text 9) = .inr q → RD text (.lvl 1) q (.inr (c, q1)) → needP text 11 q1 = .inr q2 → RD text (.lvl 1) q2 (.inr (a, q3)) → needP text 11 q3 = .inr q4 → RD text (.lvl 1) q4 (.inr (b, q5)) →
      RD text (.lvl 6) p (match needP text 10 q5 with | .inl e => .inl e | .inr q6 => .inr (.ite c a b, { q6 with opn := q6.opn - 1 }))
  | else_ {p} : (∀ t, t ∈ [p.tk] → t ≠ .not ∧ t ≠ .opn ∧ t ≠ .ite) → (∀ n, p.tk ≠ .const n) → (∀ n, p.tk ≠ .var n) → (∀ o, p.tk ≠ .quant o) → RD text (.lvl 6) p (.inl (131, p.at_))
end Go.Proofs.YthackanffcaejaaDoor
end
section
set_option linter.unusedSimpArgs false
set_option linter.unusedVariables false
namespace Go.Proofs.YthackanffcaejaaDoor
open Go Go.RowKit Go.SL Go.ClauseP Go.LexP

/-! ### The machine -/
inductive Wt
  | not
  | quant (op n : Int)
  | opn
  | ite (n : Nat)
  | op (o : Int)
structure MS where
  st : List Wt
  out : List (Int × Int)
  opn : Nat
  nds : Nat
def bndN (o : Int) : Nat := if o = 6 then 5 else if o = 8 then 4 else if o = 7 then 3 else if o = 9 then 2 else 1
def ndW : Wt → List (Int × Int)
  | .not => [(3, 0)]
  | .quant o n => [(o, n)]
  | .opn => []
  | .ite _ => [(11, 0)]
  | .op o => [(o, 0)]
def opW : Wt → Nat
  | .not => 1
  | .quant _ _ => 1
  | .opn => 1
  | .ite _ => 1
  | .op _ => 0
def innerM : List Wt → List (Int × Int) → Nat → List Wt × List (Int × Int) × Nat
  | [], o, k => ([], o, k)
  | w :: s, o, k => match w with
    | .opn => (.opn :: s, o, k)
    | .ite n => (.ite n :: s, o, k)
    | w => innerM s (o ++ ndW w) (k - opW w)
def operM (op : Int) : List Wt → List (Int × Int) → Nat → List Wt × List (Int × Int) × Nat
  | [], o, k => ([], o, k)
  | w :: s, o, k => match w with
    | .not => operM op s (o ++ [(3, 0)]) (k - 1)
    | .op x => if bndN x < bndN op ∨ bndN x = bndN op ∧ op = 9 then (.op x :: s, o, k) else operM op s (o ++ [(x, 0)]) k
    | w => (w :: s, o, k)
inductive Nx
  | err (e : Int)
  | done (o : List (Int × Int))
  | go (m : MS) (want q : Int)
def opensM (m : MS) (w : Wt) (f : MS → Nx) : Nx := if 64 ≤ m.opn then .err 132 else f ⟨w :: m.st, m.out, m.opn + 1, m.nds⟩
def makesM (m : MS) (f : MS → Nx) : Nx := if 65536 ≤ m.nds then .err 8 else f ⟨m.st, m.out, m.opn, m.nds + 1⟩
def closeM (m : MS) (q : Int) : List Wt × List (Int × Int) × Nat → Nx
  | (.opn :: s, o, k) => .go ⟨s, o, k - 1, m.nds⟩ 1 q
  | (.ite n :: s, o, k) => if n = 2 then .go ⟨s, o ++ [(11, 0)], k - 1, m.nds⟩ 1 q else .err 131
  | _ => .err 131
def commaM (m : MS) (q : Int) : List Wt × List (Int × Int) × Nat → Nx
  | (.ite n :: s, o, k) => if 2 ≤ n then .err 131 else .go ⟨.ite (n + 1) :: s, o, k, m.nds⟩ 0 q
  | _ => .err 131
def finM : List Wt × List (Int × Int) × Nat → Nx
  | ([], o, _) => .done o
  | _ => .err 131
def mstep (m : MS) (want q : Int) : Tk → Nx
  | .bad e => .err e
  | .const n => if want = 0 then makesM m fun m => .go ⟨m.st, m.out ++ [(1, n)], m.opn, m.nds⟩ 1 q else .err 131
  | .var n => if want = 0 then makesM m fun m => .go ⟨m.st, m.out ++ [(2, n)], m.opn, m.nds⟩ 1 q else if want = 3 then opensM m (.quant q n) fun m => makesM m fun m => .go m 4 q else .err 131
  | .quant o => if want = 0 then .go m 3 o else .err 131
  | .opn => if want = 0 then opensM m .opn fun m => .go m 0 q else if want = 2 then .go m 0 q else .err 131
  | .ite => if want = 0 then opensM m (.ite 0) fun m => makesM m fun m => .go m 2 q else .err 131
  | .not => if want = 0 then opensM m .not fun m => makesM m fun m => .go m 0 q else .err 131
  | .op o => if want = 1 then makesM m fun m => .go ⟨.op o :: (operM o m.st m.out m.opn).1, (operM o m.st m.out m.opn).2.1, (operM o m.st m.out m.opn).2.2, m.nds⟩ 0 q else .err 131
  | .cls => if want = 1 then closeM m q (innerM m.st m.out m.opn) else .err 131
  | .comma => if want = 1 then commaM m q (innerM m.st m.out m.opn) else if want = 4 then .go m 3 q else .err 131
  | .colon => if want = 4 then .go m 0 q else .err 131
  | .fin => if want = 1 then finM (innerM m.st m.out m.opn) else .err 131
abbrev Ans := (Int × Nat) ⊕ List (Int × Int)
inductive MRun (text : List UInt8) : MS → Int → Int → TokR → Ans → Prop
  | err {m w q t e} : mstep m w q t.tk = .err e → MRun text m w q t (.inl (e, t.at_))
  | done {m w q t o} : mstep m w q t.tk = .done o → MRun text m w q t (.inr o)
  | go {m w q t m' w' q' r} : mstep m w q t.tk = .go m' w' q' → MRun text m' w' q' (nextT text t.fin) r → MRun text m w q t r
theorem MRun.det {text : List UInt8} {m : MS} {w q : Int} {t : TokR} {r r' : Ans} (h : MRun text m w q t r) (h' : MRun text m w q t r') : r = r' := by
  induction h generalizing r' with
  | err h => cases h' with
    | err h2 => rw [h] at h2; injection h2 with h2; rw [h2]
    | done h2 => rw [h] at h2; cases h2
    | go h2 _ => rw [h] at h2; cases h2
  | done h => cases h' with
    | err h2 => rw [h] at h2; cases h2
    | done h2 => rw [h] at h2; injection h2 with h2; rw [h2]
    | go h2 _ => rw [h] at h2; cases h2
  | go h _ ih => cases h' with
    | err h2 => rw [h] at h2; cases h2
    | done h2 => rw [h] at h2; cases h2
    | go h2 h3 =>
      rw [h] at h2
      injection h2 with e1 e2 e3
      subst e1; subst e2; subst e3
      exact ih h3

/-! ### Tokens -/
def tkOk : Tk → Prop
  | .bad _ => False
  | .const n => n = 0 ∨ n = 1
  | .var n => 0 ≤ n ∧ n < 65536
  | .op o => 6 ≤ o ∧ o ≤ 10
  | .quant o => o = 4 ∨ o = 5
  | _ => True
theorem tokW_ok (w : List UInt8) : tkOk (tokW w) ∨ ∃ e, tokW w = .bad e := by
  unfold tokW
  split; exact .inl (.inr rfl)
  split; exact .inl (.inl rfl)
  split; exact .inl (.inl rfl)
  split; exact .inl (.inr rfl)
  split; exact .inl trivial
  split
  · rename_i t _ _ _ _ _
    have := numM_ge 65535 t
    have key : ∀ b : Bool, tkOk (if b = true then Tk.bad 131 else if numM 65535 t < 0 then Tk.bad 133 else Tk.var (numM 65535 t)) ∨ ∃ e, (if b = true then Tk.bad 131 else if numM 65535 t < 0 then Tk.bad 133 else Tk.var (numM 65535 t)) = .bad e := by
      intro b
      cases b
      · simp only [Bool.false_eq_true, if_false]
        split
        · exact .inr ⟨_, rfl⟩
        · exact .inl ⟨by omega, by omega⟩
      · exact .inr ⟨_, rfl⟩
    exact key _
  · exact .inr ⟨_, rfl⟩
theorem sign_ok (l : List UInt8) (s : List UInt8 × Tk) (h : signT l = some s) : tkOk s.2 := by
  have hm := List.mem_of_find?_eq_some h
  simp only [signs11, signs10, List.cons_append, List.nil_append, List.mem_cons, List.not_mem_nil, or_false] at hm
  rcases hm with rfl | rfl | rfl | rfl | rfl | rfl | rfl | rfl | rfl | rfl | rfl | rfl | rfl | rfl | rfl | rfl | rfl | rfl | rfl | rfl | rfl <;> simp [tkOk]
theorem pieceT_ok (l : List UInt8) : tkOk (pieceT l).1 ∨ ∃ e, (pieceT l).1 = .bad e := by
  unfold pieceT
  split
  · exact .inl trivial
  · split
    · exact tokW_ok _
    · split
      · dsimp only
        split
        · exact .inr ⟨_, rfl⟩
        · rename_i c cs _ _ h
          have := numM_ge 1 ((c :: cs).takeWhile digP)
          exact .inl (by show _ ∨ _; omega)
      · split
        · rename_i s hs
          exact .inl (sign_ok _ _ hs)
        · exact .inr ⟨_, rfl⟩
theorem nextT_ok (text : List UInt8) (k : Nat) : tkOk (nextT text k).tk ∨ ∃ e, (nextT text k).tk = .bad e := by
  unfold nextT
  split
  · exact .inl trivial
  · exact pieceT_ok _
theorem skipP_len (text : List UInt8) (k : Nat) (hk : k ≤ text.length) : skipP text k ≤ text.length := by
  have := skipS_le (text.drop k) false
  rw [List.length_drop] at this
  unfold skipP
  omega
theorem ldP_of (c : UInt8) (h : letP c = true) : ldP c = true := by simp [ldP, h]
theorem tokW_fin (w : List UInt8) : tokW w ≠ .fin := by
  unfold tokW
  repeat' split
  all_goals (intro h; cases h)
theorem pieceT_fin (c : UInt8) (l : List UInt8) : (pieceT (c :: l)).1 ≠ .fin := by
  unfold pieceT
  dsimp only
  split
  · exact tokW_fin _
  · split
    · dsimp only; split <;> (intro h; cases h)
    · split
      · rename_i s hs
        have hm := List.mem_of_find?_eq_some hs
        simp only [signs11, signs10, List.cons_append, List.nil_append, List.mem_cons, List.not_mem_nil, or_false] at hm
        rcases hm with rfl | rfl | rfl | rfl | rfl | rfl | rfl | rfl | rfl | rfl | rfl | rfl | rfl | rfl | rfl | rfl | rfl | rfl | rfl | rfl | rfl <;> (intro h; cases h)
      · intro h; cases h
theorem skipP_end (text : List UInt8) : skipP text text.length = text.length := by
  unfold skipP
  rw [List.drop_eq_nil_of_le (Nat.le_refl _)]
  simp [skipS]
theorem nextT_end (text : List UInt8) : nextT text text.length = ⟨.fin, text.length, text.length⟩ := by
  unfold nextT; rw [if_pos (skipP_end text)]
theorem nextT_fin (text : List UInt8) (k : Nat) (hk : k ≤ text.length) (h : (nextT text k).tk = .fin) : (nextT text k).fin = text.length := by
  unfold nextT at h ⊢
  split
  · rfl
  · rename_i hne
    rw [if_neg hne] at h
    exfalso
    have h1 := skipP_len text k hk
    obtain ⟨c, l, hl⟩ : ∃ c l, text.drop (skipP text k) = c :: l := by
      cases hd : text.drop (skipP text k) with
      | nil => have := congrArg List.length hd; simp at this; omega
      | cons c l => exact ⟨c, l, rfl⟩
    dsimp only at h
    rw [hl] at h
    exact pieceT_fin c l h
def tokR (p : Ps) : TokR := ⟨p.tk, p.at_, p.fin⟩
def Ok (text : List UInt8) (p : Ps) : Prop := tkOk p.tk ∧ p.opn ≤ 64 ∧ p.nds ≤ 65536 ∧ p.fin ≤ text.length ∧ (p.tk = .fin → p.fin = text.length)
end Go.Proofs.YthackanffcaejaaDoor
end
