/- Package formula's trees in memory, and what is open at most. -/
import Derived.Test.YthackanffcaejaaDoorForm2
set_option linter.unusedSimpArgs false
set_option linter.unusedVariables false
set_option linter.unusedSectionVars false
set_option maxRecDepth 20000
namespace Go.Proofs.YthackanffcaejaaDoor
open Go Go.RowKit Go.SL

inductive T
  | cst (n : Int) | var (v : Int) | neg (a : T) | qu (op v : Int) (a : T) | bin (op : Int) (a b : T) | ite (c a b : T)
def brkP (op side : Int) (x : T) (last : Bool) : Bool :=
  match x with
  | .qu _ _ _ => !last
  | .bin o _ _ => if op = 3 then true else if op = 9 ∧ side = 0 then decide (tightP o ≤ tightP op) else if op = 9 then decide (tightP o < tightP op) else if side = 0 then decide (tightP o < tightP op) else decide (tightP o ≤ tightP op)
  | _ => false
def cnt (op side : Int) (x : T) (last : Bool) (lk : Int × Int) : Int := if brkP op side x last then 1 + lk.1 else if last then lk.1 else lk.2
def look : T → Int × Int
  | .cst _ => (0, 0)
  | .var _ => (0, 0)
  | .neg a => (1 + cnt 3 0 a true (look a), 1 + cnt 3 0 a false (look a))
  | .qu _ _ a => (1 + (look a).1, 1 + (look a).1)
  | .bin op a b => (max (cnt op 0 a false (look a)) (cnt op 1 b true (look b)), max (cnt op 0 a false (look a)) (cnt op 1 b false (look b)))
  | .ite c a b => (1 + max (max (look c).1 (look a).1) (look b).1, 1 + max (max (look c).1 (look a).1) (look b).1)
def size : T → Nat
  | .cst _ => 1
  | .var _ => 1
  | .neg a => size a + 1
  | .qu _ _ a => size a + 1
  | .bin _ a b => size a + size b + 1
  | .ite c a b => size c + size a + size b + 1
theorem cnt_le {op side : Int} {x : T} {last : Bool} {lk : Int × Int} {n : Int} (h0 : 0 ≤ lk.1) (h1 : lk.1 ≤ n) (h2 : 0 ≤ lk.2) (h3 : lk.2 ≤ n) : 0 ≤ cnt op side x last lk ∧ cnt op side x last lk ≤ n + 1 := by
  unfold cnt; split
  · omega
  · split <;> omega
theorem look_le : ∀ t : T, 0 ≤ (look t).1 ∧ (look t).1 ≤ 2 * size t ∧ 0 ≤ (look t).2 ∧ (look t).2 ≤ 2 * size t
  | .cst _ => by simp [look, size]
  | .var _ => by simp [look, size]
  | .neg a => by
    have h := look_le a
    have h1 := cnt_le (op := 3) (side := 0) (x := a) (last := true) (lk := look a) (n := 2 * size a) h.1 h.2.1 h.2.2.1 h.2.2.2
    have h2 := cnt_le (op := 3) (side := 0) (x := a) (last := false) (lk := look a) (n := 2 * size a) h.1 h.2.1 h.2.2.1 h.2.2.2
    simp only [look, size]; omega
  | .qu _ _ a => by have h := look_le a; simp only [look, size]; omega
  | .bin op a b => by
    have h := look_le a
    have h' := look_le b
    have h1 := cnt_le (op := op) (side := 0) (x := a) (last := false) (lk := look a) (n := 2 * size a) h.1 h.2.1 h.2.2.1 h.2.2.2
    have h2 := cnt_le (op := op) (side := 1) (x := b) (last := true) (lk := look b) (n := 2 * size b) h'.1 h'.2.1 h'.2.2.1 h'.2.2.2
    have h3 := cnt_le (op := op) (side := 1) (x := b) (last := false) (lk := look b) (n := 2 * size b) h'.1 h'.2.1 h'.2.2.1 h'.2.2.2
    simp only [look, size]; omega
  | .ite c a b => by have h := look_le a; have h' := look_le b; have h'' := look_le c; simp only [look, size]; omega

/-- The node at v, in the heap H, with these cells. -/
def At (H : Hp) (v : Value) (K S : TypeId) (cs : List Value) : Prop := ∃ b, v = .iface K (.pointer (some ⟨b, 0, none⟩)) ∧ H b = some (.cells cs.toArray S (0, 0))
theorem At.ext {H H' : Hp} (h : Ext H H') {v : Value} {K S : TypeId} {cs : List Value} (ha : At H v K S cs) : At H' v K S cs := by
  obtain ⟨b, h1, h2⟩ := ha; exact ⟨b, h1, h _ _ h2⟩
/-- v is the tree t in the heap H. -/
def InT (H : Hp) : T → Value → Prop
  | .cst n, v => At H v 123 127 [.int .i64 0, .int .i64 0, .int .i64 n]
  | .var n, v => At H v 128 130 [.int .i64 0, .int .i64 0, .int .i64 n]
  | .neg a, v => ∃ va, InT H a va ∧ At H v 137 141 [.int .i64 (look (.neg a)).1, .int .i64 (look (.neg a)).2, va]
  | .qu op n a, v => ∃ va, InT H a va ∧ At H v 142 144 [.int .i64 (look (.qu op n a)).1, .int .i64 (look (.qu op n a)).2, .int .i64 op, .int .i64 n, va]
  | .bin op a b, v => ∃ va vb, InT H a va ∧ InT H b vb ∧ At H v 146 148 [.int .i64 (look (.bin op a b)).1, .int .i64 (look (.bin op a b)).2, .int .i64 op, va, vb]
  | .ite c a b, v => ∃ vc va vb, InT H c vc ∧ InT H a va ∧ InT H b vb ∧ At H v 149 151 [.int .i64 (look (.ite c a b)).1, .int .i64 (look (.ite c a b)).2, vc, va, vb]
theorem InT.ext {H H' : Hp} (h : Ext H H') : ∀ {t : T} {v : Value}, InT H t v → InT H' t v
  | .cst _, _, k => At.ext h k
  | .var _, _, k => At.ext h k
  | .neg _, _, ⟨va, k, k'⟩ => ⟨va, InT.ext h k, k'.ext h⟩
  | .qu _ _ _, _, ⟨va, k, k'⟩ => ⟨va, InT.ext h k, k'.ext h⟩
  | .bin _ _ _, _, ⟨va, vb, k1, k2, k'⟩ => ⟨va, vb, InT.ext h k1, InT.ext h k2, k'.ext h⟩
  | .ite _ _ _, _, ⟨vc, va, vb, k1, k2, k3, k'⟩ => ⟨vc, va, vb, InT.ext h k1, InT.ext h k2, InT.ext h k3, k'.ext h⟩

/-- The kinds of nodes: each has look by its first field. -/
def Kind (K S : TypeId) : Prop := methodAt Tryd.prog K "strata/formula.look" = some ([(S, 0, true)], some (171, false)) ∧ fieldOff Tryd.prog S 0 = some 0 ∧ ∃ fs x, Tryd.prog.underlying S = some (.struct fs) ∧ fs[0]? = some x ∧ x.type = 125
theorem kCst : Kind 123 127 := ⟨by kernel_rfl, by kernel_rfl, _, _, Tryd.underlying127, rfl, rfl⟩
theorem kVar : Kind 128 130 := ⟨by kernel_rfl, by kernel_rfl, _, _, Tryd.underlying130, rfl, rfl⟩
theorem kNeg : Kind 137 141 := ⟨by kernel_rfl, by kernel_rfl, _, _, Tryd.underlying141, rfl, rfl⟩
theorem kQu : Kind 142 144 := ⟨by kernel_rfl, by kernel_rfl, _, _, Tryd.underlying144, rfl, rfl⟩
theorem kBin : Kind 146 148 := ⟨by kernel_rfl, by kernel_rfl, _, _, Tryd.underlying148, rfl, rfl⟩
theorem kIte : Kind 149 151 := ⟨by kernel_rfl, by kernel_rfl, _, _, Tryd.underlying151, rfl, rfl⟩
theorem InT.head {H : Hp} {t : T} {v : Value} (h : InT H t v) : ∃ K S cs, Kind K S ∧ At H v K S cs ∧ cs[0]? = some (.int .i64 (look t).1) ∧ cs[1]? = some (.int .i64 (look t).2) := by
  cases t with
  | cst n => exact ⟨_, _, _, kCst, h, rfl, rfl⟩
  | var n => exact ⟨_, _, _, kVar, h, rfl, rfl⟩
  | neg a => obtain ⟨_, _, h⟩ := h; exact ⟨_, _, _, kNeg, h, rfl, rfl⟩
  | qu op n a => obtain ⟨_, _, h⟩ := h; exact ⟨_, _, _, kQu, h, rfl, rfl⟩
  | bin op a b => obtain ⟨_, _, _, _, h⟩ := h; exact ⟨_, _, _, kBin, h, rfl, rfl⟩
  | ite c a b => obtain ⟨_, _, _, _, _, _, h⟩ := h; exact ⟨_, _, _, kIte, h, rfl, rfl⟩
theorem arm_look {ops : Array Oper} {Q : Exit → Act → World → Prop} {rest : List Oper} {a : Act} {w w0 : World} {Hs : List HP} {dst : Option Tmp} {x : Operand} {ts : Array TypeId} {ty : TypeId} {pos : String} {after : Array Edge} {gd : Option (Nat × Bool)} (hS : Sat w0 w Hs)
    (hw : Region.wanted ⟨dst, .call { callee := .invoke x "strata/formula.look", args := #[], argTypes := ts }, ty, pos, after, gd⟩ (yielded ops a.tmps) = true) {v : Value} (hx : a.eval x = v) {H : Hp} {t : T} (hT : InT H t v) (hm : fz H ∈ Hs)
    (K : ∀ w', Sat w0 w' Hs → wpList Tryd.prog ops Q rest (a.put dst (.agg #[.int .i64 (look t).1, .int .i64 (look t).2])) w') :
    wpList Tryd.prog ops Q (⟨dst, .call { callee := .invoke x "strata/formula.look", args := #[], argTypes := ts }, ty, pos, after, gd⟩ :: rest) a w := by
  obtain ⟨Kd, S, cs, hk, ⟨b, rfl, hb⟩, e0, e1⟩ := hT.head
  have c0 : w.cell? ⟨b, 0, none⟩ = some (.int .i64 (look t).1) := hS.fzCell hm (by simpa [celH, hb] using e0)
  have c1 : w.cell? ⟨b, 1, none⟩ = some (.int .i64 (look t).2) := hS.fzCell hm (by simpa [celH, hb] using e1)
  refine arm_invoke0 hw hx (recv := .agg #[.int .i64 (look t).1, .int .i64 (look t).2]) (fun n => run_promoted hk.1 hk.2.1 hk.2.2 Tryd.underlying125 (vs := [.int .i64 (look t).1, .int .i64 (look t).2]) (by kernel_rfl) (by kernel_rfl) (fun j u hj => ?_) n)
    Tryd.func171 (by kernel_rfl) (by kernel_rfl) (lookShape _ _ w0 w Hs hS) K
  match j, hj with
  | 0, hj => simp at hj; subst hj; exact c0
  | 1, hj => simp at hj; subst hj; exact c1
end Go.Proofs.YthackanffcaejaaDoor
