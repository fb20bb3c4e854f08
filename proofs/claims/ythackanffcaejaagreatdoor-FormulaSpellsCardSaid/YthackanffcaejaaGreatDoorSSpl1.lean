/- A slice literal of values of one cell each, however many; the words of other spellings: package stratalaw13's spelling. -/
import Derived.Test.YthackanffcaejaaGreatDoorS1
import Derived.Test.YthackanffcaejaaGreatDoorSBk9
set_option linter.unusedVariables false
set_option linter.unusedSimpArgs false
set_option maxRecDepth 20000
namespace Go.SL
open Go Go.RowKit
section
variable {P : Program} {ops : Array Oper} {Q : Exit → Act → World → Prop} {rest : List Oper} {a : Act} {w w0 : World} {Hs : List HP} {e : TypeId}
theorem fill_one : ∀ (vs : List Value) (k : Nat) (cs : List Value), cs.length = k + vs.length → (∀ v ∈ vs, v.oneCell' = true) → Instr.fill (fun i => some (i * 1, 1)) cs.toArray ((vs.zipIdx k).map fun x => (x.2, x.1)) = some (cs.take k ++ vs).toArray
  | [], k, cs, h, _ => by simp only [List.zipIdx_nil, List.map_nil, Instr.fill, List.append_nil]; rw [List.take_of_length_le (by simp at h; omega)]
  | v :: vs, k, cs, h, h1 => by
    have hv : v.cells = #[v] := by
      have := h1 v (.head _)
      cases v <;> simp_all [Value.cells, Value.oneCell']
    simp only [List.length_cons] at h
    have ih := fill_one vs (k + 1) (cs.set k v) (by simp; omega) fun x hx => h1 x (.tail _ hx)
    simp only [List.zipIdx_cons, List.map_cons, Instr.fill, hv]
    rw [if_neg (by simp; omega)]
    have e1 : (#[v] : Array Value).zipIdx.foldl (fun cs (x : Value × Nat) => cs.setIfInBounds (k * 1 + x.2) x.1) cs.toArray = (cs.set k v).toArray := by simp
    rw [e1, ih, List.take_succ_eq_append_getElem (by simp; omega), List.take_set_of_le (by omega)]
    simp
theorem run_op_buildK {o : Oper} {T : TypeId} {n : Nat} {parts : Array (Nat × Operand)} (ho : o.op = .buildSlice T n parts) {bytes : Nat} (E : ElemTy P T e 1 bytes) {ρ : Operand → Value} (vs : List Value) (hn : vs.length = n) (h0 : 0 < n) (hn2 : n ≤ 16777216)
    (hp : parts.toList.map (fun p => (p.1, ρ p.2)) = vs.zipIdx.map fun x => (x.2, x.1)) (h1 : ∀ v ∈ vs, v.oneCell' = true) :
    (execOp ρ o).run P w = .ok (.value (.slice (some ⟨w.heap.size, 0, none⟩) n n)) (w.alloc (.cells vs.toArray e)) := by
  obtain ⟨i, z, hi, hz, hs, hby, hzs⟩ := E.parts
  have hf := fill_one vs 0 ((List.range n).map fun j => z.cells[j % z.cells.size]!) (by simp [hn]) h1
  rw [List.take_zero, List.nil_append] at hf
  have hr : ((Array.range n).map fun x => z.cells[x % z.cells.size]!) = ((List.range n).map fun j => z.cells[j % z.cells.size]!).toArray := by
    apply Array.ext'
    simp
  have hpp : (parts.map fun x => (x.1, ρ x.2)).toList = vs.zipIdx.map fun x => (x.2, x.1) := by rw [Array.toList_map]; exact hp
  have hn0 : ¬ n = 0 := by omega
  have hn3 : ¬ 2 ^ 24 < n := by omega
  simp only [Nat.mul_one] at hf
  simp [execOp, ho, Instr.buildSlice, run_underlying E.ht, sizeOf, typeInfo, hi, hs, zeroValue, hz, newRow, newObj, Sem.run, hr, hf, hn0, hn3, hp]
theorem arm_buildK {dst : Option Tmp} {T : TypeId} {n : Nat} {parts : Array (Nat × Operand)} {ty : TypeId} {pos : String} {after : Array Edge} {gd : Option (Nat × Bool)} {bytes : Nat} (vs : List Value) (hS : Sat w0 w Hs)
    (hw : Region.wanted ⟨dst, .buildSlice T n parts, ty, pos, after, gd⟩ (yielded ops a.tmps) = true) (E : ElemTy P T e 1 bytes) (hn : vs.length = n) (h0 : 0 < n) (hn2 : n ≤ 16777216)
    (hp : parts.toList.map (fun p => (p.1, a.eval p.2)) = vs.zipIdx.map fun x => (x.2, x.1)) (h1 : ∀ v ∈ vs, v.oneCell' = true)
    (K : ∀ b w', Sat w0 w' (own e 1 (some ⟨b, 0, none⟩) n n vs :: Hs) → wpList P ops Q rest (a.put dst (.slice (some ⟨b, 0, none⟩) n n)) w') : wpList P ops Q (⟨dst, .buildSlice T n parts, ty, pos, after, gd⟩ :: rest) a w := by
  refine arm_val hw (run_op_buildK rfl E vs hn h0 hn2 hp h1) (K _ _ ?_)
  have hS1 : Sat w0 (w.alloc (.cells vs.toArray e)) (blk w.heap.size e vs :: Hs) := by simpa [blk] using hS.alloc (.cells vs.toArray e)
  have hmx : (16777216 : Nat) ≤ maxLen := by unfold maxLen; decide
  exact hS1.turn fun g h => ⟨by omega, .inr ⟨w.heap.size, vs, rfl, Nat.le_refl _, by omega, by omega, by rw [Nat.mul_one]; exact List.take_of_length_le (by omega), h⟩⟩
end
end Go.SL
namespace Go.Proofs.YthackanffcaejaaGreatDoor
open Go Go.RowKit Go.SL Go.ClauseP Go.LexP
def wordsV : List Value := pairs13.flatMap fun p => [.string ⟨p.1.toArray⟩, .string ⟨p.2.toArray⟩]
theorem words_one : ∀ v ∈ wordsV, v.oneCell' = true := by
  intro v hv
  simp only [wordsV, List.mem_flatMap, List.mem_cons, List.not_mem_nil, or_false] at hv
  obtain ⟨p, _, rfl | rfl⟩ := hv <;> rfl
def listR (rev : Bool) : List (List UInt8 × List UInt8) := if rev then pairs13.reverse else pairs13
theorem words_at (rev : Bool) (m : Nat) (hm : m < 13) : ∃ p, (listR rev)[m]? = some p ∧ p ∈ pairs13 ∧ wordsV[if rev then 24 - 2 * m else 2 * m]? = some (.string ⟨p.1.toArray⟩) ∧ wordsV[(if rev then 24 - 2 * m else 2 * m) + 1]? = some (.string ⟨p.2.toArray⟩) := by
  have : m = 0 ∨ m = 1 ∨ m = 2 ∨ m = 3 ∨ m = 4 ∨ m = 5 ∨ m = 6 ∨ m = 7 ∨ m = 8 ∨ m = 9 ∨ m = 10 ∨ m = 11 ∨ m = 12 := by omega
  rcases this with rfl | rfl | rfl | rfl | rfl | rfl | rfl | rfl | rfl | rfl | rfl | rfl | rfl <;> cases rev <;> exact ⟨_, rfl, by simp [pairs13], rfl, rfl⟩
theorem words_small : ∀ p ∈ pairs13, p.1.length ≤ 6 ∧ 1 ≤ p.1.length ∧ p.2.length ≤ 3 := by decide
end Go.Proofs.YthackanffcaejaaGreatDoor
