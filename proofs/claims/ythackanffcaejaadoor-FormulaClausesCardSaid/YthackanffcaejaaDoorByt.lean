/- A string's bytes as a new slice that is read alone. -/
import Derived.Test.YthackanffcaejaaDoorOwn7
import Derived.Lib.ConvBytes
set_option linter.unusedVariables false
set_option linter.unusedSimpArgs false
namespace Go.SL
open Go Go.RowKit
section
variable {P : Program} {ops : Array Oper} {Q : Exit → Act → World → Prop} {rest : List Oper} {a : Act} {w w0 : World} {Hs : List HP}
theorem Sat.newPt {w' : World} {o : Obj} (hS : Sat w0 w Hs) (hos : w'.os = w.os) (htp : w'.tape = w.tape) (hou : w'.output = w.output) (hsz : w.heap.size ≤ w'.heap.size) (hnew : w'.heap[w.heap.size]? = some o)
    (hold : ∀ b, b < w.heap.size → w'.heap[b]? = w.heap[b]?) : Sat w0 w' (pt w.heap.size o :: Hs) := by
  have h0 : Sat w0 w (SL.emp :: Hs) := hS.emp fun _ => rfl
  refine h0.step hos htp hou hsz fun g hg _ => ⟨fun c => if c = w.heap.size then some o else none, fun c => rfl, fun b o' hb => ?_, fun b hb => .inr ?_, fun b hb _ => hold b hb⟩
  · by_cases hbs : b = w.heap.size
    · simp [hbs] at hb; subst hb; rw [hbs]; exact hnew
    · simp [hbs] at hb
  · by_cases hbs : b = w.heap.size
    · omega
    · simp [hbs] at hb
theorem run_op_convertW {o : Oper} {s d : TypeId} {x : Operand} (ho : o.op = .convert s d x) {ρ : Operand → Value} {v : Value} {w' : World} (hr : (convert s d (ρ x)).run P w = .ok v w') : (execOp ρ o).run P w = .ok (.value v) w' := by
  simp [execOp, ho, hr]
theorem arm_bytesOf {dst : Option Tmp} {src d e : TypeId} {x : Operand} {ty : TypeId} {pos : String} {after : Array Edge} {gd : Option (Nat × Bool)} (hS : Sat w0 w Hs)
    (hw : Region.wanted ⟨dst, .convert src d x, ty, pos, after, gd⟩ (yielded ops a.tmps) = true) {l : List UInt8} (hx : a.eval x = .string ⟨l.toArray⟩) {bytes : Nat} (E : ElemTy P d e 1 bytes) (hs : (P.underlying src).isSome = true)
    (he : P.underlying e = some (.int .u8)) (K : ∀ (A : HP) (ad : Option Addr) (cap : Nat) (w' : World), Rd A ad (Bs l) → (∃ aa, ad = some aa ∧ aa.spot = none) → Sat w0 w' (A :: Hs) → wpList P ops Q rest (a.put dst (.slice ad l.length cap)) w') :
    wpList P ops Q (⟨dst, .convert src d x, ty, pos, after, gd⟩ :: rest) a w := by
  obtain ⟨u, hu⟩ := Option.isSome_iff_exists.1 hs
  have hr := Lib.run_convert_string_bytes (P := P) w src d e ⟨l.toArray⟩ hu E.ht he
  refine arm_val hw (run_op_convertW rfl (by rw [hx]; exact hr)) ?_
  have hsz : (⟨l.toArray⟩ : ByteArray).size = l.length := by simp [ByteArray.size]
  have hS2 := hS.newPt (w' := Lib.bytesWorld w e ⟨l.toArray⟩) (o := .cells (Lib.bytesCells w e ⟨l.toArray⟩) e ((Lib.bytesCells w e ⟨l.toArray⟩).size, (Lib.bytesCells w e ⟨l.toArray⟩).size + 1)) rfl rfl rfl
    (by rw [Lib.bytesWorld_size]; omega) (Lib.bytesWorld_at_new w e _) (fun b hb => Lib.bytesWorld_at_old w e _ b hb)
  have hK := K _ (some ⟨w.heap.size, 0, none⟩) (grownCap w l.length 0 e) _ ?_ ⟨_, rfl, rfl⟩ hS2
  · rw [hsz]; exact hK
  · intro w2 h hA hw2 j v hv
    refine ⟨⟨_, rfl, rfl⟩, ?_⟩
    have hb := hw2 w.heap.size _ (by rw [hA w.heap.size, if_pos rfl])
    have hlt : j < l.length := by
      have := (List.getElem?_eq_some_iff.1 hv).1
      rwa [Bs_length] at this
    simp only [adr, Option.getD_some, add_eq, Nat.zero_add]
    simp only [World.cell?, hb]
    have : (Lib.bytesCells w e ⟨l.toArray⟩)[j]? = some v := by
      simp only [Bs, List.getElem?_map] at hv
      rw [Lib.bytesCells, Array.getElem?_append_left (by simpa using hlt)]
      simpa [Array.getElem?_map] using hv
    simp [this]
end
end Go.SL
