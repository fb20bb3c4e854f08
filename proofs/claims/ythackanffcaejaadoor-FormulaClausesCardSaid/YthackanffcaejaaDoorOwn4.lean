/- A slice is cut from behind and grows again: append(v[:k], ..). -/
import Derived.Test.YthackanffcaejaaDoorSlc
set_option linter.unusedVariables false
set_option linter.unusedSimpArgs false
namespace Go.SL
open Go Go.RowKit

section
variable {P : Program} {ops : Array Oper} {Q : Exit → Act → World → Prop} {rest : List Oper} {a : Act} {w w0 : World} {Hs R R1 R2 : List HP} {e : TypeId} {size n cap : Nat} {ad : Option Addr} {xs : List Value}
theorem Sat.ownShrink {k : Nat} (hS : Sat w0 w (own e size ad n cap xs :: R)) (hk : k ≤ n) : Sat w0 w (own e size ad k cap (xs.take (k * size)) :: R) := by
  refine hS.turn fun h ⟨hl, hA⟩ => ⟨?_, ?_⟩
  · have := Nat.mul_le_mul_right size hk
    rw [List.length_take]; omega
  · rcases hA with ⟨rfl, rfl, rfl, h0⟩ | ⟨g, cur, rfl, h1, h2, h3, h4, h5⟩
    · exact .inl ⟨rfl, by omega, rfl, h0⟩
    · refine .inr ⟨g, cur, rfl, by omega, h2, h3, ?_, h5⟩
      have := Nat.mul_le_mul_right size hk
      rw [← h4, List.take_take]
      congr 1; omega
/-- append(v[:k], x, ..): what lay behind is written over. -/
theorem arm_appendK {dst : Option Tmp} {s x : Operand} {t ty : TypeId} {pos : String} {after : Array Edge} {gd : Option (Nat × Bool)} {bytes k : Nat} (hS : Sat w0 w Hs)
    (hw : Region.wanted ⟨dst, .call { callee := .builtin .append, args := #[s, x], argTypes := #[t, t] }, ty, pos, after, gd⟩ (yielded ops a.tmps) = true)
    (hs : a.eval s = .slice ad k cap) {nb m c : Nat} (hx : a.eval x = .slice (some ⟨nb, 0, none⟩) m c) (E : ElemTy P t e size bytes) (r1 : Rem Hs (own e size ad n cap xs) R1) {news : List Value} (r2 : Rem R1 (blk nb e news) R2)
    (hk : k ≤ n) {ys : List Value} (hys : xs.take (k * size) = ys) (hl : news.length = m * size) (h1 : news.all (·.oneCell') = true) (hb : (k + m) * bytes ≤ 140737488355328) (h63 : k + m ≤ 9223372036854775807)
    (K : ∀ ad' cap' w', Sat w0 w' (own e size ad' (k + m) cap' (ys ++ news) :: R2) → wpList P ops Q rest (a.put dst (.slice ad' (k + m) cap')) w') :
    wpList P ops Q (⟨dst, .call { callee := .builtin .append, args := #[s, x], argTypes := #[t, t] }, ty, pos, after, gd⟩ :: rest) a w := by
  subst hys
  exact arm_appendB ((hS.front r1).ownShrink hk) hw hs hx E Rem.hd r2 hl h1 hb h63 K
/-- An element of m cells, whole, by a view. -/
theorem arm_loadRN {A : HP} {dst : Option Tmp} {t : TypeId} {x : Operand} {ty : TypeId} {pos : String} {after : Array Edge} {gd : Option (Nat × Bool)} {m : Nat} (hS : Sat w0 w Hs)
    (hw : Region.wanted ⟨dst, .load t x, ty, pos, after, gd⟩ (yielded ops a.tmps) = true) {j : Nat} (hx : a.eval x = .pointer (some (adr ad j))) {cs vs : List Value} (hr : Rd A ad cs) (hm : A ∈ Hs)
    (hv : (cs.drop j).take m = vs) (hl : vs.length = m) (hn : sizeTy P t = some m) (ht : aggTy P t = true) (h0 : 0 < m)
    (K : wpList P ops Q rest (a.put dst (.agg vs.toArray)) w) : wpList P ops Q (⟨dst, .load t x, ty, pos, after, gd⟩ :: rest) a w := by
  have hlen : 0 < cs.length := by
    rcases Nat.eq_zero_or_pos cs.length with h | h
    · have : cs = [] := List.length_eq_zero_iff.1 h
      subst this
      simp at hv
      subst hv
      simp at hl; omega
    · exact h
  refine arm_loadEN hw hx (hS.rdAd hm hr hlen) (fun i v hi => hS.rdCell hm hr ?_) hn hl ht K
  rw [← hv, List.getElem?_take] at hi
  split at hi
  · rw [List.getElem?_drop] at hi; exact hi
  · cases hi
end
end Go.SL
