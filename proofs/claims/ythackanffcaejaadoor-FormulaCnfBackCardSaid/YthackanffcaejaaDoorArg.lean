/- What an argument reads as, turned to views of what stood when the call began. -/
import Derived.Test.YthackanffcaejaaDoorSlc
import Derived.ChangeArms
import Derived.ChangeSlices
import Derived.WideShapes
import Derived.SizedLaws
set_option linter.unusedVariables false
set_option linter.unusedSimpArgs false
namespace Go.SL
open Go Go.RowKit Go.ChangeShapes Go.WideShapes

section
variable {H : Type} {enc : TypeId × Value → H} {P : Program} {W : World}

theorem rd_base {a : Addr} {cs : List Value} (hc : ∀ (j : Nat) v, cs[j]? = some v → W.cell? (a.add j) = some v) : Rd (base W) (some a) cs := by
  intro w h hA hw j v hv
  have h1 := hc j v hv
  have hsp : a.spot = none := by
    have hj := (List.getElem?_eq_some_iff.1 hv).1
    have h2 := hc 0 _ (List.getElem?_eq_getElem (by omega))
    have e0 : a.add 0 = a := by simp [Addr.add]
    rw [e0] at h2
    unfold World.cell? at h2
    split at h2
    · split at h2
      · cases h2
      · rename_i hs; simpa using hs
    · cases h2
  refine ⟨⟨a, rfl, hsp⟩, ?_⟩
  have hb := World.block_lt_of_cell? W _ h1
  simp only [adr, Option.getD_some]
  have : w.heap[(a.add j).block]? = W.heap[(a.add j).block]? := by
    cases hx : W.heap[(a.add j).block]? with
    | none => rw [Array.getElem?_eq_none_iff] at hx; omega
    | some o => exact hw _ o (by rw [hA, if_pos hb, hx])
  rw [World.cell?_of_block this]
  exact h1
theorem rd_nil (A : HP) (ad : Option Addr) : Rd A ad [] := by
  intro w h hA hw j v hv
  simp at hv

theorem argInts {t e : TypeId} {fuel : Nat} {cs : List Value} {x : DataW H × List MemPlace} (ht : P.underlying t = some (.slice e)) (he : P.underlying e = some (.int .i64)) (hc : P.cellsOf e = 1)
    (h : DataW.trod enc P W 0 (fun _ => true) true fuel t cs = some x) :
    ∃ (ad : Option Addr) (zs : List Int) (cap : Nat), cs = [.slice ad zs.length cap] ∧ zs.length ≤ cap ∧ (ad = none → cap = 0 ∧ zs.length = 0) ∧ Rd (base W) ad (Is zs) ∧
      (∀ n ∈ zs, -9223372036854775808 ≤ n ∧ n ≤ 9223372036854775807) ∧ (∀ m, (∀ n ∈ x.1.weights P t, n ≤ m) → zs.length * P.bytesOf e ≤ m) := by
  rcases open_ints ht he hc h with ⟨rfl, rfl⟩ | ⟨a, len, cap, zs, rfl, _, hl, _, hz, rfl, hcell, hwf⟩
  · exact ⟨none, [], 0, rfl, Nat.le_refl _, fun _ => ⟨rfl, rfl⟩, rd_nil _ _, by simp, fun m _ => by simp⟩
  · simp only [if_true] at hz
    have hlen : (zs.take len).length = len := by rw [List.length_take]; omega
    refine ⟨some a, zs.take len, cap, by rw [hlen], by rw [hlen]; exact hl, (fun h => nomatch h), rd_base fun j v hv => ?_, fun n hn => ?_, fun m hm => ?_⟩
    · have hj := (List.getElem?_eq_some_iff.1 hv).1
      rw [Is_length, hlen] at hj
      have h1 := hcell j (by omega)
      rw [h1, ← hv]
      simp [Is, List.getElem?_take, hj, List.getD, List.getElem?_eq_getElem (show j < zs.length by omega)]
    · have := hwf n (List.mem_of_mem_take hn)
      simpa [Lit.wf, IntKind.min, IntKind.max, IntKind.signed, IntKind.bits] using this
    · have h1 := hm (((zs.take len).length + (zs.drop len).length) * P.bytesOf e) (by simp [DataW.weights, ht, lits])
      have h2 : (zs.take len).length * P.bytesOf e ≤ ((zs.take len).length + (zs.drop len).length) * P.bytesOf e := Nat.mul_le_mul_right _ (by omega)
      omega
end
end Go.SL
