/- What the proof of FormulaSpells needs beside the parts. -/
import Derived.Test.YthackanffcaejaaGreatDoorM14
import Derived.Test.YthackanffcaejaaGreatDoorM18
import Derived.Test.YthackanffcaejaaGreatDoorM21
import Derived.ChangeArms
import Derived.ChangeSlices
import Derived.WideShapes
import Derived.SizedLaws
set_option linter.unusedSimpArgs false
set_option linter.unusedVariables false
set_option linter.unusedSectionVars false
section
set_option linter.unusedSimpArgs false
set_option linter.unusedVariables false
namespace Go.Proofs.YthackanffcaejaaGreatDoor
open Go Go.RowKit Go.SL Go.ClauseP Go.LexP

def opn1 : Tk → Nat
  | .opn => 1
  | _ => 0
def rf (text : List UInt8) (p : Ps) : Nat := (text.drop p.fin).count 40
def rest (text : List UInt8) (p : Ps) : Nat := opn1 p.tk + rf text p
end Go.Proofs.YthackanffcaejaaGreatDoor
end
section
set_option linter.unusedSimpArgs false
set_option linter.unusedVariables false
namespace Go.Proofs.YthackanffcaejaaGreatDoor
open Go Go.RowKit Go.SL Go.ClauseP Go.LexP

def net1 (c : UInt8) : Int := if c = 40 then 1 else if c = 41 then -1 else 0
def net : List UInt8 → Int
  | [] => 0
  | c :: cs => net1 c + net cs
theorem net_app : ∀ a b : List UInt8, net (a ++ b) = net a + net b
  | [], b => by simp [net]
  | c :: a, b => by simp only [List.cons_append, net, net_app a b]; omega
def Bal (l : List UInt8) : Prop := net l = 0 ∧ ∀ a b, l = a ++ b → 0 ≤ net a
theorem Bal.app {x y : List UInt8} (hx : Bal x) (hy : Bal y) : Bal (x ++ y) := by
  refine ⟨by rw [net_app, hx.1, hy.1]; rfl, fun a b e => ?_⟩
  rcases List.append_eq_append_iff.1 e with ⟨c, rfl, h2⟩ | ⟨c, h1, h2⟩
  · rw [net_app, hx.1]
    have := hy.2 c b h2
    omega
  · exact hx.2 a c h1
end Go.Proofs.YthackanffcaejaaGreatDoor
end
section
set_option linter.unusedVariables false
set_option linter.unusedSimpArgs false
namespace Go.SL
open Go Go.RowKit Go.ChangeShapes Go.WideShapes

section
variable {H : Type} {enc : TypeId × Value → H} {P : Program} {W : World}

theorem argInts {t e : TypeId} {fuel : Nat} {cs : List Value} {x : DataW H × List MemPlace} (ht : P.underlying t = some (.slice e)) (he : P.underlying e = some (.int .i64)) (hc : P.cellsOf e = 1)
    (h : DataW.trod enc P W 0 (fun _ => true) true fuel t cs = some x) :
    ∃ (ad : Option Addr) (zs : List Int) (cap : Nat), cs = [.slice ad zs.length cap] ∧ zs.length ≤ cap ∧ (ad = none → cap = 0 ∧ zs.length = 0) ∧ Rd (base W) ad (Is zs) ∧
      (∀ n ∈ zs, -9223372036854775808 ≤ n ∧ n ≤ 9223372036854775807) ∧ (∀ m, (∀ n ∈ x.1.weights P t, n ≤ m) → zs.length * P.bytesOf e ≤ m) := by
  rcases open_ints ht he hc h with ⟨rfl, rfl⟩ | ⟨a, len, cap, zs, rfl, _, hl, _, hz, rfl, hcell, hwf⟩
  · exact ⟨none, [], 0, rfl, Nat.le_refl _, fun _ => ⟨rfl, rfl⟩, rd_nil _ _, by simp, fun m _ => by simp⟩
  · simp only [if_true] at hz
    have hlen : (zs.take len).length = len := by rw [List.length_take]; omega
    refine ⟨some a, zs.take len, cap, by rw [hlen], by rw [hlen]; exact hl, (fun h => nomatch h), rd_base fun j v hv => ?_, fun n hn => ?_, fun m hm => ?_⟩
    · have hj := (List.getElem?_eq_some_iff.1 hv).1
      rw [Is_length, hlen] at hj
      have h1 := hcell j (by omega)
      rw [h1, ← hv]
      simp [Is, List.getElem?_take, hj, List.getD, List.getElem?_eq_getElem (show j < zs.length by omega)]
    · have := hwf n (List.mem_of_mem_take hn)
      simpa [Lit.wf, IntKind.min, IntKind.max, IntKind.signed, IntKind.bits] using this
    · have h1 := hm (((zs.take len).length + (zs.drop len).length) * P.bytesOf e) (by simp [DataW.weights, ht, lits])
      have h2 : (zs.take len).length * P.bytesOf e ≤ ((zs.take len).length + (zs.drop len).length) * P.bytesOf e := Nat.mul_le_mul_right _ (by omega)
      omega
end
end Go.SL
end
