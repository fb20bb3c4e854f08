/- What the proof needs beside the parts. -/
import Derived.Test.YthackanffcaejaaGreatDoorM14
import Derived.Test.YthackanffcaejaaGreatDoorM18
import Derived.Test.YthackanffcaejaaGreatDoorM21
import Derived.Laws.MakeOwn
import Derived.Laws.Concat
set_option linter.unusedSimpArgs false
set_option linter.unusedVariables false
set_option linter.unusedSectionVars false
section
set_option linter.unusedVariables false
set_option linter.unusedSimpArgs false
namespace Go.SL
open Go Go.RowKit Go.Lib

theorem Bs_one (l : List UInt8) : ∀ u ∈ Bs l, u.oneCell' = true := by
  intro u hu
  simp only [Bs, List.mem_map] at hu
  obtain ⟨b, _, rfl⟩ := hu
  rfl
section
variable {P : Program} {ops : Array Oper} {Q : Exit → Act → World → Prop} {rest : List Oper} {a : Act} {w w0 : World} {Hs R R1 R2 : List HP} {e : TypeId} {size n cap : Nat} {ad : Option Addr} {xs : List Value}

theorem arm_appendS {A : HP} {dst : Option Tmp} {s x : Operand} {t ty : TypeId} {pos : String} {after : Array Edge} {gd : Option (Nat × Bool)} {bytes : Nat} (hS : Sat w0 w Hs)
    (hw : Region.wanted ⟨dst, .call { callee := .builtin .append, args := #[s, x], argTypes := #[t, t] }, ty, pos, after, gd⟩ (yielded ops a.tmps) = true)
    (hs : a.eval s = .slice ad n cap) {sd : Option Addr} {m c : Nat} (hx : a.eval x = .slice sd m c) (E : ElemTy P t e size bytes) (r1 : Rem Hs (own e size ad n cap xs) R1) {news : List Value} (hr : Rd A sd news) (hm : A ∈ R1)
    (hl : news.length = m * size) (hsd : sd = none → c = 0 ∧ m = 0) (h1 : ∀ u ∈ news, u.oneCell' = true) (hb : (n + m) * bytes ≤ 140737488355328) (h63 : n + m ≤ 9223372036854775807)
    (K : ∀ ad' cap' w', Sat w0 w' (own e size ad' (n + m) cap' (xs ++ news) :: R1) → wpList P ops Q rest (a.put dst (.slice ad' (n + m) cap')) w') :
    wpList P ops Q (⟨dst, .call { callee := .builtin .append, args := #[s, x], argTypes := #[t, t] }, ty, pos, after, gd⟩ :: rest) a w := by
  have hS1 := hS.front r1
  obtain ⟨ad', cap', w', hr', hS'⟩ := run_append_sl (P := P) (ty := ty) E hS1 (sd := sd) (c := c) hl
    (fun j u hj => ⟨hS1.rdAd (.tail _ hm) hr (by have := (List.getElem?_eq_some_iff.1 hj).1; omega), hS1.rdCell (.tail _ hm) hr hj⟩) h1 hsd h63 hb
  exact arm_val hw (run_op_append rfl (by rw [hs, hx]; exact hr')) (K ad' cap' w' hS')
/-! ### A slice literal of one element -/
/-! ### string(b) -/
/-! ### Slices of an array variable -/
end
end Go.SL
end
section
namespace Go.Proofs.YthackanffcaejaaGreatDoor
open Go.SL
theorem z35 : zeroTy Tryz.prog 35 = some ([.slice none 0 0]) := by kernel_rfl
theorem z42 : zeroTy Tryz.prog 42 = some ([.slice none 0 0]) := by kernel_rfl
theorem sz109 : sizeTy Tryz.prog 109 = some 3 := by kernel_rfl
theorem z109 : zeroTy Tryz.prog 109 = some ([.slice none 0 0, .slice none 0 0, .slice none 0 0]) := by kernel_rfl
theorem fo109_0 : fieldOff Tryz.prog 109 0 = some 0 := by kernel_rfl
theorem fo109_1 : fieldOff Tryz.prog 109 1 = some 1 := by kernel_rfl
theorem fo109_2 : fieldOff Tryz.prog 109 2 = some 2 := by kernel_rfl
theorem sz136 : sizeTy Tryz.prog 136 = some 3 := by kernel_rfl
theorem fo136_0 : fieldOff Tryz.prog 136 0 = some 0 := by kernel_rfl
theorem fo136_1 : fieldOff Tryz.prog 136 1 = some 2 := by kernel_rfl
theorem sz139 : sizeTy Tryz.prog 139 = some 3 := by kernel_rfl
theorem fo139_0 : fieldOff Tryz.prog 139 0 = some 0 := by kernel_rfl
theorem fo139_1 : fieldOff Tryz.prog 139 1 = some 2 := by kernel_rfl
theorem sz155 : sizeTy Tryz.prog 155 = some 3 := by kernel_rfl
theorem fo155_0 : fieldOff Tryz.prog 155 0 = some 0 := by kernel_rfl
theorem fo155_1 : fieldOff Tryz.prog 155 1 = some 2 := by kernel_rfl
theorem sz158 : sizeTy Tryz.prog 158 = some 5 := by kernel_rfl
theorem fo158_0 : fieldOff Tryz.prog 158 0 = some 0 := by kernel_rfl
theorem fo158_1 : fieldOff Tryz.prog 158 1 = some 2 := by kernel_rfl
theorem fo158_2 : fieldOff Tryz.prog 158 2 = some 3 := by kernel_rfl
theorem fo158_3 : fieldOff Tryz.prog 158 3 = some 4 := by kernel_rfl
theorem sz162 : sizeTy Tryz.prog 162 = some 5 := by kernel_rfl
theorem fo162_0 : fieldOff Tryz.prog 162 0 = some 0 := by kernel_rfl
theorem fo162_1 : fieldOff Tryz.prog 162 1 = some 2 := by kernel_rfl
theorem fo162_2 : fieldOff Tryz.prog 162 2 = some 3 := by kernel_rfl
theorem fo162_3 : fieldOff Tryz.prog 162 3 = some 4 := by kernel_rfl
theorem sz165 : sizeTy Tryz.prog 165 = some 5 := by kernel_rfl
theorem fo165_0 : fieldOff Tryz.prog 165 0 = some 0 := by kernel_rfl
theorem fo165_1 : fieldOff Tryz.prog 165 1 = some 2 := by kernel_rfl
theorem fo165_2 : fieldOff Tryz.prog 165 2 = some 3 := by kernel_rfl
theorem fo165_3 : fieldOff Tryz.prog 165 3 = some 4 := by kernel_rfl
theorem sz179 : sizeTy Tryz.prog 179 = some 2 := by kernel_rfl
theorem fo179_0 : fieldOff Tryz.prog 179 0 = some 0 := by kernel_rfl
theorem fo179_1 : fieldOff Tryz.prog 179 1 = some 1 := by kernel_rfl
end Go.Proofs.YthackanffcaejaaGreatDoor
end
section
set_option linter.unusedVariables false
set_option linter.unusedSimpArgs false
namespace Go.SL
open Go Go.RowKit

section
variable {P : Program} {ops : Array Oper} {Q : Exit → Act → World → Prop} {rest : List Oper} {a : Act} {w w0 : World} {Hs : List HP} {e : TypeId} {size n cap : Nat} {ad : Option Addr}

theorem Is_one (l : List Int) : ∀ u ∈ Is l, u.oneCell' = true := by
  intro u hu
  simp only [Is, List.mem_map] at hu
  obtain ⟨x, _, rfl⟩ := hu
  rfl
/-! ### Strings put together -/
/-! ### A slice literal of two elements of one cell -/
end
end Go.SL
end
section
set_option linter.unusedSimpArgs false
set_option linter.unusedVariables false
set_option linter.unusedSectionVars false
set_option maxRecDepth 20000
namespace Go.Proofs.YthackanffcaejaaGreatDoor
open Go Go.RowKit Go.SL

theorem Fs_one : ∀ fs : List (Int × Int), ∀ u ∈ Fs fs, u.oneCell' = true
  | [], u, hu => by simp [Fs] at hu
  | x :: xs, u, hu => by
    simp only [Fs, List.mem_cons] at hu
    rcases hu with rfl | rfl | hu
    · rfl
    · rfl
    · exact Fs_one xs u hu
section
variable (fs : List (Int × Int)) (hl : fs.length ≤ 8796093022200) (ad : Option Addr) (cap : Nat)
include hl
end
end Go.Proofs.YthackanffcaejaaGreatDoor
end
