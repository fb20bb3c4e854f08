/- A list of nodes as an argument: what it reads as, turned to a view of what stood when the call began. -/
import Derived.Test.YthackanffcaejaaDoorArg
import Derived.Test.YthackanffcaejaaDoorFormT
set_option linter.unusedVariables false
set_option linter.unusedSimpArgs false
set_option maxRecDepth 20000
namespace Go.Proofs.YthackanffcaejaaDoor
open Go Go.RowKit Go.SL Go.ChangeShapes Go.WideShapes

theorem cellsN : Tryd.prog.cellsOf 77 = 2 := by kernel_rfl
theorem cellsI1 : Tryd.prog.cellsOf 3 = 1 := by kernel_rfl
section
variable {H : Type} {enc : TypeId × Value → H} {W : World}
theorem node_cells {sp : Nat → Bool} {fuel : Nat} {cs : List Value} {x : DataW H × List MemPlace} (h : DataW.trod enc Tryd.prog W 0 sp true fuel 77 cs = some x) : ∃ op n : Int, cs = [.int .i64 op, .int .i64 n] := by
  obtain ⟨xs, n, rfl, hx, hlc, hxl, hf⟩ := DataW.trod_struct Tryd.underlying77 h
  obtain ⟨y0, y1, rfl⟩ : ∃ y0 y1, xs = [y0, y1] := by
    match xs, hxl with
    | [y0, y1], _ => exact ⟨y0, y1, rfl⟩
  have g0 := hf 0 _ rfl
  have g1 := hf 1 _ rfl
  change DataW.trod enc Tryd.prog W 0 sp true n 3 ((cs.drop 0).take (Tryd.prog.cellsOf 3)) = _ at g0
  change DataW.trod enc Tryd.prog W 0 sp true n 3 ((cs.drop 1).take (Tryd.prog.cellsOf 3)) = _ at g1
  rw [cellsI1] at g0 g1
  have hc2 : cs.length = 2 := hlc.trans cellsN
  obtain ⟨a, b, rfl⟩ : ∃ a b, cs = [a, b] := by
    match cs, hc2 with
    | [a, b], _ => exact ⟨a, b, rfl⟩
  obtain ⟨v, e0, _, _⟩ := DataW.trod_int Tryd.underlying3 g0
  obtain ⟨u, e1, _, _⟩ := DataW.trod_int Tryd.underlying3 g1
  have h0 : a = .int .i64 v := by simpa using e0
  have h1 : b = .int .i64 u := by simpa using e1
  exact ⟨v, u, by rw [h0, h1]⟩
theorem argNodes {fuel : Nat} {cs : List Value} {x : DataW H × List MemPlace} (h : DataW.trod enc Tryd.prog W 0 (fun _ => true) true fuel 37 cs = some x) :
    ∃ (ad : Option Addr) (fs : List (Int × Int)) (cap : Nat), cs = [.slice ad fs.length cap] ∧ (ad = none → cap = 0 ∧ fs.length = 0) ∧ Rd (base W) ad (Fs fs) ∧ (∀ m, (∀ n ∈ x.1.weights Tryd.prog 37, n ≤ m) → fs.length * Tryd.prog.bytesOf 77 ≤ m) := by
  rcases DataW.trod_slice Tryd.underlying37 h with ⟨rfl, rfl⟩ | ⟨a, len, cap, elems, rest, n, _, rfl, rfl, hb, hl, hm, hlen, hel, hsp, hns⟩
  · exact ⟨none, [], 0, rfl, fun _ => ⟨rfl, rfl⟩, rd_nil _ _, fun m _ => by simp⟩
  · have each : ∀ i, ∃ p : Int × Int, i < len → W.cell? (a.add (i * 2 + 0)) = some (.int .i64 p.1) ∧ W.cell? (a.add (i * 2 + 1)) = some (.int .i64 p.2) := by
      intro i
      by_cases hi : i < len
      · have h1 := hel i hi
        rw [List.getElem?_eq_getElem (show i < elems.length by omega), Option.bind_eq_some_iff] at h1
        obtain ⟨cs', hcs, hy⟩ := h1
        obtain ⟨op, n', rfl⟩ := node_cells hy
        rw [cellsN] at hcs
        obtain ⟨_, _, hcell⟩ := World.cells?_some hcs
        have hsp : ∀ j : Nat, (a.add (i * 2)).add j = a.add (i * 2 + j) := by
          intro j
          by_cases h1 : i * 2 = 0
          · rw [h1, Nat.zero_add]; simp [Addr.add]
          · by_cases h2 : j = 0
            · subst h2; simp [Addr.add]
            · have h3 : ¬ i * 2 + j = 0 := by omega
              simp [Addr.add, h1, h2, h3, Nat.add_assoc]
        refine ⟨(op, n'), fun _ => ⟨?_, ?_⟩⟩
        · have := hcell 0 (by omega)
          rw [hsp] at this
          simpa using this
        · have := hcell 1 (by omega)
          rw [hsp] at this
          simpa using this
      · exact ⟨(0, 0), fun h => absurd h hi⟩
    obtain ⟨f, hf⟩ := Classical.axiomOfChoice each
    have hfl : ((List.range len).map f).length = len := by simp
    refine ⟨some a, (List.range len).map f, cap, by rw [hfl], (fun h => nomatch h), rd_base fun j v hv => ?_, fun m hmw => ?_⟩
    · have hj := (List.getElem?_eq_some_iff.1 hv).1
      rw [Fs_length, hfl] at hj
      have hi : j / 2 < len := by omega
      have hg : ((List.range len).map f)[j / 2]? = some ((f (j / 2)).1, (f (j / 2)).2) := by simp [hi]
      have hfa := Fs_at hg
      have h0 := congrArg (fun l => l[j % 2]?) hfa
      have hm2 : j % 2 < 2 := by omega
      simp only [List.getElem?_take, if_pos hm2, List.getElem?_drop] at h0
      rw [show j / 2 * 2 + j % 2 = j by omega, hv] at h0
      have hc := hf (j / 2) hi
      rcases Nat.mod_two_eq_zero_or_one j with e | e
      · rw [e] at h0
        simp at h0
        rw [h0, ← hc.1]
        congr 2; omega
      · rw [e] at h0
        simp at h0
        rw [h0, ← hc.2]
        congr 2; omega
    · have h1 := hmw ((elems.length + rest.length) * Tryd.prog.bytesOf 77) (by simp [DataW.weights, Tryd.underlying37])
      rw [hfl]
      have h2 : len * Tryd.prog.bytesOf 77 ≤ (elems.length + rest.length) * Tryd.prog.bytesOf 77 := Nat.mul_le_mul_right _ (by omega)
      omega
end
end Go.Proofs.YthackanffcaejaaDoor
