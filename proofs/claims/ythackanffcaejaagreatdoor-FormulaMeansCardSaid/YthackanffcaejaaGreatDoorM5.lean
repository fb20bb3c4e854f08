/- A part of the proof: LxU It Lx4 Lx5. -/
import Derived.Test.YthackanffcaejaaGreatDoorM1
import Derived.Test.YthackanffcaejaaGreatDoorM2
import Derived.Test.YthackanffcaejaaGreatDoorM4
import Derived.Laws.RangeAny
import Derived.Lib.OthersKept
section
set_option linter.unusedSimpArgs false
set_option linter.unusedVariables false
set_option maxRecDepth 20000
namespace Go.LexP
open Go Go.ClauseP

theorem get_l (l : List UInt8) (k : Nat) : (⟨l.toArray⟩ : ByteArray).get! k = l.getD k 0 := by
  show (l.toArray)[k]! = _
  simp [getElem!_def, List.getD]
  rfl
theorem size_l (l : List UInt8) : (⟨l.toArray⟩ : ByteArray).size = l.length := by simp [ByteArray.size]
def rune0 (l : List UInt8) : Nat := (Utf8.decode ⟨l.toArray⟩ 0).1
theorem rune3 (l : List UInt8) (c b0 b1 b2 : Nat) (hb0 : b0 / 16 = 14) (hb1 : b1 / 64 = 2) (hb2 : b2 / 64 = 2) (hc : c = (b0 % 16) * 4096 + (b1 % 64) * 64 + b2 % 64) (h1 : 2048 ≤ c) (h2 : c < 55296) :
    rune0 l = c ↔ (2 < l.length ∧ (l.getD 0 0).toNat = b0 ∧ (l.getD 1 0).toNat = b1 ∧ (l.getD 2 0).toNat = b2) := by
  unfold rune0
  simp only [Utf8.decode, get_l, size_l, Nat.zero_add, Nat.add_zero]
  have k0 := (l.getD 0 0).toNat_lt
  have k1 := (l.getD 1 0).toNat_lt
  have k2 := (l.getD 2 0).toNat_lt
  have k3 := (l.getD 3 0).toNat_lt
  generalize (l.getD 0 0).toNat = a0 at *
  generalize (l.getD 1 0).toNat = a1 at *
  generalize (l.getD 2 0).toNat = a2 at *
  generalize (l.getD 3 0).toNat = a3 at *
  constructor
  · intro h
    split at h
    · simp only at h; omega
    · split at h
      · split at h <;> simp only [Utf8.runeError] at h <;> omega
      · split at h
        · rename_i hh
          simp only [Bool.and_eq_true, beq_iff_eq, decide_eq_true_eq] at hh
          split at h
          · simp only at h; omega
          · simp only [Utf8.runeError] at h; omega
        · split at h
          · split at h
            · rename_i hh
              simp only [Bool.and_eq_true, decide_eq_true_eq] at hh
              simp only at h; omega
            · simp only [Utf8.runeError] at h; omega
          · simp only [Utf8.runeError] at h; omega
  · rintro ⟨hl, rfl, rfl, rfl⟩
    rw [if_neg (by omega)]
    rw [if_neg (by simp only [Bool.and_eq_true, beq_iff_eq, decide_eq_true_eq]; omega)]
    rw [if_pos (by simp only [Bool.and_eq_true, beq_iff_eq, decide_eq_true_eq]; omega)]
    rw [if_pos (by simp only [Bool.and_eq_true, decide_eq_true_eq, Utf8.valid]; first | omega | (simp; omega))]
    exact hc.symm
theorem rune2 (l : List UInt8) : rune0 l = 172 ↔ (1 < l.length ∧ (l.getD 0 0).toNat = 194 ∧ (l.getD 1 0).toNat = 172) := by
  unfold rune0
  simp only [Utf8.decode, get_l, size_l, Nat.zero_add, Nat.add_zero]
  have k0 := (l.getD 0 0).toNat_lt
  have k1 := (l.getD 1 0).toNat_lt
  have k2 := (l.getD 2 0).toNat_lt
  have k3 := (l.getD 3 0).toNat_lt
  generalize (l.getD 0 0).toNat = a0 at *
  generalize (l.getD 1 0).toNat = a1 at *
  generalize (l.getD 2 0).toNat = a2 at *
  generalize (l.getD 3 0).toNat = a3 at *
  constructor
  · intro h
    split at h
    · simp only at h; omega
    · split at h
      · rename_i hh
        simp only [Bool.and_eq_true, beq_iff_eq, decide_eq_true_eq] at hh
        split at h
        · simp only at h; omega
        · simp only [Utf8.runeError] at h; omega
      · split at h
        · split at h
          · rename_i hh
            simp only [Bool.and_eq_true, decide_eq_true_eq] at hh
            simp only at h; omega
          · simp only [Utf8.runeError] at h; omega
        · split at h
          · split at h
            · rename_i hh
              simp only [Bool.and_eq_true, decide_eq_true_eq] at hh
              simp only at h; omega
            · simp only [Utf8.runeError] at h; omega
          · simp only [Utf8.runeError] at h; omega
  · rintro ⟨hl, rfl, rfl⟩
    simp [hl]
theorem pre3 (l : List UInt8) (x y z : UInt8) : [x, y, z].isPrefixOf l = true ↔ (2 < l.length ∧ (l.getD 0 0).toNat = x.toNat ∧ (l.getD 1 0).toNat = y.toNat ∧ (l.getD 2 0).toNat = z.toNat) := by
  match l with
  | [] => simp
  | [a] => simp
  | [a, b] => simp
  | a :: b :: c :: t =>
    simp only [List.isPrefixOf_cons_cons, List.isPrefixOf_nil_left, Bool.and_true, Bool.and_eq_true, beq_iff_eq]
    simp only [List.length_cons, List.getD_cons_zero, List.getD_cons_succ]
    constructor
    · rintro ⟨rfl, rfl, rfl⟩; exact ⟨by omega, rfl, rfl, rfl⟩
    · rintro ⟨_, h1, h2, h3⟩; exact ⟨(UInt8.toNat_inj.1 h1).symm, (UInt8.toNat_inj.1 h2).symm, (UInt8.toNat_inj.1 h3).symm⟩
theorem pre2 (l : List UInt8) (x y : UInt8) : [x, y].isPrefixOf l = true ↔ (1 < l.length ∧ (l.getD 0 0).toNat = x.toNat ∧ (l.getD 1 0).toNat = y.toNat) := by
  match l with
  | [] => simp
  | [a] => simp
  | a :: b :: t =>
    simp only [List.isPrefixOf_cons_cons, List.isPrefixOf_nil_left, Bool.and_true, Bool.and_eq_true, beq_iff_eq]
    simp only [List.length_cons, List.getD_cons_zero, List.getD_cons_succ]
    constructor
    · rintro ⟨rfl, rfl⟩; exact ⟨by omega, rfl, rfl⟩
    · rintro ⟨_, h1, h2⟩; exact ⟨(UInt8.toNat_inj.1 h1).symm, (UInt8.toNat_inj.1 h2).symm⟩
theorem rune_is (l : List UInt8) : (([194, 172] : List UInt8).isPrefixOf l = decide (rune0 l = 172)) ∧ (([226, 136, 167] : List UInt8).isPrefixOf l = decide (rune0 l = 8743)) ∧ (([226, 136, 168] : List UInt8).isPrefixOf l = decide (rune0 l = 8744)) ∧
    (([226, 138, 149] : List UInt8).isPrefixOf l = decide (rune0 l = 8853)) ∧ (([226, 134, 146] : List UInt8).isPrefixOf l = decide (rune0 l = 8594)) ∧ (([226, 134, 148] : List UInt8).isPrefixOf l = decide (rune0 l = 8596)) ∧
    (([226, 136, 131] : List UInt8).isPrefixOf l = decide (rune0 l = 8707)) ∧ (([226, 136, 128] : List UInt8).isPrefixOf l = decide (rune0 l = 8704)) ∧ (([226, 138, 164] : List UInt8).isPrefixOf l = decide (rune0 l = 8868)) ∧ (([226, 138, 165] : List UInt8).isPrefixOf l = decide (rune0 l = 8869)) := by
  have key : ∀ (b : Bool) (p : Prop) [Decidable p], (b = true ↔ p) → b = decide p := fun b p _ h => by
    cases b with
    | true => exact (decide_eq_true (h.1 rfl)).symm
    | false => exact (decide_eq_false (fun hp => by have := h.2 hp; cases this)).symm
  refine ⟨key _ _ ((pre2 l 194 172).trans (rune2 l).symm), key _ _ ((pre3 l 226 136 167).trans (rune3 l 8743 226 136 167 (by decide) (by decide) (by decide) (by decide) (by decide) (by decide)).symm),
    key _ _ ((pre3 l 226 136 168).trans (rune3 l 8744 226 136 168 (by decide) (by decide) (by decide) (by decide) (by decide) (by decide)).symm), key _ _ ((pre3 l 226 138 149).trans (rune3 l 8853 226 138 149 (by decide) (by decide) (by decide) (by decide) (by decide) (by decide)).symm),
    key _ _ ((pre3 l 226 134 146).trans (rune3 l 8594 226 134 146 (by decide) (by decide) (by decide) (by decide) (by decide) (by decide)).symm), key _ _ ((pre3 l 226 134 148).trans (rune3 l 8596 226 134 148 (by decide) (by decide) (by decide) (by decide) (by decide) (by decide)).symm),
    key _ _ ((pre3 l 226 136 131).trans (rune3 l 8707 226 136 131 (by decide) (by decide) (by decide) (by decide) (by decide) (by decide)).symm), key _ _ ((pre3 l 226 136 128).trans (rune3 l 8704 226 136 128 (by decide) (by decide) (by decide) (by decide) (by decide) (by decide)).symm),
    key _ _ ((pre3 l 226 138 164).trans (rune3 l 8868 226 138 164 (by decide) (by decide) (by decide) (by decide) (by decide) (by decide)).symm), key _ _ ((pre3 l 226 138 165).trans (rune3 l 8869 226 138 165 (by decide) (by decide) (by decide) (by decide) (by decide) (by decide)).symm)⟩
end Go.LexP
end
section
set_option linter.unusedVariables false
set_option linter.unusedSimpArgs false
namespace Go.SL
open Go Go.RowKit
section
variable {P : Program} {ops : Array Oper} {Q : Exit → Act → World → Prop} {rest : List Oper} {a : Act} {w w0 : World} {Hs : List HP}
theorem arm_range {dst : Option Tmp} {t : TypeId} {x : Operand} {ty : TypeId} {pos : String} {after : Array Edge} {gd : Option (Nat × Bool)} (hS : Sat w0 w Hs)
    (hw : Region.wanted ⟨dst, .range t x, ty, pos, after, gd⟩ (yielded ops a.tmps) = true) {s : ByteArray} (hx : a.eval x = .string s) (ht : P.underlying t = some .string)
    (K : ∀ b w', Sat w0 w' (pt b (.stringIter s 0) :: Hs) → wpList P ops Q rest (a.put dst (.pointer (some ⟨b, 0, none⟩))) w') : wpList P ops Q (⟨dst, .range t x, ty, pos, after, gd⟩ :: rest) a w := by
  have hr : (execOp a.eval ⟨dst, .range t x, ty, pos, after, gd⟩).run P w = .ok (.value (.pointer (some ⟨w.heap.size, 0, none⟩))) (w.iter s 0) := by
    simp [execOp, hx, run_range_string w t s ht]
  exact arm_val hw hr (K _ _ (hS.alloc (.stringIter s 0)))
theorem arm_next {dst : Option Tmp} {x : Operand} {ty : TypeId} {ps : String} {after : Array Edge} {gd : Option (Nat × Bool)} (hS : Sat w0 w Hs)
    (hw : Region.wanted ⟨dst, .next x true, ty, ps, after, gd⟩ (yielded ops a.tmps) = true) {b : Nat} (hx : a.eval x = .pointer (some ⟨b, 0, none⟩)) {s : ByteArray} {pos : Nat} (hm : pt b (.stringIter s pos) ∈ Hs) (h : pos < s.size)
    {Hs' : List HP} (u : Upd Hs (pt b (.stringIter s pos)) (pt b (.stringIter s (pos + (Utf8.decode s pos).2))) Hs')
    (K : ∀ w', Sat w0 w' Hs' → wpList P ops Q rest (a.put dst (.tuple #[.bool true, .int .i64 pos, .int .i32 ((Utf8.decode s pos).1 : Int)])) w') : wpList P ops Q (⟨dst, .next x true, ty, ps, after, gd⟩ :: rest) a w := by
  have hb := hS.block hm
  have hr : (execOp a.eval ⟨dst, .next x true, ty, ps, after, gd⟩).run P w = .ok (.value (.tuple #[.bool true, .int .i64 pos, .int .i32 ((Utf8.decode s pos).1 : Int)])) (w.iterAt b s (pos + (Utf8.decode s pos).2)) := by
    simp [execOp, hx, Lib.run_next_any_at w b s pos ty hb h]
  have hlt := (Array.getElem?_eq_some_iff.1 hb).1
  refine arm_val hw hr (K _ (hS.setObj u rfl rfl rfl (by simp [World.iterAt]) ?_ fun c hc => ?_))
  · simp [World.iterAt, hlt]
  · simp [World.iterAt, Array.getElem?_setIfInBounds, Ne.symm hc]
end
end Go.SL
end
section
set_option linter.unusedSimpArgs false
set_option linter.unusedVariables false
set_option maxRecDepth 20000
namespace Go.Proofs.YthackanffcaejaaGreatDoor
open Go Go.RowKit Go.SL Go.ClauseP Go.LexP

def sgV : List (List UInt8 × Tk) → List Value
  | [] => []
  | x :: xs => .string ⟨x.1.toArray⟩ :: .int .i64 (tokE x.2).1 :: sgV xs
theorem sgV_at : ∀ (xs : List (List UInt8 × Tk)) (j : Nat) (x : List UInt8 × Tk), xs[j]? = some x → ((sgV xs).drop (j * 2)).take 2 = [.string ⟨x.1.toArray⟩, .int .i64 (tokE x.2).1]
  | [], j, x, h => by simp at h
  | y :: xs, 0, x, h => by simp at h; subst h; rfl
  | y :: xs, j + 1, x, h => by
    have h2 := sgV_at xs j x (by simpa using h)
    rw [show (j + 1) * 2 = j * 2 + 2 by omega]
    simpa [sgV] using h2
theorem signs_plain : ∀ x ∈ signs11, tokE x.2 = ((tokE x.2).1, 0, 0) ∧ x.1.length ≤ 3 ∧ x.1.length ≠ 0 := by decide
def SigE (w0 : World) : Prop := ∃ ad cap, w0.cell? ⟨1, 0, none⟩ = some (.slice ad 11 cap) ∧ Rd (base w0) ad (sgV signs11) ∧ ∃ aa, ad = some aa ∧ aa.spot = none
theorem find_runes (l : List UInt8) : Instr.findNow (.int .i32) (.int .i32 (rune0 l : Int)) runesE 0 = some (if rune0 l = 172 then some (0, .agg #[.int .i64 3, .int .i64 0, .int .i64 0, .int .i64 0]) else if rune0 l = 8743 then some (1, .agg #[.int .i64 4, .int .i64 0, .int .i64 0, .int .i64 0])
    else if rune0 l = 8744 then some (2, .agg #[.int .i64 5, .int .i64 0, .int .i64 0, .int .i64 0]) else if rune0 l = 8853 then some (3, .agg #[.int .i64 6, .int .i64 0, .int .i64 0, .int .i64 0]) else if rune0 l = 8594 then some (4, .agg #[.int .i64 7, .int .i64 0, .int .i64 0, .int .i64 0])
    else if rune0 l = 8596 then some (5, .agg #[.int .i64 8, .int .i64 0, .int .i64 0, .int .i64 0]) else if rune0 l = 8707 then some (6, .agg #[.int .i64 13, .int .i64 0, .int .i64 0, .int .i64 0]) else if rune0 l = 8704 then some (7, .agg #[.int .i64 14, .int .i64 0, .int .i64 0, .int .i64 0])
    else if rune0 l = 8868 then some (8, .agg #[.int .i64 1, .int .i64 1, .int .i64 0, .int .i64 0]) else if rune0 l = 8869 then some (9, .agg #[.int .i64 1, .int .i64 0, .int .i64 0, .int .i64 0]) else none) := by
  generalize rune0 l = r
  have e : ∀ n : Nat, ((r : Int) == (n : Int)) = decide (r = n) := fun n => by
    by_cases h : r = n
    · subst h; simp
    · rw [decide_eq_false h]; exact beq_eq_false_iff_ne.2 (by omega)
  unfold runesE
  have e1 : ((r : Int) == 172) = decide (r = 172) := e 172
  have e2 : ((r : Int) == 8743) = decide (r = 8743) := e 8743
  have e3 : ((r : Int) == 8744) = decide (r = 8744) := e 8744
  have e4 : ((r : Int) == 8853) = decide (r = 8853) := e 8853
  have e5 : ((r : Int) == 8594) = decide (r = 8594) := e 8594
  have e6 : ((r : Int) == 8596) = decide (r = 8596) := e 8596
  have e7 : ((r : Int) == 8707) = decide (r = 8707) := e 8707
  have e8 : ((r : Int) == 8704) = decide (r = 8704) := e 8704
  have e9 : ((r : Int) == 8868) = decide (r = 8868) := e 8868
  have e10 : ((r : Int) == 8869) = decide (r = 8869) := e 8869
  clear e
  simp only [Instr.findNow, Instr.sameNow, if_true, e1, e2, e3, e4, e5, e6, e7, e8, e9, e10]
  by_cases h1 : r = 172
  · simp [h1]
  by_cases h2 : r = 8743
  · simp [h2]
  by_cases h3 : r = 8744
  · simp [h3]
  by_cases h4 : r = 8853
  · simp [h4]
  by_cases h5 : r = 8594
  · simp [h5]
  by_cases h6 : r = 8596
  · simp [h6]
  by_cases h7 : r = 8707
  · simp [h7]
  by_cases h8 : r = 8704
  · simp [h8]
  by_cases h9 : r = 8868
  · simp [h9]
  by_cases h10 : r = 8869 <;> simp [h1, h2, h3, h4, h5, h6, h7, h8, h9, h10]
theorem sign_rune (l : List UInt8) : (signs10.find? fun s => s.1.isPrefixOf l) = if rune0 l = 172 then some ([194, 172], .not) else if rune0 l = 8743 then some ([226, 136, 167], .op 6) else if rune0 l = 8744 then some ([226, 136, 168], .op 7)
    else if rune0 l = 8853 then some ([226, 138, 149], .op 8) else if rune0 l = 8594 then some ([226, 134, 146], .op 9) else if rune0 l = 8596 then some ([226, 134, 148], .op 10) else if rune0 l = 8707 then some ([226, 136, 131], .quant 4)
    else if rune0 l = 8704 then some ([226, 136, 128], .quant 5) else if rune0 l = 8868 then some ([226, 138, 164], .const 1) else if rune0 l = 8869 then some ([226, 138, 165], .const 0) else none := by
  obtain ⟨r1, r2, r3, r4, r5, r6, r7, r8, r9, r10⟩ := rune_is l
  unfold signs10
  simp only [List.find?, r1, r2, r3, r4, r5, r6, r7, r8, r9, r10]
  generalize rune0 l = r
  by_cases h1 : r = 172
  · simp [h1]
  by_cases h2 : r = 8743
  · simp [h2]
  by_cases h3 : r = 8744
  · simp [h3]
  by_cases h4 : r = 8853
  · simp [h4]
  by_cases h5 : r = 8594
  · simp [h5]
  by_cases h6 : r = 8596
  · simp [h6]
  by_cases h7 : r = 8707
  · simp [h7]
  by_cases h8 : r = 8704
  · simp [h8]
  by_cases h9 : r = 8868
  · simp [h9]
  by_cases h10 : r = 8869 <;> simp [h1, h2, h3, h4, h5, h6, h7, h8, h9, h10]
theorem results_cell_tmp {P : Program} {w : World} {fn : Func} {t t' : Tmp} {T : TypeId} (h : fn.results = #[.cell t T, .tmp t']) {tmps : Array Value} {ad : Addr} (hp : tmps.getD t undef = .pointer (some ad)) {v v' : Value} (hp' : tmps.getD t' undef = v')
    (hl : (loadVar T ad).run P w = .ok v w) : (results fn tmps).run P w = .ok (.tuple #[v, v']) w := by
  rw [Array.getD_eq_getD_getElem?] at hp hp'
  simp [results, h, hp, hp', asAddr, hl]
theorem ex_run (text : List UInt8) (p : UInt8 → Bool) (k : Nat) (hk : k ≤ text.length) : (⟨text.toArray⟩ : ByteArray).extract k (runP p text k) = ⟨((text.drop k).takeWhile p).toArray⟩ := by
  have h1 : ((text.drop k).takeWhile p).length ≤ (text.drop k).length := (List.takeWhile_sublist _).length_le
  rw [List.length_drop] at h1
  apply ByteArray.ext
  simp only [ByteArray.data_extract, List.extract_toArray, List.extract_eq_take_drop, runP]
  rw [Nat.add_sub_cancel_left]
  congr 1
  exact (List.prefix_iff_eq_take.1 (List.takeWhile_prefix _)).symm
theorem run_bd (text : List UInt8) (p : UInt8 → Bool) (k : Nat) (hk : k ≤ text.length) : k ≤ runP p text k ∧ runP p text k ≤ text.length := by
  have h1 : ((text.drop k).takeWhile p).length ≤ (text.drop k).length := (List.takeWhile_sublist _).length_le
  rw [List.length_drop] at h1
  unfold runP
  omega
set_option maxHeartbeats 1000000 in
theorem pieceWord (text : List UInt8) (hl : text.length ≤ 1048576) (k : Nat) (c : UInt8) (hc : text[k]? = some c) (hw : letP c = true) (w0 w : World) (Hs : List HP) (hS : Sat w0 w Hs) :
    Calls Tryz.prog 113 #[.string ⟨text.toArray⟩, .int .i64 k] w fun e w' => e = .returned (.tuple #[tokV (tokW ((text.drop k).takeWhile ldP)) 0, .int .i64 (runP ldP text k)]) ∧ Sat w0 w' Hs := by
  have hlt := (List.getElem?_eq_some_iff.1 hc).1
  obtain ⟨hpk, hck⟩ := byteAt text k c hc
  have hex := ex_run text ldP k (by omega)
  obtain ⟨b1, b2⟩ := run_bd text ldP k (by omega)
  have LC := letterC c w0
  rw [hw] at LC
  have RC := runLd text (by omega) k (by omega) w0
  have hne : (text.drop k).takeWhile ldP ≠ [] := by
    rw [List.drop_eq_getElem_cons hlt]
    have : text[k] = c := (List.getElem?_eq_some_iff.1 hc).2
    rw [this, List.takeWhile_cons, show ldP c = true by simp [ldP, hw]]
    simp
  have hsl : ((text.drop k).takeWhile ldP).length ≤ 140737488351232 := by
    have h1 : ((text.drop k).takeWhile ldP).length ≤ (text.drop k).length := (List.takeWhile_sublist _).length_le
    rw [List.length_drop] at h1
    omega
  have WC := wordC _ hne hsl w0
  rw [← hex] at WC
  generalize tokW ((text.drop k).takeWhile ldP) = t at *
  generalize runP ldP text k = q at *
  clear hex hne hsl hc hw
  have hkq : (k : Int) ≤ (q : Int) := by omega
  have hql : (q : Int) ≤ (text.length : Int) := by omega
  go_enter Tryz.func113, Tryz.ntmps113
  go_wp2_with (first | ((with_reducible apply arm_alloc hS); exact wanted_none; exact z80; clear hS; intro NB w hS; (try simp only [Act.put, q1, q2, q3])) | (go_at_call 133; refine (LC _ _ hS).mono ?_; clear hS; rintro e w ⟨rfl, hS⟩) | (go_at_call 98; refine (RC _ _ hS).mono ?_; clear hS; rintro e w ⟨rfl, hS⟩) | (go_at_call 135; refine (WC _ _ hS).mono ?_; clear hS; rintro e w ⟨rfl, hS⟩) | ((with_reducible apply arm_storeN hS); exact wanted_none; exact ev_tmp rfl; exact ev_tmp rfl; (repeat (with_reducible exact mem_hd)); rfl; (focus (simp; done)); (repeat (with_reducible exact Upd.hd)); rfl; exact sz80; rfl; clear hS; intro w hS; (try simp only [setFrom, q2, q3] at hS); (try simp only [Act.put, q1, q2, q3])))
  refine bodyPost_ret (results_cell_tmp rfl rfl rfl (hS.loadWhole (by (repeat (with_reducible exact mem_hd))) (by kernel_rfl) (by kernel_rfl))) rfl ?_
  exact ⟨rfl, hS.sb (by (repeat (with_reducible first | exact Sb.refl | apply Sb.skip)))⟩
set_option maxHeartbeats 1000000 in
theorem pieceNum (text : List UInt8) (hl : text.length ≤ 1048576) (k : Nat) (c : UInt8) (hc : text[k]? = some c) (hw : letP c = false) (hg : digP c = true) (w0 w : World) (Hs : List HP) (hS : Sat w0 w Hs) :
    Calls Tryz.prog 113 #[.string ⟨text.toArray⟩, .int .i64 k] w fun e w' => e = .returned (.tuple #[tokV (if numM 1 ((text.drop k).takeWhile digP) < 0 then .bad 133 else .const (numM 1 ((text.drop k).takeWhile digP))) 0, .int .i64 (runP digP text k)]) ∧ Sat w0 w' Hs := by
  have hlt := (List.getElem?_eq_some_iff.1 hc).1
  obtain ⟨hpk, hck⟩ := byteAt text k c hc
  have hex := ex_run text digP k (by omega)
  obtain ⟨b1, b2⟩ := run_bd text digP k (by omega)
  have LC := letterC c w0
  have DC := digitC c w0
  rw [hw] at LC
  rw [hg] at DC
  have RC := runDig text (by omega) k (by omega) w0
  have hsl : ((text.drop k).takeWhile digP).length ≤ 140737488351232 := by
    have h1 : ((text.drop k).takeWhile digP).length ≤ (text.drop k).length := (List.takeWhile_sublist _).length_le
    rw [List.length_drop] at h1
    omega
  have NC := decimalC 1 (by omega) _ hsl w0
  rw [← hex] at NC
  generalize numM 1 ((text.drop k).takeWhile digP) = n at *
  generalize runP digP text k = q at *
  clear hex hsl hc hw hg
  have hkq : (k : Int) ≤ (q : Int) := by omega
  have hql : (q : Int) ≤ (text.length : Int) := by omega
  by_cases hn : n < 0
  · rw [if_pos hn]
    have hn2 : decide (n ≥ 0) = false := by simp; omega
    go_enter Tryz.func113, Tryz.ntmps113
    go_wp2_with (first | ((with_reducible apply arm_alloc hS); exact wanted_none; exact z80; clear hS; intro NB w hS; (try simp only [Act.put, q1, q2, q3])) | (go_at_call 133; refine (LC _ _ hS).mono ?_; clear hS; rintro e w ⟨rfl, hS⟩) | (go_at_call 121; refine (DC _ _ hS).mono ?_; clear hS; rintro e w ⟨rfl, hS⟩) | (go_at_call 98; refine (RC _ _ hS).mono ?_; clear hS; rintro e w ⟨rfl, hS⟩) | (go_at_call 100; refine (NC _ _ hS).mono ?_; clear hS; rintro e w ⟨rfl, hS⟩) | ((with_reducible apply arm_storeN hS); exact wanted_none; exact ev_tmp rfl; exact ev_tmp rfl; (repeat (with_reducible exact mem_hd)); rfl; (focus (simp; done)); (repeat (with_reducible exact Upd.hd)); rfl; exact sz80; rfl; clear hS; intro w hS; (try simp only [setFrom, q2, q3] at hS); (try simp only [Act.put, q1, q2, q3])))
    refine bodyPost_ret (results_cell_tmp rfl rfl rfl (hS.loadWhole (by (repeat (with_reducible exact mem_hd))) (by kernel_rfl) (by kernel_rfl))) rfl ?_
    exact ⟨rfl, hS.sb (by (repeat (with_reducible first | exact Sb.refl | apply Sb.skip)))⟩
  · rw [if_neg hn]
    have hn2 : decide (n ≥ 0) = true := by simp; omega
    go_enter Tryz.func113, Tryz.ntmps113
    go_wp2_with (first | ((with_reducible apply arm_alloc hS); exact wanted_none; exact z80; clear hS; intro NB w hS; (try simp only [Act.put, q1, q2, q3])) | (go_at_call 133; refine (LC _ _ hS).mono ?_; clear hS; rintro e w ⟨rfl, hS⟩) | (go_at_call 121; refine (DC _ _ hS).mono ?_; clear hS; rintro e w ⟨rfl, hS⟩) | (go_at_call 98; refine (RC _ _ hS).mono ?_; clear hS; rintro e w ⟨rfl, hS⟩) | (go_at_call 100; refine (NC _ _ hS).mono ?_; clear hS; rintro e w ⟨rfl, hS⟩) | ((with_reducible apply arm_storeN hS); exact wanted_none; exact ev_tmp rfl; exact ev_tmp rfl; (repeat (with_reducible exact mem_hd)); rfl; (focus (simp; done)); (repeat (with_reducible exact Upd.hd)); rfl; exact sz80; rfl; clear hS; intro w hS; (try simp only [setFrom, q2, q3] at hS); (try simp only [Act.put, q1, q2, q3])))
    refine bodyPost_ret (results_cell_tmp rfl rfl rfl (hS.loadWhole (by (repeat (with_reducible exact mem_hd))) (by kernel_rfl) (by kernel_rfl))) rfl ?_
    exact ⟨rfl, hS.sb (by (repeat (with_reducible first | exact Sb.refl | apply Sb.skip)))⟩
theorem sign_at (l : List UInt8) (j : Nat) (x : List UInt8 × Tk) (hx : signs11[j]? = some x) (hn : ∀ i y, i < j → signs11[i]? = some y → y.1.isPrefixOf l = false) (hp : x.1.isPrefixOf l = true) : signT l = some x := by
  unfold signT
  rw [List.find?_append]
  have h1 : signs11.find? (fun s => s.1.isPrefixOf l) = some x := by
    obtain ⟨hlt, he⟩ := List.getElem?_eq_some_iff.1 hx
    rw [List.find?_eq_some_iff_getElem]
    refine ⟨hp, j, hlt, he, fun i hi => ?_⟩
    rw [hn i _ hi (List.getElem?_eq_getElem (by omega))]
    rfl
  rw [h1]
  rfl
theorem sign_none (l : List UInt8) (hn : ∀ i y, i < 11 → signs11[i]? = some y → y.1.isPrefixOf l = false) : signT l = signs10.find? fun s => s.1.isPrefixOf l := by
  unfold signT
  rw [List.find?_append]
  have h1 : signs11.find? (fun s => s.1.isPrefixOf l) = none := by
    rw [List.find?_eq_none]
    intro x hx
    obtain ⟨i, hlt, he⟩ := List.getElem_of_mem hx
    rw [hn i x hlt (by rw [List.getElem?_eq_getElem hlt, he])]
    simp
  rw [h1]
  rfl
theorem rune_case (l : List UInt8) : (∃ i s, Instr.findNow (.int .i32) (.int .i32 (rune0 l : Int)) runesE 0 = some (some (i, tokV s.2 0)) ∧ (signs10.find? fun s => s.1.isPrefixOf l) = some s ∧ Lib.runeLen (rune0 l : Int) = (s.1.length : Int) ∧ s.1.length ≤ 3) ∨
    (Instr.findNow (.int .i32) (.int .i32 (rune0 l : Int)) runesE 0 = some none ∧ (signs10.find? fun s => s.1.isPrefixOf l) = none) := by
  rw [find_runes, sign_rune]
  generalize rune0 l = r
  by_cases h1 : r = 172
  · subst h1; exact .inl ⟨0, ([194, 172], .not), rfl, rfl, by decide, by decide⟩
  by_cases h2 : r = 8743
  · subst h2; exact .inl ⟨1, ([226, 136, 167], .op 6), rfl, rfl, by decide, by decide⟩
  by_cases h3 : r = 8744
  · subst h3; exact .inl ⟨2, ([226, 136, 168], .op 7), rfl, rfl, by decide, by decide⟩
  by_cases h4 : r = 8853
  · subst h4; exact .inl ⟨3, ([226, 138, 149], .op 8), rfl, rfl, by decide, by decide⟩
  by_cases h5 : r = 8594
  · subst h5; exact .inl ⟨4, ([226, 134, 146], .op 9), rfl, rfl, by decide, by decide⟩
  by_cases h6 : r = 8596
  · subst h6; exact .inl ⟨5, ([226, 134, 148], .op 10), rfl, rfl, by decide, by decide⟩
  by_cases h7 : r = 8707
  · subst h7; exact .inl ⟨6, ([226, 136, 131], .quant 4), rfl, rfl, by decide, by decide⟩
  by_cases h8 : r = 8704
  · subst h8; exact .inl ⟨7, ([226, 136, 128], .quant 5), rfl, rfl, by decide, by decide⟩
  by_cases h9 : r = 8868
  · subst h9; exact .inl ⟨8, ([226, 138, 164], .const 1), rfl, rfl, by decide, by decide⟩
  by_cases h10 : r = 8869
  · subst h10; exact .inl ⟨9, ([226, 138, 165], .const 0), rfl, rfl, by decide, by decide⟩
  · simp [h1, h2, h3, h4, h5, h6, h7, h8, h9, h10]
end Go.Proofs.YthackanffcaejaaGreatDoor
end
section
set_option linter.unusedSimpArgs false
set_option linter.unusedVariables false
set_option maxRecDepth 20000
namespace Go.Proofs.YthackanffcaejaaGreatDoor
open Go Go.RowKit Go.SL Go.ClauseP Go.LexP

set_option maxHeartbeats 2000000 in
theorem pieceSign (text : List UInt8) (hl : text.length ≤ 1048576) (k : Nat) (c : UInt8) (hc : text[k]? = some c) (hw : letP c = false) (hg : digP c = false) (w0 w : World) (hSig : SigE w0) (Hs : List HP) (hbm : base w0 ∈ Hs) (hS : Sat w0 w Hs) :
    Calls Tryz.prog 113 #[.string ⟨text.toArray⟩, .int .i64 k] w fun e w' => e = .returned (.tuple #[tokV (match signT (text.drop k) with | some s => s.2 | none => .bad 130) 0, .int .i64 ((k + (match signT (text.drop k) with | some s => s.1.length | none => 1) : Nat))]) ∧ Sat w0 w' Hs := by
  have hlt := (List.getElem?_eq_some_iff.1 hc).1
  obtain ⟨hpk, hck⟩ := byteAt text k c hc
  obtain ⟨tk, htk⟩ : ∃ tk, tk = (match signT (text.drop k) with | some s => s.2 | none => .bad 130 : Tk) := ⟨_, rfl⟩
  obtain ⟨n, hn⟩ : ∃ n, n = (match signT (text.drop k) with | some s => s.1.length | none => 1 : Nat) := ⟨_, rfl⟩
  rw [← htk, ← hn]
  have HT : Hid (∀ s, signT (text.drop k) = some s → tk = s.2 ∧ n = s.1.length) := hid fun s h => by rw [htk, hn, h]; exact ⟨rfl, rfl⟩
  have HU : Hid (signT (text.drop k) = none → tk = .bad 130 ∧ n = 1) := hid fun h => by rw [htk, hn, h]; exact ⟨rfl, rfl⟩
  clear htk hn
  have LC := letterC c w0
  have DC := digitC c w0
  rw [hw] at LC
  rw [hg] at DC
  have hex : (⟨text.toArray⟩ : ByteArray).extract k text.length = ⟨(text.drop k).toArray⟩ := by
    apply ByteArray.ext
    simp only [ByteArray.data_extract, List.extract_toArray, List.extract_eq_take_drop]
    rw [List.take_of_length_le (by rw [List.length_drop]; omega)]
  have HEX := hid hex
  have hkl : (k : Int) ≤ (text.length : Int) := by omega
  have PC := fun (x : List UInt8) w => Tryz.strings_HasPrefix ((⟨text.toArray⟩ : ByteArray).extract k text.length) ⟨x.toArray⟩ w
  simp only [show ∀ x : List UInt8, Lib.hasPrefix ((⟨text.toArray⟩ : ByteArray).extract k text.length).data.toList (⟨x.toArray⟩ : ByteArray).data.toList = x.isPrefixOf (text.drop k) from fun x => by rw [hex]; rfl] at PC
  obtain ⟨ad, cap, hcell, hR, hsp⟩ := hSig
  have NNA := hS.rdAd hbm hR (by decide)
  clear hex hc hw hg
  go_enter Tryz.func113, Tryz.ntmps113
  (have tok_B4 : True := trivial; go_wp2_with (first | (have tokk := tok_B4; (clear tokk tok_B4); ((with_reducible apply arm_alloc hS); exact wanted_none; exact z80; clear hS; intro B4 w hS; (try simp only [Act.put, q1, q2, q3]))) | (go_at_call 133; refine (LC _ _ hS).mono ?_; clear hS; rintro e w ⟨rfl, hS⟩) | (go_at_call 121; refine (DC _ _ hS).mono ?_; clear hS; rintro e w ⟨rfl, hS⟩) | ((with_reducible apply arm_load_base hS); exact wanted_none; rfl; (((repeat (with_reducible apply mem_tl))); (try assumption)); assumption; decide +kernel; (try simp only [Act.put, q1, q2, q3]))))
  go_loopw [51] (fun i wr => ∃ j : Nat, i = .int .i64 j ∧ j ≤ 11 ∧ Hid (∀ i y, i < j → signs11[i]? = some y → y.1.isPrefixOf (text.drop k) = false) ∧ Sat w0 wr (blk B4 80 [.int .i64 0, .int .i64 0, .int .i64 0, .int .i64 0] :: Hs)) (fun i _ => 11 - (intOf i).toNat)
  case atStart => exact ⟨0, rfl, by omega, hid (fun i y h => by omega), hS⟩
  case round =>
    clear hS
    obtain ⟨j, rfl, hj, HN, hS⟩ := hrel
    by_cases hlj : j < 11
    · obtain ⟨x, hx⟩ : ∃ x, signs11[j]? = some x := ⟨_, List.getElem?_eq_getElem hlj⟩
      have hV := sgV_at signs11 j x hx
      obtain ⟨x1, x2, x3⟩ := signs_plain x (List.mem_of_getElem? hx)
      have P1 := PC x.1
      cases hp : x.1.isPrefixOf (text.drop k) with
      | true =>
        rw [hp] at P1
        obtain ⟨rfl, rfl⟩ := HT.out x (sign_at _ j x hx HN.out hp)
        have HX := hid x1
        clear HN hp hx x1 HT HU
        (have tok_B5 : True := trivial; go_wp2_with (first | (have tokk := tok_B5; (clear tokk tok_B5); ((with_reducible apply arm_alloc hS); exact wanted_none; exact z206; clear hS; intro B5 w hS; (try simp only [Act.put, q1, q2, q3]))) | ((with_reducible apply arm_indexAddr); exact wanted_none; exact ev_tmp rfl; exact ev_tmp rfl; exact E205; (omega); (omega); (assumption); (simp only [Int.toNat_natCast, Nat.mul_one, Nat.zero_add, tn_sub, tn_sub1, tn_sub2, tn_sub3, tn_add, tn_add1, tn_add2]; rfl); (try simp only [Act.put, q1, q2, q3])) | ((with_reducible apply arm_loadRN hS); exact wanted_none; exact ev_tmp rfl; assumption; (((repeat (with_reducible apply mem_tl))); (try assumption)); assumption; rfl; exact sz206; decide +kernel; decide; (try simp only [Act.put, q1, q2, q3])) | ((with_reducible apply arm_storeN hS); exact wanted_none; exact ev_tmp rfl; exact ev_tmp rfl; (repeat (with_reducible exact mem_hd)); rfl; (focus (simp; done)); (repeat (with_reducible exact Upd.hd)); rfl; exact sz206; rfl; clear hS; intro w hS; (try simp only [setFrom, q2, q3] at hS); (try simp only [Act.put, q1, q2, q3]))))
        go_wp2_with (first | ((with_reducible apply Cont.intro); (focus (apply Or.inr; apply (Sat.sb hS); (repeat (with_reducible exact Sb.refl)); done)); intro hR hC) | ((first | ((with_reducible apply draw_pure (i := 0)); (simp only [q4, q6, q5]; with_reducible rfl); kernel_rfl; kernel_rfl; decide +kernel; rfl; exact hC; exact (fun _ _ _ h => h); exact hR; with_reducible exact wanted_none) | ((with_reducible apply draw_pure (i := 1)); (simp only [q4, q6, q5]; with_reducible rfl); kernel_rfl; kernel_rfl; decide +kernel; rfl; exact hC; exact (fun _ _ _ h => h); exact hR; with_reducible exact wanted_none) | ((with_reducible apply draw_pure (i := 2)); (simp only [q4, q6, q5]; with_reducible rfl); kernel_rfl; kernel_rfl; decide +kernel; rfl; exact hC; exact (fun _ _ _ h => h); exact hR; with_reducible exact wanted_none)); (intro w; first | (go_simp; done) | (go_simp; rw [wrapI (by omega) (by omega)]) | (go_simp; with_reducible rfl) | (go_simp; rfl)); (clear hR hC; intro hR hC); (try simp only [Act.put, q1, q2, q3])) | (((with_reducible apply draw_pure (i := 3)); (simp only [q4, q6, q5]; with_reducible rfl); kernel_rfl; kernel_rfl; decide +kernel; rfl; exact hC; exact (fun _ _ _ h => h); exact hR; with_reducible exact wanted_none); (intro w; first | (exact draw_fa rfl (by (exact ev_const)) (by assumption) (by with_reducible exact fo80_0)) | (go_simp; done) | (go_simp; rw [wrapI (by omega) (by omega)]) | (go_simp; with_reducible rfl) | (go_simp; rfl)); (clear hR hC; intro hR hC); (try simp only [Act.put, q1, q2, q3])) | (((with_reducible apply draw_read (i := 4)); (simp only [q4, q6, q5]; with_reducible rfl); kernel_rfl; kernel_rfl; decide +kernel; kernel_rfl; rfl; exact hC; exact (fun _ _ _ h => h); exact hR; kernel_rfl; with_reducible exact wanted_none); (intro w hS; (apply run_op_load rfl (by (exact ev_tmp rfl))); first | exact run_loadVar1 (by decide +kernel) (hS.cell (by (repeat (with_reducible exact mem_hd))) rfl) | exact run_loadVar1 (by decide +kernel) ((hS.ownCell (by (repeat (with_reducible apply mem_tl))) (by (rfl))).1) | exact run_loadVar1 (by decide +kernel) (Sat.rdCell2 (by assumption) hS (by ((repeat (with_reducible apply mem_tl))); try assumption) (by (rfl))) | exact run_loadVar1 (by decide +kernel) (hS.baseCell (by ((repeat (with_reducible apply mem_tl))); try assumption) (by assumption)) | exact run_loadVar1 (by decide +kernel) (fzC (by assumption) hS (by ((repeat (with_reducible apply mem_tl))); try assumption)) | exact run_loadRN hS (by assumption) (by ((repeat (with_reducible apply mem_tl))); try assumption) (by assumption) (by rfl) (by with_reducible exact sz80) (by decide +kernel) (by decide) | exact hS.loadWhole (by (repeat (with_reducible apply mem_tl))) (by kernel_rfl) (by kernel_rfl)); (clear hR hC; intro hR hC); (try simp only [Act.put, q1, q2, q3])) | ((with_reducible apply draw_act (i := 5)); (simp only [q4, q6, q5]; with_reducible rfl); decide +kernel; exact hC; clear hR hC) | ((with_reducible apply draw_done); decide +kernel; clear hR hC) | (refine draw_sat 14 6 hS (by kernel_rfl) [] rfl ?_; clear hS; intro w hS hR hC) | (go_at_call 136; refine (P1 _).mono ?_; rintro e w' ⟨rfl, rfl⟩))
        go_wp2_with (first | ((with_reducible apply Cont.intro); (focus (apply Or.inr; apply (Sat.sb hS); (repeat (first | with_reducible exact Sb.refl | (with_reducible refine Sb.take (by (repeat (with_reducible first | exact Rem.hd | apply Rem.tl)); done) ?_) | with_reducible apply Sb.skip)); done)); intro hR hC) | ((first | ((with_reducible apply draw_pure (i := 0)); (simp only [q4, q6, q5]; with_reducible rfl); kernel_rfl; kernel_rfl; decide +kernel; rfl; exact hC; exact (fun _ _ _ h => h); exact hR; with_reducible exact wanted_none) | ((with_reducible apply draw_pure (i := 4)); (simp only [q4, q6, q5]; with_reducible rfl); kernel_rfl; kernel_rfl; decide +kernel; rfl; exact hC; exact (fun _ _ _ h => h); exact hR; with_reducible exact wanted_none)); (intro w; first | (exact draw_fa rfl (by (exact ev_const)) (by assumption) (by with_reducible exact fo80_0)) | (go_simp; done) | (go_simp; rw [wrapI (by omega) (by omega)]) | (go_simp; with_reducible rfl) | (go_simp; rfl)); (clear hR hC; intro hR hC); (try simp only [Act.put, q1, q2, q3])) | ((first | ((with_reducible apply draw_pure (i := 2)); (simp only [q4, q6, q5]; with_reducible rfl); kernel_rfl; kernel_rfl; decide +kernel; rfl; exact hC; exact (fun _ _ _ h => h); exact hR; with_reducible exact wanted_none) | ((with_reducible apply draw_pure (i := 3)); (simp only [q4, q6, q5]; with_reducible rfl); kernel_rfl; kernel_rfl; decide +kernel; rfl; exact hC; exact (fun _ _ _ h => h); exact hR; with_reducible exact wanted_none) | ((with_reducible apply draw_pure (i := 6)); (simp only [q4, q6, q5]; with_reducible rfl); kernel_rfl; kernel_rfl; decide +kernel; rfl; exact hC; exact (fun _ _ _ h => h); exact hR; with_reducible exact wanted_none) | ((with_reducible apply draw_pure (i := 9)); (simp only [q4, q6, q5]; with_reducible rfl); kernel_rfl; kernel_rfl; decide +kernel; rfl; exact hC; exact (fun _ _ _ h => h); exact hR; with_reducible exact wanted_none)); (intro w; first | (go_simp; done) | (go_simp; rw [wrapI (by omega) (by omega)]) | (go_simp; with_reducible rfl) | (go_simp; rfl)); (clear hR hC; intro hR hC); (try simp only [Act.put, q1, q2, q3])) | (((with_reducible apply draw_pure (i := 7)); (simp only [q4, q6, q5]; with_reducible rfl); kernel_rfl; kernel_rfl; decide +kernel; rfl; exact hC; exact (fun _ _ _ h => h); exact hR; with_reducible exact wanted_none); (intro w; first | (exact run_op_addStr rfl (by (exact ev_const)) (by (exact ev_const)) (by (omega))) | (go_simp; done) | (go_simp; rw [wrapI (by omega) (by omega)]) | (go_simp; with_reducible rfl) | (go_simp; rfl)); (clear hR hC; intro hR hC); (try simp only [Act.put, q1, q2, q3])) | ((first | ((with_reducible apply draw_read (i := 1)); (simp only [q4, q6, q5]; with_reducible rfl); kernel_rfl; kernel_rfl; decide +kernel; kernel_rfl; rfl; exact hC; exact (fun _ _ _ h => h); exact hR; kernel_rfl; with_reducible exact wanted_none) | ((with_reducible apply draw_read (i := 5)); (simp only [q4, q6, q5]; with_reducible rfl); kernel_rfl; kernel_rfl; decide +kernel; kernel_rfl; rfl; exact hC; exact (fun _ _ _ h => h); exact hR; kernel_rfl; with_reducible exact wanted_none)); (intro w hS; (apply run_op_load rfl (by (exact ev_tmp rfl))); first | exact run_loadVar1 (by decide +kernel) (hS.cell (by (repeat (with_reducible exact mem_hd))) rfl) | exact run_loadVar1 (by decide +kernel) ((hS.ownCell (by (repeat (with_reducible apply mem_tl))) (by (rfl))).1) | exact run_loadVar1 (by decide +kernel) (Sat.rdCell2 (by assumption) hS (by ((repeat (with_reducible apply mem_tl))); try assumption) (by (rfl))) | exact run_loadVar1 (by decide +kernel) (hS.baseCell (by ((repeat (with_reducible apply mem_tl))); try assumption) (by assumption)) | exact run_loadVar1 (by decide +kernel) (fzC (by assumption) hS (by ((repeat (with_reducible apply mem_tl))); try assumption)) | exact run_loadRN hS (by assumption) (by ((repeat (with_reducible apply mem_tl))); try assumption) (by assumption) (by rfl) (by with_reducible exact sz80) (by decide +kernel) (by decide) | exact hS.loadWhole (by (repeat (with_reducible apply mem_tl))) (by kernel_rfl) (by kernel_rfl)); (clear hR hC; intro hR hC); (try simp only [Act.put, q1, q2, q3])) | ((with_reducible apply draw_act (i := 8)); (simp only [q4, q6, q5]; with_reducible rfl); decide +kernel; exact hC; clear hR hC) | ((with_reducible apply draw_done); decide +kernel; clear hR hC) | (refine draw_rem (blk B4 80 [.int .i64 0, .int .i64 0, .int .i64 0, .int .i64 0]) 15 10 hS (by (repeat (with_reducible first | exact Rem.hd | apply Rem.tl)); done) (by kernel_rfl) [] rfl ?_; clear hS; intro w hS hR hC) | ((with_reducible apply arm_storeN hS); exact wanted_none; exact ev_tmp rfl; exact ev_tmp rfl; (repeat (with_reducible first | exact mem_hd | apply mem_tl)); rfl; (focus (simp; done)); (repeat (with_reducible first | exact Upd.hd | apply Upd.tl)); rfl; exact sz80; rfl; clear hS; intro w hS; (try simp only [setFrom, q2, q3] at hS); (try simp only [Act.put, q1, q2, q3])))
        refine bodyPost_ret (results_cell_tmp rfl rfl rfl (hS.loadWhole (b := B4) (t := 80) (by (repeat (with_reducible first | exact mem_hd | apply mem_tl))) (by kernel_rfl) (by kernel_rfl))) rfl ?_
        refine ⟨?_, hS.sb (by (repeat (with_reducible first | exact Sb.refl | apply Sb.skip)))⟩
        unfold tokV
        rw [HX.out]
        rfl
      | false =>
        rw [hp] at P1
        have HN2 : Hid (∀ i y, i < j + 1 → signs11[i]? = some y → y.1.isPrefixOf (text.drop k) = false) := hid fun i y h h2 => by
          by_cases hij : i < j
          · exact HN.out i y hij h2
          · obtain rfl : i = j := by omega
            rw [hx] at h2
            cases h2
            exact hp
        clear HN hp hx x1
        (have tok_B5 : True := trivial; go_wp2_with (first | (have tokk := tok_B5; (clear tokk tok_B5); ((with_reducible apply arm_alloc hS); exact wanted_none; exact z206; clear hS; intro B5 w hS; (try simp only [Act.put, q1, q2, q3]))) | ((with_reducible apply arm_indexAddr); exact wanted_none; exact ev_tmp rfl; exact ev_tmp rfl; exact E205; (omega); (omega); (assumption); (simp only [Int.toNat_natCast, Nat.mul_one, Nat.zero_add, tn_sub, tn_sub1, tn_sub2, tn_sub3, tn_add, tn_add1, tn_add2]; rfl); (try simp only [Act.put, q1, q2, q3])) | ((with_reducible apply arm_loadRN hS); exact wanted_none; exact ev_tmp rfl; assumption; (((repeat (with_reducible apply mem_tl))); (try assumption)); assumption; rfl; exact sz206; decide +kernel; decide; (try simp only [Act.put, q1, q2, q3])) | ((with_reducible apply arm_storeN hS); exact wanted_none; exact ev_tmp rfl; exact ev_tmp rfl; (repeat (with_reducible exact mem_hd)); rfl; (focus (simp; done)); (repeat (with_reducible exact Upd.hd)); rfl; exact sz206; rfl; clear hS; intro w hS; (try simp only [setFrom, q2, q3] at hS); (try simp only [Act.put, q1, q2, q3]))))
        go_wp2_with (first | ((with_reducible apply Cont.intro); (focus (apply Or.inr; apply (Sat.sb hS); (repeat (with_reducible exact Sb.refl)); done)); intro hR hC) | ((first | ((with_reducible apply draw_pure (i := 0)); (simp only [q4, q6, q5]; with_reducible rfl); kernel_rfl; kernel_rfl; decide +kernel; rfl; exact hC; exact (fun _ _ _ h => h); exact hR; with_reducible exact wanted_none) | ((with_reducible apply draw_pure (i := 1)); (simp only [q4, q6, q5]; with_reducible rfl); kernel_rfl; kernel_rfl; decide +kernel; rfl; exact hC; exact (fun _ _ _ h => h); exact hR; with_reducible exact wanted_none) | ((with_reducible apply draw_pure (i := 2)); (simp only [q4, q6, q5]; with_reducible rfl); kernel_rfl; kernel_rfl; decide +kernel; rfl; exact hC; exact (fun _ _ _ h => h); exact hR; with_reducible exact wanted_none)); (intro w; first | (go_simp; done) | (go_simp; rw [wrapI (by omega) (by omega)]) | (go_simp; with_reducible rfl) | (go_simp; rfl)); (clear hR hC; intro hR hC); (try simp only [Act.put, q1, q2, q3])) | (((with_reducible apply draw_pure (i := 3)); (simp only [q4, q6, q5]; with_reducible rfl); kernel_rfl; kernel_rfl; decide +kernel; rfl; exact hC; exact (fun _ _ _ h => h); exact hR; with_reducible exact wanted_none); (intro w; first | (exact draw_fa rfl (by (exact ev_const)) (by assumption) (by with_reducible exact fo80_0)) | (go_simp; done) | (go_simp; rw [wrapI (by omega) (by omega)]) | (go_simp; with_reducible rfl) | (go_simp; rfl)); (clear hR hC; intro hR hC); (try simp only [Act.put, q1, q2, q3])) | (((with_reducible apply draw_read (i := 4)); (simp only [q4, q6, q5]; with_reducible rfl); kernel_rfl; kernel_rfl; decide +kernel; kernel_rfl; rfl; exact hC; exact (fun _ _ _ h => h); exact hR; kernel_rfl; with_reducible exact wanted_none); (intro w hS; (apply run_op_load rfl (by (exact ev_tmp rfl))); first | exact run_loadVar1 (by decide +kernel) (hS.cell (by (repeat (with_reducible exact mem_hd))) rfl) | exact run_loadVar1 (by decide +kernel) ((hS.ownCell (by (repeat (with_reducible apply mem_tl))) (by (rfl))).1) | exact run_loadVar1 (by decide +kernel) (Sat.rdCell2 (by assumption) hS (by ((repeat (with_reducible apply mem_tl))); try assumption) (by (rfl))) | exact run_loadVar1 (by decide +kernel) (hS.baseCell (by ((repeat (with_reducible apply mem_tl))); try assumption) (by assumption)) | exact run_loadVar1 (by decide +kernel) (fzC (by assumption) hS (by ((repeat (with_reducible apply mem_tl))); try assumption)) | exact run_loadRN hS (by assumption) (by ((repeat (with_reducible apply mem_tl))); try assumption) (by assumption) (by rfl) (by with_reducible exact sz80) (by decide +kernel) (by decide) | exact hS.loadWhole (by (repeat (with_reducible apply mem_tl))) (by kernel_rfl) (by kernel_rfl)); (clear hR hC; intro hR hC); (try simp only [Act.put, q1, q2, q3])) | ((with_reducible apply draw_act (i := 5)); (simp only [q4, q6, q5]; with_reducible rfl); decide +kernel; exact hC; clear hR hC) | ((with_reducible apply draw_done); decide +kernel; clear hR hC) | (refine draw_sat 14 6 hS (by kernel_rfl) [] rfl ?_; clear hS; intro w hS hR hC) | (go_at_call 136; refine (P1 _).mono ?_; rintro e w' ⟨rfl, rfl⟩))
        go_roundw
        case rel => exact ⟨j + 1, by go_num, by omega, HN2, hS.sb (by (repeat (first | with_reducible exact Sb.refl | (with_reducible refine Sb.take (by (repeat (with_reducible first | exact Rem.hd | apply Rem.tl)); done) ?_) | with_reducible apply Sb.skip)))⟩
        case measure => simp [intOf]; omega
    · obtain rfl : j = 11 := by omega
      have hsn := sign_none _ HN.out
      have RC := runesC w0
      have hd0 : (Utf8.decode ((⟨text.toArray⟩ : ByteArray).extract k text.length) 0).1 = rune0 (text.drop k) := by rw [HEX.out]; rfl
      have hpos : 0 < ((⟨text.toArray⟩ : ByteArray).extract k text.length).size := by rw [HEX.out, size_l, List.length_drop]; omega
      rcases rune_case (text.drop k) with ⟨i, s, f1, f2, f3, f4⟩ | ⟨f1, f2⟩
      · rw [← hsn] at f2
        obtain ⟨rfl, rfl⟩ := HT.out s f2
        have RL := fun w => Tryz.utf8_RuneLen (rune0 (text.drop k) : Int) w
        simp only [f3] at RL
        rw [← hd0] at f1
        simp only [← hd0] at RL
        have HF := hid f1
        clear f1 f2 f3 hsn HN HT HU hd0
        go_wp2_with ((with_reducible apply arm_range hS); exact wanted_none; exact ev_tmp rfl; exact Tryz.underlying9; clear hS; intro B7 w hS; (try simp only [Act.put, q1, q2, q3]))
        go_loopw [13] (fun i wr => Sat w0 wr (pt B7 (.stringIter ((⟨text.toArray⟩ : ByteArray).extract k text.length) 0) :: blk B4 80 [.int .i64 0, .int .i64 0, .int .i64 0, .int .i64 0] :: Hs)) (fun _ _ => 0)
        case atStart => exact hS
        case round =>
        clear hS
        have hS := hrel
        clear hrel
        (have tok_B5 : True := trivial; go_wp2_with (first | (have tokk := tok_B5; (clear tokk tok_B5); ((with_reducible apply arm_alloc hS); exact wanted_none; exact z80; clear hS; intro B5 w hS; (try simp only [Act.put, q1, q2, q3]))) | ((with_reducible apply arm_next hS); exact wanted_none; exact ev_tmp rfl; (repeat (with_reducible exact mem_hd)); (assumption); (repeat (with_reducible exact Upd.hd)); clear hS; intro w hS; (try simp only [Act.put, q1, q2, q3])) | (go_at_call 137; refine (RC _ _ hS).mono ?_; clear hS; rintro e w ⟨mb, rfl, hS⟩) | ((with_reducible apply arm_lookupC hS); (case hw => (with_reducible exact wanted_none)); (case hm => (exact ev_tmp rfl)); (case hx => (exact ev_tmp rfl)); (case K0 => exact KR); (case hmem => (((repeat (with_reducible exact mem_hd))); (try assumption))); (case hf => exact HF.out); (case hz => exact zeroTok); (case hv => (simp only [if_true, if_false, Bool.false_eq_true, Option.map_some, Option.map_none, Option.getD_some, Option.getD_none, Option.isSome_some, Option.isSome_none]; rfl)); (try simp only [Act.put, q1, q2, q3])) | ((with_reducible apply arm_storeN hS); exact wanted_none; exact ev_tmp rfl; exact ev_tmp rfl; (repeat (with_reducible exact mem_hd)); rfl; (focus (simp; done)); (repeat (with_reducible exact Upd.hd)); rfl; exact sz80; rfl; clear hS; intro w hS; (try simp only [setFrom, q2, q3] at hS); (try simp only [Act.put, q1, q2, q3]))))
        go_wp2_with (first | ((with_reducible apply Cont.intro); (focus (apply Or.inr; apply (Sat.sb hS); (repeat (first | with_reducible exact Sb.refl | (with_reducible refine Sb.take (by (repeat (with_reducible first | exact Rem.hd | apply Rem.tl)); done) ?_) | with_reducible apply Sb.skip)); done)); intro hR hC) | ((first | ((with_reducible apply draw_pure (i := 1)); (simp only [q4, q6, q5]; with_reducible rfl); kernel_rfl; kernel_rfl; decide +kernel; rfl; exact hC; exact (fun _ _ _ h => h); exact hR; with_reducible exact wanted_none) | ((with_reducible apply draw_pure (i := 2)); (simp only [q4, q6, q5]; with_reducible rfl); kernel_rfl; kernel_rfl; decide +kernel; rfl; exact hC; exact (fun _ _ _ h => h); exact hR; with_reducible exact wanted_none) | ((with_reducible apply draw_pure (i := 6)); (simp only [q4, q6, q5]; with_reducible rfl); kernel_rfl; kernel_rfl; decide +kernel; rfl; exact hC; exact (fun _ _ _ h => h); exact hR; with_reducible exact wanted_none)); (intro w; first | (go_simp; done) | (go_simp; rw [wrapI (by omega) (by omega)]) | (go_simp; with_reducible rfl) | (go_simp; rfl)); (clear hR hC; intro hR hC); (try simp only [Act.put, q1, q2, q3])) | (((with_reducible apply draw_pure (i := 4)); (simp only [q4, q6, q5]; with_reducible rfl); kernel_rfl; kernel_rfl; decide +kernel; rfl; exact hC; exact (fun _ _ _ h => h); exact hR; with_reducible exact wanted_none); (intro w; first | (exact run_op_addStr rfl (by (exact ev_const)) (by (exact ev_const)) (by (omega))) | (go_simp; done) | (go_simp; rw [wrapI (by omega) (by omega)]) | (go_simp; with_reducible rfl) | (go_simp; rfl)); (clear hR hC; intro hR hC); (try simp only [Act.put, q1, q2, q3])) | (((with_reducible apply draw_read (i := 0)); (simp only [q4, q6, q5]; with_reducible rfl); kernel_rfl; kernel_rfl; decide +kernel; kernel_rfl; rfl; exact hC; exact (fun _ _ _ h => h); exact hR; kernel_rfl; with_reducible exact wanted_none); (intro w hS; (apply run_op_load rfl (by (exact ev_tmp rfl))); first | exact run_loadVar1 (by decide +kernel) (hS.cell (by (repeat (with_reducible apply mem_tl))) rfl) | exact run_loadVar1 (by decide +kernel) ((hS.ownCell (by (repeat (with_reducible apply mem_tl))) (by (rfl))).1) | exact run_loadVar1 (by decide +kernel) (Sat.rdCell2 (by assumption) hS (by ((repeat (with_reducible apply mem_tl))); try assumption) (by (rfl))) | exact run_loadVar1 (by decide +kernel) (hS.baseCell (by ((repeat (with_reducible apply mem_tl))); try assumption) (by assumption)) | exact run_loadVar1 (by decide +kernel) (fzC (by assumption) hS (by ((repeat (with_reducible apply mem_tl))); try assumption)) | exact run_loadRN hS (by assumption) (by ((repeat (with_reducible apply mem_tl))); try assumption) (by assumption) (by rfl) (by with_reducible exact sz80) (by decide +kernel) (by decide) | exact hS.loadWhole (by (repeat (with_reducible exact mem_hd))) (by kernel_rfl) (by kernel_rfl)); (clear hR hC; intro hR hC); (try simp only [Act.put, q1, q2, q3])) | ((with_reducible apply draw_act (i := 3)); (simp only [q4, q6, q5]; with_reducible rfl); decide +kernel; exact hC; clear hR hC) | ((with_reducible apply draw_act (i := 5)); (simp only [q4, q6, q5]; with_reducible rfl); decide +kernel; exact hC; clear hR hC) | ((with_reducible apply draw_done); decide +kernel; clear hR hC) | (refine draw_rem (blk B4 80 [.int .i64 0, .int .i64 0, .int .i64 0, .int .i64 0]) 22 7 hS (by (repeat (with_reducible first | exact Rem.hd | apply Rem.tl)); done) (by kernel_rfl) [5] rfl ?_; clear hS; intro w hS hR hC) | ((with_reducible apply arm_storeN hS); exact wanted_none; exact ev_tmp rfl; exact ev_tmp rfl; (repeat (with_reducible first | exact mem_hd | apply mem_tl)); rfl; (focus (simp; done)); (repeat (with_reducible first | exact Upd.hd | apply Upd.tl)); rfl; exact sz80; rfl; clear hS; intro w hS; (try simp only [setFrom, q2, q3] at hS); (try simp only [Act.put, q1, q2, q3])) | (go_at_call 138; refine (RL _).mono ?_; rintro e w' ⟨rfl, rfl⟩))
        refine bodyPost_ret (results_cell_tmp rfl rfl rfl (hS.loadWhole (b := B4) (t := 80) (by (repeat (with_reducible first | exact mem_hd | apply mem_tl))) (by kernel_rfl) (by kernel_rfl))) rfl ?_
        exact ⟨rfl, hS.sb (by (repeat (with_reducible first | exact Sb.refl | apply Sb.skip)))⟩
      · rw [← hsn] at f2
        obtain ⟨rfl, rfl⟩ := HU.out f2
        rw [← hd0] at f1
        have HF := hid f1
        clear f1 f2 hsn HN HT HU hd0
        go_wp2_with ((with_reducible apply arm_range hS); exact wanted_none; exact ev_tmp rfl; exact Tryz.underlying9; clear hS; intro B7 w hS; (try simp only [Act.put, q1, q2, q3]))
        go_loopw [13] (fun i wr => Sat w0 wr (pt B7 (.stringIter ((⟨text.toArray⟩ : ByteArray).extract k text.length) 0) :: blk B4 80 [.int .i64 0, .int .i64 0, .int .i64 0, .int .i64 0] :: Hs)) (fun _ _ => 0)
        case atStart => exact hS
        case round =>
        clear hS
        have hS := hrel
        clear hrel
        (have tok_B5 : True := trivial; go_wp2_with (first | (have tokk := tok_B5; (clear tokk tok_B5); ((with_reducible apply arm_alloc hS); exact wanted_none; exact z80; clear hS; intro B5 w hS; (try simp only [Act.put, q1, q2, q3]))) | ((with_reducible apply arm_next hS); exact wanted_none; exact ev_tmp rfl; (repeat (with_reducible exact mem_hd)); (assumption); (repeat (with_reducible exact Upd.hd)); clear hS; intro w hS; (try simp only [Act.put, q1, q2, q3])) | (go_at_call 137; refine (RC _ _ hS).mono ?_; clear hS; rintro e w ⟨mb, rfl, hS⟩) | ((with_reducible apply arm_lookupC hS); (case hw => (with_reducible exact wanted_none)); (case hm => (exact ev_tmp rfl)); (case hx => (exact ev_tmp rfl)); (case K0 => exact KR); (case hmem => (((repeat (with_reducible exact mem_hd))); (try assumption))); (case hf => exact HF.out); (case hz => exact zeroTok); (case hv => (simp only [if_true, if_false, Bool.false_eq_true, Option.map_some, Option.map_none, Option.getD_some, Option.getD_none, Option.isSome_some, Option.isSome_none]; rfl)); (try simp only [Act.put, q1, q2, q3])) | ((with_reducible apply arm_storeN hS); exact wanted_none; exact ev_tmp rfl; exact ev_tmp rfl; (repeat (with_reducible first | exact mem_hd | apply mem_tl)); rfl; (focus (simp; done)); (repeat (with_reducible first | exact Upd.hd | apply Upd.tl)); rfl; exact sz80; rfl; clear hS; intro w hS; (try simp only [setFrom, q2, q3] at hS); (try simp only [Act.put, q1, q2, q3]))))
        refine bodyPost_ret (results_cell_tmp rfl rfl rfl (hS.loadWhole (b := B4) (t := 80) (by (repeat (with_reducible first | exact mem_hd | apply mem_tl))) (by kernel_rfl) (by kernel_rfl))) rfl ?_
        exact ⟨rfl, hS.sb (by (repeat (with_reducible first | exact Sb.refl | apply Sb.skip)))⟩
end Go.Proofs.YthackanffcaejaaGreatDoor
end
