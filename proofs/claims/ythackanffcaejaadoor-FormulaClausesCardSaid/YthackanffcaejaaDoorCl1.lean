/- Small functions of the readers of clauses. -/
import Derived.Test.YthackanffcaejaaDoorIter
import Derived.Test.YthackanffcaejaaDoorDraw
set_option linter.unusedSimpArgs false
set_option linter.unusedVariables false
set_option maxRecDepth 20000
namespace Go.Proofs.YthackanffcaejaaDoor
open Go Go.RowKit Go.SL Go.LinesP

def gapP (c : UInt8) : Bool := c == 32 || c == 9 || c == 13
def wordP (c : UInt8) : Bool := !gapP c && c != 10
theorem u8_eq (c d : UInt8) (n : Int) (hn : n = (d.toNat : Int)) : ((c.toNat : Int) == n) = (c == d) := by
  subst hn
  by_cases h : c = d
  · rw [h]; rw [beq_self_eq_true, beq_self_eq_true]
  · have h2 : ¬ (c.toNat : Int) = (d.toNat : Int) := fun e => h (UInt8.toNat_inj.1 (by omega))
    rw [beq_eq_false_iff_ne.2 h, beq_eq_false_iff_ne.2 h2]
theorem gapT (c : UInt8) (w0 w : World) (Hs : List HP) (hS : Sat w0 w Hs) : Calls Tryd.prog 63 #[.int .u8 c.toNat] w fun e w' => e = .returned (.bool (gapP c)) ∧ Sat w0 w' Hs := by
  have e1 := u8_eq c 32 32 rfl
  have e2 := u8_eq c 9 9 rfl
  have e3 := u8_eq c 13 13 rfl
  have hx : gapP c = (c == 32 || c == 9 || c == 13) := rfl
  rw [hx]
  clear hx
  cases h1 : c == 32 <;> cases h2 : c == 9 <;> cases h3 : c == 13 <;> rw [h1] at e1 <;> rw [h2] at e2 <;> rw [h3] at e3 <;> clear h1 h2 h3
  all_goals
    generalize (c.toNat : Int) = n at *
    go_enter Tryd.func63, Tryd.ntmps63
    go_wp2
    go_ret
    exact ⟨rfl, hS⟩
theorem wordT (c : UInt8) (w0 w : World) (Hs : List HP) (hS : Sat w0 w Hs) : Calls Tryd.prog 65 #[.int .u8 c.toNat] w fun e w' => e = .returned (.bool (wordP c)) ∧ Sat w0 w' Hs := by
  have G := gapT c w0
  have e1 := u8_eq c 10 10 rfl
  have hx : wordP c = (!gapP c && c != 10) := rfl
  rw [hx]
  clear hx
  cases h1 : gapP c with
  | true =>
    rw [h1] at G
    go_enter Tryd.func65, Tryd.ntmps65
    go_wp2_with (first | (go_at_call 63; refine (G _ _ hS).mono ?_; clear hS; rintro e w ⟨rfl, hS⟩))
    go_ret
    exact ⟨rfl, hS⟩
  | false =>
    rw [h1] at G
    have hb : (c != 10) = ((c.toNat : Int) != 10) := by simp only [bne, e1]
    rw [hb]
    clear e1 hb h1
    generalize (c.toNat : Int) = n at *
    go_enter Tryd.func65, Tryd.ntmps65
    go_wp2_with (first | (go_at_call 63; refine (G _ _ hS).mono ?_; clear hS; rintro e w ⟨rfl, hS⟩))
    go_ret
    exact ⟨rfl, hS⟩
/-- Where the run of bytes of that sort ends. -/
def runP (p : UInt8 → Bool) (text : List UInt8) (k : Nat) : Nat := k + ((text.drop k).takeWhile p).length
theorem runWord (text : List UInt8) (hl : text.length ≤ 4611686018427387904) (k : Nat) (hk : k ≤ text.length) (w0 w : World) (Hs : List HP) (hS : Sat w0 w Hs) :
    Calls Tryd.prog 64 #[.string ⟨text.toArray⟩, .int .i64 k, .func (.func 65) #[] #[]] w fun e w' => e = .returned (.int .i64 (runP wordP text k)) ∧ Sat w0 w' Hs := by
  obtain ⟨R, hR⟩ : ∃ R : Nat, R = runP wordP text k := ⟨_, rfl⟩
  rw [← hR]
  have HR := hid hR
  clear hR
  go_enter Tryd.func64, Tryd.ntmps64
  go_wp2
  go_loopw [1] (fun i wr => ∃ j : Nat, i = .int .i64 j ∧ j ≤ text.length ∧ Hid (R = runP wordP text j) ∧ Sat w0 wr Hs) (fun i _ => text.length - (intOf i).toNat)
  case atStart => exact ⟨k, rfl, hk, HR, hS⟩
  case round =>
    clear hS
    obtain ⟨j, rfl, hj, HJ, hS⟩ := hrel
    by_cases hlt : j < text.length
    · obtain ⟨c, hc⟩ : ∃ c, text[j]? = some c := ⟨_, List.getElem?_eq_getElem hlt⟩
      have WT := wordT c w0
      have hd : text.drop j = c :: text.drop (j + 1) := by
        rw [List.drop_eq_getElem_cons hlt]; simp [List.getElem?_eq_getElem hlt] at hc; rw [hc]
      have HD := hid hd
      clear hd
      have hcb : (⟨text.toArray⟩ : ByteArray)[j]'(by simpa [ByteArray.size] using hlt) = c := by
        have : text[j] = c := by simpa [List.getElem?_eq_getElem hlt] using hc
        simpa [ByteArray.getElem_eq_getElem_data] using this
      clear hc
      cases hp : wordP c with
      | true =>
        rw [hp] at WT
        have HP := hid hp
        clear hp
        go_wp2_with (first | (go_at_call 65; refine (WT _ _ hS).mono ?_; clear hS; rintro e w ⟨rfl, hS⟩))
        go_roundw
        case rel => exact ⟨j + 1, by go_num, by omega, hid (by rw [HJ.out, runP, runP, HD.out, List.takeWhile_cons, HP.out]; simp; omega), hS⟩
        case measure => simp [intOf]; omega
      | false =>
        rw [hp] at WT
        have HP := hid (show R = j by rw [HJ.out, runP, HD.out, List.takeWhile_cons, hp]; simp)
        clear hp
        go_wp2_with (first | (go_at_call 65; refine (WT _ _ hS).mono ?_; clear hS; rintro e w ⟨rfl, hS⟩))
        go_ret
        exact ⟨by rw [HP.out]; rfl, hS⟩
    · have hj2 : j = text.length := by omega
      subst hj2
      have HP := hid (show R = text.length by rw [HJ.out, runP, List.drop_length]; simp)
      go_wp2
      go_ret
      exact ⟨by rw [HP.out]; rfl, hS⟩
end Go.Proofs.YthackanffcaejaaDoor
