/- Clauses as text: plain Lean. -/
import Derived.Lib.ItoaLen
import Derived.Lib.ItoaMem
namespace Go.CnfP
open Go

def chk (fr : Int) : List Int → Option Int
  | [] => some fr
  | e :: es => if e < fr then none else chk e es
def okLit (v l : Int) : Bool := !(decide (l = 0) || decide (l < -v) || decide (l > v))
def formed (v : Int) (es ls : List Int) : Bool :=
  if v < 0 ∨ v > 65536 ∨ (es.length : Int) > 65536 ∨ (ls.length : Int) > 1048576 then false
  else match chk 0 es with
    | none => false
    | some fr => decide (fr = ls.length) && ls.all (okLit v)
def line (ns : List Int) : List UInt8 := ns.flatMap fun n => Lib.itoa n ++ [32]
def body (ls : List Int) (fr : Nat) : List Int → List UInt8
  | [] => []
  | e :: es => line ((ls.drop fr).take (e.toNat - fr)) ++ ([48, 10] ++ body ls e.toNat es)
def head (v : Int) (n : Nat) : List UInt8 := [112, 32, 99, 110, 102, 32] ++ Lib.itoa v ++ [32] ++ Lib.itoa n ++ [10]
def text (v : Int) (es ls : List Int) : List UInt8 := head v es.length ++ body ls 0 es
def prints (v : Int) (es ls : List Int) : List UInt8 × Int :=
  if formed v es ls then (if (text v es ls).length > 1048576 then ([], 5) else (text v es ls, 0)) else ([], 134)

theorem chk_le : ∀ (es : List Int) (fr last : Int), chk fr es = some last → fr ≤ last
  | [], fr, last, h => by simp [chk] at h; omega
  | e :: es, fr, last, h => by
    simp only [chk] at h
    split at h
    · cases h
    · have := chk_le es e last h; omega
theorem chk_cons {e fr last : Int} {es : List Int} (h : chk fr (e :: es) = some last) : fr ≤ e ∧ e ≤ last ∧ chk e es = some last := by
  simp only [chk] at h
  split at h
  · cases h
  · exact ⟨by omega, chk_le es e last h, h⟩
theorem formed_parts {v : Int} {es ls : List Int} (h : formed v es ls = true) : 0 ≤ v ∧ v ≤ 65536 ∧ es.length ≤ 65536 ∧ ls.length ≤ 1048576 ∧ chk 0 es = some (ls.length : Int) ∧ ∀ l ∈ ls, l ≠ 0 ∧ -v ≤ l ∧ l ≤ v := by
  unfold formed at h
  split at h
  · cases h
  · rename_i h0
    cases hc : chk 0 es with
    | none => simp [hc] at h
    | some fr =>
      simp only [hc, Bool.and_eq_true, decide_eq_true_eq, List.all_eq_true] at h
      refine ⟨by omega, by omega, by omega, by omega, by rw [h.1], fun l hl => ?_⟩
      have := h.2 l hl
      simp only [okLit, Bool.not_eq_true', Bool.or_eq_false_iff, decide_eq_false_iff_not] at this
      omega
theorem line_le (ns : List Int) (h : ∀ n ∈ ns, -65536 ≤ n ∧ n ≤ 65536) : (line ns).length ≤ 22 * ns.length := by
  induction ns with
  | nil => simp [line]
  | cons n ns ih =>
    have h1 := Lib.itoa_length_le n (by have := h n (by simp); omega) (by have := h n (by simp); omega)
    have h2 := ih fun m hm => h m (by simp [hm])
    simp only [line, List.flatMap_cons, List.length_append, List.length_cons, List.length_nil] at h2 ⊢
    omega
theorem body_le (ls : List Int) (hl : ∀ n ∈ ls, -65536 ≤ n ∧ n ≤ 65536) : ∀ (es : List Int) (fr last : Nat), chk fr es = some (last : Int) → (body ls fr es).length ≤ 2 * es.length + 22 * (last - fr)
  | [], fr, last, h => by simp [body]
  | e :: es, fr, last, h => by
    obtain ⟨h1, h2, h3⟩ := chk_cons h
    have he : ((e.toNat : Nat) : Int) = e := by omega
    have hb := body_le ls hl es e.toNat last (by rw [he]; exact h3)
    have hn := line_le ((ls.drop fr).take (e.toNat - fr)) fun n hn => hl n (List.mem_of_mem_drop (List.mem_of_mem_take hn))
    have ht : ((ls.drop fr).take (e.toNat - fr)).length ≤ e.toNat - fr := by rw [List.length_take]; omega
    simp only [body, List.length_append, List.length_cons, List.length_nil]
    omega
theorem text_le {v : Int} {es ls : List Int} (h : formed v es ls = true) : (text v es ls).length ≤ 30000000 := by
  obtain ⟨h1, h2, h3, h4, h5, h6⟩ := formed_parts h
  have hb := body_le ls (fun n hn => by have := h6 n hn; omega) es 0 ls.length h5
  have hv := Lib.itoa_length_le v (by omega) (by omega)
  have hn := Lib.itoa_length_le (es.length : Int) (by omega) (by omega)
  simp only [text, head, List.length_append, List.length_cons, List.length_nil]
  omega
/-- The reference's decimal. -/
theorem dec_small {n : Nat} (h : n < 10) : Lib.decDigits n = [UInt8.ofNat (48 + n)] := Lib.decDigits_one h
theorem dec_big {n : Nat} (h : ¬ n < 10) : Lib.decDigits n = Lib.decDigits (n / 10) ++ Lib.decDigits (n % 10) := by
  rw [Lib.decDigits, dif_neg h, Lib.decDigits_one (Nat.mod_lt _ (by omega))]
end Go.CnfP
