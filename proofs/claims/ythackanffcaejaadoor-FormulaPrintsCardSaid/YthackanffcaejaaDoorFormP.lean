/- Formulas as lists and as trees, and a tree's text: plain Lean. -/
import Derived.Test.YthackanffcaejaaDoorForm5
set_option linter.unusedSimpArgs false
set_option linter.unusedVariables false
set_option linter.unusedSectionVars false
namespace Go.Proofs.YthackanffcaejaaDoor
open Go Go.RowKit Go.SL

/-! ### A list as a tree -/
def arityP (op n : Int) : Int :=
  if op = 1 ∧ (n = 0 ∨ n = 1) ∨ op = 2 ∧ 0 ≤ n ∧ n < 65536 then 0
  else if op = 3 ∧ n = 0 ∨ (op = 4 ∨ op = 5) ∧ 0 ≤ n ∧ n < 65536 then 1
  else if 6 ≤ op ∧ op ≤ 10 ∧ n = 0 then 2
  else if op = 11 ∧ n = 0 then 3 else -1
/-- The top of the stack is its list's head. -/
def stepT (st : List T) (op n : Int) : Option (List T) :=
  if op = 1 ∧ (n = 0 ∨ n = 1) then some (.cst n :: st)
  else if op = 2 ∧ 0 ≤ n ∧ n < 65536 then some (.var n :: st)
  else if op = 3 ∧ n = 0 then (match st with | a :: r => some (.neg a :: r) | _ => none)
  else if (op = 4 ∨ op = 5) ∧ 0 ≤ n ∧ n < 65536 then (match st with | a :: r => some (.qu op n a :: r) | _ => none)
  else if 6 ≤ op ∧ op ≤ 10 ∧ n = 0 then (match st with | b :: a :: r => some (.bin op a b :: r) | _ => none)
  else if op = 11 ∧ n = 0 then (match st with | b :: a :: c :: r => some (.ite c a b :: r) | _ => none)
  else none
def runT (st : List T) : List (Int × Int) → Option (List T)
  | [] => some st
  | x :: xs => match stepT st x.1 x.2 with | some st' => runT st' xs | none => none
/-- The trees that a list may make. -/
def okT : T → Prop
  | .cst n => n = 0 ∨ n = 1
  | .var v => 0 ≤ v ∧ v < 65536
  | .neg a => okT a
  | .qu op v a => (op = 4 ∨ op = 5) ∧ 0 ≤ v ∧ v < 65536 ∧ okT a
  | .bin op a b => 6 ≤ op ∧ op ≤ 10 ∧ okT a ∧ okT b
  | .ite c a b => okT c ∧ okT a ∧ okT b
theorem okT.ops {t : T} (h : okT t) : opsOk t := by
  cases t <;> first | trivial | skip
  obtain ⟨h1, h2, _⟩ := h
  unfold opsOk i64; omega
/-- A tree's list. -/
def post : T → List (Int × Int)
  | .cst n => [(1, n)]
  | .var v => [(2, v)]
  | .neg a => post a ++ [(3, 0)]
  | .qu op v a => post a ++ [(op, v)]
  | .bin op a b => post a ++ post b ++ [(op, 0)]
  | .ite c a b => post c ++ post a ++ post b ++ [(11, 0)]
theorem post_len : ∀ t : T, (post t).length = size t
  | .cst _ => rfl
  | .var _ => rfl
  | .neg a => by simp [post, size, post_len a]
  | .qu _ _ a => by simp [post, size, post_len a]
  | .bin _ a b => by simp [post, size, post_len a, post_len b]; omega
  | .ite c a b => by simp [post, size, post_len a, post_len b, post_len c]; omega
theorem size_pos : ∀ t : T, 0 < size t := by intro t; cases t <;> simp [size]
/-- The list of a stack. -/
def posts : List T → List (Int × Int)
  | [] => []
  | t :: st => posts st ++ post t
theorem stepT_post {st st' : List T} {op n : Int} (h : stepT st op n = some st') : posts st' = posts st ++ [(op, n)] := by
  unfold stepT at h
  split at h
  · rename_i hc; simp at h; subst h; simp [posts, post, hc.1]
  split at h
  · rename_i hc; simp at h; subst h; simp [posts, post, hc.1]
  split at h
  · rename_i hc
    cases st <;> simp at h
    subst h; simp [posts, post, hc.1, hc.2]
  split at h
  · cases st <;> simp at h
    subst h; simp [posts, post]
  split at h
  · rename_i hc
    rcases st with _ | ⟨b, _ | ⟨a, r⟩⟩ <;> simp at h
    subst h; simp [posts, post, hc.2.2]
  split at h
  · rename_i hc
    rcases st with _ | ⟨b, _ | ⟨a, _ | ⟨c, r⟩⟩⟩ <;> simp at h
    subst h; simp [posts, post, hc.1, hc.2]
  · cases h
theorem stepT_ok {st st' : List T} {op n : Int} (h : stepT st op n = some st') (hk : ∀ t ∈ st, okT t) : ∀ t ∈ st', okT t := by
  unfold stepT at h
  split at h
  · rename_i hc; simp at h; subst h; simpa [okT] using ⟨hc.2, hk⟩
  split at h
  · rename_i hc; simp at h; subst h; simpa [okT] using ⟨hc.2, hk⟩
  split at h
  · rename_i hc
    cases st <;> simp at h
    subst h; simpa [okT] using hk
  split at h
  · rename_i hc
    cases st <;> simp at h
    subst h
    simp at hk
    simpa [okT] using ⟨⟨hc.1, hc.2.1, hc.2.2, hk.1⟩, hk.2⟩
  split at h
  · rename_i hc
    rcases st with _ | ⟨b, _ | ⟨a, r⟩⟩ <;> simp at h
    subst h
    simp at hk
    simpa [okT] using ⟨⟨hc.1, hc.2.1, hk.2.1, hk.1⟩, hk.2.2⟩
  split at h
  · rename_i hc
    rcases st with _ | ⟨b, _ | ⟨a, _ | ⟨c, r⟩⟩⟩ <;> simp at h
    subst h
    simp at hk
    simpa [okT] using ⟨⟨hk.2.2.1, hk.2.1, hk.1⟩, hk.2.2.2⟩
  · cases h
theorem runT_append : ∀ (xs ys : List (Int × Int)) (st : List T), runT st (xs ++ ys) = (runT st xs).bind fun st' => runT st' ys
  | [], ys, st => rfl
  | x :: xs, ys, st => by
    simp only [List.cons_append, runT]
    cases stepT st x.1 x.2 with
    | none => rfl
    | some st' => simpa using runT_append xs ys st'
theorem runT_post : ∀ (xs : List (Int × Int)) (st st' : List T), runT st xs = some st' → posts st' = posts st ++ xs
  | [], st, st', h => by simp [runT] at h; subst h; simp
  | x :: xs, st, st', h => by
    simp only [runT] at h
    cases hs : stepT st x.1 x.2 with
    | none => rw [hs] at h; cases h
    | some s2 =>
      rw [hs] at h
      rw [runT_post xs s2 st' h, stepT_post hs]
      simp
theorem runT_ok : ∀ (xs : List (Int × Int)) (st st' : List T), runT st xs = some st' → (∀ t ∈ st, okT t) → ∀ t ∈ st', okT t
  | [], st, st', h, hk => by simp [runT] at h; subst h; exact hk
  | x :: xs, st, st', h, hk => by
    simp only [runT] at h
    cases hs : stepT st x.1 x.2 with
    | none => rw [hs] at h; cases h
    | some s2 =>
      rw [hs] at h
      exact runT_ok xs s2 st' h (stepT_ok hs hk)
/-- The one tree of a list; and where it is not too deep. -/
def treeQ (fs : List (Int × Int)) : Option T :=
  if fs.length > 65536 then none else match runT [] fs with
    | some [t] => some t
    | _ => none
def treeP (fs : List (Int × Int)) : Option T := (treeQ fs).bind fun t => if (look t).1 > 64 then none else some t
theorem treeQ_some {fs : List (Int × Int)} {t : T} (h : treeQ fs = some t) : fs.length ≤ 65536 ∧ runT [] fs = some [t] ∧ okT t ∧ fs = post t ∧ size t ≤ 65536 := by
  unfold treeQ at h
  split at h
  · cases h
  · rename_i hl
    have hr : runT [] fs = some [t] := by
      split at h
      · rename_i u hu; simp at h; subst h; exact hu
      · cases h
    have hp := runT_post fs [] [t] hr
    simp [posts] at hp
    refine ⟨by omega, hr, runT_ok fs [] [t] hr (by simp) t (by simp), hp.symm, ?_⟩
    rw [← post_len t, hp]; omega
theorem treeP_some {fs : List (Int × Int)} {t : T} (h : treeP fs = some t) : treeQ fs = some t ∧ (look t).1 ≤ 64 := by
  unfold treeP at h
  cases hq : treeQ fs with
  | none => rw [hq] at h; cases h
  | some u =>
    rw [hq] at h
    simp only [Option.bind_some] at h
    split at h
    · cases h
    · simp at h; subst h; exact ⟨rfl, by omega⟩
def sumSz (st : List T) : Nat := (st.map size).sum
theorem posts_len : ∀ st : List T, (posts st).length = sumSz st
  | [] => rfl
  | t :: st => by simp [posts, sumSz, posts_len st, post_len t]; omega
theorem stack_le {xs : List (Int × Int)} {st : List T} (h : runT [] xs = some st) : st.length ≤ xs.length ∧ ∀ t ∈ st, size t ≤ xs.length := by
  have h1 := congrArg List.length (runT_post xs [] st h)
  simp only [posts_len, posts, List.nil_append] at h1
  rw [← h1]
  clear h h1
  induction st with
  | nil => simp [sumSz]
  | cons t st ih =>
    have := size_pos t
    simp only [sumSz, List.map_cons, List.sum_cons, List.length_cons, List.mem_cons, forall_eq_or_imp] at ih ⊢
    refine ⟨by omega, by omega, fun u hu => ?_⟩
    have := ih.2 u hu
    omega

/-! ### A tree's text -/
def spellP (op : Int) : List UInt8 :=
  if op = 6 then [32, 38, 32] else if op = 7 then [32, 124, 32] else if op = 8 then [32, 94, 32] else if op = 9 then [32, 45, 62, 32] else if op = 10 then [32, 60, 45, 62, 32]
  else if op = 4 then [101, 120, 105, 115, 116, 115, 32] else if op = 5 then [102, 111, 114, 97, 108, 108, 32] else []
def brT (t : List UInt8 × List UInt8) (br last : Bool) : List UInt8 := if br then [40] ++ t.1 ++ [41] else if last then t.1 else t.2
/-- Its text as the last, within; and behind a quantifier of that kind. -/
def W : T → (List UInt8 × List UInt8) × (Int → List UInt8)
  | .cst n => let s : List UInt8 := if n = 1 then [116, 114, 117, 101] else [102, 97, 108, 115, 101]; ((s, s), fun _ => [58, 32] ++ s)
  | .var v => let s : List UInt8 := [120] ++ Lib.itoa v; ((s, s), fun _ => [58, 32] ++ s)
  | .neg a =>
    let s (last : Bool) : List UInt8 := [33] ++ brT (W a).1 (brkP 3 0 a last) last
    ((s true, s false), fun _ => [58, 32] ++ s true)
  | .qu op v a =>
    let s : List UInt8 := spellP op ++ [120] ++ Lib.itoa v ++ (W a).2 op
    ((s, s), fun op' => if op' = op then [44, 32, 120] ++ Lib.itoa v ++ (W a).2 op' else [58, 32] ++ s)
  | .bin op a b =>
    let s (last : Bool) : List UInt8 := brT (W a).1 (brkP op 0 a false) false ++ spellP op ++ brT (W b).1 (brkP op 1 b last) last
    ((s true, s false), fun _ => [58, 32] ++ s true)
  | .ite c a b =>
    let s : List UInt8 := [105, 116, 101, 40] ++ (W c).1.1 ++ [44, 32] ++ (W a).1.1 ++ [44, 32] ++ (W b).1.1 ++ [41]
    ((s, s), fun _ => [58, 32] ++ s)
def wr (t : T) (last : Bool) : List UInt8 := if last then (W t).1.1 else (W t).1.2
def opd (op side : Int) (x : T) (last : Bool) : List UInt8 := if brkP op side x last then [40] ++ wr x true ++ [41] else wr x last
def chain (op : Int) (t : T) : List UInt8 := (W t).2 op
def isQu (op : Int) : T → Bool
  | .qu o _ _ => decide (o = op)
  | _ => false
theorem brT_eq (t : T) (br last : Bool) : brT (W t).1 br last = if br then [40] ++ wr t true ++ [41] else wr t last := by
  cases br <;> cases last <;> rfl
theorem wr_cst (n : Int) (last : Bool) : wr (.cst n) last = if n = 1 then [116, 114, 117, 101] else [102, 97, 108, 115, 101] := by cases last <;> rfl
theorem wr_var (v : Int) (last : Bool) : wr (.var v) last = [120] ++ Lib.itoa v := by cases last <;> rfl
theorem wr_neg (a : T) (last : Bool) : wr (.neg a) last = [33] ++ opd 3 0 a last := by
  cases last <;> simp only [wr, W, brT_eq, opd, if_true, if_false, Bool.false_eq_true]
theorem wr_qu (op v : Int) (a : T) (last : Bool) : wr (.qu op v a) last = spellP op ++ [120] ++ Lib.itoa v ++ chain op a := by cases last <;> rfl
theorem wr_bin (op : Int) (a b : T) (last : Bool) : wr (.bin op a b) last = opd op 0 a false ++ spellP op ++ opd op 1 b last := by
  cases last <;> simp only [wr, W, brT_eq, opd, if_true, if_false, Bool.false_eq_true]
theorem wr_ite (c a b : T) (last : Bool) : wr (.ite c a b) last = [105, 116, 101, 40] ++ wr c true ++ [44, 32] ++ wr a true ++ [44, 32] ++ wr b true ++ [41] := by cases last <;> rfl
theorem chain_same (op v : Int) (a : T) : chain op (.qu op v a) = [44, 32, 120] ++ Lib.itoa v ++ chain op a := by simp [chain, W]
theorem chain_end {op : Int} {t : T} (h : isQu op t = false) : chain op t = [58, 32] ++ wr t true := by
  cases t with
  | qu o v a =>
    simp only [isQu, decide_eq_false_iff_not] at h
    have h2 : ¬ op = o := fun e => h e.symm
    simp [chain, W, wr, h2]
  | _ => rfl
theorem wr_le : ∀ t : T, okT t → size t ≤ 1000000 → (wr t true).length ≤ 40 * size t ∧ (wr t false).length ≤ 40 * size t ∧ ∀ op, (chain op t).length ≤ 40 * size t + 2
  | .cst n, h, hs => by
    simp only [wr_cst, size, chain, W]
    split <;> simp
  | .var v, h, hs => by
    have h1 := Lib.itoa_length_le v (by have := h.1; omega) (by have := h.2; omega)
    simp only [wr_var, size, chain, W]
    simp; omega
  | .neg a, h, hs => by
    simp only [size] at hs ⊢
    obtain ⟨h1, h2, h3⟩ := wr_le a h (by omega)
    have k1 : (opd 3 0 a true).length ≤ 40 * size a + 2 := by unfold opd; split <;> (try simp only [List.length_append, List.length_cons, List.length_nil]) <;> omega
    have k2 : (opd 3 0 a false).length ≤ 40 * size a + 2 := by unfold opd; split <;> (try simp only [List.length_append, List.length_cons, List.length_nil]) <;> omega
    refine ⟨by rw [wr_neg]; simp; omega, by rw [wr_neg]; simp; omega, fun op => ?_⟩
    rw [chain_end rfl, wr_neg]; simp; omega
  | .qu op v a, h, hs => by
    simp only [size] at hs ⊢
    obtain ⟨h1, h2, h3⟩ := wr_le a h.2.2.2 (by omega)
    have k1 := Lib.itoa_length_le v (by have := h.2.1; omega) (by have := h.2.2.1; omega)
    have k2 : (spellP op).length ≤ 7 := by rcases h.1 with rfl | rfl <;> decide
    have k3 := h3 op
    refine ⟨by rw [wr_qu]; simp; omega, by rw [wr_qu]; simp; omega, fun op' => ?_⟩
    by_cases e : op' = op
    · subst e; rw [chain_same]; simp; omega
    · rw [chain_end (by simp [isQu]; exact fun x => e x.symm), wr_qu]; simp; omega
  | .bin op a b, h, hs => by
    simp only [size] at hs ⊢
    obtain ⟨h1, h2, h3⟩ := wr_le a h.2.2.1 (by omega)
    obtain ⟨g1, g2, g3⟩ := wr_le b h.2.2.2 (by omega)
    have k0 : (opd op 0 a false).length ≤ 40 * size a + 2 := by unfold opd; split <;> (try simp only [List.length_append, List.length_cons, List.length_nil]) <;> omega
    have k1 : (opd op 1 b true).length ≤ 40 * size b + 2 := by unfold opd; split <;> (try simp only [List.length_append, List.length_cons, List.length_nil]) <;> omega
    have k2 : (opd op 1 b false).length ≤ 40 * size b + 2 := by unfold opd; split <;> (try simp only [List.length_append, List.length_cons, List.length_nil]) <;> omega
    have k3 : (spellP op).length ≤ 7 := by unfold spellP; repeat' split
                                           all_goals decide
    refine ⟨by rw [wr_bin]; simp; omega, by rw [wr_bin]; simp; omega, fun op' => ?_⟩
    rw [chain_end rfl, wr_bin]; simp; omega
  | .ite c a b, h, hs => by
    simp only [size] at hs ⊢
    obtain ⟨h1, h2, h3⟩ := wr_le a h.2.1 (by omega)
    obtain ⟨g1, g2, g3⟩ := wr_le b h.2.2 (by omega)
    obtain ⟨f1, f2, f3⟩ := wr_le c h.1 (by omega)
    refine ⟨by rw [wr_ite]; simp; omega, by rw [wr_ite]; simp; omega, fun op' => ?_⟩
    rw [chain_end rfl, wr_ite]; simp; omega

/-- Print's answer. -/
def printsP (fs : List (Int × Int)) : List UInt8 × Int := match treeP fs with
  | none => ([], 134)
  | some t => if (wr t true).length > 1048576 then ([], 5) else (wr t true, 0)
def mostP (m : Int) : List (Int × Int) → Int
  | [] => m
  | x :: xs => mostP (if x.1 = 2 ∨ x.1 = 4 ∨ x.1 = 5 then max m (x.2 + 1) else m) xs
def varsP (fs : List (Int × Int)) : Int × Int := match treeP fs with
  | none => (0, 134)
  | some _ => (mostP 0 fs, 0)
end Go.Proofs.YthackanffcaejaaDoor
