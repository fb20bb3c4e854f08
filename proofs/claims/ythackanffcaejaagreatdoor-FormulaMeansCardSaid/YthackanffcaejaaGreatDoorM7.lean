/- A part of the proof: FormP Ps Rd1 Rd2 Rd3. -/
import Derived.Test.YthackanffcaejaaGreatDoorM1
import Derived.Test.YthackanffcaejaaGreatDoorM6
section
set_option linter.unusedSimpArgs false
set_option linter.unusedVariables false
set_option linter.unusedSectionVars false
namespace Go.Proofs.YthackanffcaejaaGreatDoor
open Go Go.RowKit Go.SL

/-! ### A list as a tree -/
def arityP (op n : Int) : Int :=
  if op = 1 ∧ (n = 0 ∨ n = 1) ∨ op = 2 ∧ 0 ≤ n ∧ n < 65536 then 0
  else if op = 3 ∧ n = 0 ∨ (op = 4 ∨ op = 5) ∧ 0 ≤ n ∧ n < 65536 then 1
  else if 6 ≤ op ∧ op ≤ 10 ∧ n = 0 then 2
  else if op = 11 ∧ n = 0 then 3 else -1
def stepT (st : List T) (op n : Int) : Option (List T) :=
  if op = 1 ∧ (n = 0 ∨ n = 1) then some (.cst n :: st)
  else if op = 2 ∧ 0 ≤ n ∧ n < 65536 then some (.var n :: st)
  else if op = 3 ∧ n = 0 then (match st with | a :: r => some (.neg a :: r) | _ => none)
  else if (op = 4 ∨ op = 5) ∧ 0 ≤ n ∧ n < 65536 then (match st with | a :: r => some (.qu op n a :: r) | _ => none)
  else if 6 ≤ op ∧ op ≤ 10 ∧ n = 0 then (match st with | b :: a :: r => some (.bin op a b :: r) | _ => none)
  else if op = 11 ∧ n = 0 then (match st with | b :: a :: c :: r => some (.ite c a b :: r) | _ => none)
  else none
def runT (st : List T) : List (Int × Int) → Option (List T)
  | [] => some st
  | x :: xs => match stepT st x.1 x.2 with | some st' => runT st' xs | none => none
def okT : T → Prop
  | .cst n => n = 0 ∨ n = 1
  | .var v => 0 ≤ v ∧ v < 65536
  | .neg a => okT a
  | .qu op v a => (op = 4 ∨ op = 5) ∧ 0 ≤ v ∧ v < 65536 ∧ okT a
  | .bin op a b => 6 ≤ op ∧ op ≤ 10 ∧ okT a ∧ okT b
  | .ite c a b => okT c ∧ okT a ∧ okT b
theorem okT.ops {t : T} (h : okT t) : opsOk t := by
  cases t <;> first | trivial | skip
  obtain ⟨h1, h2, _⟩ := h
  unfold opsOk i64; omega
def post : T → List (Int × Int)
  | .cst n => [(1, n)]
  | .var v => [(2, v)]
  | .neg a => post a ++ [(3, 0)]
  | .qu op v a => post a ++ [(op, v)]
  | .bin op a b => post a ++ post b ++ [(op, 0)]
  | .ite c a b => post c ++ post a ++ post b ++ [(11, 0)]
theorem post_len : ∀ t : T, (post t).length = size t
  | .cst _ => rfl
  | .var _ => rfl
  | .neg a => by simp [post, size, post_len a]
  | .qu _ _ a => by simp [post, size, post_len a]
  | .bin _ a b => by simp [post, size, post_len a, post_len b]; omega
  | .ite c a b => by simp [post, size, post_len a, post_len b, post_len c]; omega
theorem size_pos : ∀ t : T, 0 < size t := by intro t; cases t <;> simp [size]
def posts : List T → List (Int × Int)
  | [] => []
  | t :: st => posts st ++ post t
theorem stepT_post {st st' : List T} {op n : Int} (h : stepT st op n = some st') : posts st' = posts st ++ [(op, n)] := by
  unfold stepT at h
  split at h
  · rename_i hc; simp at h; subst h; simp [posts, post, hc.1]
  split at h
  · rename_i hc; simp at h; subst h; simp [posts, post, hc.1]
  split at h
  · rename_i hc
    cases st <;> simp at h
    subst h; simp [posts, post, hc.1, hc.2]
  split at h
  · cases st <;> simp at h
    subst h; simp [posts, post]
  split at h
  · rename_i hc
    rcases st with _ | ⟨b, _ | ⟨a, r⟩⟩ <;> simp at h
    subst h; simp [posts, post, hc.2.2]
  split at h
  · rename_i hc
    rcases st with _ | ⟨b, _ | ⟨a, _ | ⟨c, r⟩⟩⟩ <;> simp at h
    subst h; simp [posts, post, hc.1, hc.2]
  · cases h
theorem stepT_ok {st st' : List T} {op n : Int} (h : stepT st op n = some st') (hk : ∀ t ∈ st, okT t) : ∀ t ∈ st', okT t := by
  unfold stepT at h
  split at h
  · rename_i hc; simp at h; subst h; simpa [okT] using ⟨hc.2, hk⟩
  split at h
  · rename_i hc; simp at h; subst h; simpa [okT] using ⟨hc.2, hk⟩
  split at h
  · rename_i hc
    cases st <;> simp at h
    subst h; simpa [okT] using hk
  split at h
  · rename_i hc
    cases st <;> simp at h
    subst h
    simp at hk
    simpa [okT] using ⟨⟨hc.1, hc.2.1, hc.2.2, hk.1⟩, hk.2⟩
  split at h
  · rename_i hc
    rcases st with _ | ⟨b, _ | ⟨a, r⟩⟩ <;> simp at h
    subst h
    simp at hk
    simpa [okT] using ⟨⟨hc.1, hc.2.1, hk.2.1, hk.1⟩, hk.2.2⟩
  split at h
  · rename_i hc
    rcases st with _ | ⟨b, _ | ⟨a, _ | ⟨c, r⟩⟩⟩ <;> simp at h
    subst h
    simp at hk
    simpa [okT] using ⟨⟨hk.2.2.1, hk.2.1, hk.1⟩, hk.2.2.2⟩
  · cases h
theorem runT_append : ∀ (xs ys : List (Int × Int)) (st : List T), runT st (xs ++ ys) = (runT st xs).bind fun st' => runT st' ys
  | [], ys, st => rfl
  | x :: xs, ys, st => by
    simp only [List.cons_append, runT]
    cases stepT st x.1 x.2 with
    | none => rfl
    | some st' => simpa using runT_append xs ys st'
theorem runT_post : ∀ (xs : List (Int × Int)) (st st' : List T), runT st xs = some st' → posts st' = posts st ++ xs
  | [], st, st', h => by simp [runT] at h; subst h; simp
  | x :: xs, st, st', h => by
    simp only [runT] at h
    cases hs : stepT st x.1 x.2 with
    | none => rw [hs] at h; cases h
    | some s2 =>
      rw [hs] at h
      rw [runT_post xs s2 st' h, stepT_post hs]
      simp
theorem runT_ok : ∀ (xs : List (Int × Int)) (st st' : List T), runT st xs = some st' → (∀ t ∈ st, okT t) → ∀ t ∈ st', okT t
  | [], st, st', h, hk => by simp [runT] at h; subst h; exact hk
  | x :: xs, st, st', h, hk => by
    simp only [runT] at h
    cases hs : stepT st x.1 x.2 with
    | none => rw [hs] at h; cases h
    | some s2 =>
      rw [hs] at h
      exact runT_ok xs s2 st' h (stepT_ok hs hk)
def treeQ (fs : List (Int × Int)) : Option T :=
  if fs.length > 65536 then none else match runT [] fs with
    | some [t] => some t
    | _ => none
def treeP (fs : List (Int × Int)) : Option T := (treeQ fs).bind fun t => if (look t).1 > 64 then none else some t
theorem treeQ_some {fs : List (Int × Int)} {t : T} (h : treeQ fs = some t) : fs.length ≤ 65536 ∧ runT [] fs = some [t] ∧ okT t ∧ fs = post t ∧ size t ≤ 65536 := by
  unfold treeQ at h
  split at h
  · cases h
  · rename_i hl
    have hr : runT [] fs = some [t] := by
      split at h
      · rename_i u hu; simp at h; subst h; exact hu
      · cases h
    have hp := runT_post fs [] [t] hr
    simp [posts] at hp
    refine ⟨by omega, hr, runT_ok fs [] [t] hr (by simp) t (by simp), hp.symm, ?_⟩
    rw [← post_len t, hp]; omega
theorem treeP_some {fs : List (Int × Int)} {t : T} (h : treeP fs = some t) : treeQ fs = some t ∧ (look t).1 ≤ 64 := by
  unfold treeP at h
  cases hq : treeQ fs with
  | none => rw [hq] at h; cases h
  | some u =>
    rw [hq] at h
    simp only [Option.bind_some] at h
    split at h
    · cases h
    · simp at h; subst h; exact ⟨rfl, by omega⟩
def sumSz (st : List T) : Nat := (st.map size).sum
theorem posts_len : ∀ st : List T, (posts st).length = sumSz st
  | [] => rfl
  | t :: st => by simp [posts, sumSz, posts_len st, post_len t]; omega
theorem stack_le {xs : List (Int × Int)} {st : List T} (h : runT [] xs = some st) : st.length ≤ xs.length ∧ ∀ t ∈ st, size t ≤ xs.length := by
  have h1 := congrArg List.length (runT_post xs [] st h)
  simp only [posts_len, posts, List.nil_append] at h1
  rw [← h1]
  clear h h1
  induction st with
  | nil => simp [sumSz]
  | cons t st ih =>
    have := size_pos t
    simp only [sumSz, List.map_cons, List.sum_cons, List.length_cons, List.mem_cons, forall_eq_or_imp] at ih ⊢
    refine ⟨by omega, by omega, fun u hu => ?_⟩
    have := ih.2 u hu
    omega

/-! ### A tree's text -/
def spellP (op : Int) : List UInt8 :=
  if op = 6 then [32, 38, 32] else if op = 7 then [32, 124, 32] else if op = 8 then [32, 94, 32] else if op = 9 then [32, 45, 62, 32] else if op = 10 then [32, 60, 45, 62, 32]
  else if op = 4 then [101, 120, 105, 115, 116, 115, 32] else if op = 5 then [102, 111, 114, 97, 108, 108, 32] else []
def brT (t : List UInt8 × List UInt8) (br last : Bool) : List UInt8 := if br then [40] ++ t.1 ++ [41] else if last then t.1 else t.2
def W : T → (List UInt8 × List UInt8) × (Int → List UInt8)
  | .cst n => let s : List UInt8 := if n = 1 then [116, 114, 117, 101] else [102, 97, 108, 115, 101]; ((s, s), fun _ => [58, 32] ++ s)
  | .var v => let s : List UInt8 := [120] ++ Lib.itoa v; ((s, s), fun _ => [58, 32] ++ s)
  | .neg a =>
    let s (last : Bool) : List UInt8 := [33] ++ brT (W a).1 (brkP 3 0 a last) last
    ((s true, s false), fun _ => [58, 32] ++ s true)
  | .qu op v a =>
    let s : List UInt8 := spellP op ++ [120] ++ Lib.itoa v ++ (W a).2 op
    ((s, s), fun op' => if op' = op then [44, 32, 120] ++ Lib.itoa v ++ (W a).2 op' else [58, 32] ++ s)
  | .bin op a b =>
    let s (last : Bool) : List UInt8 := brT (W a).1 (brkP op 0 a false) false ++ spellP op ++ brT (W b).1 (brkP op 1 b last) last
    ((s true, s false), fun _ => [58, 32] ++ s true)
  | .ite c a b =>
    let s : List UInt8 := [105, 116, 101, 40] ++ (W c).1.1 ++ [44, 32] ++ (W a).1.1 ++ [44, 32] ++ (W b).1.1 ++ [41]
    ((s, s), fun _ => [58, 32] ++ s)
def wr (t : T) (last : Bool) : List UInt8 := if last then (W t).1.1 else (W t).1.2
def opd (op side : Int) (x : T) (last : Bool) : List UInt8 := if brkP op side x last then [40] ++ wr x true ++ [41] else wr x last
def chain (op : Int) (t : T) : List UInt8 := (W t).2 op
def isQu (op : Int) : T → Bool
  | .qu o _ _ => decide (o = op)
  | _ => false
theorem brT_eq (t : T) (br last : Bool) : brT (W t).1 br last = if br then [40] ++ wr t true ++ [41] else wr t last := by
  cases br <;> cases last <;> rfl
theorem wr_cst (n : Int) (last : Bool) : wr (.cst n) last = if n = 1 then [116, 114, 117, 101] else [102, 97, 108, 115, 101] := by cases last <;> rfl
theorem wr_var (v : Int) (last : Bool) : wr (.var v) last = [120] ++ Lib.itoa v := by cases last <;> rfl
theorem wr_neg (a : T) (last : Bool) : wr (.neg a) last = [33] ++ opd 3 0 a last := by
  cases last <;> simp only [wr, W, brT_eq, opd, if_true, if_false, Bool.false_eq_true]
theorem wr_qu (op v : Int) (a : T) (last : Bool) : wr (.qu op v a) last = spellP op ++ [120] ++ Lib.itoa v ++ chain op a := by cases last <;> rfl
theorem wr_bin (op : Int) (a b : T) (last : Bool) : wr (.bin op a b) last = opd op 0 a false ++ spellP op ++ opd op 1 b last := by
  cases last <;> simp only [wr, W, brT_eq, opd, if_true, if_false, Bool.false_eq_true]
theorem wr_ite (c a b : T) (last : Bool) : wr (.ite c a b) last = [105, 116, 101, 40] ++ wr c true ++ [44, 32] ++ wr a true ++ [44, 32] ++ wr b true ++ [41] := by cases last <;> rfl
theorem chain_same (op v : Int) (a : T) : chain op (.qu op v a) = [44, 32, 120] ++ Lib.itoa v ++ chain op a := by simp [chain, W]
theorem chain_end {op : Int} {t : T} (h : isQu op t = false) : chain op t = [58, 32] ++ wr t true := by
  cases t with
  | qu o v a =>
    simp only [isQu, decide_eq_false_iff_not] at h
    have h2 : ¬ op = o := fun e => h e.symm
    simp [chain, W, wr, h2]
  | _ => rfl
theorem wr_le : ∀ t : T, okT t → size t ≤ 1000000 → (wr t true).length ≤ 40 * size t ∧ (wr t false).length ≤ 40 * size t ∧ ∀ op, (chain op t).length ≤ 40 * size t + 2
  | .cst n, h, hs => by
    simp only [wr_cst, size, chain, W]
    split <;> simp
  | .var v, h, hs => by
    have h1 := Lib.itoa_length_le v (by have := h.1; omega) (by have := h.2; omega)
    simp only [wr_var, size, chain, W]
    simp; omega
  | .neg a, h, hs => by
    simp only [size] at hs ⊢
    obtain ⟨h1, h2, h3⟩ := wr_le a h (by omega)
    have k1 : (opd 3 0 a true).length ≤ 40 * size a + 2 := by unfold opd; split <;> (try simp only [List.length_append, List.length_cons, List.length_nil]) <;> omega
    have k2 : (opd 3 0 a false).length ≤ 40 * size a + 2 := by unfold opd; split <;> (try simp only [List.length_append, List.length_cons, List.length_nil]) <;> omega
    refine ⟨by rw [wr_neg]; simp; omega, by rw [wr_neg]; simp; omega, fun op => ?_⟩
    rw [chain_end rfl, wr_neg]; simp; omega
  | .qu op v a, h, hs => by
    simp only [size] at hs ⊢
    obtain ⟨h1, h2, h3⟩ := wr_le a h.2.2.2 (by omega)
    have k1 := Lib.itoa_length_le v (by have := h.2.1; omega) (by have := h.2.2.1; omega)
    have k2 : (spellP op).length ≤ 7 := by rcases h.1 with rfl | rfl <;> decide
    have k3 := h3 op
    refine ⟨by rw [wr_qu]; simp; omega, by rw [wr_qu]; simp; omega, fun op' => ?_⟩
    by_cases e : op' = op
    · subst e; rw [chain_same]; simp; omega
    · rw [chain_end (by simp [isQu]; exact fun x => e x.symm), wr_qu]; simp; omega
  | .bin op a b, h, hs => by
    simp only [size] at hs ⊢
    obtain ⟨h1, h2, h3⟩ := wr_le a h.2.2.1 (by omega)
    obtain ⟨g1, g2, g3⟩ := wr_le b h.2.2.2 (by omega)
    have k0 : (opd op 0 a false).length ≤ 40 * size a + 2 := by unfold opd; split <;> (try simp only [List.length_append, List.length_cons, List.length_nil]) <;> omega
    have k1 : (opd op 1 b true).length ≤ 40 * size b + 2 := by unfold opd; split <;> (try simp only [List.length_append, List.length_cons, List.length_nil]) <;> omega
    have k2 : (opd op 1 b false).length ≤ 40 * size b + 2 := by unfold opd; split <;> (try simp only [List.length_append, List.length_cons, List.length_nil]) <;> omega
    have k3 : (spellP op).length ≤ 7 := by unfold spellP; repeat' split
                                           all_goals decide
    refine ⟨by rw [wr_bin]; simp; omega, by rw [wr_bin]; simp; omega, fun op' => ?_⟩
    rw [chain_end rfl, wr_bin]; simp; omega
  | .ite c a b, h, hs => by
    simp only [size] at hs ⊢
    obtain ⟨h1, h2, h3⟩ := wr_le a h.2.1 (by omega)
    obtain ⟨g1, g2, g3⟩ := wr_le b h.2.2 (by omega)
    obtain ⟨f1, f2, f3⟩ := wr_le c h.1 (by omega)
    refine ⟨by rw [wr_ite]; simp; omega, by rw [wr_ite]; simp; omega, fun op' => ?_⟩
    rw [chain_end rfl, wr_ite]; simp; omega

def printsP (fs : List (Int × Int)) : List UInt8 × Int := match treeP fs with
  | none => ([], 134)
  | some t => if (wr t true).length > 1048576 then ([], 5) else (wr t true, 0)
end Go.Proofs.YthackanffcaejaaGreatDoor
end
section
set_option linter.unusedSimpArgs false
set_option linter.unusedVariables false
namespace Go.Proofs.YthackanffcaejaaGreatDoor
open Go Go.RowKit Go.SL Go.ClauseP Go.LexP

structure Ps where
  tk : Tk
  at_ : Nat
  fin : Nat
  opn : Nat
  nds : Nat
def knd (p : Ps) : Int := (tokE p.tk).1
abbrev Rp := (Int × Nat) ⊕ Ps
def advP (text : List UInt8) (p : Ps) : Rp := match (nextT text p.fin).tk with
  | .bad e => .inl (e, (nextT text p.fin).at_)
  | t => .inr ⟨t, (nextT text p.fin).at_, (nextT text p.fin).fin, p.opn, p.nds⟩
def opensP (p : Ps) : Rp := if p.opn = 64 then .inl (132, p.at_) else .inr { p with opn := p.opn + 1 }
def makesP (p : Ps) : Rp := if p.nds = 65536 then .inl (8, p.at_) else .inr { p with nds := p.nds + 1 }
def needP (text : List UInt8) (k : Int) (p : Ps) : Rp := if knd p = k then advP text p else .inl (131, p.at_)
def thenP (r : Rp) (f : Ps → Rp) : Rp := match r with
  | .inl e => .inl e
  | .inr p => f p
def impT : List T → T
  | [] => .cst 0
  | x :: rest => rest.foldl (fun acc y => .bin 9 y acc) x
def kOf : Nat → Int
  | 1 => 8
  | 3 => 5
  | 4 => 6
  | 5 => 4
  | _ => 7
def oOf : Nat → Int
  | 1 => 10
  | 3 => 7
  | 4 => 8
  | 5 => 6
  | _ => 9
inductive Tsk
  | lvl (b : Nat)
  | loop (b : Nat) (x : T)
  | imps (xs : List T)
abbrev Rt := (Int × Nat) ⊕ (T × Ps)
inductive Vars (text : List UInt8) : Ps → List Int → (Int × Nat) ⊕ (List Int × Ps) → Prop
  | adv {p vs e} : advP text p = .inl e → Vars text p vs (.inl e)
  | tok {p vs q} : advP text p = .inr q → (∀ n, q.tk ≠ .var n) → Vars text p vs (.inl (131, q.at_))
  | open_ {p vs q n e} : advP text p = .inr q → q.tk = .var n → thenP (thenP (opensP q) makesP) (advP text) = .inl e → Vars text p vs (.inl e)
  | more {p vs q n q' r} : advP text p = .inr q → q.tk = .var n → thenP (thenP (opensP q) makesP) (advP text) = .inr q' → q'.tk = .comma → Vars text q' (vs ++ [n]) r → Vars text p vs r
  | done {p vs q n q'} : advP text p = .inr q → q.tk = .var n → thenP (thenP (opensP q) makesP) (advP text) = .inr q' → q'.tk ≠ .comma → Vars text p vs (match needP text 12 q' with | .inl e => .inl e | .inr q'' => .inr (vs ++ [n], q''))
def quT (op : Int) (vs : List Int) (x : T) : T := vs.foldr (fun v a => .qu op v a) x
inductive RD (text : List UInt8) : Tsk → Ps → Rt → Prop
  | lvlE {b p e} : b = 1 ∨ b = 3 ∨ b = 4 ∨ b = 5 → RD text (.lvl (b + 1)) p (.inl e) → RD text (.lvl b) p (.inl e)
  | lvlK {b p x q r} : b = 1 ∨ b = 3 ∨ b = 4 ∨ b = 5 → RD text (.lvl (b + 1)) p (.inr (x, q)) → RD text (.loop b x) q r → RD text (.lvl b) p r
  | loopN {b x q} : knd q ≠ kOf b → RD text (.loop b x) q (.inr (x, q))
  | loopA {b x q e} : knd q = kOf b → thenP (makesP q) (advP text) = .inl e → RD text (.loop b x) q (.inl e)
  | loopE {b x q q' e} : knd q = kOf b → thenP (makesP q) (advP text) = .inr q' → RD text (.lvl (b + 1)) q' (.inl e) → RD text (.loop b x) q (.inl e)
  | loopK {b x q q' y q'' r} : knd q = kOf b → thenP (makesP q) (advP text) = .inr q' → RD text (.lvl (b + 1)) q' (.inr (y, q'')) → RD text (.loop b (.bin (oOf b) x y)) q'' r → RD text (.loop b x) q r
  | impE {p e} : RD text (.lvl 3) p (.inl e) → RD text (.lvl 2) p (.inl e)
  | impK {p x q r} : RD text (.lvl 3) p (.inr (x, q)) → RD text (.imps [x]) q r → RD text (.lvl 2) p r
  | impsN {xs q} : knd q ≠ 7 → RD text (.imps xs) q (.inr (impT xs, q))
  | impsA {xs q e} : knd q = 7 → thenP (makesP q) (advP text) = .inl e → RD text (.imps xs) q (.inl e)
  | impsE {xs q q' e} : knd q = 7 → thenP (makesP q) (advP text) = .inr q' → RD text (.lvl 3) q' (.inl e) → RD text (.imps xs) q (.inl e)
  | impsK {xs q q' y q'' r} : knd q = 7 → thenP (makesP q) (advP text) = .inr q' → RD text (.lvl 3) q' (.inr (y, q'')) → RD text (.imps (y :: xs)) q'' r → RD text (.imps xs) q r
  | notA {p e} : p.tk = .not → thenP (thenP (opensP p) makesP) (advP text) = .inl e → RD text (.lvl 6) p (.inl e)
  | notE {p q e} : p.tk = .not → thenP (thenP (opensP p) makesP) (advP text) = .inr q → RD text (.lvl 6) q (.inl e) → RD text (.lvl 6) p (.inl e)
  | notK {p q x q'} : p.tk = .not → thenP (thenP (opensP p) makesP) (advP text) = .inr q → RD text (.lvl 6) q (.inr (x, q')) → RD text (.lvl 6) p (.inr (.neg x, { q' with opn := q'.opn - 1 }))
  | quA {p op e} : p.tk = .quant op → Vars text p [] (.inl e) → RD text (.lvl 6) p (.inl e)
  | quE {p op vs q e} : p.tk = .quant op → Vars text p [] (.inr (vs, q)) → RD text (.lvl 1) q (.inl e) → RD text (.lvl 6) p (.inl e)
  | quK {p op vs q x q'} : p.tk = .quant op → Vars text p [] (.inr (vs, q)) → RD text (.lvl 1) q (.inr (x, q')) → RD text (.lvl 6) p (.inr (quT op vs x, { q' with opn := q'.opn - vs.length }))
  | cst {p n} : p.tk = .const n → RD text (.lvl 6) p (match thenP (makesP p) (advP text) with | .inl e => .inl e | .inr q => .inr (.cst n, q))
  | var {p n} : p.tk = .var n → RD text (.lvl 6) p (match thenP (makesP p) (advP text) with | .inl e => .inl e | .inr q => .inr (.var n, q))
  | opnA {p e} : p.tk = .opn → thenP (opensP p) (advP text) = .inl e → RD text (.lvl 6) p (.inl e)
  | opnE {p q e} : p.tk = .opn → thenP (opensP p) (advP text) = .inr q → RD text (.lvl 1) q (.inl e) → RD text (.lvl 6) p (.inl e)
  | opnK {p q x q'} : p.tk = .opn → thenP (opensP p) (advP text) = .inr q → RD text (.lvl 1) q (.inr (x, q')) → RD text (.lvl 6) p (match needP text 10 q' with | .inl e => .inl e | .inr q'' => .inr (x, { q'' with opn := q''.opn - 1 }))
  | iteA {p e} : p.tk = .ite → thenP (thenP (thenP (opensP p) makesP) (advP text)) (needP text 9) = .inl e → RD text (.lvl 6) p (.inl e)
  | iteC {p q e} : p.tk = .ite → thenP (thenP (thenP (opensP p) makesP) (advP text)) (needP text 9) = .inr q → RD text (.lvl 1) q (.inl e) → RD text (.lvl 6) p (.inl e)
  | iteD {p q c q1 e} : p.tk = .ite → thenP (thenP (thenP (opensP p) makesP) (advP text)) (needP text 9) = .inr q → RD text (.lvl 1) q (.inr (c, q1)) → needP text 11 q1 = .inl e → RD text (.lvl 6) p (.inl e)
  | iteE {p q c q1 q2 e} : p.tk = .ite → thenP (thenP (thenP (opensP p) makesP) (advP text)) (needP text 9) = .inr q → RD text (.lvl 1) q (.inr (c, q1)) → needP text 11 q1 = .inr q2 → RD text (.lvl 1) q2 (.inl e) → RD text (.lvl 6) p (.inl e)
  | iteF {p q c q1 q2 a q3 e} : p.tk = .ite → thenP (thenP (thenP (opensP p) makesP) (advP text)) (needP text 9) = .inr q → RD text (.lvl 1) q (.inr (c, q1)) → needP text 11 q1 = .inr q2 → RD text (.lvl 1) q2 (.inr (a, q3)) → needP text 11 q3 = .inl e → RD text (.lvl 6) p (.inl e)
  | iteG {p q c q1 q2 a q3 q4 e} : p.tk = .ite → thenP (thenP (thenP (opensP p) makesP) (advP text)) (needP text 9) = .inr q → RD text (.lvl 1) q (.inr (c, q1)) → needP text 11 q1 = .inr q2 → RD text (.lvl 1) q2 (.inr (a, q3)) → needP text 11 q3 = .inr q4 → RD text (.lvl 1) q4 (.inl e) → RD text (.lvl 6) p (.inl e)
  | iteK {p q c q1 q2 a q3 q4 b q5} : p.tk = .ite → thenP (thenP (thenP (opensP p) makesP) (advP text)) (needP text 9) = .inr q → RD text (.lvl 1) q (.inr (c, q1)) → needP text 11 q1 = .inr q2 → RD text (.lvl 1) q2 (.inr (a, q3)) → needP text 11 q3 = .inr q4 → RD text (.lvl 1) q4 (.inr (b, q5)) →
      RD text (.lvl 6) p (match needP text 10 q5 with | .inl e => .inl e | .inr q6 => .inr (.ite c a b, { q6 with opn := q6.opn - 1 }))
  | else_ {p} : (∀ t, t ∈ [p.tk] → t ≠ .not ∧ t ≠ .opn ∧ t ≠ .ite) → (∀ n, p.tk ≠ .const n) → (∀ n, p.tk ≠ .var n) → (∀ o, p.tk ≠ .quant o) → RD text (.lvl 6) p (.inl (131, p.at_))
end Go.Proofs.YthackanffcaejaaGreatDoor
end
section
set_option linter.unusedSimpArgs false
set_option linter.unusedVariables false
namespace Go.Proofs.YthackanffcaejaaGreatDoor
open Go Go.RowKit Go.SL Go.ClauseP Go.LexP

/-! ### The machine -/
inductive Wt
  | not
  | quant (op n : Int)
  | opn
  | ite (n : Nat)
  | op (o : Int)
structure MS where
  st : List Wt
  out : List (Int × Int)
  opn : Nat
  nds : Nat
def bndN (o : Int) : Nat := if o = 6 then 5 else if o = 8 then 4 else if o = 7 then 3 else if o = 9 then 2 else 1
def ndW : Wt → List (Int × Int)
  | .not => [(3, 0)]
  | .quant o n => [(o, n)]
  | .opn => []
  | .ite _ => [(11, 0)]
  | .op o => [(o, 0)]
def opW : Wt → Nat
  | .not => 1
  | .quant _ _ => 1
  | .opn => 1
  | .ite _ => 1
  | .op _ => 0
def innerM : List Wt → List (Int × Int) → Nat → List Wt × List (Int × Int) × Nat
  | [], o, k => ([], o, k)
  | w :: s, o, k => match w with
    | .opn => (.opn :: s, o, k)
    | .ite n => (.ite n :: s, o, k)
    | w => innerM s (o ++ ndW w) (k - opW w)
def operM (op : Int) : List Wt → List (Int × Int) → Nat → List Wt × List (Int × Int) × Nat
  | [], o, k => ([], o, k)
  | w :: s, o, k => match w with
    | .not => operM op s (o ++ [(3, 0)]) (k - 1)
    | .op x => if bndN x < bndN op ∨ bndN x = bndN op ∧ op = 9 then (.op x :: s, o, k) else operM op s (o ++ [(x, 0)]) k
    | w => (w :: s, o, k)
inductive Nx
  | err (e : Int)
  | done (o : List (Int × Int))
  | go (m : MS) (want q : Int)
def opensM (m : MS) (w : Wt) (f : MS → Nx) : Nx := if 64 ≤ m.opn then .err 132 else f ⟨w :: m.st, m.out, m.opn + 1, m.nds⟩
def makesM (m : MS) (f : MS → Nx) : Nx := if 65536 ≤ m.nds then .err 8 else f ⟨m.st, m.out, m.opn, m.nds + 1⟩
def closeM (m : MS) (q : Int) : List Wt × List (Int × Int) × Nat → Nx
  | (.opn :: s, o, k) => .go ⟨s, o, k - 1, m.nds⟩ 1 q
  | (.ite n :: s, o, k) => if n = 2 then .go ⟨s, o ++ [(11, 0)], k - 1, m.nds⟩ 1 q else .err 131
  | _ => .err 131
def commaM (m : MS) (q : Int) : List Wt × List (Int × Int) × Nat → Nx
  | (.ite n :: s, o, k) => if 2 ≤ n then .err 131 else .go ⟨.ite (n + 1) :: s, o, k, m.nds⟩ 0 q
  | _ => .err 131
def finM : List Wt × List (Int × Int) × Nat → Nx
  | ([], o, _) => .done o
  | _ => .err 131
def mstep (m : MS) (want q : Int) : Tk → Nx
  | .bad e => .err e
  | .const n => if want = 0 then makesM m fun m => .go ⟨m.st, m.out ++ [(1, n)], m.opn, m.nds⟩ 1 q else .err 131
  | .var n => if want = 0 then makesM m fun m => .go ⟨m.st, m.out ++ [(2, n)], m.opn, m.nds⟩ 1 q else if want = 3 then opensM m (.quant q n) fun m => makesM m fun m => .go m 4 q else .err 131
  | .quant o => if want = 0 then .go m 3 o else .err 131
  | .opn => if want = 0 then opensM m .opn fun m => .go m 0 q else if want = 2 then .go m 0 q else .err 131
  | .ite => if want = 0 then opensM m (.ite 0) fun m => makesM m fun m => .go m 2 q else .err 131
  | .not => if want = 0 then opensM m .not fun m => makesM m fun m => .go m 0 q else .err 131
  | .op o => if want = 1 then makesM m fun m => .go ⟨.op o :: (operM o m.st m.out m.opn).1, (operM o m.st m.out m.opn).2.1, (operM o m.st m.out m.opn).2.2, m.nds⟩ 0 q else .err 131
  | .cls => if want = 1 then closeM m q (innerM m.st m.out m.opn) else .err 131
  | .comma => if want = 1 then commaM m q (innerM m.st m.out m.opn) else if want = 4 then .go m 3 q else .err 131
  | .colon => if want = 4 then .go m 0 q else .err 131
  | .fin => if want = 1 then finM (innerM m.st m.out m.opn) else .err 131
abbrev Ans := (Int × Nat) ⊕ List (Int × Int)
inductive MRun (text : List UInt8) : MS → Int → Int → TokR → Ans → Prop
  | err {m w q t e} : mstep m w q t.tk = .err e → MRun text m w q t (.inl (e, t.at_))
  | done {m w q t o} : mstep m w q t.tk = .done o → MRun text m w q t (.inr o)
  | go {m w q t m' w' q' r} : mstep m w q t.tk = .go m' w' q' → MRun text m' w' q' (nextT text t.fin) r → MRun text m w q t r
theorem MRun.det {text : List UInt8} {m : MS} {w q : Int} {t : TokR} {r r' : Ans} (h : MRun text m w q t r) (h' : MRun text m w q t r') : r = r' := by
  induction h generalizing r' with
  | err h => cases h' with
    | err h2 => rw [h] at h2; injection h2 with h2; rw [h2]
    | done h2 => rw [h] at h2; cases h2
    | go h2 _ => rw [h] at h2; cases h2
  | done h => cases h' with
    | err h2 => rw [h] at h2; cases h2
    | done h2 => rw [h] at h2; injection h2 with h2; rw [h2]
    | go h2 _ => rw [h] at h2; cases h2
  | go h _ ih => cases h' with
    | err h2 => rw [h] at h2; cases h2
    | done h2 => rw [h] at h2; cases h2
    | go h2 h3 =>
      rw [h] at h2
      injection h2 with e1 e2 e3
      subst e1; subst e2; subst e3
      exact ih h3

/-! ### Tokens -/
def tkOk : Tk → Prop
  | .bad _ => False
  | .const n => n = 0 ∨ n = 1
  | .var n => 0 ≤ n ∧ n < 65536
  | .op o => 6 ≤ o ∧ o ≤ 10
  | .quant o => o = 4 ∨ o = 5
  | _ => True
theorem tokW_ok (w : List UInt8) : tkOk (tokW w) ∨ ∃ e, tokW w = .bad e := by
  unfold tokW
  split; exact .inl (.inr rfl)
  split; exact .inl (.inl rfl)
  split; exact .inl (.inl rfl)
  split; exact .inl (.inr rfl)
  split; exact .inl trivial
  split
  · rename_i t _ _ _ _ _
    have := numM_ge 65535 t
    have key : ∀ b : Bool, tkOk (if b = true then Tk.bad 131 else if numM 65535 t < 0 then Tk.bad 133 else Tk.var (numM 65535 t)) ∨ ∃ e, (if b = true then Tk.bad 131 else if numM 65535 t < 0 then Tk.bad 133 else Tk.var (numM 65535 t)) = .bad e := by
      intro b
      cases b
      · simp only [Bool.false_eq_true, if_false]
        split
        · exact .inr ⟨_, rfl⟩
        · exact .inl ⟨by omega, by omega⟩
      · exact .inr ⟨_, rfl⟩
    exact key _
  · exact .inr ⟨_, rfl⟩
theorem sign_ok (l : List UInt8) (s : List UInt8 × Tk) (h : signT l = some s) : tkOk s.2 := by
  have hm := List.mem_of_find?_eq_some h
  simp only [signs11, signs10, List.cons_append, List.nil_append, List.mem_cons, List.not_mem_nil, or_false] at hm
  rcases hm with rfl | rfl | rfl | rfl | rfl | rfl | rfl | rfl | rfl | rfl | rfl | rfl | rfl | rfl | rfl | rfl | rfl | rfl | rfl | rfl | rfl <;> simp [tkOk]
theorem pieceT_ok (l : List UInt8) : tkOk (pieceT l).1 ∨ ∃ e, (pieceT l).1 = .bad e := by
  unfold pieceT
  split
  · exact .inl trivial
  · split
    · exact tokW_ok _
    · split
      · dsimp only
        split
        · exact .inr ⟨_, rfl⟩
        · rename_i c cs _ _ h
          have := numM_ge 1 ((c :: cs).takeWhile digP)
          exact .inl (by show _ ∨ _; omega)
      · split
        · rename_i s hs
          exact .inl (sign_ok _ _ hs)
        · exact .inr ⟨_, rfl⟩
theorem nextT_ok (text : List UInt8) (k : Nat) : tkOk (nextT text k).tk ∨ ∃ e, (nextT text k).tk = .bad e := by
  unfold nextT
  split
  · exact .inl trivial
  · exact pieceT_ok _
theorem skipP_len (text : List UInt8) (k : Nat) (hk : k ≤ text.length) : skipP text k ≤ text.length := by
  have := skipS_le (text.drop k) false
  rw [List.length_drop] at this
  unfold skipP
  omega
theorem tokW_fin (w : List UInt8) : tokW w ≠ .fin := by
  unfold tokW
  repeat' split
  all_goals (intro h; cases h)
theorem pieceT_fin (c : UInt8) (l : List UInt8) : (pieceT (c :: l)).1 ≠ .fin := by
  unfold pieceT
  dsimp only
  split
  · exact tokW_fin _
  · split
    · dsimp only; split <;> (intro h; cases h)
    · split
      · rename_i s hs
        have hm := List.mem_of_find?_eq_some hs
        simp only [signs11, signs10, List.cons_append, List.nil_append, List.mem_cons, List.not_mem_nil, or_false] at hm
        rcases hm with rfl | rfl | rfl | rfl | rfl | rfl | rfl | rfl | rfl | rfl | rfl | rfl | rfl | rfl | rfl | rfl | rfl | rfl | rfl | rfl | rfl <;> (intro h; cases h)
      · intro h; cases h
theorem skipP_end (text : List UInt8) : skipP text text.length = text.length := by
  unfold skipP
  rw [List.drop_eq_nil_of_le (Nat.le_refl _)]
  simp [skipS]
theorem nextT_end (text : List UInt8) : nextT text text.length = ⟨.fin, text.length, text.length⟩ := by
  unfold nextT; rw [if_pos (skipP_end text)]
theorem nextT_fin (text : List UInt8) (k : Nat) (hk : k ≤ text.length) (h : (nextT text k).tk = .fin) : (nextT text k).fin = text.length := by
  unfold nextT at h ⊢
  split
  · rfl
  · rename_i hne
    rw [if_neg hne] at h
    exfalso
    have h1 := skipP_len text k hk
    obtain ⟨c, l, hl⟩ : ∃ c l, text.drop (skipP text k) = c :: l := by
      cases hd : text.drop (skipP text k) with
      | nil => have := congrArg List.length hd; simp at this; omega
      | cons c l => exact ⟨c, l, rfl⟩
    dsimp only at h
    rw [hl] at h
    exact pieceT_fin c l h
def tokR (p : Ps) : TokR := ⟨p.tk, p.at_, p.fin⟩
def Ok (text : List UInt8) (p : Ps) : Prop := tkOk p.tk ∧ p.opn ≤ 64 ∧ p.nds ≤ 65536 ∧ p.fin ≤ text.length ∧ (p.tk = .fin → p.fin = text.length)
end Go.Proofs.YthackanffcaejaaGreatDoor
end
section
set_option linter.unusedSimpArgs false
set_option linter.unusedVariables false
namespace Go.Proofs.YthackanffcaejaaGreatDoor
open Go Go.RowKit Go.SL Go.ClauseP Go.LexP

theorem pieceT_le (l : List UInt8) : (pieceT l).2 ≤ l.length := by
  unfold pieceT
  split
  · simp
  · rename_i c cs
    split
    · exact (List.takeWhile_sublist _).length_le
    · split
      · exact (List.takeWhile_sublist _).length_le
      · split
        · rename_i s hs
          have h := List.find?_some hs
          exact (List.isPrefixOf_iff_prefix.1 h).length_le
        · simp
theorem nextT_le (text : List UInt8) (k : Nat) (hk : k ≤ text.length) : (nextT text k).fin ≤ text.length := by
  have h1 := skipP_len text k hk
  unfold nextT
  split
  · exact Nat.le_refl _
  · dsimp only
    have h2 := pieceT_le (text.drop (skipP text k))
    rw [List.length_drop] at h2
    omega
theorem advL {text : List UInt8} {p : Ps} {e : Int × Nat} (h : advP text p = .inl e) : ∃ c, (nextT text p.fin).tk = .bad c ∧ e = (c, (nextT text p.fin).at_) := by
  unfold advP at h
  split at h
  · rename_i c hc
    exact ⟨c, hc, by injection h with h; exact h.symm⟩
  · cases h
theorem advR {text : List UInt8} {p q : Ps} (h : advP text p = .inr q) : tokR q = nextT text p.fin ∧ q.opn = p.opn ∧ q.nds = p.nds ∧ ∀ e, q.tk ≠ .bad e := by
  unfold advP at h
  split at h
  · cases h
  · rename_i hne
    injection h with h
    subst h
    exact ⟨rfl, rfl, rfl, hne⟩
theorem adv_run {text : List UInt8} {p : Ps} {e : Int × Nat} (h : advP text p = .inl e) (m : MS) (w q : Int) : MRun text m w q (nextT text p.fin) (.inl e) := by
  obtain ⟨c, hc, rfl⟩ := advL h
  exact .err (by rw [hc]; rfl)
theorem adv_Ok {text : List UInt8} {p q : Ps} (hf : p.fin ≤ text.length) (ho : p.opn ≤ 64) (hn : p.nds ≤ 65536) (h : advP text p = .inr q) : Ok text q := by
  obtain ⟨h1, h2, h3, h4⟩ := advR h
  have e1 : q.tk = (nextT text p.fin).tk := congrArg TokR.tk h1
  have e2 : q.fin = (nextT text p.fin).fin := congrArg TokR.fin h1
  refine ⟨?_, by omega, by omega, by rw [e2]; exact nextT_le text p.fin hf, fun hk => ?_⟩
  · rcases nextT_ok text p.fin with h | ⟨e, h⟩
    · rw [e1]; exact h
    · exact (h4 e (e1.trans h)).elim
  · rw [e2]
    exact nextT_fin text p.fin hf (e1 ▸ hk)
theorem knd_opn {t : Tk} (h : tkOk t) : (tokE t).1 = 9 ↔ t = .opn := by cases t <;> simp [tokE, tkOk] at * <;> omega
theorem knd_cls {t : Tk} (h : tkOk t) : (tokE t).1 = 10 ↔ t = .cls := by cases t <;> simp [tokE, tkOk] at * <;> omega
theorem knd_comma {t : Tk} (h : tkOk t) : (tokE t).1 = 11 ↔ t = .comma := by cases t <;> simp [tokE, tkOk] at * <;> omega
theorem knd_colon {t : Tk} (h : tkOk t) : (tokE t).1 = 12 ↔ t = .colon := by cases t <;> simp [tokE, tkOk] at * <;> omega
theorem knd_fin {t : Tk} (h : tkOk t) : (tokE t).1 = 0 ↔ t = .fin := by cases t <;> simp [tokE, tkOk] at * <;> omega
theorem knd_op {t : Tk} (h : tkOk t) {b : Nat} (hb : b = 1 ∨ b = 3 ∨ b = 4 ∨ b = 5) : (tokE t).1 = kOf b ↔ t = .op (oOf b) := by
  rcases hb with rfl | rfl | rfl | rfl <;> cases t <;> simp [tokE, tkOk, kOf, oOf] at * <;> omega
theorem knd_imp {t : Tk} (h : tkOk t) : (tokE t).1 = 7 ↔ t = .op 9 := by cases t <;> simp [tokE, tkOk] at * <;> omega

/-! ### One step -/
theorem go_run {text : List UInt8} {m m' : MS} {w q w' q' : Int} {p p' : Ps} {r : Ans} (hs : mstep m w q p.tk = .go m' w' q') (ht : tokR p' = nextT text p.fin) (h : MRun text m' w' q' (tokR p') r) : MRun text m w q (tokR p) r :=
  .go hs (by rw [ht] at h; exact h)
theorem err_run {text : List UInt8} {m : MS} {w q : Int} {p : Ps} {e : Int} (hs : mstep m w q p.tk = .err e) : MRun text m w q (tokR p) (.inl (e, p.at_)) := .err (t := tokR p) hs
def Step (text : List UInt8) (m : MS) (w q : Int) (p : Ps) (m' : Ps → MS) (w' q' : Int) (dn : Nat) (dk : Nat) : Rp → Prop
  | .inl e => MRun text m w q (tokR p) (.inl e)
  | .inr p' => Ok text p' ∧ p'.opn = p.opn + dn ∧ p'.nds = p.nds + dk ∧ ∀ r, MRun text (m' p') w' q' (tokR p') r → MRun text m w q (tokR p) r
theorem adv_step {text : List UInt8} {m m' : MS} {w q w' q' : Int} {p : Ps} (hp : Ok text p) (hs : mstep m w q p.tk = .go m' w' q') : Step text m w q p (fun _ => m') w' q' 0 0 (advP text p) := by
  cases h : advP text p with
  | inl e => exact .go hs (adv_run h _ _ _)
  | inr p' =>
    obtain ⟨h1, h2, h3, _⟩ := advR h
    exact ⟨adv_Ok hp.2.2.2.1 hp.2.1 hp.2.2.1 h, h2, h3, fun r hr => go_run hs h1 hr⟩
theorem makes_step {text : List UInt8} {m : MS} {w q w' q' : Int} {p : Ps} {g : MS → MS} (hp : Ok text p) (hn : m.nds = p.nds) (hs : mstep m w q p.tk = makesM m fun m => .go (g m) w' q') :
    Step text m w q p (fun p' => g ⟨m.st, m.out, m.opn, p'.nds⟩) w' q' 0 1 (thenP (makesP p) (advP text)) := by
  unfold makesP
  by_cases h : p.nds = 65536
  · rw [if_pos h]
    refine err_run ?_
    rw [hs, makesM, if_pos (by omega)]
  · rw [if_neg h]
    have hs2 : mstep m w q p.tk = .go (g ⟨m.st, m.out, m.opn, m.nds + 1⟩) w' q' := by rw [hs, makesM, if_neg (by have := hp.2.2.1; omega)]
    show Step _ _ _ _ _ _ _ _ _ _ (advP text { p with nds := p.nds + 1 })
    cases ha : advP text { p with nds := p.nds + 1 } with
    | inl e => exact .go hs2 (adv_run ha _ _ _)
    | inr p' =>
      obtain ⟨h1, h2, h3, _⟩ := advR ha
      refine ⟨adv_Ok (p := { p with nds := p.nds + 1 }) hp.2.2.2.1 hp.2.1 (by dsimp only; have := hp.2.2.1; omega) ha, h2, h3, fun r hr => go_run hs2 h1 ?_⟩
      rw [hn, show p.nds + 1 = p'.nds from h3.symm]
      exact hr
theorem opens_step {text : List UInt8} {m : MS} {w q w' q' : Int} {p : Ps} {x : Wt} (hp : Ok text p) (hn : m.opn = p.opn) (hs : mstep m w q p.tk = opensM m x fun m => .go m w' q') :
    Step text m w q p (fun p' => ⟨x :: m.st, m.out, p'.opn, m.nds⟩) w' q' 1 0 (thenP (opensP p) (advP text)) := by
  unfold opensP
  by_cases h : p.opn = 64
  · rw [if_pos h]
    refine err_run ?_
    rw [hs, opensM, if_pos (by omega)]
  · rw [if_neg h]
    have hs2 : mstep m w q p.tk = .go ⟨x :: m.st, m.out, m.opn + 1, m.nds⟩ w' q' := by rw [hs, opensM, if_neg (by have := hp.2.1; omega)]
    show Step _ _ _ _ _ _ _ _ _ _ (advP text { p with opn := p.opn + 1 })
    cases ha : advP text { p with opn := p.opn + 1 } with
    | inl e => exact .go hs2 (adv_run ha _ _ _)
    | inr p' =>
      obtain ⟨h1, h2, h3, _⟩ := advR ha
      refine ⟨adv_Ok (p := { p with opn := p.opn + 1 }) hp.2.2.2.1 (by dsimp only; have := hp.2.1; omega) hp.2.2.1 ha, h2, h3, fun r hr => go_run hs2 h1 ?_⟩
      rw [hn, show p.opn + 1 = p'.opn from h2.symm]
      exact hr
theorem both_step {text : List UInt8} {m : MS} {w q w' q' : Int} {p : Ps} {x : Wt} (hp : Ok text p) (hn : m.opn = p.opn) (hk : m.nds = p.nds) (hs : mstep m w q p.tk = opensM m x fun m => makesM m fun m => .go m w' q') :
    Step text m w q p (fun p' => ⟨x :: m.st, m.out, p'.opn, p'.nds⟩) w' q' 1 1 (thenP (thenP (opensP p) makesP) (advP text)) := by
  unfold opensP
  by_cases h : p.opn = 64
  · rw [if_pos h]
    refine err_run ?_
    rw [hs, opensM, if_pos (by omega)]
  · rw [if_neg h]
    show Step _ _ _ _ _ _ _ _ _ _ (thenP (makesP { p with opn := p.opn + 1 }) (advP text))
    unfold makesP
    by_cases h2 : p.nds = 65536
    · rw [if_pos h2]
      refine err_run ?_
      rw [hs, opensM, if_neg (by have := hp.2.1; omega), makesM, if_pos (by dsimp only; omega)]
    · rw [if_neg h2]
      have hs2 : mstep m w q p.tk = .go ⟨x :: m.st, m.out, m.opn + 1, m.nds + 1⟩ w' q' := by rw [hs, opensM, if_neg (by have := hp.2.1; omega), makesM, if_neg (by dsimp only; have := hp.2.2.1; omega)]
      show Step _ _ _ _ _ _ _ _ _ _ (advP text { p with opn := p.opn + 1, nds := p.nds + 1 })
      cases ha : advP text { p with opn := p.opn + 1, nds := p.nds + 1 } with
      | inl e => exact .go hs2 (adv_run ha _ _ _)
      | inr p' =>
        obtain ⟨h1, h2, h3, _⟩ := advR ha
        refine ⟨adv_Ok (p := { p with opn := p.opn + 1, nds := p.nds + 1 }) hp.2.2.2.1 (by dsimp only; have := hp.2.1; omega) (by dsimp only; have := hp.2.2.1; omega) ha, h2, h3, fun r hr => go_run hs2 h1 ?_⟩
        rw [hn, hk, show p.opn + 1 = p'.opn from h2.symm, show p.nds + 1 = p'.nds from h3.symm]
        exact hr
theorem need_step {text : List UInt8} {m m' : MS} {w q w' q' : Int} {p : Ps} {k : Int} (hp : Ok text p) (hs : knd p = k → mstep m w q p.tk = .go m' w' q') (hn : knd p ≠ k → mstep m w q p.tk = .err 131) : Step text m w q p (fun _ => m') w' q' 0 0 (needP text k p) := by
  unfold needP
  by_cases h : knd p = k
  · rw [if_pos h]; exact adv_step hp (hs h)
  · rw [if_neg h]; exact err_run (hn h)

/-! ### What waits above a stop -/
def cn (l : List Wt) : Nat := (l.map opW).sum
def nd (l : List Wt) : List (Int × Int) := l.flatMap ndW
theorem cn_app (a b : List Wt) : cn (a ++ b) = cn a + cn b := by simp [cn]
theorem nd_app (a b : List Wt) : nd (a ++ b) = nd a ++ nd b := by simp [nd]
def Soft (w : Wt) : Prop := w = .not ∨ (∃ o n, w = .quant o n) ∨ ∃ o, w = .op o
theorem inner_soft : ∀ (pend S : List Wt) (o : List (Int × Int)) (k : Nat), (∀ w ∈ pend, Soft w) → innerM (pend ++ S) o (k + cn pend) = innerM S (o ++ nd pend) k
  | [], S, o, k, _ => by simp [cn, nd]
  | w :: pend, S, o, k, h => by
    have ih := inner_soft pend S (o ++ ndW w) k (fun x hx => h x (.tail _ hx))
    have e : k + cn (w :: pend) - opW w = k + cn pend := by simp [cn]; omega
    rcases h w (.head _) with rfl | ⟨a, b, rfl⟩ | ⟨a, rfl⟩
    all_goals
      simp only [List.cons_append, innerM, e, ih, nd, List.flatMap_cons, List.append_assoc]
theorem oper_soft (op : Int) (b : Nat) (hb : bndN op ≤ b) : ∀ (pend S : List Wt) (o : List (Int × Int)) (k : Nat), (∀ w ∈ pend, w = .not ∨ ∃ o', w = .op o' ∧ b ≤ bndN o' ∧ (op = 9 → bndN o' ≠ bndN op)) → operM op (pend ++ S) o (k + cn pend) = operM op S (o ++ nd pend) k
  | [], S, o, k, _ => by simp [cn, nd]
  | w :: pend, S, o, k, h => by
    have ih := oper_soft op b hb pend S (o ++ ndW w) k (fun x hx => h x (.tail _ hx))
    have e : k + cn (w :: pend) - opW w = k + cn pend := by simp [cn]; omega
    rcases h w (.head _) with rfl | ⟨a, rfl, h1, h2⟩
    · simp only [ndW, opW] at ih e
      simp only [List.cons_append, operM, e, ih, nd, List.flatMap_cons, List.append_assoc, ndW]
    · simp only [ndW, opW, Nat.sub_zero] at ih e
      rw [List.cons_append, operM]
      rw [if_neg (by rintro (h3 | ⟨h3, h4⟩); omega; exact h2 h4 h3), e, ih]
      simp [nd, ndW]
def Stops (b : Nat) : List Wt → Prop
  | .not :: _ => 6 ≤ b
  | .op o :: _ => bndN o < b
  | _ => True
theorem bndN_le (o : Int) : 1 ≤ bndN o ∧ bndN o ≤ 5 := by unfold bndN; repeat' split
                                                          all_goals omega
theorem stops6 (S : List Wt) : Stops 6 S := by
  unfold Stops
  split
  · exact Nat.le_refl _
  · rename_i o _; have := bndN_le o; omega
  · trivial
theorem Stops.up {b : Nat} {S : List Wt} (h : Stops b S) (hb : b < 6) : Stops (b + 1) S := by
  unfold Stops at *
  split at h
  · omega
  · omega
  · trivial
theorem oper_stop {op : Int} {S : List Wt} (h : Stops (bndN op) S) (o : List (Int × Int)) (k : Nat) : operM op S o k = (S, o, k) := by
  have := bndN_le op
  cases S with
  | nil => rfl
  | cons w S =>
    unfold Stops at h
    cases w with
    | not => dsimp only at h; omega
    | op x => dsimp only at h; simp only [operM]; rw [if_pos (.inl h)]
    | _ => rfl
def Good (b : Nat) (tk : Tk) (pend : List Wt) : Prop := (∀ w ∈ pend, Soft w) ∧ ∀ k, tk = .op k → bndN k < b ∧ ∀ w ∈ pend, w = .not ∨ ∃ o, w = .op o ∧ b ≤ bndN o
def Good' (b : Nat) (tk : Tk) (pend : List Wt) : Prop := (∀ w ∈ pend, Soft w) ∧ ∀ k, tk = .op k → bndN k < b + 1 ∧ ∀ w ∈ pend, w = .not ∨ ∃ o, w = .op o ∧ b ≤ bndN o
theorem Good.weak {b : Nat} {tk : Tk} {pend : List Wt} (h : Good (b + 1) tk pend) : Good' b tk pend :=
  ⟨h.1, fun k hk => ⟨(h.2 k hk).1, fun w hw => (h.2 k hk).2 w hw |>.imp id fun ⟨o, e, h2⟩ => ⟨o, e, by omega⟩⟩⟩
end Go.Proofs.YthackanffcaejaaGreatDoor
end
section
set_option linter.unusedSimpArgs false
set_option linter.unusedVariables false
namespace Go.Proofs.YthackanffcaejaaGreatDoor
open Go Go.RowKit Go.SL Go.ClauseP Go.LexP

def LawR (text : List UInt8) (b : Nat) (m : MS) (w q : Int) (p : Ps) (o : List (Int × Int)) (S : List Wt) : Rt → Prop
  | .inl e => MRun text m w q (tokR p) (.inl e)
  | .inr (x, p') => Ok text p' ∧ p'.opn = p.opn ∧ ∃ pend o' q', o' ++ nd pend = post x ∧ Good b p'.tk pend ∧ ∀ r, MRun text ⟨pend ++ S, o ++ o', p'.opn + cn pend, p'.nds⟩ 1 q' (tokR p') r → MRun text m w q (tokR p) r
theorem LawR.comp {text : List UInt8} {b : Nat} {m m2 : MS} {w q w2 q2 : Int} {p p2 : Ps} {o : List (Int × Int)} {S : List Wt} {r : Rt} (h : LawR text b m2 w2 q2 p2 o S r) (ho : p2.opn = p.opn) (hc : ∀ r, MRun text m2 w2 q2 (tokR p2) r → MRun text m w q (tokR p) r) :
    LawR text b m w q p o S r := by
  rcases r with e | ⟨x, p'⟩
  · exact hc _ h
  · obtain ⟨h1, h2, pend, o', q', h3, h4, h5⟩ := h
    exact ⟨h1, h2.trans ho, pend, o', q', h3, h4, fun r hr => hc _ (h5 r hr)⟩
def Mot (text : List UInt8) : Tsk → Ps → Rt → Prop
  | .lvl b, p, r => Ok text p → ∀ S o q, Stops b S → LawR text b ⟨S, o, p.opn, p.nds⟩ 0 q p o S r
  | .loop b x, p, r => Ok text p → b = 1 ∨ b = 3 ∨ b = 4 ∨ b = 5 → ∀ S o q pend o', Stops b S → o' ++ nd pend = post x → Good' b p.tk pend → LawR text b ⟨pend ++ S, o ++ o', p.opn + cn pend, p.nds⟩ 1 q p o S r
  | .imps xs, p, r => ∀ x rest, xs = x :: rest → Ok text p → ∀ S o q pend o', Stops 2 S → o' ++ nd pend = post x → Good 3 p.tk pend →
      LawR text 2 ⟨pend ++ (List.replicate rest.length (.op 9) ++ S), o ++ posts rest ++ o', p.opn + cn pend, p.nds⟩ 1 q p o S r
theorem bnd_oOf {b : Nat} (hb : b = 1 ∨ b = 3 ∨ b = 4 ∨ b = 5) : bndN (oOf b) = b := by rcases hb with rfl | rfl | rfl | rfl <;> rfl
theorem oOf_ne {b : Nat} (hb : b = 1 ∨ b = 3 ∨ b = 4 ∨ b = 5) : oOf b ≠ 9 := by rcases hb with rfl | rfl | rfl | rfl <;> decide
theorem loop_step {text : List UInt8} {b : Nat} {p : Ps} {S pend : List Wt} {o o' : List (Int × Int)} {x : T} (q : Int) (hp : Ok text p) (hb : b = 1 ∨ b = 3 ∨ b = 4 ∨ b = 5) (hS : Stops b S) (hx : o' ++ nd pend = post x) (hG : Good' b p.tk pend) (hk : knd p = kOf b) :
    Step text ⟨pend ++ S, o ++ o', p.opn + cn pend, p.nds⟩ 1 q p (fun p' => ⟨.op (oOf b) :: S, o ++ post x, p.opn, p'.nds⟩) 0 q 0 1 (thenP (makesP p) (advP text)) := by
  have ht : p.tk = .op (oOf b) := (knd_op hp.1 hb).1 hk
  have e := bnd_oOf hb
  have h1 : operM (oOf b) (pend ++ S) (o ++ o') (p.opn + cn pend) = (S, o ++ post x, p.opn) := by
    rw [oper_soft (oOf b) b (by omega) pend S (o ++ o') p.opn (fun w hw => (hG.2 _ ht).2 w hw |>.imp id fun ⟨y, e1, e2⟩ => ⟨y, e1, e2, fun e3 => absurd e3 (oOf_ne hb)⟩), List.append_assoc, hx]
    exact oper_stop (by rw [e]; exact hS) _ _
  have h := makes_step (text := text) (m := ⟨pend ++ S, o ++ o', p.opn + cn pend, p.nds⟩) (w := 1) (q := q) (w' := 0) (q' := q) (p := p) (g := fun m => ⟨.op (oOf b) :: (operM (oOf b) m.st m.out m.opn).1, (operM (oOf b) m.st m.out m.opn).2.1, (operM (oOf b) m.st m.out m.opn).2.2, m.nds⟩) hp rfl (by rw [ht]; rfl)
  simpa only [h1] using h
theorem oper_reps {S : List Wt} (h : Stops 2 S) (o : List (Int × Int)) (k : Nat) : ∀ n : Nat, operM 9 (List.replicate n (.op 9) ++ S) o k = (List.replicate n (.op 9) ++ S, o, k)
  | 0 => oper_stop (op := 9) h o k
  | n + 1 => by
    rw [List.replicate_succ, List.cons_append, operM]
    rw [if_pos (.inr ⟨rfl, rfl⟩)]
theorem ne9 {y : Int} (h : 3 ≤ bndN y) : bndN y ≠ bndN 9 := by
  have : bndN 9 = 2 := rfl
  omega
theorem imps_step {text : List UInt8} {p : Ps} {S pend : List Wt} {o o' : List (Int × Int)} {x : T} {rest : List T} (q : Int) (hp : Ok text p) (hS : Stops 2 S) (hx : o' ++ nd pend = post x) (hG : Good 3 p.tk pend) (hk : knd p = 7) :
    Step text ⟨pend ++ (List.replicate rest.length (.op 9) ++ S), o ++ posts rest ++ o', p.opn + cn pend, p.nds⟩ 1 q p (fun p' => ⟨List.replicate (x :: rest).length (.op 9) ++ S, o ++ posts (x :: rest), p.opn, p'.nds⟩) 0 q 0 1 (thenP (makesP p) (advP text)) := by
  have ht : p.tk = .op 9 := (knd_imp hp.1).1 hk
  have h1 : operM 9 (pend ++ (List.replicate rest.length (.op 9) ++ S)) (o ++ posts rest ++ o') (p.opn + cn pend) = (List.replicate rest.length (.op 9) ++ S, o ++ posts (x :: rest), p.opn) := by
    rw [oper_soft 9 3 (by decide) pend _ _ p.opn (fun w hw => (hG.2 _ ht).2 w hw |>.imp id fun ⟨y, e1, e2⟩ => ⟨y, e1, e2, fun _ => ne9 e2⟩), List.append_assoc, hx, List.append_assoc]
    exact oper_reps hS _ _ _
  have h := makes_step (text := text) (m := ⟨pend ++ (List.replicate rest.length (.op 9) ++ S), o ++ posts rest ++ o', p.opn + cn pend, p.nds⟩) (w := 1) (q := q) (w' := 0) (q' := q) (p := p) (g := fun m => ⟨.op 9 :: (operM 9 m.st m.out m.opn).1, (operM 9 m.st m.out m.opn).2.1, (operM 9 m.st m.out m.opn).2.2, m.nds⟩) hp rfl (by rw [ht]; rfl)
  simpa only [h1, List.length_cons, List.replicate_succ, List.cons_append] using h
theorem post_impT : ∀ (rest : List T) (x : T), post (impT (x :: rest)) = posts rest ++ post x ++ List.replicate rest.length (9, 0)
  | [], x => by simp [impT, posts]
  | y :: rest, x => by
    have := post_impT rest (.bin 9 y x)
    simp only [impT, List.foldl_cons] at this ⊢
    rw [this]
    simp [posts, post, List.replicate_succ]
theorem nd_reps (n : Nat) : nd (List.replicate n (.op 9)) = List.replicate n (9, 0) := by
  induction n with
  | zero => rfl
  | succ n ih => simp only [List.replicate_succ, nd, List.flatMap_cons] at ih ⊢; rw [ih]; rfl
theorem cn_reps (n : Nat) : cn (List.replicate n (.op 9)) = 0 := by
  induction n with
  | zero => rfl
  | succ n ih => simp only [List.replicate_succ, cn, List.map_cons, List.sum_cons] at ih ⊢; rw [ih]; rfl
theorem Ok.less {text : List UInt8} {p : Ps} (h : Ok text p) (k : Nat) : Ok text { p with opn := p.opn - k } := ⟨h.1, by dsimp only; have := h.2.1; omega, h.2.2⟩
theorem Good.nil {b : Nat} {tk : Tk} (h : ∀ k, tk = .op k → bndN k < b) : Good b tk [] := ⟨fun w hw => (nomatch hw), fun k hk => ⟨h k hk, fun w hw => (nomatch hw)⟩⟩
theorem bnd6 (k : Int) : bndN k < 6 := by have := bndN_le k; omega
theorem Good.noop {tk : Tk} {pend : List Wt} (h : Good 1 tk pend) (k : Int) : tk ≠ .op k := fun e => by have h1 := (h.2 k e).1; have := bndN_le k; omega

/-! ### A quantifier's variables -/
def VarsR (text : List UInt8) (p : Ps) (vs : List Int) (S : List Wt) (o : List (Int × Int)) (op : Int) : (Int × Nat) ⊕ (List Int × Ps) → Prop
  | .inl e => MRun text ⟨S, o, p.opn, p.nds⟩ 3 op (nextT text p.fin) (.inl e)
  | .inr (vs', q) => ∃ ns, ns ≠ [] ∧ vs' = vs ++ ns ∧ Ok text q ∧ q.opn = p.opn + ns.length ∧ ∀ r, MRun text ⟨ns.reverse.map (Wt.quant op) ++ S, o, q.opn, q.nds⟩ 0 op (tokR q) r → MRun text ⟨S, o, p.opn, p.nds⟩ 3 op (nextT text p.fin) r
theorem vars_law {text : List UInt8} {p : Ps} {vs : List Int} {r : (Int × Nat) ⊕ (List Int × Ps)} (h : Vars text p vs r) : ∀ (S : List Wt) (o : List (Int × Int)) (op : Int), p.fin ≤ text.length → p.opn ≤ 64 → p.nds ≤ 65536 → VarsR text p vs S o op r := by
  induction h with
  | adv ha => intro S o op _ _ _; exact adv_run ha _ _ _
  | @tok p vs q ha hn =>
    intro S o op hf ho hk
    obtain ⟨h1, h2, h3, h4⟩ := advR ha
    unfold VarsR
    rw [← h1]
    refine err_run ?_
    obtain ⟨tk, at_, fin, opn, nds⟩ := q
    dsimp only at hn h4 ⊢
    cases tk <;> first | rfl | exact (hn _ rfl).elim | exact (h4 _ rfl).elim
  | @open_ p vs q n e ha ht hb =>
    intro S o op hf ho hk
    obtain ⟨h1, h2, h3, h4⟩ := advR ha
    have hq := adv_Ok hf ho hk ha
    have hs := both_step (text := text) (m := ⟨S, o, p.opn, p.nds⟩) (w := 3) (q := op) (x := .quant op n) (w' := 4) (q' := op) hq (by dsimp only; omega) (by dsimp only; omega) (by rw [ht]; rfl)
    rw [hb] at hs
    unfold VarsR
    rw [← h1]
    exact hs
  | @more p vs q n q' r ha ht hb hc _ ih =>
    intro S o op hf ho hk
    obtain ⟨h1, h2, h3, h4⟩ := advR ha
    have hq := adv_Ok hf ho hk ha
    have hs := both_step (text := text) (m := ⟨S, o, p.opn, p.nds⟩) (w := 3) (q := op) (x := .quant op n) (w' := 4) (q' := op) hq (by dsimp only; omega) (by dsimp only; omega) (by rw [ht]; rfl)
    rw [hb] at hs
    obtain ⟨k1, k2, k3, k4⟩ := hs
    have hgo : ∀ r, MRun text ⟨.quant op n :: S, o, q'.opn, q'.nds⟩ 3 op (nextT text q'.fin) r → MRun text ⟨S, o, p.opn, p.nds⟩ 3 op (nextT text p.fin) r := by
      intro r hr
      rw [← h1]
      refine k4 r ?_
      exact .go (t := tokR q') (m' := ⟨.quant op n :: S, o, q'.opn, q'.nds⟩) (w' := 3) (q' := op) (by show mstep _ _ _ q'.tk = _; rw [hc]; rfl) hr
    have ih2 := ih (.quant op n :: S) o op k1.2.2.2.1 k1.2.1 k1.2.2.1
    rcases r with e | ⟨vs', q2⟩
    · exact hgo _ ih2
    · obtain ⟨ns, e0, e1, e2, e3, e4⟩ := ih2
      refine ⟨n :: ns, by simp, by rw [e1]; simp, e2, by rw [e3, k2, h2]; simp; omega, fun r hr => hgo r (e4 r ?_)⟩
      simpa using hr
  | @done p vs q n q' ha ht hb hc =>
    intro S o op hf ho hk
    obtain ⟨h1, h2, h3, h4⟩ := advR ha
    have hq := adv_Ok hf ho hk ha
    have hs := both_step (text := text) (m := ⟨S, o, p.opn, p.nds⟩) (w := 3) (q := op) (x := .quant op n) (w' := 4) (q' := op) hq (by dsimp only; omega) (by dsimp only; omega) (by rw [ht]; rfl)
    rw [hb] at hs
    obtain ⟨k1, k2, k3, k4⟩ := hs
    have hn := need_step (text := text) (m := ⟨.quant op n :: S, o, q'.opn, q'.nds⟩) (m' := ⟨.quant op n :: S, o, q'.opn, q'.nds⟩) (w := 4) (q := op) (w' := 0) (q' := op) (k := 12) k1
      (fun h => by rw [(knd_colon k1.1).1 h]; rfl)
      (fun h => by
        have h' : q'.tk ≠ .colon := fun e => h ((knd_colon k1.1).2 e)
        have h5 := k1.1
        obtain ⟨tk, at_, fin, opn, nds⟩ := q'
        dsimp only at h' hc h5 ⊢
        cases tk <;> first | rfl | exact (h' rfl).elim | exact (hc rfl).elim | exact h5.elim)
    cases hnd : needP text 12 q' with
    | inl e =>
      rw [hnd] at hn
      unfold VarsR
      rw [← h1]
      exact k4 _ hn
    | inr q2 =>
      rw [hnd] at hn
      obtain ⟨g1, g2, g3, g4⟩ := hn
      refine ⟨[n], by simp, rfl, g1, by simp; omega, fun r hr => ?_⟩
      rw [← h1]
      refine k4 r (g4 r ?_)
      have e1 : q2.opn = q'.opn := g2
      have e2 : q2.nds = q'.nds := g3
      rw [← e1, ← e2]
      simpa using hr
theorem post_quT (op : Int) : ∀ (ns : List Int) (x : T), post (quT op ns x) = post x ++ nd (ns.reverse.map (Wt.quant op))
  | [], x => by simp [quT, nd]
  | n :: ns, x => by
    have := post_quT op ns x
    simp only [quT, List.foldr_cons] at this ⊢
    rw [post, this]
    simp [nd_app, nd, ndW]
theorem cn_quants (op : Int) (ns : List Int) : cn (ns.map (Wt.quant op)) = ns.length := by
  induction ns with
  | nil => rfl
  | cons n ns ih => simp only [List.map_cons, cn, List.sum_cons, List.length_cons] at ih ⊢; rw [ih]; simp [opW]; omega
end Go.Proofs.YthackanffcaejaaGreatDoor
end
