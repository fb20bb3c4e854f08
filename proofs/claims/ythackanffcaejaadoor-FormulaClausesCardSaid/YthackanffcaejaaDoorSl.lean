/- A small separation logic over the model's worlds: assertions on partial heaps, a world that meets a list of them, and how blocks are read, written and made under it. -/
import Derived.WalkKit
import Derived.Laws.CopyRow
import Derived.Laws.Rows
import Derived.KernelRfl
import Derived.Deep.Draws
set_option linter.unusedVariables false
set_option linter.unusedSimpArgs false
namespace Go.SL
open Go Go.RowKit

/-- A fact that the walk's simp does not look into. -/
theorem hid {p : Prop} (h : p) : Hid p := h

theorem tn_sub (k n : Nat) : ((k : Int) - (n : Int)).toNat = k - n := by omega
theorem tn_sub1 (k : Nat) : ((k : Int) - 1).toNat = k - 1 := by omega
theorem tn_sub2 (k : Nat) : ((k : Int) - 2).toNat = k - 2 := by omega
theorem tn_sub3 (k : Nat) : ((k : Int) - 3).toNat = k - 3 := by omega
theorem tn_add (k n : Nat) : ((k : Int) + (n : Int)).toNat = k + n := by omega
theorem tn_add1 (k : Nat) : ((k : Int) + 1).toNat = k + 1 := by omega
theorem tn_add2 (k : Nat) : ((k : Int) + 2).toNat = k + 2 := by omega

/-! ### Assertions -/
def HP := (Nat → Option Obj) → Prop
def emp : HP := fun h => ∀ b, h b = none
def pt (b : Nat) (o : Obj) : HP := fun h => ∀ c, h c = if c = b then some o else none
def sep (A B : HP) : HP := fun h => ∃ g k : Nat → Option Obj, (∀ b, g b = none ∨ k b = none) ∧ (∀ b, h b = (g b).or (k b)) ∧ A g ∧ B k
def seps : List HP → HP
  | [] => emp
  | A :: t => sep A (seps t)
/-- What stood when the run began, unchanged. -/
def base (w0 : World) : HP := fun h => ∀ b, h b = if b < w0.heap.size then w0.heap[b]? else none
/-- A block of cells, none frozen. -/
def blk (b : Nat) (e : TypeId) (cs : List Value) : HP := pt b (.cells cs.toArray e (0, 0))

theorem sep_swap {A B C : HP} {h : Nat → Option Obj} (H : sep A (sep B C) h) : sep B (sep A C) h := by
  obtain ⟨g, k, d, e, hA, g2, k2, d2, e2, hB, hC⟩ := H
  refine ⟨g2, fun b => (g b).or (k2 b), fun b => ?_, fun b => ?_, hB, g, k2, fun b => ?_, fun b => rfl, hA, hC⟩
  · have h1 := d b; have h2 := d2 b; have h3 := e2 b
    cases hg : g b <;> cases hg2 : g2 b <;> cases hk2 : k2 b <;> simp_all
  · have h0 := e b; have h1 := d b; have h2 := d2 b; have h3 := e2 b
    cases hg : g b <;> cases hg2 : g2 b <;> cases hk2 : k2 b <;> simp_all
  · have h1 := d b; have h2 := d2 b; have h3 := e2 b
    cases hg : g b <;> cases hg2 : g2 b <;> cases hk2 : k2 b <;> simp_all

inductive Rem : List HP → HP → List HP → Prop
  | hd {A : HP} {t : List HP} : Rem (A :: t) A t
  | tl {A C : HP} {t t' : List HP} : Rem t A t' → Rem (C :: t) A (C :: t')
inductive Upd : List HP → HP → HP → List HP → Prop
  | hd {A B : HP} {t : List HP} : Upd (A :: t) A B (B :: t)
  | tl {A B C : HP} {t t' : List HP} : Upd t A B t' → Upd (C :: t) A B (C :: t')

theorem sep_mono {A B B' : HP} (hb : ∀ h, B h → B' h) {h : Nat → Option Obj} (H : sep A B h) : sep A B' h := by
  obtain ⟨g, k, d, e, hA, hB⟩ := H
  exact ⟨g, k, d, e, hA, hb _ hB⟩
theorem Rem.out {Hs R : List HP} {A : HP} (r : Rem Hs A R) : ∀ h, seps Hs h → sep A (seps R) h := by
  induction r with
  | hd => exact fun h H => H
  | tl r ih => exact fun h H => sep_swap (sep_mono ih H)
theorem Rem.back {Hs R : List HP} {A : HP} (r : Rem Hs A R) : ∀ h, sep A (seps R) h → seps Hs h := by
  induction r with
  | hd => exact fun h H => H
  | tl r ih => exact fun h H => sep_mono ih (sep_swap H)
theorem Upd.rem {Hs Hs' : List HP} {A B : HP} (u : Upd Hs A B Hs') : ∃ R, Rem Hs A R ∧ Rem Hs' B R := by
  induction u with
  | hd => exact ⟨_, .hd, .hd⟩
  | tl u ih => obtain ⟨R, h1, h2⟩ := ih; exact ⟨_, .tl h1, .tl h2⟩
theorem Rem.mem {Hs R : List HP} {A : HP} (r : Rem Hs A R) : A ∈ Hs := by
  induction r with
  | hd => exact .head _
  | tl _ ih => exact .tail _ ih
theorem Rem.of_mem {Hs : List HP} {A : HP} (h : A ∈ Hs) : ∃ R, Rem Hs A R := by
  induction h with
  | head t => exact ⟨_, .hd⟩
  | tail _ _ ih => obtain ⟨R, h⟩ := ih; exact ⟨_, .tl h⟩

theorem mem_hd {A : HP} {t : List HP} : A ∈ A :: t := .head _
theorem mem_tl {A B : HP} {t : List HP} (h : A ∈ t) : A ∈ B :: t := .tail _ h
theorem Rem.mid (A L : List HP) (a : HP) : Rem (A ++ a :: L) a (A ++ L) := by
  induction A with
  | nil => exact .hd
  | cons c A ih => exact .tl ih

/-! ### A world that meets a list -/
structure Sat (w0 w : World) (Hs : List HP) : Prop where
  os : w.os = w0.os
  tape : w.tape = w0.tape
  output : w.output = w0.output
  size : w0.heap.size ≤ w.heap.size
  heap : ∃ h, seps Hs h ∧ ∀ b o, h b = some o → w.heap[b]? = some o

section
variable {w0 w : World} {Hs R : List HP}
theorem Sat.start (w : World) : Sat w w [base w] := by
  refine ⟨rfl, rfl, rfl, Nat.le_refl _, fun b => if b < w.heap.size then w.heap[b]? else none, ⟨_, fun _ => none, fun b => .inr rfl, fun b => ?_, fun b => rfl, fun b => rfl⟩, fun b o h => ?_⟩
  · simp
  · by_cases hb : b < w.heap.size <;> simp_all
theorem Sat.get {A : HP} (hS : Sat w0 w Hs) (hm : A ∈ Hs) : ∃ g, A g ∧ ∀ b o, g b = some o → w.heap[b]? = some o := by
  obtain ⟨R, r⟩ := Rem.of_mem hm
  obtain ⟨h, H, hw⟩ := hS.heap
  obtain ⟨g, k, d, e, hA, hB⟩ := r.out _ H
  exact ⟨g, hA, fun b o hb => hw b o (by rw [e, hb]; rfl)⟩
theorem Sat.perm {Hs' : List HP} (hS : Sat w0 w Hs) (h : ∀ g, seps Hs g → seps Hs' g) : Sat w0 w Hs' := by
  obtain ⟨g, H, hw⟩ := hS.heap
  exact ⟨hS.os, hS.tape, hS.output, hS.size, g, h g H, hw⟩
theorem Sat.front {A : HP} (hS : Sat w0 w Hs) (r : Rem Hs A R) : Sat w0 w (A :: R) := hS.perm r.out
theorem Sat.put {A : HP} (hS : Sat w0 w (A :: R)) (r : Rem Hs A R) : Sat w0 w Hs := hS.perm r.back
theorem Sat.drop {A : HP} (hS : Sat w0 w (A :: R)) : Sat w0 w R := by
  obtain ⟨h, ⟨g, k, d, e, hA, hB⟩, hw⟩ := hS.heap
  refine ⟨hS.os, hS.tape, hS.output, hS.size, k, hB, fun b o hb => hw b o ?_⟩
  have := d b
  rw [e, hb]
  rcases this with h | h
  · rw [h]; rfl
  · rw [h] at hb; cases hb
theorem Sat.sub {L' L : List HP} (h : L'.Sublist L) : ∀ {A : List HP}, Sat w0 w (A ++ L) → Sat w0 w (A ++ L') := by
  induction h with
  | slnil => exact fun h => h
  | cons a h ih =>
    intro A hS
    refine ih ?_
    exact (hS.front (Rem.mid A _ a)).drop
  | cons_cons a h ih =>
    intro A hS
    have h1 := ih (A := A ++ [a]) (by simpa using hS)
    simpa using h1
theorem Sat.less {L' L : List HP} (hS : Sat w0 w L) (h : L'.Sublist L) : Sat w0 w L' := Sat.sub (A := []) h hS

/-- All of the second list stands in the first. -/
inductive Sb : List HP → List HP → Prop
  | refl {t : List HP} : Sb t t
  | nil {t : List HP} : Sb t []
  | take {A : HP} {t t' u : List HP} : Rem t A t' → Sb t' u → Sb t (A :: u)
  | skip {A : HP} {t u : List HP} : Sb t u → Sb (A :: t) u
theorem Sb.out {t u : List HP} (s : Sb t u) : ∀ h, seps t h → ∃ h', (∀ b o, h' b = some o → h b = some o) ∧ seps u h' := by
  induction s with
  | refl => exact fun h H => ⟨h, fun _ _ hb => hb, H⟩
  | nil => exact fun h H => ⟨fun _ => none, fun _ _ hb => (by cases hb), fun _ => rfl⟩
  | take r s ih =>
    intro h H
    obtain ⟨g, k, d, e, hA, hB⟩ := r.out _ H
    obtain ⟨k', hk, hu⟩ := ih k hB
    refine ⟨fun b => (g b).or (k' b), fun b o hb => ?_, g, k', fun b => ?_, fun b => rfl, hA, hu⟩
    · rw [e]
      cases hg : g b with
      | some o' => simp [hg] at hb ⊢; exact hb
      | none => simp [hg] at hb ⊢; exact hk b o hb
    · rcases d b with h1 | h1
      · exact .inl h1
      · cases hk' : k' b with
        | none => exact .inr rfl
        | some o => rw [hk b o hk'] at h1; cases h1
  | skip s ih =>
    intro h H
    obtain ⟨g, k, d, e, hA, hB⟩ := H
    obtain ⟨k', hk, hu⟩ := ih k hB
    refine ⟨k', fun b o hb => ?_, hu⟩
    have h1 := hk b o hb
    rw [e]
    rcases d b with h2 | h2
    · rw [h2]; exact h1
    · rw [h2] at h1; cases h1
theorem Sat.sb {L : List HP} (hS : Sat w0 w Hs) (s : Sb Hs L) : Sat w0 w L := by
  obtain ⟨h, H, hw⟩ := hS.heap
  obtain ⟨h', hh, H'⟩ := s.out h H
  exact ⟨hS.os, hS.tape, hS.output, hS.size, h', H', fun b o hb => hw b o (hh b o hb)⟩
/-- One assertion is changed, all else stands. -/
theorem Sat.step {w' : World} {A B : HP} (hS : Sat w0 w (A :: R)) (hos : w'.os = w.os) (htp : w'.tape = w.tape) (hou : w'.output = w.output) (hsz : w.heap.size ≤ w'.heap.size)
    (hst : ∀ g, A g → (∀ b o, g b = some o → w.heap[b]? = some o) → ∃ g', B g' ∧ (∀ b o, g' b = some o → w'.heap[b]? = some o) ∧ (∀ b, g' b ≠ none → g b ≠ none ∨ w.heap.size ≤ b) ∧
      (∀ b, b < w.heap.size → g b = none → w'.heap[b]? = w.heap[b]?)) : Sat w0 w' (B :: R) := by
  obtain ⟨h, ⟨g, k, d, e, hA, hB⟩, hw⟩ := hS.heap
  have hg : ∀ b o, g b = some o → w.heap[b]? = some o := fun b o hb => hw b o (by rw [e, hb]; rfl)
  have hk : ∀ b o, k b = some o → w.heap[b]? = some o := fun b o hb => hw b o (by
    rw [e]; rcases d b with h | h
    · rw [h]; exact hb
    · rw [h] at hb; cases hb)
  obtain ⟨g', hB', hg', hdom, hkeep⟩ := hst g hA hg
  have hlt : ∀ b o, k b = some o → b < w.heap.size := fun b o hb => (Array.getElem?_eq_some_iff.1 (hk b o hb)).1
  have hdis : ∀ b, g' b = none ∨ k b = none := fun b => by
    cases hgb : g' b with
    | none => exact .inl rfl
    | some o =>
      cases hkb : k b with
      | none => exact .inr rfl
      | some o' =>
        rcases hdom b (by simp [hgb]) with h1 | h1
        · rcases d b with h2 | h2
          · exact absurd h2 h1
          · rw [h2] at hkb; cases hkb
        · have := hlt b o' hkb; omega
  refine ⟨hos.trans hS.os, htp.trans hS.tape, hou.trans hS.output, Nat.le_trans hS.size hsz, fun b => (g' b).or (k b), ⟨g', k, hdis, fun b => rfl, hB', hB⟩, fun b o hb => ?_⟩
  simp only at hb
  cases hgb : g' b with
  | some o' => rw [hgb] at hb; simp at hb; subst hb; exact hg' b _ hgb
  | none =>
    rw [hgb] at hb
    simp at hb
    have hgn : g b = none := by
      rcases d b with h | h
      · exact h
      · rw [h] at hb; cases hb
    rw [hkeep b (hlt b o hb) hgn]
    exact hk b o hb
theorem Sat.stepU {w' : World} {A B : HP} {Hs' : List HP} (hS : Sat w0 w Hs) (u : Upd Hs A B Hs') (hos : w'.os = w.os) (htp : w'.tape = w.tape) (hou : w'.output = w.output) (hsz : w.heap.size ≤ w'.heap.size)
    (hst : ∀ g, A g → (∀ b o, g b = some o → w.heap[b]? = some o) → ∃ g', B g' ∧ (∀ b o, g' b = some o → w'.heap[b]? = some o) ∧ (∀ b, g' b ≠ none → g b ≠ none ∨ w.heap.size ≤ b) ∧
      (∀ b, b < w.heap.size → g b = none → w'.heap[b]? = w.heap[b]?)) : Sat w0 w' Hs' := by
  obtain ⟨R, r1, r2⟩ := u.rem
  exact ((hS.front r1).step hos htp hou hsz hst).put r2
/-- An assertion is read otherwise: no world changes. -/
theorem Sat.turn {A B : HP} (hS : Sat w0 w (A :: R)) (h : ∀ g, A g → B g) : Sat w0 w (B :: R) :=
  hS.perm fun g H => by obtain ⟨g1, k, d, e, hA, hB⟩ := H; exact ⟨g1, k, d, e, h _ hA, hB⟩
theorem Sat.turnU {A B : HP} {Hs' : List HP} (hS : Sat w0 w Hs) (u : Upd Hs A B Hs') (h : ∀ g, A g → B g) : Sat w0 w Hs' := by
  obtain ⟨R, r1, r2⟩ := u.rem
  exact ((hS.front r1).turn h).put r2
theorem Sat.ex {α : Type} {A : α → HP} (hS : Sat w0 w ((fun h => ∃ x, A x h) :: R)) : ∃ x, Sat w0 w (A x :: R) := by
  obtain ⟨h, ⟨g, k, d, e, ⟨x, hA⟩, hB⟩, hw⟩ := hS.heap
  exact ⟨x, hS.os, hS.tape, hS.output, hS.size, h, ⟨g, k, d, e, hA, hB⟩, hw⟩
theorem Sat.pure {p : Prop} {A : HP} (hS : Sat w0 w ((fun h => p ∧ A h) :: R)) : p ∧ Sat w0 w (A :: R) := by
  obtain ⟨h, ⟨g, k, d, e, ⟨hp, hA⟩, hB⟩, hw⟩ := hS.heap
  exact ⟨hp, hS.os, hS.tape, hS.output, hS.size, h, ⟨g, k, d, e, hA, hB⟩, hw⟩
theorem Sat.split {A B : HP} (hS : Sat w0 w (sep A B :: R)) : Sat w0 w (A :: B :: R) := by
  refine hS.perm fun h H => ?_
  obtain ⟨g, k, d, e, ⟨g1, g2, d1, e1, hA, hB⟩, hR⟩ := H
  refine ⟨g1, fun b => (g2 b).or (k b), fun b => ?_, fun b => ?_, hA, g2, k, fun b => ?_, fun b => rfl, hB, hR⟩
  · have h1 := d b; have h2 := e1 b; have h3 := d1 b
    cases hg : g1 b <;> cases hg2 : g2 b <;> cases hk2 : k b <;> simp_all
  · have h0 := e b; have h1 := d b; have h2 := e1 b; have h3 := d1 b
    cases hg : g1 b <;> cases hg2 : g2 b <;> cases hk2 : k b <;> simp_all
  · have h1 := d b; have h2 := e1 b; have h3 := d1 b
    cases hg : g1 b <;> cases hg2 : g2 b <;> cases hk2 : k b <;> simp_all
theorem Sat.join {A B : HP} (hS : Sat w0 w (A :: B :: R)) : Sat w0 w (sep A B :: R) := by
  refine hS.perm fun h H => ?_
  obtain ⟨g, k, d, e, hA, g2, k2, d2, e2, hB, hR⟩ := H
  refine ⟨fun b => (g b).or (g2 b), k2, fun b => ?_, fun b => ?_, ⟨g, g2, fun b => ?_, fun b => rfl, hA, hB⟩, hR⟩
  · have h1 := d b; have h2 := d2 b; have h3 := e2 b
    cases hg : g b <;> cases hg2 : g2 b <;> cases hk2 : k2 b <;> simp_all
  · have h0 := e b; have h1 := d b; have h2 := d2 b; have h3 := e2 b
    cases hg : g b <;> cases hg2 : g2 b <;> cases hk2 : k2 b <;> simp_all
  · have h1 := d b; have h2 := d2 b; have h3 := e2 b
    cases hg : g b <;> cases hg2 : g2 b <;> cases hk2 : k2 b <;> simp_all
theorem Sat.emp {A : HP} (hS : Sat w0 w R) (h : A (fun _ => none)) : Sat w0 w (A :: R) := by
  refine hS.perm fun g H => ⟨fun _ => none, g, fun b => .inl rfl, fun b => by simp, h, H⟩

/-! ### Blocks -/
theorem Sat.block {b : Nat} {o : Obj} (hS : Sat w0 w Hs) (hm : pt b o ∈ Hs) : w.heap[b]? = some o := by
  obtain ⟨g, hg, hw⟩ := hS.get hm
  exact hw b o (by rw [hg b]; simp)
theorem Sat.old (hS : Sat w0 w Hs) (hm : base w0 ∈ Hs) (b : Nat) (hb : b < w0.heap.size) : w.heap[b]? = w0.heap[b]? := by
  obtain ⟨g, hg, hw⟩ := hS.get hm
  cases h : w0.heap[b]? with
  | none => simp at h; omega
  | some o => exact hw b o (by rw [hg b, if_pos hb, h])
theorem Sat.below (hS : Sat w0 w Hs) (hm : base w0 ∈ Hs) : Below w0.heap.size w0 w := ⟨hS.os, hS.tape, hS.output, hS.size, fun k hk => hS.old hm k hk⟩
theorem Sat.drew (hS : Sat w0 w Hs) : Sat w0 w.drew Hs := ⟨hS.os, hS.tape, hS.output, hS.size, hS.heap⟩
theorem Sat.drewN (hS : Sat w0 w Hs) (n : Nat) : Sat w0 (w.drewN n) Hs := ⟨hS.os, hS.tape, hS.output, hS.size, hS.heap⟩
theorem Sat.ofBelow {w' : World} (hS : Sat w0 w Hs) (hb : Below w.heap.size w w') : Sat w0 w' Hs := by
  obtain ⟨h, H, hw⟩ := hS.heap
  refine ⟨hb.os.trans hS.os, hb.tape.trans hS.tape, hb.output.trans hS.output, Nat.le_trans hS.size hb.size, h, H, fun b o hbo => ?_⟩
  have h1 := hw b o hbo
  rw [hb.block b (Array.getElem?_eq_some_iff.1 h1).1]
  exact h1
theorem Sat.alloc (hS : Sat w0 w Hs) (o : Obj) : Sat w0 (w.alloc o) (pt w.heap.size o :: Hs) := by
  have h0 : Sat w0 w (SL.emp :: Hs) := hS.emp fun _ => rfl
  refine h0.step rfl rfl rfl (by simp) fun g hg _ => ⟨fun c => if c = w.heap.size then some o else none, fun c => rfl, fun b o' hb => ?_, fun b hb => .inr ?_, fun b hb _ => ?_⟩
  · by_cases hbs : b = w.heap.size
    · simp [hbs] at hb; subst hb; rw [hbs]; exact heap_alloc_new _ _
    · simp [hbs] at hb
  · by_cases hbs : b = w.heap.size
    · omega
    · simp [hbs] at hb
  · exact Below.heap_alloc _ _ _ hb
theorem Sat.setObj {b : Nat} {o o' : Obj} {Hs' : List HP} (hS : Sat w0 w Hs) (u : Upd Hs (pt b o) (pt b o') Hs') {w' : World} (hos : w'.os = w.os) (htp : w'.tape = w.tape) (hou : w'.output = w.output)
    (hsz : w'.heap.size = w.heap.size) (hnew : w'.heap[b]? = some o') (hkeep : ∀ c, c ≠ b → w'.heap[c]? = w.heap[c]?) : Sat w0 w' Hs' := by
  refine hS.stepU u hos htp hou (by omega) fun g hg hw => ⟨fun c => if c = b then some o' else none, fun c => rfl, fun c o2 hc => ?_, fun c hc => .inl ?_, fun c _ hcn => hkeep c ?_⟩
  · by_cases hcb : c = b
    · simp [hcb] at hc; subst hc; rw [hcb]; exact hnew
    · simp [hcb] at hc
  · by_cases hcb : c = b
    · rw [hg c, if_pos hcb]; simp
    · simp [hcb] at hc
  · intro hcb
    rw [hg c, if_pos hcb] at hcn
    cases hcn
theorem Sat.cell {b e off : Nat} {cs : List Value} {v : Value} (hS : Sat w0 w Hs) (hm : blk b e cs ∈ Hs) (hv : cs[off]? = some v) : w.cell? ⟨b, off, none⟩ = some v := by
  have h := hS.block hm
  simp [World.cell?, h, hv]
theorem Sat.frozen {b e off : Nat} {cs : List Value} (hS : Sat w0 w Hs) (hm : blk b e cs ∈ Hs) : w.frozen? ⟨b, off, none⟩ = false := by
  have h := hS.block hm
  simp [World.frozen?, h]
theorem Upd.mem {A B : HP} {Hs' : List HP} (u : Upd Hs A B Hs') : A ∈ Hs := by
  induction u with
  | hd => exact .head _
  | tl _ ih => exact .tail _ ih
theorem Sat.setCell {b e off : Nat} {cs : List Value} {Hs' : List HP} (hS : Sat w0 w Hs) (v : Value) (u : Upd Hs (blk b e cs) (blk b e (cs.set off v)) Hs') : Sat w0 (w.setCell ⟨b, off, none⟩ v) Hs' := by
  have h := hS.block (o := .cells cs.toArray e (0, 0)) u.mem
  refine hS.setObj u rfl rfl rfl (by simp) ?_ fun c hc => Below.heap_setCell _ _ _ _ hc
  simp [World.setCell, Array.getElem?_modify, h]
end

/-! ### Reading and writing variables -/
def scalarTy (P : Program) (t : TypeId) : Bool := match P.underlying t with | some (.struct _) | some (.array _ _) | none => false | some _ => true
def aggTy (P : Program) (t : TypeId) : Bool := match P.underlying t with | some (.struct _) | some (.array _ _) => true | _ => false
theorem run_isAgg_scalar {P : Program} {t : TypeId} (h : scalarTy P t = true) (w : World) : (isAgg t).run P w = .ok false w := by
  unfold scalarTy at h
  unfold isAgg underlying
  cases hu : P.underlying t with
  | none => simp [hu] at h
  | some d => cases d <;> simp_all
theorem run_isAgg_agg {P : Program} {t : TypeId} (h : aggTy P t = true) (w : World) : (isAgg t).run P w = .ok true w := by
  unfold aggTy at h
  unfold isAgg underlying
  cases hu : P.underlying t with
  | none => simp [hu] at h
  | some d => cases d <;> simp_all
theorem run_load1 {P : Program} {t : TypeId} (h : scalarTy P t = true) {w : World} {a : Addr} {v : Value} (hc : w.cell? a = some v) : (Instr.loadAt t (.pointer (some a))).run P w = .ok v w := by
  have hi := run_isAgg_scalar h w
  simp only [Instr.loadAt, Instr.sureAddr, loadVar]
  simp [hi, load, Sem.run, hc]
end Go.SL
