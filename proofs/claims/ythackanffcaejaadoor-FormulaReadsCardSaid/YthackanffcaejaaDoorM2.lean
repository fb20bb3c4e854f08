/- A part of the proof: Draw Range Shelf More Ty Slc CnfP Cnf1 Cl1 ClR Own4 Own5 Own7 Byt. -/
import Derived.Test.YthackanffcaejaaDoorM1
import Derived.OrdersHeld
import Derived.Tactics
import Derived.KernelRfl
import Derived.OrdersIn
import Derived.RangeFuncNested
import Derived.RangeFuncBound
import Derived.RangeFuncCalls
import Derived.RangeFuncLeaves
import Derived.RangeFuncRecord
import Derived.Shelf.Small.Utf8
import Derived.Shelf.Small.Strs
import Derived.Shelf.Small.Wraps
import Derived.Shelf.Strconv.Itoa0
import Derived.Shelf.Strconv.Itoa1
import Derived.Shelf.LaysM
import Derived.Shelf.Strconv.Itoa2
import Derived.Shelf.Strconv.Itoa3
import Derived.Shelf.Strings.Search1
import Derived.Shelf.Strings.Search2
import Derived.Shelf.Strings.Search3
import Derived.Shelf.Strings.Count
import Derived.Shelf.Strings.Shaped
import Derived.Shelf.Strings.LastIndex
import Derived.Shelf.Strings.Prefix
import Derived.Shelf.Unicode.Decode
import Derived.Shelf.Unicode.DecodeSlow
import Derived.Test.YthackanffcaejaaDoorProg
import Derived.Test.YthackanffcaejaaDoorChecked
import Derived.Laws.Concat
import Derived.Lib.ItoaLen
import Derived.Lib.ItoaMem
import Derived.WalkKit
import Derived.WalkLawsBesides
import Derived.WalkSpells
import Derived.Lib.Builder
import Derived.Lib.UnsafeStr
import Derived.Laws.Externs
import Derived.Shelf.Abstract
import Derived.Shelf.RegionOpen
import Derived.OwnWalkIn
import Derived.TacticsInMore
import Derived.LoopNIn
import Derived.LoopIn
import Derived.Lib.Bytealg
import Derived.Lib.ConvBytes
section
set_option linter.unusedVariables false
namespace Go.SL
open Go

section
variable {P : Program} {ops : Array Oper} {Q : Exit → Act → World → Prop} {md : Region.Mode} {S : World → Prop} {js : List Nat}

def brk (js : List Nat) (listed : Array Bool) : Bool := js.any fun j => listed.getD j false
def wpAnyS (P : Program) (md : Region.Mode) (ops : Array Oper) (Q : Exit → Act → World → Prop) (S : World → Prop) (js : List Nat) : Nat → Array Bool → Act → World → Prop
  | 0, listed, a, w => Region.ready md ops listed = [] ∧ Q .normal a w
  | fuel + 1, listed, a, w =>
    (Region.ready md ops listed = [] → Q .normal a w) ∧
    ∀ i ∈ Region.ready md ops listed, wpOp P ops Q i (fun a' w' => (brk js (listed.setIfInBounds i true) = true ∨ S w') ∧ wpAnyS P md ops Q S js fuel (listed.setIfInBounds i true) a' w') a w
theorem wpAny_of_S : ∀ (fuel : Nat) (listed : Array Bool) (a : Act) (w : World), wpAnyS P md ops Q S js fuel listed a w → wpAny P md ops Q fuel listed a w
  | 0, _, _, _, h => h
  | fuel + 1, _, _, _, h => ⟨h.1, fun i hi => wpOp_mono (fun a' w' h' => wpAny_of_S fuel _ a' w' h'.2) (h.2 i hi)⟩

def Closed (md : Region.Mode) (ops : Array Oper) (listed : Array Bool) : Prop := ∀ j o, ops[j]? = some o → listed.getD j false = true → ∀ e ∈ o.after, Region.binds md e = true → listed.getD e.on false = true
def anc (md : Region.Mode) (ops : Array Oper) : Nat → Nat → Nat → Bool
  | 0, _, _ => false
  | k + 1, j, i => match ops[j]? with
    | none => false
    | some o => o.after.any fun e => Region.binds md e && (e.on == i || anc md ops k e.on i)
theorem anc_listed {listed : Array Bool} (hc : Closed md ops listed) {i : Nat} : ∀ (k j : Nat), anc md ops k j i = true → listed.getD j false = true → listed.getD i false = true := by
  intro k
  induction k with
  | zero => intro j h; simp [anc] at h
  | succ k ih =>
    intro j h hj
    simp only [anc] at h
    cases ho : ops[j]? with
    | none => simp [ho] at h
    | some o =>
      simp only [ho] at h
      obtain ⟨e, he, hb⟩ := Array.any_eq_true'.1 h
      simp only [Bool.and_eq_true, Bool.or_eq_true, beq_iff_eq] at hb
      have h1 := hc j o ho hj e he hb.1
      rcases hb.2 with h2 | h2
      · rw [← h2]; exact h1
      · exact ih _ h2 h1
theorem anc_ready {listed : Array Bool} (hc : Closed md ops listed) {i k j : Nat} (h : anc md ops k j i = true) (hr : j ∈ Region.ready md ops listed) : listed.getD i false = true := by
  obtain ⟨h0, o, ho, hall⟩ := mem_ready.1 hr
  cases k with
  | zero => simp [anc] at h
  | succ k =>
    simp only [anc, ho] at h
    obtain ⟨e, he, hb⟩ := Array.any_eq_true'.1 h
    simp only [Bool.and_eq_true, Bool.or_eq_true, beq_iff_eq] at hb
    have h1 := hall e he hb.1
    rcases hb.2 with h2 | h2
    · rw [← h2]; exact h1
    · exact anc_listed hc _ _ h2 h1
theorem Closed.set {listed : Array Bool} (hc : Closed md ops listed) {i : Nat} (hr : i ∈ Region.ready md ops listed) : Closed md ops (listed.setIfInBounds i true) := by
  intro j o ho hj e he hb
  obtain ⟨h0, oi, hoi, hall⟩ := mem_ready.1 hr
  by_cases hij : i = j
  · subst hij
    rw [ho] at hoi
    cases hoi
    exact getD_set_true (hall e he hb)
  · rw [getD_set_ne false hij] at hj
    exact getD_set_true (hc j o ho hj e he hb)
theorem Closed.start (n : Nat) : Closed md ops (Array.replicate n false) := by
  intro j o ho hj
  by_cases h : j < n <;> simp [Array.getD, h] at hj
theorem brk_set {listed : Array Bool} {i : Nat} (hi : i ∉ js) : brk js (listed.setIfInBounds i true) = brk js listed := by
  unfold brk
  induction js with
  | nil => rfl
  | cons j js ih =>
    simp only [List.mem_cons, not_or] at hi
    simp only [List.any_cons]
    rw [getD_set_ne false hi.1, ih hi.2]

theorem notIn {listed : Array Bool} {i : Nat} (h0 : listed.getD i true = false) : listed.getD i false = false := by
  rcases Nat.lt_or_ge i listed.size with h' | h'
  · simp [Array.getD, h'] at h0 ⊢; exact h0
  · simp [Array.getD, Nat.not_lt.2 h'] at h0
theorem wpAnyS_first {i : Nat} {oi : Oper} {v : Value} (hi : ops[i]? = some oi) (hsel : ∀ (j : Nat) (o : Oper) cs b, ops[j]? = some o → o.op ≠ .select cs b)
    (hQ : ∀ c a w, Q (.panic c) (a.put oi.dst v) w → Q (.panic c) a w) (hjs : ∀ j ∈ js, ∃ k, anc md ops k j i = true) (hni : i ∉ js) :
    ∀ (fuel : Nat) (listed : Array Bool) (a : Act) (w : World),
      (∀ j oj, ops[j]? = some oj → j ≠ i → listed.getD j true = false → (∀ e ∈ oj.after, Region.binds md e = true → e.on ≠ i) → oi.apart ops oj = true) →
      Closed md ops listed → i ∈ Region.ready md ops listed → YieldsIf P ops S oi v a → S w →
      wpAnyS P md ops Q S js fuel (listed.setIfInBounds i true) (a.put oi.dst v) w → wpAnyS P md ops Q S js (fuel + 1) listed a w := by
  intro fuel
  induction fuel with
  | zero =>
    intro listed a w _ hc hr hy hS H
    refine ⟨fun h => (by rw [h] at hr; cases hr), fun j hj => ?_⟩
    by_cases hji : j = i
    · subst hji; exact hy.wpOp hi hS ⟨.inr hS, H⟩
    · have := ready_mono hj hji
      rw [H.1] at this
      cases this
  | succ fuel ih =>
    intro listed a w hfree hc hr hy hS H
    refine ⟨fun h => (by rw [h] at hr; cases hr), fun j hj => ?_⟩
    by_cases hji : j = i
    · subst hji; exact hy.wpOp hi hS ⟨.inr hS, H⟩
    · have h1 := H.2 j (ready_mono hj hji)
      obtain ⟨hjun, oj, hoj, hall⟩ := mem_ready.1 hj
      have hiun := notIn (mem_ready.1 hr).1
      have hnot : ∀ e ∈ oj.after, Region.binds md e = true → e.on ≠ i := fun e he hb heq => by
        have h1 := hall e he hb
        rw [heq, hiun] at h1
        cases h1
      have hjn : j ∉ js := fun hm => by
        obtain ⟨k, hk⟩ := hjs j hm
        have := anc_ready hc hk hj
        rw [hiun] at this
        cases this
      have hb0 : brk js listed = false := by
        unfold brk
        rw [List.any_eq_false]
        intro x hx hxl
        obtain ⟨k, hk⟩ := hjs x hx
        have := anc_listed hc _ _ hk hxl
        rw [hiun] at this
        cases this
      have hb1 : brk js ((listed.setIfInBounds i true).setIfInBounds j true) = false := by rw [brk_set hjn, brk_set hni, hb0]
      have h2 := wpOp_putIf hoj (hfree j oj hoj hji hjun hnot) (fun cs b => hsel i oi cs b hi) (fun cs b => hsel j oj cs b hoj) hQ hy h1
      have hfree' : ∀ k ok, ops[k]? = some ok → k ≠ i → (listed.setIfInBounds j true).getD k true = false →
          (∀ e ∈ ok.after, Region.binds md e = true → e.on ≠ i) → oi.apart ops ok = true := fun k ok hk hki hun hno => by
        refine hfree k ok hk hki ?_ hno
        by_cases hjk : j = k
        · subst hjk; exact hjun
        · rw [getD_set_ne true hjk] at hun; exact hun
      refine wpOp_mono (fun a' w' h3 => ?_) h2
      have hS' : S w' := h3.2.1.resolve_left (by rw [hb1]; simp)
      refine ⟨.inr hS', ih (listed.setIfInBounds j true) a' w' hfree' (hc.set hj) (ready_mono hr (Ne.symm hji)) h3.1 hS' ?_⟩
      rw [Array.setIfInBounds_comm _ _ hji]
      exact h3.2.2
theorem wpAnyS_firstAny {i : Nat} {oi : Oper} {v : Value} (hi : ops[i]? = some oi) (hsel : ∀ (j : Nat) (o : Oper) cs b, ops[j]? = some o → o.op ≠ .select cs b)
    (hQ : ∀ c a w, Q (.panic c) (a.put oi.dst v) w → Q (.panic c) a w) (hni : i ∉ js) :
    ∀ (fuel : Nat) (listed : Array Bool) (a : Act) (w : World),
      (∀ j oj, ops[j]? = some oj → j ≠ i → listed.getD j true = false → (∀ e ∈ oj.after, Region.binds md e = true → e.on ≠ i) → oi.apart ops oj = true) →
      i ∈ Region.ready md ops listed → YieldsIf P ops (fun _ => True) oi v a → (brk js listed = true ∨ S w) →
      wpAnyS P md ops Q S js fuel (listed.setIfInBounds i true) (a.put oi.dst v) w → wpAnyS P md ops Q S js (fuel + 1) listed a w := by
  intro fuel
  induction fuel with
  | zero =>
    intro listed a w _ hr hy hS H
    refine ⟨fun h => (by rw [h] at hr; cases hr), fun j hj => ?_⟩
    by_cases hji : j = i
    · subst hji; exact hy.wpOp hi trivial ⟨by rw [brk_set hni]; exact hS, H⟩
    · have := ready_mono hj hji
      rw [H.1] at this
      cases this
  | succ fuel ih =>
    intro listed a w hfree hr hy hS H
    refine ⟨fun h => (by rw [h] at hr; cases hr), fun j hj => ?_⟩
    by_cases hji : j = i
    · subst hji; exact hy.wpOp hi trivial ⟨by rw [brk_set hni]; exact hS, H⟩
    · have h1 := H.2 j (ready_mono hj hji)
      obtain ⟨hjun, oj, hoj, hall⟩ := mem_ready.1 hj
      have hiun := notIn (mem_ready.1 hr).1
      have hnot : ∀ e ∈ oj.after, Region.binds md e = true → e.on ≠ i := fun e he hb heq => by
        have h1 := hall e he hb
        rw [heq, hiun] at h1
        cases h1
      have h2 := wpOp_putIf hoj (hfree j oj hoj hji hjun hnot) (fun cs b => hsel i oi cs b hi) (fun cs b => hsel j oj cs b hoj) hQ hy h1
      have hfree' : ∀ k ok, ops[k]? = some ok → k ≠ i → (listed.setIfInBounds j true).getD k true = false →
          (∀ e ∈ ok.after, Region.binds md e = true → e.on ≠ i) → oi.apart ops ok = true := fun k ok hk hki hun hno => by
        refine hfree k ok hk hki ?_ hno
        by_cases hjk : j = k
        · subst hjk; exact hjun
        · rw [getD_set_ne true hjk] at hun; exact hun
      refine wpOp_mono (fun a' w' h3 => ?_) h2
      have hb : brk js ((listed.setIfInBounds i true).setIfInBounds j true) = brk js (listed.setIfInBounds j true) := by
        rw [Array.setIfInBounds_comm _ _ (Ne.symm hji), brk_set hni]
      have hS' : brk js (listed.setIfInBounds j true) = true ∨ S w' := by rw [← hb]; exact h3.2.1
      refine ⟨hS', ih (listed.setIfInBounds j true) a' w' hfree' (ready_mono hr (Ne.symm hji)) h3.1 hS' ?_⟩
      rw [Array.setIfInBounds_comm _ _ hji]
      exact h3.2.2

/-! ### The moves -/
theorem brk_keep {listed : Array Bool} {i : Nat} {w : World} (hn : js.contains i = false) (hS : brk js listed = true ∨ S w) : brk js (listed.setIfInBounds i true) = true ∨ S w := by
  rw [brk_set (by simpa using hn)]; exact hS
theorem draw_read {i : Nat} {oi : Oper} {v : Value} {fuel : Nat} {listed : Array Bool} {a : Act} {w : World} (hi : ops[i]? = some oi) (hs : Region.noSelect ops = true) (hf : Region.free md ops listed i = true)
    (hr : (Region.ready md ops listed).contains i = true) (ha : (js.all fun j => anc md ops ops.size j i) = true) (hn : js.contains i = false) (hc : Closed md ops listed) (hQ : ∀ c a w, Q (.panic c) (a.put oi.dst v) w → Q (.panic c) a w) (hS : brk js listed = true ∨ S w) (hb : brk js listed = false)
    (hw : Region.wanted oi (yielded ops a.tmps) = true) (hy : ∀ w, S w → (execOp a.eval oi).run P w = .ok (.value v) w)
    (h : (brk js (listed.setIfInBounds i true) = true ∨ S w) → Closed md ops (listed.setIfInBounds i true) → wpAnyS P md ops Q S js fuel (listed.setIfInBounds i true) (a.put oi.dst v) w) : wpAnyS P md ops Q S js (fuel + 1) listed a w :=
  wpAnyS_first hi (Region.noSelect_spec hs) hQ (fun j hj => ⟨_, by simpa using List.all_eq_true.1 ha j hj⟩) (by simpa using hn) fuel listed a w (Region.free_spec hi hf) hc (by simpa using hr) (.inl ⟨hw, hy⟩) (hS.resolve_left (by rw [hb]; simp)) (h (brk_keep hn hS) (hc.set (by simpa using hr)))
theorem draw_pure {i : Nat} {oi : Oper} {v : Value} {fuel : Nat} {listed : Array Bool} {a : Act} {w : World} (hi : ops[i]? = some oi) (hs : Region.noSelect ops = true) (hf : Region.free md ops listed i = true)
    (hr : (Region.ready md ops listed).contains i = true) (hn : js.contains i = false) (hc : Closed md ops listed) (hQ : ∀ c a w, Q (.panic c) (a.put oi.dst v) w → Q (.panic c) a w) (hS : brk js listed = true ∨ S w)
    (hw : Region.wanted oi (yielded ops a.tmps) = true) (hy : ∀ w, (execOp a.eval oi).run P w = .ok (.value v) w)
    (h : (brk js (listed.setIfInBounds i true) = true ∨ S w) → Closed md ops (listed.setIfInBounds i true) → wpAnyS P md ops Q S js fuel (listed.setIfInBounds i true) (a.put oi.dst v) w) : wpAnyS P md ops Q S js (fuel + 1) listed a w :=
  wpAnyS_firstAny hi (Region.noSelect_spec hs) hQ (by simpa using hn) fuel listed a w (Region.free_spec hi hf) (by simpa using hr) (.inl ⟨hw, fun w _ => hy w⟩) hS (h (brk_keep hn hS) (hc.set (by simpa using hr)))
theorem draw_skip {i : Nat} {oi : Oper} {fuel : Nat} {listed : Array Bool} {a : Act} {w : World} (hi : ops[i]? = some oi) (hs : Region.noSelect ops = true) (hf : Region.free md ops listed i = true)
    (hr : (Region.ready md ops listed).contains i = true) (hn : js.contains i = false) (hc : Closed md ops listed) (hQ : ∀ c a w, Q (.panic c) (a.put oi.dst undef) w → Q (.panic c) a w) (hS : brk js listed = true ∨ S w)
    (hw : Region.wanted oi (yielded ops a.tmps) = false)
    (h : (brk js (listed.setIfInBounds i true) = true ∨ S w) → Closed md ops (listed.setIfInBounds i true) → wpAnyS P md ops Q S js fuel (listed.setIfInBounds i true) (a.put oi.dst undef) w) : wpAnyS P md ops Q S js (fuel + 1) listed a w :=
  wpAnyS_firstAny hi (Region.noSelect_spec hs) hQ (by simpa using hn) fuel listed a w (Region.free_spec hi hf) (by simpa using hr) (.inr ⟨hw, rfl⟩) hS (h (brk_keep hn hS) (hc.set (by simpa using hr)))
def Cont (P : Program) (md : Region.Mode) (ops : Array Oper) (Q : Exit → Act → World → Prop) (S : World → Prop) (js : List Nat) (fuel : Nat) (listed : Array Bool) (a : Act) (w : World) : Prop :=
  (brk js listed = true ∨ S w) ∧ (Closed md ops listed → wpAnyS P md ops Q S js fuel listed a w)
theorem Cont.intro {fuel : Nat} {listed : Array Bool} {a : Act} {w : World} (h : brk js listed = true ∨ S w) (k : (brk js listed = true ∨ S w) → Closed md ops listed → wpAnyS P md ops Q S js fuel listed a w) : Cont P md ops Q S js fuel listed a w := ⟨h, k h⟩
theorem draw_act {i : Nat} {oi : Oper} {fuel : Nat} {listed : Array Bool} {a : Act} {w : World} (hi : ops[i]? = some oi) (hr : Region.ready md ops listed = [i]) (hc : Closed md ops listed)
    (h : wpList P ops (Exit.then (Cont P md ops Q S js fuel (listed.setIfInBounds i true)) Q) [oi] a w) : wpAnyS P md ops Q S js (fuel + 1) listed a w := by
  refine ⟨fun h0 => (by rw [hr] at h0; cases h0), fun j hj => ?_⟩
  rw [hr, List.mem_singleton] at hj
  subst hj
  have hmem : j ∈ Region.ready md ops listed := by rw [hr]; exact List.mem_singleton.2 rfl
  refine wpOp_mono (K := Cont P md ops Q S js fuel (listed.setIfInBounds j true)) (fun a' w' h' => ⟨h'.1, h'.2 (hc.set hmem)⟩) ?_
  unfold wpOp
  simp only [hi]
  simp only [wpList] at h
  split
  · rename_i hw
    rw [if_pos hw] at h
    rcases h with h1 | ⟨h1, h2⟩
    · left
      unfold Oper.wp at *
      generalize (execOp a.eval oi).run P w = r at *
      cases r with
      | ok n w' => cases n <;> simp only [Oper.upon] at h1 ⊢ <;> first | exact h1 | exact Calls.mono h1 (fun e w'' he => by cases e <;> first | exact he | (obtain ⟨a0, w0, h0⟩ := he; exact ⟨a0, w0, h0⟩)) | exact Rows.mono h1 (fun _ _ he => he)
      | halt x w' => cases x <;> simp only [Oper.upon] at h1 ⊢ <;> exact h1
    · right
      obtain ⟨a0, w0, h0⟩ := h2
      exact ⟨h1, a0, w0, h0⟩
  · rename_i hw
    rw [if_neg hw] at h
    exact h
theorem draw_done {fuel : Nat} {listed : Array Bool} {a : Act} {w : World} (hr : Region.ready md ops listed = []) (h : Q .normal a w) : wpAnyS P md ops Q S js fuel listed a w := by
  cases fuel with
  | zero => exact ⟨hr, h⟩
  | succ n => exact ⟨fun _ => h, by rw [hr]; simp⟩
theorem draw_start {id : Nat} {a : Act} {w : World} (hm : P.follows .mixedOrders = true) (S : World → Prop) (js : List Nat)
    (h : Closed .any ops (Array.replicate ops.size false) → wpAnyS P .any ops Q S js ops.size (Array.replicate ops.size false) a w.drew) : (Code.region id ops true).wp P Q a w :=
  wp_region_any hm (wpAny_of_S _ _ _ _ (h (Closed.start _)))
theorem draw_sat {w0 : World} {Hs : List HP} (id n : Nat) {a : Act} {w : World} (hS : Sat w0 w Hs) (hm : P.follows .mixedOrders = true) (js : List Nat) (hn : ops.size = n)
    (h : ∀ w, Sat w0 w Hs → (brk js (Array.replicate n false) = true ∨ Sat w0 w Hs) → Closed .any ops (Array.replicate n false) → wpAnyS P .any ops Q (fun w => Sat w0 w Hs) js n (Array.replicate n false) a w) : (Code.region id ops true).wp P Q a w := by
  subst hn; exact draw_start hm _ js (h _ hS.drew (.inr hS.drew))
theorem draw_rem {w0 : World} {Hs Hr : List HP} (A : HP) (id n : Nat) {a : Act} {w : World} (hS : Sat w0 w Hs) (s : Rem Hs A Hr) (hm : P.follows .mixedOrders = true) (js : List Nat) (hn : ops.size = n)
    (h : ∀ w, Sat w0 w Hs → (brk js (Array.replicate n false) = true ∨ Sat w0 w Hr) → Closed .any ops (Array.replicate n false) → wpAnyS P .any ops Q (fun w => Sat w0 w Hr) js n (Array.replicate n false) a w) : (Code.region id ops true).wp P Q a w := by
  subst hn; exact draw_start hm _ js (h _ hS.drew (.inr (hS.drew.front s).drop))
end
theorem draw_ia {P : Program} {T e : TypeId} {size bytes : Nat} (E : ElemTy P T e size bytes) {o : Oper} {x i : Operand} (ho : o.op = .indexAddr T x i) {ρ : Operand → Value} {w : World} {ad : Option Addr} {n cap : Nat} {k : IntKind} {ix : Int}
    (hx : ρ x = .slice ad n cap) (hi : ρ i = .int k ix) (h0 : 0 ≤ ix) (h1 : ix < n) (hne : ∃ aa, ad = some aa ∧ aa.spot = none) {j : Nat} (hj : ix.toNat * size = j) : (execOp ρ o).run P w = .ok (.value (.pointer (some (adr ad j)))) w := by
  obtain ⟨aa, rfl, _⟩ := hne
  subst hj
  exact run_op_indexAddr ho hx hi E.ht E.sz h0 h1
end Go.SL
end
section
set_option linter.unusedVariables false
set_option linter.unusedSimpArgs false
namespace Go.SL
open Go Go.RowKit

section
variable {P : Program} {ops : Array Oper} {Q : Exit → Act → World → Prop} {n l : Nat}

/-! ### A range over a function whose body goes on in every round -/
theorem Upd.mid (A : List HP) (x y : HP) (L : List HP) : Upd (A ++ x :: L) x y (A ++ y :: L) := by
  induction A with
  | nil => exact .hd
  | cons c A ih => exact .tl ih
theorem mem_mid (A : List HP) (x : HP) (L : List HP) : x ∈ A ++ x :: L := List.mem_append_right _ (.head _)
theorem Sat.putObj {w0 w : World} {A L : List HP} {b : Nat} {o : Obj} (o' : Obj) (hS : Sat w0 w (A ++ pt b o :: L)) : Sat w0 (w.putObj b o') (A ++ pt b o' :: L) := by
  have h := hS.block (mem_mid A (pt b o) L)
  exact hS.setObj (Upd.mid A _ _ L) rfl rfl rfl (by simp) (World.putObj_heap_same (Array.getElem?_eq_some_iff.1 h).1) fun c hc => World.putObj_heap_other hc
end
end Go.SL
end
section
namespace Go.Proofs
open Go.Shelf
def Tryd.lays118_ren : Go.Shelf.Ren := ⟨fun | 118 => 132 | n => n, fun | 21 => 21 | 3 => 3 | 4 => 4 | n => n, fun | n => n⟩
theorem Tryd.lays118 : Go.Proofs.Lays.n118 Tryd.prog Tryd.lays118_ren := {
  mixed := by kernel_rfl
  f118 := Tryd.func132.trans (congrArg some (by kernel_rfl))
  t3 := Tryd.underlying3
  a3 := Tryd.isAgg3
  z3 := Tryd.sizeOf3
  v3 := Tryd.zeroValue3
  t4 := Tryd.underlying4
  a4 := Tryd.isAgg4
  z4 := Tryd.sizeOf4
  v4 := Tryd.zeroValue4
  t21 := Tryd.underlying21
  a21 := Tryd.isAgg21
  z21 := Tryd.sizeOf21
  v21 := Tryd.zeroValue21 }
theorem Tryd.utf8_RuneLen (r : Int) (w : World) :
    Calls Tryd.prog 132 #[.int .i32 r] w fun e w' => e = .returned (.int .i64 (Lib.runeLen r)) ∧ w' = w := Any.utf8_RuneLen Tryd.lays118 r w
def Tryd.lays137_ren : Go.Shelf.Ren := ⟨fun | 137 => 126 | 217 => 139 | 266 => 149 | n => n, fun | 9 => 9 | 5 => 5 | 3 => 3 | n => n, fun | n => n⟩
theorem Tryd.lays137 : Go.Proofs.Lays.n137 Tryd.prog Tryd.lays137_ren := {
  mixed := by kernel_rfl
  f137 := Tryd.func126.trans (congrArg some (by kernel_rfl))
  f217 := Tryd.func139.trans (congrArg some (by kernel_rfl))
  f266 := Tryd.func149.trans (congrArg some (by kernel_rfl))
  t3 := Tryd.underlying3
  a3 := Tryd.isAgg3
  z3 := Tryd.sizeOf3
  v3 := Tryd.zeroValue3
  t5 := Tryd.underlying5
  a5 := Tryd.isAgg5
  z5 := Tryd.sizeOf5
  v5 := Tryd.zeroValue5
  t9 := Tryd.underlying9
  a9 := Tryd.isAgg9
  z9 := Tryd.sizeOf9
  v9 := Tryd.zeroValue9 }
open Go.RowKit in
/-- strings.IndexByte: "IndexByte returns the index of the first instance of c in s, or -1 if c is not present in s.": IT RETURNS 'Lib.indexByte s c'; the world is as it was. (LAID: no walk: one application.) -/
theorem Tryd.strings_IndexByte (s : ByteArray) (c : Int) (w : World) :
    Calls Tryd.prog 126 #[.string s, .int .u8 c] w fun e w' => e = .returned (.int .i64 (Lib.indexByte s.data.toList c.toNat.toUInt8)) ∧ w' = w := Any.strings_IndexByte Tryd.lays137 s c w
def Tryd.lays138_ren : Go.Shelf.Ren := ⟨fun | 138 => 60 | 195 => 93 | 218 => 94 | 143 => 95 | 219 => 116 | 217 => 139 | 225 => 140 | 224 => 141 | 267 => 142 | 266 => 149 | 314 => 150 | n => n, fun | 9 => 9 | 3 => 3 | 4 => 4 | 5 => 5 | 0 => 0 | 46 => 197 | 146 => 203 | 51 => 195 | n => n, fun | 1 => 1 | n => n⟩
theorem Tryd.lays138 : Go.Proofs.Lays.n138 Tryd.prog Tryd.lays138_ren := {
  mixed := by kernel_rfl
  f138 := Tryd.func60.trans (congrArg some (by kernel_rfl))
  f143 := Tryd.func95.trans (congrArg some (by kernel_rfl))
  f195 := Tryd.func93.trans (congrArg some (by kernel_rfl))
  f217 := Tryd.func139.trans (congrArg some (by kernel_rfl))
  f218 := Tryd.func94.trans (congrArg some (by kernel_rfl))
  f219 := Tryd.func116.trans (congrArg some (by kernel_rfl))
  f224 := Tryd.func141.trans (congrArg some (by kernel_rfl))
  f225 := Tryd.func140.trans (congrArg some (by kernel_rfl))
  f266 := Tryd.func149.trans (congrArg some (by kernel_rfl))
  f267 := Tryd.func142.trans (congrArg some (by kernel_rfl))
  f314 := Tryd.func150.trans (congrArg some (by kernel_rfl))
  t0 := Tryd.underlying0
  a0 := Tryd.isAgg0
  z0 := Tryd.sizeOf0
  v0 := Tryd.zeroValue0
  t3 := Tryd.underlying3
  a3 := Tryd.isAgg3
  z3 := Tryd.sizeOf3
  v3 := Tryd.zeroValue3
  t4 := Tryd.underlying4
  a4 := Tryd.isAgg4
  z4 := Tryd.sizeOf4
  v4 := Tryd.zeroValue4
  t5 := Tryd.underlying5
  a5 := Tryd.isAgg5
  z5 := Tryd.sizeOf5
  v5 := Tryd.zeroValue5
  t9 := Tryd.underlying9
  a9 := Tryd.isAgg9
  z9 := Tryd.sizeOf9
  v9 := Tryd.zeroValue9
  t46 := Tryd.underlying197
  a46 := Tryd.isAgg197
  z46 := Tryd.sizeOf197
  v46 := Tryd.zeroValue197
  t51 := Tryd.underlying195
  a51 := Tryd.isAgg195
  z51 := Tryd.sizeOf195
  v51 := Tryd.zeroValue195
  t146 := Tryd.underlying203
  a146 := Tryd.isAgg203
  z146 := Tryd.sizeOf203
  v146 := Tryd.zeroValue203
  g1 := by kernel_rfl }
open Go.RowKit Go.Lib in
/-- strings.Count AT A substr OF ONE BYTE ('hp'): "Count counts the number of non-overlapping instances of substr in s.": IT RETURNS 'Lib.countByte s (that byte)'; the world is as it was. ✋ NO CONTRACT HERE YET at an empty substr (utf8.RuneCountInString) or at a longer one (a loop over strings.Index). (LAID: no walk: one application.) -/
theorem Tryd.strings_Count_one (s : ByteArray) (c : UInt8) (w : World) :
    Calls Tryd.prog 60 #[.string s, .string ⟨#[c]⟩] w fun e w' => e = .returned (.int .i64 (Lib.countByte s.data.toList c)) ∧ w' = w := Any.strings_Count_one Tryd.lays138 s c w
def Tryd.lays149_ren : Go.Shelf.Ren := ⟨fun | 149 => 61 | 222 => 96 | n => n, fun | 9 => 9 | 5 => 5 | 3 => 3 | 4 => 4 | n => n, fun | n => n⟩
theorem Tryd.lays149 : Go.Proofs.Lays.n149 Tryd.prog Tryd.lays149_ren := {
  mixed := by kernel_rfl
  f149 := Tryd.func61.trans (congrArg some (by kernel_rfl))
  f222 := Tryd.func96.trans (congrArg some (by kernel_rfl))
  t3 := Tryd.underlying3
  a3 := Tryd.isAgg3
  z3 := Tryd.sizeOf3
  v3 := Tryd.zeroValue3
  t4 := Tryd.underlying4
  a4 := Tryd.isAgg4
  z4 := Tryd.sizeOf4
  v4 := Tryd.zeroValue4
  t5 := Tryd.underlying5
  a5 := Tryd.isAgg5
  z5 := Tryd.sizeOf5
  v5 := Tryd.zeroValue5
  t9 := Tryd.underlying9
  a9 := Tryd.isAgg9
  z9 := Tryd.sizeOf9
  v9 := Tryd.zeroValue9 }
open Go.RowKit Go.Lib in
/-- strings.LastIndexByte: "LastIndexByte returns the index of the last instance of c in s, or -1 if c is not present in s." (LAID: no walk: one application.) -/
theorem Tryd.strings_LastIndexByte (s : ByteArray) (c : Int) (hs : s.size < 4611686018427387904) (w : World) :
    Calls Tryd.prog 61 #[.string s, .int .u8 c] w fun e w' => e = .returned (.int .i64 (Lib.lastIndexByte s c)) ∧ w' = w := Any.strings_LastIndexByte Tryd.lays149 s c hs w
def Tryd.lays99_ren : Go.Shelf.Ren := ⟨fun | 99 => 130 | 206 => 144 | n => n, fun | 9 => 9 | 4 => 4 | 3 => 3 | n => n, fun | n => n⟩
theorem Tryd.lays99 : Go.Proofs.Lays.n99 Tryd.prog Tryd.lays99_ren := {
  mixed := by kernel_rfl
  f99 := Tryd.func130.trans (congrArg some (by kernel_rfl))
  f206 := Tryd.func144.trans (congrArg some (by kernel_rfl))
  t3 := Tryd.underlying3
  a3 := Tryd.isAgg3
  z3 := Tryd.sizeOf3
  v3 := Tryd.zeroValue3
  t4 := Tryd.underlying4
  a4 := Tryd.isAgg4
  z4 := Tryd.sizeOf4
  v4 := Tryd.zeroValue4
  t9 := Tryd.underlying9
  a9 := Tryd.isAgg9
  z9 := Tryd.sizeOf9
  v9 := Tryd.zeroValue9 }
open Go.RowKit Go.Lib in
/-- strings.HasPrefix: "HasPrefix reports whether the string s begins with prefix.": IT RETURNS 'Lib.hasPrefix s prefix'; the world is as it was. (LAID: no walk: one application.) -/
theorem Tryd.strings_HasPrefix (s p : ByteArray) (w : World) :
    Calls Tryd.prog 130 #[.string s, .string p] w fun e w' => e = .returned (.bool (Lib.hasPrefix s.data.toList p.data.toList)) ∧ w' = w := Any.strings_HasPrefix Tryd.lays99 s p w
end Go.Proofs
end
section
set_option linter.unusedVariables false
set_option linter.unusedSimpArgs false
namespace Go.SL
open Go Go.RowKit

def setFrom (cs : List Value) (k : Nat) : List Value → List Value
  | [] => cs
  | v :: vs => setFrom (cs.set k v) (k + 1) vs
section
variable {P : Program} {ops : Array Oper} {Q : Exit → Act → World → Prop} {rest : List Oper} {a : Act} {w w0 : World} {Hs R : List HP} {e b : Nat}
theorem run_storeCells_blk (off : Nat) : ∀ (vs : List Value) (i : Nat) (w : World) (cs : List Value), Sat w0 w (blk b e cs :: R) → off + i + vs.length ≤ cs.length → (∀ v ∈ vs, v.oneCell' = true) →
    ∃ w', (storeCells ⟨b, off, none⟩ vs i).run P w = .ok () w' ∧ Sat w0 w' (blk b e (setFrom cs (off + i) vs) :: R)
  | [], i, w, cs, hS, _, _ => ⟨w, by simp [storeCells], hS⟩
  | v :: vs, i, w, cs, hS, hl, h1 => by
    simp only [List.length_cons] at hl
    have hc : w.cell? ⟨b, off + i, none⟩ = some (cs[off + i]'(by omega)) := hS.cell mem_hd (List.getElem?_eq_getElem (by omega))
    have hf := hS.frozen (off := off + i) mem_hd
    have hS' := hS.setCell (off := off + i) v Upd.hd
    obtain ⟨w', hr, hS2⟩ := run_storeCells_blk off vs (i + 1) _ _ hS' (by simp; omega) (fun u hu => h1 u (by simp [hu]))
    have hv := h1 v (by simp)
    refine ⟨w', ?_, hS2⟩
    simp only [storeCells, add_eq]
    have hst : (store ⟨b, off + i, none⟩ v).run P w = .ok () (w.setCell ⟨b, off + i, none⟩ v) := by
      cases v <;> simp_all [store, Sem.run, Value.oneCell']
    simp [hst, hr]
theorem arm_storeN {dst : Option Tmp} {t : TypeId} {x y : Operand} {ty : TypeId} {pos : String} {after : Array Edge} {gd : Option (Nat × Bool)} (hS : Sat w0 w Hs)
    (hw : Region.wanted ⟨dst, .store t x y, ty, pos, after, gd⟩ (yielded ops a.tmps) = true) {b off : Nat} (hx : a.eval x = .pointer (some ⟨b, off, none⟩)) {vs : List Value} (hy : a.eval y = .agg vs.toArray) {e : TypeId} {cs cs' : List Value}
    (hm : blk b e cs ∈ Hs) (hcs : setFrom cs off vs = cs') (hlt : off + vs.length ≤ cs.length) {Hs' : List HP} (u : Upd Hs (blk b e cs) (blk b e cs') Hs') (h1 : vs.all (·.oneCell') = true) {n : Nat} (ht : sizeTy P t = some n) (hn : vs.length = n)
    (K : ∀ w', Sat w0 w' Hs' → wpList P ops Q rest (a.put dst undef) w') : wpList P ops Q (⟨dst, .store t x y, ty, pos, after, gd⟩ :: rest) a w := by
  subst hcs
  obtain ⟨R, r1, r2⟩ := u.rem
  obtain ⟨w', hr, hS'⟩ := run_storeCells_blk (P := P) off vs 0 w cs (hS.front r1) (by omega) (fun v hv => List.all_eq_true.1 h1 v hv)
  have hs := run_sizeOf ht w
  refine arm_skip hw (run_op_store rfl hx hy ?_) (K w' (hS'.put r2))
  simp [storeVar, hs, Value.cells, hn, hr]
theorem run_zero {t : TypeId} {z : Value} (hz : (P.info? t).bind (·.zero) = some z) : (zeroValue t).run P w = .ok z w := by
  cases hi : P.info? t with
  | none => rw [hi] at hz; cases hz
  | some i =>
    rw [hi] at hz
    simp only [Option.bind_some] at hz
    simp [zeroValue, typeInfo, hi, hz]
theorem arm_assertY {dst : Option Tmp} {x : Operand} {xt t : TypeId} {ty : TypeId} {pos : String} {after : Array Edge} {gd : Option (Nat × Bool)}
    (hw : Region.wanted ⟨dst, .typeAssert x xt t true, ty, pos, after, gd⟩ (yielded ops a.tmps) = true) {v : Value} (hx : a.eval x = .iface t v) {e : TypeId} (hu : P.underlying t = some (.pointer e))
    (K : wpList P ops Q rest (a.put dst (.tuple #[v, .bool true])) w) : wpList P ops Q (⟨dst, .typeAssert x xt t true, ty, pos, after, gd⟩ :: rest) a w := by
  refine arm_val hw ?_ K
  simp [execOp, hx, Instr.typeAssert, run_underlying hu]
theorem arm_assertN {dst : Option Tmp} {x : Operand} {xt t : TypeId} {ty : TypeId} {pos : String} {after : Array Edge} {gd : Option (Nat × Bool)}
    (hw : Region.wanted ⟨dst, .typeAssert x xt t true, ty, pos, after, gd⟩ (yielded ops a.tmps) = true) {v : Value} {u : TypeId} (hx : a.eval x = .iface u v) (hne : u ≠ t) {e : TypeId} (hu : P.underlying t = some (.pointer e)) (hz : (P.info? t).bind (·.zero) = some (.pointer none))
    (K : wpList P ops Q rest (a.put dst (.tuple #[.pointer none, .bool false])) w) : wpList P ops Q (⟨dst, .typeAssert x xt t true, ty, pos, after, gd⟩ :: rest) a w := by
  refine arm_val hw ?_ K
  have := run_zero (w := w) hz
  simp [execOp, hx, Instr.typeAssert, run_underlying hu, hne, this]
def fieldCell (P : Program) (s : TypeId) (f : Nat) : Option Nat :=
  match P.underlying s with
  | some (.struct fs) => (fs[f]?).bind fun x => if scalarTy P x.type then some x.offset else none
  | _ => none
theorem arm_field1 {dst : Option Tmp} {x : Operand} {s : TypeId} {f : Nat} {ty : TypeId} {pos : String} {after : Array Edge} {gd : Option (Nat × Bool)}
    (hw : Region.wanted ⟨dst, .field s x f, ty, pos, after, gd⟩ (yielded ops a.tmps) = true) {cs : List Value} (hx : a.eval x = .agg cs.toArray) {off : Nat} (hf : fieldCell P s f = some off) {v : Value} (hv : cs[off]? = some v)
    (K : wpList P ops Q rest (a.put dst v) w) : wpList P ops Q (⟨dst, .field s x f, ty, pos, after, gd⟩ :: rest) a w := by
  refine arm_val hw ?_ K
  unfold fieldCell at hf
  cases hu : P.underlying s with
  | none => simp [hu] at hf
  | some d =>
    cases d with
    | struct fs =>
      simp only [hu] at hf
      cases hx2 : fs[f]? with
      | none => simp [hx2] at hf
      | some fl =>
        simp only [hx2, Option.bind_some] at hf
        split at hf
        · rename_i hsc
          simp only [Option.some.injEq] at hf
          subst hf
          have hi := run_isAgg_scalar hsc w
          simp [execOp, hx, Instr.field, run_underlying hu, hx2, asAgg, part, hi, hv]
        · cases hf
    | _ => simp [hu] at hf
theorem Sat.loadWhole {cs : List Value} {t : TypeId} (hS : Sat w0 w Hs) (hm : blk b e cs ∈ Hs) (hn : sizeTy P t = some cs.length) (ha : aggTy P t = true) : (loadVar t ⟨b, 0, none⟩).run P w = .ok (.agg cs.toArray) w :=
  run_loadVarN ha hn fun j v hj => by rw [add_eq, Nat.zero_add]; exact hS.cell hm hj
theorem results_cell1 {fn : Func} {t : Tmp} {T : TypeId} (h : fn.results = #[.cell t T]) {tmps : Array Value} {ad : Addr} (hp : tmps.getD t undef = .pointer (some ad)) {v : Value} (hl : (loadVar T ad).run P w = .ok v w) :
    (results fn tmps).run P w = .ok v w := by
  rw [Array.getD_eq_getD_getElem?] at hp
  simp [results, h, hp, asAddr, hl]
end
end Go.SL
end
section
namespace Go.Proofs.YthackanffcaejaaDoor
open Go.SL
theorem z1 : zeroTy Tryd.prog 1 = some ([.nilFunc]) := by kernel_rfl
theorem z2 : zeroTy Tryd.prog 2 = some ([.int .i64 0]) := by kernel_rfl
theorem z3 : zeroTy Tryd.prog 3 = some ([.int .i64 0]) := by kernel_rfl
theorem z4 : zeroTy Tryd.prog 4 = some ([.bool false]) := by kernel_rfl
theorem z5 : zeroTy Tryd.prog 5 = some ([.int .u8 0]) := by kernel_rfl
theorem z9 : zeroTy Tryd.prog 9 = some ([.string ⟨#[]⟩]) := by kernel_rfl
theorem z21 : zeroTy Tryd.prog 21 = some ([.int .i32 0]) := by kernel_rfl
theorem E22 : ElemTy Tryd.prog 22 3 1 8 := ⟨by kernel_rfl, by kernel_rfl, by decide⟩
theorem sz31 : sizeTy Tryd.prog 31 = some 2 := by kernel_rfl
theorem z31 : zeroTy Tryd.prog 31 = some ([.int .i64 0, .int .i64 0]) := by kernel_rfl
theorem fo31_0 : fieldOff Tryd.prog 31 0 = some 0 := by kernel_rfl
theorem sz33 : sizeTy Tryd.prog 33 = some 3 := by kernel_rfl
theorem z33 : zeroTy Tryd.prog 33 = some ([.int .i64 0, .int .i64 0, .int .i64 0]) := by kernel_rfl
theorem E37 : ElemTy Tryd.prog 37 77 2 16 := ⟨by kernel_rfl, by kernel_rfl, by decide⟩
theorem z37 : zeroTy Tryd.prog 37 = some ([.slice none 0 0]) := by kernel_rfl
theorem z46 : zeroTy Tryd.prog 46 = some ([.pointer none]) := by kernel_rfl
theorem E47 : ElemTy Tryd.prog 47 5 1 1 := ⟨by kernel_rfl, by kernel_rfl, by decide⟩
theorem z47 : zeroTy Tryd.prog 47 = some ([.slice none 0 0]) := by kernel_rfl
theorem z51 : zeroTy Tryd.prog 51 = some ([.nilIface]) := by kernel_rfl
theorem sz77 : sizeTy Tryd.prog 77 = some 2 := by kernel_rfl
theorem z77 : zeroTy Tryd.prog 77 = some ([.int .i64 0, .int .i64 0]) := by kernel_rfl
theorem fo77_0 : fieldOff Tryd.prog 77 0 = some 0 := by kernel_rfl
theorem sz89 : sizeTy Tryd.prog 89 = some 4 := by kernel_rfl
theorem z89 : zeroTy Tryd.prog 89 = some ([.int .i64 0, .int .i64 0, .int .i64 0, .int .i64 0]) := by kernel_rfl
theorem fo89_0 : fieldOff Tryd.prog 89 0 = some 0 := by kernel_rfl
theorem sz91 : sizeTy Tryd.prog 91 = some 10 := by kernel_rfl
theorem fo91_6 : fieldOff Tryd.prog 91 6 = some 9 := by kernel_rfl
theorem E96 : ElemTy Tryd.prog 96 106 3 24 := ⟨by kernel_rfl, by kernel_rfl, by decide⟩
theorem sz100 : sizeTy Tryd.prog 100 = some 4 := by kernel_rfl
theorem z100 : zeroTy Tryd.prog 100 = some ([.int .i64 0, .int .i64 0, .int .i64 0, .int .i64 0]) := by kernel_rfl
theorem sz106 : sizeTy Tryd.prog 106 = some 3 := by kernel_rfl
theorem z106 : zeroTy Tryd.prog 106 = some ([.int .i64 0, .int .i64 0, .int .i64 0]) := by kernel_rfl
theorem fo106_0 : fieldOff Tryd.prog 106 0 = some 0 := by kernel_rfl
theorem fo106_1 : fieldOff Tryd.prog 106 1 = some 1 := by kernel_rfl
theorem fo106_2 : fieldOff Tryd.prog 106 2 = some 2 := by kernel_rfl
theorem E121 : ElemTy Tryd.prog 121 79 1 16 := ⟨by kernel_rfl, by kernel_rfl, by decide⟩
theorem sz125 : sizeTy Tryd.prog 125 = some 2 := by kernel_rfl
theorem z125 : zeroTy Tryd.prog 125 = some ([.int .i64 0, .int .i64 0]) := by kernel_rfl
theorem fc125_0 : fieldCell Tryd.prog 125 0 = some 0 := by kernel_rfl
theorem fc125_1 : fieldCell Tryd.prog 125 1 = some 1 := by kernel_rfl
theorem z146 : zeroTy Tryd.prog 146 = some ([.pointer none]) := by kernel_rfl
theorem E160 : ElemTy Tryd.prog 160 161 3 32 := ⟨by kernel_rfl, by kernel_rfl, by decide⟩
theorem sz161 : sizeTy Tryd.prog 161 = some 3 := by kernel_rfl
theorem fo161_0 : fieldOff Tryd.prog 161 0 = some 0 := by kernel_rfl
theorem fo161_1 : fieldOff Tryd.prog 161 1 = some 1 := by kernel_rfl
theorem fo161_2 : fieldOff Tryd.prog 161 2 = some 2 := by kernel_rfl
theorem E186 : ElemTy Tryd.prog 186 187 2 24 := ⟨by kernel_rfl, by kernel_rfl, by decide⟩
theorem sz187 : sizeTy Tryd.prog 187 = some 2 := by kernel_rfl
theorem z187 : zeroTy Tryd.prog 187 = some ([.string ⟨#[]⟩, .int .i64 0]) := by kernel_rfl
end Go.Proofs.YthackanffcaejaaDoor
end
section
set_option linter.unusedVariables false
set_option linter.unusedSimpArgs false
namespace Go.SL
open Go Go.RowKit

section
variable {P : Program} {ops : Array Oper} {Q : Exit → Act → World → Prop} {rest : List Oper} {a : Act} {w w0 : World} {Hs : List HP} {e : TypeId} {size n cap : Nat} {ad : Option Addr}

def Is (l : List Int) : List Value := l.map (Value.int .i64)
theorem Is_length (l : List Int) : (Is l).length = l.length := by simp [Is]
theorem Is_at {l : List Int} {j : Nat} {x : Int} (h : l[j]? = some x) : (Is l)[j]? = some (.int .i64 x) := by simp [Is, h]
theorem Is_append (l m : List Int) : Is (l ++ m) = Is l ++ Is m := by simp [Is]
theorem Sat.rdAd2 {A : HP} {cs : List Value} (hr : Rd A ad cs) (hS : Sat w0 w Hs) (hm : A ∈ Hs) (h0 : 0 < cs.length) : ∃ aa, ad = some aa ∧ aa.spot = none := hS.rdAd hm hr h0
theorem Sat.rdCell2 {A : HP} {cs : List Value} (hr : Rd A ad cs) (hS : Sat w0 w Hs) (hm : A ∈ Hs) {j : Nat} {v : Value} (hv : cs[j]? = some v) : w.cell? (adr ad j) = some v := hS.rdCell hm hr hv

def sub (ad : Option Addr) (l cap size : Nat) : Option Addr := if cap = l then ad else ad.map (·.add (l * size))
theorem Rd.sub {A : HP} {cs : List Value} (hr : Rd A ad cs) (l m : Nat) (hm : cap = l → m = 0) : Rd A (sub ad l cap size) ((cs.drop (l * size)).take m) := by
  intro w h hA hw j v hv
  rw [List.getElem?_take] at hv
  split at hv
  · rename_i hlt
    rw [List.getElem?_drop] at hv
    obtain ⟨⟨a, ha, hs⟩, hc⟩ := hr w h hA hw _ _ hv
    have hcl : cap ≠ l := fun h0 => by have := hm h0; omega
    subst ha
    refine ⟨⟨a.add (l * size), by simp [SL.sub, hcl], ?_⟩, ?_⟩
    · obtain ⟨b, o, s⟩ := a
      simp only at hs
      subst hs
      rw [add_eq]
    · simp only [SL.sub, if_neg hcl, Option.map_some]
      simp only [adr, Option.getD_some] at hc ⊢
      rw [add_add _ hs]
      exact hc
  · cases hv
/-! ### Strings put together -/
theorem run_op_addStr {o : Oper} {T ty : TypeId} {x y : Operand} (ho : o.op = .binOp .add T x y ty) {ρ : Operand → Value} {l m : List UInt8} (hx : ρ x = .string ⟨l.toArray⟩) (hy : ρ y = .string ⟨m.toArray⟩) (h : l.length + m.length ≤ 9223372036854775807) :
    (execOp ρ o).run P w = .ok (.value (.string ⟨(l ++ m).toArray⟩)) w := by
  have h1 := run_string_add_sum (P := P) w ⟨l.toArray⟩ ⟨m.toArray⟩ (by simpa [ByteArray.size] using h)
  rw [ByteArray.mk_append_mk] at h1
  simp [execOp, ho, hx, hy, eqGuard, binOp, h1]
/-! ### A slice literal of two elements of one cell -/
end
end Go.SL
end
section
namespace Go.CnfP
open Go

def line (ns : List Int) : List UInt8 := ns.flatMap fun n => Lib.itoa n ++ [32]
def body (ls : List Int) (fr : Nat) : List Int → List UInt8
  | [] => []
  | e :: es => line ((ls.drop fr).take (e.toNat - fr)) ++ ([48, 10] ++ body ls e.toNat es)
def head (v : Int) (n : Nat) : List UInt8 := [112, 32, 99, 110, 102, 32] ++ Lib.itoa v ++ [32] ++ Lib.itoa n ++ [10]
def text (v : Int) (es ls : List Int) : List UInt8 := head v es.length ++ body ls 0 es
end Go.CnfP
end
section
set_option linter.unusedSimpArgs false
set_option linter.unusedVariables false
set_option maxRecDepth 20000
namespace Go.Proofs.YthackanffcaejaaDoor
open Go Go.RowKit Go.SL Go.CnfP

abbrev Tab (w : World) : Prop := Lib.TabIs Tryd.prog w "internal/strconv.uint64pow10" .u64 Lib.pow10Tab
end Go.Proofs.YthackanffcaejaaDoor
end
section
set_option linter.unusedSimpArgs false
set_option linter.unusedVariables false
set_option maxRecDepth 20000
namespace Go.Proofs.YthackanffcaejaaDoor
open Go Go.RowKit Go.SL Go.LinesP

theorem u8_eq (c d : UInt8) (n : Int) (hn : n = (d.toNat : Int)) : ((c.toNat : Int) == n) = (c == d) := by
  subst hn
  by_cases h : c = d
  · rw [h]; rw [beq_self_eq_true, beq_self_eq_true]
  · have h2 : ¬ (c.toNat : Int) = (d.toNat : Int) := fun e => h (UInt8.toNat_inj.1 (by omega))
    rw [beq_eq_false_iff_ne.2 h, beq_eq_false_iff_ne.2 h2]
def runP (p : UInt8 → Bool) (text : List UInt8) (k : Nat) : Nat := k + ((text.drop k).takeWhile p).length
end Go.Proofs.YthackanffcaejaaDoor
end
section
set_option linter.unusedSimpArgs false
set_option linter.unusedVariables false
namespace Go.ClauseP
open Go

def digP (c : UInt8) : Bool := 48 ≤ c && c ≤ 57
def valD (n : Nat) (s : List UInt8) : Nat := s.foldl (fun n c => 10 * n + (c.toNat - 48)) n
def numP (s : List UInt8) : Option Nat := if s = [] ∨ (1 < s.length ∧ s.head? = some 48) ∨ s.all digP = false then none else some (valD 0 s)
def numM (most : Nat) (s : List UInt8) : Int := match numP s with
  | none => -1
  | some n => if most < n then -1 else n
theorem valD_cons (n : Nat) (c : UInt8) (s : List UInt8) : valD n (c :: s) = valD (10 * n + (c.toNat - 48)) s := by unfold valD; rw [List.foldl_cons]
theorem valD_snoc (n : Nat) (s : List UInt8) (c : UInt8) : valD n (s ++ [c]) = 10 * valD n s + (c.toNat - 48) := by simp [valD]
theorem valD_append (n : Nat) (s t : List UInt8) : valD n (s ++ t) = valD (valD n s) t := by simp [valD]
theorem ten_ne (n : Nat) : 0 < 10 ^ n := Nat.pow_pos (by decide)
theorem valD_ge : ∀ (s : List UInt8) (n : Nat), n * 10 ^ s.length ≤ valD n s
  | [], n => by simp [valD]
  | c :: s, n => by
    have h := valD_ge s (10 * n + (c.toNat - 48))
    rw [valD_cons]
    refine Nat.le_trans ?_ h
    rw [List.length_cons]
    generalize hm : s.length = k at *
    exact Nat.le_trans (Nat.le_of_eq (by rw [Nat.pow_succ, Nat.mul_comm (10 ^ k) 10, ← Nat.mul_assoc, Nat.mul_comm n 10])) (Nat.mul_le_mul_right (10 ^ k) (Nat.le_add_right _ _))
theorem valD_ge1 (s : List UInt8) (n : Nat) : n ≤ valD n s := Nat.le_trans (Nat.le_mul_of_pos_right _ (ten_ne _)) (valD_ge s n)
theorem digP_le {c : UInt8} (h : digP c = true) : 48 ≤ c.toNat ∧ c.toNat ≤ 57 := by
  simp only [digP, Bool.and_eq_true, decide_eq_true_eq, UInt8.le_iff_toNat_le] at h
  exact ⟨h.1, h.2⟩
theorem numM_empty (most : Nat) : numM most [] = -1 := rfl
theorem numM_zero {most : Nat} {s : List UInt8} (h : 1 < s.length) (h2 : s.head? = some 48) : numM most s = -1 := by
  have : numP s = none := by unfold numP; rw [if_pos (.inr (.inl ⟨h, h2⟩))]
  rw [numM, this]
theorem numM_not {most : Nat} {s : List UInt8} (h : s.all digP = false) : numM most s = -1 := by
  have : numP s = none := by unfold numP; rw [if_pos (.inr (.inr h))]
  rw [numM, this]
theorem numM_val {most : Nat} {s : List UInt8} (h0 : s ≠ []) (h1 : ¬ (1 < s.length ∧ s.head? = some 48)) (h2 : s.all digP = true) : numM most s = if most < valD 0 s then -1 else (valD 0 s : Int) := by
  have : numP s = some (valD 0 s) := by unfold numP; rw [if_neg (by rintro (h | h | h); exact h0 h; exact h1 h; rw [h2] at h; cases h)]
  rw [numM, this]
theorem numM_long {most : Nat} {s : List UInt8} (hm : most < 10 ^ 10) (h : 10 < s.length) : numM most s = -1 := by
  by_cases h1 : 1 < s.length ∧ s.head? = some 48
  · exact numM_zero h1.1 h1.2
  · cases h2 : s.all digP with
    | false => exact numM_not h2
    | true =>
      have h0 : s ≠ [] := by intro e; rw [e] at h; simp at h
      rw [numM_val h0 h1 h2, if_pos]
      obtain ⟨c, t, rfl⟩ : ∃ c t, s = c :: t := by cases s with | nil => exact absurd rfl h0 | cons c t => exact ⟨c, t, rfl⟩
      simp only [List.length_cons, List.head?_cons, Option.some.injEq] at h h1
      simp only [List.all_cons, Bool.and_eq_true] at h2
      have hc := digP_le h2.1
      have hc48 : c.toNat ≠ 48 := fun e => h1 ⟨by omega, UInt8.toNat_inj.1 e⟩
      have hv := valD_ge t (10 * 0 + (c.toNat - 48))
      rw [valD_cons]
      refine Nat.lt_of_lt_of_le hm (Nat.le_trans ?_ hv)
      have h10 : 10 ^ 10 ≤ 10 ^ t.length := Nat.pow_le_pow_right (by omega) (by omega)
      exact Nat.le_trans h10 (Nat.le_mul_of_pos_left _ (by omega))
theorem numM_above {most : Nat} {s t : List UInt8} (h : most < valD 0 s) : numM most (s ++ t) = -1 := by
  unfold numM numP
  split
  · rfl
  · rename_i n hn
    split at hn
    · cases hn
    · simp only [Option.some.injEq] at hn
      rw [if_pos]
      rw [← hn, valD_append]
      exact Nat.lt_of_lt_of_le h (valD_ge1 t _)
theorem numM_ge (most : Nat) (s : List UInt8) : -1 ≤ numM most s ∧ numM most s ≤ most := by
  unfold numM
  split
  · omega
  · split <;> omega

abbrev Wd := List UInt8 × Nat
structure CnfV where
  vars : Int
  ends : List Int
  lits : List Int
end Go.ClauseP
end
section
set_option linter.unusedVariables false
set_option linter.unusedSimpArgs false
namespace Go.SL
open Go Go.RowKit

section
variable {P : Program} {ops : Array Oper} {Q : Exit → Act → World → Prop} {rest : List Oper} {a : Act} {w w0 : World} {Hs R R1 R2 : List HP} {e : TypeId} {size n cap : Nat} {ad : Option Addr} {xs : List Value}
theorem Sat.ownShrink {k : Nat} (hS : Sat w0 w (own e size ad n cap xs :: R)) (hk : k ≤ n) : Sat w0 w (own e size ad k cap (xs.take (k * size)) :: R) := by
  refine hS.turn fun h ⟨hl, hA⟩ => ⟨?_, ?_⟩
  · have := Nat.mul_le_mul_right size hk
    rw [List.length_take]; omega
  · rcases hA with ⟨rfl, rfl, rfl, h0⟩ | ⟨g, cur, rfl, h1, h2, h3, h4, h5⟩
    · exact .inl ⟨rfl, by omega, rfl, h0⟩
    · refine .inr ⟨g, cur, rfl, by omega, h2, h3, ?_, h5⟩
      have := Nat.mul_le_mul_right size hk
      rw [← h4, List.take_take]
      congr 1; omega
theorem arm_loadRN {A : HP} {dst : Option Tmp} {t : TypeId} {x : Operand} {ty : TypeId} {pos : String} {after : Array Edge} {gd : Option (Nat × Bool)} {m : Nat} (hS : Sat w0 w Hs)
    (hw : Region.wanted ⟨dst, .load t x, ty, pos, after, gd⟩ (yielded ops a.tmps) = true) {j : Nat} (hx : a.eval x = .pointer (some (adr ad j))) {cs vs : List Value} (hr : Rd A ad cs) (hm : A ∈ Hs)
    (hv : (cs.drop j).take m = vs) (hl : vs.length = m) (hn : sizeTy P t = some m) (ht : aggTy P t = true) (h0 : 0 < m)
    (K : wpList P ops Q rest (a.put dst (.agg vs.toArray)) w) : wpList P ops Q (⟨dst, .load t x, ty, pos, after, gd⟩ :: rest) a w := by
  have hlen : 0 < cs.length := by
    rcases Nat.eq_zero_or_pos cs.length with h | h
    · have : cs = [] := List.length_eq_zero_iff.1 h
      subst this
      simp at hv
      subst hv
      simp at hl; omega
    · exact h
  refine arm_loadEN hw hx (hS.rdAd hm hr hlen) (fun i v hi => hS.rdCell hm hr ?_) hn hl ht K
  rw [← hv, List.getElem?_take] at hi
  split at hi
  · rw [List.getElem?_drop] at hi; exact hi
  · cases hi
end
end Go.SL
end
section
set_option linter.unusedVariables false
set_option linter.unusedSimpArgs false
namespace Go.SL
open Go Go.RowKit
section
variable {P : Program} {w : World} {ad : Option Addr}
theorem draw_fa {o : Oper} {s : TypeId} {x : Operand} {f : Nat} (ho : o.op = .fieldAddr s x f) {ρ : Operand → Value} {j : Nat} (hx : ρ x = .pointer (some (adr ad j))) (hsp : ∃ aa, ad = some aa ∧ aa.spot = none) {k : Nat} (hf : fieldOff P s f = some k) :
    (execOp ρ o).run P w = .ok (.value (.pointer (some (adr ad (j + k))))) w := by
  have h := run_op_fieldAddr (w := w) ho hx hf
  obtain ⟨aa, rfl, hs⟩ := hsp
  simp only [adr, Option.getD_some, add_add _ hs] at h ⊢
  exact h
theorem wrapI {n : Int} (h0 : -9223372036854775808 ≤ n) (h1 : n ≤ 9223372036854775807) : IntKind.i64.wrap n = n := by
  simp [IntKind.wrap, IntKind.bits, IntKind.signed]; omega
end
end Go.SL
end
section
set_option linter.unusedVariables false
set_option linter.unusedSimpArgs false
namespace Go.SL
open Go Go.RowKit
section
variable {P : Program} {ops : Array Oper} {Q : Exit → Act → World → Prop} {rest : List Oper} {a : Act} {w w0 : World} {Hs : List HP} {e : TypeId} {ad : Option Addr}
theorem run_loadRN {A : HP} {t : TypeId} {m j : Nat} {cs vs : List Value} (hS : Sat w0 w Hs) (hr : Rd A ad cs) (hm : A ∈ Hs) (hv : (cs.drop j).take m = vs) (hl : vs.length = m) (hn : sizeTy P t = some m) (ht : aggTy P t = true) (h0 : 0 < m) :
    (loadVar t (adr ad j)).run P w = .ok (.agg vs.toArray) w := by
  have hlen : 0 < cs.length := by
    rcases Nat.eq_zero_or_pos cs.length with h | h
    · have : cs = [] := List.length_eq_zero_iff.1 h
      subst this
      simp at hv
      subst hv
      simp at hl; omega
    · exact h
  refine run_loadVarN ht (by rw [hl]; exact hn) fun i v hi => ?_
  have h := hS.rdCell hm hr (j := j + i) (v := v) (by
    rw [← hv, List.getElem?_take] at hi
    split at hi
    · rw [List.getElem?_drop] at hi; exact hi
    · cases hi)
  obtain ⟨aa, rfl, hs⟩ := hS.rdAd hm hr hlen
  simp only [adr, Option.getD_some] at h ⊢
  rw [add_add _ hs]
  exact h
end
end Go.SL
end
section
set_option linter.unusedVariables false
set_option linter.unusedSimpArgs false
namespace Go.SL
open Go Go.RowKit
section
variable {P : Program} {ops : Array Oper} {Q : Exit → Act → World → Prop} {rest : List Oper} {a : Act} {w w0 : World} {Hs : List HP}
theorem Sat.newPt {w' : World} {o : Obj} (hS : Sat w0 w Hs) (hos : w'.os = w.os) (htp : w'.tape = w.tape) (hou : w'.output = w.output) (hsz : w.heap.size ≤ w'.heap.size) (hnew : w'.heap[w.heap.size]? = some o)
    (hold : ∀ b, b < w.heap.size → w'.heap[b]? = w.heap[b]?) : Sat w0 w' (pt w.heap.size o :: Hs) := by
  have h0 : Sat w0 w (SL.emp :: Hs) := hS.emp fun _ => rfl
  refine h0.step hos htp hou hsz fun g hg _ => ⟨fun c => if c = w.heap.size then some o else none, fun c => rfl, fun b o' hb => ?_, fun b hb => .inr ?_, fun b hb _ => hold b hb⟩
  · by_cases hbs : b = w.heap.size
    · simp [hbs] at hb; subst hb; rw [hbs]; exact hnew
    · simp [hbs] at hb
  · by_cases hbs : b = w.heap.size
    · omega
    · simp [hbs] at hb
theorem run_op_convertW {o : Oper} {s d : TypeId} {x : Operand} (ho : o.op = .convert s d x) {ρ : Operand → Value} {v : Value} {w' : World} (hr : (convert s d (ρ x)).run P w = .ok v w') : (execOp ρ o).run P w = .ok (.value v) w' := by
  simp [execOp, ho, hr]
theorem arm_bytesOf {dst : Option Tmp} {src d e : TypeId} {x : Operand} {ty : TypeId} {pos : String} {after : Array Edge} {gd : Option (Nat × Bool)} (hS : Sat w0 w Hs)
    (hw : Region.wanted ⟨dst, .convert src d x, ty, pos, after, gd⟩ (yielded ops a.tmps) = true) {l : List UInt8} (hx : a.eval x = .string ⟨l.toArray⟩) {bytes : Nat} (E : ElemTy P d e 1 bytes) (hs : (P.underlying src).isSome = true)
    (he : P.underlying e = some (.int .u8)) (K : ∀ (A : HP) (ad : Option Addr) (cap : Nat) (w' : World), Rd A ad (Bs l) → (∃ aa, ad = some aa ∧ aa.spot = none) → Sat w0 w' (A :: Hs) → wpList P ops Q rest (a.put dst (.slice ad l.length cap)) w') :
    wpList P ops Q (⟨dst, .convert src d x, ty, pos, after, gd⟩ :: rest) a w := by
  obtain ⟨u, hu⟩ := Option.isSome_iff_exists.1 hs
  have hr := Lib.run_convert_string_bytes (P := P) w src d e ⟨l.toArray⟩ hu E.ht he
  refine arm_val hw (run_op_convertW rfl (by rw [hx]; exact hr)) ?_
  have hsz : (⟨l.toArray⟩ : ByteArray).size = l.length := by simp [ByteArray.size]
  have hS2 := hS.newPt (w' := Lib.bytesWorld w e ⟨l.toArray⟩) (o := .cells (Lib.bytesCells w e ⟨l.toArray⟩) e ((Lib.bytesCells w e ⟨l.toArray⟩).size, (Lib.bytesCells w e ⟨l.toArray⟩).size + 1)) rfl rfl rfl
    (by rw [Lib.bytesWorld_size]; omega) (Lib.bytesWorld_at_new w e _) (fun b hb => Lib.bytesWorld_at_old w e _ b hb)
  have hK := K _ (some ⟨w.heap.size, 0, none⟩) (grownCap w l.length 0 e) _ ?_ ⟨_, rfl, rfl⟩ hS2
  · rw [hsz]; exact hK
  · intro w2 h hA hw2 j v hv
    refine ⟨⟨_, rfl, rfl⟩, ?_⟩
    have hb := hw2 w.heap.size _ (by rw [hA w.heap.size, if_pos rfl])
    have hlt : j < l.length := by
      have := (List.getElem?_eq_some_iff.1 hv).1
      rwa [Bs_length] at this
    simp only [adr, Option.getD_some, add_eq, Nat.zero_add]
    simp only [World.cell?, hb]
    have : (Lib.bytesCells w e ⟨l.toArray⟩)[j]? = some v := by
      simp only [Bs, List.getElem?_map] at hv
      rw [Lib.bytesCells, Array.getElem?_append_left (by simpa using hlt)]
      simpa [Array.getElem?_map] using hv
    simp [this]
end
end Go.SL
end
