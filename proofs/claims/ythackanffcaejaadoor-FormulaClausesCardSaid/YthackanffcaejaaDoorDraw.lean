/- A statement whose order is open, walked once: what is read under a condition S on the world is taken first; S is shown anew behind each operation that acts, until one of the operations 'js' has come up, ahead of which all that is read lies. After the kit's Derived/OrdersHeld.lean, with that way out. -/
import Derived.Test.YthackanffcaejaaDoorOwn3
import Derived.OrdersHeld
import Derived.Tactics
import Derived.KernelRfl
set_option linter.unusedVariables false
namespace Go.SL
open Go

section
variable {P : Program} {ops : Array Oper} {Q : Exit → Act → World → Prop} {md : Region.Mode} {S : World → Prop} {js : List Nat}

def brk (js : List Nat) (listed : Array Bool) : Bool := js.any fun j => listed.getD j false
def wpAnyS (P : Program) (md : Region.Mode) (ops : Array Oper) (Q : Exit → Act → World → Prop) (S : World → Prop) (js : List Nat) : Nat → Array Bool → Act → World → Prop
  | 0, listed, a, w => Region.ready md ops listed = [] ∧ Q .normal a w
  | fuel + 1, listed, a, w =>
    (Region.ready md ops listed = [] → Q .normal a w) ∧
    ∀ i ∈ Region.ready md ops listed, wpOp P ops Q i (fun a' w' => (brk js (listed.setIfInBounds i true) = true ∨ S w') ∧ wpAnyS P md ops Q S js fuel (listed.setIfInBounds i true) a' w') a w
theorem wpAny_of_S : ∀ (fuel : Nat) (listed : Array Bool) (a : Act) (w : World), wpAnyS P md ops Q S js fuel listed a w → wpAny P md ops Q fuel listed a w
  | 0, _, _, _, h => h
  | fuel + 1, _, _, _, h => ⟨h.1, fun i hi => wpOp_mono (fun a' w' h' => wpAny_of_S fuel _ a' w' h'.2) (h.2 i hi)⟩

/-- All that a listed operation waits for is listed. -/
def Closed (md : Region.Mode) (ops : Array Oper) (listed : Array Bool) : Prop := ∀ j o, ops[j]? = some o → listed.getD j false = true → ∀ e ∈ o.after, Region.binds md e = true → listed.getD e.on false = true
/-- i lies ahead of j. -/
def anc (md : Region.Mode) (ops : Array Oper) : Nat → Nat → Nat → Bool
  | 0, _, _ => false
  | k + 1, j, i => match ops[j]? with
    | none => false
    | some o => o.after.any fun e => Region.binds md e && (e.on == i || anc md ops k e.on i)
theorem anc_listed {listed : Array Bool} (hc : Closed md ops listed) {i : Nat} : ∀ (k j : Nat), anc md ops k j i = true → listed.getD j false = true → listed.getD i false = true := by
  intro k
  induction k with
  | zero => intro j h; simp [anc] at h
  | succ k ih =>
    intro j h hj
    simp only [anc] at h
    cases ho : ops[j]? with
    | none => simp [ho] at h
    | some o =>
      simp only [ho] at h
      obtain ⟨e, he, hb⟩ := Array.any_eq_true'.1 h
      simp only [Bool.and_eq_true, Bool.or_eq_true, beq_iff_eq] at hb
      have h1 := hc j o ho hj e he hb.1
      rcases hb.2 with h2 | h2
      · rw [← h2]; exact h1
      · exact ih _ h2 h1
theorem anc_ready {listed : Array Bool} (hc : Closed md ops listed) {i k j : Nat} (h : anc md ops k j i = true) (hr : j ∈ Region.ready md ops listed) : listed.getD i false = true := by
  obtain ⟨h0, o, ho, hall⟩ := mem_ready.1 hr
  cases k with
  | zero => simp [anc] at h
  | succ k =>
    simp only [anc, ho] at h
    obtain ⟨e, he, hb⟩ := Array.any_eq_true'.1 h
    simp only [Bool.and_eq_true, Bool.or_eq_true, beq_iff_eq] at hb
    have h1 := hall e he hb.1
    rcases hb.2 with h2 | h2
    · rw [← h2]; exact h1
    · exact anc_listed hc _ _ h2 h1
theorem Closed.set {listed : Array Bool} (hc : Closed md ops listed) {i : Nat} (hr : i ∈ Region.ready md ops listed) : Closed md ops (listed.setIfInBounds i true) := by
  intro j o ho hj e he hb
  obtain ⟨h0, oi, hoi, hall⟩ := mem_ready.1 hr
  by_cases hij : i = j
  · subst hij
    rw [ho] at hoi
    cases hoi
    exact getD_set_true (hall e he hb)
  · rw [getD_set_ne false hij] at hj
    exact getD_set_true (hc j o ho hj e he hb)
theorem Closed.start (n : Nat) : Closed md ops (Array.replicate n false) := by
  intro j o ho hj
  by_cases h : j < n <;> simp [Array.getD, h] at hj
theorem brk_set {listed : Array Bool} {i : Nat} (hi : i ∉ js) : brk js (listed.setIfInBounds i true) = brk js listed := by
  unfold brk
  induction js with
  | nil => rfl
  | cons j js ih =>
    simp only [List.mem_cons, not_or] at hi
    simp only [List.any_cons]
    rw [getD_set_ne false hi.1, ih hi.2]

theorem notIn {listed : Array Bool} {i : Nat} (h0 : listed.getD i true = false) : listed.getD i false = false := by
  rcases Nat.lt_or_ge i listed.size with h' | h'
  · simp [Array.getD, h'] at h0 ⊢; exact h0
  · simp [Array.getD, Nat.not_lt.2 h'] at h0
/-- An operation that reads under S may be taken first, if it lies ahead of all of js. -/
theorem wpAnyS_first {i : Nat} {oi : Oper} {v : Value} (hi : ops[i]? = some oi) (hsel : ∀ (j : Nat) (o : Oper) cs b, ops[j]? = some o → o.op ≠ .select cs b)
    (hQ : ∀ c a w, Q (.panic c) (a.put oi.dst v) w → Q (.panic c) a w) (hjs : ∀ j ∈ js, ∃ k, anc md ops k j i = true) (hni : i ∉ js) :
    ∀ (fuel : Nat) (listed : Array Bool) (a : Act) (w : World),
      (∀ j oj, ops[j]? = some oj → j ≠ i → listed.getD j true = false → (∀ e ∈ oj.after, Region.binds md e = true → e.on ≠ i) → oi.apart ops oj = true) →
      Closed md ops listed → i ∈ Region.ready md ops listed → YieldsIf P ops S oi v a → S w →
      wpAnyS P md ops Q S js fuel (listed.setIfInBounds i true) (a.put oi.dst v) w → wpAnyS P md ops Q S js (fuel + 1) listed a w := by
  intro fuel
  induction fuel with
  | zero =>
    intro listed a w _ hc hr hy hS H
    refine ⟨fun h => (by rw [h] at hr; cases hr), fun j hj => ?_⟩
    by_cases hji : j = i
    · subst hji; exact hy.wpOp hi hS ⟨.inr hS, H⟩
    · have := ready_mono hj hji
      rw [H.1] at this
      cases this
  | succ fuel ih =>
    intro listed a w hfree hc hr hy hS H
    refine ⟨fun h => (by rw [h] at hr; cases hr), fun j hj => ?_⟩
    by_cases hji : j = i
    · subst hji; exact hy.wpOp hi hS ⟨.inr hS, H⟩
    · have h1 := H.2 j (ready_mono hj hji)
      obtain ⟨hjun, oj, hoj, hall⟩ := mem_ready.1 hj
      have hiun := notIn (mem_ready.1 hr).1
      have hnot : ∀ e ∈ oj.after, Region.binds md e = true → e.on ≠ i := fun e he hb heq => by
        have h1 := hall e he hb
        rw [heq, hiun] at h1
        cases h1
      have hjn : j ∉ js := fun hm => by
        obtain ⟨k, hk⟩ := hjs j hm
        have := anc_ready hc hk hj
        rw [hiun] at this
        cases this
      have hb0 : brk js listed = false := by
        unfold brk
        rw [List.any_eq_false]
        intro x hx hxl
        obtain ⟨k, hk⟩ := hjs x hx
        have := anc_listed hc _ _ hk hxl
        rw [hiun] at this
        cases this
      have hb1 : brk js ((listed.setIfInBounds i true).setIfInBounds j true) = false := by rw [brk_set hjn, brk_set hni, hb0]
      have h2 := wpOp_putIf hoj (hfree j oj hoj hji hjun hnot) (fun cs b => hsel i oi cs b hi) (fun cs b => hsel j oj cs b hoj) hQ hy h1
      have hfree' : ∀ k ok, ops[k]? = some ok → k ≠ i → (listed.setIfInBounds j true).getD k true = false →
          (∀ e ∈ ok.after, Region.binds md e = true → e.on ≠ i) → oi.apart ops ok = true := fun k ok hk hki hun hno => by
        refine hfree k ok hk hki ?_ hno
        by_cases hjk : j = k
        · subst hjk; exact hjun
        · rw [getD_set_ne true hjk] at hun; exact hun
      refine wpOp_mono (fun a' w' h3 => ?_) h2
      have hS' : S w' := h3.2.1.resolve_left (by rw [hb1]; simp)
      refine ⟨.inr hS', ih (listed.setIfInBounds j true) a' w' hfree' (hc.set hj) (ready_mono hr (Ne.symm hji)) h3.1 hS' ?_⟩
      rw [Array.setIfInBounds_comm _ _ hji]
      exact h3.2.2
/-- An operation that yields in whatever world may be taken first. -/
theorem wpAnyS_firstAny {i : Nat} {oi : Oper} {v : Value} (hi : ops[i]? = some oi) (hsel : ∀ (j : Nat) (o : Oper) cs b, ops[j]? = some o → o.op ≠ .select cs b)
    (hQ : ∀ c a w, Q (.panic c) (a.put oi.dst v) w → Q (.panic c) a w) (hni : i ∉ js) :
    ∀ (fuel : Nat) (listed : Array Bool) (a : Act) (w : World),
      (∀ j oj, ops[j]? = some oj → j ≠ i → listed.getD j true = false → (∀ e ∈ oj.after, Region.binds md e = true → e.on ≠ i) → oi.apart ops oj = true) →
      i ∈ Region.ready md ops listed → YieldsIf P ops (fun _ => True) oi v a → (brk js listed = true ∨ S w) →
      wpAnyS P md ops Q S js fuel (listed.setIfInBounds i true) (a.put oi.dst v) w → wpAnyS P md ops Q S js (fuel + 1) listed a w := by
  intro fuel
  induction fuel with
  | zero =>
    intro listed a w _ hr hy hS H
    refine ⟨fun h => (by rw [h] at hr; cases hr), fun j hj => ?_⟩
    by_cases hji : j = i
    · subst hji; exact hy.wpOp hi trivial ⟨by rw [brk_set hni]; exact hS, H⟩
    · have := ready_mono hj hji
      rw [H.1] at this
      cases this
  | succ fuel ih =>
    intro listed a w hfree hr hy hS H
    refine ⟨fun h => (by rw [h] at hr; cases hr), fun j hj => ?_⟩
    by_cases hji : j = i
    · subst hji; exact hy.wpOp hi trivial ⟨by rw [brk_set hni]; exact hS, H⟩
    · have h1 := H.2 j (ready_mono hj hji)
      obtain ⟨hjun, oj, hoj, hall⟩ := mem_ready.1 hj
      have hiun := notIn (mem_ready.1 hr).1
      have hnot : ∀ e ∈ oj.after, Region.binds md e = true → e.on ≠ i := fun e he hb heq => by
        have h1 := hall e he hb
        rw [heq, hiun] at h1
        cases h1
      have h2 := wpOp_putIf hoj (hfree j oj hoj hji hjun hnot) (fun cs b => hsel i oi cs b hi) (fun cs b => hsel j oj cs b hoj) hQ hy h1
      have hfree' : ∀ k ok, ops[k]? = some ok → k ≠ i → (listed.setIfInBounds j true).getD k true = false →
          (∀ e ∈ ok.after, Region.binds md e = true → e.on ≠ i) → oi.apart ops ok = true := fun k ok hk hki hun hno => by
        refine hfree k ok hk hki ?_ hno
        by_cases hjk : j = k
        · subst hjk; exact hjun
        · rw [getD_set_ne true hjk] at hun; exact hun
      refine wpOp_mono (fun a' w' h3 => ?_) h2
      have hb : brk js ((listed.setIfInBounds i true).setIfInBounds j true) = brk js (listed.setIfInBounds j true) := by
        rw [Array.setIfInBounds_comm _ _ (Ne.symm hji), brk_set hni]
      have hS' : brk js (listed.setIfInBounds j true) = true ∨ S w' := by rw [← hb]; exact h3.2.1
      refine ⟨hS', ih (listed.setIfInBounds j true) a' w' hfree' (ready_mono hr (Ne.symm hji)) h3.1 hS' ?_⟩
      rw [Array.setIfInBounds_comm _ _ hji]
      exact h3.2.2

/-! ### The moves -/
theorem brk_keep {listed : Array Bool} {i : Nat} {w : World} (hn : js.contains i = false) (hS : brk js listed = true ∨ S w) : brk js (listed.setIfInBounds i true) = true ∨ S w := by
  rw [brk_set (by simpa using hn)]; exact hS
theorem draw_read {i : Nat} {oi : Oper} {v : Value} {fuel : Nat} {listed : Array Bool} {a : Act} {w : World} (hi : ops[i]? = some oi) (hs : Region.noSelect ops = true) (hf : Region.free md ops listed i = true)
    (hr : (Region.ready md ops listed).contains i = true) (ha : (js.all fun j => anc md ops ops.size j i) = true) (hn : js.contains i = false) (hc : Closed md ops listed) (hQ : ∀ c a w, Q (.panic c) (a.put oi.dst v) w → Q (.panic c) a w) (hS : brk js listed = true ∨ S w) (hb : brk js listed = false)
    (hw : Region.wanted oi (yielded ops a.tmps) = true) (hy : ∀ w, S w → (execOp a.eval oi).run P w = .ok (.value v) w)
    (h : (brk js (listed.setIfInBounds i true) = true ∨ S w) → Closed md ops (listed.setIfInBounds i true) → wpAnyS P md ops Q S js fuel (listed.setIfInBounds i true) (a.put oi.dst v) w) : wpAnyS P md ops Q S js (fuel + 1) listed a w :=
  wpAnyS_first hi (Region.noSelect_spec hs) hQ (fun j hj => ⟨_, by simpa using List.all_eq_true.1 ha j hj⟩) (by simpa using hn) fuel listed a w (Region.free_spec hi hf) hc (by simpa using hr) (.inl ⟨hw, hy⟩) (hS.resolve_left (by rw [hb]; simp)) (h (brk_keep hn hS) (hc.set (by simpa using hr)))
theorem draw_pure {i : Nat} {oi : Oper} {v : Value} {fuel : Nat} {listed : Array Bool} {a : Act} {w : World} (hi : ops[i]? = some oi) (hs : Region.noSelect ops = true) (hf : Region.free md ops listed i = true)
    (hr : (Region.ready md ops listed).contains i = true) (hn : js.contains i = false) (hc : Closed md ops listed) (hQ : ∀ c a w, Q (.panic c) (a.put oi.dst v) w → Q (.panic c) a w) (hS : brk js listed = true ∨ S w)
    (hw : Region.wanted oi (yielded ops a.tmps) = true) (hy : ∀ w, (execOp a.eval oi).run P w = .ok (.value v) w)
    (h : (brk js (listed.setIfInBounds i true) = true ∨ S w) → Closed md ops (listed.setIfInBounds i true) → wpAnyS P md ops Q S js fuel (listed.setIfInBounds i true) (a.put oi.dst v) w) : wpAnyS P md ops Q S js (fuel + 1) listed a w :=
  wpAnyS_firstAny hi (Region.noSelect_spec hs) hQ (by simpa using hn) fuel listed a w (Region.free_spec hi hf) (by simpa using hr) (.inl ⟨hw, fun w _ => hy w⟩) hS (h (brk_keep hn hS) (hc.set (by simpa using hr)))
/-- A guarded operation that is passed over. -/
theorem draw_skip {i : Nat} {oi : Oper} {fuel : Nat} {listed : Array Bool} {a : Act} {w : World} (hi : ops[i]? = some oi) (hs : Region.noSelect ops = true) (hf : Region.free md ops listed i = true)
    (hr : (Region.ready md ops listed).contains i = true) (hn : js.contains i = false) (hc : Closed md ops listed) (hQ : ∀ c a w, Q (.panic c) (a.put oi.dst undef) w → Q (.panic c) a w) (hS : brk js listed = true ∨ S w)
    (hw : Region.wanted oi (yielded ops a.tmps) = false)
    (h : (brk js (listed.setIfInBounds i true) = true ∨ S w) → Closed md ops (listed.setIfInBounds i true) → wpAnyS P md ops Q S js fuel (listed.setIfInBounds i true) (a.put oi.dst undef) w) : wpAnyS P md ops Q S js (fuel + 1) listed a w :=
  wpAnyS_firstAny hi (Region.noSelect_spec hs) hQ (by simpa using hn) fuel listed a w (Region.free_spec hi hf) (by simpa using hr) (.inr ⟨hw, rfl⟩) hS (h (brk_keep hn hS) (hc.set (by simpa using hr)))
/-- What is left to be shown behind an operation that acts. -/
def Cont (P : Program) (md : Region.Mode) (ops : Array Oper) (Q : Exit → Act → World → Prop) (S : World → Prop) (js : List Nat) (fuel : Nat) (listed : Array Bool) (a : Act) (w : World) : Prop :=
  (brk js listed = true ∨ S w) ∧ (Closed md ops listed → wpAnyS P md ops Q S js fuel listed a w)
theorem Cont.intro {fuel : Nat} {listed : Array Bool} {a : Act} {w : World} (h : brk js listed = true ∨ S w) (k : (brk js listed = true ∨ S w) → Closed md ops listed → wpAnyS P md ops Q S js fuel listed a w) : Cont P md ops Q S js fuel listed a w := ⟨h, k h⟩
/-- The one operation that may come up next acts: it is walked as a list of one. -/
theorem draw_act {i : Nat} {oi : Oper} {fuel : Nat} {listed : Array Bool} {a : Act} {w : World} (hi : ops[i]? = some oi) (hr : Region.ready md ops listed = [i]) (hc : Closed md ops listed)
    (h : wpList P ops (Exit.then (Cont P md ops Q S js fuel (listed.setIfInBounds i true)) Q) [oi] a w) : wpAnyS P md ops Q S js (fuel + 1) listed a w := by
  refine ⟨fun h0 => (by rw [hr] at h0; cases h0), fun j hj => ?_⟩
  rw [hr, List.mem_singleton] at hj
  subst hj
  have hmem : j ∈ Region.ready md ops listed := by rw [hr]; exact List.mem_singleton.2 rfl
  refine wpOp_mono (K := Cont P md ops Q S js fuel (listed.setIfInBounds j true)) (fun a' w' h' => ⟨h'.1, h'.2 (hc.set hmem)⟩) ?_
  unfold wpOp
  simp only [hi]
  simp only [wpList] at h
  split
  · rename_i hw
    rw [if_pos hw] at h
    rcases h with h1 | ⟨h1, h2⟩
    · left
      unfold Oper.wp at *
      generalize (execOp a.eval oi).run P w = r at *
      cases r with
      | ok n w' => cases n <;> simp only [Oper.upon] at h1 ⊢ <;> first | exact h1 | exact Calls.mono h1 (fun e w'' he => by cases e <;> first | exact he | (obtain ⟨a0, w0, h0⟩ := he; exact ⟨a0, w0, h0⟩)) | exact Rows.mono h1 (fun _ _ he => he)
      | halt x w' => cases x <;> simp only [Oper.upon] at h1 ⊢ <;> exact h1
    · right
      obtain ⟨a0, w0, h0⟩ := h2
      exact ⟨h1, a0, w0, h0⟩
  · rename_i hw
    rw [if_neg hw] at h
    exact h
theorem draw_done {fuel : Nat} {listed : Array Bool} {a : Act} {w : World} (hr : Region.ready md ops listed = []) (h : Q .normal a w) : wpAnyS P md ops Q S js fuel listed a w := by
  cases fuel with
  | zero => exact ⟨hr, h⟩
  | succ n => exact ⟨fun _ => h, by rw [hr]; simp⟩
theorem draw_start {id : Nat} {a : Act} {w : World} (hm : P.follows .mixedOrders = true) (S : World → Prop) (js : List Nat)
    (h : Closed .any ops (Array.replicate ops.size false) → wpAnyS P .any ops Q S js ops.size (Array.replicate ops.size false) a w.drew) : (Code.region id ops true).wp P Q a w :=
  wp_region_any hm (wpAny_of_S _ _ _ _ (h (Closed.start _)))
/-- The same, S being the list at hand. -/
theorem draw_sat {w0 : World} {Hs : List HP} (id n : Nat) {a : Act} {w : World} (hS : Sat w0 w Hs) (hm : P.follows .mixedOrders = true) (js : List Nat) (hn : ops.size = n)
    (h : ∀ w, Sat w0 w Hs → (brk js (Array.replicate n false) = true ∨ Sat w0 w Hs) → Closed .any ops (Array.replicate n false) → wpAnyS P .any ops Q (fun w => Sat w0 w Hs) js n (Array.replicate n false) a w) : (Code.region id ops true).wp P Q a w := by
  subst hn; exact draw_start hm _ js (h _ hS.drew (.inr hS.drew))
/-- The same, S being what is left without one of its assertions. -/
theorem draw_rem {w0 : World} {Hs Hr : List HP} (A : HP) (id n : Nat) {a : Act} {w : World} (hS : Sat w0 w Hs) (s : Rem Hs A Hr) (hm : P.follows .mixedOrders = true) (js : List Nat) (hn : ops.size = n)
    (h : ∀ w, Sat w0 w Hs → (brk js (Array.replicate n false) = true ∨ Sat w0 w Hr) → Closed .any ops (Array.replicate n false) → wpAnyS P .any ops Q (fun w => Sat w0 w Hr) js n (Array.replicate n false) a w) : (Code.region id ops true).wp P Q a w := by
  subst hn; exact draw_start hm _ js (h _ hS.drew (.inr (hS.drew.front s).drop))
end
theorem draw_ia {P : Program} {T e : TypeId} {size bytes : Nat} (E : ElemTy P T e size bytes) {o : Oper} {x i : Operand} (ho : o.op = .indexAddr T x i) {ρ : Operand → Value} {w : World} {ad : Option Addr} {n cap : Nat} {k : IntKind} {ix : Int}
    (hx : ρ x = .slice ad n cap) (hi : ρ i = .int k ix) (h0 : 0 ≤ ix) (h1 : ix < n) (hne : ∃ aa, ad = some aa ∧ aa.spot = none) {j : Nat} (hj : ix.toNat * size = j) : (execOp ρ o).run P w = .ok (.value (.pointer (some (adr ad j)))) w := by
  obtain ⟨aa, rfl, _⟩ := hne
  subst hj
  exact run_op_indexAddr ho hx hi E.ht E.sz h0 h1
end Go.SL
