/- A part of the proof: Bk7. -/
import Derived.Test.YthackanffcaejaaGreatDoorO1
import Derived.Test.YthackanffcaejaaGreatDoorO25
set_option linter.unusedSimpArgs false
set_option linter.unusedVariables false
set_option linter.unusedSectionVars false
namespace Go.Proofs.YthackanffcaejaaGreatDoor
section
open Go Go.RowKit Go.SL Go.ClauseP Go.LexP

theorem uDq {w : List UInt8} {e : Int} (h : kU w = .bad e) : e ≠ 0 := by
  unfold kU at h
  split at h; cases h
  split at h; cases h
  split at h; cases h
  split at h; cases h
  split at h; cases h
  split at h
  · rename_i t _ _ _ _ _
    have key : ∀ b : Bool, (if b = true then Tk.bad 131 else if kj 65535 t < 0 then Tk.bad 133 else Tk.var (kj 65535 t)) = .bad e → e ≠ 0 := by
      intro b h
      cases b
      · simp only [Bool.false_eq_true, if_false] at h
        split at h
        · injection h with h; rw [← h]; decide
        · cases h
      · injection h with h; rw [← h]; decide
    exact key _ h
  · injection h with h; rw [← h]; decide
theorem piece_bad {l : List UInt8} {e : Int} (h : (Yj l).1 = .bad e) : e ≠ 0 := by
  cases l with
  | nil => cases h
  | cons c l =>
    unfold Yj at h
    dsimp only at h
    split at h
    · exact uDq h
    · split at h
      · dsimp only at h
        split at h
        · injection h with h; rw [← h]; decide
        · cases h
      · split at h
        · rename_i s hs
          have hm := List.mem_of_find?_eq_some hs
          simp only [signs11, signs10, List.cons_append, List.nil_append, List.mem_cons, List.not_mem_nil, or_false] at hm
          rcases hm with rfl | rfl | rfl | rfl | rfl | rfl | rfl | rfl | rfl | rfl | rfl | rfl | rfl | rfl | rfl | rfl | rfl | rfl | rfl | rfl | rfl <;> cases h
        · injection h with h; rw [← h]; decide
theorem next_bad {text : List UInt8} {k : Nat} {e : Int} (h : (yS text k).tk = .bad e) : e ≠ 0 := by
  unfold yS at h
  split at h
  · cases h
  · exact piece_bad h
theorem mstep_err {m : MS} {w q e : Int} {tk : Tk} (h : yB m w q tk = .err e) (hb : ∀ e', tk = .bad e' → e' ≠ 0) : e ≠ 0 := by
  have k131 : ∀ {x : Int}, Nx.err 131 = Nx.err x → x ≠ 0 := fun h => by injection h with h; rw [← h]; decide
  have k132 : ∀ {x : Int}, Nx.err 132 = Nx.err x → x ≠ 0 := fun h => by injection h with h; rw [← h]; decide
  have k8 : ∀ {x : Int}, Nx.err 8 = Nx.err x → x ≠ 0 := fun h => by injection h with h; rw [← h]; decide
  cases tk with
  | bad e' => injection h with h; rw [← h]; exact hb e' rfl
  | cls =>
    simp only [yB] at h
    split at h
    · generalize Yd m.st m.out m.opn = x at h
      obtain ⟨S, o1, k⟩ := x
      rcases S with _ | ⟨a, S⟩
      · exact k131 h
      · cases a <;> simp only [kY] at h <;> (try split at h) <;> first | exact k131 h | cases h
    · exact k131 h
  | comma =>
    simp only [yB] at h
    split at h
    · generalize Yd m.st m.out m.opn = x at h
      obtain ⟨S, o1, k⟩ := x
      rcases S with _ | ⟨a, S⟩
      · exact k131 h
      · cases a <;> simp only [KB] at h <;> (try split at h) <;> first | exact k131 h | cases h
    · split at h
      · cases h
      · exact k131 h
  | fin =>
    simp only [yB] at h
    split at h
    · generalize Yd m.st m.out m.opn = x at h
      obtain ⟨S, o1, k⟩ := x
      cases S with
      | nil => cases h
      | cons a S => exact k131 h
    · exact k131 h
  | _ =>
    simp only [yB, Yw, YK] at h
    repeat' split at h
    all_goals first | exact k131 h | exact k132 h | exact k8 h | cases h
theorem run_code {text : List UInt8} {m : MS} {w q : Int} {t : TokR} {r : Ans} (h : MRun text m w q t r) : ∀ (k : Nat) (e : Int) (a : Nat), t = yS text k → r = .inl (e, a) → e ≠ 0 := by
  induction h with
  | @err m w q t e' hs =>
    intro k e a ht hr
    injection hr with hr; injection hr with h1 h2
    subst h1; subst ht
    exact mstep_err hs fun e' h => next_bad h
  | done hs => intro k e a ht hr; cases hr
  | @go m w q t m' w' q' r hs hr0 ih => intro k e a ht hr; exact ih _ e a rfl hr
theorem XU {text : List UInt8} {e : Int} {a : Nat} (h : kr text (.inl (e, a))) : e ≠ 0 := run_code (kR h) 0 e a rfl rfl
theorem gh {text : List UInt8} {x : T} (h : kr text (.inr x)) {r : (Int × Nat) ⊕ T} (h' : kr (wr x true) r) : ut r = .inr (post x) := by
  rw [xW h h']; rfl
theorem Xh {text : List UInt8} {x : T} (h : kr text (.inr x)) : km (post x) = some x ∧ ke (post x) = if (wr x true).length > 1048576 then ([], 5) else (wr x true, 0) := by
  obtain ⟨h1, h2, h3, _⟩ := Kr h
  have ht := Ue h1 h2 h3
  refine ⟨ht, ?_⟩
  unfold ke
  rw [ht]
end
end Go.Proofs.YthackanffcaejaaGreatDoor
