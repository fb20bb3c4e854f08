/- A part of the proof: Bk2 Bk4 Al1 Pm. -/
import Derived.Test.YthackanffcaejaaGreatDoorM1
import Derived.Test.YthackanffcaejaaGreatDoorM7
import Derived.Test.YthackanffcaejaaGreatDoorM8
section
set_option linter.unusedSimpArgs false
set_option linter.unusedVariables false
namespace Go.Proofs.YthackanffcaejaaGreatDoor
open Go Go.RowKit Go.SL Go.ClauseP Go.LexP

def runM (m : MS) (w q : Int) : List Tk → Nx
  | [] => .go m w q
  | t :: l => match mstep m w q t with
    | .go m' w' q' => runM m' w' q' l
    | x => x
theorem runM_app : ∀ (l l' : List Tk) (m : MS) (w q : Int) {m' : MS} {w' q' : Int}, runM m w q l = .go m' w' q' → runM m w q (l ++ l') = runM m' w' q' l'
  | [], l', m, w, q, m', w', q', h => by
    simp only [runM] at h; injection h with a b c; subst a; subst b; subst c; rfl
  | t :: l, l', m, w, q, m', w', q', h => by
    simp only [List.cons_append, runM] at h ⊢
    cases hs : mstep m w q t with
    | err e => rw [hs] at h; cases h
    | done o => rw [hs] at h; cases h
    | go m1 w1 q1 => rw [hs] at h; exact runM_app l l' m1 w1 q1 h
theorem runM_cons {m m' : MS} {w q w' q' : Int} {t : Tk} (l : List Tk) (h : mstep m w q t = .go m' w' q') : runM m w q (t :: l) = runM m' w' q' l := by simp only [runM, h]
def Stop2 (b : Nat) : List Wt → Prop
  | .not :: _ => 6 ≤ b
  | .op o :: _ => bndN o < b ∨ b = 2 ∧ o = 9
  | _ => True
theorem Stop2.oper {op : Int} {S : List Wt} (h : Stop2 (bndN op) S) (h9 : bndN op = 2 → op = 9) (o : List (Int × Int)) (k : Nat) : operM op S o k = (S, o, k) := by
  have := bndN_le op
  cases S with
  | nil => rfl
  | cons w S =>
    unfold Stop2 at h
    cases w with
    | not => dsimp only at h; omega
    | op x =>
      dsimp only at h; simp only [operM]
      rcases h with h | ⟨h, rfl⟩
      · rw [if_pos (.inl h)]
      · have := h9 h; subst this; rw [if_pos (.inr ⟨rfl, rfl⟩)]
    | _ => rfl
theorem Stop2.up {b c : Nat} {S : List Wt} (h : Stop2 b S) (hb : b ≤ c) : Stop2 c S := by
  unfold Stop2 at *
  split at h
  · omega
  · rcases h with h | ⟨h, rfl⟩
    · exact .inl (by omega)
    · by_cases hc : c = 2
      · exact .inr ⟨hc, rfl⟩
      · exact .inl (by show 2 < c; omega)
  · trivial
def fits (b : Nat) (last : Bool) : T → Prop
  | .bin op _ _ => b ≤ bndN op
  | .qu _ _ _ => last = true
  | _ => True
def lkL (t : T) (last : Bool) : Int := if last then (look t).1 else (look t).2
def GoodL (b : Nat) (last : Bool) (pend : List Wt) : Prop := (∀ w ∈ pend, Soft w) ∧ (last = false → ∀ w ∈ pend, w = .not ∨ ∃ o, w = .op o ∧ b ≤ bndN o)
theorem GoodL.nil (b : Nat) (last : Bool) : GoodL b last [] := ⟨fun _ h => (nomatch h), fun _ _ h => (nomatch h)⟩
theorem GoodL.down {b c : Nat} {last : Bool} {pend : List Wt} (h : GoodL c last pend) (hb : b ≤ c) : GoodL b last pend :=
  ⟨h.1, fun hl w hw => (h.2 hl w hw).imp id fun ⟨o, e, k⟩ => ⟨o, e, by omega⟩⟩
theorem GoodL.snoc {b : Nat} {last : Bool} {pend : List Wt} {x : Wt} (h : GoodL b last pend) (hs : Soft x) (hx : last = false → x = .not ∨ ∃ o, x = .op o ∧ b ≤ bndN o) : GoodL b last (pend ++ [x]) := by
  refine ⟨fun w hw => ?_, fun hl w hw => ?_⟩
  · rcases List.mem_append.1 hw with hw | hw
    · exact h.1 w hw
    · simp at hw; subst hw; exact hs
  · rcases List.mem_append.1 hw with hw | hw
    · exact h.2 hl w hw
    · simp at hw; subst hw; exact hx hl
def Reads (b : Nat) (last : Bool) (t : T) (l : List Tk) (w0 : Int) (q0 : Int) (S : List Wt) (o : List (Int × Int)) (k n : Nat) : Prop :=
  ∃ pend o' q', runM ⟨S, o, k, n⟩ w0 q0 l = .go ⟨pend ++ S, o ++ o', k + cn pend, n + size t⟩ 1 q' ∧ o' ++ nd pend = post t ∧ GoodL b last pend
def ReadT (t : T) : Prop := ∀ (b : Nat) (last : Bool) (S : List Wt) (o : List (Int × Int)) (k n : Nat) (q : Int), b ≤ 6 → Stop2 b S → fits b last t → (k : Int) + lkL t last ≤ 64 → n + size t ≤ 65536 → Reads b last t (tkT t last) 0 q S o k n
def ReadC (t : T) : Prop := ∀ (op : Int) (S : List Wt) (o : List (Int × Int)) (k n : Nat), (op = 4 ∨ op = 5) → Stop2 1 S → (k : Int) + (look t).1 ≤ 64 → n + size t ≤ 65536 → Reads 1 true t (chainK op t) 4 op S o k n
theorem nd_snoc (p : List Wt) (x : Wt) : nd (p ++ [x]) = nd p ++ ndW x := by rw [nd_app]; simp [nd]
theorem cn_snoc (p : List Wt) (x : Wt) : cn (p ++ [x]) = cn p + opW x := by rw [cn_app]; simp [cn]
theorem fits1 (t : T) : fits 1 true t := by
  cases t <;> simp [fits]
  exact (bndN_le _).1
theorem read_brk {t : T} (h : ReadT t) (b : Nat) (last : Bool) (S : List Wt) (o : List (Int × Int)) (k n : Nat) (q : Int) (hk : (k : Int) + (1 + (look t).1) ≤ 64) (hn : n + size t ≤ 65536) : Reads b last t ([.opn] ++ tkT t true ++ [.cls]) 0 q S o k n := by
  have l1 := (look_le t).1
  obtain ⟨pend, o', q', h1, h2, h3⟩ := h 1 true (.opn :: S) o (k + 1) n q (by omega) trivial (fits1 t) (by unfold lkL; simp only [if_true]; push_cast; omega) hn
  refine ⟨[], post t, q', ?_, by simp [nd], GoodL.nil _ _⟩
  have e1 : mstep ⟨S, o, k, n⟩ 0 q .opn = .go ⟨.opn :: S, o, k + 1, n⟩ 0 q := by
    simp only [mstep, opensM, if_true]; rw [if_neg (by omega)]
  rw [List.cons_append, List.nil_append, List.cons_append, runM_cons _ e1, runM_app _ _ _ _ _ h1]
  have e2 : mstep ⟨pend ++ .opn :: S, o ++ o', k + 1 + cn pend, n + size t⟩ 1 q' .cls = .go ⟨S, o ++ post t, k, n + size t⟩ 1 q' := by
    simp only [mstep, if_true]
    rw [inner_soft pend _ _ _ h3.1, List.append_assoc, h2]
    simp only [innerM, closeM, Nat.add_sub_cancel]
  rw [runM_cons _ e2]
  simp [runM, cn]
theorem tight_bnd (op : Int) (h : 6 ≤ op ∧ op ≤ 10) : tightP op = bndN op := by
  have : op = 6 ∨ op = 7 ∨ op = 8 ∨ op = 9 ∨ op = 10 := by omega
  rcases this with rfl | rfl | rfl | rfl | rfl <;> rfl
theorem read_opd {x : T} (h : ReadT x) (op side : Int) (b : Nat) (last : Bool) (S : List Wt) (o : List (Int × Int)) (k n : Nat) (q : Int) (hb : b ≤ 6) (hS : Stop2 b S) (hf : brkP op side x last = false → fits b last x) (hk : (k : Int) + cnt op side x last (look x) ≤ 64) (hn : n + size x ≤ 65536) :
    Reads b last x (opdK op side x last) 0 q S o k n := by
  unfold opdK
  unfold cnt at hk
  cases hbr : brkP op side x last with
  | true => rw [hbr] at hk; simp only [if_true] at hk ⊢; exact read_brk h b last S o k n q hk hn
  | false => rw [hbr] at hk; simp only [Bool.false_eq_true, if_false] at hk ⊢; exact h b last S o k n q hb hS (hf hbr) hk hn
theorem read_chain {t : T} (h : ReadT t) {op : Int} (hq : isQu op t = false) (S : List Wt) (o : List (Int × Int)) (k n : Nat) (hS : Stop2 1 S) (hk : (k : Int) + (look t).1 ≤ 64) (hn : n + size t ≤ 65536) : Reads 1 true t (chainK op t) 4 op S o k n := by
  obtain ⟨pend, o', q', h1, h2, h3⟩ := h 1 true S o k n op (by omega) hS (fits1 t) (by unfold lkL; simpa using hk) hn
  rw [chainK_end hq]
  refine ⟨pend, o', q', ?_, h2, h3⟩
  rw [runM_cons _ (show mstep ⟨S, o, k, n⟩ 4 op .colon = .go ⟨S, o, k, n⟩ 0 op from rfl)]
  exact h1
theorem cnt_nn (op side : Int) (x : T) (last : Bool) : 0 ≤ cnt op side x last (look x) := by
  have := look_le x
  unfold cnt; split
  · omega
  · split <;> omega
theorem readT : ∀ t : T, okT t → ReadT t ∧ ReadC t
  | .cst c, h => by
    have h1 : ReadT (.cst c) := by
      intro b last S o k n q hb hS hf hk hn
      rw [tkT_cst]
      refine ⟨[], [(1, c)], q, ?_, rfl, GoodL.nil _ _⟩
      simp only [size] at hn
      simp only [runM, mstep, makesM, if_true]
      rw [if_neg (by omega)]
      simp [cn, size]
    exact ⟨h1, fun op S o k n _ hS hk hn => read_chain h1 rfl S o k n hS hk hn⟩
  | .var v, h => by
    have h1 : ReadT (.var v) := by
      intro b last S o k n q hb hS hf hk hn
      rw [tkT_var]
      refine ⟨[], [(2, v)], q, ?_, rfl, GoodL.nil _ _⟩
      simp only [size] at hn
      simp only [runM, mstep, makesM, if_true]
      rw [if_neg (by omega)]
      simp [cn, size]
    exact ⟨h1, fun op S o k n _ hS hk hn => read_chain h1 rfl S o k n hS hk hn⟩
  | .neg a, h => by
    have ih := (readT a h).1
    have h1 : ReadT (.neg a) := by
      intro b last S o k n q hb hS hf hk hn
      have c0 := cnt_nn 3 0 a last
      have hk1 : (k : Int) + 1 + cnt 3 0 a last (look a) ≤ 64 := by
        cases last <;> simp only [lkL, look, if_true, if_false, Bool.false_eq_true] at hk <;> omega
      simp only [size] at hn
      obtain ⟨pend, o', q', g1, g2, g3⟩ := read_opd ih 3 0 6 last (.not :: S) o (k + 1) (n + 1) q (by omega) (Nat.le_refl 6) (fun hbr => by
        cases a with
        | bin o x y => exfalso; simp [brkP] at hbr
        | qu o x y => simp [brkP] at hbr; exact hbr
        | _ => trivial) (by push_cast; omega) (by omega)
      rw [tkT_neg]
      refine ⟨pend ++ [.not], o', q', ?_, ?_, (g3.down hb).snoc (.inl rfl) fun _ => .inl rfl⟩
      · have e1 : mstep ⟨S, o, k, n⟩ 0 q .not = .go ⟨.not :: S, o, k + 1, n + 1⟩ 0 q := by
          simp only [mstep, opensM, makesM, if_true]; rw [if_neg (by omega), if_neg (by omega)]
        rw [List.cons_append, List.nil_append, runM_cons _ e1, g1, cn_snoc]
        simp only [List.append_assoc, List.cons_append, List.nil_append, opW, size]
        congr 2 <;> omega
      · rw [nd_snoc, ← List.append_assoc, g2]; rfl
    exact ⟨h1, fun op S o k n _ hS hk hn => read_chain h1 rfl S o k n hS hk hn⟩
  | .qu op v a, h => by
    have ih := (readT a h.2.2.2).2
    have h4 : op = 4 ∨ op = 5 := h.1
    have hv : ∀ (S : List Wt) (o : List (Int × Int)) (k n : Nat), (k : Int) + (1 + (look a).1) ≤ 64 → n + (size a + 1) ≤ 65536 → Reads 1 true (.qu op v a) (.var v :: chainK op a) 3 op S o k n := by
      intro S o k n hk hn
      have l1 := (look_le a).1
      obtain ⟨pend, o', q', g1, g2, g3⟩ := ih op (.quant op v :: S) o (k + 1) (n + 1) h4 trivial (by push_cast; omega) (by omega)
      refine ⟨pend ++ [.quant op v], o', q', ?_, ?_, g3.snoc (.inr (.inl ⟨_, _, rfl⟩)) fun hl => by cases hl⟩
      · have e1 : mstep ⟨S, o, k, n⟩ 3 op (.var v) = .go ⟨.quant op v :: S, o, k + 1, n + 1⟩ 4 op := by
          simp only [mstep, opensM, makesM, if_true]; rw [if_neg (by decide), if_neg (by omega), if_neg (by omega)]
        rw [runM_cons _ e1, g1, cn_snoc]
        simp only [List.append_assoc, List.cons_append, List.nil_append, opW, size]
        congr 2 <;> omega
      · rw [nd_snoc, ← List.append_assoc, g2]; rfl
    have h1 : ReadT (.qu op v a) := by
      intro b last S o k n q hb hS hf hk hn
      have hl : last = true := hf
      subst hl
      obtain ⟨pend, o', q', g1, g2, g3⟩ := hv S o k n (by simpa [lkL, look] using hk) (by simpa [size] using hn)
      rw [tkT_qu]
      refine ⟨pend, o', q', ?_, g2, ⟨g3.1, fun hl => by cases hl⟩⟩
      rw [List.cons_append, runM_cons _ (show mstep ⟨S, o, k, n⟩ 0 q (.quant op) = .go ⟨S, o, k, n⟩ 3 op from rfl)]
      exact g1
    refine ⟨h1, fun op' S o k n hop hS hk hn => ?_⟩
    by_cases e : op' = op
    · subst e
      obtain ⟨pend, o', q', g1, g2, g3⟩ := hv S o k n (by simpa [look] using hk) (by simpa [size] using hn)
      rw [chainK_same]
      refine ⟨pend, o', q', ?_, g2, g3⟩
      have e1 : mstep ⟨S, o, k, n⟩ 4 op' .comma = .go ⟨S, o, k, n⟩ 3 op' := by simp [mstep]
      rw [List.cons_append, runM_cons _ e1]
      exact g1
    · exact read_chain h1 (by simp [isQu]; exact fun x => e x.symm) S o k n hS hk hn
  | .bin op a b', h => by
    obtain ⟨ha, hb', oka, okb⟩ := h
    have ia := (readT a oka).1
    have ib := (readT b' okb).1
    have ht := tight_bnd op ⟨ha, hb'⟩
    have hbl := bndN_le op
    have h9 : bndN op = 2 → op = 9 := by
      intro h2
      have : op = 6 ∨ op = 7 ∨ op = 8 ∨ op = 9 ∨ op = 10 := by omega
      rcases this with rfl | rfl | rfl | rfl | rfl <;> first | rfl | cases h2
    have h1 : ReadT (.bin op a b') := by
      intro b last S o k n q hb hS hf hk hn
      have hf : b ≤ bndN op := hf
      simp only [size] at hn
      have ca := cnt_nn op 0 a false
      have cb := cnt_nn op 1 b' last
      have hk1 : (k : Int) + cnt op 0 a false (look a) ≤ 64 ∧ (k : Int) + cnt op 1 b' last (look b') ≤ 64 := by
        cases last <;> simp only [lkL, look, if_true, if_false, Bool.false_eq_true] at hk <;> omega
      have hSo := hS.up hf
      obtain ⟨bl, hbl2⟩ : ∃ bl, bl = if op = 9 then 3 else bndN op := ⟨_, rfl⟩
      have hle : bndN op ≤ bl := by rw [hbl2]; split; (rename_i e; subst e; decide); exact Nat.le_refl _
      have hl6 : bl ≤ 6 := by rw [hbl2]; split <;> omega
      obtain ⟨p1, o1, q1, g1, g2, g3⟩ := read_opd ia op 0 bl false S o k n q hl6 (hSo.up hle) (fun hbr => by
        cases a with
        | bin o2 x y =>
          have hto := tight_bnd o2 ⟨oka.1, oka.2.1⟩
          show bl ≤ bndN o2
          by_cases e9 : op = 9
          · subst e9
            have h2 : tightP 9 = 2 := rfl
            simp [brkP] at hbr
            rw [hbl2, if_pos rfl]; omega
          · simp [brkP, e9, show ¬ op = 3 by omega] at hbr
            rw [hbl2, if_neg e9]; omega
        | qu o x y => simp [brkP] at hbr
        | _ => trivial) hk1.1 (by omega)
      have e2 : mstep ⟨p1 ++ S, o ++ o1, k + cn p1, n + size a⟩ 1 q1 (.op op) = .go ⟨.op op :: S, o ++ post a, k, n + size a + 1⟩ 0 q1 := by
        simp only [mstep, makesM, if_true]
        rw [if_neg (by omega)]
        have e3 : operM op (p1 ++ S) (o ++ o1) (k + cn p1) = (S, o ++ post a, k) := by
          rw [oper_soft op bl hle p1 S _ _ (fun w hw => (g3.2 rfl w hw).imp id fun ⟨y, e1, e2⟩ => ⟨y, e1, e2, fun e9 => by
            have : bndN op = 2 := by subst e9; rfl
            have : bl = 3 := by rw [hbl2, if_pos e9]
            omega⟩), List.append_assoc, g2]
          exact hSo.oper h9 _ _
        rw [e3]
      obtain ⟨br, hbr2⟩ : ∃ br, br = if op = 9 then 2 else bndN op + 1 := ⟨_, rfl⟩
      have hbr6 : br ≤ 6 := by rw [hbr2]; split <;> omega
      have hbr3 : bndN op ≤ br := by rw [hbr2]; split; (rename_i e; subst e; decide); omega
      obtain ⟨p2, o2, q2, k1, k2, k3⟩ := read_opd ib op 1 br last (.op op :: S) (o ++ post a) k (n + size a + 1) q1 hbr6 (by
        show bndN op < br ∨ br = 2 ∧ op = 9
        rw [hbr2]; split
        · rename_i e; exact .inr ⟨rfl, e⟩
        · exact .inl (by omega)) (fun hbr => by
        cases b' with
        | bin o2 x y =>
          have hto := tight_bnd o2 ⟨okb.1, okb.2.1⟩
          show br ≤ bndN o2
          by_cases e9 : op = 9
          · subst e9
            have h2 : tightP 9 = 2 := rfl
            simp [brkP] at hbr
            rw [hbr2, if_pos rfl]; omega
          · simp [brkP, e9, show ¬ op = 3 by omega] at hbr
            rw [hbr2, if_neg e9]; omega
        | qu o x y => simp [brkP] at hbr; exact hbr
        | _ => trivial) hk1.2 (by omega)
      rw [tkT_bin]
      refine ⟨p2 ++ [.op op], post a ++ o2, q2, ?_, ?_, (k3.down (by omega)).snoc (.inr (.inr ⟨_, rfl⟩)) fun _ => .inr ⟨_, rfl, hf⟩⟩
      · rw [List.append_assoc, runM_app _ _ _ _ _ g1, List.cons_append, List.nil_append, runM_cons _ e2, k1, cn_snoc]
        simp only [List.append_assoc, List.cons_append, List.nil_append, opW, size]
        congr 2 <;> omega
      · rw [nd_snoc, ← List.append_assoc, List.append_assoc (post a), k2]; rfl
    exact ⟨h1, fun op S o k n _ hS hk hn => read_chain h1 rfl S o k n hS hk hn⟩
  | .ite c a b', h => by
    have ic := (readT c h.1).1
    have ia := (readT a h.2.1).1
    have ib := (readT b' h.2.2).1
    have h1 : ReadT (.ite c a b') := by
      intro b last S o k n q hb hS hf hk hn
      simp only [size] at hn
      have lc := (look_le c).1
      have la := (look_le a).1
      have lb := (look_le b').1
      have hk1 : (k : Int) + 1 + (look c).1 ≤ 64 ∧ (k : Int) + 1 + (look a).1 ≤ 64 ∧ (k : Int) + 1 + (look b').1 ≤ 64 := by
        cases last <;> simp only [lkL, look, if_true, if_false, Bool.false_eq_true] at hk <;> omega
      obtain ⟨p1, o1, q1, c1, c2, c3⟩ := ic 1 true (.ite 0 :: S) o (k + 1) (n + 1) q (by omega) trivial (fits1 c) (by unfold lkL; simp only [if_true]; push_cast; omega) (by omega)
      obtain ⟨p2, o2, q2, a1, a2, a3⟩ := ia 1 true (.ite 1 :: S) (o ++ post c) (k + 1) (n + 1 + size c) q1 (by omega) trivial (fits1 a) (by unfold lkL; simp only [if_true]; push_cast; omega) (by omega)
      obtain ⟨p3, o3, q3, b1, b2, b3⟩ := ib 1 true (.ite 2 :: S) (o ++ post c ++ post a) (k + 1) (n + 1 + size c + size a) q2 (by omega) trivial (fits1 b') (by unfold lkL; simp only [if_true]; push_cast; omega) (by omega)
      have e1 : mstep ⟨S, o, k, n⟩ 0 q .ite = .go ⟨.ite 0 :: S, o, k + 1, n + 1⟩ 2 q := by
        simp only [mstep, opensM, makesM, if_true]; rw [if_neg (by omega), if_neg (by omega)]
      have e2 : mstep ⟨.ite 0 :: S, o, k + 1, n + 1⟩ 2 q .opn = .go ⟨.ite 0 :: S, o, k + 1, n + 1⟩ 0 q := by simp [mstep]
      have e3 : mstep ⟨p1 ++ .ite 0 :: S, o ++ o1, k + 1 + cn p1, n + 1 + size c⟩ 1 q1 .comma = .go ⟨.ite 1 :: S, o ++ post c, k + 1, n + 1 + size c⟩ 0 q1 := by
        simp only [mstep, if_true]
        rw [inner_soft p1 _ _ _ c3.1, List.append_assoc, c2]
        rfl
      have e4 : mstep ⟨p2 ++ .ite 1 :: S, o ++ post c ++ o2, k + 1 + cn p2, n + 1 + size c + size a⟩ 1 q2 .comma = .go ⟨.ite 2 :: S, o ++ post c ++ post a, k + 1, n + 1 + size c + size a⟩ 0 q2 := by
        simp only [mstep, if_true]
        rw [inner_soft p2 _ _ _ a3.1, List.append_assoc (o ++ post c), a2]
        rfl
      have e5 : mstep ⟨p3 ++ .ite 2 :: S, o ++ post c ++ post a ++ o3, k + 1 + cn p3, n + 1 + size c + size a + size b'⟩ 1 q3 .cls = .go ⟨S, o ++ post (.ite c a b'), k, n + 1 + size c + size a + size b'⟩ 1 q3 := by
        simp only [mstep, if_true]
        rw [inner_soft p3 _ _ _ b3.1, List.append_assoc (o ++ post c ++ post a), b2]
        simp only [innerM, closeM, if_true, post, List.append_assoc, Nat.add_sub_cancel]
      rw [tkT_ite]
      refine ⟨[], post (.ite c a b'), q3, ?_, by simp [nd], GoodL.nil _ _⟩
      have e : [Tk.ite, .opn] ++ tkT c true ++ [.comma] ++ tkT a true ++ [.comma] ++ tkT b' true ++ [.cls] = .ite :: .opn :: (tkT c true ++ .comma :: (tkT a true ++ .comma :: (tkT b' true ++ [.cls]))) := by simp
      rw [e, runM_cons _ e1, runM_cons _ e2, runM_app _ _ _ _ _ c1, runM_cons _ e3, runM_app _ _ _ _ _ a1, runM_cons _ e4, runM_app _ _ _ _ _ b1, runM_cons _ e5]
      simp only [runM, List.nil_append, cn, List.map_nil, List.sum_nil, size]
      congr 2; omega
    exact ⟨h1, fun op S o k n _ hS hk hn => read_chain h1 rfl S o k n hS hk hn⟩

/-! ### Texts -/
theorem toks_run {text : List UInt8} {s' : List UInt8} {m' : MS} {w' q' : Int} {o : List (Int × Int)} (hf : (nextS s').1 = .fin) (hd : mstep m' w' q' .fin = .done o) : ∀ (l : List Tk) (m : MS) (w q : Int) (k : Nat), Toks (text.drop k) l s' → runM m w q l = .go m' w' q' → MRun text m w q (nextT text k) (.inr o)
  | [], m, w, q, k, h, hr => by
    simp only [runM] at hr; injection hr with a b c; subst a; subst b; subst c
    refine .done ?_
    rw [(next_drop text k).1, show nextS (text.drop k) = nextS s' from h, hf]; exact hd
  | t :: l, m, w, q, k, h, hr => by
    obtain ⟨h1, h2⟩ := h
    obtain ⟨e1, e2⟩ := next_drop text k
    simp only [runM] at hr
    cases hs : mstep m w q t with
    | err e => rw [hs] at hr; cases hr
    | done o => rw [hs] at hr; cases hr
    | go m1 w1 q1 =>
      rw [hs] at hr
      refine .go (m' := m1) (w' := w1) (q' := q1) (by rw [e1, h1]; exact hs) ?_
      exact toks_run hf hd l m1 w1 q1 _ (by rw [e2]; exact h2) hr
theorem read_toks {text s' : List UInt8} {t : T} (hk : okT t) (hd : (look t).1 ≤ 64) (hn : size t ≤ 65536) (hs : Toks text (tkT t true) s') (hf : (nextS s').1 = .fin) : MRun text m00 0 0 (nextT text 0) (.inr (post t)) := by
  obtain ⟨pend, o', q', h1, h2, h3⟩ := (readT t hk).1 1 true [] [] 0 0 0 (by omega) trivial (fits1 t) (by unfold lkL; simpa using hd) (by omega)
  refine toks_run hf (m' := ⟨pend ++ [], [] ++ o', 0 + cn pend, 0 + size t⟩) (w' := 1) (q' := q') ?_ (tkT t true) m00 0 0 0 (by simpa using hs) h1
  simp only [mstep, if_true]
  rw [inner_soft pend _ _ _ h3.1, List.append_assoc, h2]
  rfl
theorem read_wr {t : T} (hk : okT t) (hd : (look t).1 ≤ 64) (hn : size t ≤ 65536) : MRun (wr t true) m00 0 0 (nextT (wr t true) 0) (.inr (post t)) := by
  have h := (lexT t hk).1 true [] sep_nil
  rw [List.append_nil] at h
  exact read_toks hk hd hn h rfl
theorem parse_wr {t : T} {r : (Int × Nat) ⊕ T} (hk : okT t) (hd : (look t).1 ≤ 64) (hn : size t ≤ 65536) (h : ParseR (wr t true) r) : ∃ x, r = .inr x ∧ post x = post t := by
  have := (parse_law h).det (read_wr hk hd hn)
  cases r with
  | inl e => cases this
  | inr x => refine ⟨x, rfl, ?_⟩; injection this
end Go.Proofs.YthackanffcaejaaGreatDoor
end
section
set_option linter.unusedSimpArgs false
set_option linter.unusedVariables false
namespace Go.Proofs.YthackanffcaejaaGreatDoor
open Go Go.RowKit Go.SL Go.ClauseP Go.LexP

/-! ### Lists and trees -/
theorem runT_back : ∀ (t : T) (st : List T), okT t → runT st (post t) = some (t :: st)
  | .cst n, st, h => by
    have h : n = 0 ∨ n = 1 := h
    simp [post, runT, stepT, h]
  | .var v, st, h => by
    have h : 0 ≤ v ∧ v < 65536 := h
    simp [post, runT, stepT, h]
  | .neg a, st, h => by
    simp only [post]
    rw [runT_append, runT_back a st h]
    simp [runT, stepT]
  | .qu op v a, st, h => by
    obtain ⟨h1, h2, h3, h4⟩ := h
    simp only [post]
    rw [runT_append, runT_back a st h4]
    rcases h1 with rfl | rfl <;> simp [runT, stepT, h2, h3]
  | .bin op a b, st, h => by
    obtain ⟨h1, h2, h3, h4⟩ := h
    simp only [post]
    rw [runT_append, runT_append, runT_back a st h3]
    simp only [Option.bind_some]
    rw [runT_back b _ h4]
    simp only [Option.bind_some, runT, stepT]
    rw [if_neg (by omega), if_neg (by omega), if_neg (by omega), if_neg (by omega), if_pos ⟨h1, h2, trivial⟩]
  | .ite c a b, st, h => by
    obtain ⟨h1, h2, h3⟩ := h
    simp only [post]
    rw [runT_append, runT_append, runT_append, runT_back c st h1]
    simp only [Option.bind_some]
    rw [runT_back a _ h2]
    simp only [Option.bind_some]
    rw [runT_back b _ h3]
    simp [runT, stepT]
theorem post_inj {x y : T} (hx : okT x) (hy : okT y) (h : post x = post y) : x = y := by
  have h1 := runT_back x [] hx
  have h2 := runT_back y [] hy
  rw [h, h2] at h1
  injection h1 with h1; injection h1 with h1; exact h1.symm
theorem treeQ_back {t : T} (h : okT t) (hs : size t ≤ 65536) : treeQ (post t) = some t := by
  unfold treeQ
  rw [post_len, if_neg (by omega), runT_back t [] h]
theorem treeP_back {t : T} (h : okT t) (hs : size t ≤ 65536) (hd : (look t).1 ≤ 64) : treeP (post t) = some t := by
  unfold treeP
  rw [treeQ_back h hs]
  simp only [Option.bind_some]
  rw [if_neg (by omega)]

/-! ### What brackets cost -/
def needs (b : Nat) (last : Bool) : T → Bool
  | .qu _ _ _ => !last
  | .bin o _ _ => decide (bndN o < b)
  | _ => false
def nB (t : T) (last : Bool) : Nat := (wr t last).count 40
def dp (b : Nat) (last : Bool) (x : T) : Int := if needs b last x then 1 + (look x).1 else lkL x last
def cb (b : Nat) (last : Bool) (x : T) : Nat := if needs b last x then 1 + nB x true else nB x last
def lB (op : Int) : Nat := if op = 9 then 3 else bndN op
def rB (op : Int) : Nat := if op = 9 then 2 else bndN op + 1
theorem needs_not (x : T) (last : Bool) : brkP 3 0 x last = needs 6 last x := by
  cases x with
  | bin o a b => have := bndN_le o; simp [brkP, needs]; omega
  | _ => rfl
theorem needs_left {op : Int} (h : 6 ≤ op ∧ op ≤ 10) {x : T} (hx : okT x) (last : Bool) : brkP op 0 x last = needs (lB op) last x := by
  cases x with
  | bin o a b =>
    have h1 := tight_bnd op h
    have h2 := tight_bnd o ⟨hx.1, hx.2.1⟩
    unfold lB
    by_cases e : op = 9
    · subst e
      have : tightP 9 = 2 := rfl
      simp only [brkP, needs, if_true, true_and]
      rw [if_neg (by decide), decide_eq_decide]; omega
    · simp only [brkP, needs, e, if_false, false_and, if_true]
      rw [if_neg (by omega), decide_eq_decide]; omega
  | _ => rfl
theorem needs_right {op : Int} (h : 6 ≤ op ∧ op ≤ 10) {x : T} (hx : okT x) (last : Bool) : brkP op 1 x last = needs (rB op) last x := by
  cases x with
  | bin o a b =>
    have h1 := tight_bnd op h
    have h2 := tight_bnd o ⟨hx.1, hx.2.1⟩
    unfold rB
    by_cases e : op = 9
    · subst e
      have : tightP 9 = 2 := rfl
      simp only [brkP, needs, if_true]
      rw [if_neg (by decide), if_neg (by decide), decide_eq_decide]; omega
    · simp only [brkP, needs, e, if_false, false_and]
      rw [if_neg (by omega), if_neg (by decide), decide_eq_decide]; omega
  | _ => rfl
theorem look2_le : ∀ t : T, (look t).2 ≤ 1 + (look t).1
  | .cst _ => by simp [look]
  | .var _ => by simp [look]
  | .neg a => by
    have h := look2_le a
    simp only [look, cnt, needs_not]
    cases a <;> simp only [needs, if_true, if_false, Bool.not_true, Bool.not_false, Bool.false_eq_true] <;> (try split) <;> omega
  | .qu _ _ a => by simp only [look]; omega
  | .bin op a b => by
    have h := look2_le b
    have ha := look_le a
    simp only [look, cnt]
    cases b with
    | qu o v x => simp only [brkP, Bool.not_true, Bool.not_false, if_true, if_false, Bool.false_eq_true]; split <;> omega
    | bin o x y =>
      have e : ∀ l l', brkP op 1 (.bin o x y) l = brkP op 1 (.bin o x y) l' := fun _ _ => rfl
      rw [e false true]
      split <;> split <;> (try simp only [if_true, if_false, Bool.false_eq_true]) <;> omega
    | _ => simp only [brkP, if_true, if_false, Bool.false_eq_true]; split <;> omega
  | .ite _ _ _ => by simp only [look]; omega
theorem lkL_le (t : T) (last : Bool) : lkL t last ≤ 1 + (look t).1 := by
  have := look2_le t
  cases last <;> simp only [lkL, if_true, if_false, Bool.false_eq_true] <;> omega
theorem dp_le (b : Nat) (last : Bool) (t : T) : dp b last t ≤ 1 + (look t).1 := by
  have := lkL_le t last
  unfold dp; split <;> omega
theorem needs_mono {b c : Nat} (h : b ≤ c) (last : Bool) (t : T) (hn : needs b last t = true) : needs c last t = true := by
  cases t <;> simp only [needs, decide_eq_true_eq] at hn ⊢ <;> first | exact hn | omega
theorem dp_mono {b c : Nat} (h : b ≤ c) (last : Bool) (t : T) : dp b last t ≤ dp c last t := by
  have h1 := lkL_le t last
  unfold dp
  cases hb : needs b last t with
  | true => rw [needs_mono h last t hb]; exact Int.le_refl _
  | false => simp only [Bool.false_eq_true, if_false]; split <;> omega
theorem no40_itoa (v : Int) (h : 0 ≤ v) : (Lib.itoa v).count 40 = 0 := by
  rw [List.count_eq_zero, itoa_dec v h]
  intro hm
  have := List.all_eq_true.1 (dec_ok v.toNat).1 _ hm
  revert this; decide
theorem no40_spell (op : Int) : (spellP op).count 40 = 0 := by
  unfold spellP
  repeat' split
  all_goals decide
theorem cnt_opd (op side : Int) (x : T) (last : Bool) : (opd op side x last).count 40 = if brkP op side x last then 1 + nB x true else nB x last := by
  unfold opd nB
  split
  · simp; omega
  · rfl
theorem B_chain {t : T} (h : okT t) (op : Int) : (chain op t).count 40 = nB t true := by
  cases t with
  | qu o v a =>
    by_cases e : op = o
    · subst e
      rw [chain_same, nB, wr_qu]
      have := no40_spell op
      simp [List.count_append, this, List.count_cons]
    · rw [chain_end (by simp [isQu]; exact fun x => e x.symm), nB]; simp [List.count_cons]
  | _ => rw [chain_end rfl, nB]; simp [List.count_cons]
theorem B_neg (a : T) (last : Bool) : nB (.neg a) last = cb 6 last a := by
  have := cnt_opd 3 0 a last
  rw [needs_not] at this
  rw [nB, wr_neg, List.count_append, this]; simp [cb]
theorem B_bin {op : Int} {a b : T} (h : okT (.bin op a b)) (last : Bool) : nB (.bin op a b) last = cb (lB op) false a + cb (rB op) last b := by
  have h1 := cnt_opd op 0 a false
  have h2 := cnt_opd op 1 b last
  rw [needs_left ⟨h.1, h.2.1⟩ h.2.2.1] at h1
  rw [needs_right ⟨h.1, h.2.1⟩ h.2.2.2] at h2
  rw [nB, wr_bin, List.count_append, List.count_append, h1, h2, no40_spell]; simp [cb]
theorem B_qu {op v : Int} {a : T} (h : okT (.qu op v a)) (last : Bool) : nB (.qu op v a) last = nB a true := by
  rw [nB, wr_qu, List.count_append, List.count_append, List.count_append, B_chain h.2.2.2, no40_spell, no40_itoa v h.2.1]; simp
theorem B_ite (c a b : T) (last : Bool) : nB (.ite c a b) last = 1 + nB c true + nB a true + nB b true := by
  simp only [nB, wr_ite, List.count_append, List.count_cons, List.count_nil]; simp
theorem cb_ft {b : Nat} {x : T} (h : nB x false ≤ 1 + nB x true) : cb b false x ≤ 1 + cb b true x := by
  unfold cb
  cases needs b false x <;> cases needs b true x <;> simp only [if_true, if_false, Bool.false_eq_true] <;> omega
theorem B2_le : ∀ t : T, okT t → nB t false ≤ 1 + nB t true
  | .cst _, _ => by simp [nB, wr_cst]
  | .var _, _ => by simp [nB, wr_var]
  | .neg a, h => by
    rw [B_neg, B_neg]
    exact cb_ft (B2_le a h)
  | .qu _ _ a, h => by rw [B_qu h, B_qu h]; omega
  | .bin op a b, h => by
    have h1 := cb_ft (b := rB op) (B2_le b h.2.2.2)
    rw [B_bin h, B_bin h]; omega
  | .ite _ _ _, _ => by rw [B_ite, B_ite]; omega
theorem BL_le {t : T} (h : okT t) (last : Bool) : nB t last ≤ 1 + nB t true := by
  have := B2_le t h
  cases last <;> omega
theorem cb_le {t : T} (h : okT t) (b : Nat) (last : Bool) : cb b last t ≤ 1 + nB t true := by
  have := BL_le h last
  unfold cb; split <;> omega
theorem cb_mono {b c : Nat} (h : b ≤ c) (last : Bool) {t : T} (ht : okT t) : cb b last t ≤ cb c last t := by
  have h1 := BL_le ht last
  unfold cb
  cases hb : needs b last t with
  | true => rw [needs_mono h last t hb]; exact Nat.le_refl _
  | false => simp only [Bool.false_eq_true, if_false]; split <;> omega
theorem dp_neg (a : T) (b : Nat) (last : Bool) : dp b last (.neg a) = 1 + dp 6 last a := by
  have e : needs b last (.neg a) = false := rfl
  rw [dp, e, dp]
  cases last <;> simp only [lkL, look, cnt, needs_not, if_true, if_false, Bool.false_eq_true]
theorem dp_bin {op : Int} {a b : T} (h : okT (.bin op a b)) {k : Nat} (hk : k ≤ bndN op) (last : Bool) : dp k last (.bin op a b) = max (dp (lB op) false a) (dp (rB op) last b) := by
  have e : needs k last (.bin op a b) = false := by simp only [needs, decide_eq_false_iff_not]; omega
  have e1 : cnt op 0 a false (look a) = dp (lB op) false a := by
    unfold cnt dp lkL; rw [needs_left ⟨h.1, h.2.1⟩ h.2.2.1]
  have e2 : cnt op 1 b last (look b) = dp (rB op) last b := by
    unfold cnt dp lkL; rw [needs_right ⟨h.1, h.2.1⟩ h.2.2.2]
  rw [← e1, ← e2, dp, e]
  cases last <;> simp only [lkL, look, if_true, if_false, Bool.false_eq_true]
theorem cb_bin {op : Int} {a b : T} (h : okT (.bin op a b)) {k : Nat} (hk : k ≤ bndN op) (last : Bool) : cb k last (.bin op a b) = cb (lB op) false a + cb (rB op) last b := by
  have e : needs k last (.bin op a b) = false := by simp only [needs, decide_eq_false_iff_not]; omega
  rw [cb, e, ← B_bin h last]; rfl
theorem dp1 (x : T) : dp 1 true x = (look x).1 := by
  unfold dp
  have : needs 1 true x = false := by
    cases x with
    | bin o a b => have := bndN_le o; simp only [needs, decide_eq_false_iff_not]; omega
    | _ => rfl
  rw [this]; rfl
theorem cb1 (x : T) : cb 1 true x = nB x true := by
  unfold cb
  have : needs 1 true x = false := by
    cases x with
    | bin o a b => have := bndN_le o; simp only [needs, decide_eq_false_iff_not]; omega
    | _ => rfl
  rw [this]; rfl
end Go.Proofs.YthackanffcaejaaGreatDoor
end
section
set_option linter.unusedSimpArgs false
set_option linter.unusedVariables false
namespace Go.Proofs.YthackanffcaejaaGreatDoor
open Go Go.RowKit Go.SL Go.ClauseP Go.LexP

def aliveT : T := .bin 7 (.bin 6 (.var 0) (.var 1)) (.neg (.var 2))
def aliveB : List UInt8 := [120, 48, 32, 38, 32, 120, 49, 32, 124, 32, 33, 120, 50]
def aliveL : List (Int × Int) := [(2, 0), (2, 1), (6, 0), (2, 2), (3, 0), (7, 0)]
theorem itoa_dig (n : Nat) (h : n < 10) : Lib.itoa (n : Int) = [UInt8.ofNat (48 + n)] := by
  rw [itoa_dec _ (by omega), Int.toNat_natCast, Lib.decDigits_one h]
theorem alive_wr : wr aliveT true = aliveB := by
  have h0 := itoa_dig 0 (by omega)
  have h1 := itoa_dig 1 (by omega)
  have h2 := itoa_dig 2 (by omega)
  have h0 : Lib.itoa 0 = [48] := h0
  have h1 : Lib.itoa 1 = [49] := h1
  have h2 : Lib.itoa 2 = [50] := h2
  simp [aliveT, aliveB, wr_bin, wr_neg, wr_var, opd, brkP, tightP, spellP, h0, h1, h2]
theorem alive_ok : okT aliveT := by simp [aliveT, okT]
theorem alive_look : (look aliveT).1 ≤ 64 := by simp [aliveT, look, cnt, brkP, tightP]; omega
theorem alive_size : size aliveT ≤ 65536 := by simp [aliveT, size]
theorem alive_prints : printsP aliveL = (aliveB, 0) := by
  have h : treeP aliveL = some aliveT := treeP_back alive_ok alive_size alive_look
  unfold printsP
  rw [h]
  simp only [alive_wr]
  rfl
theorem alive_parse {r : (Int × Nat) ⊕ T} (h : ParseR aliveB r) : ansT r = .inr aliveL := by
  rw [← alive_wr] at h
  obtain ⟨x, rfl, hx⟩ := parse_wr alive_ok alive_look alive_size h
  show Sum.inr (post x) = _
  rw [hx]; rfl
theorem formed_of {fs : List (Int × Int)} {t : T} (h : treeP fs = some t) : okT t ∧ (look t).1 ≤ 64 ∧ size t ≤ 65536 ∧ fs = post t := by
  obtain ⟨h1, h2⟩ := treeP_some h
  obtain ⟨_, _, h3, h4, h5⟩ := treeQ_some h1
  exact ⟨h3, h2, h5, h4⟩
theorem back_parse {fs : List (Int × Int)} {t : T} (h : treeP fs = some t) {r : (Int × Nat) ⊕ T} (hr : ParseR (wr t true) r) : ansT r = .inr fs := by
  obtain ⟨h1, h2, h3, h4⟩ := formed_of h
  obtain ⟨x, rfl, hx⟩ := parse_wr h1 h2 h3 hr
  show Sum.inr (post x) = _
  rw [hx, h4]
end Go.Proofs.YthackanffcaejaaGreatDoor
end
section
set_option linter.unusedSimpArgs false
set_option linter.unusedVariables false
set_option maxRecDepth 20000
namespace Go.Proofs.YthackanffcaejaaGreatDoor
open Go Go.RowKit Go.SL Go.ClauseP Go.LexP

def psV (text : List UInt8) (k n tat te fin o nd e a : Int) : List Value := [.string ⟨text.toArray⟩, .int .i64 k, .int .i64 n, .int .i64 tat, .int .i64 te, .int .i64 fin, .int .i64 o, .int .i64 nd, .int .i64 e, .int .i64 a]
theorem failA (B : Nat) (text : List UInt8) (k n tat te fin o nd a c : Int) (w0 w : World) (R : List HP) (hS : Sat w0 w (blk B 82 (psV text k n tat te fin o nd 0 a) :: R)) :
    Calls Tryz.prog 80 #[.pointer (some ⟨B, 0, none⟩), .int .i64 c] w fun e w' => e = .returned (.tuple #[]) ∧ Sat w0 w' (blk B 82 (psV text k n tat te fin o nd c tat) :: R) := by
  unfold psV at hS
  go_enter Tryz.func80, Tryz.ntmps80
  go_wp2_with (first | ((with_reducible apply arm_load hS); exact wanted_none; exact ev_tmp rfl; (repeat (with_reducible exact mem_hd)); rfl; decide +kernel; (try simp only [Act.put, q1, q2, q3])) | ((with_reducible apply arm_store hS); exact wanted_none; exact ev_tmp rfl; exact ev_tmp rfl; (repeat (with_reducible exact mem_hd)); rfl; (focus (simp; done)); (repeat (with_reducible exact Upd.hd)); rfl; decide +kernel; clear hS; intro w hS; (try simp only [q2, q3] at hS); (try simp only [Act.put, q1, q2, q3])))
  go_end0
  exact ⟨rfl, hS⟩
theorem failD (B : Nat) (text : List UInt8) (k n tat te fin o nd d a c : Int) (hd : d ≠ 0) (w0 w : World) (R : List HP) (hS : Sat w0 w (blk B 82 (psV text k n tat te fin o nd d a) :: R)) :
    Calls Tryz.prog 80 #[.pointer (some ⟨B, 0, none⟩), .int .i64 c] w fun e w' => e = .returned (.tuple #[]) ∧ Sat w0 w' (blk B 82 (psV text k n tat te fin o nd d a) :: R) := by
  unfold psV at hS
  have hd2 : (d == 0) = false := by simp [hd]
  go_enter Tryz.func80, Tryz.ntmps80
  go_wp2_with ((with_reducible apply arm_load hS); exact wanted_none; exact ev_tmp rfl; (repeat (with_reducible exact mem_hd)); rfl; decide +kernel; (try simp only [Act.put, q1, q2, q3]))
  go_end0
  exact ⟨rfl, hS⟩
theorem advD (B : Nat) (text : List UInt8) (k n tat te fin o nd d a : Int) (hd : d ≠ 0) (w0 w : World) (R : List HP) (hS : Sat w0 w (blk B 82 (psV text k n tat te fin o nd d a) :: R)) :
    Calls Tryz.prog 37 #[.pointer (some ⟨B, 0, none⟩)] w fun e w' => e = .returned (.tuple #[]) ∧ Sat w0 w' (blk B 82 (psV text k n tat te fin o nd d a) :: R) := by
  have FD := failD B text k n tat te fin o nd d a
  unfold psV at hS FD
  have hd2 : (d == 0) = false := by simp [hd]
  have hd3 : (d != 0) = true := by simp [hd]
  go_enter Tryz.func37, Tryz.ntmps37
  go_wp2_with ((with_reducible apply arm_load hS); exact wanted_none; exact ev_tmp rfl; (repeat (with_reducible exact mem_hd)); rfl; decide +kernel; (try simp only [Act.put, q1, q2, q3]))
  refine bodyPost_ret (results_none rfl _ _ _) rfl ?_
  exact ⟨rfl, hS⟩
theorem isD (B : Nat) (text : List UInt8) (k n tat te fin o nd d a c : Int) (hd : d ≠ 0) (w0 w : World) (R : List HP) (hS : Sat w0 w (blk B 82 (psV text k n tat te fin o nd d a) :: R)) :
    Calls Tryz.prog 83 #[.pointer (some ⟨B, 0, none⟩), .int .i64 c] w fun e w' => e = .returned (.bool false) ∧ Sat w0 w' (blk B 82 (psV text k n tat te fin o nd d a) :: R) := by
  have FD := failD B text k n tat te fin o nd d a
  unfold psV at hS FD
  have hd2 : (d == 0) = false := by simp [hd]
  have hd3 : (d != 0) = true := by simp [hd]
  go_enter Tryz.func83, Tryz.ntmps83
  go_wp2_with ((with_reducible apply arm_load hS); exact wanted_none; exact ev_tmp rfl; (repeat (with_reducible exact mem_hd)); rfl; decide +kernel; (try simp only [Act.put, q1, q2, q3]))
  go_ret
  exact ⟨rfl, hS⟩
theorem needD (B : Nat) (text : List UInt8) (k n tat te fin o nd d a c : Int) (hd : d ≠ 0) (w0 w : World) (R : List HP) (hS : Sat w0 w (blk B 82 (psV text k n tat te fin o nd d a) :: R)) :
    Calls Tryz.prog 39 #[.pointer (some ⟨B, 0, none⟩), .int .i64 c] w fun e w' => e = .returned (.tuple #[]) ∧ Sat w0 w' (blk B 82 (psV text k n tat te fin o nd d a) :: R) := by
  have FD := failD B text k n tat te fin o nd d a
  have ID := isD B text k n tat te fin o nd d a c hd
  unfold psV at hS FD ID
  have hd2 : (d == 0) = false := by simp [hd]
  have hd3 : (d != 0) = true := by simp [hd]
  go_enter Tryz.func39, Tryz.ntmps39
  go_wp2_with (first | ((with_reducible apply arm_load hS); exact wanted_none; exact ev_tmp rfl; (repeat (with_reducible exact mem_hd)); rfl; decide +kernel; (try simp only [Act.put, q1, q2, q3])) | (go_at_call 83; refine (ID _ _ _ hS).mono ?_; clear hS; rintro e w ⟨rfl, hS⟩))
  go_end0
  exact ⟨rfl, hS⟩
theorem makesD (B : Nat) (text : List UInt8) (k n tat te fin o nd d a : Int) (hd : d ≠ 0) (h1 : 0 ≤ nd) (h2 : nd ≤ 65536) (w0 w : World) (R : List HP) (hS : Sat w0 w (blk B 82 (psV text k n tat te fin o nd d a) :: R)) :
    Calls Tryz.prog 114 #[.pointer (some ⟨B, 0, none⟩)] w fun e w' => e = .returned (.tuple #[]) ∧ Sat w0 w' (blk B 82 (psV text k n tat te fin o (nd + 1) d a) :: R) := by
  have FD := fun w => failD B text k n tat te fin o nd d a 8 hd w0 w R
  unfold psV at hS FD
  by_cases hm : nd = 65536
  · subst hm
    go_enter Tryz.func114, Tryz.ntmps114
    go_wp2_with (first | ((with_reducible apply arm_load hS); exact wanted_none; exact ev_tmp rfl; (repeat (with_reducible exact mem_hd)); rfl; decide +kernel; (try simp only [Act.put, q1, q2, q3])) | ((with_reducible apply arm_store hS); exact wanted_none; exact ev_tmp rfl; exact ev_tmp rfl; (repeat (with_reducible exact mem_hd)); rfl; (focus (simp; done)); (repeat (with_reducible exact Upd.hd)); rfl; decide +kernel; clear hS; intro w hS; (try simp only [q2, q3] at hS); (try simp only [Act.put, q1, q2, q3])) | (go_at_call 80; refine (FD _ hS).mono ?_; clear hS; rintro e w ⟨rfl, hS⟩))
    go_end0
    exact ⟨rfl, hS⟩
  · have hm2 : (nd == 65536) = false := by simp [hm]
    go_enter Tryz.func114, Tryz.ntmps114
    go_wp2_with (first | ((with_reducible apply arm_load hS); exact wanted_none; exact ev_tmp rfl; (repeat (with_reducible exact mem_hd)); rfl; decide +kernel; (try simp only [Act.put, q1, q2, q3])) | ((with_reducible apply arm_store hS); exact wanted_none; exact ev_tmp rfl; exact ev_tmp rfl; (repeat (with_reducible exact mem_hd)); rfl; (focus (simp; done)); (repeat (with_reducible exact Upd.hd)); rfl; decide +kernel; clear hS; intro w hS; (try simp only [q2, q3] at hS); (try simp only [Act.put, q1, q2, q3])))
    go_end0
    exact ⟨rfl, hS⟩
def alV (text : List UInt8) (p : Ps) : List Value := psV text (tokE p.tk).1 (tokE p.tk).2.1 p.at_ 0 p.fin p.opn p.nds 0 0
def Dead (w0 w : World) (R : List HP) (B : Nat) (text : List UInt8) (lo : Nat) (x : Int × Nat) : Prop := x.1 ≠ 0 ∧ ∃ k n tat te fin o nd : Int, lo ≤ o ∧ o ≤ 65 ∧ 0 ≤ nd ∧ nd ≤ 65537 ∧ Sat w0 w (blk B 82 (psV text k n tat te fin o nd x.1 x.2) :: R)
def PsB (text : List UInt8) (p : Ps) : Prop := p.opn ≤ 64 ∧ p.nds ≤ 65536 ∧ p.fin ≤ text.length ∧ tkOk p.tk
def aft (w0 w : World) (R : List HP) (B : Nat) (text : List UInt8) (lo : Nat) : Rp → Prop
  | .inl x => Dead w0 w R B text lo x
  | .inr q => PsB text q ∧ Sat w0 w (blk B 82 (alV text q) :: R)
theorem tokW_bad (w : List UInt8) (e : Int) (h : tokW w = .bad e) : e ≠ 0 := by
  unfold tokW at h
  repeat (first | (split at h) | (cases h <;> decide))
theorem nextT_bad (text : List UInt8) (k : Nat) (e : Int) (h : (nextT text k).tk = .bad e) : e ≠ 0 := by
  unfold nextT at h
  split at h
  · cases h
  · dsimp only at h
    generalize text.drop (skipP text k) = l at h
    unfold pieceT at h
    split at h
    · cases h
    · split at h
      · exact tokW_bad _ _ h
      · split at h
        · dsimp only at h
          split at h
          · injection h with h; omega
          · cases h
        · split at h
          · rename_i s hs
            have h3 : ∀ s ∈ signs11 ++ signs10, ∀ e, s.2 ≠ Tk.bad e := by
              intro s hs e
              simp only [signs11, signs10, List.cons_append, List.nil_append, List.mem_cons, List.not_mem_nil, or_false] at hs
              rcases hs with rfl | rfl | rfl | rfl | rfl | rfl | rfl | rfl | rfl | rfl | rfl | rfl | rfl | rfl | rfl | rfl | rfl | rfl | rfl | rfl | rfl <;> (intro h; cases h)
            exact (h3 s (List.mem_of_find?_eq_some hs) e h).elim
          · injection h with h; omega
theorem tokE_ok (t : Tk) (h : ¬ ∃ e, t = .bad e) : (tokE t).2.2 = 0 := by
  cases t <;> first | rfl | exact (h ⟨_, rfl⟩).elim
theorem advP_ok (text : List UInt8) (p : Ps) (h : ¬ ∃ e, (nextT text p.fin).tk = .bad e) : advP text p = .inr ⟨(nextT text p.fin).tk, (nextT text p.fin).at_, (nextT text p.fin).fin, p.opn, p.nds⟩ := by
  unfold advP
  generalize nextT text p.fin = t at *
  obtain ⟨tk, a, f⟩ := t
  cases tk <;> first | rfl | exact (h ⟨_, rfl⟩).elim
theorem advP_bad (text : List UInt8) (p : Ps) (e : Int) (h : (nextT text p.fin).tk = .bad e) : advP text p = .inl (e, (nextT text p.fin).at_) := by
  unfold advP
  generalize nextT text p.fin = t at *
  obtain ⟨tk, a, f⟩ := t
  dsimp only at h
  subst h
  rfl
set_option maxHeartbeats 2000000 in
theorem advC (B : Nat) (text : List UInt8) (hl : text.length ≤ 1048576) (p : Ps) (hp : PsB text p) (w0 w : World) (hSig : SigE w0) (R : List HP) (hbm : base w0 ∈ R) (hS : Sat w0 w (blk B 82 (alV text p) :: R)) :
    Calls Tryz.prog 37 #[.pointer (some ⟨B, 0, none⟩)] w fun e w' => e = .returned (.tuple #[]) ∧ aft w0 w' R B text p.opn (advP text p) := by
  obtain ⟨h1, h2, h3, _⟩ := hp
  have htk := nextT_ok text p.fin
  have NC := fun w Hs hm hS => nextC text hl p.fin h3 w0 w hSig Hs hm hS
  have hnb := nextT_bd text p.fin h3
  have hne := nextT_bad text p.fin
  unfold alV psV at hS
  have hbm2 : base w0 ∈ (blk B 82 [.string ⟨text.toArray⟩, .int .i64 (tokE p.tk).1, .int .i64 (tokE p.tk).2.1, .int .i64 p.at_, .int .i64 0, .int .i64 p.fin, .int .i64 p.opn, .int .i64 p.nds, .int .i64 0, .int .i64 0] :: R) := List.mem_cons_of_mem _ hbm
  obtain ⟨n1, n2, n3⟩ := hnb
  by_cases hb : ∃ e, (nextT text p.fin).tk = .bad e
  · obtain ⟨c, hb⟩ := hb
    rw [advP_bad text p c hb]
    generalize nextT text p.fin = t at *
    obtain ⟨tk, at_, fin⟩ := t
    dsimp only at *
    subst hb
    clear htk
    have hc := hne c rfl
    have hc2 : (c != 0) = true := by simp [hc]
    have FA := failA B text 0 0 at_ c fin p.opn p.nds 0 c
    have FA := fun w R => FA w0 w R
    unfold psV at FA
    simp only [tokV, tokE] at NC
    generalize (tokE p.tk).1 = k at *
    generalize (tokE p.tk).2.1 = n at *
    go_enter Tryz.func37, Tryz.ntmps37
    go_wp2_with (first | ((with_reducible apply Cont.intro); (first | (focus (apply Or.inr; apply (Sat.sb hS); (repeat (first | with_reducible exact Sb.refl | (with_reducible refine Sb.take (by (repeat (with_reducible apply Rem.tl)); done) ?_) | with_reducible apply Sb.skip)); done)) | (exact Or.inl (by kernel_rfl))); intro hR hC) | ((first | ((with_reducible apply draw_pure (i := 0)); (simp only [q4, q6, q5]; with_reducible rfl); kernel_rfl; kernel_rfl; decide +kernel; rfl; exact hC; exact (fun _ _ _ h => h); exact hR; with_reducible exact wanted_none) | ((with_reducible apply draw_pure (i := 1)); (simp only [q4, q6, q5]; with_reducible rfl); kernel_rfl; kernel_rfl; decide +kernel; rfl; exact hC; exact (fun _ _ _ h => h); exact hR; with_reducible exact wanted_none) | ((with_reducible apply draw_pure (i := 2)); (simp only [q4, q6, q5]; with_reducible rfl); kernel_rfl; kernel_rfl; decide +kernel; rfl; exact hC; exact (fun _ _ _ h => h); exact hR; with_reducible exact wanted_none) | ((with_reducible apply draw_pure (i := 3)); (simp only [q4, q6, q5]; with_reducible rfl); kernel_rfl; kernel_rfl; decide +kernel; rfl; exact hC; exact (fun _ _ _ h => h); exact hR; with_reducible exact wanted_none) | ((with_reducible apply draw_pure (i := 6)); (simp only [q4, q6, q5]; with_reducible rfl); kernel_rfl; kernel_rfl; decide +kernel; rfl; exact hC; exact (fun _ _ _ h => h); exact hR; with_reducible exact wanted_none) | ((with_reducible apply draw_pure (i := 7)); (simp only [q4, q6, q5]; with_reducible rfl); kernel_rfl; kernel_rfl; decide +kernel; rfl; exact hC; exact (fun _ _ _ h => h); exact hR; with_reducible exact wanted_none) | ((with_reducible apply draw_pure (i := 11)); (simp only [q4, q6, q5]; with_reducible rfl); kernel_rfl; kernel_rfl; decide +kernel; rfl; exact hC; exact (fun _ _ _ h => h); exact hR; with_reducible exact wanted_none) | ((with_reducible apply draw_pure (i := 12)); (simp only [q4, q6, q5]; with_reducible rfl); kernel_rfl; kernel_rfl; decide +kernel; rfl; exact hC; exact (fun _ _ _ h => h); exact hR; with_reducible exact wanted_none) | ((with_reducible apply draw_pure (i := 13)); (simp only [q4, q6, q5]; with_reducible rfl); kernel_rfl; kernel_rfl; decide +kernel; rfl; exact hC; exact (fun _ _ _ h => h); exact hR; with_reducible exact wanted_none) | ((with_reducible apply draw_pure (i := 14)); (simp only [q4, q6, q5]; with_reducible rfl); kernel_rfl; kernel_rfl; decide +kernel; rfl; exact hC; exact (fun _ _ _ h => h); exact hR; with_reducible exact wanted_none) | ((with_reducible apply draw_pure (i := 17)); (simp only [q4, q6, q5]; with_reducible rfl); kernel_rfl; kernel_rfl; decide +kernel; rfl; exact hC; exact (fun _ _ _ h => h); exact hR; with_reducible exact wanted_none)); (intro w; first | (go_simp; done) | (go_simp; rw [wrapI (by omega) (by omega)]) | (go_simp; with_reducible rfl) | (go_simp; rfl)); (clear hR hC; intro hR hC); (try simp only [Act.put, q1, q2, q3])) | ((first | ((with_reducible apply draw_pure (i := 4)); (simp only [q4, q6, q5]; with_reducible rfl); kernel_rfl; kernel_rfl; decide +kernel; rfl; exact hC; exact (fun _ _ _ h => h); exact hR; with_reducible exact wanted_none) | ((with_reducible apply draw_pure (i := 8)); (simp only [q4, q6, q5]; with_reducible rfl); kernel_rfl; kernel_rfl; decide +kernel; rfl; exact hC; exact (fun _ _ _ h => h); exact hR; with_reducible exact wanted_none) | ((with_reducible apply draw_pure (i := 15)); (simp only [q4, q6, q5]; with_reducible rfl); kernel_rfl; kernel_rfl; decide +kernel; rfl; exact hC; exact (fun _ _ _ h => h); exact hR; with_reducible exact wanted_none) | ((with_reducible apply draw_pure (i := 18)); (simp only [q4, q6, q5]; with_reducible rfl); kernel_rfl; kernel_rfl; decide +kernel; rfl; exact hC; exact (fun _ _ _ h => h); exact hR; with_reducible exact wanted_none)); (intro w; first | (exact draw_fa rfl (by (exact ev_const)) (by assumption) (by with_reducible exact fo82_6)) | (go_simp; done) | (go_simp; rw [wrapI (by omega) (by omega)]) | (go_simp; with_reducible rfl) | (go_simp; rfl)); (clear hR hC; intro hR hC); (try simp only [Act.put, q1, q2, q3])) | ((first | ((with_reducible apply draw_read (i := 5)); (simp only [q4, q6, q5]; with_reducible rfl); kernel_rfl; kernel_rfl; decide +kernel; kernel_rfl; rfl; exact hC; exact (fun _ _ _ h => h); exact hR; kernel_rfl; with_reducible exact wanted_none) | ((with_reducible apply draw_read (i := 9)); (simp only [q4, q6, q5]; with_reducible rfl); kernel_rfl; kernel_rfl; decide +kernel; kernel_rfl; rfl; exact hC; exact (fun _ _ _ h => h); exact hR; kernel_rfl; with_reducible exact wanted_none)); (intro w hS; (apply run_op_load rfl (by (exact ev_tmp rfl))); first | exact run_loadVar1 (by decide +kernel) (hS.cell (by (repeat (with_reducible exact mem_hd))) rfl) | exact run_loadVar1 (by decide +kernel) ((hS.ownCell (by (repeat (with_reducible apply mem_tl))) (by (rfl))).1) | exact run_loadVar1 (by decide +kernel) (Sat.rdCell2 (by assumption) hS (by ((repeat (with_reducible apply mem_tl))); try assumption) (by (rfl))) | exact run_loadVar1 (by decide +kernel) (hS.baseCell (by ((repeat (with_reducible apply mem_tl))); try assumption) (by assumption)) | exact run_loadVar1 (by decide +kernel) (fzC (by assumption) hS (by ((repeat (with_reducible apply mem_tl))); try assumption)) | exact run_loadRN hS (by assumption) (by ((repeat (with_reducible apply mem_tl))); try assumption) (by assumption) (by rfl) (by with_reducible exact sz82) (by decide +kernel) (by decide) | exact hS.loadWhole (by (repeat (with_reducible apply mem_tl))) (by kernel_rfl) (by kernel_rfl)); (clear hR hC; intro hR hC); (try simp only [Act.put, q1, q2, q3])) | ((with_reducible apply draw_act (i := 10)); (simp only [q4, q6, q5]; with_reducible rfl); decide +kernel; exact hC; clear hR hC) | ((with_reducible apply draw_act (i := 16)); (simp only [q4, q6, q5]; with_reducible rfl); decide +kernel; exact hC; clear hR hC) | ((with_reducible apply draw_act (i := 19)); (simp only [q4, q6, q5]; with_reducible rfl); decide +kernel; exact hC; clear hR hC) | ((with_reducible apply draw_done); decide +kernel; clear hR hC) | (refine draw_sat 1 20 hS (by kernel_rfl) [16, 19] rfl ?_; clear hS; intro w hS hR hC) | ((with_reducible apply arm_load hS); exact wanted_none; exact ev_tmp rfl; (repeat (with_reducible exact mem_hd)); rfl; decide +kernel; (try simp only [Act.put, q1, q2, q3])) | ((with_reducible apply arm_store hS); exact wanted_none; exact ev_tmp rfl; exact ev_tmp rfl; (repeat (with_reducible exact mem_hd)); rfl; (focus (simp; done)); (repeat (with_reducible exact Upd.hd)); rfl; decide +kernel; clear hS; intro w hS; (try simp only [q2, q3] at hS); (try simp only [Act.put, q1, q2, q3])) | ((with_reducible apply arm_storeN hS); exact wanted_none; exact ev_tmp rfl; exact ev_tmp rfl; (repeat (with_reducible exact mem_hd)); rfl; (focus (simp; done)); (repeat (with_reducible exact Upd.hd)); rfl; exact sz80; rfl; clear hS; intro w hS; (try simp only [setFrom, q2, q3] at hS); (try simp only [Act.put, q1, q2, q3])) | (go_at_call 79; refine (NC _ _ hbm2 hS).mono ?_; clear hS; rintro e w ⟨rfl, hS⟩) | (go_at_call 80; refine (FA _ _ hS).mono ?_; clear hS; rintro e w ⟨rfl, hS⟩))
    go_end0
    exact ⟨rfl, hc, _, _, _, _, _, p.opn, p.nds, Int.le_refl _, by omega, by omega, by omega, hS⟩
  · rw [advP_ok text p hb]
    generalize nextT text p.fin = t at *
    obtain ⟨tk, at_, fin⟩ := t
    dsimp only at *
    have h0 := tokE_ok tk hb
    have HTK : Hid (tkOk tk) := hid (htk.resolve_right hb)
    clear hb hne htk
    simp only [tokV, h0] at NC
    have HF : Hid (aft w0 = aft w0) := hid rfl
    generalize hk : (tokE tk).1 = k1 at *
    generalize hn : (tokE tk).2.1 = n1 at *
    generalize (tokE p.tk).1 = k at *
    generalize (tokE p.tk).2.1 = n at *
    have HK := hid hk
    have HN := hid hn
    clear hk hn h0
    go_enter Tryz.func37, Tryz.ntmps37
    go_wp2_with (first | ((with_reducible apply Cont.intro); (first | (focus (apply Or.inr; apply (Sat.sb hS); (repeat (first | with_reducible exact Sb.refl | (with_reducible refine Sb.take (by (repeat (with_reducible apply Rem.tl)); done) ?_) | with_reducible apply Sb.skip)); done)) | (exact Or.inl (by kernel_rfl))); intro hR hC) | ((first | ((with_reducible apply draw_pure (i := 0)); (simp only [q4, q6, q5]; with_reducible rfl); kernel_rfl; kernel_rfl; decide +kernel; rfl; exact hC; exact (fun _ _ _ h => h); exact hR; with_reducible exact wanted_none) | ((with_reducible apply draw_pure (i := 1)); (simp only [q4, q6, q5]; with_reducible rfl); kernel_rfl; kernel_rfl; decide +kernel; rfl; exact hC; exact (fun _ _ _ h => h); exact hR; with_reducible exact wanted_none) | ((with_reducible apply draw_pure (i := 2)); (simp only [q4, q6, q5]; with_reducible rfl); kernel_rfl; kernel_rfl; decide +kernel; rfl; exact hC; exact (fun _ _ _ h => h); exact hR; with_reducible exact wanted_none) | ((with_reducible apply draw_pure (i := 3)); (simp only [q4, q6, q5]; with_reducible rfl); kernel_rfl; kernel_rfl; decide +kernel; rfl; exact hC; exact (fun _ _ _ h => h); exact hR; with_reducible exact wanted_none) | ((with_reducible apply draw_pure (i := 6)); (simp only [q4, q6, q5]; with_reducible rfl); kernel_rfl; kernel_rfl; decide +kernel; rfl; exact hC; exact (fun _ _ _ h => h); exact hR; with_reducible exact wanted_none) | ((with_reducible apply draw_pure (i := 7)); (simp only [q4, q6, q5]; with_reducible rfl); kernel_rfl; kernel_rfl; decide +kernel; rfl; exact hC; exact (fun _ _ _ h => h); exact hR; with_reducible exact wanted_none) | ((with_reducible apply draw_pure (i := 11)); (simp only [q4, q6, q5]; with_reducible rfl); kernel_rfl; kernel_rfl; decide +kernel; rfl; exact hC; exact (fun _ _ _ h => h); exact hR; with_reducible exact wanted_none) | ((with_reducible apply draw_pure (i := 12)); (simp only [q4, q6, q5]; with_reducible rfl); kernel_rfl; kernel_rfl; decide +kernel; rfl; exact hC; exact (fun _ _ _ h => h); exact hR; with_reducible exact wanted_none) | ((with_reducible apply draw_pure (i := 13)); (simp only [q4, q6, q5]; with_reducible rfl); kernel_rfl; kernel_rfl; decide +kernel; rfl; exact hC; exact (fun _ _ _ h => h); exact hR; with_reducible exact wanted_none) | ((with_reducible apply draw_pure (i := 14)); (simp only [q4, q6, q5]; with_reducible rfl); kernel_rfl; kernel_rfl; decide +kernel; rfl; exact hC; exact (fun _ _ _ h => h); exact hR; with_reducible exact wanted_none) | ((with_reducible apply draw_pure (i := 17)); (simp only [q4, q6, q5]; with_reducible rfl); kernel_rfl; kernel_rfl; decide +kernel; rfl; exact hC; exact (fun _ _ _ h => h); exact hR; with_reducible exact wanted_none)); (intro w; first | (go_simp; done) | (go_simp; rw [wrapI (by omega) (by omega)]) | (go_simp; with_reducible rfl) | (go_simp; rfl)); (clear hR hC; intro hR hC); (try simp only [Act.put, q1, q2, q3])) | ((first | ((with_reducible apply draw_pure (i := 4)); (simp only [q4, q6, q5]; with_reducible rfl); kernel_rfl; kernel_rfl; decide +kernel; rfl; exact hC; exact (fun _ _ _ h => h); exact hR; with_reducible exact wanted_none) | ((with_reducible apply draw_pure (i := 8)); (simp only [q4, q6, q5]; with_reducible rfl); kernel_rfl; kernel_rfl; decide +kernel; rfl; exact hC; exact (fun _ _ _ h => h); exact hR; with_reducible exact wanted_none) | ((with_reducible apply draw_pure (i := 15)); (simp only [q4, q6, q5]; with_reducible rfl); kernel_rfl; kernel_rfl; decide +kernel; rfl; exact hC; exact (fun _ _ _ h => h); exact hR; with_reducible exact wanted_none) | ((with_reducible apply draw_pure (i := 18)); (simp only [q4, q6, q5]; with_reducible rfl); kernel_rfl; kernel_rfl; decide +kernel; rfl; exact hC; exact (fun _ _ _ h => h); exact hR; with_reducible exact wanted_none)); (intro w; first | (exact draw_fa rfl (by (exact ev_const)) (by assumption) (by with_reducible exact fo82_6)) | (go_simp; done) | (go_simp; rw [wrapI (by omega) (by omega)]) | (go_simp; with_reducible rfl) | (go_simp; rfl)); (clear hR hC; intro hR hC); (try simp only [Act.put, q1, q2, q3])) | ((first | ((with_reducible apply draw_read (i := 5)); (simp only [q4, q6, q5]; with_reducible rfl); kernel_rfl; kernel_rfl; decide +kernel; kernel_rfl; rfl; exact hC; exact (fun _ _ _ h => h); exact hR; kernel_rfl; with_reducible exact wanted_none) | ((with_reducible apply draw_read (i := 9)); (simp only [q4, q6, q5]; with_reducible rfl); kernel_rfl; kernel_rfl; decide +kernel; kernel_rfl; rfl; exact hC; exact (fun _ _ _ h => h); exact hR; kernel_rfl; with_reducible exact wanted_none)); (intro w hS; (apply run_op_load rfl (by (exact ev_tmp rfl))); first | exact run_loadVar1 (by decide +kernel) (hS.cell (by (repeat (with_reducible exact mem_hd))) rfl) | exact run_loadVar1 (by decide +kernel) ((hS.ownCell (by (repeat (with_reducible apply mem_tl))) (by (rfl))).1) | exact run_loadVar1 (by decide +kernel) (Sat.rdCell2 (by assumption) hS (by ((repeat (with_reducible apply mem_tl))); try assumption) (by (rfl))) | exact run_loadVar1 (by decide +kernel) (hS.baseCell (by ((repeat (with_reducible apply mem_tl))); try assumption) (by assumption)) | exact run_loadVar1 (by decide +kernel) (fzC (by assumption) hS (by ((repeat (with_reducible apply mem_tl))); try assumption)) | exact run_loadRN hS (by assumption) (by ((repeat (with_reducible apply mem_tl))); try assumption) (by assumption) (by rfl) (by with_reducible exact sz82) (by decide +kernel) (by decide) | exact hS.loadWhole (by (repeat (with_reducible apply mem_tl))) (by kernel_rfl) (by kernel_rfl)); (clear hR hC; intro hR hC); (try simp only [Act.put, q1, q2, q3])) | ((with_reducible apply draw_act (i := 10)); (simp only [q4, q6, q5]; with_reducible rfl); decide +kernel; exact hC; clear hR hC) | ((with_reducible apply draw_act (i := 16)); (simp only [q4, q6, q5]; with_reducible rfl); decide +kernel; exact hC; clear hR hC) | ((with_reducible apply draw_act (i := 19)); (simp only [q4, q6, q5]; with_reducible rfl); decide +kernel; exact hC; clear hR hC) | ((with_reducible apply draw_done); decide +kernel; clear hR hC) | (refine draw_sat 1 20 hS (by kernel_rfl) [16, 19] rfl ?_; clear hS; intro w hS hR hC) | ((with_reducible apply arm_load hS); exact wanted_none; exact ev_tmp rfl; (repeat (with_reducible exact mem_hd)); rfl; decide +kernel; (try simp only [Act.put, q1, q2, q3])) | ((with_reducible apply arm_store hS); exact wanted_none; exact ev_tmp rfl; exact ev_tmp rfl; (repeat (with_reducible exact mem_hd)); rfl; (focus (simp; done)); (repeat (with_reducible exact Upd.hd)); rfl; decide +kernel; clear hS; intro w hS; (try simp only [q2, q3] at hS); (try simp only [Act.put, q1, q2, q3])) | ((with_reducible apply arm_storeN hS); exact wanted_none; exact ev_tmp rfl; exact ev_tmp rfl; (repeat (with_reducible exact mem_hd)); rfl; (focus (simp; done)); (repeat (with_reducible exact Upd.hd)); rfl; exact sz80; rfl; clear hS; intro w hS; (try simp only [setFrom, q2, q3] at hS); (try simp only [Act.put, q1, q2, q3])) | (go_at_call 79; refine (NC _ _ hbm2 hS).mono ?_; clear hS; rintro e w ⟨rfl, hS⟩))
    go_end0
    refine ⟨rfl, ⟨h1, h2, n2, HTK.out⟩, ?_⟩
    unfold alV psV
    rw [HK.out, HN.out]
    exact hS
end Go.Proofs.YthackanffcaejaaGreatDoor
end
