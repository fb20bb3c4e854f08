/- A part of the proof: Bk1 Bk2 Bk4 Al1 Form6a Form6b. -/
import Derived.Test.YthackanffcaejaaGreatDoorO1
import Derived.Test.YthackanffcaejaaGreatDoorO7
import Derived.Test.YthackanffcaejaaGreatDoorO19
set_option linter.unusedSimpArgs false
set_option linter.unusedVariables false
set_option linter.unusedSectionVars false
namespace Go.Proofs.YthackanffcaejaaGreatDoor
section
open Go Go.RowKit Go.SL Go.ClauseP Go.LexP

/-! ### Tokens of a suffix -/
def YJ (s : List UInt8) : Tk × List UInt8 := ((Yj (s.drop (Yx false s))).1, (s.drop (Yx false s)).drop (Yj (s.drop (Yx false s))).2)
theorem JN (text : List UInt8) (k : Nat) : (yS text k).tk = (YJ (text.drop k)).1 ∧ text.drop (yS text k).fin = (YJ (text.drop k)).2 := by
  have e : (text.drop k).drop (Yx false (text.drop k)) = text.drop (Yh text k) := by rw [List.drop_drop]; rfl
  unfold YJ yS
  rw [e]
  split
  · rename_i h
    rw [h, List.drop_eq_nil_of_le (Nat.le_refl _)]
    exact ⟨rfl, rfl⟩
  · exact ⟨rfl, by rw [List.drop_drop]⟩
def Toks : List UInt8 → List Tk → List UInt8 → Prop
  | s, [], s' => YJ s = YJ s'
  | s, t :: l, s' => (YJ s).1 = t ∧ Toks (YJ s).2 l s'
theorem Toks.from_eq {s s1 s' : List UInt8} {l : List Tk} (e : YJ s = YJ s1) (h : Toks s1 l s') : Toks s l s' := by
  cases l with
  | nil => exact e.trans h
  | cons t l => simp only [Toks] at h ⊢; rw [e]; exact h
theorem Toks.app {l l' : List Tk} {s' s'' : List UInt8} : ∀ {s : List UInt8}, Toks s l s' → Toks s' l' s'' → Toks s (l ++ l') s'' := by
  induction l with
  | nil => intro s h h2; exact h2.from_eq h
  | cons t l ih => intro s h h2; exact ⟨h.1, ih h.2 h2⟩
theorem Toks.one {s s' : List UInt8} {t : Tk} (h : YJ s = (t, s')) : Toks s [t] s' := by
  refine ⟨by rw [h], ?_⟩
  rw [h]; rfl
theorem Toks.cons {s s' s'' : List UInt8} {t : Tk} {l : List Tk} (h : YJ s = (t, s')) (h2 : Toks s' l s'') : Toks s (t :: l) s'' := by
  refine ⟨by rw [h], ?_⟩
  rw [h]; exact h2
theorem un (r : List UInt8) : YJ (32 :: r) = YJ r := by
  have e : Yx false (32 :: r) = 1 + Yx false r := rfl
  unfold YJ
  rw [e, Nat.add_comm, List.drop_succ_cons]
theorem Toks.blank {s s' : List UInt8} {l : List Tk} (h : Toks s l s') : Toks (32 :: s) l s' := h.from_eq (un s)
theorem Toks.end_blank {s s' : List UInt8} {l : List Tk} (h : Toks s l (32 :: s')) : Toks s l s' := by
  have := h.app (l' := []) (s'' := s') (un s')
  rwa [List.append_nil] at this

/-! ### Numbers -/
theorem UV (d : Nat) (h : d < 10) : Yn (UInt8.ofNat (48 + d)) = true ∧ (UInt8.ofNat (48 + d)).toNat = 48 + d := by
  have : d = 0 ∨ d = 1 ∨ d = 2 ∨ d = 3 ∨ d = 4 ∨ d = 5 ∨ d = 6 ∨ d = 7 ∨ d = 8 ∨ d = 9 := by omega
  rcases this with rfl | rfl | rfl | rfl | rfl | rfl | rfl | rfl | rfl | rfl <;> decide
theorem xL (n : Nat) : (Lib.decDigits n).all Yn = true ∧ Lib.decDigits n ≠ [] ∧ Kl 0 (Lib.decDigits n) = n ∧ (n ≠ 0 → (Lib.decDigits n).head? ≠ some 48) ∧ (n = 0 → Lib.decDigits n = [48]) := by
  induction n using Nat.strongRecOn with
  | ind n ih =>
    by_cases h : n < 10
    · rw [Lib.decDigits_one h]
      obtain ⟨h1, h2⟩ := UV n h
      generalize hd : UInt8.ofNat (48 + n) = d at *
      refine ⟨by simp [h1], by simp, by simp [Kl, h2], fun h0 e => ?_, fun h0 => by rw [← hd, h0]; rfl⟩
      have : d = 48 := by simpa using e
      rw [this] at h2
      have : (48 : UInt8).toNat = 48 := rfl
      omega
    · obtain ⟨i1, i2, i3, i4, _⟩ := ih (n / 10) (by omega)
      obtain ⟨h1, h2⟩ := UV (n % 10) (by omega)
      have e : Lib.decDigits n = Lib.decDigits (n / 10) ++ [UInt8.ofNat (48 + n % 10)] := by rw [Lib.decDigits, dif_neg h]
      rw [e]
      clear e
      generalize UInt8.ofNat (48 + n % 10) = d at *
      refine ⟨by rw [List.all_append, i1]; simp [h1], by simp, by rw [JO, i3, h2]; omega, fun _ => ?_, fun h0 => by omega⟩
      cases hl : Lib.decDigits (n / 10) with
      | nil => exact absurd hl i2
      | cons a b =>
        have := i4 (by omega)
        rw [hl] at this
        simpa using this
theorem num_dec (most n : Nat) (h : n ≤ most) : kj most (Lib.decDigits n) = n := by
  obtain ⟨h1, h2, h3, h4, h5⟩ := xL n
  rw [jf h2 ?_ h1, h3, if_neg (by omega)]
  rintro ⟨a, b⟩
  by_cases h0 : n = 0
  · rw [h5 h0] at a; simp at a
  · exact h4 h0 b
/-! ### The pieces -/
def Sep (r : List UInt8) : Prop := ∀ c, r.head? = some c → ldP c = false
theorem sep_nil : Sep [] := fun c h => by cases h
theorem jz {c : UInt8} {r : List UInt8} (h : ldP c = false) : Sep (c :: r) := fun d hd => by simp at hd; subst hd; exact h
theorem Xc {p : UInt8 → Bool} : ∀ (w r : List UInt8), (∀ c ∈ w, p c = true) → (∀ c, r.head? = some c → p c = false) → (w ++ r).takeWhile p = w
  | [], [], _, _ => rfl
  | [], c :: r, _, h => by simp [List.takeWhile, h c rfl]
  | c :: w, r, h, h2 => by
    rw [List.cons_append, List.takeWhile_cons, h c (.head _)]
    simp only [if_true]
    rw [Xc w r (fun d hd => h d (.tail _ hd)) h2]
theorem letP_skip {c : UInt8} (h : kK c = true) (r : List UInt8) : Yx false (c :: r) = 0 := by
  have h1 : kQ c = false := by
    cases hb : kQ c with
    | false => rfl
    | true =>
      simp only [kQ, Bool.or_eq_true, beq_iff_eq] at hb
      rcases hb with ((rfl | rfl) | rfl) | rfl <;> cases h
  have h2 : ¬ c = 35 := fun e => by subst e; cases h
  simp only [Yx, h1, h2, if_false, Bool.false_eq_true]
theorem Ky (w r : List UInt8) {c : UInt8} {t : List UInt8} (hw : w = c :: t) (hc : kK c = true) (hl : ∀ d ∈ w, ldP d = true) (hr : Sep r) : YJ (w ++ r) = (kU w, r) := by
  have h0 : Yx false (w ++ r) = 0 := by rw [hw]; exact letP_skip hc _
  have h1 : Yj (w ++ r) = (kU w, w.length) := by
    have : Yj (w ++ r) = (kU ((w ++ r).takeWhile ldP), ((w ++ r).takeWhile ldP).length) := by
      subst hw
      simp only [Yj, List.cons_append, hc, if_true]
    rw [this, Xc w r hl hr]
  unfold YJ
  rw [h0, List.drop_zero, h1]
  simp
theorem dig_ld {c : UInt8} (h : Yn c = true) : ldP c = true := by simp [ldP, h]
theorem JJ (v : Int) (h0 : 0 ≤ v) : Lib.itoa v = Lib.decDigits v.toNat := by
  obtain ⟨n, rfl⟩ : ∃ n : Nat, v = n := ⟨v.toNat, by omega⟩
  rw [Lib.itoa_nonneg]; rfl
theorem tokW_var (v : Int) (h0 : 0 ≤ v) (h : v < 65536) : kU ([120] ++ Lib.itoa v) = .var v := by
  obtain ⟨h1, h2, h3, h4, h5⟩ := xL v.toNat
  rw [JJ v h0]
  have hn := num_dec 65535 v.toNat (by omega)
  generalize Lib.decDigits v.toNat = ds at *
  cases ds with
  | nil => exact absurd rfl h2
  | cons d ds =>
    have hd : Yn d = true := by simp at h1; exact h1.1
    have hl : kK d = false := by
      cases hlp : kK d with
      | false => rfl
      | true =>
        simp only [kK, Yn, Bool.or_eq_true, Bool.and_eq_true, decide_eq_true_eq] at hlp hd
        exfalso
        have a1 : d.toNat ≤ 57 := by have := hd.2; simpa [UInt8.le_iff_toNat_le] using this
        rcases hlp with ⟨a, b⟩ | ⟨a, b⟩
        · have a2 : 97 ≤ d.toNat := by simpa [UInt8.le_iff_toNat_le] using a
          omega
        · have a2 : 65 ≤ d.toNat := by simpa [UInt8.le_iff_toNat_le] using a
          omega
    have ne : ∀ (a : UInt8) (l : List UInt8), (120 : UInt8) ≠ a → ¬ ([120] ++ (d :: ds) = a :: l) := fun a l h e => h (by injection e)
    unfold kU
    rw [if_neg (ne _ _ (by decide)), if_neg (ne _ _ (by decide)), if_neg (ne _ _ (by decide)), if_neg (ne _ _ (by decide)), if_neg (ne _ _ (by decide))]
    show (if kK d = true then Tk.bad 131 else if kj 65535 (d :: ds) < 0 then Tk.bad 133 else Tk.var (kj 65535 (d :: ds))) = _
    rw [if_neg (by rw [hl]; decide), if_neg (by omega), hn]
    congr 1; omega
theorem Um (v : Int) (h0 : 0 ≤ v) (h : v < 65536) (r : List UInt8) (hr : Sep r) : YJ ([120] ++ Lib.itoa v ++ r) = (.var v, r) := by
  rw [Ky ([120] ++ Lib.itoa v) r (c := 120) (t := Lib.itoa v) rfl (by decide) ?_ hr, tokW_var v h0 h]
  intro d hd
  rw [JJ v h0] at hd
  rcases List.mem_append.1 hd with hd | hd
  · simp at hd; subst hd; decide
  · exact dig_ld (List.all_eq_true.1 (xL v.toNat).1 d hd)
theorem true_next (r : List UInt8) (hr : Sep r) : YJ ([116, 114, 117, 101] ++ r) = (.const 1, r) := Ky _ r rfl (by decide) (by decide) hr
theorem gk (r : List UInt8) (hr : Sep r) : YJ ([102, 97, 108, 115, 101] ++ r) = (.const 0, r) := Ky _ r rfl (by decide) (by decide) hr
theorem Xd (r : List UInt8) (hr : Sep r) : YJ ([101, 120, 105, 115, 116, 115] ++ r) = (.quant 4, r) := Ky _ r rfl (by decide) (by decide) hr
theorem xU (r : List UInt8) (hr : Sep r) : YJ ([102, 111, 114, 97, 108, 108] ++ r) = (.quant 5, r) := Ky _ r rfl (by decide) (by decide) hr
theorem ite_next (r : List UInt8) (hr : Sep r) : YJ ([105, 116, 101] ++ r) = (.ite, r) := Ky _ r rfl (by decide) (by decide) hr
theorem not_next (r : List UInt8) : YJ (33 :: r) = (.not, r) := rfl
theorem Xb (r : List UInt8) : YJ (40 :: r) = (.opn, r) := rfl
theorem XM (r : List UInt8) : YJ (41 :: r) = (.cls, r) := rfl
theorem Je (r : List UInt8) : YJ (44 :: r) = (.comma, r) := rfl
theorem XY (r : List UInt8) : YJ (58 :: r) = (.colon, r) := rfl
theorem and_next (r : List UInt8) : YJ (38 :: r) = (.op 6, r) := rfl
theorem or_next (r : List UInt8) : YJ (124 :: r) = (.op 7, r) := rfl
theorem xor_next (r : List UInt8) : YJ (94 :: r) = (.op 8, r) := rfl
theorem imp_next (r : List UInt8) : YJ (45 :: 62 :: r) = (.op 9, r) := rfl
theorem iff_next (r : List UInt8) : YJ (60 :: 45 :: 62 :: r) = (.op 10, r) := rfl
/-! ### A tree's tokens -/
def brK (t : List Tk × List Tk) (br last : Bool) : List Tk := if br then [.opn] ++ t.1 ++ [.cls] else if last then t.1 else t.2
def K : T → (List Tk × List Tk) × (Int → List Tk)
  | .cst n => let s : List Tk := [.const n]; ((s, s), fun _ => .colon :: s)
  | .var v => let s : List Tk := [.var v]; ((s, s), fun _ => .colon :: s)
  | .neg a =>
    let s (last : Bool) : List Tk := [.not] ++ brK (K a).1 (YO 3 0 a last) last
    ((s true, s false), fun _ => .colon :: s true)
  | .qu op v a =>
    let s : List Tk := [.quant op, .var v] ++ (K a).2 op
    ((s, s), fun op' => if op' = op then [.comma, .var v] ++ (K a).2 op' else .colon :: s)
  | .bin op a b =>
    let s (last : Bool) : List Tk := brK (K a).1 (YO op 0 a false) false ++ [.op op] ++ brK (K b).1 (YO op 1 b last) last
    ((s true, s false), fun _ => .colon :: s true)
  | .ite c a b =>
    let s : List Tk := [.ite, .opn] ++ (K c).1.1 ++ [.comma] ++ (K a).1.1 ++ [.comma] ++ (K b).1.1 ++ [.cls]
    ((s, s), fun _ => .colon :: s)
def tkT (t : T) (last : Bool) : List Tk := if last then (K t).1.1 else (K t).1.2
def xk (op side : Int) (x : T) (last : Bool) : List Tk := if YO op side x last then [.opn] ++ tkT x true ++ [.cls] else tkT x last
def KD (op : Int) (t : T) : List Tk := (K t).2 op
theorem brK_eq (t : T) (br last : Bool) : brK (K t).1 br last = if br then [.opn] ++ tkT t true ++ [.cls] else tkT t last := by
  cases br <;> cases last <;> rfl
theorem gL (n : Int) (last : Bool) : tkT (.cst n) last = [.const n] := by cases last <;> rfl
theorem gU (v : Int) (last : Bool) : tkT (.var v) last = [.var v] := by cases last <;> rfl
theorem gV (a : T) (last : Bool) : tkT (.neg a) last = [.not] ++ xk 3 0 a last := by
  cases last <;> simp only [tkT, K, brK_eq, xk, if_true, if_false, Bool.false_eq_true]
theorem tkT_qu (op v : Int) (a : T) (last : Bool) : tkT (.qu op v a) last = [.quant op, .var v] ++ KD op a := by cases last <;> rfl
theorem Gl (op : Int) (a b : T) (last : Bool) : tkT (.bin op a b) last = xk op 0 a false ++ [.op op] ++ xk op 1 b last := by
  cases last <;> simp only [tkT, K, brK_eq, xk, if_true, if_false, Bool.false_eq_true]
theorem Gk (c a b : T) (last : Bool) : tkT (.ite c a b) last = [.ite, .opn] ++ tkT c true ++ [.comma] ++ tkT a true ++ [.comma] ++ tkT b true ++ [.cls] := by cases last <;> rfl
theorem ui (op v : Int) (a : T) : KD op (.qu op v a) = [.comma, .var v] ++ KD op a := by simp [KD, K]
theorem uW {op : Int} {t : T} (h : jw op t = false) : KD op t = .colon :: tkT t true := by
  cases t with
  | qu o v a =>
    simp only [jw, decide_eq_false_iff_not] at h
    have h2 : ¬ op = o := fun e => h e.symm
    simp [KD, K, tkT, h2]
  | _ => rfl

/-! ### The text's tokens -/
theorem sep32 (r : List UInt8) : Sep (32 :: r) := jz (by decide)
theorem sep41 (r : List UInt8) : Sep (41 :: r) := jz (by decide)
theorem sep40 (r : List UInt8) : Sep (40 :: r) := jz (by decide)
theorem sep44 (r : List UInt8) : Sep (44 :: r) := jz (by decide)
theorem sep58 (r : List UInt8) : Sep (58 :: r) := jz (by decide)
theorem gK (op : Int) (h : 6 ≤ op ∧ op ≤ 10) (r : List UInt8) : (∃ x, Yv op ++ r = 32 :: x) ∧ Toks (Yv op ++ r) [.op op] r := by
  have : op = 6 ∨ op = 7 ∨ op = 8 ∨ op = 9 ∨ op = 10 := by omega
  rcases this with rfl | rfl | rfl | rfl | rfl
  · exact ⟨⟨_, rfl⟩, (Toks.blank (.one (and_next _))).end_blank⟩
  · exact ⟨⟨_, rfl⟩, (Toks.blank (.one (or_next _))).end_blank⟩
  · exact ⟨⟨_, rfl⟩, (Toks.blank (.one (xor_next _))).end_blank⟩
  · exact ⟨⟨_, rfl⟩, (Toks.blank (.one (imp_next _))).end_blank⟩
  · exact ⟨⟨_, rfl⟩, (Toks.blank (.one (iff_next _))).end_blank⟩
theorem gw (op : Int) (h : op = 4 ∨ op = 5) (r : List UInt8) : Toks (Yv op ++ r) [.quant op] r := by
  rcases h with rfl | rfl
  · exact (Toks.one (Xd (32 :: r) (sep32 r))).end_blank
  · exact (Toks.one (xU (32 :: r) (sep32 r))).end_blank
def LexT (t : T) : Prop := (∀ last r, Sep r → Toks (wr t last ++ r) (tkT t last) r) ∧ ∀ op r, Sep r → Sep (kE op t ++ r) ∧ Toks (kE op t ++ r) (KD op t) r
theorem jP {t : T} (h : ∀ last r, Sep r → Toks (wr t last ++ r) (tkT t last) r) {op : Int} (hq : jw op t = false) (r : List UInt8) (hr : Sep r) : Sep (kE op t ++ r) ∧ Toks (kE op t ++ r) (KD op t) r := by
  rw [kC hq, uW hq]
  exact ⟨sep58 _, .cons (XY _) (Toks.blank (h true r hr))⟩
theorem xl {x : T} (h : LexT x) (op side : Int) (last : Bool) (r : List UInt8) (hr : Sep r) : Toks (opd op side x last ++ r) (xk op side x last) r := by
  unfold opd xk
  split
  · have e : [40] ++ wr x true ++ [41] ++ r = 40 :: (wr x true ++ 41 :: r) := by simp
    rw [e, List.append_assoc]
    exact .cons (Xb _) ((h.1 true _ (sep41 r)).app (.one (XM r)))
  · exact h.1 last r hr
theorem xT : ∀ t : T, okT t → LexT t
  | .cst n, h => by
    have h1 : ∀ last r, Sep r → Toks (wr (.cst n) last ++ r) (tkT (.cst n) last) r := by
      intro last r hr
      rw [ua, gL]
      rcases h with rfl | rfl
      · exact .one (gk r hr)
      · exact .one (true_next r hr)
    exact ⟨h1, fun op r hr => jP h1 rfl r hr⟩
  | .var v, h => by
    have h1 : ∀ last r, Sep r → Toks (wr (.var v) last ++ r) (tkT (.var v) last) r := by
      intro last r hr
      rw [Jh, gU]
      exact .one (Um v h.1 h.2 r hr)
    exact ⟨h1, fun op r hr => jP h1 rfl r hr⟩
  | .neg a, h => by
    have ih := xT a h
    have h1 : ∀ last r, Sep r → Toks (wr (.neg a) last ++ r) (tkT (.neg a) last) r := by
      intro last r hr
      rw [jH, gV]
      exact .cons (not_next _) (xl ih 3 0 last r hr)
    exact ⟨h1, fun op r hr => jP h1 rfl r hr⟩
  | .qu op v a, h => by
    have ih := xT a h.2.2.2
    have h1 : ∀ last r, Sep r → Toks (wr (.qu op v a) last ++ r) (tkT (.qu op v a) last) r := by
      intro last r hr
      rw [uc, tkT_qu]
      obtain ⟨k1, k2⟩ := ih.2 op r hr
      have e : Yv op ++ [120] ++ Lib.itoa v ++ kE op a ++ r = Yv op ++ ([120] ++ Lib.itoa v ++ (kE op a ++ r)) := by simp
      rw [e]
      exact (gw op h.1 _).app (.cons (Um v h.2.1 h.2.2.1 _ k1) k2)
    refine ⟨h1, fun op' r hr => ?_⟩
    by_cases e : op' = op
    · subst e
      rw [KF, ui]
      obtain ⟨k1, k2⟩ := ih.2 op' r hr
      have e : [44, 32, 120] ++ Lib.itoa v ++ kE op' a ++ r = 44 :: 32 :: ([120] ++ Lib.itoa v ++ (kE op' a ++ r)) := by simp
      rw [e]
      exact ⟨sep44 _, .cons (Je _) (Toks.blank (.cons (Um v h.2.1 h.2.2.1 _ k1) k2))⟩
    · exact jP h1 (by simp [jw]; exact fun x => e x.symm) r hr
  | .bin op a b, h => by
    have ih := xT a h.2.2.1
    have ih2 := xT b h.2.2.2
    have h1 : ∀ last r, Sep r → Toks (wr (.bin op a b) last ++ r) (tkT (.bin op a b) last) r := by
      intro last r hr
      rw [jB, Gl]
      have k2 := xl ih2 op 1 last r hr
      obtain ⟨⟨x, hx⟩, k3⟩ := gK op ⟨h.1, h.2.1⟩ (opd op 1 b last ++ r)
      have e : opd op 0 a false ++ Yv op ++ opd op 1 b last ++ r = opd op 0 a false ++ (Yv op ++ (opd op 1 b last ++ r)) := by simp
      rw [e]
      exact ((xl ih op 0 false _ (by rw [hx]; exact sep32 x)).app k3).app k2
    exact ⟨h1, fun op r hr => jP h1 rfl r hr⟩
  | .ite c a b, h => by
    have ic := xT c h.1
    have ia := xT a h.2.1
    have ib := xT b h.2.2
    have h1 : ∀ last r, Sep r → Toks (wr (.ite c a b) last ++ r) (tkT (.ite c a b) last) r := by
      intro last r hr
      rw [Jf, Gk]
      have e : [105, 116, 101, 40] ++ wr c true ++ [44, 32] ++ wr a true ++ [44, 32] ++ wr b true ++ [41] ++ r = [105, 116, 101] ++ 40 :: (wr c true ++ 44 :: 32 :: (wr a true ++ 44 :: 32 :: (wr b true ++ 41 :: r))) := by simp
      have e2 : [Tk.ite, .opn] ++ tkT c true ++ [.comma] ++ tkT a true ++ [.comma] ++ tkT b true ++ [.cls] = .ite :: .opn :: (tkT c true ++ .comma :: (tkT a true ++ .comma :: (tkT b true ++ [.cls]))) := by simp
      rw [e, e2]
      have k1 := (ib.1 true (41 :: r) (sep41 r)).app (.one (XM r))
      have k2 := (ia.1 true (44 :: 32 :: (wr b true ++ 41 :: r)) (sep44 _)).app (.cons (Je _) (Toks.blank k1))
      have k3 := (ic.1 true (44 :: 32 :: (wr a true ++ 44 :: 32 :: (wr b true ++ 41 :: r))) (sep44 _)).app (.cons (Je _) (Toks.blank k2))
      exact .cons (ite_next _ (sep40 _)) (.cons (Xb _) k3)
    exact ⟨h1, fun op r hr => jP h1 rfl r hr⟩
end
section
open Go Go.RowKit Go.SL Go.ClauseP Go.LexP

def jF (m : MS) (w q : Int) : List Tk → Nx
  | [] => .go m w q
  | t :: l => match yB m w q t with
    | .go m' w' q' => jF m' w' q' l
    | x => x
theorem jm : ∀ (l l' : List Tk) (m : MS) (w q : Int) {m' : MS} {w' q' : Int}, jF m w q l = .go m' w' q' → jF m w q (l ++ l') = jF m' w' q' l'
  | [], l', m, w, q, m', w', q', h => by
    simp only [jF] at h; injection h with a b c; subst a; subst b; subst c; rfl
  | t :: l, l', m, w, q, m', w', q', h => by
    simp only [List.cons_append, jF] at h ⊢
    cases hs : yB m w q t with
    | err e => rw [hs] at h; cases h
    | done o => rw [hs] at h; cases h
    | go m1 w1 q1 => rw [hs] at h; exact jm l l' m1 w1 q1 h
theorem YR {m m' : MS} {w q w' q' : Int} {t : Tk} (l : List Tk) (h : yB m w q t = .go m' w' q') : jF m w q (t :: l) = jF m' w' q' l := by simp only [jF, h]
def Stop2 (b : Nat) : List Wt → Prop
  | .not :: _ => 6 ≤ b
  | .op o :: _ => YI o < b ∨ b = 2 ∧ o = 9
  | _ => True
theorem Stop2.oper {op : Int} {S : List Wt} (h : Stop2 (YI op) S) (h9 : YI op = 2 → op = 9) (o : List (Int × Int)) (k : Nat) : YE op S o k = (S, o, k) := by
  have := kM op
  cases S with
  | nil => rfl
  | cons w S =>
    unfold Stop2 at h
    cases w with
    | not => dsimp only at h; omega
    | op x =>
      dsimp only at h; simp only [YE]
      rcases h with h | ⟨h, rfl⟩
      · rw [if_pos (.inl h)]
      · have := h9 h; subst this; rw [if_pos (.inr ⟨rfl, rfl⟩)]
    | _ => rfl
theorem Stop2.up {b c : Nat} {S : List Wt} (h : Stop2 b S) (hb : b ≤ c) : Stop2 c S := by
  unfold Stop2 at *
  split at h
  · omega
  · rcases h with h | ⟨h, rfl⟩
    · exact .inl (by omega)
    · by_cases hc : c = 2
      · exact .inr ⟨hc, rfl⟩
      · exact .inl (by show 2 < c; omega)
  · trivial
def fits (b : Nat) (last : Bool) : T → Prop
  | .bin op _ _ => b ≤ YI op
  | .qu _ _ _ => last = true
  | _ => True
def lkL (t : T) (last : Bool) : Int := if last then (look t).1 else (look t).2
def GoodL (b : Nat) (last : Bool) (pend : List Wt) : Prop := (∀ w ∈ pend, Soft w) ∧ (last = false → ∀ w ∈ pend, w = .not ∨ ∃ o, w = .op o ∧ b ≤ YI o)
theorem GoodL.nil (b : Nat) (last : Bool) : GoodL b last [] := ⟨fun _ h => (nomatch h), fun _ _ h => (nomatch h)⟩
theorem GoodL.down {b c : Nat} {last : Bool} {pend : List Wt} (h : GoodL c last pend) (hb : b ≤ c) : GoodL b last pend :=
  ⟨h.1, fun hl w hw => (h.2 hl w hw).imp id fun ⟨o, e, k⟩ => ⟨o, e, by omega⟩⟩
theorem GoodL.snoc {b : Nat} {last : Bool} {pend : List Wt} {x : Wt} (h : GoodL b last pend) (hs : Soft x) (hx : last = false → x = .not ∨ ∃ o, x = .op o ∧ b ≤ YI o) : GoodL b last (pend ++ [x]) := by
  refine ⟨fun w hw => ?_, fun hl w hw => ?_⟩
  · rcases List.mem_append.1 hw with hw | hw
    · exact h.1 w hw
    · simp at hw; subst hw; exact hs
  · rcases List.mem_append.1 hw with hw | hw
    · exact h.2 hl w hw
    · simp at hw; subst hw; exact hx hl
def UZ (b : Nat) (last : Bool) (t : T) (l : List Tk) (w0 : Int) (q0 : Int) (S : List Wt) (o : List (Int × Int)) (k n : Nat) : Prop :=
  ∃ pend o' q', jF ⟨S, o, k, n⟩ w0 q0 l = .go ⟨pend ++ S, o ++ o', k + cn pend, n + size t⟩ 1 q' ∧ o' ++ nd pend = post t ∧ GoodL b last pend
def jW (t : T) : Prop := ∀ (b : Nat) (last : Bool) (S : List Wt) (o : List (Int × Int)) (k n : Nat) (q : Int), b ≤ 6 → Stop2 b S → fits b last t → (k : Int) + lkL t last ≤ 64 → n + size t ≤ 65536 → UZ b last t (tkT t last) 0 q S o k n
def ReadC (t : T) : Prop := ∀ (op : Int) (S : List Wt) (o : List (Int × Int)) (k n : Nat), (op = 4 ∨ op = 5) → Stop2 1 S → (k : Int) + (look t).1 ≤ 64 → n + size t ≤ 65536 → UZ 1 true t (KD op t) 4 op S o k n
theorem xu (p : List Wt) (x : Wt) : nd (p ++ [x]) = nd p ++ ndW x := by rw [JT]; simp [nd]
theorem xK (p : List Wt) (x : Wt) : cn (p ++ [x]) = cn p + opW x := by rw [uU]; simp [cn]
theorem UT (t : T) : fits 1 true t := by
  cases t <;> simp [fits]
  exact (kM _).1
theorem read_brk {t : T} (h : jW t) (b : Nat) (last : Bool) (S : List Wt) (o : List (Int × Int)) (k n : Nat) (q : Int) (hk : (k : Int) + (1 + (look t).1) ≤ 64) (hn : n + size t ≤ 65536) : UZ b last t ([.opn] ++ tkT t true ++ [.cls]) 0 q S o k n := by
  have l1 := (YC t).1
  obtain ⟨pend, o', q', h1, h2, h3⟩ := h 1 true (.opn :: S) o (k + 1) n q (by omega) trivial (UT t) (by unfold lkL; simp only [if_true]; push_cast; omega) hn
  refine ⟨[], post t, q', ?_, by simp [nd], GoodL.nil _ _⟩
  have e1 : yB ⟨S, o, k, n⟩ 0 q .opn = .go ⟨.opn :: S, o, k + 1, n⟩ 0 q := by
    simp only [yB, YK, if_true]; rw [if_neg (by omega)]
  rw [List.cons_append, List.nil_append, List.cons_append, YR _ e1, jm _ _ _ _ _ h1]
  have e2 : yB ⟨pend ++ .opn :: S, o ++ o', k + 1 + cn pend, n + size t⟩ 1 q' .cls = .go ⟨S, o ++ post t, k, n + size t⟩ 1 q' := by
    simp only [yB, if_true]
    rw [ki pend _ _ _ h3.1, List.append_assoc, h2]
    simp only [Yd, kY, Nat.add_sub_cancel]
  rw [YR _ e2]
  simp [jF, cn]
theorem Kh (op : Int) (h : 6 ≤ op ∧ op ≤ 10) : kh op = YI op := by
  have : op = 6 ∨ op = 7 ∨ op = 8 ∨ op = 9 ∨ op = 10 := by omega
  rcases this with rfl | rfl | rfl | rfl | rfl <;> rfl
theorem Ua {x : T} (h : jW x) (op side : Int) (b : Nat) (last : Bool) (S : List Wt) (o : List (Int × Int)) (k n : Nat) (q : Int) (hb : b ≤ 6) (hS : Stop2 b S) (hf : YO op side x last = false → fits b last x) (hk : (k : Int) + cnt op side x last (look x) ≤ 64) (hn : n + size x ≤ 65536) :
    UZ b last x (xk op side x last) 0 q S o k n := by
  unfold xk
  unfold cnt at hk
  cases hbr : YO op side x last with
  | true => rw [hbr] at hk; simp only [if_true] at hk ⊢; exact read_brk h b last S o k n q hk hn
  | false => rw [hbr] at hk; simp only [Bool.false_eq_true, if_false] at hk ⊢; exact h b last S o k n q hb hS (hf hbr) hk hn
theorem Kf {t : T} (h : jW t) {op : Int} (hq : jw op t = false) (S : List Wt) (o : List (Int × Int)) (k n : Nat) (hS : Stop2 1 S) (hk : (k : Int) + (look t).1 ≤ 64) (hn : n + size t ≤ 65536) : UZ 1 true t (KD op t) 4 op S o k n := by
  obtain ⟨pend, o', q', h1, h2, h3⟩ := h 1 true S o k n op (by omega) hS (UT t) (by unfold lkL; simpa using hk) hn
  rw [uW hq]
  refine ⟨pend, o', q', ?_, h2, h3⟩
  rw [YR _ (show yB ⟨S, o, k, n⟩ 4 op .colon = .go ⟨S, o, k, n⟩ 0 op from rfl)]
  exact h1
theorem gB (op side : Int) (x : T) (last : Bool) : 0 ≤ cnt op side x last (look x) := by
  have := YC x
  unfold cnt; split
  · omega
  · split <;> omega
theorem ue : ∀ t : T, okT t → jW t ∧ ReadC t
  | .cst c, h => by
    have h1 : jW (.cst c) := by
      intro b last S o k n q hb hS hf hk hn
      rw [gL]
      refine ⟨[], [(1, c)], q, ?_, rfl, GoodL.nil _ _⟩
      simp only [size] at hn
      simp only [jF, yB, Yw, if_true]
      rw [if_neg (by omega)]
      simp [cn, size]
    exact ⟨h1, fun op S o k n _ hS hk hn => Kf h1 rfl S o k n hS hk hn⟩
  | .var v, h => by
    have h1 : jW (.var v) := by
      intro b last S o k n q hb hS hf hk hn
      rw [gU]
      refine ⟨[], [(2, v)], q, ?_, rfl, GoodL.nil _ _⟩
      simp only [size] at hn
      simp only [jF, yB, Yw, if_true]
      rw [if_neg (by omega)]
      simp [cn, size]
    exact ⟨h1, fun op S o k n _ hS hk hn => Kf h1 rfl S o k n hS hk hn⟩
  | .neg a, h => by
    have ih := (ue a h).1
    have h1 : jW (.neg a) := by
      intro b last S o k n q hb hS hf hk hn
      have c0 := gB 3 0 a last
      have hk1 : (k : Int) + 1 + cnt 3 0 a last (look a) ≤ 64 := by
        cases last <;> simp only [lkL, look, if_true, if_false, Bool.false_eq_true] at hk <;> omega
      simp only [size] at hn
      obtain ⟨pend, o', q', g1, g2, g3⟩ := Ua ih 3 0 6 last (.not :: S) o (k + 1) (n + 1) q (by omega) (Nat.le_refl 6) (fun hbr => by
        cases a with
        | bin o x y => exfalso; simp [YO] at hbr
        | qu o x y => simp [YO] at hbr; exact hbr
        | _ => trivial) (by push_cast; omega) (by omega)
      rw [gV]
      refine ⟨pend ++ [.not], o', q', ?_, ?_, (g3.down hb).snoc (.inl rfl) fun _ => .inl rfl⟩
      · have e1 : yB ⟨S, o, k, n⟩ 0 q .not = .go ⟨.not :: S, o, k + 1, n + 1⟩ 0 q := by
          simp only [yB, YK, Yw, if_true]; rw [if_neg (by omega), if_neg (by omega)]
        rw [List.cons_append, List.nil_append, YR _ e1, g1, xK]
        simp only [List.append_assoc, List.cons_append, List.nil_append, opW, size]
        congr 2 <;> omega
      · rw [xu, ← List.append_assoc, g2]; rfl
    exact ⟨h1, fun op S o k n _ hS hk hn => Kf h1 rfl S o k n hS hk hn⟩
  | .qu op v a, h => by
    have ih := (ue a h.2.2.2).2
    have h4 : op = 4 ∨ op = 5 := h.1
    have hv : ∀ (S : List Wt) (o : List (Int × Int)) (k n : Nat), (k : Int) + (1 + (look a).1) ≤ 64 → n + (size a + 1) ≤ 65536 → UZ 1 true (.qu op v a) (.var v :: KD op a) 3 op S o k n := by
      intro S o k n hk hn
      have l1 := (YC a).1
      obtain ⟨pend, o', q', g1, g2, g3⟩ := ih op (.quant op v :: S) o (k + 1) (n + 1) h4 trivial (by push_cast; omega) (by omega)
      refine ⟨pend ++ [.quant op v], o', q', ?_, ?_, g3.snoc (.inr (.inl ⟨_, _, rfl⟩)) fun hl => by cases hl⟩
      · have e1 : yB ⟨S, o, k, n⟩ 3 op (.var v) = .go ⟨.quant op v :: S, o, k + 1, n + 1⟩ 4 op := by
          simp only [yB, YK, Yw, if_true]; rw [if_neg (by decide), if_neg (by omega), if_neg (by omega)]
        rw [YR _ e1, g1, xK]
        simp only [List.append_assoc, List.cons_append, List.nil_append, opW, size]
        congr 2 <;> omega
      · rw [xu, ← List.append_assoc, g2]; rfl
    have h1 : jW (.qu op v a) := by
      intro b last S o k n q hb hS hf hk hn
      have hl : last = true := hf
      subst hl
      obtain ⟨pend, o', q', g1, g2, g3⟩ := hv S o k n (by simpa [lkL, look] using hk) (by simpa [size] using hn)
      rw [tkT_qu]
      refine ⟨pend, o', q', ?_, g2, ⟨g3.1, fun hl => by cases hl⟩⟩
      rw [List.cons_append, YR _ (show yB ⟨S, o, k, n⟩ 0 q (.quant op) = .go ⟨S, o, k, n⟩ 3 op from rfl)]
      exact g1
    refine ⟨h1, fun op' S o k n hop hS hk hn => ?_⟩
    by_cases e : op' = op
    · subst e
      obtain ⟨pend, o', q', g1, g2, g3⟩ := hv S o k n (by simpa [look] using hk) (by simpa [size] using hn)
      rw [ui]
      refine ⟨pend, o', q', ?_, g2, g3⟩
      have e1 : yB ⟨S, o, k, n⟩ 4 op' .comma = .go ⟨S, o, k, n⟩ 3 op' := by simp [yB]
      rw [List.cons_append, YR _ e1]
      exact g1
    · exact Kf h1 (by simp [jw]; exact fun x => e x.symm) S o k n hS hk hn
  | .bin op a b', h => by
    obtain ⟨ha, hb', oka, okb⟩ := h
    have ia := (ue a oka).1
    have ib := (ue b' okb).1
    have ht := Kh op ⟨ha, hb'⟩
    have hbl := kM op
    have h9 : YI op = 2 → op = 9 := by
      intro h2
      have : op = 6 ∨ op = 7 ∨ op = 8 ∨ op = 9 ∨ op = 10 := by omega
      rcases this with rfl | rfl | rfl | rfl | rfl <;> first | rfl | cases h2
    have h1 : jW (.bin op a b') := by
      intro b last S o k n q hb hS hf hk hn
      have hf : b ≤ YI op := hf
      simp only [size] at hn
      have ca := gB op 0 a false
      have cb := gB op 1 b' last
      have hk1 : (k : Int) + cnt op 0 a false (look a) ≤ 64 ∧ (k : Int) + cnt op 1 b' last (look b') ≤ 64 := by
        cases last <;> simp only [lkL, look, if_true, if_false, Bool.false_eq_true] at hk <;> omega
      have hSo := hS.up hf
      obtain ⟨bl, hbl2⟩ : ∃ bl, bl = if op = 9 then 3 else YI op := ⟨_, rfl⟩
      have hle : YI op ≤ bl := by rw [hbl2]; split; (rename_i e; subst e; decide); exact Nat.le_refl _
      have hl6 : bl ≤ 6 := by rw [hbl2]; split <;> omega
      obtain ⟨p1, o1, q1, g1, g2, g3⟩ := Ua ia op 0 bl false S o k n q hl6 (hSo.up hle) (fun hbr => by
        cases a with
        | bin o2 x y =>
          have hto := Kh o2 ⟨oka.1, oka.2.1⟩
          show bl ≤ YI o2
          by_cases e9 : op = 9
          · subst e9
            have h2 : kh 9 = 2 := rfl
            simp [YO] at hbr
            rw [hbl2, if_pos rfl]; omega
          · simp [YO, e9, show ¬ op = 3 by omega] at hbr
            rw [hbl2, if_neg e9]; omega
        | qu o x y => simp [YO] at hbr
        | _ => trivial) hk1.1 (by omega)
      have e2 : yB ⟨p1 ++ S, o ++ o1, k + cn p1, n + size a⟩ 1 q1 (.op op) = .go ⟨.op op :: S, o ++ post a, k, n + size a + 1⟩ 0 q1 := by
        simp only [yB, Yw, if_true]
        rw [if_neg (by omega)]
        have e3 : YE op (p1 ++ S) (o ++ o1) (k + cn p1) = (S, o ++ post a, k) := by
          rw [jI op bl hle p1 S _ _ (fun w hw => (g3.2 rfl w hw).imp id fun ⟨y, e1, e2⟩ => ⟨y, e1, e2, fun e9 => by
            have : YI op = 2 := by subst e9; rfl
            have : bl = 3 := by rw [hbl2, if_pos e9]
            omega⟩), List.append_assoc, g2]
          exact hSo.oper h9 _ _
        rw [e3]
      obtain ⟨br, hbr2⟩ : ∃ br, br = if op = 9 then 2 else YI op + 1 := ⟨_, rfl⟩
      have hbr6 : br ≤ 6 := by rw [hbr2]; split <;> omega
      have hbr3 : YI op ≤ br := by rw [hbr2]; split; (rename_i e; subst e; decide); omega
      obtain ⟨p2, o2, q2, k1, k2, k3⟩ := Ua ib op 1 br last (.op op :: S) (o ++ post a) k (n + size a + 1) q1 hbr6 (by
        show YI op < br ∨ br = 2 ∧ op = 9
        rw [hbr2]; split
        · rename_i e; exact .inr ⟨rfl, e⟩
        · exact .inl (by omega)) (fun hbr => by
        cases b' with
        | bin o2 x y =>
          have hto := Kh o2 ⟨okb.1, okb.2.1⟩
          show br ≤ YI o2
          by_cases e9 : op = 9
          · subst e9
            have h2 : kh 9 = 2 := rfl
            simp [YO] at hbr
            rw [hbr2, if_pos rfl]; omega
          · simp [YO, e9, show ¬ op = 3 by omega] at hbr
            rw [hbr2, if_neg e9]; omega
        | qu o x y => simp [YO] at hbr; exact hbr
        | _ => trivial) hk1.2 (by omega)
      rw [Gl]
      refine ⟨p2 ++ [.op op], post a ++ o2, q2, ?_, ?_, (k3.down (by omega)).snoc (.inr (.inr ⟨_, rfl⟩)) fun _ => .inr ⟨_, rfl, hf⟩⟩
      · rw [List.append_assoc, jm _ _ _ _ _ g1, List.cons_append, List.nil_append, YR _ e2, k1, xK]
        simp only [List.append_assoc, List.cons_append, List.nil_append, opW, size]
        congr 2 <;> omega
      · rw [xu, ← List.append_assoc, List.append_assoc (post a), k2]; rfl
    exact ⟨h1, fun op S o k n _ hS hk hn => Kf h1 rfl S o k n hS hk hn⟩
  | .ite c a b', h => by
    have ic := (ue c h.1).1
    have ia := (ue a h.2.1).1
    have ib := (ue b' h.2.2).1
    have h1 : jW (.ite c a b') := by
      intro b last S o k n q hb hS hf hk hn
      simp only [size] at hn
      have lc := (YC c).1
      have la := (YC a).1
      have lb := (YC b').1
      have hk1 : (k : Int) + 1 + (look c).1 ≤ 64 ∧ (k : Int) + 1 + (look a).1 ≤ 64 ∧ (k : Int) + 1 + (look b').1 ≤ 64 := by
        cases last <;> simp only [lkL, look, if_true, if_false, Bool.false_eq_true] at hk <;> omega
      obtain ⟨p1, o1, q1, c1, c2, c3⟩ := ic 1 true (.ite 0 :: S) o (k + 1) (n + 1) q (by omega) trivial (UT c) (by unfold lkL; simp only [if_true]; push_cast; omega) (by omega)
      obtain ⟨p2, o2, q2, a1, a2, a3⟩ := ia 1 true (.ite 1 :: S) (o ++ post c) (k + 1) (n + 1 + size c) q1 (by omega) trivial (UT a) (by unfold lkL; simp only [if_true]; push_cast; omega) (by omega)
      obtain ⟨p3, o3, q3, b1, b2, b3⟩ := ib 1 true (.ite 2 :: S) (o ++ post c ++ post a) (k + 1) (n + 1 + size c + size a) q2 (by omega) trivial (UT b') (by unfold lkL; simp only [if_true]; push_cast; omega) (by omega)
      have e1 : yB ⟨S, o, k, n⟩ 0 q .ite = .go ⟨.ite 0 :: S, o, k + 1, n + 1⟩ 2 q := by
        simp only [yB, YK, Yw, if_true]; rw [if_neg (by omega), if_neg (by omega)]
      have e2 : yB ⟨.ite 0 :: S, o, k + 1, n + 1⟩ 2 q .opn = .go ⟨.ite 0 :: S, o, k + 1, n + 1⟩ 0 q := by simp [yB]
      have e3 : yB ⟨p1 ++ .ite 0 :: S, o ++ o1, k + 1 + cn p1, n + 1 + size c⟩ 1 q1 .comma = .go ⟨.ite 1 :: S, o ++ post c, k + 1, n + 1 + size c⟩ 0 q1 := by
        simp only [yB, if_true]
        rw [ki p1 _ _ _ c3.1, List.append_assoc, c2]
        rfl
      have e4 : yB ⟨p2 ++ .ite 1 :: S, o ++ post c ++ o2, k + 1 + cn p2, n + 1 + size c + size a⟩ 1 q2 .comma = .go ⟨.ite 2 :: S, o ++ post c ++ post a, k + 1, n + 1 + size c + size a⟩ 0 q2 := by
        simp only [yB, if_true]
        rw [ki p2 _ _ _ a3.1, List.append_assoc (o ++ post c), a2]
        rfl
      have e5 : yB ⟨p3 ++ .ite 2 :: S, o ++ post c ++ post a ++ o3, k + 1 + cn p3, n + 1 + size c + size a + size b'⟩ 1 q3 .cls = .go ⟨S, o ++ post (.ite c a b'), k, n + 1 + size c + size a + size b'⟩ 1 q3 := by
        simp only [yB, if_true]
        rw [ki p3 _ _ _ b3.1, List.append_assoc (o ++ post c ++ post a), b2]
        simp only [Yd, kY, if_true, post, List.append_assoc, Nat.add_sub_cancel]
      rw [Gk]
      refine ⟨[], post (.ite c a b'), q3, ?_, by simp [nd], GoodL.nil _ _⟩
      have e : [Tk.ite, .opn] ++ tkT c true ++ [.comma] ++ tkT a true ++ [.comma] ++ tkT b' true ++ [.cls] = .ite :: .opn :: (tkT c true ++ .comma :: (tkT a true ++ .comma :: (tkT b' true ++ [.cls]))) := by simp
      rw [e, YR _ e1, YR _ e2, jm _ _ _ _ _ c1, YR _ e3, jm _ _ _ _ _ a1, YR _ e4, jm _ _ _ _ _ b1, YR _ e5]
      simp only [jF, List.nil_append, cn, List.map_nil, List.sum_nil, size]
      congr 2; omega
    exact ⟨h1, fun op S o k n _ hS hk hn => Kf h1 rfl S o k n hS hk hn⟩

/-! ### Texts -/
theorem XF {text : List UInt8} {s' : List UInt8} {m' : MS} {w' q' : Int} {o : List (Int × Int)} (hf : (YJ s').1 = .fin) (hd : yB m' w' q' .fin = .done o) : ∀ (l : List Tk) (m : MS) (w q : Int) (k : Nat), Toks (text.drop k) l s' → jF m w q l = .go m' w' q' → MRun text m w q (yS text k) (.inr o)
  | [], m, w, q, k, h, hr => by
    simp only [jF] at hr; injection hr with a b c; subst a; subst b; subst c
    refine .done ?_
    rw [(JN text k).1, show YJ (text.drop k) = YJ s' from h, hf]; exact hd
  | t :: l, m, w, q, k, h, hr => by
    obtain ⟨h1, h2⟩ := h
    obtain ⟨e1, e2⟩ := JN text k
    simp only [jF] at hr
    cases hs : yB m w q t with
    | err e => rw [hs] at hr; cases hr
    | done o => rw [hs] at hr; cases hr
    | go m1 w1 q1 =>
      rw [hs] at hr
      refine .go (m' := m1) (w' := w1) (q' := q1) (by rw [e1, h1]; exact hs) ?_
      exact XF hf hd l m1 w1 q1 _ (by rw [e2]; exact h2) hr
theorem read_toks {text s' : List UInt8} {t : T} (hk : okT t) (hd : (look t).1 ≤ 64) (hn : size t ≤ 65536) (hs : Toks text (tkT t true) s') (hf : (YJ s').1 = .fin) : MRun text m00 0 0 (yS text 0) (.inr (post t)) := by
  obtain ⟨pend, o', q', h1, h2, h3⟩ := (ue t hk).1 1 true [] [] 0 0 0 (by omega) trivial (UT t) (by unfold lkL; simpa using hd) (by omega)
  refine XF hf (m' := ⟨pend ++ [], [] ++ o', 0 + cn pend, 0 + size t⟩) (w' := 1) (q' := q') ?_ (tkT t true) m00 0 0 0 (by simpa using hs) h1
  simp only [yB, if_true]
  rw [ki pend _ _ _ h3.1, List.append_assoc, h2]
  rfl
theorem read_wr {t : T} (hk : okT t) (hd : (look t).1 ≤ 64) (hn : size t ≤ 65536) : MRun (wr t true) m00 0 0 (yS (wr t true) 0) (.inr (post t)) := by
  have h := (xT t hk).1 true [] sep_nil
  rw [List.append_nil] at h
  exact read_toks hk hd hn h rfl
theorem XD {t : T} {r : (Int × Nat) ⊕ T} (hk : okT t) (hd : (look t).1 ≤ 64) (hn : size t ≤ 65536) (h : kr (wr t true) r) : ∃ x, r = .inr x ∧ post x = post t := by
  have := (kR h).det (read_wr hk hd hn)
  cases r with
  | inl e => cases this
  | inr x => refine ⟨x, rfl, ?_⟩; injection this
end
section
open Go Go.RowKit Go.SL Go.ClauseP Go.LexP

/-! ### Lists and trees -/
theorem kB : ∀ (t : T) (st : List T), okT t → Km st (post t) = some (t :: st)
  | .cst n, st, h => by
    have h : n = 0 ∨ n = 1 := h
    simp [post, Km, YH, h]
  | .var v, st, h => by
    have h : 0 ≤ v ∧ v < 65536 := h
    simp [post, Km, YH, h]
  | .neg a, st, h => by
    simp only [post]
    rw [YP, kB a st h]
    simp [Km, YH]
  | .qu op v a, st, h => by
    obtain ⟨h1, h2, h3, h4⟩ := h
    simp only [post]
    rw [YP, kB a st h4]
    rcases h1 with rfl | rfl <;> simp [Km, YH, h2, h3]
  | .bin op a b, st, h => by
    obtain ⟨h1, h2, h3, h4⟩ := h
    simp only [post]
    rw [YP, YP, kB a st h3]
    simp only [Option.bind_some]
    rw [kB b _ h4]
    simp only [Option.bind_some, Km, YH]
    rw [if_neg (by omega), if_neg (by omega), if_neg (by omega), if_neg (by omega), if_pos ⟨h1, h2, trivial⟩]
  | .ite c a b, st, h => by
    obtain ⟨h1, h2, h3⟩ := h
    simp only [post]
    rw [YP, YP, YP, kB c st h1]
    simp only [Option.bind_some]
    rw [kB a _ h2]
    simp only [Option.bind_some]
    rw [kB b _ h3]
    simp [Km, YH]
theorem post_inj {x y : T} (hx : okT x) (hy : okT y) (h : post x = post y) : x = y := by
  have h1 := kB x [] hx
  have h2 := kB y [] hy
  rw [h, h2] at h1
  injection h1 with h1; injection h1 with h1; exact h1.symm
theorem gc {t : T} (h : okT t) (hs : size t ≤ 65536) : kL (post t) = some t := by
  unfold kL
  rw [YS, if_neg (by omega), kB t [] h]
theorem Ue {t : T} (h : okT t) (hs : size t ≤ 65536) (hd : (look t).1 ≤ 64) : km (post t) = some t := by
  unfold km
  rw [gc h hs]
  simp only [Option.bind_some]
  rw [if_neg (by omega)]

/-! ### What brackets cost -/
def kf (b : Nat) (last : Bool) : T → Bool
  | .qu _ _ _ => !last
  | .bin o _ _ => decide (YI o < b)
  | _ => false
def nB (t : T) (last : Bool) : Nat := (wr t last).count 40
def dp (b : Nat) (last : Bool) (x : T) : Int := if kf b last x then 1 + (look x).1 else lkL x last
def cb (b : Nat) (last : Bool) (x : T) : Nat := if kf b last x then 1 + nB x true else nB x last
def lB (op : Int) : Nat := if op = 9 then 3 else YI op
def rB (op : Int) : Nat := if op = 9 then 2 else YI op + 1
theorem JK (x : T) (last : Bool) : YO 3 0 x last = kf 6 last x := by
  cases x with
  | bin o a b => have := kM o; simp [YO, kf]; omega
  | _ => rfl
theorem Ud {op : Int} (h : 6 ≤ op ∧ op ≤ 10) {x : T} (hx : okT x) (last : Bool) : YO op 0 x last = kf (lB op) last x := by
  cases x with
  | bin o a b =>
    have h1 := Kh op h
    have h2 := Kh o ⟨hx.1, hx.2.1⟩
    unfold lB
    by_cases e : op = 9
    · subst e
      have : kh 9 = 2 := rfl
      simp only [YO, kf, if_true, true_and]
      rw [if_neg (by decide), decide_eq_decide]; omega
    · simp only [YO, kf, e, if_false, false_and, if_true]
      rw [if_neg (by omega), decide_eq_decide]; omega
  | _ => rfl
theorem um {op : Int} (h : 6 ≤ op ∧ op ≤ 10) {x : T} (hx : okT x) (last : Bool) : YO op 1 x last = kf (rB op) last x := by
  cases x with
  | bin o a b =>
    have h1 := Kh op h
    have h2 := Kh o ⟨hx.1, hx.2.1⟩
    unfold rB
    by_cases e : op = 9
    · subst e
      have : kh 9 = 2 := rfl
      simp only [YO, kf, if_true]
      rw [if_neg (by decide), if_neg (by decide), decide_eq_decide]; omega
    · simp only [YO, kf, e, if_false, false_and]
      rw [if_neg (by omega), if_neg (by decide), decide_eq_decide]; omega
  | _ => rfl
theorem uM : ∀ t : T, (look t).2 ≤ 1 + (look t).1
  | .cst _ => by simp [look]
  | .var _ => by simp [look]
  | .neg a => by
    have h := uM a
    simp only [look, cnt, JK]
    cases a <;> simp only [kf, if_true, if_false, Bool.not_true, Bool.not_false, Bool.false_eq_true] <;> (try split) <;> omega
  | .qu _ _ a => by simp only [look]; omega
  | .bin op a b => by
    have h := uM b
    have ha := YC a
    simp only [look, cnt]
    cases b with
    | qu o v x => simp only [YO, Bool.not_true, Bool.not_false, if_true, if_false, Bool.false_eq_true]; split <;> omega
    | bin o x y =>
      have e : ∀ l l', YO op 1 (.bin o x y) l = YO op 1 (.bin o x y) l' := fun _ _ => rfl
      rw [e false true]
      split <;> split <;> (try simp only [if_true, if_false, Bool.false_eq_true]) <;> omega
    | _ => simp only [YO, if_true, if_false, Bool.false_eq_true]; split <;> omega
  | .ite _ _ _ => by simp only [look]; omega
theorem lkL_le (t : T) (last : Bool) : lkL t last ≤ 1 + (look t).1 := by
  have := uM t
  cases last <;> simp only [lkL, if_true, if_false, Bool.false_eq_true] <;> omega
theorem dp_le (b : Nat) (last : Bool) (t : T) : dp b last t ≤ 1 + (look t).1 := by
  have := lkL_le t last
  unfold dp; split <;> omega
theorem Uj {b c : Nat} (h : b ≤ c) (last : Bool) (t : T) (hn : kf b last t = true) : kf c last t = true := by
  cases t <;> simp only [kf, decide_eq_true_eq] at hn ⊢ <;> first | exact hn | omega
theorem Ga {b c : Nat} (h : b ≤ c) (last : Bool) (t : T) : dp b last t ≤ dp c last t := by
  have h1 := lkL_le t last
  unfold dp
  cases hb : kf b last t with
  | true => rw [Uj h last t hb]; exact Int.le_refl _
  | false => simp only [Bool.false_eq_true, if_false]; split <;> omega
theorem UQ (v : Int) (h : 0 ≤ v) : (Lib.itoa v).count 40 = 0 := by
  rw [List.count_eq_zero, JJ v h]
  intro hm
  have := List.all_eq_true.1 (xL v.toNat).1 _ hm
  revert this; decide
theorem Jb (op : Int) : (Yv op).count 40 = 0 := by
  unfold Yv
  (repeat' split) <;> (decide)
theorem xx (op side : Int) (x : T) (last : Bool) : (opd op side x last).count 40 = if YO op side x last then 1 + nB x true else nB x last := by
  unfold opd nB
  split
  · simp; omega
  · rfl
theorem B_chain {t : T} (h : okT t) (op : Int) : (kE op t).count 40 = nB t true := by
  cases t with
  | qu o v a =>
    by_cases e : op = o
    · subst e
      rw [KF, nB, uc]
      have := Jb op
      simp [List.count_append, this, List.count_cons]
    · rw [kC (by simp [jw]; exact fun x => e x.symm), nB]; simp [List.count_cons]
  | _ => rw [kC rfl, nB]; simp [List.count_cons]
theorem B_neg (a : T) (last : Bool) : nB (.neg a) last = cb 6 last a := by
  have := xx 3 0 a last
  rw [JK] at this
  rw [nB, jH, List.count_append, this]; simp [cb]
theorem B_bin {op : Int} {a b : T} (h : okT (.bin op a b)) (last : Bool) : nB (.bin op a b) last = cb (lB op) false a + cb (rB op) last b := by
  have h1 := xx op 0 a false
  have h2 := xx op 1 b last
  rw [Ud ⟨h.1, h.2.1⟩ h.2.2.1] at h1
  rw [um ⟨h.1, h.2.1⟩ h.2.2.2] at h2
  rw [nB, jB, List.count_append, List.count_append, h1, h2, Jb]; simp [cb]
theorem B_qu {op v : Int} {a : T} (h : okT (.qu op v a)) (last : Bool) : nB (.qu op v a) last = nB a true := by
  rw [nB, uc, List.count_append, List.count_append, List.count_append, B_chain h.2.2.2, Jb, UQ v h.2.1]; simp
theorem B_ite (c a b : T) (last : Bool) : nB (.ite c a b) last = 1 + nB c true + nB a true + nB b true := by
  simp only [nB, Jf, List.count_append, List.count_cons, List.count_nil]; simp
theorem cb_ft {b : Nat} {x : T} (h : nB x false ≤ 1 + nB x true) : cb b false x ≤ 1 + cb b true x := by
  unfold cb
  cases kf b false x <;> cases kf b true x <;> simp only [if_true, if_false, Bool.false_eq_true] <;> omega
theorem B2_le : ∀ t : T, okT t → nB t false ≤ 1 + nB t true
  | .cst _, _ => by simp [nB, ua]
  | .var _, _ => by simp [nB, Jh]
  | .neg a, h => by
    rw [B_neg, B_neg]
    exact cb_ft (B2_le a h)
  | .qu _ _ a, h => by rw [B_qu h, B_qu h]; omega
  | .bin op a b, h => by
    have h1 := cb_ft (b := rB op) (B2_le b h.2.2.2)
    rw [B_bin h, B_bin h]; omega
  | .ite _ _ _, _ => by rw [B_ite, B_ite]; omega
theorem BL_le {t : T} (h : okT t) (last : Bool) : nB t last ≤ 1 + nB t true := by
  have := B2_le t h
  cases last <;> omega
theorem cb_le {t : T} (h : okT t) (b : Nat) (last : Bool) : cb b last t ≤ 1 + nB t true := by
  have := BL_le h last
  unfold cb; split <;> omega
theorem Gg {b c : Nat} (h : b ≤ c) (last : Bool) {t : T} (ht : okT t) : cb b last t ≤ cb c last t := by
  have h1 := BL_le ht last
  unfold cb
  cases hb : kf b last t with
  | true => rw [Uj h last t hb]; exact Nat.le_refl _
  | false => simp only [Bool.false_eq_true, if_false]; split <;> omega
theorem dp_neg (a : T) (b : Nat) (last : Bool) : dp b last (.neg a) = 1 + dp 6 last a := by
  have e : kf b last (.neg a) = false := rfl
  rw [dp, e, dp]
  cases last <;> simp only [lkL, look, cnt, JK, if_true, if_false, Bool.false_eq_true]
theorem dp_bin {op : Int} {a b : T} (h : okT (.bin op a b)) {k : Nat} (hk : k ≤ YI op) (last : Bool) : dp k last (.bin op a b) = max (dp (lB op) false a) (dp (rB op) last b) := by
  have e : kf k last (.bin op a b) = false := by simp only [kf, decide_eq_false_iff_not]; omega
  have e1 : cnt op 0 a false (look a) = dp (lB op) false a := by
    unfold cnt dp lkL; rw [Ud ⟨h.1, h.2.1⟩ h.2.2.1]
  have e2 : cnt op 1 b last (look b) = dp (rB op) last b := by
    unfold cnt dp lkL; rw [um ⟨h.1, h.2.1⟩ h.2.2.2]
  rw [← e1, ← e2, dp, e]
  cases last <;> simp only [lkL, look, if_true, if_false, Bool.false_eq_true]
theorem cb_bin {op : Int} {a b : T} (h : okT (.bin op a b)) {k : Nat} (hk : k ≤ YI op) (last : Bool) : cb k last (.bin op a b) = cb (lB op) false a + cb (rB op) last b := by
  have e : kf k last (.bin op a b) = false := by simp only [kf, decide_eq_false_iff_not]; omega
  rw [cb, e, ← B_bin h last]; rfl
theorem dp1 (x : T) : dp 1 true x = (look x).1 := by
  unfold dp
  have : kf 1 true x = false := by
    cases x with
    | bin o a b => have := kM o; simp only [kf, decide_eq_false_iff_not]; omega
    | _ => rfl
  rw [this]; rfl
theorem cb1 (x : T) : cb 1 true x = nB x true := by
  unfold cb
  have : kf 1 true x = false := by
    cases x with
    | bin o a b => have := kM o; simp only [kf, decide_eq_false_iff_not]; omega
    | _ => rfl
  rw [this]; rfl
end
section
open Go Go.RowKit Go.SL Go.ClauseP Go.LexP

def jt : T := .bin 7 (.bin 6 (.var 0) (.var 1)) (.neg (.var 2))
def aliveB : List UInt8 := [120, 48, 32, 38, 32, 120, 49, 32, 124, 32, 33, 120, 50]
def aliveL : List (Int × Int) := [(2, 0), (2, 1), (6, 0), (2, 2), (3, 0), (7, 0)]
theorem uR (n : Nat) (h : n < 10) : Lib.itoa (n : Int) = [UInt8.ofNat (48 + n)] := by
  rw [JJ _ (by omega), Int.toNat_natCast, Lib.decDigits_one h]
theorem XJ : wr jt true = aliveB := by
  have h0 := uR 0 (by omega)
  have h1 := uR 1 (by omega)
  have h2 := uR 2 (by omega)
  have h0 : Lib.itoa 0 = [48] := h0
  have h1 : Lib.itoa 1 = [49] := h1
  have h2 : Lib.itoa 2 = [50] := h2
  simp [jt, aliveB, jB, jH, Jh, opd, YO, kh, Yv, h0, h1, h2]
theorem Xv : okT jt := by simp [jt, okT]
theorem uB : (look jt).1 ≤ 64 := by simp [jt, look, cnt, YO, kh]; omega
theorem uP : size jt ≤ 65536 := by simp [jt, size]
theorem xn : ke aliveL = (aliveB, 0) := by
  have h : km aliveL = some jt := Ue Xv uP uB
  unfold ke
  rw [h]
  simp only [XJ]
  rfl
theorem Xk {r : (Int × Nat) ⊕ T} (h : kr aliveB r) : ut r = .inr aliveL := by
  rw [← XJ] at h
  obtain ⟨x, rfl, hx⟩ := XD Xv uB uP h
  show Sum.inr (post x) = _
  rw [hx]; rfl
end
section
set_option maxRecDepth 20000
open Go Go.RowKit Go.SL

set_option maxHeartbeats 4000000 in
theorem ar0   (w0 w : World) (Hs : List HP) (hS : Sat w0 w Hs) : Calls Tryz.prog 68 #[.agg #[.int .i64 1, .int .i64 0]] w fun e w' => e = .returned (.int .i64 (0)) ∧ Sat w0 w' Hs := by
    go_enter Tryz.func68, Tryz.ntmps68
    go_wp2_with (((with_reducible apply yY hS);exact ya;exact yb rfl;exact yt;clear hS;intro NB w hS;(try simp only [Act.put,q1,q2,q3]));have c0 := hS.cell yf (off := 0) rfl;have c1 := hS.cell yf (off := 1) rfl)
    go_ret
    exact ⟨rfl, hS.drop⟩
set_option maxHeartbeats 4000000 in
theorem ar1   (w0 w : World) (Hs : List HP) (hS : Sat w0 w Hs) : Calls Tryz.prog 68 #[.agg #[.int .i64 1, .int .i64 1]] w fun e w' => e = .returned (.int .i64 (0)) ∧ Sat w0 w' Hs := by
    go_enter Tryz.func68, Tryz.ntmps68
    go_wp2_with (((with_reducible apply yY hS);exact ya;exact yb rfl;exact yt;clear hS;intro NB w hS;(try simp only [Act.put,q1,q2,q3]));have c0 := hS.cell yf (off := 0) rfl;have c1 := hS.cell yf (off := 1) rfl)
    go_ret
    exact ⟨rfl, hS.drop⟩
set_option maxHeartbeats 4000000 in
theorem ar2 (n : Int) (g0 : (n == 0) = false) (g1 : (n == 1) = false) (w0 w : World) (Hs : List HP) (hS : Sat w0 w Hs) : Calls Tryz.prog 68 #[.agg #[.int .i64 1, .int .i64 n]] w fun e w' => e = .returned (.int .i64 (-1)) ∧ Sat w0 w' Hs := by
    go_enter Tryz.func68, Tryz.ntmps68
    go_wp2_with (((with_reducible apply yY hS);exact ya;exact yb rfl;exact yt;clear hS;intro NB w hS;(try simp only [Act.put,q1,q2,q3]));have c0 := hS.cell yf (off := 0) rfl;have c1 := hS.cell yf (off := 1) rfl)
    go_ret
    exact ⟨rfl, hS.drop⟩
set_option maxHeartbeats 4000000 in
theorem ar3 (n : Int) (g : decide (0 ≤ n) = false) (w0 w : World) (Hs : List HP) (hS : Sat w0 w Hs) : Calls Tryz.prog 68 #[.agg #[.int .i64 2, .int .i64 n]] w fun e w' => e = .returned (.int .i64 (-1)) ∧ Sat w0 w' Hs := by
    go_enter Tryz.func68, Tryz.ntmps68
    go_wp2_with (((with_reducible apply yY hS);exact ya;exact yb rfl;exact yt;clear hS;intro NB w hS;(try simp only [Act.put,q1,q2,q3]));have c0 := hS.cell yf (off := 0) rfl;have c1 := hS.cell yf (off := 1) rfl)
    go_ret
    exact ⟨rfl, hS.drop⟩
set_option maxHeartbeats 4000000 in
theorem ar4 (n : Int) (g : decide (0 ≤ n) = true) (g2 : decide (n < 65536) = true) (w0 w : World) (Hs : List HP) (hS : Sat w0 w Hs) : Calls Tryz.prog 68 #[.agg #[.int .i64 2, .int .i64 n]] w fun e w' => e = .returned (.int .i64 (0)) ∧ Sat w0 w' Hs := by
    go_enter Tryz.func68, Tryz.ntmps68
    go_wp2_with (((with_reducible apply yY hS);exact ya;exact yb rfl;exact yt;clear hS;intro NB w hS;(try simp only [Act.put,q1,q2,q3]));have c0 := hS.cell yf (off := 0) rfl;have c1 := hS.cell yf (off := 1) rfl)
    go_ret
    exact ⟨rfl, hS.drop⟩
set_option maxHeartbeats 4000000 in
theorem ar5 (n : Int) (g : decide (0 ≤ n) = true) (g2 : decide (n < 65536) = false) (w0 w : World) (Hs : List HP) (hS : Sat w0 w Hs) : Calls Tryz.prog 68 #[.agg #[.int .i64 2, .int .i64 n]] w fun e w' => e = .returned (.int .i64 (-1)) ∧ Sat w0 w' Hs := by
    go_enter Tryz.func68, Tryz.ntmps68
    go_wp2_with (((with_reducible apply yY hS);exact ya;exact yb rfl;exact yt;clear hS;intro NB w hS;(try simp only [Act.put,q1,q2,q3]));have c0 := hS.cell yf (off := 0) rfl;have c1 := hS.cell yf (off := 1) rfl)
    go_ret
    exact ⟨rfl, hS.drop⟩
set_option maxHeartbeats 4000000 in
theorem ar6   (w0 w : World) (Hs : List HP) (hS : Sat w0 w Hs) : Calls Tryz.prog 68 #[.agg #[.int .i64 3, .int .i64 0]] w fun e w' => e = .returned (.int .i64 (1)) ∧ Sat w0 w' Hs := by
    go_enter Tryz.func68, Tryz.ntmps68
    go_wp2_with (((with_reducible apply yY hS);exact ya;exact yb rfl;exact yt;clear hS;intro NB w hS;(try simp only [Act.put,q1,q2,q3]));have c0 := hS.cell yf (off := 0) rfl;have c1 := hS.cell yf (off := 1) rfl)
    go_ret
    exact ⟨rfl, hS.drop⟩
end
section
set_option maxRecDepth 20000
open Go Go.RowKit Go.SL

set_option maxHeartbeats 4000000 in
theorem ar7 (n : Int) (g0 : (n == 0) = false) (w0 w : World) (Hs : List HP) (hS : Sat w0 w Hs) : Calls Tryz.prog 68 #[.agg #[.int .i64 3, .int .i64 n]] w fun e w' => e = .returned (.int .i64 (-1)) ∧ Sat w0 w' Hs := by
    go_enter Tryz.func68, Tryz.ntmps68
    go_wp2_with (((with_reducible apply yY hS);exact ya;exact yb rfl;exact yt;clear hS;intro NB w hS;(try simp only [Act.put,q1,q2,q3]));have c0 := hS.cell yf (off := 0) rfl;have c1 := hS.cell yf (off := 1) rfl)
    go_ret
    exact ⟨rfl, hS.drop⟩
set_option maxHeartbeats 4000000 in
theorem ar8 (n : Int) (g : decide (0 ≤ n) = false) (w0 w : World) (Hs : List HP) (hS : Sat w0 w Hs) : Calls Tryz.prog 68 #[.agg #[.int .i64 4, .int .i64 n]] w fun e w' => e = .returned (.int .i64 (-1)) ∧ Sat w0 w' Hs := by
    go_enter Tryz.func68, Tryz.ntmps68
    go_wp2_with (((with_reducible apply yY hS);exact ya;exact yb rfl;exact yt;clear hS;intro NB w hS;(try simp only [Act.put,q1,q2,q3]));have c0 := hS.cell yf (off := 0) rfl;have c1 := hS.cell yf (off := 1) rfl)
    go_ret
    exact ⟨rfl, hS.drop⟩
set_option maxHeartbeats 4000000 in
theorem ar9 (n : Int) (g : decide (0 ≤ n) = true) (g2 : decide (n < 65536) = true) (w0 w : World) (Hs : List HP) (hS : Sat w0 w Hs) : Calls Tryz.prog 68 #[.agg #[.int .i64 4, .int .i64 n]] w fun e w' => e = .returned (.int .i64 (1)) ∧ Sat w0 w' Hs := by
    go_enter Tryz.func68, Tryz.ntmps68
    go_wp2_with (((with_reducible apply yY hS);exact ya;exact yb rfl;exact yt;clear hS;intro NB w hS;(try simp only [Act.put,q1,q2,q3]));have c0 := hS.cell yf (off := 0) rfl;have c1 := hS.cell yf (off := 1) rfl)
    go_ret
    exact ⟨rfl, hS.drop⟩
set_option maxHeartbeats 4000000 in
theorem ar10 (n : Int) (g : decide (0 ≤ n) = true) (g2 : decide (n < 65536) = false) (w0 w : World) (Hs : List HP) (hS : Sat w0 w Hs) : Calls Tryz.prog 68 #[.agg #[.int .i64 4, .int .i64 n]] w fun e w' => e = .returned (.int .i64 (-1)) ∧ Sat w0 w' Hs := by
    go_enter Tryz.func68, Tryz.ntmps68
    go_wp2_with (((with_reducible apply yY hS);exact ya;exact yb rfl;exact yt;clear hS;intro NB w hS;(try simp only [Act.put,q1,q2,q3]));have c0 := hS.cell yf (off := 0) rfl;have c1 := hS.cell yf (off := 1) rfl)
    go_ret
    exact ⟨rfl, hS.drop⟩
set_option maxHeartbeats 4000000 in
theorem ar11 (n : Int) (g : decide (0 ≤ n) = false) (w0 w : World) (Hs : List HP) (hS : Sat w0 w Hs) : Calls Tryz.prog 68 #[.agg #[.int .i64 5, .int .i64 n]] w fun e w' => e = .returned (.int .i64 (-1)) ∧ Sat w0 w' Hs := by
    go_enter Tryz.func68, Tryz.ntmps68
    go_wp2_with (((with_reducible apply yY hS);exact ya;exact yb rfl;exact yt;clear hS;intro NB w hS;(try simp only [Act.put,q1,q2,q3]));have c0 := hS.cell yf (off := 0) rfl;have c1 := hS.cell yf (off := 1) rfl)
    go_ret
    exact ⟨rfl, hS.drop⟩
set_option maxHeartbeats 4000000 in
theorem ar12 (n : Int) (g : decide (0 ≤ n) = true) (g2 : decide (n < 65536) = true) (w0 w : World) (Hs : List HP) (hS : Sat w0 w Hs) : Calls Tryz.prog 68 #[.agg #[.int .i64 5, .int .i64 n]] w fun e w' => e = .returned (.int .i64 (1)) ∧ Sat w0 w' Hs := by
    go_enter Tryz.func68, Tryz.ntmps68
    go_wp2_with (((with_reducible apply yY hS);exact ya;exact yb rfl;exact yt;clear hS;intro NB w hS;(try simp only [Act.put,q1,q2,q3]));have c0 := hS.cell yf (off := 0) rfl;have c1 := hS.cell yf (off := 1) rfl)
    go_ret
    exact ⟨rfl, hS.drop⟩
set_option maxHeartbeats 4000000 in
theorem ar13 (n : Int) (g : decide (0 ≤ n) = true) (g2 : decide (n < 65536) = false) (w0 w : World) (Hs : List HP) (hS : Sat w0 w Hs) : Calls Tryz.prog 68 #[.agg #[.int .i64 5, .int .i64 n]] w fun e w' => e = .returned (.int .i64 (-1)) ∧ Sat w0 w' Hs := by
    go_enter Tryz.func68, Tryz.ntmps68
    go_wp2_with (((with_reducible apply yY hS);exact ya;exact yb rfl;exact yt;clear hS;intro NB w hS;(try simp only [Act.put,q1,q2,q3]));have c0 := hS.cell yf (off := 0) rfl;have c1 := hS.cell yf (off := 1) rfl)
    go_ret
    exact ⟨rfl, hS.drop⟩
end
end Go.Proofs.YthackanffcaejaaGreatDoor
