/- A formula's text in other spellings reads as the same formula: plain Lean. -/
import Derived.Test.YthackanffcaejaaGreatDoorS1
import Derived.Test.YthackanffcaejaaGreatDoorSBk8
set_option linter.unusedSimpArgs false
set_option linter.unusedVariables false
namespace Go.Proofs.YthackanffcaejaaGreatDoor
open Go Go.RowKit Go.SL Go.ClauseP Go.LexP

theorem spell_head {rev : Bool} {c : UInt8} {cs : List UInt8} {p : List UInt8 × List UInt8} (h : spellW rev (c :: cs) = some p) : p ∈ pairs13 ∧ p.1.head? = some c := by
  unfold spellW at h
  have hm := List.mem_of_find?_eq_some h
  have hp := List.find?_some h
  have hm2 : p ∈ pairs13 := by cases rev <;> simpa using hm
  refine ⟨hm2, ?_⟩
  simp only [pairs13, List.mem_cons, List.not_mem_nil, or_false] at hm2
  rcases hm2 with rfl | rfl | rfl | rfl | rfl | rfl | rfl | rfl | rfl | rfl | rfl | rfl | rfl <;> (simp [List.isPrefixOf] at hp; simp [hp])
theorem sep_resp (X : Nat → Dec) {r : List UInt8} (h : Sep r) (k : Nat) : Sep (resp X r k) := by
  cases r with
  | nil => rw [resp_nil]; exact sep_nil
  | cons c cs =>
    have hc := h c rfl
    rw [resp]
    have key : ∃ d l, (stepR (X k) (c :: cs)).1 = d :: l ∧ ldP d = false := by
      by_cases h32 : c = 32
      · simp only [stepR, if_pos h32]
        unfold blank4
        split <;> exact ⟨_, _, rfl, by decide⟩
      · simp only [stepR, if_neg h32]
        cases hp : spellW (X k).rev (c :: cs) with
        | some p =>
          obtain ⟨h1, h2⟩ := spell_head hp
          dsimp only
          clear hp
          simp only [pairs13, List.mem_cons, List.not_mem_nil, or_false] at h1
          rcases h1 with rfl | rfl | rfl | rfl | rfl | rfl | rfl | rfl | rfl | rfl | rfl | rfl | rfl <;> (simp only [List.head?_cons, Option.some.injEq] at h2; subst h2; first | (exfalso; revert hc; decide) | (split <;> exact ⟨_, _, rfl, by decide⟩))
        | none =>
          have hlow : ¬ (97 ≤ c && c ≤ 122) = true := by
            intro h1
            have : ldP c = true := by simp only [Bool.and_eq_true] at h1; simp [ldP, letP, h1.1, h1.2]
            rw [this] at hc; cases hc
          dsimp only
          rw [if_neg hlow]
          exact ⟨_, _, rfl, hc⟩
    obtain ⟨d, l, h1, h2⟩ := key
    rw [h1]
    exact sep_cons h2
section
variable (X : Nat → Dec)
theorem rt_op (op : Int) (h : 6 ≤ op ∧ op ≤ 10) (r : List UInt8) : RT X (spellP op ++ r) [.op op] r := by
  have b := fun {u : List UInt8} (hs : RT X (u ++ 32 :: r) [.op op] (32 :: r)) => ((RT.blank X (u ++ 32 :: r)).app hs).app (RT.blank X r)
  have : op = 6 ∨ op = 7 ∨ op = 8 ∨ op = 9 ∨ op = 10 := by omega
  rcases this with rfl | rfl | rfl | rfl | rfl
  · exact b (u := [38]) (RT.sign (u := [38]) (by simp) (by decide) _ (fun rev => ⟨[226, 136, 167], by cases rev <;> rfl, by decide, fun z => rfl⟩) fun z => rfl)
  · exact b (u := [124]) (RT.sign (u := [124]) (by simp) (by decide) _ (fun rev => ⟨[226, 136, 168], by cases rev <;> rfl, by decide, fun z => rfl⟩) fun z => rfl)
  · exact b (u := [94]) (RT.sign (u := [94]) (by simp) (by decide) _ (fun rev => ⟨[226, 138, 149], by cases rev <;> rfl, by decide, fun z => rfl⟩) fun z => rfl)
  · exact b (u := [45, 62]) (RT.sign (u := [45, 62]) (by simp) (by decide) _ (fun rev => ⟨[226, 134, 146], by cases rev <;> rfl, by decide, fun z => rfl⟩) fun z => rfl)
  · exact b (u := [60, 45, 62]) (RT.sign (u := [60, 45, 62]) (by simp) (by decide) _ (fun rev => ⟨[226, 134, 148], by cases rev <;> rfl, by decide, fun z => rfl⟩) fun z => rfl)
theorem rt_quant (op : Int) (h : op = 4 ∨ op = 5) (r : List UInt8) : RT X (spellP op ++ r) [.quant op] r := by
  rcases h with rfl | rfl
  · have h1 := RT.spelt (X := X) (u := [101, 120, 105, 115, 116, 115]) (r := 32 :: r) (tk := .quant 4) (by simp) (by decide) (fun rev => ⟨[226, 136, 131], by cases rev <;> rfl, fun z => rfl⟩) exists_next (fun k => sep_resp X (sep32 r) k)
    exact h1.app (RT.blank X r)
  · have h1 := RT.spelt (X := X) (u := [102, 111, 114, 97, 108, 108]) (r := 32 :: r) (tk := .quant 5) (by simp) (by decide) (fun rev => ⟨[226, 136, 128], by cases rev <;> rfl, fun z => rfl⟩) forall_next (fun k => sep_resp X (sep32 r) k)
    exact h1.app (RT.blank X r)
theorem rt_const (n : Int) (h : n = 0 ∨ n = 1) (r : List UInt8) (hr : Sep r) : RT X ((if n = 1 then [116, 114, 117, 101] else [102, 97, 108, 115, 101]) ++ r) [.const n] r := by
  rcases h with rfl | rfl
  · exact RT.spelt (X := X) (u := [102, 97, 108, 115, 101]) (r := r) (tk := .const 0) (by simp) (by decide) (fun rev => by
      cases rev
      · exact ⟨[48], rfl, fun z => rfl⟩
      · exact ⟨[226, 138, 165], rfl, fun z => rfl⟩) false_next (fun k => sep_resp X hr k)
  · exact RT.spelt (X := X) (u := [116, 114, 117, 101]) (r := r) (tk := .const 1) (by simp) (by decide) (fun rev => by
      cases rev
      · exact ⟨[49], rfl, fun z => rfl⟩
      · exact ⟨[226, 138, 164], rfl, fun z => rfl⟩) true_next (fun k => sep_resp X hr k)
theorem rt_var (v : Int) (h0 : 0 ≤ v) (h : v < 65536) (r : List UInt8) (hr : Sep r) : RT X ([120] ++ Lib.itoa v ++ r) [.var v] r := by
  refine RT.word (X := X) (c := 120) (w := Lib.itoa v) (r := r) (tk := .var v) (by decide) (fun rev => by cases rev <;> rfl) (fun d hd => ?_) hr (fun z hz => var_next v h0 h z hz) (fun k => sep_resp X hr k)
  rcases List.mem_cons.1 hd with rfl | hd
  · decide
  · rw [itoa_dec v h0] at hd
    exact low_of_digit (List.all_eq_true.1 (dec_ok v.toNat).1 d hd)
theorem rt_ite (r : List UInt8) (hr : Sep r) : RT X ([105, 116, 101] ++ r) [.ite] r :=
  RT.word (X := X) (c := 105) (w := [116, 101]) (r := r) (tk := .ite) (by decide) (fun rev => by cases rev <;> rfl) (by decide) hr ite_next (fun k => sep_resp X hr k)
theorem rt_not (r : List UInt8) : RT X (33 :: r) [.not] r :=
  RT.sign (X := X) (u := [33]) (by simp) (by decide) r (fun rev => by
    cases rev
    · exact ⟨[126], rfl, by decide, fun z => rfl⟩
    · exact ⟨[194, 172], rfl, by decide, fun z => rfl⟩) fun z => rfl
theorem rt_opn (r : List UInt8) : RT X (40 :: r) [.opn] r := RT.plain r (by decide) (by decide) (fun rev => by cases rev <;> rfl) fun z => rfl
theorem rt_cls (r : List UInt8) : RT X (41 :: r) [.cls] r := RT.plain r (by decide) (by decide) (fun rev => by cases rev <;> rfl) fun z => rfl
theorem rt_comma (r : List UInt8) : RT X (44 :: r) [.comma] r := RT.plain r (by decide) (by decide) (fun rev => by cases rev <;> rfl) fun z => rfl
theorem rt_colon (r : List UInt8) : RT X (58 :: r) [.colon] r := RT.plain r (by decide) (by decide) (fun rev => by cases rev <;> rfl) fun z => rfl
def LexR (t : T) : Prop := (∀ last r, Sep r → RT X (wr t last ++ r) (tkT t last) r) ∧ ∀ op r, Sep r → Sep (chain op t ++ r) ∧ RT X (chain op t ++ r) (chainK op t) r
theorem lexR_end {t : T} (h : ∀ last r, Sep r → RT X (wr t last ++ r) (tkT t last) r) {op : Int} (hq : isQu op t = false) (r : List UInt8) (hr : Sep r) : Sep (chain op t ++ r) ∧ RT X (chain op t ++ r) (chainK op t) r := by
  rw [chain_end hq, chainK_end hq]
  exact ⟨sep58 _, ((rt_colon X _).app (RT.blank X _)).app (h true r hr)⟩
theorem lexR_opd {x : T} (h : LexR X x) (op side : Int) (last : Bool) (r : List UInt8) (hr : Sep r) : RT X (opd op side x last ++ r) (opdK op side x last) r := by
  unfold opd opdK
  split
  · have e : [40] ++ wr x true ++ [41] ++ r = 40 :: (wr x true ++ 41 :: r) := by simp
    rw [e]
    exact ((rt_opn X _).app (h.1 true _ (sep41 r))).app (rt_cls X r)
  · exact h.1 last r hr
theorem lexR : ∀ t : T, okT t → LexR X t
  | .cst n, h => by
    have h1 : ∀ last r, Sep r → RT X (wr (.cst n) last ++ r) (tkT (.cst n) last) r := by
      intro last r hr
      rw [wr_cst, tkT_cst]
      exact rt_const X n h r hr
    exact ⟨h1, fun op r hr => lexR_end X h1 rfl r hr⟩
  | .var v, h => by
    have h1 : ∀ last r, Sep r → RT X (wr (.var v) last ++ r) (tkT (.var v) last) r := by
      intro last r hr
      rw [wr_var, tkT_var]
      exact rt_var X v h.1 h.2 r hr
    exact ⟨h1, fun op r hr => lexR_end X h1 rfl r hr⟩
  | .neg a, h => by
    have ih := lexR a h
    have h1 : ∀ last r, Sep r → RT X (wr (.neg a) last ++ r) (tkT (.neg a) last) r := by
      intro last r hr
      rw [wr_neg, tkT_neg]
      exact (rt_not X _).app (lexR_opd X ih 3 0 last r hr)
    exact ⟨h1, fun op r hr => lexR_end X h1 rfl r hr⟩
  | .qu op v a, h => by
    have ih := lexR a h.2.2.2
    have h1 : ∀ last r, Sep r → RT X (wr (.qu op v a) last ++ r) (tkT (.qu op v a) last) r := by
      intro last r hr
      rw [wr_qu, tkT_qu]
      obtain ⟨k1, k2⟩ := ih.2 op r hr
      have e : spellP op ++ [120] ++ Lib.itoa v ++ chain op a ++ r = spellP op ++ ([120] ++ Lib.itoa v ++ (chain op a ++ r)) := by simp
      rw [e]
      exact ((rt_quant X op h.1 _).app (rt_var X v h.2.1 h.2.2.1 _ k1)).app k2
    refine ⟨h1, fun op' r hr => ?_⟩
    by_cases e : op' = op
    · subst e
      rw [chain_same, chainK_same]
      obtain ⟨k1, k2⟩ := ih.2 op' r hr
      have e : [44, 32, 120] ++ Lib.itoa v ++ chain op' a ++ r = 44 :: 32 :: ([120] ++ Lib.itoa v ++ (chain op' a ++ r)) := by simp
      rw [e]
      exact ⟨sep44 _, (((rt_comma X _).app (RT.blank X _)).app (rt_var X v h.2.1 h.2.2.1 _ k1)).app k2⟩
    · exact lexR_end X h1 (by simp [isQu]; exact fun x => e x.symm) r hr
  | .bin op a b, h => by
    have ih := lexR a h.2.2.1
    have ih2 := lexR b h.2.2.2
    have h1 : ∀ last r, Sep r → RT X (wr (.bin op a b) last ++ r) (tkT (.bin op a b) last) r := by
      intro last r hr
      rw [wr_bin, tkT_bin]
      have k2 := lexR_opd X ih2 op 1 last r hr
      obtain ⟨⟨x, hx⟩, _⟩ := spell_toks op ⟨h.1, h.2.1⟩ (opd op 1 b last ++ r)
      have k3 := rt_op X op ⟨h.1, h.2.1⟩ (opd op 1 b last ++ r)
      have e : opd op 0 a false ++ spellP op ++ opd op 1 b last ++ r = opd op 0 a false ++ (spellP op ++ (opd op 1 b last ++ r)) := by simp
      rw [e]
      exact ((lexR_opd X ih op 0 false _ (by rw [hx]; exact sep32 x)).app k3).app k2
    exact ⟨h1, fun op r hr => lexR_end X h1 rfl r hr⟩
  | .ite c a b, h => by
    have ic := lexR c h.1
    have ia := lexR a h.2.1
    have ib := lexR b h.2.2
    have h1 : ∀ last r, Sep r → RT X (wr (.ite c a b) last ++ r) (tkT (.ite c a b) last) r := by
      intro last r hr
      rw [wr_ite, tkT_ite]
      have e : [105, 116, 101, 40] ++ wr c true ++ [44, 32] ++ wr a true ++ [44, 32] ++ wr b true ++ [41] ++ r = [105, 116, 101] ++ 40 :: (wr c true ++ 44 :: 32 :: (wr a true ++ 44 :: 32 :: (wr b true ++ 41 :: r))) := by simp
      have e2 : [Tk.ite, .opn] ++ tkT c true ++ [.comma] ++ tkT a true ++ [.comma] ++ tkT b true ++ [.cls] = [Tk.ite] ++ ([.opn] ++ (tkT c true ++ (([.comma] ++ []) ++ (tkT a true ++ (([.comma] ++ []) ++ (tkT b true ++ [.cls])))))) := by simp
      rw [e, e2]
      have k1 := (ib.1 true (41 :: r) (sep41 r)).app (rt_cls X r)
      have k2 := (ia.1 true (44 :: 32 :: (wr b true ++ 41 :: r)) (sep44 _)).app (((rt_comma X _).app (RT.blank X _)).app k1)
      have k3 := (ic.1 true (44 :: 32 :: (wr a true ++ 44 :: 32 :: (wr b true ++ 41 :: r))) (sep44 _)).app (((rt_comma X _).app (RT.blank X _)).app k2)
      exact (rt_ite X _ (sep40 _)).app ((rt_opn X _).app k3)
    exact ⟨h1, fun op r hr => lexR_end X h1 rfl r hr⟩
/-- A printed text, respelt, reads as its formula. -/
theorem respelt_parse {fs : List (Int × Int)} {t : T} (h : treeP fs = some t) {r : (Int × Nat) ⊕ T} (hr : ParseR (resp X (wr t true) 0) r) : ansT r = .inr fs := by
  obtain ⟨h1, h2, h3, h4⟩ := formed_of h
  obtain ⟨k', hk⟩ := (lexR X t h1).1 true [] sep_nil 0
  rw [List.append_nil, resp_nil] at hk
  have := (parse_law hr).det (read_toks h1 h2 h3 hk rfl)
  rw [this, h4]
end
end Go.Proofs.YthackanffcaejaaGreatDoor
