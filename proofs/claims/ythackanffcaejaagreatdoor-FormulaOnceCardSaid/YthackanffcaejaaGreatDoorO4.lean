/- A part of the proof: Cl3 Spot Cl4 Lex Lx1 Lx2. -/
import Derived.Test.YthackanffcaejaaGreatDoorO1
import Derived.Test.YthackanffcaejaaGreatDoorO2
import Derived.Test.YthackanffcaejaaGreatDoorO3
import Derived.Lib.LastIndexByte
set_option linter.unusedSimpArgs false
set_option linter.unusedVariables false
set_option linter.unusedSectionVars false
namespace Go.Proofs.YthackanffcaejaaGreatDoor
section
set_option maxRecDepth 20000
open Go Go.RowKit Go.SL Go.ClauseP
theorem KP (c : UInt8) : (Yn c = true → (48 : Int) ≤ (c.toNat : Int) ∧ (c.toNat : Int) ≤ 57) ∧ (Yn c = false → (c.toNat : Int) < 48 ∨ 57 < (c.toNat : Int)) := by
  constructor
  · intro h; have := uz h; omega
  · intro h
    by_cases h2 : 48 ≤ c.toNat ∧ c.toNat ≤ 57
    · have : Yn c = true := by simp only [Yn, Bool.and_eq_true, decide_eq_true_eq, UInt8.le_iff_toNat_le]; exact h2
      rw [this] at h; cases h
    · omega
theorem Uo (c : UInt8) (w0 w : World) (Hs : List HP) (hS : Sat w0 w Hs) : Calls Tryz.prog 121 #[.int .u8 c.toNat] w fun e w' => e = .returned (.bool (Yn c)) ∧ Sat w0 w' Hs := by
  obtain ⟨h1, h2⟩ := KP c
  cases hd : Yn c with
  | true =>
    obtain ⟨a, b⟩ := h1 hd
    clear h1 h2 hd
    generalize (c.toNat : Int) = n at *
    go_enter Tryz.func121, Tryz.ntmps121
    go_wp2
    go_ret
    exact ⟨rfl, hS⟩
  | false =>
    have h := h2 hd
    clear h1 h2 hd
    generalize (c.toNat : Int) = n at *
    by_cases h48 : n < 48
    · have e1 : decide ((48 : Int) ≤ n) = false := by simp; omega
      go_enter Tryz.func121, Tryz.ntmps121
      go_wp2
      go_ret
      exact ⟨rfl, hS⟩
    · have h57 : decide (n ≤ 57) = false := by simp; omega
      have h48' : 48 ≤ n := by omega
      clear h h48
      go_enter Tryz.func121, Tryz.ntmps121
      go_wp2
      go_ret
      exact ⟨rfl, hS⟩
theorem jG (c : UInt8) (w0 w : World) (Hs : List HP) (hS : Sat w0 w Hs) : Calls Tryz.prog 87 #[.int .u8 c.toNat] w fun e w' => e = .returned (.bool (Yn c)) ∧ Sat w0 w' Hs := by
  obtain ⟨h1, h2⟩ := KP c
  cases hd : Yn c with
  | true =>
    obtain ⟨a, b⟩ := h1 hd
    clear h1 h2 hd
    generalize (c.toNat : Int) = n at *
    go_enter Tryz.func87, Tryz.ntmps87
    go_wp2
    go_ret
    exact ⟨rfl, hS⟩
  | false =>
    have h := h2 hd
    clear h1 h2 hd
    generalize (c.toNat : Int) = n at *
    by_cases h48 : n < 48
    · have e1 : decide ((48 : Int) ≤ n) = false := by simp; omega
      go_enter Tryz.func87, Tryz.ntmps87
      go_wp2
      go_ret
      exact ⟨rfl, hS⟩
    · have h57 : decide (n ≤ 57) = false := by simp; omega
      have h48' : 48 ≤ n := by omega
      clear h h48
      go_enter Tryz.func87, Tryz.ntmps87
      go_wp2
      go_ret
      exact ⟨rfl, hS⟩
theorem ks (L : List UInt8) (k : Nat) (c : UInt8) (h : L[k]? = some c) : ∃ hp : k < (⟨L.toArray⟩ : ByteArray).size, (⟨L.toArray⟩ : ByteArray)[k]'hp = c := by
  obtain ⟨h1, h2⟩ := List.getElem?_eq_some_iff.1 h
  exact ⟨by simpa [ByteArray.size] using h1, by simpa [ByteArray.getElem_eq_getElem_data] using h2⟩
theorem Xj (most : Nat) (hm : most ≤ 2147483647) (s : List UInt8) (hs : s.length ≤ 140737488351232) (w0 w : World) (Hs : List HP) (hS : Sat w0 w Hs) :
    Calls Tryz.prog 100 #[.string ⟨s.toArray⟩, .int .i64 most] w fun e w' => e = .returned (.int .i64 (kj most s)) ∧ Sat w0 w' Hs := by
  cases h0 : s.head? with
  | none =>
    obtain rfl : s = [] := by cases s with | nil => rfl | cons a b => cases h0
    rw [Kg]
    clear h0
    go_enter Tryz.func100, Tryz.ntmps100
    go_wp2
    go_ret
    exact ⟨rfl, hS⟩
  | some c0 =>
    have hne : s.isEmpty = false := by cases s with | nil => cases h0 | cons a b => rfl
    have hnn : s ≠ [] := by intro e; rw [e] at hne; cases hne
    have hp : 0 < s.length := List.length_pos_iff.2 hnn
    by_cases h10 : 10 < s.length
    · rw [numM_long (by omega) h10]
      have hl : (10 : Int) < (s.length : Int) := by omega
      clear h0 hnn
      go_enter Tryz.func100, Tryz.ntmps100
      go_wp2
      go_ret
      exact ⟨rfl, hS⟩
    · obtain ⟨hp0, hcb⟩ := ks s 0 c0 (by rw [← List.head?_eq_getElem?]; exact h0)
      have e48 := Kp c0 48 48 rfl
      have hle : (s.length : Int) ≤ 10 := by omega
      by_cases hz : 1 < s.length ∧ s.head? = some 48
      · rw [jM hz.1 hz.2]
        have hl1 : (1 : Int) < (s.length : Int) := by omega
        have hc0 : c0 = 48 := by rw [h0] at hz; simpa using hz.2
        rw [hc0] at e48
        rw [hc0] at hcb
        clear h0 h10 hz hc0 hnn
        go_enter Tryz.func100, Tryz.ntmps100
        go_wp2
        go_ret
        exact ⟨rfl, hS⟩
      · have DG := fun c => Uo c w0
        have hN := fun h => jf (most := most) hnn hz h
        have hF := Uh (most := most) (s := s)
        obtain ⟨R, hR⟩ : ∃ R, R = kj most s := ⟨_, rfl⟩
        rw [← hR] at hN hF ⊢
        have HN := hid hN
        have HF := hid hF
        clear hN hF hR
        have hlen : s.length ≤ 10 := by omega
        have main : (decide ((1 : Int) < (s.length : Int)) = false ∨ ((1 : Int) < (s.length : Int) ∧ ((c0.toNat : Int) == 48) = false)) → Calls Tryz.prog 100 #[.string ⟨s.toArray⟩, .int .i64 most] w fun e w' => e = .returned (.int .i64 R) ∧ Sat w0 w' Hs := by
          clear e48 hz h0 h10 hnn
          intro hcase
          rcases hcase with hcase | ⟨hcase, hcase2⟩
          all_goals
            go_enter Tryz.func100, Tryz.ntmps100
            go_wp2_with ((with_reducible apply XI hS);exact ya;exact yb rfl;exact E66;kernel_rfl;kernel_rfl;clear hS;intro AB AD CAP w RDB NNB hS;(try simp only [Act.put,q1,q2,q3]))
            go_loopw [5, 28] (fun n i wr => ∃ k v : Nat, i = .int .i64 k ∧ k ≤ s.length ∧ n = .int .i64 v ∧ (v : Int) < 10 ^ k ∧ Hid (v = Kl 0 (s.take k) ∧ (s.take k).all Yn = true) ∧ Sat w0 wr (AB :: Hs)) (fun _ i _ => s.length - (intOf i).toNat)
            case atStart => exact ⟨0, 0, rfl, Nat.zero_le _, rfl, by decide, hid ⟨rfl, rfl⟩, hS⟩
            case round =>
              clear hS
              obtain ⟨k, v, rfl, hk, rfl, hv, HV, hS⟩ := hrel
              by_cases hlt : k < s.length
              · obtain ⟨c, hc⟩ : ∃ c, s[k]? = some c := ⟨_, List.getElem?_eq_getElem hlt⟩
                have hbs := Bs_at hc
                have HC := hid hc
                have hv10 : (v : Int) < 10000000000 := by
                  have h1 : (10 : Int) ^ k ≤ 10 ^ 10 := by exact_mod_cast Nat.pow_le_pow_right (n := 10) (by decide) (by omega)
                  have h2 : (10 : Int) ^ 10 = 10000000000 := by decide
                  omega
                have HVP := hid hv
                clear hc hv
                have DC := DG c
                cases hd : Yn c with
                | true =>
                  rw [hd] at DC
                  obtain ⟨d1, d2⟩ := (KP c).1 hd
                  have HD := hid hd
                  clear hd
                  go_wp2_with (first|((with_reducible apply yA);exact ya;exact yb rfl;exact yb rfl;exact E66;(omega);(omega);(exact Sat.rdAd2 (by assumption) hS (by ((exact yf));try assumption) (by (simp only [Yr, Yt, List.length_take, List.length_drop];omega)));(simp only [Int.toNat_natCast, Nat.mul_one, Nat.zero_add, Yc, yL, yJ, yP, Yb, yQ, yK];rfl);(try simp only [Act.put,q1,q2,q3]))|((with_reducible apply Yl);exact ya;exact yb rfl;(exact Sat.rdCell2 (by assumption) hS (by ((exact yf));try assumption) (by (assumption)));decide +kernel;(try simp only [Act.put,q1,q2,q3]))|(go_at_call 121;refine (DC _ _ hS).mono ?_;clear hS;rintro e w ⟨rfl, hS⟩))
                  go_roundw
                  case rel =>
                    refine ⟨k + 1, 10 * v + (c.toNat - 48), by go_num, by omega, ?_, ?_, hid ?_, hS⟩
                    · go_num
                    · have h1 := HVP.out
                      rw [Int.pow_succ]
                      generalize (10 : Int) ^ k = p at *
                      omega
                    · have ht : s.take (k + 1) = s.take k ++ [c] := by rw [List.take_add_one, HC.out]; rfl
                      rw [ht, JO, List.all_append, HV.out.2, ← HV.out.1]
                      simp [HD.out]
                  case measure => simp [intOf]; omega
                | false =>
                  rw [hd] at DC
                  have HD := hid hd
                  clear hd
                  go_wp2_with (first|((with_reducible apply yA);exact ya;exact yb rfl;exact yb rfl;exact E66;(omega);(omega);(exact Sat.rdAd2 (by assumption) hS (by ((exact yf));try assumption) (by (simp only [Yr, Yt, List.length_take, List.length_drop];omega)));(simp only [Int.toNat_natCast, Nat.mul_one, Nat.zero_add, Yc, yL, yJ, yP, Yb, yQ, yK];rfl);(try simp only [Act.put,q1,q2,q3]))|((with_reducible apply Yl);exact ya;exact yb rfl;(exact Sat.rdCell2 (by assumption) hS (by ((exact yf));try assumption) (by (assumption)));decide +kernel;(try simp only [Act.put,q1,q2,q3]))|(go_at_call 121;refine (DC _ _ hS).mono ?_;clear hS;rintro e w ⟨rfl, hS⟩))
                  go_ret
                  have : R = -1 := HF.out (by
                    rw [List.all_eq_false]
                    exact ⟨c, List.mem_of_getElem? HC.out, by rw [HD.out]; simp⟩)
                  exact ⟨by rw [this]; rfl, hS.sb (by (repeat (with_reducible first | exact Sb.refl | apply Sb.skip)))⟩
              · have hke : k = s.length := by omega
                subst hke
                have HV2 := HV.out
                rw [List.take_length] at HV2
                have hR := HN.out HV2.2
                rw [← HV2.1] at hR
                by_cases hgt : most < v
                · rw [if_pos hgt] at hR
                  have HR := hid hR
                  have hgt2 : (most : Int) < (v : Int) := by omega
                  clear hR HV2
                  go_wp2
                  go_ret
                  exact ⟨by rw [HR.out]; rfl, hS.sb (by (repeat (with_reducible first | exact Sb.refl | apply Sb.skip)))⟩
                · rw [if_neg hgt] at hR
                  have HR := hid hR
                  have hgt2 : (v : Int) ≤ (most : Int) := by omega
                  clear hR HV2
                  go_wp2
                  go_ret
                  exact ⟨by rw [HR.out]; rfl, hS.sb (by (repeat (with_reducible first | exact Sb.refl | apply Sb.skip)))⟩
        refine main ?_
        by_cases h : 1 < s.length
        · refine .inr ⟨by omega, ?_⟩
          rw [e48]
          have : ¬ c0 = 48 := fun e => hz ⟨h, by rw [h0, e]⟩
          simp [this]
        · exact .inl (by simp; omega)
def Xe (o : Option Int) : Int × Bool := match o with | none => (0, false) | some n => (n, true)
end
section
set_option maxRecDepth 20000
open Go Go.RowKit Go.SL Go.ClauseP

def jk (t : List UInt8) : Nat × Nat := t.foldl (fun p c => if c = 10 then (p.1 + 1, 1) else (p.1, p.2 + 1)) (1, 1)
def Yf (s : List UInt8) (k : Nat) : Nat × Nat := jk (s.take k)
theorem uH (t : List UInt8) (c : UInt8) : jk (t ++ [c]) = if c = 10 then ((jk t).1 + 1, 1) else ((jk t).1, (jk t).2 + 1) := by simp [jk]
theorem UH {s : List UInt8} {k : Nat} {c : UInt8} (h : s[k]? = some c) : Yf s (k + 1) = if c = 10 then ((Yf s k).1 + 1, 1) else ((Yf s k).1, (Yf s k).2 + 1) := by
  rw [Yf, List.take_add_one, h]
  exact uH _ _
theorem uq (t : List UInt8) (c : UInt8) (z : Int) : ∀ k, k ≤ t.length → Lib.lastIdx ⟨(t ++ [c]).toArray⟩ z k = Lib.lastIdx ⟨t.toArray⟩ z k
  | 0, _ => rfl
  | k + 1, h => by
    have e : (⟨(t ++ [c]).toArray⟩ : ByteArray).data[k]! = (⟨t.toArray⟩ : ByteArray).data[k]! := by
      have h1 : k < t.length := by omega
      have h2 : k < (t ++ [c]).length := by simp; omega
      have e1 : (t ++ [c])[k]? = some t[k] := by rw [List.getElem?_append_left h1]; exact List.getElem?_eq_getElem h1
      simp [getElem!_pos, h1, h2, e1]
    unfold Lib.lastIdx
    rw [e, uq t c z k (by omega)]
theorem XO : ∀ (n : Nat) (t : List UInt8), t.length = n → ((jk t).1 = 1 + t.count 10 ∧ ((jk t).2 : Int) = t.length - Lib.lastIdx ⟨t.toArray⟩ 10 t.length)
  | 0, t, h => by
    obtain rfl : t = [] := List.length_eq_zero_iff.1 h
    exact ⟨rfl, rfl⟩
  | n + 1, t, h => by
    have hne : t ≠ [] := by intro e; rw [e] at h; cases h
    obtain ⟨u, c, rfl⟩ : ∃ u c, t = u ++ [c] := ⟨t.dropLast, t.getLast hne, (List.dropLast_concat_getLast hne).symm⟩
    have hu : u.length = n := by simpa using h
    obtain ⟨i1, i2⟩ := XO n u hu
    have hlast : (⟨(u ++ [c]).toArray⟩ : ByteArray).data[u.length]! = c := by simp
    have hl : (u ++ [c]).length = u.length + 1 := by simp
    rw [uH, hl]
    unfold Lib.lastIdx
    rw [hlast, uq u c 10 u.length (Nat.le_refl _)]
    by_cases h10 : c = 10
    · subst h10
      refine ⟨by simp [i1]; omega, by simp; omega⟩
    · have hc : ¬ ((c.toNat : Int) = 10) := fun e => h10 (UInt8.toNat_inj.1 (by have : (10 : UInt8).toNat = 10 := rfl; omega))
      rw [if_neg h10, if_neg hc]
      refine ⟨by simp [i1, h10], ?_⟩
      simp only
      rw [Int.natCast_add, i2]
      omega
theorem xS (s : List UInt8) (k : Nat) : (Yf s k).1 ≤ 1 + k ∧ (Yf s k).2 ≤ 1 + k := by
  have : ∀ t : List UInt8, (jk t).1 ≤ 1 + t.length ∧ (jk t).2 ≤ 1 + t.length := by
    intro t
    have : ∀ (t : List UInt8) (p : Nat × Nat), (t.foldl (fun p c => if c = 10 then (p.1 + 1, 1) else (p.1, p.2 + 1)) p).1 ≤ p.1 + t.length ∧ (t.foldl (fun (p : Nat × Nat) c => if c = 10 then (p.1 + 1, 1) else (p.1, p.2 + 1)) p).2 ≤ max p.2 1 + t.length := by
      intro t
      induction t with
      | nil => intro p; simp; omega
      | cons c t ih =>
        intro p
        simp only [List.foldl_cons, List.length_cons]
        split
        · have := ih (p.1 + 1, 1); simp only at this; omega
        · have := ih (p.1, p.2 + 1); simp only at this; omega
    have := this t (1, 1)
    simpa [jk] using this
  have h := this (s.take k)
  have : (s.take k).length ≤ k := List.length_take_le _ _
  unfold Yf
  omega
theorem placeC (text : List UInt8) (k : Nat) (hk : k ≤ text.length) (hl : text.length ≤ 1048576) (w0 w : World) (Hs : List HP) (hS : Sat w0 w Hs) :
    Calls Tryz.prog 40 #[.string ⟨text.toArray⟩, .int .i64 k] w fun e w' => e = .returned (.agg #[.int .i64 ((Yf text k).1 : Int), .int .i64 ((Yf text k).2 : Int)]) ∧ Sat w0 w' Hs := by
  obtain ⟨p1, p2⟩ := XO _ (text.take k) rfl
  have ht : (text.take k).length = k := by rw [List.length_take]; omega
  obtain ⟨b1, b2⟩ := xS text k
  rw [ht] at p2
  have hex : (⟨text.toArray⟩ : ByteArray).extract 0 k = ⟨(text.take k).toArray⟩ := by
    apply ByteArray.ext
    simp [ByteArray.data_extract, List.extract_eq_take_drop]
  have CN := Tryz.strings_Count_one ⟨(text.take k).toArray⟩ 10
  have LI := Tryz.strings_LastIndexByte ⟨(text.take k).toArray⟩ 10 (by simp [ByteArray.size]; omega)
  simp only [List.toList_toArray] at CN
  unfold Lib.lastIndexByte at LI
  rw [show (⟨(text.take k).toArray⟩ : ByteArray).size = k by simp [ByteArray.size]; omega] at LI
  unfold Lib.countByte at CN
  unfold Yf at b1 b2 ⊢
  generalize (jk (text.take k)).1 = a at *
  generalize (jk (text.take k)).2 = b at *
  generalize hq : Lib.lastIdx ⟨(text.take k).toArray⟩ 10 k = q at *
  generalize hz : (text.take k).count 10 = z at *
  have E1 := hid (show (1 : Int) + (z : Int) = (a : Int) by omega)
  have E2 := hid (show (k : Int) - q = (b : Int) by omega)
  have q1 : -1 ≤ q := by
    rcases Lib.lastIdx_spec ⟨(text.take k).toArray⟩ 10 k with h | ⟨i, _, h, _⟩ <;> omega
  have q2 : q ≤ k := by omega
  have z1 : (z : Int) ≤ 1048576 := by omega
  rw [← hex] at CN LI
  clear p1 p2 hq hz hex ht
  have hkl : (k : Int) ≤ (text.length : Int) := by omega
  go_enter Tryz.func40, Tryz.ntmps40
  go_wp2_with (first|((with_reducible apply yl hS);exact ya;exact z29;clear hS;intro NB w hS;(try simp only [Act.put,q1,q2,q3]))|(go_at_call 84;refine (CN _).mono ?_;rintro e w' ⟨rfl, rfl⟩)|(go_at_call 85;refine (LI _).mono ?_;rintro e w' ⟨rfl, rfl⟩)|((with_reducible apply yk hS);exact ya;exact yb rfl;exact yb rfl;exact yf;rfl;(focus (simp;done));exact Upd.hd;rfl;exact sz29;rfl;clear hS;intro w hS;(try simp only [yo, q2, q3] at hS);(try simp only [Act.put,q1,q2,q3])))
  rw [E1.out, E2.out] at hS
  refine bodyPost_ret (yR rfl rfl (hS.loadWhole (by (exact yf)) (by kernel_rfl) (by kernel_rfl))) rfl ?_
  exact ⟨rfl, hS.sb (by (repeat (with_reducible first | exact Sb.refl | apply Sb.skip)))⟩
end
section
set_option maxRecDepth 20000
open Go Go.RowKit Go.SL Go.ClauseP
theorem numberR (most : Nat) (hm : most ≤ 2147483647) (s : List UInt8) (hs : s.length ≤ 140737488351232) (w0 w : World) (Hs : List HP) (hS : Sat w0 w Hs) :
    Calls Tryz.prog 103 #[.string ⟨s.toArray⟩, .int .i64 most] w fun e w' => e = .returned (.int .i64 (kj most s)) ∧ Sat w0 w' Hs := by
  cases h0 : s.head? with
  | none =>
    obtain rfl : s = [] := by cases s with | nil => rfl | cons a b => cases h0
    rw [Kg]
    clear h0
    go_enter Tryz.func103, Tryz.ntmps103
    go_wp2
    go_ret
    exact ⟨rfl, hS⟩
  | some c0 =>
    have hne : s.isEmpty = false := by cases s with | nil => cases h0 | cons a b => rfl
    have hnn : s ≠ [] := by intro e; rw [e] at hne; cases hne
    have hp : 0 < s.length := List.length_pos_iff.2 hnn
    have hpi : ((s.length : Int) == 0) = false := by simp; exact hnn
    have hpn : (s.length == 0) = false := by simp; exact hnn
    obtain ⟨hp0, hcb⟩ := ks s 0 c0 (by rw [← List.head?_eq_getElem?]; exact h0)
    have e48 := Kp c0 48 48 rfl
    by_cases hz : 1 < s.length ∧ s.head? = some 48
    · rw [jM hz.1 hz.2]
      have hl1 : (1 : Int) < (s.length : Int) := by omega
      have hc0 : c0 = 48 := by rw [h0] at hz; simpa using hz.2
      rw [hc0] at e48
      rw [hc0] at hcb
      clear h0 hz hc0 hnn
      go_enter Tryz.func103, Tryz.ntmps103
      go_wp2
      go_ret
      exact ⟨rfl, hS⟩
    · have DG := fun c => jG c w0
      have hN := fun h => jf (most := most) hnn hz h
      have hF := Uh (most := most) (s := s)
      have hA : ∀ k, most < Kl 0 (s.take k) → kj most s = -1 := fun k h => by
        have := gu (t := s.drop k) h
        rwa [List.take_append_drop] at this
      obtain ⟨R, hR⟩ : ∃ R, R = kj most s := ⟨_, rfl⟩
      rw [← hR] at hN hF hA ⊢
      have HN := hid hN
      have HF := hid hF
      have HA := hid hA
      clear hN hF hR hA
      have main : (decide ((1 : Int) < (s.length : Int)) = false ∨ ((1 : Int) < (s.length : Int) ∧ ((c0.toNat : Int) == 48) = false)) → Calls Tryz.prog 103 #[.string ⟨s.toArray⟩, .int .i64 most] w fun e w' => e = .returned (.int .i64 R) ∧ Sat w0 w' Hs := by
        clear e48 hz h0 hnn
        intro hcase
        rcases hcase with hcase | ⟨hcase, hcase2⟩
        all_goals
          go_enter Tryz.func103, Tryz.ntmps103
          go_wp2
          clear hcb hp0
          go_loopw [5, 6] (fun n i wr => ∃ k v : Nat, i = .int .i64 k ∧ k ≤ s.length ∧ n = .int .i64 v ∧ (v : Int) ≤ most ∧ Hid (v = Kl 0 (s.take k) ∧ (s.take k).all Yn = true) ∧ Sat w0 wr Hs) (fun _ i _ => s.length - (intOf i).toNat)
          case atStart => exact ⟨0, 0, rfl, Nat.zero_le _, rfl, by omega, hid ⟨rfl, rfl⟩, hS⟩
          case round =>
            clear hS
            obtain ⟨k, v, rfl, hk, rfl, hv, HV, hS⟩ := hrel
            by_cases hlt : k < s.length
            · obtain ⟨c, hc⟩ : ∃ c, s[k]? = some c := ⟨_, List.getElem?_eq_getElem hlt⟩
              obtain ⟨hpk, hck⟩ := ks s k c hc
              have HC := hid hc
              clear hc
              have DC := DG c
              cases hd : Yn c with
              | true =>
                rw [hd] at DC
                obtain ⟨d1, d2⟩ := (KP c).1 hd
                have HD := hid hd
                have HV2 : Hid (10 * v + (c.toNat - 48) = Kl 0 (s.take (k + 1)) ∧ (s.take (k + 1)).all Yn = true) := by
                  refine hid ?_
                  have ht : s.take (k + 1) = s.take k ++ [c] := by rw [List.take_add_one, HC.out]; rfl
                  rw [ht, JO, List.all_append, HV.out.2, ← HV.out.1]
                  simp [HD.out]
                clear hd
                by_cases hgt : most < 10 * v + (c.toNat - 48)
                · have HR := hid (HA.out (k + 1) (by rw [← HV2.out.1]; exact hgt))
                  have hgi : (most : Int) < 10 * (v : Int) + ((c.toNat : Int) - 48) := by omega
                  clear hgt
                  go_wp2_with (go_at_call 87; refine (DC _ _ hS).mono ?_; clear hS; rintro e w ⟨rfl, hS⟩)
                  go_ret
                  exact ⟨by rw [HR.out]; rfl, hS⟩
                · have hgi : 10 * (v : Int) + ((c.toNat : Int) - 48) ≤ (most : Int) := by omega
                  clear hgt
                  go_wp2_with (go_at_call 87; refine (DC _ _ hS).mono ?_; clear hS; rintro e w ⟨rfl, hS⟩)
                  go_roundw
                  case rel =>
                    refine ⟨k + 1, 10 * v + (c.toNat - 48), by go_num, by omega, ?_, by omega, HV2, hS⟩
                    go_num
                  case measure => simp [intOf]; omega
              | false =>
                rw [hd] at DC
                have HD := hid hd
                clear hd
                go_wp2_with (go_at_call 87; refine (DC _ _ hS).mono ?_; clear hS; rintro e w ⟨rfl, hS⟩)
                go_ret
                have : R = -1 := HF.out (by
                  rw [List.all_eq_false]
                  exact ⟨c, List.mem_of_getElem? HC.out, by rw [HD.out]; simp⟩)
                exact ⟨by rw [this]; rfl, hS⟩
            · have hke : k = s.length := by omega
              subst hke
              have HV2 := HV.out
              rw [List.take_length] at HV2
              have hR := HN.out HV2.2
              rw [← HV2.1] at hR
              rw [if_neg (by omega)] at hR
              have HR := hid hR
              clear hR HV2
              go_wp2
              go_ret
              exact ⟨by rw [HR.out]; rfl, hS⟩
      refine main ?_
      by_cases h : 1 < s.length
      · refine .inr ⟨by omega, ?_⟩
        rw [e48]
        have : ¬ c0 = 48 := fun e => hz ⟨h, by rw [h0, e]⟩
        simp [this]
      · exact .inl (by simp; omega)
theorem spotR (text : List UInt8) (k : Nat) (hk : k ≤ text.length) (hl : text.length ≤ 1048576) (w0 w : World) (Hs : List HP) (hS : Sat w0 w Hs) :
    Calls Tryz.prog 52 #[.string ⟨text.toArray⟩, .int .i64 k] w fun e w' => e = .returned (.agg #[.int .i64 ((Yf text k).1 : Int), .int .i64 ((Yf text k).2 : Int)]) ∧ Sat w0 w' Hs := by
  go_enter Tryz.func52, Tryz.ntmps52
  (have tok_B4 : True := trivial;have tok_B5 : True := trivial;go_wp2_with (first|(have tokk := tok_B4;(clear tokk tok_B4);((with_reducible apply yl hS);exact ya;exact z29;clear hS;intro B4 w hS;(try simp only [Act.put,q1,q2,q3])))|(have tokk := tok_B5;(clear tokk tok_B5);((with_reducible apply yl hS);exact ya;exact z29;clear hS;intro B5 w hS;(try simp only [Act.put,q1,q2,q3])))|((with_reducible apply yk hS);exact ya;exact yb rfl;exact yb rfl;exact yf;rfl;(focus (simp;done));exact Upd.hd;rfl;exact sz29;rfl;clear hS;intro w hS;(try simp only [yo, q2, q3] at hS);(try simp only [Act.put,q1,q2,q3]))))
  go_loopw [6] (fun i wr => ∃ j : Nat, i = .int .i64 j ∧ j ≤ k ∧ Sat w0 wr (blk B5 29 [.int .i64 ((Yf text j).1 : Int), .int .i64 ((Yf text j).2 : Int)] :: blk B4 29 [.int .i64 0, .int .i64 0] :: Hs)) (fun i _ => k - (intOf i).toNat)
  case atStart => exact ⟨0, rfl, Nat.zero_le _, hS⟩
  case round =>
    clear hS
    obtain ⟨j, rfl, hj, hS⟩ := hrel
    by_cases hlt : j < k
    · obtain ⟨c, hc⟩ : ∃ c, text[j]? = some c := ⟨_, List.getElem?_eq_getElem (by omega)⟩
      obtain ⟨hpk, hck⟩ := ks text j c hc
      have HS1 := hid (UH hc)
      have hjt : (j : Int) < (text.length : Int) := by omega
      obtain ⟨b1, b2⟩ := xS text j
      have e10 := Kp c 10 10 rfl
      clear hc
      by_cases h10 : c = 10
      · rw [show (c == 10) = true by simp [h10]] at e10
        have HS2 : Hid (Yf text (j + 1) = ((Yf text j).1 + 1, 1)) := hid (by rw [HS1.out, if_pos h10])
        clear HS1 h10
        have h1 : (Yf text (j + 1)).1 = (Yf text j).1 + 1 := by rw [HS2.out]
        have h2 : (Yf text (j + 1)).2 = 1 := by rw [HS2.out]
        generalize (Yf text j).1 = p1 at *
        generalize (Yf text j).2 = p2 at *
        have E1 := hid h1
        have E2 := hid h2
        clear h1 h2 HS2
        go_wp2_with (first|((with_reducible apply yi hS);exact ya;exact yb rfl;exact yf;rfl;decide +kernel;(try simp only [Act.put,q1,q2,q3]))|((with_reducible apply yx hS);exact ya;exact yb rfl;(first|exact yb rfl|exact yh);exact yf;rfl;(focus (simp;done));exact Upd.hd;rfl;decide +kernel;clear hS;intro w hS;(try simp only [q2, q3] at hS);(try simp only [Act.put,q1,q2,q3])))
        go_roundw
        case rel => exact ⟨j + 1, by go_num, by omega, by rw [E1.out, E2.out]; exact hS⟩
        case measure => simp [intOf]; omega
      · rw [show (c == 10) = false by simp [h10]] at e10
        have HS2 : Hid (Yf text (j + 1) = ((Yf text j).1, (Yf text j).2 + 1)) := hid (by rw [HS1.out, if_neg h10])
        clear HS1 h10
        have h1 : (Yf text (j + 1)).1 = (Yf text j).1 := by rw [HS2.out]
        have h2 : (Yf text (j + 1)).2 = (Yf text j).2 + 1 := by rw [HS2.out]
        generalize (Yf text j).1 = p1 at *
        generalize (Yf text j).2 = p2 at *
        have E1 := hid h1
        have E2 := hid h2
        clear h1 h2 HS2
        go_wp2_with (first|((with_reducible apply yi hS);exact ya;exact yb rfl;exact yf;rfl;decide +kernel;(try simp only [Act.put,q1,q2,q3]))|((with_reducible apply yx hS);exact ya;exact yb rfl;exact yb rfl;exact yf;rfl;(focus (simp;done));exact Upd.hd;rfl;decide +kernel;clear hS;intro w hS;(try simp only [q2, q3] at hS);(try simp only [Act.put,q1,q2,q3])))
        go_roundw
        case rel => exact ⟨j + 1, by go_num, by omega, by rw [E1.out, E2.out]; exact hS⟩
        case measure => simp [intOf]; omega
    · obtain rfl : j = k := by omega
      go_wp2_with (first|((with_reducible apply yC hS);exact ya;exact yb rfl;exact yf;exact sz29;decide +kernel;rfl;rfl;(try simp only [Act.put,q1,q2,q3]))|((with_reducible apply yk hS);exact ya;exact yb rfl;exact yb rfl;(repeat (with_reducible first|exact yf|apply ye));rfl;(focus (simp;done));(repeat (with_reducible first|exact Upd.hd|apply Upd.tl));rfl;exact sz29;rfl;clear hS;intro w hS;(try simp only [yo, q2, q3] at hS);(try simp only [Act.put,q1,q2,q3])))
      refine bodyPost_ret (yR rfl rfl (hS.loadWhole (by (repeat (with_reducible first | exact yf | apply ye))) (by kernel_rfl) (by kernel_rfl))) rfl ?_
      exact ⟨rfl, hS.sb (by (repeat (with_reducible first | exact Sb.refl | apply Sb.skip)))⟩
end
end Go.Proofs.YthackanffcaejaaGreatDoor
namespace Go.LexP
section
open Go Go.ClauseP

inductive Tk
  | fin
  | bad (e : Int)
  | const (n : Int)
  | var (n : Int)
  | not
  | op (o : Int)
  | opn
  | cls
  | comma
  | colon
  | quant (o : Int)
  | ite
deriving DecidableEq
def kK (c : UInt8) : Bool := (97 ≤ c && c ≤ 122) || (65 ≤ c && c ≤ 90)
def kQ (c : UInt8) : Bool := c == 32 || c == 9 || c == 10 || c == 13
def Yx : Bool → List UInt8 → Nat
  | _, [] => 0
  | true, c :: cs => if c = 10 then 1 + Yx false cs else 1 + Yx true cs
  | false, c :: cs => if kQ c then 1 + Yx false cs else if c = 35 then 1 + Yx true cs else 0
theorem KZ : ∀ (l : List UInt8) (b : Bool), Yx b l ≤ l.length
  | [], b => by cases b <;> simp [Yx]
  | c :: cs, true => by
    have h1 := KZ cs false
    have h2 := KZ cs true
    simp only [Yx, List.length_cons]
    split <;> omega
  | c :: cs, false => by
    have h1 := KZ cs false
    have h2 := KZ cs true
    simp only [Yx, List.length_cons]
    split
    · omega
    · split <;> omega
def kU (w : List UInt8) : Tk :=
  if w = [116, 114, 117, 101] then .const 1
  else if w = [102, 97, 108, 115, 101] then .const 0
  else if w = [101, 120, 105, 115, 116, 115] then .quant 4
  else if w = [102, 111, 114, 97, 108, 108] then .quant 5
  else if w = [105, 116, 101] then .ite
  else match w with
    | 120 :: t => if (match t with | c :: _ => kK c | [] => false) then .bad 131 else if kj 65535 t < 0 then .bad 133 else .var (kj 65535 t)
    | _ => .bad 131
def ldP (c : UInt8) : Bool := kK c || Yn c
def signs11 : List (List UInt8 × Tk) := [([60, 45, 62], .op 10), ([45, 62], .op 9), ([33], .not), ([126], .not), ([38], .op 6), ([124], .op 7), ([94], .op 8), ([40], .opn), ([41], .cls), ([44], .comma), ([58], .colon)]
def signs10 : List (List UInt8 × Tk) := [([194, 172], .not), ([226, 136, 167], .op 6), ([226, 136, 168], .op 7), ([226, 138, 149], .op 8), ([226, 134, 146], .op 9), ([226, 134, 148], .op 10), ([226, 136, 131], .quant 4), ([226, 136, 128], .quant 5), ([226, 138, 164], .const 1), ([226, 138, 165], .const 0)]
def kD (l : List UInt8) : Option (List UInt8 × Tk) := (signs11 ++ signs10).find? fun s => s.1.isPrefixOf l
def Yj (l : List UInt8) : Tk × Nat :=
  match l with
  | [] => (.fin, 0)
  | c :: _ => if kK c then (kU (l.takeWhile ldP), (l.takeWhile ldP).length)
    else if Yn c then ((if kj 1 (l.takeWhile Yn) < 0 then .bad 133 else .const (kj 1 (l.takeWhile Yn))), (l.takeWhile Yn).length)
    else match kD l with
      | some s => (s.2, s.1.length)
      | none => (.bad 130, 1)
def Yh (text : List UInt8) (k : Nat) : Nat := k + Yx false (text.drop k)
structure TokR where
  tk : Tk
  at_ : Nat
  fin : Nat
def yS (text : List UInt8) (k : Nat) : TokR :=
  if Yh text k = text.length then ⟨.fin, text.length, text.length⟩ else ⟨(Yj (text.drop (Yh text k))).1, Yh text k, Yh text k + (Yj (text.drop (Yh text k))).2⟩
def Yk : Tk → Int × Int × Int
  | .fin => (0, 0, 0)
  | .bad e => (0, 0, e)
  | .const n => (1, n, 0)
  | .var n => (2, n, 0)
  | .not => (3, 0, 0)
  | .op o => (o - 2, 0, 0)
  | .opn => (9, 0, 0)
  | .cls => (10, 0, 0)
  | .comma => (11, 0, 0)
  | .colon => (12, 0, 0)
  | .quant o => (o + 9, 0, 0)
  | .ite => (15, 0, 0)
end
end Go.LexP
namespace Go.Proofs.YthackanffcaejaaGreatDoor
section
set_option maxRecDepth 20000
open Go Go.RowKit Go.SL Go.ClauseP Go.LexP

theorem KW : KeyTy Tryz.prog 220 9 80 .string := ⟨Tryz.underlying220, Tryz.underlying9, .inl rfl⟩
theorem KR : KeyTy Tryz.prog 208 21 80 (.int .i32) := ⟨Tryz.underlying208, Tryz.underlying21, .inr ⟨_, rfl⟩⟩
theorem KM : ∀ w, (zeroValue 80).run Tryz.prog w = .ok (.agg #[.int .i64 0, .int .i64 0, .int .i64 0, .int .i64 0]) w := fun w => by kernel_rfl
def tk (k n : Int) : Value := .agg #[.int .i64 k, .int .i64 n, .int .i64 0, .int .i64 0]
def gf : List MapEntry := [⟨.string ⟨#[116, 114, 117, 101]⟩, .agg #[.int .i64 1, .int .i64 1, .int .i64 0, .int .i64 0], 0⟩, ⟨.string ⟨#[102, 97, 108, 115, 101]⟩, .agg #[.int .i64 1, .int .i64 0, .int .i64 0, .int .i64 0], 1⟩,
  ⟨.string ⟨#[101, 120, 105, 115, 116, 115]⟩, .agg #[.int .i64 13, .int .i64 0, .int .i64 0, .int .i64 0], 2⟩, ⟨.string ⟨#[102, 111, 114, 97, 108, 108]⟩, .agg #[.int .i64 14, .int .i64 0, .int .i64 0, .int .i64 0], 3⟩, ⟨.string ⟨#[105, 116, 101]⟩, .agg #[.int .i64 15, .int .i64 0, .int .i64 0, .int .i64 0], 4⟩]
theorem wordsC (w0 w : World) (Hs : List HP) (hS : Sat w0 w Hs) : Calls Tryz.prog 149 #[] w fun e w' => ∃ b, e = .returned (.map (some b)) ∧ Sat w0 w' (cm b gf 5 :: Hs) := by
  go_enter Tryz.func149, Tryz.ntmps149
  go_wp2_with (first|((with_reducible apply JI hS);exact ya;clear hS;intro NB w hS;(try simp only [Act.put,q1,q2,q3]))|((with_reducible apply ud hS);exact Or.inl rfl;exact ya;exact yb rfl;exact yh;exact yb rfl;exact KW;exact yf;rfl;exact Upd.hd;clear hS;intro w hS;(try simp only [List.cons_append, List.nil_append, Nat.zero_add, Nat.reduceAdd] at hS);(try simp only [Act.put,q1,q2,q3])))
  go_ret
  exact ⟨_, rfl, hS⟩
def Ul : List MapEntry := [⟨.int .i32 172, .agg #[.int .i64 3, .int .i64 0, .int .i64 0, .int .i64 0], 0⟩, ⟨.int .i32 8743, .agg #[.int .i64 4, .int .i64 0, .int .i64 0, .int .i64 0], 1⟩, ⟨.int .i32 8744, .agg #[.int .i64 5, .int .i64 0, .int .i64 0, .int .i64 0], 2⟩,
  ⟨.int .i32 8853, .agg #[.int .i64 6, .int .i64 0, .int .i64 0, .int .i64 0], 3⟩, ⟨.int .i32 8594, .agg #[.int .i64 7, .int .i64 0, .int .i64 0, .int .i64 0], 4⟩, ⟨.int .i32 8596, .agg #[.int .i64 8, .int .i64 0, .int .i64 0, .int .i64 0], 5⟩,
  ⟨.int .i32 8707, .agg #[.int .i64 13, .int .i64 0, .int .i64 0, .int .i64 0], 6⟩, ⟨.int .i32 8704, .agg #[.int .i64 14, .int .i64 0, .int .i64 0, .int .i64 0], 7⟩, ⟨.int .i32 8868, .agg #[.int .i64 1, .int .i64 1, .int .i64 0, .int .i64 0], 8⟩, ⟨.int .i32 8869, .agg #[.int .i64 1, .int .i64 0, .int .i64 0, .int .i64 0], 9⟩]
theorem runesC (w0 w : World) (Hs : List HP) (hS : Sat w0 w Hs) : Calls Tryz.prog 137 #[] w fun e w' => ∃ b, e = .returned (.map (some b)) ∧ Sat w0 w' (cm b Ul 10 :: Hs) := by
  go_enter Tryz.func137, Tryz.ntmps137
  go_wp2_with (first|((with_reducible apply JI hS);exact ya;clear hS;intro NB w hS;(try simp only [Act.put,q1,q2,q3]))|((with_reducible apply ud hS);exact Or.inl rfl;exact ya;exact yb rfl;exact yh;exact yb rfl;exact KR;exact yf;rfl;exact Upd.hd;clear hS;intro w hS;(try simp only [List.cons_append, List.nil_append, Nat.zero_add, Nat.reduceAdd] at hS);(try simp only [Act.put,q1,q2,q3])))
  go_ret
  exact ⟨_, rfl, hS⟩
theorem Ju (c : UInt8) : (kK c = true → ((97 : Int) ≤ c.toNat ∧ (c.toNat : Int) ≤ 122) ∨ ((65 : Int) ≤ c.toNat ∧ (c.toNat : Int) ≤ 90)) ∧ (kK c = false → ((c.toNat : Int) < 97 ∨ (122 : Int) < c.toNat) ∧ ((c.toNat : Int) < 65 ∨ (90 : Int) < c.toNat)) := by
  constructor
  · intro h
    simp only [kK, Bool.or_eq_true, Bool.and_eq_true, decide_eq_true_eq, UInt8.le_iff_toNat_le] at h
    have h1 : (97 : UInt8).toNat = 97 := rfl
    have h2 : (122 : UInt8).toNat = 122 := rfl
    have h3 : (65 : UInt8).toNat = 65 := rfl
    have h4 : (90 : UInt8).toNat = 90 := rfl
    omega
  · intro h
    simp only [kK, Bool.or_eq_false_iff, Bool.and_eq_false_iff, decide_eq_false_iff_not, UInt8.le_iff_toNat_le] at h
    have h1 : (97 : UInt8).toNat = 97 := rfl
    have h2 : (122 : UInt8).toNat = 122 := rfl
    have h3 : (65 : UInt8).toNat = 65 := rfl
    have h4 : (90 : UInt8).toNat = 90 := rfl
    omega
theorem letterW (f : Nat) (n : Int) (b : Bool) (h : b = true ↔ ((97 ≤ n ∧ n ≤ 122) ∨ (65 ≤ n ∧ n ≤ 90))) (w0 w : World) (Hs : List HP) (hS : Sat w0 w Hs) : Calls Tryz.prog 133 #[.int .u8 n] w fun e w' => e = .returned (.bool b) ∧ Sat w0 w' Hs := by
  by_cases h1 : 97 ≤ n
  · by_cases h2 : n ≤ 122
    · obtain rfl : b = true := h.2 (.inl ⟨h1, h2⟩)
      clear h
      go_enter Tryz.func133, Tryz.ntmps133
      go_wp2
      go_ret
      exact ⟨rfl, hS⟩
    · obtain rfl : b = false := by cases b with | false => rfl | true => have := h.1 rfl; omega
      have d2 : decide (n ≤ 122) = false := decide_eq_false h2
      have d3 : (65 : Int) ≤ n := by omega
      have d4 : decide (n ≤ 90) = false := decide_eq_false (by omega)
      clear h h2
      go_enter Tryz.func133, Tryz.ntmps133
      go_wp2
      go_ret
      exact ⟨rfl, hS⟩
  · have d1 : decide (97 ≤ n) = false := decide_eq_false h1
    by_cases h3 : 65 ≤ n
    · by_cases h4 : n ≤ 90
      · obtain rfl : b = true := h.2 (.inr ⟨h3, h4⟩)
        clear h h1
        go_enter Tryz.func133, Tryz.ntmps133
        go_wp2
        go_ret
        exact ⟨rfl, hS⟩
      · obtain rfl : b = false := by cases b with | false => rfl | true => have := h.1 rfl; omega
        have d4 : decide (n ≤ 90) = false := decide_eq_false h4
        clear h h1 h4
        go_enter Tryz.func133, Tryz.ntmps133
        go_wp2
        go_ret
        exact ⟨rfl, hS⟩
    · obtain rfl : b = false := by cases b with | false => rfl | true => have := h.1 rfl; omega
      have d3 : decide (65 ≤ n) = false := decide_eq_false h3
      clear h h1 h3
      go_enter Tryz.func133, Tryz.ntmps133
      go_wp2
      go_ret
      exact ⟨rfl, hS⟩
theorem uZ (c : UInt8) : kK c = true ↔ ((97 ≤ (c.toNat : Int) ∧ (c.toNat : Int) ≤ 122) ∨ (65 ≤ (c.toNat : Int) ∧ (c.toNat : Int) ≤ 90)) := by
  obtain ⟨h1, h2⟩ := Ju c
  cases h : kK c with
  | true => simp only [true_iff]; exact h1 h
  | false => have := h2 h; simp only [Bool.false_eq_true, false_iff]; omega
theorem JE (c : UInt8) (w0 w : World) (Hs : List HP) (hS : Sat w0 w Hs) : Calls Tryz.prog 133 #[.int .u8 c.toNat] w fun e w' => e = .returned (.bool (kK c)) ∧ Sat w0 w' Hs := letterW 0 _ _ (uZ c) w0 w Hs hS
theorem Jt (s l : List UInt8) : ((⟨s.toArray⟩ : ByteArray) == ⟨l.toArray⟩) = decide (s = l) := by
  have e : ((⟨s.toArray⟩ : ByteArray) == ⟨l.toArray⟩) = (s.toArray == l.toArray) := rfl
  rw [e]
  by_cases h : s = l
  · subst h; simp
  · rw [decide_eq_false h]
    apply beq_eq_false_iff_ne.2
    intro e
    exact h (by simpa using congrArg Array.toList e)
theorem gx (s : List UInt8) : Instr.findNow .string (.string ⟨s.toArray⟩) gf 0 = some (if s = [116, 114, 117, 101] then some (0, .agg #[.int .i64 1, .int .i64 1, .int .i64 0, .int .i64 0])
    else if s = [102, 97, 108, 115, 101] then some (1, .agg #[.int .i64 1, .int .i64 0, .int .i64 0, .int .i64 0]) else if s = [101, 120, 105, 115, 116, 115] then some (2, .agg #[.int .i64 13, .int .i64 0, .int .i64 0, .int .i64 0])
    else if s = [102, 111, 114, 97, 108, 108] then some (3, .agg #[.int .i64 14, .int .i64 0, .int .i64 0, .int .i64 0]) else if s = [105, 116, 101] then some (4, .agg #[.int .i64 15, .int .i64 0, .int .i64 0, .int .i64 0]) else none) := by
  have e1 := Jt s [116, 114, 117, 101]
  have e2 := Jt s [102, 97, 108, 115, 101]
  have e3 := Jt s [101, 120, 105, 115, 116, 115]
  have e4 := Jt s [102, 111, 114, 97, 108, 108]
  have e5 := Jt s [105, 116, 101]
  unfold gf
  simp only [Instr.findNow, Instr.sameNow, e1, e2, e3, e4, e5]
  by_cases h1 : s = [116, 114, 117, 101]
  · simp [h1]
  · by_cases h2 : s = [102, 97, 108, 115, 101]
    · simp [h2]
    · by_cases h3 : s = [101, 120, 105, 115, 116, 115]
      · simp [h3]
      · by_cases h4 : s = [102, 111, 114, 97, 108, 108]
        · simp [h4]
        · by_cases h5 : s = [105, 116, 101] <;> simp [h1, h2, h3, h4, h5]
end
section
set_option maxRecDepth 20000
open Go Go.RowKit Go.SL Go.ClauseP Go.LexP

theorem u8_ne (c d : UInt8) (n : Int) (hn : n = (d.toNat : Int)) : ((c.toNat : Int) != n) = if c = d then false else true := by
  rw [bne, Kp c d n hn]
  by_cases h : c = d
  · rw [if_pos h, h]; simp
  · rw [if_neg h]; simp [h]

def Uu (t : Tk) (at_ : Int) : Value := .agg #[.int .i64 (Yk t).1, .int .i64 (Yk t).2.1, .int .i64 at_, .int .i64 (Yk t).2.2]
theorem wordC (s : List UInt8) (h0 : s ≠ []) (hs : s.length ≤ 140737488351232) (w0 w : World) (Hs : List HP) (hS : Sat w0 w Hs) :
    Calls Tryz.prog 135 #[.string ⟨s.toArray⟩] w fun e w' => e = .returned (Uu (kU s) 0) ∧ Sat w0 w' Hs := by
  have WC := wordsC w0
  have FW := gx s
  obtain ⟨t, ht⟩ : ∃ t, t = kU s := ⟨_, rfl⟩
  rw [← ht]
  unfold kU at ht
  by_cases h1 : s = [116, 114, 117, 101] ∨ s = [102, 97, 108, 115, 101] ∨ s = [101, 120, 105, 115, 116, 115] ∨ s = [102, 111, 114, 97, 108, 108] ∨ s = [105, 116, 101]
  · rcases h1 with h | h | h | h | h
    all_goals
      subst h
      simp at ht
      simp at FW
      subst ht
      have HFW := hid FW
      clear FW h0
      go_enter Tryz.func135, Tryz.ntmps135
      go_wp2_with (first|((with_reducible apply yl hS);exact ya;exact z80;clear hS;intro NB w hS;(try simp only [Act.put,q1,q2,q3]))|(go_at_call 149;refine (WC _ _ hS).mono ?_;clear hS;rintro e w ⟨mb, rfl, hS⟩)|((with_reducible apply kw hS);(case hw => (with_reducible exact ya));(case hm => (exact yb rfl));(case hx => (exact yb rfl));(case K0 => exact KW);(case hmem => (((exact yf));(try assumption)));(case hf => exact HFW.out);(case hz => exact KM);(case hv => (simp only [if_true, if_false, Bool.false_eq_true, Option.map_some, Option.map_none, Option.getD_some, Option.getD_none, Option.isSome_some, Option.isSome_none];rfl));(try simp only [Act.put,q1,q2,q3]))|((with_reducible apply yC hS);exact ya;exact yb rfl;exact yf;exact sz80;decide +kernel;rfl;rfl;(try simp only [Act.put,q1,q2,q3]))|((with_reducible apply yk hS);exact ya;exact yb rfl;exact yb rfl;(repeat (with_reducible first|exact yf|apply ye));rfl;(focus (simp;done));(repeat (with_reducible first|exact Upd.hd|apply Upd.tl));rfl;exact sz80;rfl;clear hS;intro w hS;(try simp only [yo, q2, q3] at hS);(try simp only [Act.put,q1,q2,q3])))
      refine bodyPost_ret (yR rfl rfl (hS.loadWhole (by (repeat (with_reducible first | exact yf | apply ye))) (by kernel_rfl) (by kernel_rfl))) rfl ?_
      exact ⟨rfl, hS.sb (by (repeat (with_reducible first | exact Sb.refl | apply Sb.skip)))⟩
  · have hn1 : ¬ s = [116, 114, 117, 101] := fun e => h1 (.inl e)
    have hn2 : ¬ s = [102, 97, 108, 115, 101] := fun e => h1 (.inr (.inl e))
    have hn3 : ¬ s = [101, 120, 105, 115, 116, 115] := fun e => h1 (.inr (.inr (.inl e)))
    have hn4 : ¬ s = [102, 111, 114, 97, 108, 108] := fun e => h1 (.inr (.inr (.inr (.inl e))))
    have hn5 : ¬ s = [105, 116, 101] := fun e => h1 (.inr (.inr (.inr (.inr e))))
    rw [if_neg hn1, if_neg hn2, if_neg hn3, if_neg hn4, if_neg hn5] at ht FW
    clear hn1 hn2 hn3 hn4 hn5 h1
    have HFW := hid FW
    clear FW
    obtain ⟨c, cs, rfl⟩ : ∃ c cs, s = c :: cs := by cases s with | nil => exact absurd rfl h0 | cons a b => exact ⟨a, b, rfl⟩
    obtain ⟨hp0, hc0⟩ := ks (c :: cs) 0 c rfl
    have e120 := u8_ne c 120 120 rfl
    by_cases hx : c = 120
    · subst hx
      rw [if_pos rfl] at e120
      simp only at ht
      have hl1 : 1 ≤ (120 :: cs : List UInt8).length := by simp
      have hex : (⟨(120 :: cs).toArray⟩ : ByteArray).extract 1 (120 :: cs).length = ⟨cs.toArray⟩ := by
        apply ByteArray.ext
        simp only [ByteArray.data_extract, List.extract_toArray, List.extract_eq_take_drop]
        simp
      have DC := Xj 65535 (by omega) cs (by simp at hs; omega) w0
      rw [← hex] at DC
      have hN := uy 65535 cs
      have hlc : ((120 :: cs : List UInt8).length : Int) = (cs.length : Int) + 1 := by simp
      have hb : ∀ d ds, cs = d :: ds → ∃ hp : 1 < (⟨(120 :: cs).toArray⟩ : ByteArray).size, (⟨(120 :: cs).toArray⟩ : ByteArray)[1]'hp = d := fun d ds e => ks (120 :: cs) 1 d (by rw [e]; rfl)
      generalize hL : (120 :: cs : List UInt8) = L at *
      clear hex h0 hL
      cases cs with
      | nil =>
        simp only [Bool.false_eq_true, if_false] at ht
        rw [Kg, if_pos (by omega)] at ht
        rw [Kg] at DC
        subst ht
        have hl2 : decide ((L.length : Int) > 1) = false := decide_eq_false (by simp at hlc; omega)
        clear hlc hb hN
        go_enter Tryz.func135, Tryz.ntmps135
        go_wp2_with (first|((with_reducible apply yl hS);exact ya;exact z80;clear hS;intro NB w hS;(try simp only [Act.put,q1,q2,q3]))|(go_at_call 149;refine (WC _ _ hS).mono ?_;clear hS;rintro e w ⟨mb, rfl, hS⟩)|((with_reducible apply kw hS);(case hw => (with_reducible exact ya));(case hm => (exact yb rfl));(case hx => (exact yb rfl));(case K0 => exact KW);(case hmem => (((exact yf));(try assumption)));(case hf => exact HFW.out);(case hz => exact KM);(case hv => (simp only [if_true, if_false, Bool.false_eq_true, Option.map_some, Option.map_none, Option.getD_some, Option.getD_none, Option.isSome_some, Option.isSome_none];rfl));(try simp only [Act.put,q1,q2,q3]))|((with_reducible apply yk hS);exact ya;exact yb rfl;exact yb rfl;(repeat (with_reducible first|exact yf|apply ye));rfl;(focus (simp;done));(repeat (with_reducible first|exact Upd.hd|apply Upd.tl));rfl;exact sz80;rfl;clear hS;intro w hS;(try simp only [yo, q2, q3] at hS);(try simp only [Act.put,q1,q2,q3]))|(go_at_call 100;refine (DC _ _ hS).mono ?_;clear hS;rintro e w ⟨rfl, hS⟩))
        refine bodyPost_ret (yR rfl rfl (hS.loadWhole (by (repeat (with_reducible first | exact yf | apply ye))) (by kernel_rfl) (by kernel_rfl))) rfl ?_
        exact ⟨rfl, hS.sb (by (repeat (with_reducible first | exact Sb.refl | apply Sb.skip)))⟩
      | cons d ds =>
        obtain ⟨hp1, hd1⟩ := hb d ds rfl
        have hl2 : (L.length : Int) > 1 := by simp at hlc; omega
        have LC := JE d w0
        simp only at ht
        clear hlc hb
        obtain ⟨n, hn⟩ : ∃ n, n = kj 65535 (d :: ds) := ⟨_, rfl⟩
        rw [← hn] at ht DC hN
        clear hn
        replace ht : t = if kK d = true then .bad 131 else if n < 0 then .bad 133 else .var n := ht
        cases hlt : kK d with
        | true =>
          rw [hlt] at ht LC
          simp only [if_true] at ht
          subst ht
          clear hlt
          go_enter Tryz.func135, Tryz.ntmps135
          go_wp2_with (first|((with_reducible apply yl hS);exact ya;exact z80;clear hS;intro NB w hS;(try simp only [Act.put,q1,q2,q3]))|(go_at_call 149;refine (WC _ _ hS).mono ?_;clear hS;rintro e w ⟨mb, rfl, hS⟩)|((with_reducible apply kw hS);(case hw => (with_reducible exact ya));(case hm => (exact yb rfl));(case hx => (exact yb rfl));(case K0 => exact KW);(case hmem => (((exact yf));(try assumption)));(case hf => exact HFW.out);(case hz => exact KM);(case hv => (simp only [if_true, if_false, Bool.false_eq_true, Option.map_some, Option.map_none, Option.getD_some, Option.getD_none, Option.isSome_some, Option.isSome_none];rfl));(try simp only [Act.put,q1,q2,q3]))|((with_reducible apply yk hS);exact ya;exact yb rfl;exact yb rfl;(repeat (with_reducible first|exact yf|apply ye));rfl;(focus (simp;done));(repeat (with_reducible first|exact Upd.hd|apply Upd.tl));rfl;exact sz80;rfl;clear hS;intro w hS;(try simp only [yo, q2, q3] at hS);(try simp only [Act.put,q1,q2,q3]))|(go_at_call 133;refine (LC _ _ hS).mono ?_;clear hS;rintro e w ⟨rfl, hS⟩))
          refine bodyPost_ret (yR rfl rfl (hS.loadWhole (by (repeat (with_reducible first | exact yf | apply ye))) (by kernel_rfl) (by kernel_rfl))) rfl ?_
          exact ⟨rfl, hS.sb (by (repeat (with_reducible first | exact Sb.refl | apply Sb.skip)))⟩
        | false =>
          rw [hlt] at ht LC
          simp only [Bool.false_eq_true, if_false] at ht
          clear hlt
          by_cases h0n : n < 0
          · rw [if_pos h0n] at ht
            subst ht
            go_enter Tryz.func135, Tryz.ntmps135
            go_wp2_with (first|((with_reducible apply yl hS);exact ya;exact z80;clear hS;intro NB w hS;(try simp only [Act.put,q1,q2,q3]))|(go_at_call 149;refine (WC _ _ hS).mono ?_;clear hS;rintro e w ⟨mb, rfl, hS⟩)|((with_reducible apply kw hS);(case hw => (with_reducible exact ya));(case hm => (exact yb rfl));(case hx => (exact yb rfl));(case K0 => exact KW);(case hmem => (((exact yf));(try assumption)));(case hf => exact HFW.out);(case hz => exact KM);(case hv => (simp only [if_true, if_false, Bool.false_eq_true, Option.map_some, Option.map_none, Option.getD_some, Option.getD_none, Option.isSome_some, Option.isSome_none];rfl));(try simp only [Act.put,q1,q2,q3]))|((with_reducible apply yk hS);exact ya;exact yb rfl;exact yb rfl;(repeat (with_reducible first|exact yf|apply ye));rfl;(focus (simp;done));(repeat (with_reducible first|exact Upd.hd|apply Upd.tl));rfl;exact sz80;rfl;clear hS;intro w hS;(try simp only [yo, q2, q3] at hS);(try simp only [Act.put,q1,q2,q3]))|(go_at_call 133;refine (LC _ _ hS).mono ?_;clear hS;rintro e w ⟨rfl, hS⟩)|(go_at_call 100;refine (DC _ _ hS).mono ?_;clear hS;rintro e w ⟨rfl, hS⟩))
            refine bodyPost_ret (yR rfl rfl (hS.loadWhole (by (repeat (with_reducible first | exact yf | apply ye))) (by kernel_rfl) (by kernel_rfl))) rfl ?_
            exact ⟨rfl, hS.sb (by (repeat (with_reducible first | exact Sb.refl | apply Sb.skip)))⟩
          · rw [if_neg h0n] at ht
            subst ht
            have hge : 0 ≤ n := by omega
            clear h0n
            go_enter Tryz.func135, Tryz.ntmps135
            go_wp2_with (first|((with_reducible apply yl hS);exact ya;exact z80;clear hS;intro NB w hS;(try simp only [Act.put,q1,q2,q3]))|(go_at_call 149;refine (WC _ _ hS).mono ?_;clear hS;rintro e w ⟨mb, rfl, hS⟩)|((with_reducible apply kw hS);(case hw => (with_reducible exact ya));(case hm => (exact yb rfl));(case hx => (exact yb rfl));(case K0 => exact KW);(case hmem => (((exact yf));(try assumption)));(case hf => exact HFW.out);(case hz => exact KM);(case hv => (simp only [if_true, if_false, Bool.false_eq_true, Option.map_some, Option.map_none, Option.getD_some, Option.getD_none, Option.isSome_some, Option.isSome_none];rfl));(try simp only [Act.put,q1,q2,q3]))|((with_reducible apply yk hS);exact ya;exact yb rfl;exact yb rfl;(repeat (with_reducible first|exact yf|apply ye));rfl;(focus (simp;done));(repeat (with_reducible first|exact Upd.hd|apply Upd.tl));rfl;exact sz80;rfl;clear hS;intro w hS;(try simp only [yo, q2, q3] at hS);(try simp only [Act.put,q1,q2,q3]))|(go_at_call 133;refine (LC _ _ hS).mono ?_;clear hS;rintro e w ⟨rfl, hS⟩)|(go_at_call 100;refine (DC _ _ hS).mono ?_;clear hS;rintro e w ⟨rfl, hS⟩))
            refine bodyPost_ret (yR rfl rfl (hS.loadWhole (by (repeat (with_reducible first | exact yf | apply ye))) (by kernel_rfl) (by kernel_rfl))) rfl ?_
            exact ⟨rfl, hS.sb (by (repeat (with_reducible first | exact Sb.refl | apply Sb.skip)))⟩
    · rw [if_neg hx] at e120
      have ht2 : t = .bad 131 := by
        rw [ht]
        split
        · rename_i h; exact absurd (List.cons.inj h).1 hx
        · rfl
      subst ht2
      clear ht hx
      generalize (c :: cs : List UInt8) = L at *
      clear h0
      go_enter Tryz.func135, Tryz.ntmps135
      go_wp2_with (first|((with_reducible apply yl hS);exact ya;exact z80;clear hS;intro NB w hS;(try simp only [Act.put,q1,q2,q3]))|(go_at_call 149;refine (WC _ _ hS).mono ?_;clear hS;rintro e w ⟨mb, rfl, hS⟩)|((with_reducible apply kw hS);(case hw => (with_reducible exact ya));(case hm => (exact yb rfl));(case hx => (exact yb rfl));(case K0 => exact KW);(case hmem => (((exact yf));(try assumption)));(case hf => exact HFW.out);(case hz => exact KM);(case hv => (simp only [if_true, if_false, Bool.false_eq_true, Option.map_some, Option.map_none, Option.getD_some, Option.getD_none, Option.isSome_some, Option.isSome_none];rfl));(try simp only [Act.put,q1,q2,q3]))|((with_reducible apply yk hS);exact ya;exact yb rfl;exact yb rfl;(repeat (with_reducible first|exact yf|apply ye));rfl;(focus (simp;done));(repeat (with_reducible first|exact Upd.hd|apply Upd.tl));rfl;exact sz80;rfl;clear hS;intro w hS;(try simp only [yo, q2, q3] at hS);(try simp only [Act.put,q1,q2,q3])))
      refine bodyPost_ret (yR rfl rfl (hS.loadWhole (by (repeat (with_reducible first | exact yf | apply ye))) (by kernel_rfl) (by kernel_rfl))) rfl ?_
      exact ⟨rfl, hS.sb (by (repeat (with_reducible first | exact Sb.refl | apply Sb.skip)))⟩
end
end Go.Proofs.YthackanffcaejaaGreatDoor
