/- Other spellings: package stratalaw13's spelling. -/
import Derived.Test.YthackanffcaejaaGreatDoorS1
import Derived.Test.YthackanffcaejaaGreatDoorSSpl1
import Derived.Test.YthackanffcaejaaGreatDoorSBk10
import Derived.Test.YthackanffcaejaaGreatDoorSFewL0
set_option linter.unusedVariables false
set_option linter.unusedSimpArgs false
set_option maxRecDepth 20000
namespace Go.Proofs.YthackanffcaejaaGreatDoor
open Go Go.RowKit Go.SL Go.ClauseP Go.LexP

def spW (x : Int) (r : List UInt8) : List UInt8 × Nat := match spellW (revX x) r with
  | some p => (p.2, p.1.length)
  | none => ([], 0)
theorem find_drop {α : Type} (f : α → Bool) (l : List α) (m : Nat) (x : α) (h : l[m]? = some x) : (l.drop m).find? f = if f x then some x else (l.drop (m + 1)).find? f := by
  obtain ⟨h1, h2⟩ := List.getElem?_eq_some_iff.1 h
  rw [List.drop_eq_getElem_cons h1, h2, List.find?_cons]
  cases f x <;> rfl
theorem pre_iff (u s : List UInt8) (i : Nat) : u.isPrefixOf (s.drop i) = true ↔ i + u.length ≤ s.length + (if u = [] then i else 0) ∧ (s.take (i + u.length)).drop i = u := by
  rw [List.isPrefixOf_iff_prefix, List.drop_take, Nat.add_sub_cancel_left]
  constructor
  · rintro ⟨r, hr⟩
    have h1 := congrArg List.length hr
    rw [List.length_append, List.length_drop] at h1
    refine ⟨?_, by rw [← hr, List.take_left]⟩
    cases u with
    | nil => simp
    | cons a u => simp at h1 ⊢; omega
  · rintro ⟨_, h⟩
    refine ⟨(s.drop i).drop u.length, ?_⟩
    have e := List.take_append_drop u.length (s.drop i)
    rwa [h] at e
set_option maxHeartbeats 4000000 in
theorem spellingC (s : List UInt8) (hl : s.length ≤ 1048576) (i : Nat) (hi : i ≤ s.length) (x : Int) (w0 w : World) (Hs : List HP) (hS : Sat w0 w Hs) :
    Calls Tryz.prog 42 #[.string ⟨s.toArray⟩, .int .i64 i, .int .i64 x] w fun e w' => e = .returned (.tuple #[.string ⟨(spW x (s.drop i)).1.toArray⟩, .int .i64 ((spW x (s.drop i)).2 : Nat)]) ∧ Sat w0 w' Hs := by
  obtain ⟨R, hR⟩ : ∃ R, R = spW x (s.drop i) := ⟨_, rfl⟩
  rw [← hR]
  have HR := hid (show R = (match (listR (revX x)).find? fun p => p.1.isPrefixOf (s.drop i) with | some p => (p.2, p.1.length) | none => ([], 0)) from hR)
  clear hR
  obtain ⟨rev, hrev⟩ : ∃ rev, rev = revX x := ⟨_, rfl⟩
  rw [← hrev] at HR
  have hb : (bits .and .i64 x 1 == 1) = rev := hrev.symm
  clear hrev
  go_enter Tryz.func42, Tryz.ntmps42
  go_wp2_with (first | ((with_reducible apply (arm_buildK (wordsV) hS)); (first | with_reducible exact wanted_none | exact wanted_guard rfl rfl); (first | with_reducible exact E88); rfl; decide; decide; rfl; exact words_one; clear hS; intro NB w hS; (try simp only [Act.put, q1, q2, q3])))
  go_loopw [9] (fun kv wr => ∃ m q : Nat, kv = .int .i64 q ∧ Hid (q = 2 * m) ∧ m ≤ 13 ∧ Hid (((listR rev).drop m).find? (fun p => p.1.isPrefixOf (s.drop i)) = (listR rev).find? fun p => p.1.isPrefixOf (s.drop i)) ∧ Sat w0 wr (own 9 1 (some ⟨NB, 0, none⟩) 26 26 wordsV :: Hs)) (fun kv _ => 30 - (intOf kv).toNat)
  case atStart => exact ⟨0, 0, rfl, hid rfl, by omega, hid rfl, hS⟩
  case round =>
    clear hS
    obtain ⟨m, q, rfl, HQ, hm, HF, hS⟩ := hrel
    by_cases hlt : m < 13
    · obtain ⟨p, hp1, hp2, hw1, hw2⟩ := words_at rev m hlt
      obtain ⟨z1, z2, z3⟩ := words_small p hp2
      have FD := find_drop (fun p : List UInt8 × List UInt8 => p.1.isPrefixOf (s.drop i)) (listR rev) m p hp1
      have hpre := pre_iff p.1 s i
      obtain ⟨J, hJ⟩ : ∃ J, J = if rev then 24 - 2 * m else 2 * m := ⟨_, rfl⟩
      rw [← hJ] at hw1 hw2
      have hJ1 : J + 1 < 26 := by rw [hJ]; split <;> omega
      have hJr : rev = true → (24 : Int) - (q : Int) = (J : Int) := fun e => by have := HQ.out; rw [hJ, if_pos e]; omega
      have hJf : rev = false → J = q := fun e => by have := HQ.out; rw [hJ, if_neg (by rw [e]; decide)]; omega
      clear hJ hp1 hp2
      obtain ⟨u, v⟩ := p
      dsimp only at *
      have hq1 : q + 1 < 26 := by have := HQ.out; omega
      have hHR : u.isPrefixOf (s.drop i) = true → R = (v, u.length) := fun e => by
        rw [HR.out, ← HF.out, FD, if_pos e]
      have hHF : u.isPrefixOf (s.drop i) = false → (((listR rev).drop (m + 1)).find? (fun p => p.1.isPrefixOf (s.drop i)) = (listR rev).find? fun p => p.1.isPrefixOf (s.drop i)) := fun e => by
        rw [← HF.out, FD, if_neg (by rw [e]; decide)]
      clear FD HF
      have hil : (i : Int) ≤ (s.length : Int) := by omega
      by_cases hfit : i + u.length ≤ s.length
      · have hfi : (i : Int) + (u.length : Int) ≤ (s.length : Int) := by omega
        have hin : ((i : Int) + (u.length : Int)).toNat = i + u.length := by omega
        have hi0 : (0 : Int) ≤ (i : Int) + (u.length : Int) := by omega
        have hx := ex_midS s i (i + u.length)
        by_cases hpf : u.isPrefixOf (s.drop i) = true
        · have HRR := hid (hHR hpf)
          rw [hpre.1 hpf |>.2] at hx
          clear hHR hHF hpre hpf HQ
          cases rev with
          | false =>
            obtain rfl := (hJf rfl).symm
            clear hJf hJr
            go_wp2_with (first | ((with_reducible apply arm_indexAddr); (first | with_reducible exact wanted_none | exact wanted_guard rfl rfl); (first | exact ev_tmp rfl | exact ev_const); (first | exact ev_tmp rfl | exact ev_const); (first | with_reducible exact E88); (first | omega | (focus (simp; done)) | (simp; omega)); (first | omega | (focus (simp; done)) | (simp; omega)); (first | exact hS.ownNN (by (repeat (with_reducible first | exact mem_hd | apply mem_tl))) (by omega) | exact Sat.rdAd2 (by assumption) hS (by ((repeat (with_reducible first | exact mem_hd | apply mem_tl))); try assumption) (by first | (simp only [Is_length, Bs_length, List.length_take, List.length_drop]; omega) | omega | (simp; omega) | (simp; done)) | assumption); (first | (simp only [Int.toNat_natCast, Nat.mul_one, Nat.zero_add, tn_sub, tn_sub1, tn_sub2, tn_sub3, tn_add, tn_add1, tn_add2]; rfl) | rfl); (try simp only [Act.put, q1, q2, q3])) | ((with_reducible apply arm_loadE); (first | with_reducible exact wanted_none | exact wanted_guard rfl rfl); (first | exact ev_tmp rfl | exact ev_const); (first | exact (hS.ownCell (by (repeat (with_reducible first | exact mem_hd | apply mem_tl))) (by (first | assumption | exact Is_at (by assumption) | exact Bs_at (by assumption) | rfl | (simp; done)))).1 | exact Sat.rdCell2 (by assumption) hS (by ((repeat (with_reducible first | exact mem_hd | apply mem_tl))); try assumption) (by (first | assumption | exact Is_at (by assumption) | exact Bs_at (by assumption) | rfl | (simp; done)))); decide +kernel; (try simp only [Act.put, q1, q2, q3])))
            go_ret2
            exact ⟨by rw [HRR.out]; rfl, hS.drop⟩
          | true =>
            have hJk := hJr rfl
            clear hJf hJr
            go_wp2_with (first | ((with_reducible apply arm_indexAddr); (first | with_reducible exact wanted_none | exact wanted_guard rfl rfl); (first | exact ev_tmp rfl | exact ev_const); (first | exact ev_tmp rfl | exact ev_const); (first | with_reducible exact E88); (first | omega | (focus (simp; done)) | (simp; omega)); (first | omega | (focus (simp; done)) | (simp; omega)); (first | exact hS.ownNN (by (repeat (with_reducible first | exact mem_hd | apply mem_tl))) (by omega) | exact Sat.rdAd2 (by assumption) hS (by ((repeat (with_reducible first | exact mem_hd | apply mem_tl))); try assumption) (by first | (simp only [Is_length, Bs_length, List.length_take, List.length_drop]; omega) | omega | (simp; omega) | (simp; done)) | assumption); (first | (simp only [Int.toNat_natCast, Nat.mul_one, Nat.zero_add, tn_sub, tn_sub1, tn_sub2, tn_sub3, tn_add, tn_add1, tn_add2]; rfl) | rfl); (try simp only [Act.put, q1, q2, q3])) | ((with_reducible apply arm_loadE); (first | with_reducible exact wanted_none | exact wanted_guard rfl rfl); (first | exact ev_tmp rfl | exact ev_const); (first | exact (hS.ownCell (by (repeat (with_reducible first | exact mem_hd | apply mem_tl))) (by (first | assumption | exact Is_at (by assumption) | exact Bs_at (by assumption) | rfl | (simp; done)))).1 | exact Sat.rdCell2 (by assumption) hS (by ((repeat (with_reducible first | exact mem_hd | apply mem_tl))); try assumption) (by (first | assumption | exact Is_at (by assumption) | exact Bs_at (by assumption) | rfl | (simp; done)))); decide +kernel; (try simp only [Act.put, q1, q2, q3])))
            go_ret2
            exact ⟨by rw [HRR.out]; rfl, hS.drop⟩
        · have HF2 := hid (hHF (Bool.eq_false_iff.2 hpf))
          have hA : (s.take (i + u.length)).drop i ≠ u := fun e => hpf (hpre.2 ⟨by omega, e⟩)
          generalize (s.take (i + u.length)).drop i = A at *
          have hAb : (A == u) = false := beq_eq_false_iff_ne.2 hA
          clear hHR hHF hpre hpf hA
          cases rev with
          | false =>
            obtain rfl := (hJf rfl).symm
            clear hJf hJr
            go_wp2_with (first | ((with_reducible apply arm_indexAddr); (first | with_reducible exact wanted_none | exact wanted_guard rfl rfl); (first | exact ev_tmp rfl | exact ev_const); (first | exact ev_tmp rfl | exact ev_const); (first | with_reducible exact E88); (first | omega | (focus (simp; done)) | (simp; omega)); (first | omega | (focus (simp; done)) | (simp; omega)); (first | exact hS.ownNN (by (repeat (with_reducible first | exact mem_hd | apply mem_tl))) (by omega) | exact Sat.rdAd2 (by assumption) hS (by ((repeat (with_reducible first | exact mem_hd | apply mem_tl))); try assumption) (by first | (simp only [Is_length, Bs_length, List.length_take, List.length_drop]; omega) | omega | (simp; omega) | (simp; done)) | assumption); (first | (simp only [Int.toNat_natCast, Nat.mul_one, Nat.zero_add, tn_sub, tn_sub1, tn_sub2, tn_sub3, tn_add, tn_add1, tn_add2]; rfl) | rfl); (try simp only [Act.put, q1, q2, q3])) | ((with_reducible apply arm_loadE); (first | with_reducible exact wanted_none | exact wanted_guard rfl rfl); (first | exact ev_tmp rfl | exact ev_const); (first | exact (hS.ownCell (by (repeat (with_reducible first | exact mem_hd | apply mem_tl))) (by (first | assumption | exact Is_at (by assumption) | exact Bs_at (by assumption) | rfl | (simp; done)))).1 | exact Sat.rdCell2 (by assumption) hS (by ((repeat (with_reducible first | exact mem_hd | apply mem_tl))); try assumption) (by (first | assumption | exact Is_at (by assumption) | exact Bs_at (by assumption) | rfl | (simp; done)))); decide +kernel; (try simp only [Act.put, q1, q2, q3])))
            go_roundw
            case rel => exact ⟨m + 1, q + 2, by go_num, hid (by have := HQ.out; omega), by omega, HF2, hS⟩
            case measure => simp [intOf]; omega
          | true =>
            have hJk := hJr rfl
            clear hJf hJr
            go_wp2_with (first | ((with_reducible apply arm_indexAddr); (first | with_reducible exact wanted_none | exact wanted_guard rfl rfl); (first | exact ev_tmp rfl | exact ev_const); (first | exact ev_tmp rfl | exact ev_const); (first | with_reducible exact E88); (first | omega | (focus (simp; done)) | (simp; omega)); (first | omega | (focus (simp; done)) | (simp; omega)); (first | exact hS.ownNN (by (repeat (with_reducible first | exact mem_hd | apply mem_tl))) (by omega) | exact Sat.rdAd2 (by assumption) hS (by ((repeat (with_reducible first | exact mem_hd | apply mem_tl))); try assumption) (by first | (simp only [Is_length, Bs_length, List.length_take, List.length_drop]; omega) | omega | (simp; omega) | (simp; done)) | assumption); (first | (simp only [Int.toNat_natCast, Nat.mul_one, Nat.zero_add, tn_sub, tn_sub1, tn_sub2, tn_sub3, tn_add, tn_add1, tn_add2]; rfl) | rfl); (try simp only [Act.put, q1, q2, q3])) | ((with_reducible apply arm_loadE); (first | with_reducible exact wanted_none | exact wanted_guard rfl rfl); (first | exact ev_tmp rfl | exact ev_const); (first | exact (hS.ownCell (by (repeat (with_reducible first | exact mem_hd | apply mem_tl))) (by (first | assumption | exact Is_at (by assumption) | exact Bs_at (by assumption) | rfl | (simp; done)))).1 | exact Sat.rdCell2 (by assumption) hS (by ((repeat (with_reducible first | exact mem_hd | apply mem_tl))); try assumption) (by (first | assumption | exact Is_at (by assumption) | exact Bs_at (by assumption) | rfl | (simp; done)))); decide +kernel; (try simp only [Act.put, q1, q2, q3])))
            go_roundw
            case rel => exact ⟨m + 1, q + 2, by go_num, hid (by have := HQ.out; omega), by omega, HF2, hS⟩
            case measure => simp [intOf]; omega
      · have hpf : ¬ u.isPrefixOf (s.drop i) = true := fun e => by
          have h1 := (hpre.1 e).1
          have : u ≠ [] := fun e => by rw [e] at z2; simp at z2
          rw [if_neg this] at h1; omega
        have HF2 := hid (hHF (Bool.eq_false_iff.2 hpf))
        have hfi : ¬ (i : Int) + (u.length : Int) ≤ (s.length : Int) := by omega
        clear hHR hHF hpre hpf hfit
        cases rev with
        | false =>
          obtain rfl := (hJf rfl).symm
          clear hJf hJr
          go_wp2_with (first | ((with_reducible apply arm_indexAddr); (first | with_reducible exact wanted_none | exact wanted_guard rfl rfl); (first | exact ev_tmp rfl | exact ev_const); (first | exact ev_tmp rfl | exact ev_const); (first | with_reducible exact E88); (first | omega | (focus (simp; done)) | (simp; omega)); (first | omega | (focus (simp; done)) | (simp; omega)); (first | exact hS.ownNN (by (repeat (with_reducible first | exact mem_hd | apply mem_tl))) (by omega) | exact Sat.rdAd2 (by assumption) hS (by ((repeat (with_reducible first | exact mem_hd | apply mem_tl))); try assumption) (by first | (simp only [Is_length, Bs_length, List.length_take, List.length_drop]; omega) | omega | (simp; omega) | (simp; done)) | assumption); (first | (simp only [Int.toNat_natCast, Nat.mul_one, Nat.zero_add, tn_sub, tn_sub1, tn_sub2, tn_sub3, tn_add, tn_add1, tn_add2]; rfl) | rfl); (try simp only [Act.put, q1, q2, q3])) | ((with_reducible apply arm_loadE); (first | with_reducible exact wanted_none | exact wanted_guard rfl rfl); (first | exact ev_tmp rfl | exact ev_const); (first | exact (hS.ownCell (by (repeat (with_reducible first | exact mem_hd | apply mem_tl))) (by (first | assumption | exact Is_at (by assumption) | exact Bs_at (by assumption) | rfl | (simp; done)))).1 | exact Sat.rdCell2 (by assumption) hS (by ((repeat (with_reducible first | exact mem_hd | apply mem_tl))); try assumption) (by (first | assumption | exact Is_at (by assumption) | exact Bs_at (by assumption) | rfl | (simp; done)))); decide +kernel; (try simp only [Act.put, q1, q2, q3])))
          go_roundw
          case rel => exact ⟨m + 1, q + 2, by go_num, hid (by have := HQ.out; omega), by omega, HF2, hS⟩
          case measure => simp [intOf]; omega
        | true =>
          have hJk := hJr rfl
          clear hJf hJr
          go_wp2_with (first | ((with_reducible apply arm_indexAddr); (first | with_reducible exact wanted_none | exact wanted_guard rfl rfl); (first | exact ev_tmp rfl | exact ev_const); (first | exact ev_tmp rfl | exact ev_const); (first | with_reducible exact E88); (first | omega | (focus (simp; done)) | (simp; omega)); (first | omega | (focus (simp; done)) | (simp; omega)); (first | exact hS.ownNN (by (repeat (with_reducible first | exact mem_hd | apply mem_tl))) (by omega) | exact Sat.rdAd2 (by assumption) hS (by ((repeat (with_reducible first | exact mem_hd | apply mem_tl))); try assumption) (by first | (simp only [Is_length, Bs_length, List.length_take, List.length_drop]; omega) | omega | (simp; omega) | (simp; done)) | assumption); (first | (simp only [Int.toNat_natCast, Nat.mul_one, Nat.zero_add, tn_sub, tn_sub1, tn_sub2, tn_sub3, tn_add, tn_add1, tn_add2]; rfl) | rfl); (try simp only [Act.put, q1, q2, q3])) | ((with_reducible apply arm_loadE); (first | with_reducible exact wanted_none | exact wanted_guard rfl rfl); (first | exact ev_tmp rfl | exact ev_const); (first | exact (hS.ownCell (by (repeat (with_reducible first | exact mem_hd | apply mem_tl))) (by (first | assumption | exact Is_at (by assumption) | exact Bs_at (by assumption) | rfl | (simp; done)))).1 | exact Sat.rdCell2 (by assumption) hS (by ((repeat (with_reducible first | exact mem_hd | apply mem_tl))); try assumption) (by (first | assumption | exact Is_at (by assumption) | exact Bs_at (by assumption) | rfl | (simp; done)))); decide +kernel; (try simp only [Act.put, q1, q2, q3])))
          go_roundw
          case rel => exact ⟨m + 1, q + 2, by go_num, hid (by have := HQ.out; omega), by omega, HF2, hS⟩
          case measure => simp [intOf]; omega
    · have HRR := hid (show R = ([], 0) by
        have e := HF.out
        rw [show (listR rev).drop m = [] from List.drop_eq_nil_of_le (by cases rev <;> (show 13 ≤ m; omega))] at e
        rw [HR.out, ← e]; rfl)
      clear HF
      have hq13 : q = 26 := by have := HQ.out; omega
      clear HQ
      subst hq13
      go_wp2
      go_ret2
      exact ⟨by rw [HRR.out]; rfl, hS.drop⟩
end Go.Proofs.YthackanffcaejaaGreatDoor
