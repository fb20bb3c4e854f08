/- The place of a byte in a text: line and column: the engine's and the document's. -/
import Derived.Test.YthackanffcaejaaDoorCl3
import Derived.Test.YthackanffcaejaaDoorShelf
import Derived.Test.YthackanffcaejaaDoorTy
import Derived.Test.YthackanffcaejaaDoorMore
import Derived.Lib.LastIndexByte
set_option linter.unusedSimpArgs false
set_option linter.unusedVariables false
set_option maxRecDepth 20000
namespace Go.Proofs.YthackanffcaejaaDoor
open Go Go.RowKit Go.SL Go.ClauseP

def spotF (t : List UInt8) : Nat × Nat := t.foldl (fun p c => if c = 10 then (p.1 + 1, 1) else (p.1, p.2 + 1)) (1, 1)
/-- The place of byte k. -/
def spotP (s : List UInt8) (k : Nat) : Nat × Nat := spotF (s.take k)
theorem spotF_snoc (t : List UInt8) (c : UInt8) : spotF (t ++ [c]) = if c = 10 then ((spotF t).1 + 1, 1) else ((spotF t).1, (spotF t).2 + 1) := by simp [spotF]
theorem spot_succ {s : List UInt8} {k : Nat} {c : UInt8} (h : s[k]? = some c) : spotP s (k + 1) = if c = 10 then ((spotP s k).1 + 1, 1) else ((spotP s k).1, (spotP s k).2 + 1) := by
  rw [spotP, List.take_add_one, h]
  exact spotF_snoc _ _
theorem lastIdx_pre (t : List UInt8) (c : UInt8) (z : Int) : ∀ k, k ≤ t.length → Lib.lastIdx ⟨(t ++ [c]).toArray⟩ z k = Lib.lastIdx ⟨t.toArray⟩ z k
  | 0, _ => rfl
  | k + 1, h => by
    have e : (⟨(t ++ [c]).toArray⟩ : ByteArray).data[k]! = (⟨t.toArray⟩ : ByteArray).data[k]! := by
      have h1 : k < t.length := by omega
      have h2 : k < (t ++ [c]).length := by simp; omega
      have e1 : (t ++ [c])[k]? = some t[k] := by rw [List.getElem?_append_left h1]; exact List.getElem?_eq_getElem h1
      simp [getElem!_pos, h1, h2, e1]
    unfold Lib.lastIdx
    rw [e, lastIdx_pre t c z k (by omega)]
theorem spotF_is : ∀ (n : Nat) (t : List UInt8), t.length = n → ((spotF t).1 = 1 + t.count 10 ∧ ((spotF t).2 : Int) = t.length - Lib.lastIdx ⟨t.toArray⟩ 10 t.length)
  | 0, t, h => by
    obtain rfl : t = [] := List.length_eq_zero_iff.1 h
    exact ⟨rfl, rfl⟩
  | n + 1, t, h => by
    have hne : t ≠ [] := by intro e; rw [e] at h; cases h
    obtain ⟨u, c, rfl⟩ : ∃ u c, t = u ++ [c] := ⟨t.dropLast, t.getLast hne, (List.dropLast_concat_getLast hne).symm⟩
    have hu : u.length = n := by simpa using h
    obtain ⟨i1, i2⟩ := spotF_is n u hu
    have hlast : (⟨(u ++ [c]).toArray⟩ : ByteArray).data[u.length]! = c := by simp
    have hl : (u ++ [c]).length = u.length + 1 := by simp
    rw [spotF_snoc, hl]
    unfold Lib.lastIdx
    rw [hlast, lastIdx_pre u c 10 u.length (Nat.le_refl _)]
    by_cases h10 : c = 10
    · subst h10
      refine ⟨by simp [i1]; omega, by simp; omega⟩
    · have hc : ¬ ((c.toNat : Int) = 10) := fun e => h10 (UInt8.toNat_inj.1 (by have : (10 : UInt8).toNat = 10 := rfl; omega))
      rw [if_neg h10, if_neg hc]
      refine ⟨by simp [i1, h10], ?_⟩
      simp only
      rw [Int.natCast_add, i2]
      omega
theorem spot_bd (s : List UInt8) (k : Nat) : (spotP s k).1 ≤ 1 + k ∧ (spotP s k).2 ≤ 1 + k := by
  have : ∀ t : List UInt8, (spotF t).1 ≤ 1 + t.length ∧ (spotF t).2 ≤ 1 + t.length := by
    intro t
    have : ∀ (t : List UInt8) (p : Nat × Nat), (t.foldl (fun p c => if c = 10 then (p.1 + 1, 1) else (p.1, p.2 + 1)) p).1 ≤ p.1 + t.length ∧ (t.foldl (fun (p : Nat × Nat) c => if c = 10 then (p.1 + 1, 1) else (p.1, p.2 + 1)) p).2 ≤ max p.2 1 + t.length := by
      intro t
      induction t with
      | nil => intro p; simp; omega
      | cons c t ih =>
        intro p
        simp only [List.foldl_cons, List.length_cons]
        split
        · have := ih (p.1 + 1, 1); simp only at this; omega
        · have := ih (p.1, p.2 + 1); simp only at this; omega
    have := this t (1, 1)
    simpa [spotF] using this
  have h := this (s.take k)
  have : (s.take k).length ≤ k := List.length_take_le _ _
  unfold spotP
  omega
theorem placeC (text : List UInt8) (k : Nat) (hk : k ≤ text.length) (hl : text.length ≤ 1048576) (w0 w : World) (Hs : List HP) (hS : Sat w0 w Hs) :
    Calls Tryd.prog 33 #[.string ⟨text.toArray⟩, .int .i64 k] w fun e w' => e = .returned (.agg #[.int .i64 ((spotP text k).1 : Int), .int .i64 ((spotP text k).2 : Int)]) ∧ Sat w0 w' Hs := by
  obtain ⟨p1, p2⟩ := spotF_is _ (text.take k) rfl
  have ht : (text.take k).length = k := by rw [List.length_take]; omega
  obtain ⟨b1, b2⟩ := spot_bd text k
  rw [ht] at p2
  have hex : (⟨text.toArray⟩ : ByteArray).extract 0 k = ⟨(text.take k).toArray⟩ := by
    apply ByteArray.ext
    simp [ByteArray.data_extract, List.extract_eq_take_drop]
  have CN := Tryd.strings_Count_one ⟨(text.take k).toArray⟩ 10
  have LI := Tryd.strings_LastIndexByte ⟨(text.take k).toArray⟩ 10 (by simp [ByteArray.size]; omega)
  simp only [List.toList_toArray] at CN
  unfold Lib.lastIndexByte at LI
  rw [show (⟨(text.take k).toArray⟩ : ByteArray).size = k by simp [ByteArray.size]; omega] at LI
  unfold Lib.countByte at CN
  unfold spotP at b1 b2 ⊢
  generalize (spotF (text.take k)).1 = a at *
  generalize (spotF (text.take k)).2 = b at *
  generalize hq : Lib.lastIdx ⟨(text.take k).toArray⟩ 10 k = q at *
  generalize hz : (text.take k).count 10 = z at *
  have E1 := hid (show (1 : Int) + (z : Int) = (a : Int) by omega)
  have E2 := hid (show (k : Int) - q = (b : Int) by omega)
  have q1 : -1 ≤ q := by
    rcases Lib.lastIdx_spec ⟨(text.take k).toArray⟩ 10 k with h | ⟨i, _, h, _⟩ <;> omega
  have q2 : q ≤ k := by omega
  have z1 : (z : Int) ≤ 1048576 := by omega
  rw [← hex] at CN LI
  clear p1 p2 hq hz hex ht
  have hkl : (k : Int) ≤ (text.length : Int) := by omega
  go_enter Tryd.func33, Tryd.ntmps33
  go_wp2_with (first | ((with_reducible apply (arm_alloc hS)); (first | with_reducible exact wanted_none | exact wanted_guard rfl rfl); (first | with_reducible exact z1 | with_reducible exact z2 | with_reducible exact z3 | with_reducible exact z4 | with_reducible exact z5 | with_reducible exact z6 | with_reducible exact z7 | with_reducible exact z8 | with_reducible exact z9 | with_reducible exact z10 | with_reducible exact z11 | with_reducible exact z12 | with_reducible exact z13 | with_reducible exact z14 | with_reducible exact z15 | with_reducible exact z16 | with_reducible exact z17 | with_reducible exact z18 | with_reducible exact z19 | with_reducible exact z20 | with_reducible exact z21 | with_reducible exact z22 | with_reducible exact z23 | with_reducible exact z24 | with_reducible exact z25 | with_reducible exact z27 | with_reducible exact z28 | with_reducible exact z29 | with_reducible exact z30 | with_reducible exact z31 | with_reducible exact z32 | with_reducible exact z33 | with_reducible exact z35 | with_reducible exact z36 | with_reducible exact z37 | with_reducible exact z38 | with_reducible exact z39 | with_reducible exact z40 | with_reducible exact z42 | with_reducible exact z43 | with_reducible exact z45 | with_reducible exact z46 | with_reducible exact z47 | with_reducible exact z48 | with_reducible exact z49 | with_reducible exact z50 | with_reducible exact z51 | with_reducible exact z53 | with_reducible exact z54 | with_reducible exact z55 | with_reducible exact z56 | with_reducible exact z57 | with_reducible exact z58 | with_reducible exact z59 | with_reducible exact z60 | with_reducible exact z61 | with_reducible exact z63 | with_reducible exact z64 | with_reducible exact z66 | with_reducible exact z67 | with_reducible exact z68 | with_reducible exact z69 | with_reducible exact z70 | with_reducible exact z71 | with_reducible exact z72 | with_reducible exact z73 | with_reducible exact z75 | with_reducible exact z76 | with_reducible exact z77 | with_reducible exact z78 | with_reducible exact z79 | with_reducible exact z80 | with_reducible exact z81 | with_reducible exact z82 | with_reducible exact z84 | with_reducible exact z85 | with_reducible exact z86 | with_reducible exact z87 | with_reducible exact z88 | with_reducible exact z89 | with_reducible exact z90 | with_reducible exact z91 | with_reducible exact z92 | with_reducible exact z93 | with_reducible exact z94 | with_reducible exact z95 | with_reducible exact z96 | with_reducible exact z97 | with_reducible exact z98 | with_reducible exact z99 | with_reducible exact z100 | with_reducible exact z101 | with_reducible exact z102 | with_reducible exact z103 | with_reducible exact z104 | with_reducible exact z105 | with_reducible exact z106 | with_reducible exact z107 | with_reducible exact z108 | with_reducible exact z109 | with_reducible exact z110 | with_reducible exact z111 | with_reducible exact z112 | with_reducible exact z113 | with_reducible exact z114 | with_reducible exact z115 | with_reducible exact z116 | with_reducible exact z117 | with_reducible exact z118 | with_reducible exact z119 | with_reducible exact z120 | with_reducible exact z121 | with_reducible exact z122 | with_reducible exact z123 | with_reducible exact z124 | with_reducible exact z125 | with_reducible exact z126 | with_reducible exact z127 | with_reducible exact z128 | with_reducible exact z129 | with_reducible exact z130 | with_reducible exact z131 | with_reducible exact z132 | with_reducible exact z133 | with_reducible exact z134 | with_reducible exact z135 | with_reducible exact z136 | with_reducible exact z137 | with_reducible exact z138 | with_reducible exact z139 | with_reducible exact z140 | with_reducible exact z141 | with_reducible exact z142 | with_reducible exact z143 | with_reducible exact z144 | with_reducible exact z146 | with_reducible exact z147 | with_reducible exact z148 | with_reducible exact z149 | with_reducible exact z150 | with_reducible exact z151 | with_reducible exact z153 | with_reducible exact z154 | with_reducible exact z156 | with_reducible exact z157 | with_reducible exact z158 | with_reducible exact z159 | with_reducible exact z160 | with_reducible exact z161 | with_reducible exact z162 | with_reducible exact z163 | with_reducible exact z164 | with_reducible exact z165 | with_reducible exact z166 | with_reducible exact z167 | with_reducible exact z169 | with_reducible exact z170 | with_reducible exact z171 | with_reducible exact z172 | with_reducible exact z173 | with_reducible exact z174 | with_reducible exact z175 | with_reducible exact z176 | with_reducible exact z177 | with_reducible exact z178 | with_reducible exact z180 | with_reducible exact z182 | with_reducible exact z184 | with_reducible exact z185 | with_reducible exact z186 | with_reducible exact z187 | with_reducible exact z188 | with_reducible exact z190 | with_reducible exact z191 | with_reducible exact z192 | with_reducible exact z193 | with_reducible exact z194 | with_reducible exact z195 | with_reducible exact z196 | with_reducible exact z197 | with_reducible exact z198 | with_reducible exact z199 | with_reducible exact z200 | with_reducible exact z201 | with_reducible exact z202 | with_reducible exact z204 | with_reducible exact z205 | with_reducible exact z206 | with_reducible exact z207 | with_reducible exact z208 | with_reducible exact z209 | with_reducible exact z210 | with_reducible exact z211 | with_reducible exact z212 | with_reducible exact z213 | with_reducible exact z217 | with_reducible exact z218 | with_reducible exact z219 | with_reducible exact z220 | with_reducible exact z221 | with_reducible exact z222 | with_reducible exact z223); clear hS; intro NB w hS; (try simp only [Act.put, List.setIfInBounds_toArray, List.set_cons_zero, List.set_cons_succ])) | (go_at_call 60; refine (CN _).mono ?_; rintro e w' ⟨rfl, rfl⟩) | (go_at_call 61; refine (LI _).mono ?_; rintro e w' ⟨rfl, rfl⟩) | ((with_reducible apply (arm_store hS)); (first | with_reducible exact wanted_none | exact wanted_guard rfl rfl); (first | exact ev_tmp rfl | exact ev_const); (first | exact ev_tmp rfl | exact ev_const); (repeat (first | with_reducible exact mem_hd | with_reducible apply mem_tl)); rfl; (first | (focus (simp; done)) | (simp; omega) | omega); (repeat (first | with_reducible exact Upd.hd | with_reducible apply Upd.tl)); rfl; decide +kernel; clear hS; intro w hS; (try simp only [List.set_cons_zero, List.set_cons_succ] at hS); (try simp only [Act.put, List.setIfInBounds_toArray, List.set_cons_zero, List.set_cons_succ])) | ((with_reducible apply (arm_storeN hS)); (first | with_reducible exact wanted_none | exact wanted_guard rfl rfl); (first | exact ev_tmp rfl | exact ev_const); (first | exact ev_tmp rfl | exact ev_const); (repeat (first | with_reducible exact mem_hd | with_reducible apply mem_tl)); rfl; (first | (focus (simp; done)) | (simp; omega) | omega); (repeat (first | with_reducible exact Upd.hd | with_reducible apply Upd.tl)); rfl; (first | with_reducible exact sz7 | with_reducible exact sz8 | with_reducible exact sz13 | with_reducible exact sz14 | with_reducible exact sz18 | with_reducible exact sz19 | with_reducible exact sz23 | with_reducible exact sz24 | with_reducible exact sz30 | with_reducible exact sz31 | with_reducible exact sz32 | with_reducible exact sz33 | with_reducible exact sz48 | with_reducible exact sz49 | with_reducible exact sz72 | with_reducible exact sz73 | with_reducible exact sz76 | with_reducible exact sz77 | with_reducible exact sz85 | with_reducible exact sz86 | with_reducible exact sz88 | with_reducible exact sz89 | with_reducible exact sz90 | with_reducible exact sz91 | with_reducible exact sz97 | with_reducible exact sz98 | with_reducible exact sz99 | with_reducible exact sz100 | with_reducible exact sz105 | with_reducible exact sz106 | with_reducible exact sz116 | with_reducible exact sz117 | with_reducible exact sz118 | with_reducible exact sz120 | with_reducible exact sz124 | with_reducible exact sz125 | with_reducible exact sz126 | with_reducible exact sz127 | with_reducible exact sz129 | with_reducible exact sz130 | with_reducible exact sz140 | with_reducible exact sz141 | with_reducible exact sz143 | with_reducible exact sz144 | with_reducible exact sz147 | with_reducible exact sz148 | with_reducible exact sz150 | with_reducible exact sz151 | with_reducible exact sz161 | with_reducible exact sz175 | with_reducible exact sz187 | with_reducible exact sz194 | with_reducible exact sz206 | with_reducible exact sz207 | with_reducible exact sz208 | with_reducible exact sz209 | with_reducible exact sz210 | with_reducible exact sz212 | with_reducible exact sz213 | with_reducible exact sz222 | with_reducible exact sz223); rfl; clear hS; intro w hS; (try simp only [setFrom, List.set_cons_zero, List.set_cons_succ] at hS); (try simp only [Act.put, List.setIfInBounds_toArray, List.set_cons_zero, List.set_cons_succ])))
  rw [E1.out, E2.out] at hS
  refine bodyPost_ret (results_cell1 rfl rfl (hS.loadWhole (by (repeat (first | with_reducible exact mem_hd | with_reducible apply mem_tl))) (by kernel_rfl) (by kernel_rfl))) rfl ?_
  exact ⟨rfl, hS.sb (by (repeat (first | with_reducible exact Sb.refl | with_reducible exact Sb.nil | (with_reducible refine Sb.take (by (repeat (first | with_reducible exact Rem.hd | with_reducible apply Rem.tl)); done) ?_) | with_reducible apply Sb.skip)))⟩
end Go.Proofs.YthackanffcaejaaDoor
