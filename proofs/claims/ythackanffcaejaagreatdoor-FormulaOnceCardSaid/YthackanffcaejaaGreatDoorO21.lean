/- A part of the proof: Form6c Form6 Form7. -/
import Derived.Test.YthackanffcaejaaGreatDoorO1
import Derived.Test.YthackanffcaejaaGreatDoorO2
import Derived.Test.YthackanffcaejaaGreatDoorO3
import Derived.Test.YthackanffcaejaaGreatDoorO7
import Derived.Test.YthackanffcaejaaGreatDoorO9
import Derived.Test.YthackanffcaejaaGreatDoorO20
set_option linter.unusedSimpArgs false
set_option linter.unusedVariables false
set_option linter.unusedSectionVars false
namespace Go.Proofs.YthackanffcaejaaGreatDoor
section
set_option maxRecDepth 20000
open Go Go.RowKit Go.SL

set_option maxHeartbeats 4000000 in
theorem ar14 (op : Int) (k1 : (op == 1) = false) (k2 : (op == 2) = false) (k3 : (op == 3) = false) (k4 : (op == 4) = false) (k5 : (op == 5) = false) (k6 : decide (6 ≤ op) = true) (k7 : decide (op ≤ 10) = true) (w0 w : World) (Hs : List HP) (hS : Sat w0 w Hs) : Calls Tryz.prog 68 #[.agg #[.int .i64 op, .int .i64 0]] w fun e w' => e = .returned (.int .i64 (2)) ∧ Sat w0 w' Hs := by
    go_enter Tryz.func68, Tryz.ntmps68
    go_wp2_with (((with_reducible apply yY hS);exact ya;exact yb rfl;exact yt;clear hS;intro NB w hS;(try simp only [Act.put,q1,q2,q3]));have c0 := hS.cell yf (off := 0) rfl;have c1 := hS.cell yf (off := 1) rfl)
    go_ret
    exact ⟨rfl, hS.drop⟩
set_option maxHeartbeats 4000000 in
theorem ar15 (op n : Int) (g0 : (n == 0) = false) (k1 : (op == 1) = false) (k2 : (op == 2) = false) (k3 : (op == 3) = false) (k4 : (op == 4) = false) (k5 : (op == 5) = false) (k11 : (op == 11) = false) (k6 : decide (6 ≤ op) = true) (k7 : decide (op ≤ 10) = true) (w0 w : World) (Hs : List HP) (hS : Sat w0 w Hs) : Calls Tryz.prog 68 #[.agg #[.int .i64 op, .int .i64 n]] w fun e w' => e = .returned (.int .i64 (-1)) ∧ Sat w0 w' Hs := by
    go_enter Tryz.func68, Tryz.ntmps68
    go_wp2_with (((with_reducible apply yY hS);exact ya;exact yb rfl;exact yt;clear hS;intro NB w hS;(try simp only [Act.put,q1,q2,q3]));have c0 := hS.cell yf (off := 0) rfl;have c1 := hS.cell yf (off := 1) rfl)
    go_ret
    exact ⟨rfl, hS.drop⟩
set_option maxHeartbeats 4000000 in
theorem ar16   (w0 w : World) (Hs : List HP) (hS : Sat w0 w Hs) : Calls Tryz.prog 68 #[.agg #[.int .i64 11, .int .i64 0]] w fun e w' => e = .returned (.int .i64 (3)) ∧ Sat w0 w' Hs := by
    go_enter Tryz.func68, Tryz.ntmps68
    go_wp2_with (((with_reducible apply yY hS);exact ya;exact yb rfl;exact yt;clear hS;intro NB w hS;(try simp only [Act.put,q1,q2,q3]));have c0 := hS.cell yf (off := 0) rfl;have c1 := hS.cell yf (off := 1) rfl)
    go_ret
    exact ⟨rfl, hS.drop⟩
set_option maxHeartbeats 4000000 in
theorem ar17 (n : Int) (g0 : (n == 0) = false) (w0 w : World) (Hs : List HP) (hS : Sat w0 w Hs) : Calls Tryz.prog 68 #[.agg #[.int .i64 11, .int .i64 n]] w fun e w' => e = .returned (.int .i64 (-1)) ∧ Sat w0 w' Hs := by
    go_enter Tryz.func68, Tryz.ntmps68
    go_wp2_with (((with_reducible apply yY hS);exact ya;exact yb rfl;exact yt;clear hS;intro NB w hS;(try simp only [Act.put,q1,q2,q3]));have c0 := hS.cell yf (off := 0) rfl;have c1 := hS.cell yf (off := 1) rfl)
    go_ret
    exact ⟨rfl, hS.drop⟩
set_option maxHeartbeats 4000000 in
theorem ar18 (op n : Int) (k1 : (op == 1) = false) (k2 : (op == 2) = false) (k3 : (op == 3) = false) (k4 : (op == 4) = false) (k5 : (op == 5) = false) (k11 : (op == 11) = false) (k6 : decide (6 ≤ op) = false) (w0 w : World) (Hs : List HP) (hS : Sat w0 w Hs) : Calls Tryz.prog 68 #[.agg #[.int .i64 op, .int .i64 n]] w fun e w' => e = .returned (.int .i64 (-1)) ∧ Sat w0 w' Hs := by
    go_enter Tryz.func68, Tryz.ntmps68
    go_wp2_with (((with_reducible apply yY hS);exact ya;exact yb rfl;exact yt;clear hS;intro NB w hS;(try simp only [Act.put,q1,q2,q3]));have c0 := hS.cell yf (off := 0) rfl;have c1 := hS.cell yf (off := 1) rfl)
    go_ret
    exact ⟨rfl, hS.drop⟩
set_option maxHeartbeats 4000000 in
theorem ar19 (op n : Int) (k1 : (op == 1) = false) (k2 : (op == 2) = false) (k3 : (op == 3) = false) (k4 : (op == 4) = false) (k5 : (op == 5) = false) (k11 : (op == 11) = false) (k6 : decide (6 ≤ op) = true) (k7 : decide (op ≤ 10) = false) (w0 w : World) (Hs : List HP) (hS : Sat w0 w Hs) : Calls Tryz.prog 68 #[.agg #[.int .i64 op, .int .i64 n]] w fun e w' => e = .returned (.int .i64 (-1)) ∧ Sat w0 w' Hs := by
    go_enter Tryz.func68, Tryz.ntmps68
    go_wp2_with (((with_reducible apply yY hS);exact ya;exact yb rfl;exact yt;clear hS;intro NB w hS;(try simp only [Act.put,q1,q2,q3]));have c0 := hS.cell yf (off := 0) rfl;have c1 := hS.cell yf (off := 1) rfl)
    go_ret
    exact ⟨rfl, hS.drop⟩
end
section
set_option maxRecDepth 20000
open Go Go.RowKit Go.SL

theorem arity (op n : Int) (w0 w : World) (Hs : List HP) (hS : Sat w0 w Hs) :
    Calls Tryz.prog 68 #[.agg #[.int .i64 op, .int .i64 n]] w fun e w' => e = .returned (.int .i64 (Ya op n)) ∧ Sat w0 w' Hs := by
  have pf : ∀ r, Ya op n = r → Calls Tryz.prog 68 #[.agg #[.int .i64 op, .int .i64 n]] w (fun e w' => e = .returned (.int .i64 r) ∧ Sat w0 w' Hs) → Calls Tryz.prog 68 #[.agg #[.int .i64 op, .int .i64 n]] w fun e w' => e = .returned (.int .i64 (Ya op n)) ∧ Sat w0 w' Hs := fun r h k => by rw [h]; exact k
  by_cases o1 : op = 1
  · subst o1
    by_cases q0 : n = 0
    · subst q0; refine pf (0) ?_ (ar0   w0 w Hs hS)
      (unfold Ya; (repeat' split) <;> omega)
    by_cases q1 : n = 1
    · subst q1; refine pf (0) ?_ (ar1   w0 w Hs hS)
      (unfold Ya; (repeat' split) <;> omega)
    refine pf (-1) ?_ (ar2 n (by (simp; omega)) (by (simp; omega)) w0 w Hs hS)
    (unfold Ya; (repeat' split) <;> omega)
  by_cases o2 : op = 2
  · subst o2
    by_cases q0 : n < 0
    · refine pf (-1) ?_ (ar3 n (by (simp; omega)) w0 w Hs hS)
      (unfold Ya; (repeat' split) <;> omega)
    by_cases q1 : n < 65536
    · refine pf (0) ?_ (ar4 n (by (simp; omega)) (by (simp; omega)) w0 w Hs hS)
      (unfold Ya; (repeat' split) <;> omega)
    refine pf (-1) ?_ (ar5 n (by (simp; omega)) (by (simp; omega)) w0 w Hs hS)
    (unfold Ya; (repeat' split) <;> omega)
  by_cases o3 : op = 3
  · subst o3
    by_cases q0 : n = 0
    · subst q0; refine pf (1) ?_ (ar6   w0 w Hs hS)
      (unfold Ya; (repeat' split) <;> omega)
    refine pf (-1) ?_ (ar7 n (by (simp; omega)) w0 w Hs hS)
    (unfold Ya; (repeat' split) <;> omega)
  by_cases o4 : op = 4
  · subst o4
    by_cases q0 : n < 0
    · refine pf (-1) ?_ (ar8 n (by (simp; omega)) w0 w Hs hS)
      (unfold Ya; (repeat' split) <;> omega)
    by_cases q1 : n < 65536
    · refine pf (1) ?_ (ar9 n (by (simp; omega)) (by (simp; omega)) w0 w Hs hS)
      (unfold Ya; (repeat' split) <;> omega)
    refine pf (-1) ?_ (ar10 n (by (simp; omega)) (by (simp; omega)) w0 w Hs hS)
    (unfold Ya; (repeat' split) <;> omega)
  by_cases o5 : op = 5
  · subst o5
    by_cases q0 : n < 0
    · refine pf (-1) ?_ (ar11 n (by (simp; omega)) w0 w Hs hS)
      (unfold Ya; (repeat' split) <;> omega)
    by_cases q1 : n < 65536
    · refine pf (1) ?_ (ar12 n (by (simp; omega)) (by (simp; omega)) w0 w Hs hS)
      (unfold Ya; (repeat' split) <;> omega)
    refine pf (-1) ?_ (ar13 n (by (simp; omega)) (by (simp; omega)) w0 w Hs hS)
    (unfold Ya; (repeat' split) <;> omega)
  by_cases o11 : op = 11
  · subst o11
    by_cases q0 : n = 0
    · subst q0; refine pf (3) ?_ (ar16   w0 w Hs hS)
      (unfold Ya; (repeat' split) <;> omega)
    refine pf (-1) ?_ (ar17 n (by (simp; omega)) w0 w Hs hS)
    (unfold Ya; (repeat' split) <;> omega)
  by_cases p6 : 6 ≤ op
  · by_cases p7 : op ≤ 10
    · by_cases q0 : n = 0
      · subst q0; refine pf (2) ?_ (ar14 op (by (simp; omega)) (by (simp; omega)) (by (simp; omega)) (by (simp; omega)) (by (simp; omega)) (by (simp; omega)) (by (simp; omega)) w0 w Hs hS)
        (unfold Ya; (repeat' split) <;> omega)
      · refine pf (-1) ?_ (ar15 op n (by (simp; omega)) (by (simp; omega)) (by (simp; omega)) (by (simp; omega)) (by (simp; omega)) (by (simp; omega)) (by (simp; omega)) (by (simp; omega)) (by (simp; omega)) w0 w Hs hS)
        (unfold Ya; (repeat' split) <;> omega)
    · refine pf (-1) ?_ (ar19 op n (by (simp; omega)) (by (simp; omega)) (by (simp; omega)) (by (simp; omega)) (by (simp; omega)) (by (simp; omega)) (by (simp; omega)) (by (simp; omega)) w0 w Hs hS)
      (unfold Ya; (repeat' split) <;> omega)
  · refine pf (-1) ?_ (ar18 op n (by (simp; omega)) (by (simp; omega)) (by (simp; omega)) (by (simp; omega)) (by (simp; omega)) (by (simp; omega)) (by (simp; omega)) w0 w Hs hS)
    (unfold Ya; (repeat' split) <;> omega)
end
section
set_option maxRecDepth 20000
open Go Go.RowKit Go.SL

theorem Sat.fzB {w0 w : World} {R : List HP} {b e : Nat} {cs : List Value} {H : Hp} (hS : Sat w0 w (blk b e cs :: fz H :: R)) : ∃ H', Ext H H' ∧ H' b = some (.cells cs.toArray e (0, 0)) ∧ Sat w0 w (fz H' :: R) := hS.fzBlk
def XC (fs : List (Int × Int)) (w0 : World) (Hs : List HP) (v : Value) (w' : World) : Prop :=
  (v = .nilIface ∧ km fs = none ∧ Sat w0 w' Hs) ∨ ∃ t H, km fs = some t ∧ InT H t v ∧ Sat w0 w' (fz H :: Hs)
structure TR (fs : List (Int × Int)) (w0 : World) (Hs : List HP) (k m : Nat) (ad : Option Addr) (cap : Nat) (st : List T) (vs : List Value) (H : Hp) (w : World) : Prop where
  hti : TI fs k st
  hvs : Vs H st vs
  hm : m = st.length
  hk : k ≤ fs.length
  sat : Sat w0 w (own 70 1 ad m cap vs :: fz H :: Hs)

theorem treeBig (fs : List (Int × Int)) (hl : ¬ fs.length ≤ 65536) (hl2 : fs.length ≤ 9223372036854775807) (ad : Option Addr) (cap : Nat) (w0 w : World) (Hs : List HP) (hS : Sat w0 w Hs) :
    Calls Tryz.prog 33 #[.slice ad fs.length cap] w fun e w' => ∃ v, e = .returned v ∧ XC fs w0 Hs v w' := by
  have h1 : (fs.length : Int) > 65536 := by omega
  have HT := hid (show km fs = none by simp [km, kL]; omega)
  go_enter Tryz.func33, Tryz.ntmps33
  go_wp2
  go_ret
  exact ⟨_, rfl, .inl ⟨rfl, HT.out, hS⟩⟩

set_option maxHeartbeats 4000000 in
theorem treeM (fs : List (Int × Int)) (hl : fs.length ≤ 65536) (ad : Option Addr) (cap : Nat) (w0 w : World) (Hs : List HP) (hS : Sat w0 w Hs) {A : HP} (hA : A ∈ Hs) (hr : Rd A ad (Fs fs)) :
    Calls Tryz.prog 33 #[.slice ad fs.length cap] w fun e w' => ∃ v, e = .returned v ∧ XC fs w0 Hs v w' := by
  have n1 : ¬ (fs.length : Int) > 65536 := by omega
  go_enter Tryz.func33, Tryz.ntmps33
  go_wp2
  go_loopw [3, 15] (fun s i wr => ∃ (k m : Nat) (ad' : Option Addr) (cap' : Nat) (st : List T) (vs : List Value) (H : Hp), s = .slice ad' m cap' ∧ i = .int .i64 k ∧ TR fs w0 Hs k m ad' cap' st vs H wr) (fun _ i _ => fs.length - (intOf i).toNat)
  case atStart => exact ⟨0, 0, none, 0, [], [], _, rfl, rfl, TI.zero fs, rfl, rfl, Nat.zero_le _, (hS.fzNil).ownNil _ _⟩
  case round =>
    clear hS
    obtain ⟨k, m, AD0, CAP0, st, vs, H, rfl, rfl, hR⟩ := hrel
    obtain ⟨ti, hvs, hm, hk, hS⟩ := hR
    obtain ⟨hb1, hb2⟩ := ti.bnd hl
    have hmb : m ≤ 65536 := by omega
    have hmc := (hS.ownCap yf).1
    by_cases hlt : k < fs.length
    · obtain ⟨⟨op, n⟩, hx⟩ : ∃ x, fs[k]? = some x := ⟨_, List.getElem?_eq_getElem hlt⟩
      have hfd := Xr hx
      have hne : ∃ aa, ad = some aa ∧ aa.spot = none := Sat.rdAd2 hr hS (.tail _ (.tail _ hA)) (by rw [Ke]; omega)
      have AR := arity op n
      have HX := hid hx
      rcases uj st op n with ⟨hs, hbad⟩ | ⟨rfl, ha, hs⟩ | ⟨rfl, ha, hs⟩ | ⟨a, r, rfl, rfl, ha, hs⟩ | ⟨a, r, rfl, hop, ha, hs⟩ | ⟨a, b, r, rfl, hop, ha, hs⟩ | ⟨c, a, b, r, rfl, rfl, ha, hs⟩
      · have HN := hid (show km fs = none by rw [km, ti.bad hx hs]; rfl)
        clear hx hs
        generalize Ya op n = ar at *
        rw [← hm] at hbad
        rcases hbad with hb | ⟨hb, hb'⟩
        all_goals
          go_wp2_with (first|((with_reducible apply yA);exact ya;exact yb rfl;exact yb rfl;exact E22;(omega);(omega);(assumption);(simp only [Int.toNat_natCast, Nat.mul_one, Nat.zero_add, Yc, yL, yJ, yP, Yb, yQ, yK];rfl);(try simp only [Act.put,q1,q2,q3]))|((with_reducible apply Yo hS);exact ya;exact yb rfl;assumption;(((repeat (with_reducible apply ye)));(try assumption));assumption;rfl;exact sz50;decide +kernel;decide;(try simp only [Act.put,q1,q2,q3]))|((with_reducible apply yl hS);exact ya;exact z50;clear hS;intro NB w hS;(try simp only [Act.put,q1,q2,q3]))|((with_reducible apply yk hS);exact ya;exact yb rfl;exact yb rfl;exact yf;rfl;(focus (simp;done));exact Upd.hd;rfl;exact sz50;rfl;clear hS;intro w hS;(try simp only [yo, q2, q3] at hS);(try simp only [Act.put,q1,q2,q3]))|((with_reducible apply yC hS);exact ya;exact yb rfl;exact yf;exact sz50;decide +kernel;rfl;rfl;(try simp only [Act.put,q1,q2,q3]))|(go_at_call 68;refine (AR _ _ _ hS).mono ?_;clear hS;rintro e w ⟨rfl, hS⟩))
          go_ret
          exact ⟨_, rfl, .inl ⟨rfl, HN.out, hS.drop.drop.drop⟩⟩
      · have ti' := ti.step hx hs
        have hn : st.length = m := hm.symm
        have hys : vs.take (m * 1) = vs := by rw [Nat.mul_one, List.take_of_length_le (by rw [hvs.len]; omega)]
        have HM := hid hm
        clear hx hs hm
        rw [ha] at AR
        go_wp2_with (first|((with_reducible apply yA);exact ya;exact yb rfl;exact yb rfl;exact E22;(omega);(omega);(assumption);(simp only [Int.toNat_natCast, Nat.mul_one, Nat.zero_add, Yc, yL, yJ, yP, Yb, yQ, yK];rfl);(try simp only [Act.put,q1,q2,q3]))|((with_reducible apply Yo hS);exact ya;exact yb rfl;assumption;(((repeat (with_reducible apply ye)));(try assumption));assumption;rfl;exact sz50;decide +kernel;decide;(try simp only [Act.put,q1,q2,q3]))|((with_reducible apply yl hS);exact ya;exact z50;clear hS;intro NB w hS;(try simp only [Act.put,q1,q2,q3]))|((with_reducible apply yk hS);exact ya;exact yb rfl;exact yb rfl;exact yf;rfl;(focus (simp;done));exact Upd.hd;rfl;exact sz50;rfl;clear hS;intro w hS;(try simp only [yo, q2, q3] at hS);(try simp only [Act.put,q1,q2,q3]))|((with_reducible apply yC hS);exact ya;exact yb rfl;exact yf;exact sz50;decide +kernel;rfl;rfl;(try simp only [Act.put,q1,q2,q3]))|((with_reducible apply yi hS);exact ya;exact yb rfl;exact yf;rfl;decide +kernel;(try simp only [Act.put,q1,q2,q3]))|(go_at_call 68;refine (AR _ _ _ hS).mono ?_;clear hS;rintro e w ⟨rfl, hS⟩)|((with_reducible apply kF);exact ya;exact yb rfl;exact yb rfl;exact E130;(omega);(omega);(simp only [Int.toNat_natCast, Nat.mul_one, Nat.zero_add, Yc, yL, yJ, yP, Yb, yQ, yK];rfl);(rfl);(rfl);(try simp only [Act.put,q1,q2,q3]))|((with_reducible apply kx);exact ya;exact yb rfl;exact yb rfl;exact E130;(omega);(omega);(simp only [Int.toNat_natCast, Nat.mul_one, Nat.zero_add, Yc, yL, yJ, yP, Yb, yQ, yK];rfl);(try simp only [Act.put,q1,q2,q3]))|((with_reducible apply yY hS);exact ya;exact yb rfl;exact yt;clear hS;intro NB2 w hS;(try simp only [Act.put,q1,q2,q3]))|((with_reducible apply yI hS);exact ya;exact E130;exact yb rfl;exact Yz rfl;rfl;decide;clear hS;intro NB3 w hS;(try simp only [Act.put,q1,q2,q3]))|((with_reducible apply YZ hS);exact ya;exact yb rfl;exact yb rfl;exact E130;(repeat (with_reducible first|exact Rem.hd|apply Rem.tl));(repeat (with_reducible apply Rem.tl));(omega);(assumption);rfl;rfl;(omega);(omega);clear hS;intro AD CAP w hS;(try simp only [Act.put,q1,q2,q3])))
        obtain ⟨H', x1, x2, hS⟩ := Sat.fzB (hS.sb (L := blk NB2 136 [.int .i64 0, .int .i64 0, .int .i64 n] :: fz H :: own 70 1 AD (m + 1) CAP (vs ++ [.iface 132 (.pointer (some ⟨NB2, 0, none⟩))]) :: Hs) (by (repeat (first | with_reducible exact Sb.refl | (with_reducible refine Sb.take (by (repeat (with_reducible first | exact Rem.hd | apply Rem.tl)); done) ?_) | with_reducible apply Sb.skip))))
        go_roundw
        case rel => exact ⟨k + 1, m + 1, AD, CAP, _, _, H', rfl, by go_num, ti', ⟨vs, _, rfl, hvs.ext x1, ⟨NB2, rfl, x2⟩⟩, by rw [HM.out]; rfl, by omega, hS.front (Rem.tl Rem.hd)⟩
        case measure => simp [intOf]; omega
      · have ti' := ti.step hx hs
        have hn : st.length = m := hm.symm
        have hys : vs.take (m * 1) = vs := by rw [Nat.mul_one, List.take_of_length_le (by rw [hvs.len]; omega)]
        have HM := hid hm
        clear hx hs hm
        rw [ha] at AR
        go_wp2_with (first|((with_reducible apply yA);exact ya;exact yb rfl;exact yb rfl;exact E22;(omega);(omega);(assumption);(simp only [Int.toNat_natCast, Nat.mul_one, Nat.zero_add, Yc, yL, yJ, yP, Yb, yQ, yK];rfl);(try simp only [Act.put,q1,q2,q3]))|((with_reducible apply Yo hS);exact ya;exact yb rfl;assumption;(((repeat (with_reducible apply ye)));(try assumption));assumption;rfl;exact sz50;decide +kernel;decide;(try simp only [Act.put,q1,q2,q3]))|((with_reducible apply yl hS);exact ya;exact z50;clear hS;intro NB w hS;(try simp only [Act.put,q1,q2,q3]))|((with_reducible apply yk hS);exact ya;exact yb rfl;exact yb rfl;exact yf;rfl;(focus (simp;done));exact Upd.hd;rfl;exact sz50;rfl;clear hS;intro w hS;(try simp only [yo, q2, q3] at hS);(try simp only [Act.put,q1,q2,q3]))|((with_reducible apply yC hS);exact ya;exact yb rfl;exact yf;exact sz50;decide +kernel;rfl;rfl;(try simp only [Act.put,q1,q2,q3]))|((with_reducible apply yi hS);exact ya;exact yb rfl;exact yf;rfl;decide +kernel;(try simp only [Act.put,q1,q2,q3]))|(go_at_call 68;refine (AR _ _ _ hS).mono ?_;clear hS;rintro e w ⟨rfl, hS⟩)|((with_reducible apply kF);exact ya;exact yb rfl;exact yb rfl;exact E130;(omega);(omega);(simp only [Int.toNat_natCast, Nat.mul_one, Nat.zero_add, Yc, yL, yJ, yP, Yb, yQ, yK];rfl);(rfl);(rfl);(try simp only [Act.put,q1,q2,q3]))|((with_reducible apply kx);exact ya;exact yb rfl;exact yb rfl;exact E130;(omega);(omega);(simp only [Int.toNat_natCast, Nat.mul_one, Nat.zero_add, Yc, yL, yJ, yP, Yb, yQ, yK];rfl);(try simp only [Act.put,q1,q2,q3]))|((with_reducible apply yY hS);exact ya;exact yb rfl;exact yt;clear hS;intro NB2 w hS;(try simp only [Act.put,q1,q2,q3]))|((with_reducible apply yI hS);exact ya;exact E130;exact yb rfl;exact Yz rfl;rfl;decide;clear hS;intro NB3 w hS;(try simp only [Act.put,q1,q2,q3]))|((with_reducible apply YZ hS);exact ya;exact yb rfl;exact yb rfl;exact E130;(repeat (with_reducible first|exact Rem.hd|apply Rem.tl));(repeat (with_reducible apply Rem.tl));(omega);(assumption);rfl;rfl;(omega);(omega);clear hS;intro AD CAP w hS;(try simp only [Act.put,q1,q2,q3])))
        obtain ⟨H', x1, x2, hS⟩ := Sat.fzB (hS.sb (L := blk NB2 139 [.int .i64 0, .int .i64 0, .int .i64 n] :: fz H :: own 70 1 AD (m + 1) CAP (vs ++ [.iface 137 (.pointer (some ⟨NB2, 0, none⟩))]) :: Hs) (by (repeat (first | with_reducible exact Sb.refl | (with_reducible refine Sb.take (by (repeat (with_reducible first | exact Rem.hd | apply Rem.tl)); done) ?_) | with_reducible apply Sb.skip))))
        go_roundw
        case rel => exact ⟨k + 1, m + 1, AD, CAP, _, _, H', rfl, by go_num, ti', ⟨vs, _, rfl, hvs.ext x1, ⟨NB2, rfl, x2⟩⟩, by rw [HM.out]; rfl, by omega, hS.front (Rem.tl Rem.hd)⟩
        case measure => simp [intOf]; omega
      · have ti' := ti.step hx hs
        obtain ⟨vs', va, rfl, hvr, hva⟩ := hvs
        obtain ⟨m', hm'⟩ : ∃ m', m' = r.length := ⟨_, rfl⟩
        obtain rfl : m = m' + 1 := by rw [hm, hm']; rfl
        have hys : (vs' ++ [va]).take (m' * 1) = vs' := by rw [Nat.mul_one, List.take_append_of_le_length (by rw [hvr.len]; omega), List.take_of_length_le (by rw [hvr.len]; omega)]
        have hrd : Rd (own 70 1 AD0 (m' + 1) CAP0 (vs' ++ [va])) (sub AD0 m' CAP0 1) [va] := by
          have h1 := (Rd.of_own (e := 70) (size := 1) (ad := AD0) (n := m' + 1) (cap := CAP0) (xs := vs' ++ [va])).sub (cap := CAP0) (size := 1) m' 1 (by omega)
          have e1 : ((vs' ++ [va]).drop (m' * 1)).take 1 = [va] := by rw [Nat.mul_one, List.drop_append_of_le_length (by rw [hvr.len]; omega), List.drop_of_length_le (by rw [hvr.len]; omega)]; rfl
          rwa [e1] at h1
        obtain ⟨ka, sa⟩ := hb2 a (by simp)
        have NM := notM a ka.ops (by omega) va H hva
        have HM := hid hm'
        clear hx hs hm hm'
        rw [ha] at AR
        go_wp2_with (first|((with_reducible apply yA);exact ya;exact yb rfl;(first|exact yb rfl|exact yh);(with_reducible first|exact E22|exact E130);(omega);(omega);(first|exact Sat.rdAd2 (by assumption) hS (by ((repeat (with_reducible first|exact yf|apply ye)));try assumption) (by (simp;done))|assumption);(simp only [Int.toNat_natCast, Nat.mul_one, Nat.zero_add, Yc, yL, yJ, yP, Yb, yQ, yK];rfl);(try simp only [Act.put,q1,q2,q3]))|((with_reducible apply Yo hS);exact ya;exact yb rfl;assumption;(((repeat (with_reducible first|exact yf|apply ye)));(try assumption));assumption;rfl;exact sz50;decide +kernel;decide;(try simp only [Act.put,q1,q2,q3]))|((with_reducible apply Yl);exact ya;exact yb rfl;(exact Sat.rdCell2 (by assumption) hS (by ((repeat (with_reducible first|exact yf|apply ye)));try assumption) (by (rfl)));decide +kernel;(try simp only [Act.put,q1,q2,q3]))|((with_reducible apply yl hS);exact ya;exact z50;clear hS;intro NB w hS;(try simp only [Act.put,q1,q2,q3]))|((with_reducible apply yk hS);exact ya;exact yb rfl;exact yb rfl;exact yf;rfl;(focus (simp;done));exact Upd.hd;rfl;exact sz50;rfl;clear hS;intro w hS;(try simp only [yo, q2, q3] at hS);(try simp only [Act.put,q1,q2,q3]))|((with_reducible apply yC hS);exact ya;exact yb rfl;exact yf;exact sz50;decide +kernel;rfl;rfl;(try simp only [Act.put,q1,q2,q3]))|((with_reducible apply yi hS);exact ya;exact yb rfl;exact yf;rfl;decide +kernel;(try simp only [Act.put,q1,q2,q3]))|(go_at_call 68;refine (AR _ _ _ hS).mono ?_;clear hS;rintro e w ⟨rfl, hS⟩)|((with_reducible apply kF);exact ya;exact yb rfl;exact yb rfl;exact E130;(omega);(omega);(simp only [Int.toNat_natCast, Nat.mul_one, Nat.zero_add, Yc, yL, yJ, yP, Yb, yQ, yK];rfl);(rfl);(rfl);(try simp only [Act.put,q1,q2,q3]))|((with_reducible apply kx);exact ya;exact yb rfl;exact yb rfl;exact E130;(omega);(omega);(simp only [Int.toNat_natCast, Nat.mul_one, Nat.zero_add, Yc, yL, yJ, yP, Yb, yQ, yK];rfl);(try simp only [Act.put,q1,q2,q3]))|(go_at_call 69;refine (NM _ _ _ (hS.front (R := blk NB 50 [.int .i64 3, .int .i64 n] :: own 70 1 AD0 (m' + 1) CAP0 (vs' ++ [va]) :: Hs) (Rem.tl (Rem.tl Rem.hd)))).mono ?_;clear hS NM;rintro e w ⟨v, rfl, H', x1, x2, hS⟩;obtain ⟨Kv, bv, rfl⟩ := x2.form)|((with_reducible apply yI hS);exact ya;exact E130;exact yb rfl;exact Yz rfl;rfl;decide;clear hS;intro NB3 w hS;(try simp only [Act.put,q1,q2,q3]))|((with_reducible apply YZ hS);exact ya;exact yb rfl;exact yb rfl;exact E130;(repeat (with_reducible first|exact Rem.hd|apply Rem.tl));(repeat (with_reducible apply Rem.tl));(omega);(assumption);rfl;rfl;(omega);(omega);clear hS;intro AD CAP w hS;(try simp only [Act.put,q1,q2,q3])))
        go_roundw
        case rel => exact ⟨k + 1, m' + 1, AD, CAP, _, _, H', rfl, by go_num, ti', ⟨vs', _, rfl, hvr.ext x1, x2⟩, by rw [HM.out]; rfl, by omega, hS.sb (by (repeat (first | with_reducible exact Sb.refl | (with_reducible refine Sb.take (by (repeat (with_reducible first | exact Rem.hd | apply Rem.tl)); done) ?_) | with_reducible apply Sb.skip)))⟩
        case measure => simp [intOf]; omega
      · have ti' := ti.step hx hs
        obtain ⟨vs', va, rfl, hvr, hva⟩ := hvs
        obtain ⟨m', hm'⟩ : ∃ m', m' = r.length := ⟨_, rfl⟩
        obtain rfl : m = m' + 1 := by rw [hm, hm']; rfl
        have hys : (vs' ++ [va]).take (m' * 1) = vs' := by rw [Nat.mul_one, List.take_append_of_le_length (by rw [hvr.len]; omega), List.take_of_length_le (by rw [hvr.len]; omega)]
        have hrd : Rd (own 70 1 AD0 (m' + 1) CAP0 (vs' ++ [va])) (sub AD0 m' CAP0 1) [va] := by
          have h1 := (Rd.of_own (e := 70) (size := 1) (ad := AD0) (n := m' + 1) (cap := CAP0) (xs := vs' ++ [va])).sub (cap := CAP0) (size := 1) m' 1 (by omega)
          have e1 : ((vs' ++ [va]).drop (m' * 1)).take 1 = [va] := by rw [Nat.mul_one, List.drop_append_of_le_length (by rw [hvr.len]; omega), List.drop_of_length_le (by rw [hvr.len]; omega)]; rfl
          rwa [e1] at h1
        obtain ⟨ka, sa⟩ := hb2 a (by simp)
        have HM := hid hm'
        clear hx hs hm hm'
        rw [ha] at AR
        rcases hop with rfl | rfl
        · have QM := JU 4 n a (by omega) va H hva
          go_wp2_with (first|((with_reducible apply Cont.intro);(exact Or.inl (by kernel_rfl));intro hR hC)|((first|((with_reducible apply yc (i := 0));(simp only [q4,q6,q5];with_reducible rfl);kernel_rfl;kernel_rfl;decide +kernel;rfl;exact hC;exact (fun _ _ _ h => h);exact hR;with_reducible exact ya)|((with_reducible apply yc (i := 2));(simp only [q4,q6,q5];with_reducible rfl);kernel_rfl;kernel_rfl;decide +kernel;rfl;exact hC;exact (fun _ _ _ h => h);exact hR;with_reducible exact ya));(intro w;first|(exact yX rfl (by (exact yh)) (by assumption) (by with_reducible exact fo50_0))|(go_simp;done)|(go_simp;rw [yw (by omega) (by omega)])|(go_simp;with_reducible rfl)|(go_simp;rfl));(clear hR hC;intro hR hC);(try simp only [Act.put,q1,q2,q3]))|((first|((with_reducible apply yc (i := 4));(simp only [q4,q6,q5];with_reducible rfl);kernel_rfl;kernel_rfl;decide +kernel;rfl;exact hC;exact (fun _ _ _ h => h);exact hR;with_reducible exact ya)|((with_reducible apply yc (i := 8));(simp only [q4,q6,q5];with_reducible rfl);kernel_rfl;kernel_rfl;decide +kernel;rfl;exact hC;exact (fun _ _ _ h => h);exact hR;with_reducible exact ya));(intro w;first|(go_simp;done)|(go_simp;rw [yw (by omega) (by omega)])|(go_simp;with_reducible rfl)|(go_simp;rfl));(clear hR hC;intro hR hC);(try simp only [Act.put,q1,q2,q3]))|(((with_reducible apply yc (i := 5));(simp only [q4,q6,q5];with_reducible rfl);kernel_rfl;kernel_rfl;decide +kernel;rfl;exact hC;exact (fun _ _ _ h => h);exact hR;with_reducible exact ya);(intro w;first|(with_reducible exact yG E22 rfl (by (exact yh)) (by (exact yh)) (by (omega)) (by (omega)) (by (assumption)) (by (rfl)))|(with_reducible exact yG E130 rfl (by (exact yb rfl)) (by (exact yh)) (by (omega)) (by (omega)) (by (exact Sat.rdAd2 (by assumption) hS (by ((repeat (with_reducible first|exact yf|apply ye)));try assumption) (by (simp;done)))) (by (simp only [Int.toNat_natCast, Nat.mul_one, Nat.zero_add, Yc, yL, yJ, yP, Yb, yQ, yK];rfl)))|(go_simp;done)|(go_simp;rw [yw (by omega) (by omega)])|(go_simp;with_reducible rfl));(clear hR hC;intro hR hC);(try simp only [Act.put,q1,q2,q3]))|((first|((with_reducible apply yj (i := 1));(simp only [q4,q6,q5];with_reducible rfl);kernel_rfl;kernel_rfl;decide +kernel;kernel_rfl;rfl;exact hC;exact (fun _ _ _ h => h);exact hR;kernel_rfl;with_reducible exact ya)|((with_reducible apply yj (i := 3));(simp only [q4,q6,q5];with_reducible rfl);kernel_rfl;kernel_rfl;decide +kernel;kernel_rfl;rfl;exact hC;exact (fun _ _ _ h => h);exact hR;kernel_rfl;with_reducible exact ya)|((with_reducible apply yj (i := 6));(simp only [q4,q6,q5];with_reducible rfl);kernel_rfl;kernel_rfl;decide +kernel;kernel_rfl;rfl;exact hC;exact (fun _ _ _ h => h);exact hR;kernel_rfl;with_reducible exact ya));(intro w hS;(apply ym rfl (by (exact yb rfl)));first|exact yd (by decide +kernel) (hS.cell (by (exact yf)) rfl)|exact yd (by decide +kernel) ((hS.ownCell (by (repeat (with_reducible apply ye))) (by (rfl))).1)|exact yd (by decide +kernel) (Sat.rdCell2 (by assumption) hS (by ((repeat (with_reducible first|exact yf|apply ye)));try assumption) (by (rfl)))|exact yd (by decide +kernel) (hS.baseCell (by ((repeat (with_reducible apply ye)));try assumption) (by assumption))|exact yd (by decide +kernel) (fzC (by assumption) hS (by ((repeat (with_reducible apply ye)));try assumption))|exact yp hS (by assumption) (by ((repeat (with_reducible apply ye)));try assumption) (by assumption) (by rfl) (by with_reducible exact sz50) (by decide +kernel) (by decide)|exact hS.loadWhole (by (repeat (with_reducible apply ye))) (by kernel_rfl) (by kernel_rfl));(clear hR hC;intro hR hC);(try simp only [Act.put,q1,q2,q3]))|((with_reducible apply yn (i := 7));(simp only [q4,q6,q5];with_reducible rfl);decide +kernel;exact hC;clear hR hC)|((with_reducible apply yq);decide +kernel;clear hR hC)|(refine yz 20 9 hS (by kernel_rfl) [7] rfl ?_;clear hS;intro w hS hR hC)|((with_reducible apply yA);exact ya;exact yb rfl;exact yb rfl;exact E22;(omega);(omega);(assumption);(simp only [Int.toNat_natCast, Nat.mul_one, Nat.zero_add, Yc, yL, yJ, yP, Yb, yQ, yK];rfl);(try simp only [Act.put,q1,q2,q3]))|((with_reducible apply Yo hS);exact ya;exact yb rfl;assumption;(((repeat (with_reducible apply ye)));(try assumption));assumption;rfl;exact sz50;decide +kernel;decide;(try simp only [Act.put,q1,q2,q3]))|((with_reducible apply yl hS);exact ya;exact z50;clear hS;intro NB w hS;(try simp only [Act.put,q1,q2,q3]))|((with_reducible apply yk hS);exact ya;exact yb rfl;exact yb rfl;exact yf;rfl;(focus (simp;done));exact Upd.hd;rfl;exact sz50;rfl;clear hS;intro w hS;(try simp only [yo, q2, q3] at hS);(try simp only [Act.put,q1,q2,q3]))|((with_reducible apply yC hS);exact ya;exact yb rfl;exact yf;exact sz50;decide +kernel;rfl;rfl;(try simp only [Act.put,q1,q2,q3]))|((with_reducible apply yi hS);exact ya;exact yb rfl;exact yf;rfl;decide +kernel;(try simp only [Act.put,q1,q2,q3]))|(go_at_call 68;refine (AR _ _ _ hS).mono ?_;clear hS;rintro e w ⟨rfl, hS⟩)|((with_reducible apply kF);exact ya;exact yb rfl;exact yb rfl;exact E130;(omega);(omega);(simp only [Int.toNat_natCast, Nat.mul_one, Nat.zero_add, Yc, yL, yJ, yP, Yb, yQ, yK];rfl);(rfl);(rfl);(try simp only [Act.put,q1,q2,q3]))|((with_reducible apply kx);exact ya;exact yb rfl;exact yb rfl;exact E130;(omega);(omega);(simp only [Int.toNat_natCast, Nat.mul_one, Nat.zero_add, Yc, yL, yJ, yP, Yb, yQ, yK];rfl);(try simp only [Act.put,q1,q2,q3]))|(go_at_call 70;refine (QM _ _ _ (hS.front (R := blk NB 50 [.int .i64 4, .int .i64 n] :: own 70 1 AD0 (m' + 1) CAP0 (vs' ++ [va]) :: Hs) (Rem.tl (Rem.tl Rem.hd)))).mono ?_;clear hS QM;rintro e w ⟨v, rfl, H', x1, x2, hS⟩;obtain ⟨Kv, bv, rfl⟩ := x2.form)|((with_reducible apply yI hS);exact ya;exact E130;exact yb rfl;exact Yz rfl;rfl;decide;clear hS;intro NB3 w hS;(try simp only [Act.put,q1,q2,q3]))|((with_reducible apply YZ hS);exact ya;exact yb rfl;exact yb rfl;exact E130;(repeat (with_reducible first|exact Rem.hd|apply Rem.tl));(repeat (with_reducible apply Rem.tl));(omega);(assumption);rfl;rfl;(omega);(omega);clear hS;intro AD CAP w hS;(try simp only [Act.put,q1,q2,q3])))
          go_roundw
          case rel => exact ⟨k + 1, m' + 1, AD, CAP, _, _, H', rfl, by go_num, ti', ⟨vs', _, rfl, hvr.ext x1, x2⟩, by rw [HM.out]; rfl, by omega, hS.sb (by (repeat (first | with_reducible exact Sb.refl | (with_reducible refine Sb.take (by (repeat (with_reducible first | exact Rem.hd | apply Rem.tl)); done) ?_) | with_reducible apply Sb.skip)))⟩
          case measure => simp [intOf]; omega
        · have QM := JU 5 n a (by omega) va H hva
          go_wp2_with (first|((with_reducible apply Cont.intro);(exact Or.inl (by kernel_rfl));intro hR hC)|((first|((with_reducible apply yc (i := 0));(simp only [q4,q6,q5];with_reducible rfl);kernel_rfl;kernel_rfl;decide +kernel;rfl;exact hC;exact (fun _ _ _ h => h);exact hR;with_reducible exact ya)|((with_reducible apply yc (i := 2));(simp only [q4,q6,q5];with_reducible rfl);kernel_rfl;kernel_rfl;decide +kernel;rfl;exact hC;exact (fun _ _ _ h => h);exact hR;with_reducible exact ya));(intro w;first|(exact yX rfl (by (exact yh)) (by assumption) (by with_reducible exact fo50_0))|(go_simp;done)|(go_simp;rw [yw (by omega) (by omega)])|(go_simp;with_reducible rfl)|(go_simp;rfl));(clear hR hC;intro hR hC);(try simp only [Act.put,q1,q2,q3]))|((first|((with_reducible apply yc (i := 4));(simp only [q4,q6,q5];with_reducible rfl);kernel_rfl;kernel_rfl;decide +kernel;rfl;exact hC;exact (fun _ _ _ h => h);exact hR;with_reducible exact ya)|((with_reducible apply yc (i := 8));(simp only [q4,q6,q5];with_reducible rfl);kernel_rfl;kernel_rfl;decide +kernel;rfl;exact hC;exact (fun _ _ _ h => h);exact hR;with_reducible exact ya));(intro w;first|(go_simp;done)|(go_simp;rw [yw (by omega) (by omega)])|(go_simp;with_reducible rfl)|(go_simp;rfl));(clear hR hC;intro hR hC);(try simp only [Act.put,q1,q2,q3]))|(((with_reducible apply yc (i := 5));(simp only [q4,q6,q5];with_reducible rfl);kernel_rfl;kernel_rfl;decide +kernel;rfl;exact hC;exact (fun _ _ _ h => h);exact hR;with_reducible exact ya);(intro w;first|(with_reducible exact yG E22 rfl (by (exact yh)) (by (exact yh)) (by (omega)) (by (omega)) (by (assumption)) (by (rfl)))|(with_reducible exact yG E130 rfl (by (exact yb rfl)) (by (exact yh)) (by (omega)) (by (omega)) (by (exact Sat.rdAd2 (by assumption) hS (by ((repeat (with_reducible first|exact yf|apply ye)));try assumption) (by (simp;done)))) (by (simp only [Int.toNat_natCast, Nat.mul_one, Nat.zero_add, Yc, yL, yJ, yP, Yb, yQ, yK];rfl)))|(go_simp;done)|(go_simp;rw [yw (by omega) (by omega)])|(go_simp;with_reducible rfl));(clear hR hC;intro hR hC);(try simp only [Act.put,q1,q2,q3]))|((first|((with_reducible apply yj (i := 1));(simp only [q4,q6,q5];with_reducible rfl);kernel_rfl;kernel_rfl;decide +kernel;kernel_rfl;rfl;exact hC;exact (fun _ _ _ h => h);exact hR;kernel_rfl;with_reducible exact ya)|((with_reducible apply yj (i := 3));(simp only [q4,q6,q5];with_reducible rfl);kernel_rfl;kernel_rfl;decide +kernel;kernel_rfl;rfl;exact hC;exact (fun _ _ _ h => h);exact hR;kernel_rfl;with_reducible exact ya)|((with_reducible apply yj (i := 6));(simp only [q4,q6,q5];with_reducible rfl);kernel_rfl;kernel_rfl;decide +kernel;kernel_rfl;rfl;exact hC;exact (fun _ _ _ h => h);exact hR;kernel_rfl;with_reducible exact ya));(intro w hS;(apply ym rfl (by (exact yb rfl)));first|exact yd (by decide +kernel) (hS.cell (by (exact yf)) rfl)|exact yd (by decide +kernel) ((hS.ownCell (by (repeat (with_reducible apply ye))) (by (rfl))).1)|exact yd (by decide +kernel) (Sat.rdCell2 (by assumption) hS (by ((repeat (with_reducible first|exact yf|apply ye)));try assumption) (by (rfl)))|exact yd (by decide +kernel) (hS.baseCell (by ((repeat (with_reducible apply ye)));try assumption) (by assumption))|exact yd (by decide +kernel) (fzC (by assumption) hS (by ((repeat (with_reducible apply ye)));try assumption))|exact yp hS (by assumption) (by ((repeat (with_reducible apply ye)));try assumption) (by assumption) (by rfl) (by with_reducible exact sz50) (by decide +kernel) (by decide)|exact hS.loadWhole (by (repeat (with_reducible apply ye))) (by kernel_rfl) (by kernel_rfl));(clear hR hC;intro hR hC);(try simp only [Act.put,q1,q2,q3]))|((with_reducible apply yn (i := 7));(simp only [q4,q6,q5];with_reducible rfl);decide +kernel;exact hC;clear hR hC)|((with_reducible apply yq);decide +kernel;clear hR hC)|(refine yz 20 9 hS (by kernel_rfl) [7] rfl ?_;clear hS;intro w hS hR hC)|((with_reducible apply yA);exact ya;exact yb rfl;exact yb rfl;exact E22;(omega);(omega);(assumption);(simp only [Int.toNat_natCast, Nat.mul_one, Nat.zero_add, Yc, yL, yJ, yP, Yb, yQ, yK];rfl);(try simp only [Act.put,q1,q2,q3]))|((with_reducible apply Yo hS);exact ya;exact yb rfl;assumption;(((repeat (with_reducible apply ye)));(try assumption));assumption;rfl;exact sz50;decide +kernel;decide;(try simp only [Act.put,q1,q2,q3]))|((with_reducible apply yl hS);exact ya;exact z50;clear hS;intro NB w hS;(try simp only [Act.put,q1,q2,q3]))|((with_reducible apply yk hS);exact ya;exact yb rfl;exact yb rfl;exact yf;rfl;(focus (simp;done));exact Upd.hd;rfl;exact sz50;rfl;clear hS;intro w hS;(try simp only [yo, q2, q3] at hS);(try simp only [Act.put,q1,q2,q3]))|((with_reducible apply yC hS);exact ya;exact yb rfl;exact yf;exact sz50;decide +kernel;rfl;rfl;(try simp only [Act.put,q1,q2,q3]))|((with_reducible apply yi hS);exact ya;exact yb rfl;exact yf;rfl;decide +kernel;(try simp only [Act.put,q1,q2,q3]))|(go_at_call 68;refine (AR _ _ _ hS).mono ?_;clear hS;rintro e w ⟨rfl, hS⟩)|((with_reducible apply kF);exact ya;exact yb rfl;exact yb rfl;exact E130;(omega);(omega);(simp only [Int.toNat_natCast, Nat.mul_one, Nat.zero_add, Yc, yL, yJ, yP, Yb, yQ, yK];rfl);(rfl);(rfl);(try simp only [Act.put,q1,q2,q3]))|((with_reducible apply kx);exact ya;exact yb rfl;exact yb rfl;exact E130;(omega);(omega);(simp only [Int.toNat_natCast, Nat.mul_one, Nat.zero_add, Yc, yL, yJ, yP, Yb, yQ, yK];rfl);(try simp only [Act.put,q1,q2,q3]))|(go_at_call 70;refine (QM _ _ _ (hS.front (R := blk NB 50 [.int .i64 5, .int .i64 n] :: own 70 1 AD0 (m' + 1) CAP0 (vs' ++ [va]) :: Hs) (Rem.tl (Rem.tl Rem.hd)))).mono ?_;clear hS QM;rintro e w ⟨v, rfl, H', x1, x2, hS⟩;obtain ⟨Kv, bv, rfl⟩ := x2.form)|((with_reducible apply yI hS);exact ya;exact E130;exact yb rfl;exact Yz rfl;rfl;decide;clear hS;intro NB3 w hS;(try simp only [Act.put,q1,q2,q3]))|((with_reducible apply YZ hS);exact ya;exact yb rfl;exact yb rfl;exact E130;(repeat (with_reducible first|exact Rem.hd|apply Rem.tl));(repeat (with_reducible apply Rem.tl));(omega);(assumption);rfl;rfl;(omega);(omega);clear hS;intro AD CAP w hS;(try simp only [Act.put,q1,q2,q3])))
          go_roundw
          case rel => exact ⟨k + 1, m' + 1, AD, CAP, _, _, H', rfl, by go_num, ti', ⟨vs', _, rfl, hvr.ext x1, x2⟩, by rw [HM.out]; rfl, by omega, hS.sb (by (repeat (first | with_reducible exact Sb.refl | (with_reducible refine Sb.take (by (repeat (with_reducible first | exact Rem.hd | apply Rem.tl)); done) ?_) | with_reducible apply Sb.skip)))⟩
          case measure => simp [intOf]; omega
      · have ti' := ti.step hx hs
        obtain ⟨vs1, vb, rfl, ⟨vs', va, rfl, hvr, hva⟩, hvb⟩ := hvs
        obtain ⟨m', hm'⟩ : ∃ m', m' = r.length := ⟨_, rfl⟩
        obtain rfl : m = m' + 2 := by rw [hm, hm']; rfl
        have hlv : vs'.length = m' := by rw [hvr.len, hm']
        have hys : (vs' ++ [va] ++ [vb]).take (m' * 1) = vs' := by rw [Nat.mul_one, List.append_assoc, List.take_append_of_le_length (by omega), List.take_of_length_le (by omega)]
        have hrd : Rd (own 70 1 AD0 (m' + 2) CAP0 (vs' ++ [va] ++ [vb])) (sub AD0 m' CAP0 1) [va, vb] := by
          have h1 := (Rd.of_own (e := 70) (size := 1) (ad := AD0) (n := m' + 2) (cap := CAP0) (xs := vs' ++ [va] ++ [vb])).sub (cap := CAP0) (size := 1) m' 2 (by omega)
          have e1 : ((vs' ++ [va] ++ [vb]).drop (m' * 1)).take 2 = [va, vb] := by rw [Nat.mul_one, List.append_assoc, List.drop_append_of_le_length (by omega), List.drop_of_length_le (by omega)]; rfl
          rwa [e1] at h1
        obtain ⟨ka, sa⟩ := hb2 a (by simp)
        obtain ⟨kb, sb⟩ := hb2 b (by simp)
        have g1 : (op == 1) = false := by simp; omega
        have g2 : (op == 2) = false := by simp; omega
        have g3 : (op == 3) = false := by simp; omega
        have JM := xf op (by unfold i64; omega) a b ka.ops kb.ops (by omega) (by omega) va vb H hva hvb
        have HM := hid hm'
        clear hx hs hm hm' hlv hop
        rw [ha] at AR
        go_wp2_with (first|((with_reducible apply Cont.intro);(exact Or.inl (by kernel_rfl));intro hR hC)|(((with_reducible apply yc (i := 0));(simp only [q4,q6,q5];with_reducible rfl);kernel_rfl;kernel_rfl;decide +kernel;rfl;exact hC;exact (fun _ _ _ h => h);exact hR;with_reducible exact ya);(intro w;first|(exact yX rfl (by (exact yh)) (by assumption) (by with_reducible exact fo50_0))|(go_simp;done)|(go_simp;rw [yw (by omega) (by omega)])|(go_simp;with_reducible rfl)|(go_simp;rfl));(clear hR hC;intro hR hC);(try simp only [Act.put,q1,q2,q3]))|((first|((with_reducible apply yc (i := 2));(simp only [q4,q6,q5];with_reducible rfl);kernel_rfl;kernel_rfl;decide +kernel;rfl;exact hC;exact (fun _ _ _ h => h);exact hR;with_reducible exact ya)|((with_reducible apply yc (i := 5));(simp only [q4,q6,q5];with_reducible rfl);kernel_rfl;kernel_rfl;decide +kernel;rfl;exact hC;exact (fun _ _ _ h => h);exact hR;with_reducible exact ya)|((with_reducible apply yc (i := 9));(simp only [q4,q6,q5];with_reducible rfl);kernel_rfl;kernel_rfl;decide +kernel;rfl;exact hC;exact (fun _ _ _ h => h);exact hR;with_reducible exact ya));(intro w;first|(go_simp;done)|(go_simp;rw [yw (by omega) (by omega)])|(go_simp;with_reducible rfl)|(go_simp;rfl));(clear hR hC;intro hR hC);(try simp only [Act.put,q1,q2,q3]))|((first|((with_reducible apply yc (i := 3));(simp only [q4,q6,q5];with_reducible rfl);kernel_rfl;kernel_rfl;decide +kernel;rfl;exact hC;exact (fun _ _ _ h => h);exact hR;with_reducible exact ya)|((with_reducible apply yc (i := 6));(simp only [q4,q6,q5];with_reducible rfl);kernel_rfl;kernel_rfl;decide +kernel;rfl;exact hC;exact (fun _ _ _ h => h);exact hR;with_reducible exact ya));(intro w;first|(with_reducible exact yG E22 rfl (by (exact yh)) (by (exact yh)) (by (omega)) (by (omega)) (by (assumption)) (by (rfl)))|(with_reducible exact yG E130 rfl (by (exact yb rfl)) (by (exact yh)) (by (omega)) (by (omega)) (by (exact Sat.rdAd2 (by assumption) hS (by ((repeat (with_reducible first|exact yf|apply ye)));try assumption) (by (simp;done)))) (by (simp only [Int.toNat_natCast, Nat.mul_one, Nat.zero_add, Yc, yL, yJ, yP, Yb, yQ, yK];rfl)))|(go_simp;done)|(go_simp;rw [yw (by omega) (by omega)])|(go_simp;with_reducible rfl));(clear hR hC;intro hR hC);(try simp only [Act.put,q1,q2,q3]))|((first|((with_reducible apply yj (i := 1));(simp only [q4,q6,q5];with_reducible rfl);kernel_rfl;kernel_rfl;decide +kernel;kernel_rfl;rfl;exact hC;exact (fun _ _ _ h => h);exact hR;kernel_rfl;with_reducible exact ya)|((with_reducible apply yj (i := 4));(simp only [q4,q6,q5];with_reducible rfl);kernel_rfl;kernel_rfl;decide +kernel;kernel_rfl;rfl;exact hC;exact (fun _ _ _ h => h);exact hR;kernel_rfl;with_reducible exact ya)|((with_reducible apply yj (i := 7));(simp only [q4,q6,q5];with_reducible rfl);kernel_rfl;kernel_rfl;decide +kernel;kernel_rfl;rfl;exact hC;exact (fun _ _ _ h => h);exact hR;kernel_rfl;with_reducible exact ya));(intro w hS;(apply ym rfl (by (exact yb rfl)));first|exact yd (by decide +kernel) (hS.cell (by (repeat (with_reducible first|exact yf|apply ye))) rfl)|exact yd (by decide +kernel) ((hS.ownCell (by (repeat (with_reducible apply ye))) (by (rfl))).1)|exact yd (by decide +kernel) (Sat.rdCell2 (by assumption) hS (by ((repeat (with_reducible first|exact yf|apply ye)));try assumption) (by (rfl)))|exact yd (by decide +kernel) (hS.baseCell (by ((repeat (with_reducible apply ye)));try assumption) (by assumption))|exact yd (by decide +kernel) (fzC (by assumption) hS (by ((repeat (with_reducible apply ye)));try assumption))|exact yp hS (by assumption) (by ((repeat (with_reducible apply ye)));try assumption) (by assumption) (by rfl) (by with_reducible exact sz50) (by decide +kernel) (by decide)|exact hS.loadWhole (by (repeat (with_reducible apply ye))) (by kernel_rfl) (by kernel_rfl));(clear hR hC;intro hR hC);(try simp only [Act.put,q1,q2,q3]))|((with_reducible apply yn (i := 8));(simp only [q4,q6,q5];with_reducible rfl);decide +kernel;exact hC;clear hR hC)|((with_reducible apply yq);decide +kernel;clear hR hC)|(refine yz 22 10 hS (by kernel_rfl) [8] rfl ?_;clear hS;intro w hS hR hC)|((with_reducible apply yA);exact ya;exact yb rfl;exact yb rfl;exact E22;(omega);(omega);(assumption);(simp only [Int.toNat_natCast, Nat.mul_one, Nat.zero_add, Yc, yL, yJ, yP, Yb, yQ, yK];rfl);(try simp only [Act.put,q1,q2,q3]))|((with_reducible apply Yo hS);exact ya;exact yb rfl;assumption;(((repeat (with_reducible apply ye)));(try assumption));assumption;rfl;exact sz50;decide +kernel;decide;(try simp only [Act.put,q1,q2,q3]))|((with_reducible apply yl hS);exact ya;exact z50;clear hS;intro NB w hS;(try simp only [Act.put,q1,q2,q3]))|((with_reducible apply yk hS);exact ya;exact yb rfl;exact yb rfl;exact yf;rfl;(focus (simp;done));exact Upd.hd;rfl;exact sz50;rfl;clear hS;intro w hS;(try simp only [yo, q2, q3] at hS);(try simp only [Act.put,q1,q2,q3]))|((with_reducible apply yC hS);exact ya;exact yb rfl;exact yf;exact sz50;decide +kernel;rfl;rfl;(try simp only [Act.put,q1,q2,q3]))|((with_reducible apply yi hS);exact ya;exact yb rfl;exact yf;rfl;decide +kernel;(try simp only [Act.put,q1,q2,q3]))|(go_at_call 68;refine (AR _ _ _ hS).mono ?_;clear hS;rintro e w ⟨rfl, hS⟩)|((with_reducible apply kF);exact ya;exact yb rfl;exact yb rfl;exact E130;(omega);(omega);(simp only [Int.toNat_natCast, Nat.mul_one, Nat.zero_add, Yc, yL, yJ, yP, Yb, yQ, yK];rfl);(rfl);(rfl);(try simp only [Act.put,q1,q2,q3]))|((with_reducible apply kx);exact ya;exact yb rfl;exact yb rfl;exact E130;(omega);(omega);(simp only [Int.toNat_natCast, Nat.mul_one, Nat.zero_add, Yc, yL, yJ, yP, Yb, yQ, yK];rfl);(try simp only [Act.put,q1,q2,q3]))|(go_at_call 71;refine (JM _ _ _ (hS.front (R := blk NB 50 [.int .i64 op, .int .i64 n] :: own 70 1 AD0 (m' + 2) CAP0 (vs' ++ [va] ++ [vb]) :: Hs) (Rem.tl (Rem.tl Rem.hd)))).mono ?_;clear hS JM;rintro e w ⟨v, rfl, H', x1, x2, hS⟩;obtain ⟨Kv, bv, rfl⟩ := x2.form)|((with_reducible apply yI hS);exact ya;exact E130;exact yb rfl;exact Yz rfl;rfl;decide;clear hS;intro NB3 w hS;(try simp only [Act.put,q1,q2,q3]))|((with_reducible apply YZ hS);exact ya;exact yb rfl;exact yb rfl;exact E130;(repeat (with_reducible first|exact Rem.hd|apply Rem.tl));(repeat (with_reducible apply Rem.tl));(omega);(assumption);rfl;rfl;(omega);(omega);clear hS;intro AD CAP w hS;(try simp only [Act.put,q1,q2,q3])))
        go_roundw
        case rel => exact ⟨k + 1, m' + 1, AD, CAP, _, _, H', rfl, by go_num, ti', ⟨vs', _, rfl, hvr.ext x1, x2⟩, by rw [HM.out]; rfl, by omega, hS.sb (by (repeat (first | with_reducible exact Sb.refl | (with_reducible refine Sb.take (by (repeat (with_reducible first | exact Rem.hd | apply Rem.tl)); done) ?_) | with_reducible apply Sb.skip)))⟩
        case measure => simp [intOf]; omega
      · have ti' := ti.step hx hs
        obtain ⟨vs2, vb, rfl, ⟨vs1, va, rfl, ⟨vs', vc, rfl, hvr, hvc⟩, hva⟩, hvb⟩ := hvs
        obtain ⟨m', hm'⟩ : ∃ m', m' = r.length := ⟨_, rfl⟩
        obtain rfl : m = m' + 3 := by rw [hm, hm']; rfl
        have hlv : vs'.length = m' := by rw [hvr.len, hm']
        have hys : (vs' ++ [vc] ++ [va] ++ [vb]).take (m' * 1) = vs' := by rw [Nat.mul_one, List.append_assoc, List.append_assoc, List.take_append_of_le_length (by omega), List.take_of_length_le (by omega)]
        have hrd : Rd (own 70 1 AD0 (m' + 3) CAP0 (vs' ++ [vc] ++ [va] ++ [vb])) (sub AD0 m' CAP0 1) [vc, va, vb] := by
          have h1 := (Rd.of_own (e := 70) (size := 1) (ad := AD0) (n := m' + 3) (cap := CAP0) (xs := vs' ++ [vc] ++ [va] ++ [vb])).sub (cap := CAP0) (size := 1) m' 3 (by omega)
          have e1 : ((vs' ++ [vc] ++ [va] ++ [vb]).drop (m' * 1)).take 3 = [vc, va, vb] := by rw [Nat.mul_one, List.append_assoc, List.append_assoc, List.drop_append_of_le_length (by omega), List.drop_of_length_le (by omega)]; rfl
          rwa [e1] at h1
        obtain ⟨kc, sc⟩ := hb2 c (by simp)
        obtain ⟨ka, sa⟩ := hb2 a (by simp)
        obtain ⟨kb, sb⟩ := hb2 b (by simp)
        have IM := iteM c a b (by omega) (by omega) (by omega) vc va vb H hvc hva hvb
        have HM := hid hm'
        clear hx hs hm hm' hlv
        rw [ha] at AR
        go_wp2_with (first|((with_reducible apply Cont.intro);(exact Or.inl (by kernel_rfl));intro hR hC)|((first|((with_reducible apply yc (i := 0));(simp only [q4,q6,q5];with_reducible rfl);kernel_rfl;kernel_rfl;decide +kernel;rfl;exact hC;exact (fun _ _ _ h => h);exact hR;with_reducible exact ya)|((with_reducible apply yc (i := 3));(simp only [q4,q6,q5];with_reducible rfl);kernel_rfl;kernel_rfl;decide +kernel;rfl;exact hC;exact (fun _ _ _ h => h);exact hR;with_reducible exact ya)|((with_reducible apply yc (i := 6));(simp only [q4,q6,q5];with_reducible rfl);kernel_rfl;kernel_rfl;decide +kernel;rfl;exact hC;exact (fun _ _ _ h => h);exact hR;with_reducible exact ya)|((with_reducible apply yc (i := 10));(simp only [q4,q6,q5];with_reducible rfl);kernel_rfl;kernel_rfl;decide +kernel;rfl;exact hC;exact (fun _ _ _ h => h);exact hR;with_reducible exact ya));(intro w;first|(go_simp;done)|(go_simp;rw [yw (by omega) (by omega)])|(go_simp;with_reducible rfl)|(go_simp;rfl));(clear hR hC;intro hR hC);(try simp only [Act.put,q1,q2,q3]))|((first|((with_reducible apply yc (i := 1));(simp only [q4,q6,q5];with_reducible rfl);kernel_rfl;kernel_rfl;decide +kernel;rfl;exact hC;exact (fun _ _ _ h => h);exact hR;with_reducible exact ya)|((with_reducible apply yc (i := 4));(simp only [q4,q6,q5];with_reducible rfl);kernel_rfl;kernel_rfl;decide +kernel;rfl;exact hC;exact (fun _ _ _ h => h);exact hR;with_reducible exact ya)|((with_reducible apply yc (i := 7));(simp only [q4,q6,q5];with_reducible rfl);kernel_rfl;kernel_rfl;decide +kernel;rfl;exact hC;exact (fun _ _ _ h => h);exact hR;with_reducible exact ya));(intro w;first|(with_reducible exact yG E22 rfl (by (exact yh)) (by (exact yh)) (by (omega)) (by (omega)) (by (assumption)) (by (rfl)))|(with_reducible exact yG E130 rfl (by (exact yb rfl)) (by (exact yh)) (by (omega)) (by (omega)) (by (exact Sat.rdAd2 (by assumption) hS (by ((repeat (with_reducible first|exact yf|apply ye)));try assumption) (by (simp;done)))) (by (simp only [Int.toNat_natCast, Nat.mul_one, Nat.zero_add, Yc, yL, yJ, yP, Yb, yQ, yK];rfl)))|(go_simp;done)|(go_simp;rw [yw (by omega) (by omega)])|(go_simp;with_reducible rfl));(clear hR hC;intro hR hC);(try simp only [Act.put,q1,q2,q3]))|((first|((with_reducible apply yj (i := 2));(simp only [q4,q6,q5];with_reducible rfl);kernel_rfl;kernel_rfl;decide +kernel;kernel_rfl;rfl;exact hC;exact (fun _ _ _ h => h);exact hR;kernel_rfl;with_reducible exact ya)|((with_reducible apply yj (i := 5));(simp only [q4,q6,q5];with_reducible rfl);kernel_rfl;kernel_rfl;decide +kernel;kernel_rfl;rfl;exact hC;exact (fun _ _ _ h => h);exact hR;kernel_rfl;with_reducible exact ya)|((with_reducible apply yj (i := 8));(simp only [q4,q6,q5];with_reducible rfl);kernel_rfl;kernel_rfl;decide +kernel;kernel_rfl;rfl;exact hC;exact (fun _ _ _ h => h);exact hR;kernel_rfl;with_reducible exact ya));(intro w hS;(apply ym rfl (by (exact yb rfl)));first|exact yd (by decide +kernel) (hS.cell (by (repeat (with_reducible first|exact yf|apply ye))) rfl)|exact yd (by decide +kernel) ((hS.ownCell (by (repeat (with_reducible apply ye))) (by (rfl))).1)|exact yd (by decide +kernel) (Sat.rdCell2 (by assumption) hS (by ((repeat (with_reducible first|exact yf|apply ye)));try assumption) (by (rfl)))|exact yd (by decide +kernel) (hS.baseCell (by ((repeat (with_reducible apply ye)));try assumption) (by assumption))|exact yd (by decide +kernel) (fzC (by assumption) hS (by ((repeat (with_reducible apply ye)));try assumption))|exact yp hS (by assumption) (by ((repeat (with_reducible apply ye)));try assumption) (by assumption) (by rfl) (by with_reducible exact sz50) (by decide +kernel) (by decide)|exact hS.loadWhole (by (repeat (with_reducible apply ye))) (by kernel_rfl) (by kernel_rfl));(clear hR hC;intro hR hC);(try simp only [Act.put,q1,q2,q3]))|((with_reducible apply yn (i := 9));(simp only [q4,q6,q5];with_reducible rfl);decide +kernel;exact hC;clear hR hC)|((with_reducible apply yq);decide +kernel;clear hR hC)|(refine yz 12 11 hS (by kernel_rfl) [9] rfl ?_;clear hS;intro w hS hR hC)|((with_reducible apply yA);exact ya;exact yb rfl;exact yb rfl;exact E22;(omega);(omega);(assumption);(simp only [Int.toNat_natCast, Nat.mul_one, Nat.zero_add, Yc, yL, yJ, yP, Yb, yQ, yK];rfl);(try simp only [Act.put,q1,q2,q3]))|((with_reducible apply Yo hS);exact ya;exact yb rfl;assumption;(((repeat (with_reducible apply ye)));(try assumption));assumption;rfl;exact sz50;decide +kernel;decide;(try simp only [Act.put,q1,q2,q3]))|((with_reducible apply yl hS);exact ya;exact z50;clear hS;intro NB w hS;(try simp only [Act.put,q1,q2,q3]))|((with_reducible apply yk hS);exact ya;exact yb rfl;exact yb rfl;exact yf;rfl;(focus (simp;done));exact Upd.hd;rfl;exact sz50;rfl;clear hS;intro w hS;(try simp only [yo, q2, q3] at hS);(try simp only [Act.put,q1,q2,q3]))|((with_reducible apply yC hS);exact ya;exact yb rfl;exact yf;exact sz50;decide +kernel;rfl;rfl;(try simp only [Act.put,q1,q2,q3]))|((with_reducible apply yi hS);exact ya;exact yb rfl;exact yf;rfl;decide +kernel;(try simp only [Act.put,q1,q2,q3]))|(go_at_call 68;refine (AR _ _ _ hS).mono ?_;clear hS;rintro e w ⟨rfl, hS⟩)|((with_reducible apply kF);exact ya;exact yb rfl;exact yb rfl;exact E130;(omega);(omega);(simp only [Int.toNat_natCast, Nat.mul_one, Nat.zero_add, Yc, yL, yJ, yP, Yb, yQ, yK];rfl);(rfl);(rfl);(try simp only [Act.put,q1,q2,q3]))|((with_reducible apply kx);exact ya;exact yb rfl;exact yb rfl;exact E130;(omega);(omega);(simp only [Int.toNat_natCast, Nat.mul_one, Nat.zero_add, Yc, yL, yJ, yP, Yb, yQ, yK];rfl);(try simp only [Act.put,q1,q2,q3]))|(go_at_call 72;refine (IM _ _ _ (hS.front (R := blk NB 50 [.int .i64 11, .int .i64 n] :: own 70 1 AD0 (m' + 3) CAP0 (vs' ++ [vc] ++ [va] ++ [vb]) :: Hs) (Rem.tl (Rem.tl Rem.hd)))).mono ?_;clear hS IM;rintro e w ⟨v, rfl, H', x1, x2, hS⟩;obtain ⟨Kv, bv, rfl⟩ := x2.form)|((with_reducible apply yI hS);exact ya;exact E130;exact yb rfl;exact Yz rfl;rfl;decide;clear hS;intro NB3 w hS;(try simp only [Act.put,q1,q2,q3]))|((with_reducible apply YZ hS);exact ya;exact yb rfl;exact yb rfl;exact E130;(repeat (with_reducible first|exact Rem.hd|apply Rem.tl));(repeat (with_reducible apply Rem.tl));(omega);(assumption);rfl;rfl;(omega);(omega);clear hS;intro AD CAP w hS;(try simp only [Act.put,q1,q2,q3])))
        go_roundw
        case rel => exact ⟨k + 1, m' + 1, AD, CAP, _, _, H', rfl, by go_num, ti', ⟨vs', _, rfl, hvr.ext x1, x2⟩, by rw [HM.out]; rfl, by omega, hS.sb (by (repeat (first | with_reducible exact Sb.refl | (with_reducible refine Sb.take (by (repeat (with_reducible first | exact Rem.hd | apply Rem.tl)); done) ?_) | with_reducible apply Sb.skip)))⟩
        case measure => simp [intOf]; omega
    · have hk2 : k = fs.length := by omega
      subst hk2
      have hbt : ∀ t, st = [t] → size t ≤ 65536 := fun t e => (hb2 t (by simp [e])).2
      rcases ti.done hl with ⟨t, rfl, hq⟩ | ⟨hne, hq⟩
      · obtain ⟨vs', va, rfl, rfl, hva⟩ := hvs
        obtain ⟨l1, l2, l3, l4⟩ := YC t
        have hst := hbt t rfl
        obtain rfl : m = 1 := by rw [hm]; rfl
        simp only [List.nil_append] at hS
        by_cases hd : (look t).1 > 64
        · have HN := hid (show km fs = none by rw [km, hq]; simp [hd])
          clear hq ti hm
          go_wp2_with (first|((with_reducible apply yA);exact yg rfl rfl;exact yb rfl;exact yh;exact E130;(omega);(omega);(exact hS.ownNN (by (exact yf)) (by omega));(simp only [Int.toNat_natCast, Nat.mul_one, Nat.zero_add, Yc, yL, yJ, yP, Yb, yQ, yK];rfl);(try simp only [Act.put,q1,q2,q3]))|((with_reducible apply Yl);exact yg rfl rfl;exact yb rfl;(exact (hS.ownCell (by (exact yf)) (by (rfl))).1);decide +kernel;(try simp only [Act.put,q1,q2,q3]))|((with_reducible apply jE hS);rfl;exact yb rfl;exact hva;(repeat (with_reducible first|exact yf|apply ye));clear hS;intro w hS;(try simp only [Act.put,q1,q2,q3]))|((with_reducible apply KG);exact yg rfl rfl;exact yb rfl;exact Jn;rfl;(try simp only [Act.put,q1,q2,q3])))
          go_ret
          exact ⟨_, rfl, .inl ⟨rfl, HN.out, hS.drop.drop⟩⟩
        · have HN := hid (show km fs = some t by rw [km, hq]; simp [hd])
          obtain ⟨Kv, bv, rfl⟩ := hva.form
          clear hq ti hm
          go_wp2_with (first|((with_reducible apply yA);(first|with_reducible exact ya|exact yg rfl rfl);exact yb rfl;exact yh;exact E130;(omega);(omega);(exact hS.ownNN (by (exact yf)) (by omega));(simp only [Int.toNat_natCast, Nat.mul_one, Nat.zero_add, Yc, yL, yJ, yP, Yb, yQ, yK];rfl);(try simp only [Act.put,q1,q2,q3]))|((with_reducible apply Yl);(first|with_reducible exact ya|exact yg rfl rfl);exact yb rfl;(exact (hS.ownCell (by (exact yf)) (by (rfl))).1);decide +kernel;(try simp only [Act.put,q1,q2,q3]))|((with_reducible apply jE hS);rfl;exact yb rfl;exact hva;(repeat (with_reducible first|exact yf|apply ye));clear hS;intro w hS;(try simp only [Act.put,q1,q2,q3]))|((with_reducible apply KG);exact yg rfl rfl;exact yb rfl;exact Jn;rfl;(try simp only [Act.put,q1,q2,q3])))
          go_ret
          exact ⟨_, rfl, .inr ⟨t, H, HN.out, hva, hS.drop⟩⟩
      · have HN := hid (show km fs = none by rw [km, hq]; rfl)
        have hm1 : ¬ (m : Int) = 1 := by omega
        have hm2 : ((m : Int) == 1) = false := by simp; omega
        clear hq ti hne hm
        go_wp2
        go_ret
        exact ⟨_, rfl, .inl ⟨rfl, HN.out, hS.drop.drop⟩⟩
end
end Go.Proofs.YthackanffcaejaaGreatDoor
