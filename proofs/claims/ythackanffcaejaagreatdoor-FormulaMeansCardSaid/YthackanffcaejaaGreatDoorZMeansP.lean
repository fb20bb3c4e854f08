/- FormulaMeans: the law's walk where both formulas are worked out; the number not below 0. -/
import Derived.Test.YthackanffcaejaaGreatDoorZMeansA
import Derived.Deep.Cut
set_option linter.unusedSimpArgs false
set_option linter.unusedVariables false
set_option linter.unusedSectionVars false
set_option maxRecDepth 20000
namespace Go.Proofs.YthackanffcaejaaGreatDoor
open Go Go.RowKit Go.SL Go.ClauseP Go.LexP

section
variable (f : List (Int × Int)) (hf : f.length ≤ 8796093022200) (g : List (Int × Int)) (hg : g.length ≤ 8796093022200) (bits : List Bool) (hbl : bits.length ≤ 140737488355328) (adf : Option Addr) (capf : Nat) (adg : Option Addr) (capg : Nat) (adB : Option Addr) (capB : Nat) (w0 : World) (hrf : Rd (base w0) adf (Fs f)) (hrg : Rd (base w0) adg (Fs g)) (hrB : Rd (base w0) adB (BV bits)) (hnf : adf = none → capf = 0 ∧ f.length = 0) (hng : adg = none → capg = 0 ∧ g.length = 0) (hnB : adB = none → capB = 0 ∧ bits.length = 0) (htb : Tab w0) (hSE : SigE w0) (v : Int) (hv0 : -9223372036854775808 ≤ v) (hv1 : v ≤ 9223372036854775807)
include hf hg hbl hrf hrg hrB hnf hng hnB htb hSE hv0 hv1
set_option maxHeartbeats 16000000 in
theorem meansGoodP (hcf : (evalP f bits).2 = 0) (hcg : (evalP g bits).2 = 0) (m : Nat) (hm : m < 1000) (hv : ¬ v < 0) (hy : v.tmod 1000 = (m : Int)) : Calls Tryz.prog 9 #[.slice adf f.length capf, .slice adg g.length capg, .int .i64 v, .slice adB bits.length capB] w0 fun e w' => e = .returned (.bool true) ∧ Sat w0 w' [base w0] := by
  have hS := Sat.start w0
  obtain ⟨tf, htf, _⟩ := evalP_ok hcf
  obtain ⟨tg, htg, _⟩ := evalP_ok hcg
  have f65 : f.length ≤ 65536 := (treeQ_some (treeP_some htf).1).1
  have g65 : g.length ≤ 65536 := (treeQ_some (treeP_some htg).1).1
  clear htf htg
  have AC := fun w1 R hm h => aliveC w0 w1 R hm hSE htb h
  have EF := fun w1 R h hA => evalE f (by omega) adf capf w0 w1 R h (A := base w0) hA hrf bits adB capB hbl (B := base w0) hA hrB
  have EG := fun w1 R h hA => evalE g (by omega) adg capg w0 w1 R h (A := base w0) hA hrg bits adB capB hbl (B := base w0) hA hrB
  have DF := fun w1 R h hA => evalD f (by omega) adf capf w0 w1 R h (A := base w0) hA hrf bits adB capB hbl (B := base w0) hA hrB
  have DG := fun w1 R h hA => evalD g (by omega) adg capg w0 w1 R h (A := base w0) hA hrg bits adB capB hbl (B := base w0) hA hrB
  obtain ⟨E1, hE⟩ : ∃ E1, evalP f bits = (E1, 0) := ⟨(evalP f bits).1, by rw [← hcf]⟩
  obtain ⟨G1, hG⟩ : ∃ G1, evalP g bits = (G1, 0) := ⟨(evalP g bits).1, by rw [← hcg]⟩
  obtain ⟨e0, he0⟩ : ∃ e0, e0 = E1 := ⟨E1, rfl⟩
  obtain ⟨g0, hg0⟩ : ∃ g0, g0 = G1 := ⟨G1, rfl⟩
  have bothX : ∀ op : Int, 6 ≤ op → op ≤ 10 → ∃ (L : List (Int × Int)) (P1 : Bool) (P2 : Int) (O : Bool), (∀ w1 R, Sat w0 w1 R → base w0 ∈ R → Calls Tryz.prog 24 #[.slice adf f.length capf, .slice adg g.length capg, .int .i64 op] w1 fun e w' => ∃ AD CAP, e = .returned (.slice AD L.length CAP) ∧ Sat w0 w' (own 50 2 AD L.length CAP (Fs L) :: R)) ∧ Big bits adB capB w0 L P1 P2 O ∧ (O = true → P1 = opV op e0 g0 ∧ P2 = 0) := by
    intro op h1 h2
    rw [he0, hg0]
    refine ⟨f ++ g ++ [(op, 0)], _, _, _, fun w1 R h hA => bothC f f65 adf capf w0 w1 R h hA hrf hnf g g65 adg capg hA hrg hng op, big bits hbl adB capB w0 hrB _ (by simp; omega), fun hO => ?_⟩
    have := means_bin hcf hcg h1 h2 hO
    rw [this, hE, hG]
    exact ⟨rfl, rfl⟩
  have overX : ∀ op n : Int, ∃ (L : List (Int × Int)) (P1 : Bool) (P2 : Int) (O : Bool), (∀ w1 R, Sat w0 w1 R → base w0 ∈ R → Calls Tryz.prog 25 #[.slice adf f.length capf, .agg #[.int .i64 op, .int .i64 n]] w1 fun e w' => ∃ AD CAP, e = .returned (.slice AD L.length CAP) ∧ Sat w0 w' (own 50 2 AD L.length CAP (Fs L) :: R)) ∧ Big bits adB capB w0 L P1 P2 O ∧ Hid ((treeP (f ++ [(op, n)])).isSome = O ∧ evalP (f ++ [(op, n)]) bits = (P1, P2)) := fun op n =>
    ⟨f ++ [(op, n)], _, _, _, fun w1 R h hA => overC f f65 adf capf w0 w1 R h hA hrf hnf op n, big bits hbl adB capB w0 hrB _ (by simp; omega), hid ⟨rfl, rfl⟩⟩
  have setX : ∀ (b : Bool) w1 R, Sat w0 w1 R → base w0 ∈ R → Calls Tryz.prog 26 #[.slice adB bits.length capB, .int .i64 (m : Int), .bool b] w1 fun e w' => ∃ AD CAP l, e = .returned (.slice AD l.length CAP) ∧ Grw bits l ∧ m < l.length ∧ l.length ≤ 140737488355328 ∧ Sat w0 w' (own 4 1 AD l.length CAP (BV (l.set m b)) :: R) := fun b w1 R h hA => by
    have := setC bits hbl adB capB w0 w1 R h hA hrB hnB m hm b
    simp only [List.length_set] at this
    exact this
  have evS : ∀ (l : List Bool) (b : Bool) (AD : Option Addr) (CAP : Nat) w1 R, l.length ≤ 140737488355328 → Sat w0 w1 (own 4 1 AD l.length CAP (BV (l.set m b)) :: R) → base w0 ∈ R → Calls Tryz.prog 22 #[.slice adf f.length capf, .slice AD l.length CAP] w1 fun e w' => ∃ v : Bool, e = .returned (.tuple #[.bool v, .int .i64 0]) ∧ Hid ((evalP f (l.set m b)).1 = v) ∧ Sat w0 w' (own 4 1 AD l.length CAP (BV (l.set m b)) :: R) := fun l b AD CAP w1 R hX h hA => by
    have := evalE f (by omega) adf capf w0 w1 _ h (A := base w0) (mem_tl hA) hrf (l.set m b) AD CAP (by rw [List.length_set]; exact hX) (B := own 4 1 AD l.length CAP (BV (l.set m b))) mem_hd Rd.of_own
    rw [means_set hcf (l.set m b), List.length_set] at this
    exact this.mono fun e w' ⟨h1, h2⟩ => ⟨_, h1, hid rfl, h2⟩
  obtain ⟨L3, N1, N2, O, OC3, B3, H3⟩ := overX 3 0
  obtain ⟨L4, P1, P2, O4, OC4, B4, H4⟩ := overX 4 m
  obtain ⟨L5, Q1, Q2, O5, OC5, B5, H5⟩ := overX 5 m
  have HQ := hid (show ∀ (l l2 : List Bool), Grw bits l → m < l.length → Grw bits l2 → m < l2.length → P2 ≠ 0 ∨ (Q2 = 0 ∧ P1 = ((evalP f (l.set m false)).1 || (evalP f (l2.set m true)).1) ∧ Q1 = ((evalP f (l.set m false)).1 && (evalP f (l2.set m true)).1)) from fun l l2 h1 h2 h3 h4 => by
    have := means_qu2 (v := m) (l := l) (l2 := l2) hcf (by omega) h1 h2 h3 h4
    rw [H4.out.2, H5.out.2] at this
    exact this)
  have HNt := hid (show O = true → N1 = (!E1) ∧ N2 = 0 from fun hO => by
    have h := means_not (f := f) (bits := bits) hcf (H3.out.1.trans hO)
    rw [H3.out.2, hE] at h
    exact ⟨congrArg Prod.fst h, congrArg Prod.snd h⟩)
  have SX0 := setX false
  have SX1 := setX true
  clear overX setX H3 H4 H5
  rw [hE] at EF DF
  rw [hG] at EG DG
  clear hcf hcg hE hG hnf hng hnB hrf hrg hrB htb hSE
  have HE0 := hid he0
  have HG0 := hid hg0
  clear he0 hg0
  cases E1 <;> cases G1
  all_goals
    as_aux_lemma =>
      go_enter Tryz.func9, Tryz.ntmps9
      go_wp2_with (first | (go_at_call 11; refine (AC _ _ mem_hd hS).mono ?_; clear hS; rintro e w ⟨rfl, hS⟩) | ((with_reducible apply (arm_alloc hS)); (first | with_reducible exact wanted_none | exact wanted_guard rfl rfl); (first | with_reducible exact z42 | with_reducible exact z46); clear hS; intro NB w hS; (try simp only [Act.put, List.setIfInBounds_toArray, List.set_cons_zero, List.set_cons_succ])) | ((with_reducible apply (arm_store hS)); (first | with_reducible exact wanted_none | exact wanted_guard rfl rfl); (first | exact ev_tmp rfl | exact ev_const); (first | exact ev_tmp rfl | exact ev_const); (repeat (first | with_reducible exact mem_hd | with_reducible apply mem_tl)); rfl; (first | (focus (simp; done)) | (simp; omega) | omega); (repeat (first | with_reducible exact Upd.hd | with_reducible apply Upd.tl)); rfl; decide +kernel; clear hS; intro w hS; (try simp only [List.set_cons_zero, List.set_cons_succ] at hS); (try simp only [Act.put, List.setIfInBounds_toArray, List.set_cons_zero, List.set_cons_succ])) | ((go_at_call 22); (first | ((with_reducible refine (EF _ _ hS mem_hd).mono ?_); clear EF) | ((with_reducible refine (EG _ _ hS mem_hd).mono ?_); clear EG)); clear hS; rintro e w ⟨rfl, hS⟩) | ((go_at_call 23); (first | ((with_reducible refine (DF _ _ hS mem_hd).mono ?_); clear DF) | ((with_reducible refine (DG _ _ hS mem_hd).mono ?_); clear DG)); clear hS; rintro e w ⟨rfl, hS⟩))
      go_loopw [19] (fun iv wr => (iv = .int .i64 0 ∨ iv = .int .i64 1 ∨ iv = .int .i64 2 ∨ iv = .int .i64 3 ∨ iv = .int .i64 4 ∨ iv = .int .i64 5) ∧ Sat w0 wr [blk NB 46 [.bool (opV 6 e0 g0), .bool (opV 7 e0 g0), .bool (opV 8 e0 g0), .bool (opV 9 e0 g0), .bool (opV 10 e0 g0)], base w0]) (fun iv _ => (5 - intOf iv).toNat)
      case atStart => exact ⟨.inl rfl, by rw [HE0.out, HG0.out]; exact hS⟩
      case round =>
        clear hS
        obtain ⟨hi, hS⟩ := hrel
        rcases hi with rfl | rfl | rfl | rfl | rfl | rfl
        · obtain ⟨L, M1, M2, U, BC, B, MB⟩ := bothX 6 (by decide) (by decide)
          clear bothX OC3 OC4 OC5 B3 B4 B5 HQ HNt SX0 SX1 evS
          go_upto_region 27 with (first | (go_at_call 22; refine (B.ev _ _ _ _ hS (by (repeat (first | with_reducible exact mem_hd | with_reducible apply mem_tl)))).mono ?_; clear hS; rintro e w ⟨rfl, hS⟩) | (go_at_call 12; refine (B.fm _ _ _ _ hS).mono ?_; clear hS; rintro e w ⟨rfl, hS⟩) | (go_at_call 24; refine (BC _ _ hS (by (repeat (first | with_reducible exact mem_hd | with_reducible apply mem_tl)))).mono ?_; clear hS; rintro e w ⟨AD, CAP, rfl, hS⟩))
          cases U
          · clear MB
            go_wp2_with (first | ((with_reducible apply (arm_load hS)); (first | with_reducible exact wanted_none | exact wanted_guard rfl rfl); (first | exact ev_tmp rfl | exact ev_const); (repeat (first | with_reducible exact mem_hd | with_reducible apply mem_tl)); rfl; decide +kernel; (try simp only [Act.put, List.setIfInBounds_toArray, List.set_cons_zero, List.set_cons_succ])))
            go_roundw
            case rel =>
              refine ⟨?_, ?_⟩
              · exact .inr (.inl rfl)
              · have hS2 := hS.drop
                exact hS2
            case measure => decide
          · obtain ⟨rfl, rfl⟩ := MB rfl
            go_wp2_with (first | ((with_reducible apply (arm_load hS)); (first | with_reducible exact wanted_none | exact wanted_guard rfl rfl); (first | exact ev_tmp rfl | exact ev_const); (repeat (first | with_reducible exact mem_hd | with_reducible apply mem_tl)); rfl; decide +kernel; (try simp only [Act.put, List.setIfInBounds_toArray, List.set_cons_zero, List.set_cons_succ])))
            go_roundw
            case rel =>
              refine ⟨?_, ?_⟩
              · exact .inr (.inl rfl)
              · have hS2 := hS.drop
                exact hS2
            case measure => decide
        · obtain ⟨L, M1, M2, U, BC, B, MB⟩ := bothX 7 (by decide) (by decide)
          clear bothX OC3 OC4 OC5 B3 B4 B5 HQ HNt SX0 SX1 evS
          go_upto_region 27 with (first | (go_at_call 22; refine (B.ev _ _ _ _ hS (by (repeat (first | with_reducible exact mem_hd | with_reducible apply mem_tl)))).mono ?_; clear hS; rintro e w ⟨rfl, hS⟩) | (go_at_call 12; refine (B.fm _ _ _ _ hS).mono ?_; clear hS; rintro e w ⟨rfl, hS⟩) | (go_at_call 24; refine (BC _ _ hS (by (repeat (first | with_reducible exact mem_hd | with_reducible apply mem_tl)))).mono ?_; clear hS; rintro e w ⟨AD, CAP, rfl, hS⟩))
          cases U
          · clear MB
            go_wp2_with (first | ((with_reducible apply (arm_load hS)); (first | with_reducible exact wanted_none | exact wanted_guard rfl rfl); (first | exact ev_tmp rfl | exact ev_const); (repeat (first | with_reducible exact mem_hd | with_reducible apply mem_tl)); rfl; decide +kernel; (try simp only [Act.put, List.setIfInBounds_toArray, List.set_cons_zero, List.set_cons_succ])))
            go_roundw
            case rel =>
              refine ⟨?_, ?_⟩
              · exact .inr (.inr (.inl rfl))
              · have hS2 := hS.drop
                exact hS2
            case measure => decide
          · obtain ⟨rfl, rfl⟩ := MB rfl
            go_wp2_with (first | ((with_reducible apply (arm_load hS)); (first | with_reducible exact wanted_none | exact wanted_guard rfl rfl); (first | exact ev_tmp rfl | exact ev_const); (repeat (first | with_reducible exact mem_hd | with_reducible apply mem_tl)); rfl; decide +kernel; (try simp only [Act.put, List.setIfInBounds_toArray, List.set_cons_zero, List.set_cons_succ])))
            go_roundw
            case rel =>
              refine ⟨?_, ?_⟩
              · exact .inr (.inr (.inl rfl))
              · have hS2 := hS.drop
                exact hS2
            case measure => decide
        · obtain ⟨L, M1, M2, U, BC, B, MB⟩ := bothX 8 (by decide) (by decide)
          clear bothX OC3 OC4 OC5 B3 B4 B5 HQ HNt SX0 SX1 evS
          go_upto_region 27 with (first | (go_at_call 22; refine (B.ev _ _ _ _ hS (by (repeat (first | with_reducible exact mem_hd | with_reducible apply mem_tl)))).mono ?_; clear hS; rintro e w ⟨rfl, hS⟩) | (go_at_call 12; refine (B.fm _ _ _ _ hS).mono ?_; clear hS; rintro e w ⟨rfl, hS⟩) | (go_at_call 24; refine (BC _ _ hS (by (repeat (first | with_reducible exact mem_hd | with_reducible apply mem_tl)))).mono ?_; clear hS; rintro e w ⟨AD, CAP, rfl, hS⟩))
          cases U
          · clear MB
            go_wp2_with (first | ((with_reducible apply (arm_load hS)); (first | with_reducible exact wanted_none | exact wanted_guard rfl rfl); (first | exact ev_tmp rfl | exact ev_const); (repeat (first | with_reducible exact mem_hd | with_reducible apply mem_tl)); rfl; decide +kernel; (try simp only [Act.put, List.setIfInBounds_toArray, List.set_cons_zero, List.set_cons_succ])))
            go_roundw
            case rel =>
              refine ⟨?_, ?_⟩
              · exact .inr (.inr (.inr (.inl rfl)))
              · have hS2 := hS.drop
                exact hS2
            case measure => decide
          · obtain ⟨rfl, rfl⟩ := MB rfl
            go_wp2_with (first | ((with_reducible apply (arm_load hS)); (first | with_reducible exact wanted_none | exact wanted_guard rfl rfl); (first | exact ev_tmp rfl | exact ev_const); (repeat (first | with_reducible exact mem_hd | with_reducible apply mem_tl)); rfl; decide +kernel; (try simp only [Act.put, List.setIfInBounds_toArray, List.set_cons_zero, List.set_cons_succ])))
            go_roundw
            case rel =>
              refine ⟨?_, ?_⟩
              · exact .inr (.inr (.inr (.inl rfl)))
              · have hS2 := hS.drop
                exact hS2
            case measure => decide
        · obtain ⟨L, M1, M2, U, BC, B, MB⟩ := bothX 9 (by decide) (by decide)
          clear bothX OC3 OC4 OC5 B3 B4 B5 HQ HNt SX0 SX1 evS
          go_upto_region 27 with (first | (go_at_call 22; refine (B.ev _ _ _ _ hS (by (repeat (first | with_reducible exact mem_hd | with_reducible apply mem_tl)))).mono ?_; clear hS; rintro e w ⟨rfl, hS⟩) | (go_at_call 12; refine (B.fm _ _ _ _ hS).mono ?_; clear hS; rintro e w ⟨rfl, hS⟩) | (go_at_call 24; refine (BC _ _ hS (by (repeat (first | with_reducible exact mem_hd | with_reducible apply mem_tl)))).mono ?_; clear hS; rintro e w ⟨AD, CAP, rfl, hS⟩))
          cases U
          · clear MB
            go_wp2_with (first | ((with_reducible apply (arm_load hS)); (first | with_reducible exact wanted_none | exact wanted_guard rfl rfl); (first | exact ev_tmp rfl | exact ev_const); (repeat (first | with_reducible exact mem_hd | with_reducible apply mem_tl)); rfl; decide +kernel; (try simp only [Act.put, List.setIfInBounds_toArray, List.set_cons_zero, List.set_cons_succ])))
            go_roundw
            case rel =>
              refine ⟨?_, ?_⟩
              · exact .inr (.inr (.inr (.inr (.inl rfl))))
              · have hS2 := hS.drop
                exact hS2
            case measure => decide
          · obtain ⟨rfl, rfl⟩ := MB rfl
            go_wp2_with (first | ((with_reducible apply (arm_load hS)); (first | with_reducible exact wanted_none | exact wanted_guard rfl rfl); (first | exact ev_tmp rfl | exact ev_const); (repeat (first | with_reducible exact mem_hd | with_reducible apply mem_tl)); rfl; decide +kernel; (try simp only [Act.put, List.setIfInBounds_toArray, List.set_cons_zero, List.set_cons_succ])))
            go_roundw
            case rel =>
              refine ⟨?_, ?_⟩
              · exact .inr (.inr (.inr (.inr (.inl rfl))))
              · have hS2 := hS.drop
                exact hS2
            case measure => decide
        · obtain ⟨L, M1, M2, U, BC, B, MB⟩ := bothX 10 (by decide) (by decide)
          clear bothX OC3 OC4 OC5 B3 B4 B5 HQ HNt SX0 SX1 evS
          go_upto_region 27 with (first | (go_at_call 22; refine (B.ev _ _ _ _ hS (by (repeat (first | with_reducible exact mem_hd | with_reducible apply mem_tl)))).mono ?_; clear hS; rintro e w ⟨rfl, hS⟩) | (go_at_call 12; refine (B.fm _ _ _ _ hS).mono ?_; clear hS; rintro e w ⟨rfl, hS⟩) | (go_at_call 24; refine (BC _ _ hS (by (repeat (first | with_reducible exact mem_hd | with_reducible apply mem_tl)))).mono ?_; clear hS; rintro e w ⟨AD, CAP, rfl, hS⟩))
          cases U
          · clear MB
            go_wp2_with (first | ((with_reducible apply (arm_load hS)); (first | with_reducible exact wanted_none | exact wanted_guard rfl rfl); (first | exact ev_tmp rfl | exact ev_const); (repeat (first | with_reducible exact mem_hd | with_reducible apply mem_tl)); rfl; decide +kernel; (try simp only [Act.put, List.setIfInBounds_toArray, List.set_cons_zero, List.set_cons_succ])))
            go_roundw
            case rel =>
              refine ⟨?_, ?_⟩
              · exact .inr (.inr (.inr (.inr (.inr rfl))))
              · have hS2 := hS.drop
                exact hS2
            case measure => decide
          · obtain ⟨rfl, rfl⟩ := MB rfl
            go_wp2_with (first | ((with_reducible apply (arm_load hS)); (first | with_reducible exact wanted_none | exact wanted_guard rfl rfl); (first | exact ev_tmp rfl | exact ev_const); (repeat (first | with_reducible exact mem_hd | with_reducible apply mem_tl)); rfl; decide +kernel; (try simp only [Act.put, List.setIfInBounds_toArray, List.set_cons_zero, List.set_cons_succ])))
            go_roundw
            case rel =>
              refine ⟨?_, ?_⟩
              · exact .inr (.inr (.inr (.inr (.inr rfl))))
              · have hS2 := hS.drop
                exact hS2
            case measure => decide
        · clear bothX
          go_upto_region 32 with (first | ((go_at_call 25); (first | ((with_reducible refine (OC3 _ _ hS (by (repeat (first | with_reducible exact mem_hd | with_reducible apply mem_tl)))).mono ?_); clear OC3) | ((with_reducible refine (OC4 _ _ hS (by (repeat (first | with_reducible exact mem_hd | with_reducible apply mem_tl)))).mono ?_); clear OC4) | ((with_reducible refine (OC5 _ _ hS (by (repeat (first | with_reducible exact mem_hd | with_reducible apply mem_tl)))).mono ?_); clear OC5)); clear hS; rintro e w ⟨AD, CAP, rfl, hS⟩) | ((go_at_call 22); (first | ((with_reducible refine (B3.ev _ _ _ _ hS (by (repeat (first | with_reducible exact mem_hd | with_reducible apply mem_tl)))).mono ?_); clear hS; rintro e w ⟨rfl, hS⟩) | ((with_reducible refine (B4.ev _ _ _ _ hS (by (repeat (first | with_reducible exact mem_hd | with_reducible apply mem_tl)))).mono ?_); clear hS; rintro e w ⟨rfl, hS⟩) | ((with_reducible refine (B5.ev _ _ _ _ hS (by (repeat (first | with_reducible exact mem_hd | with_reducible apply mem_tl)))).mono ?_); clear hS; rintro e w ⟨rfl, hS⟩) | ((with_reducible refine (evS _ _ _ _ _ _ (by assumption) hS (by (repeat (first | with_reducible exact mem_hd | with_reducible apply mem_tl)))).mono ?_); clear hS; (first | (have tk1 := hg1; clear tk1; rintro e w ⟨b1, rfl, hb1, hS⟩) | rintro e w ⟨b0, rfl, hb0, hS⟩)))) | (go_at_call 12; refine (B3.fm _ _ _ _ hS).mono ?_; clear hS; rintro e w ⟨rfl, hS⟩) | (go_at_call 23; refine (B4.dev _ _ _ _ hS (by (repeat (first | with_reducible exact mem_hd | with_reducible apply mem_tl)))).mono ?_; clear hS; rintro e w ⟨rfl, hS⟩) | ((go_at_call 26); (first | ((with_reducible refine (SX0 _ _ hS (by (repeat (first | with_reducible exact mem_hd | with_reducible apply mem_tl)))).mono ?_); clear SX0 hS; rintro e w ⟨AD, CAP, l0, rfl, hg0, hm0, hll0, hS⟩) | ((with_reducible refine (SX1 _ _ hS (by (repeat (first | with_reducible exact mem_hd | with_reducible apply mem_tl)))).mono ?_); clear SX1 hS; rintro e w ⟨AD, CAP, l1, rfl, hg1, hm1, hll1, hS⟩))))
          cases O
          all_goals
            try (obtain ⟨rfl, rfl⟩ := HNt.out rfl)
            clear HNt
            go_upto_region 43 with (first | ((go_at_call 25); (first | ((with_reducible refine (OC3 _ _ hS (by (repeat (first | with_reducible exact mem_hd | with_reducible apply mem_tl)))).mono ?_); clear OC3) | ((with_reducible refine (OC4 _ _ hS (by (repeat (first | with_reducible exact mem_hd | with_reducible apply mem_tl)))).mono ?_); clear OC4) | ((with_reducible refine (OC5 _ _ hS (by (repeat (first | with_reducible exact mem_hd | with_reducible apply mem_tl)))).mono ?_); clear OC5)); clear hS; rintro e w ⟨AD, CAP, rfl, hS⟩) | ((go_at_call 22); (first | ((with_reducible refine (B3.ev _ _ _ _ hS (by (repeat (first | with_reducible exact mem_hd | with_reducible apply mem_tl)))).mono ?_); clear hS; rintro e w ⟨rfl, hS⟩) | ((with_reducible refine (B4.ev _ _ _ _ hS (by (repeat (first | with_reducible exact mem_hd | with_reducible apply mem_tl)))).mono ?_); clear hS; rintro e w ⟨rfl, hS⟩) | ((with_reducible refine (B5.ev _ _ _ _ hS (by (repeat (first | with_reducible exact mem_hd | with_reducible apply mem_tl)))).mono ?_); clear hS; rintro e w ⟨rfl, hS⟩) | ((with_reducible refine (evS _ _ _ _ _ _ (by assumption) hS (by (repeat (first | with_reducible exact mem_hd | with_reducible apply mem_tl)))).mono ?_); clear hS; (first | (have tk1 := hg1; clear tk1; rintro e w ⟨b1, rfl, hb1, hS⟩) | rintro e w ⟨b0, rfl, hb0, hS⟩)))) | (go_at_call 12; refine (B3.fm _ _ _ _ hS).mono ?_; clear hS; rintro e w ⟨rfl, hS⟩) | (go_at_call 23; refine (B4.dev _ _ _ _ hS (by (repeat (first | with_reducible exact mem_hd | with_reducible apply mem_tl)))).mono ?_; clear hS; rintro e w ⟨rfl, hS⟩) | ((go_at_call 26); (first | ((with_reducible refine (SX0 _ _ hS (by (repeat (first | with_reducible exact mem_hd | with_reducible apply mem_tl)))).mono ?_); clear SX0 hS; rintro e w ⟨AD, CAP, l0, rfl, hg0, hm0, hll0, hS⟩) | ((with_reducible refine (SX1 _ _ hS (by (repeat (first | with_reducible exact mem_hd | with_reducible apply mem_tl)))).mono ?_); clear SX1 hS; rintro e w ⟨AD, CAP, l1, rfl, hg1, hm1, hll1, hS⟩))))
            have hq := HQ.out l0 l1 hg0 hm0 hg1 hm1
            rw [hb0.out, hb1.out] at hq
            clear HQ hb0 hb1 hg0 hg1
            by_cases hp : P2 = 0
            · rcases hq with hq | ⟨rfl, rfl, rfl⟩
              · exact absurd hp hq
              · subst hp
                cases b0 <;> cases b1
                all_goals
                  go_wp2
                  go_ret
                  refine ⟨rfl, ?_⟩
                  have hS2 := hS.drop.drop.drop.drop.drop.drop
                  exact hS2
            · have hne : (P2 != 0) = true := by simpa using hp
              clear hq
              go_wp2
              go_ret
              refine ⟨rfl, ?_⟩
              have hS2 := hS.drop.drop.drop.drop.drop.drop
              exact hS2
end
end Go.Proofs.YthackanffcaejaaGreatDoor
