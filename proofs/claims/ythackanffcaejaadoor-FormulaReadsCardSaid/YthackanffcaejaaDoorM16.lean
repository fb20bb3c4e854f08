/- A part of the proof: Lv3 Lv4 Lv5. -/
import Derived.Test.YthackanffcaejaaDoorM1
import Derived.Test.YthackanffcaejaaDoorM8
import Derived.Test.YthackanffcaejaaDoorM15
section
set_option linter.unusedSimpArgs false
set_option linter.unusedVariables false
set_option maxRecDepth 20000
namespace Go.Proofs.YthackanffcaejaaDoor
open Go Go.RowKit Go.SL Go.ClauseP Go.LexP

theorem chainD4 (text : List UInt8) (hD : LvD text 146) (B : Nat) (k n tat te fin o nd d a c op : Int) (w0 w : World) (R : List HP) (hd : d ≠ 0) (hS : Sat w0 w (blk B 91 (psV text k n tat te fin o nd d a) :: R)) :
    Calls Tryd.prog 83 #[.pointer (some ⟨B, 0, none⟩), .int .i64 c, .int .i64 op, .func (.func 146) #[.pointer (some ⟨B, 0, none⟩)] #[]] w fun e w' => e = .returned .nilIface ∧ Sat w0 w' (blk B 91 (psV text k n tat te fin o nd d a) :: R) := by
  have GD := fun w R hS => hD B k n tat te fin o nd d a w0 w R hd hS
  unfold psV at hS GD
  have hd2 : (d == 0) = false := by simp [hd]
  go_enter Tryd.func83, Tryd.ntmps83
  go_wp2_with (go_at_call 146; refine (GD _ _ hS).mono ?_; clear hS; rintro e w ⟨rfl, hS⟩)
  go_loopw [9] (fun x wr => x = .nilIface ∧ Sat w0 wr (blk B 91 [.string ⟨text.toArray⟩, .int .i64 k, .int .i64 n, .int .i64 tat, .int .i64 te, .int .i64 fin, .int .i64 o, .int .i64 nd, .int .i64 d, .int .i64 a] :: R)) (fun _ _ => 0)
  case atStart => exact ⟨rfl, hS⟩
  case round =>
    clear hS
    obtain ⟨rfl, hS⟩ := hrel
    go_wp2_with ((with_reducible apply arm_load hS); exact wanted_none; exact ev_tmp rfl; (repeat (with_reducible exact mem_hd)); rfl; decide +kernel; (try simp only [Act.put, q1, q2, q3]))
    go_ret
    exact ⟨rfl, hS⟩
set_option maxHeartbeats 4000000 in
theorem chainA4 (text : List UInt8) (hl : text.length ≤ 1048576) (n : Nat) (hA : LvA text 146 5 n) (hD : LvD text 146) (B : Nat) (p : Ps) (w0 w : World) (R : List HP) (H : Hp) (hp : PsB text p) (hm : meas text p ≤ n) (hSig : SigE w0) (hbm : base w0 ∈ R)
    (hS : Sat w0 w (blk B 91 (alV text p) :: fz H :: R)) :
    Calls Tryd.prog 83 #[.pointer (some ⟨B, 0, none⟩), .int .i64 6, .int .i64 8, .func (.func 146) #[.pointer (some ⟨B, 0, none⟩)] #[]] w fun e w' => ∃ v, e = .returned v ∧ ∃ r, RD text (.lvl 4) p r ∧ okR w0 w' R H B text p v r := by
  have UA := hA B p w0 w R H hp hm hSig hbm hS
  go_enter Tryd.func83, Tryd.ntmps83
  go_wp2_with (go_at_call 146; refine UA.mono ?_; clear hS UA; rintro e w ⟨v, rfl, r, hrd, hok⟩)
  go_loopw [9] (fun x wr => ∃ s, chSt w0 R H B text 4 p x wr s) (fun _ wr => loopM text B wr)
  case atStart =>
    rcases r with x | ⟨t, q⟩
    · exact ⟨.inl x, hok.1, .lvlE (by decide) hrd, hok.2⟩
    · obtain ⟨h1, h2, h3, h4, h5, H', h6, h7, hS⟩ := hok
      exact ⟨.inr (t, q, H'), h6, h7, h1, h2, h3, h4, h5, fun r h => .lvlK (by decide) hrd h, hS⟩
  case round =>
    clear hok hrd
    obtain ⟨s, hs⟩ := hrel
    rcases s with x | ⟨t, q, H1⟩
    · obtain ⟨hv, hrd, H1, hx, h0, k, n, tat, te, fin, o, nd, h1, h2, h3, h4, hS⟩ := hs
      have hd2 : (x.1 == 0) = false := by simp [h0]
      unfold psV at hS
      have HX : Hid (x.1 = x.1) := hid rfl
      obtain ⟨d, a⟩ := x
      dsimp only at *
      go_wp2_with ((with_reducible apply arm_load hS); exact wanted_none; exact ev_tmp rfl; (repeat (with_reducible exact mem_hd)); rfl; decide +kernel; (try simp only [Act.put, q1, q2, q3]))
      go_ret
      exact ⟨_, rfl, .inl (d, a), hrd, hv, H1, hx, h0, k, n, tat, te, fin, o, nd, h1, h2, h3, h4, hS⟩
    · obtain ⟨hx, hi, hq, ho, hmm, hsz, hok, hR, hS⟩ := hs
      have hM := loopM_al hS mem_hd
      have hS0 := hS
      unfold alV psV at hS
      by_cases hk : knd q = 6
      · have hkk : ((tokE q.tk).1 == 6) = true := by simpa [knd] using hk
        have MC := makesC B text q hq w0 wr (fz H1 :: R) hS0
        rcases hmk : makesP q with ⟨d, a⟩ | q1
        · rw [hmk] at MC
          have hth : thenP (makesP q) (advP text) = .inl (d, a) := by rw [hmk]; rfl
          clear hmk
          go_wp2_with (first | ((with_reducible apply arm_load hS); (first | with_reducible exact wanted_none | exact wanted_guard rfl rfl); exact ev_tmp rfl; (repeat (with_reducible exact mem_hd)); rfl; decide +kernel; (try simp only [Act.put, q1, q2, q3])) | (go_at_call 110; refine MC.mono ?_; clear MC hS hS0; rintro e w ⟨rfl, hDd⟩) | (go_at_call 44; refine (advD_aft B text _ _ w0 _ _ hDd).mono ?_; clear hDd; rintro e w ⟨rfl, hDd⟩) | (go_at_call 146; refine (lvD_aft text _ hD B _ _ w0 _ _ hDd).mono ?_; clear hDd; rintro e w ⟨rfl, h0, k, n, tat, te, fin, o, nd, h1, h2, h3, h4, hS⟩; have hd2 : (d == 0) = false := (by simpa using h0); unfold psV at hS; dsimp only at hS))
          go_roundw
          case rel => exact ⟨.inl (d, a), .inr hi.form, hR _ (.loopA hk hth), H1, hx, h0, k, n, tat, te, fin, o, nd, by omega, h2, h3, h4, hS⟩
          case measure =>
            have := loopM_dead (text := text) h0 hS mem_hd
            omega
        · have hq1o : q1.opn = q.opn ∧ q1.nds = q.nds + 1 ∧ meas text q1 = meas text q ∧ knd q1 = knd q := by
            unfold makesP at hmk
            split at hmk
            · cases hmk
            · injection hmk with hmk
              subst hmk
              exact ⟨rfl, rfl, rfl, rfl⟩
          obtain ⟨o1, o2, o3, o4⟩ := hq1o
          rw [hmk] at MC
          rcases had : advP text q1 with ⟨d, a⟩ | q2
          · have hth : thenP (makesP q) (advP text) = .inl (d, a) := by rw [hmk]; exact had
            have AC := fun w hq1 hS => advC B text hl q1 hq1 w0 w hSig (fz H1 :: R) (List.mem_cons_of_mem _ hbm) hS
            rw [had] at AC
            clear hmk had
            go_wp2_with (first | ((with_reducible apply arm_load hS); (first | with_reducible exact wanted_none | exact wanted_guard rfl rfl); exact ev_tmp rfl; (repeat (with_reducible exact mem_hd)); rfl; decide +kernel; (try simp only [Act.put, q1, q2, q3])) | (go_at_call 110; refine MC.mono ?_; clear MC hS hS0; rintro e w ⟨rfl, hq1, hS⟩) | (go_at_call 44; refine (AC _ hq1 hS).mono ?_; clear AC hS; rintro e w ⟨rfl, hDd⟩) | (go_at_call 146; refine (lvD_aft text _ hD B _ _ w0 _ _ hDd).mono ?_; clear hDd; rintro e w ⟨rfl, h0, k, n, tat, te, fin, o, nd, h1, h2, h3, h4, hS⟩; have hd2 : (d == 0) = false := (by simpa using h0); unfold psV at hS; dsimp only at hS))
            go_roundw
            case rel => exact ⟨.inl (d, a), .inr hi.form, hR _ (.loopA hk hth), H1, hx, h0, k, n, tat, te, fin, o, nd, by omega, h2, h3, h4, hS⟩
            case measure =>
              have := loopM_dead (text := text) h0 hS mem_hd
              omega
          · have hth : thenP (makesP q) (advP text) = .inr q2 := by rw [hmk]; exact had
            have AC := fun w hq1 hS => advC B text hl q1 hq1 w0 w hSig (fz H1 :: R) (List.mem_cons_of_mem _ hbm) hS
            rw [had] at AC
            have hms : ∀ hq1 : PsB text q1, meas text q2 < meas text q1 ∧ q2.opn = q1.opn ∧ q2.nds = q1.nds := fun hq1 => advP_meas hq1 (by rw [o4, hk]; decide) had
            have UA := fun w hq2 hm2 hS => hA B q2 w0 w R H1 hq2 hm2 hSig hbm hS
            clear hmk had
            go_wp2_with (first | ((with_reducible apply arm_load hS); (first | with_reducible exact wanted_none | exact wanted_guard rfl rfl); exact ev_tmp rfl; (repeat (with_reducible exact mem_hd)); rfl; decide +kernel; (try simp only [Act.put, q1, q2, q3])) | (go_at_call 110; refine MC.mono ?_; clear MC hS hS0; rintro e w ⟨rfl, hq1, hS⟩) | (go_at_call 44; refine (AC _ hq1 hS).mono ?_; clear AC hS; rintro e w ⟨rfl, hq2, hS⟩; obtain ⟨m1, m2, m3⟩ := hms hq1; clear hms) | (go_at_call 146; refine (UA _ hq2 (by omega) hS).mono ?_; clear UA hS; rintro e w ⟨y, rfl, r3, hrd, hok3⟩; rcases r3 with ⟨d, a⟩ | ⟨t2, q3⟩; (focus (obtain ⟨hy, H3, hx3, h0, k, n, tat, te, fin, o, nd, h1, h2, h3, h4, hS⟩ := hok3)); (have hd2 : (d == 0) = false := (by simpa using h0)); (unfold psV at hS); (dsimp only at hS); rotate_left 1; (obtain ⟨c1, c2, c3, c4, c5, H3, hx3, hi3, hS⟩ := hok3); (unfold alV psV at hS); rotate_left 1) | (go_at_call 73; refine (joinM 8 (by unfold i64; omega) t t2 hok.ops c5.ops (by have := hq.2.1; omega) (by have := c1.2.1; omega) _ _ H3 (InT.ext hx3 hi) hi3 w0 _ (blk B 91 (alV text q3) :: R) (by unfold alV psV; exact hS.sb (by (repeat (first | with_reducible exact Sb.refl | (with_reducible refine Sb.take (by (repeat (with_reducible first | exact Rem.hd | apply Rem.tl)); done) ?_)))))).mono ?_; clear hS; rintro e w ⟨z, rfl, H4, hx4, hi4, hS⟩))
            · go_roundw
              case rel => exact ⟨.inl (d, a), .inr hi.form, hR _ (.loopE hk hth hrd), H3, hx.trans hx3, h0, k, n, tat, te, fin, o, nd, by omega, h2, h3, h4, hS⟩
              case measure =>
                have := loopM_dead (text := text) h0 hS mem_hd
                omega
            · have hS4 : Sat w0 _ (blk B 91 (alV text q3) :: fz H4 :: R) := hS.sb (by (repeat (first | with_reducible exact Sb.refl | (with_reducible refine Sb.take (by (repeat (with_reducible first | exact Rem.hd | apply Rem.tl)); done) ?_))))
              go_roundw
              case rel => exact ⟨.inr (.bin 8 t t2, q3, H4), (hx.trans hx3).trans hx4, hi4, c1, by omega, by omega, by simp only [size]; omega, ⟨by decide, by decide, hok, c5⟩, fun r h => hR r (.loopK hk hth hrd h), hS4⟩
              case measure =>
                have := loopM_al hS4 mem_hd
                omega
      · have hkk : ((tokE q.tk).1 == 6) = false := by simpa [knd] using hk
        go_wp2_with ((with_reducible apply arm_load hS); (first | with_reducible exact wanted_none | exact wanted_guard rfl rfl); exact ev_tmp rfl; (repeat (with_reducible exact mem_hd)); rfl; decide +kernel; (try simp only [Act.put, q1, q2, q3]))
        go_ret
        exact ⟨_, rfl, .inr (t, q), hR _ (.loopN hk), hq, ho, hmm, hsz, hok, H1, hx, hi, hS0⟩
theorem chainD3 (text : List UInt8) (hD : LvD text 133) (B : Nat) (k n tat te fin o nd d a c op : Int) (w0 w : World) (R : List HP) (hd : d ≠ 0) (hS : Sat w0 w (blk B 91 (psV text k n tat te fin o nd d a) :: R)) :
    Calls Tryd.prog 83 #[.pointer (some ⟨B, 0, none⟩), .int .i64 c, .int .i64 op, .func (.func 133) #[.pointer (some ⟨B, 0, none⟩)] #[]] w fun e w' => e = .returned .nilIface ∧ Sat w0 w' (blk B 91 (psV text k n tat te fin o nd d a) :: R) := by
  have GD := fun w R hS => hD B k n tat te fin o nd d a w0 w R hd hS
  unfold psV at hS GD
  have hd2 : (d == 0) = false := by simp [hd]
  go_enter Tryd.func83, Tryd.ntmps83
  go_wp2_with (go_at_call 133; refine (GD _ _ hS).mono ?_; clear hS; rintro e w ⟨rfl, hS⟩)
  go_loopw [9] (fun x wr => x = .nilIface ∧ Sat w0 wr (blk B 91 [.string ⟨text.toArray⟩, .int .i64 k, .int .i64 n, .int .i64 tat, .int .i64 te, .int .i64 fin, .int .i64 o, .int .i64 nd, .int .i64 d, .int .i64 a] :: R)) (fun _ _ => 0)
  case atStart => exact ⟨rfl, hS⟩
  case round =>
    clear hS
    obtain ⟨rfl, hS⟩ := hrel
    go_wp2_with ((with_reducible apply arm_load hS); exact wanted_none; exact ev_tmp rfl; (repeat (with_reducible exact mem_hd)); rfl; decide +kernel; (try simp only [Act.put, q1, q2, q3]))
    go_ret
    exact ⟨rfl, hS⟩
set_option maxHeartbeats 4000000 in
theorem chainA3 (text : List UInt8) (hl : text.length ≤ 1048576) (n : Nat) (hA : LvA text 133 4 n) (hD : LvD text 133) (B : Nat) (p : Ps) (w0 w : World) (R : List HP) (H : Hp) (hp : PsB text p) (hm : meas text p ≤ n) (hSig : SigE w0) (hbm : base w0 ∈ R)
    (hS : Sat w0 w (blk B 91 (alV text p) :: fz H :: R)) :
    Calls Tryd.prog 83 #[.pointer (some ⟨B, 0, none⟩), .int .i64 5, .int .i64 7, .func (.func 133) #[.pointer (some ⟨B, 0, none⟩)] #[]] w fun e w' => ∃ v, e = .returned v ∧ ∃ r, RD text (.lvl 3) p r ∧ okR w0 w' R H B text p v r := by
  have UA := hA B p w0 w R H hp hm hSig hbm hS
  go_enter Tryd.func83, Tryd.ntmps83
  go_wp2_with (go_at_call 133; refine UA.mono ?_; clear hS UA; rintro e w ⟨v, rfl, r, hrd, hok⟩)
  go_loopw [9] (fun x wr => ∃ s, chSt w0 R H B text 3 p x wr s) (fun _ wr => loopM text B wr)
  case atStart =>
    rcases r with x | ⟨t, q⟩
    · exact ⟨.inl x, hok.1, .lvlE (by decide) hrd, hok.2⟩
    · obtain ⟨h1, h2, h3, h4, h5, H', h6, h7, hS⟩ := hok
      exact ⟨.inr (t, q, H'), h6, h7, h1, h2, h3, h4, h5, fun r h => .lvlK (by decide) hrd h, hS⟩
  case round =>
    clear hok hrd
    obtain ⟨s, hs⟩ := hrel
    rcases s with x | ⟨t, q, H1⟩
    · obtain ⟨hv, hrd, H1, hx, h0, k, n, tat, te, fin, o, nd, h1, h2, h3, h4, hS⟩ := hs
      have hd2 : (x.1 == 0) = false := by simp [h0]
      unfold psV at hS
      have HX : Hid (x.1 = x.1) := hid rfl
      obtain ⟨d, a⟩ := x
      dsimp only at *
      go_wp2_with ((with_reducible apply arm_load hS); exact wanted_none; exact ev_tmp rfl; (repeat (with_reducible exact mem_hd)); rfl; decide +kernel; (try simp only [Act.put, q1, q2, q3]))
      go_ret
      exact ⟨_, rfl, .inl (d, a), hrd, hv, H1, hx, h0, k, n, tat, te, fin, o, nd, h1, h2, h3, h4, hS⟩
    · obtain ⟨hx, hi, hq, ho, hmm, hsz, hok, hR, hS⟩ := hs
      have hM := loopM_al hS mem_hd
      have hS0 := hS
      unfold alV psV at hS
      by_cases hk : knd q = 5
      · have hkk : ((tokE q.tk).1 == 5) = true := by simpa [knd] using hk
        have MC := makesC B text q hq w0 wr (fz H1 :: R) hS0
        rcases hmk : makesP q with ⟨d, a⟩ | q1
        · rw [hmk] at MC
          have hth : thenP (makesP q) (advP text) = .inl (d, a) := by rw [hmk]; rfl
          clear hmk
          go_wp2_with (first | ((with_reducible apply arm_load hS); (first | with_reducible exact wanted_none | exact wanted_guard rfl rfl); exact ev_tmp rfl; (repeat (with_reducible exact mem_hd)); rfl; decide +kernel; (try simp only [Act.put, q1, q2, q3])) | (go_at_call 110; refine MC.mono ?_; clear MC hS hS0; rintro e w ⟨rfl, hDd⟩) | (go_at_call 44; refine (advD_aft B text _ _ w0 _ _ hDd).mono ?_; clear hDd; rintro e w ⟨rfl, hDd⟩) | (go_at_call 133; refine (lvD_aft text _ hD B _ _ w0 _ _ hDd).mono ?_; clear hDd; rintro e w ⟨rfl, h0, k, n, tat, te, fin, o, nd, h1, h2, h3, h4, hS⟩; have hd2 : (d == 0) = false := (by simpa using h0); unfold psV at hS; dsimp only at hS))
          go_roundw
          case rel => exact ⟨.inl (d, a), .inr hi.form, hR _ (.loopA hk hth), H1, hx, h0, k, n, tat, te, fin, o, nd, by omega, h2, h3, h4, hS⟩
          case measure =>
            have := loopM_dead (text := text) h0 hS mem_hd
            omega
        · have hq1o : q1.opn = q.opn ∧ q1.nds = q.nds + 1 ∧ meas text q1 = meas text q ∧ knd q1 = knd q := by
            unfold makesP at hmk
            split at hmk
            · cases hmk
            · injection hmk with hmk
              subst hmk
              exact ⟨rfl, rfl, rfl, rfl⟩
          obtain ⟨o1, o2, o3, o4⟩ := hq1o
          rw [hmk] at MC
          rcases had : advP text q1 with ⟨d, a⟩ | q2
          · have hth : thenP (makesP q) (advP text) = .inl (d, a) := by rw [hmk]; exact had
            have AC := fun w hq1 hS => advC B text hl q1 hq1 w0 w hSig (fz H1 :: R) (List.mem_cons_of_mem _ hbm) hS
            rw [had] at AC
            clear hmk had
            go_wp2_with (first | ((with_reducible apply arm_load hS); (first | with_reducible exact wanted_none | exact wanted_guard rfl rfl); exact ev_tmp rfl; (repeat (with_reducible exact mem_hd)); rfl; decide +kernel; (try simp only [Act.put, q1, q2, q3])) | (go_at_call 110; refine MC.mono ?_; clear MC hS hS0; rintro e w ⟨rfl, hq1, hS⟩) | (go_at_call 44; refine (AC _ hq1 hS).mono ?_; clear AC hS; rintro e w ⟨rfl, hDd⟩) | (go_at_call 133; refine (lvD_aft text _ hD B _ _ w0 _ _ hDd).mono ?_; clear hDd; rintro e w ⟨rfl, h0, k, n, tat, te, fin, o, nd, h1, h2, h3, h4, hS⟩; have hd2 : (d == 0) = false := (by simpa using h0); unfold psV at hS; dsimp only at hS))
            go_roundw
            case rel => exact ⟨.inl (d, a), .inr hi.form, hR _ (.loopA hk hth), H1, hx, h0, k, n, tat, te, fin, o, nd, by omega, h2, h3, h4, hS⟩
            case measure =>
              have := loopM_dead (text := text) h0 hS mem_hd
              omega
          · have hth : thenP (makesP q) (advP text) = .inr q2 := by rw [hmk]; exact had
            have AC := fun w hq1 hS => advC B text hl q1 hq1 w0 w hSig (fz H1 :: R) (List.mem_cons_of_mem _ hbm) hS
            rw [had] at AC
            have hms : ∀ hq1 : PsB text q1, meas text q2 < meas text q1 ∧ q2.opn = q1.opn ∧ q2.nds = q1.nds := fun hq1 => advP_meas hq1 (by rw [o4, hk]; decide) had
            have UA := fun w hq2 hm2 hS => hA B q2 w0 w R H1 hq2 hm2 hSig hbm hS
            clear hmk had
            go_wp2_with (first | ((with_reducible apply arm_load hS); (first | with_reducible exact wanted_none | exact wanted_guard rfl rfl); exact ev_tmp rfl; (repeat (with_reducible exact mem_hd)); rfl; decide +kernel; (try simp only [Act.put, q1, q2, q3])) | (go_at_call 110; refine MC.mono ?_; clear MC hS hS0; rintro e w ⟨rfl, hq1, hS⟩) | (go_at_call 44; refine (AC _ hq1 hS).mono ?_; clear AC hS; rintro e w ⟨rfl, hq2, hS⟩; obtain ⟨m1, m2, m3⟩ := hms hq1; clear hms) | (go_at_call 133; refine (UA _ hq2 (by omega) hS).mono ?_; clear UA hS; rintro e w ⟨y, rfl, r3, hrd, hok3⟩; rcases r3 with ⟨d, a⟩ | ⟨t2, q3⟩; (focus (obtain ⟨hy, H3, hx3, h0, k, n, tat, te, fin, o, nd, h1, h2, h3, h4, hS⟩ := hok3)); (have hd2 : (d == 0) = false := (by simpa using h0)); (unfold psV at hS); (dsimp only at hS); rotate_left 1; (obtain ⟨c1, c2, c3, c4, c5, H3, hx3, hi3, hS⟩ := hok3); (unfold alV psV at hS); rotate_left 1) | (go_at_call 73; refine (joinM 7 (by unfold i64; omega) t t2 hok.ops c5.ops (by have := hq.2.1; omega) (by have := c1.2.1; omega) _ _ H3 (InT.ext hx3 hi) hi3 w0 _ (blk B 91 (alV text q3) :: R) (by unfold alV psV; exact hS.sb (by (repeat (first | with_reducible exact Sb.refl | (with_reducible refine Sb.take (by (repeat (with_reducible first | exact Rem.hd | apply Rem.tl)); done) ?_)))))).mono ?_; clear hS; rintro e w ⟨z, rfl, H4, hx4, hi4, hS⟩))
            · go_roundw
              case rel => exact ⟨.inl (d, a), .inr hi.form, hR _ (.loopE hk hth hrd), H3, hx.trans hx3, h0, k, n, tat, te, fin, o, nd, by omega, h2, h3, h4, hS⟩
              case measure =>
                have := loopM_dead (text := text) h0 hS mem_hd
                omega
            · have hS4 : Sat w0 _ (blk B 91 (alV text q3) :: fz H4 :: R) := hS.sb (by (repeat (first | with_reducible exact Sb.refl | (with_reducible refine Sb.take (by (repeat (with_reducible first | exact Rem.hd | apply Rem.tl)); done) ?_))))
              go_roundw
              case rel => exact ⟨.inr (.bin 7 t t2, q3, H4), (hx.trans hx3).trans hx4, hi4, c1, by omega, by omega, by simp only [size]; omega, ⟨by decide, by decide, hok, c5⟩, fun r h => hR r (.loopK hk hth hrd h), hS4⟩
              case measure =>
                have := loopM_al hS4 mem_hd
                omega
      · have hkk : ((tokE q.tk).1 == 5) = false := by simpa [knd] using hk
        go_wp2_with ((with_reducible apply arm_load hS); (first | with_reducible exact wanted_none | exact wanted_guard rfl rfl); exact ev_tmp rfl; (repeat (with_reducible exact mem_hd)); rfl; decide +kernel; (try simp only [Act.put, q1, q2, q3]))
        go_ret
        exact ⟨_, rfl, .inr (t, q), hR _ (.loopN hk), hq, ho, hmm, hsz, hok, H1, hx, hi, hS0⟩
theorem chainD1 (text : List UInt8) (hD : LvD text 84) (B : Nat) (k n tat te fin o nd d a c op : Int) (w0 w : World) (R : List HP) (hd : d ≠ 0) (hS : Sat w0 w (blk B 91 (psV text k n tat te fin o nd d a) :: R)) :
    Calls Tryd.prog 83 #[.pointer (some ⟨B, 0, none⟩), .int .i64 c, .int .i64 op, .func (.func 84) #[.pointer (some ⟨B, 0, none⟩)] #[]] w fun e w' => e = .returned .nilIface ∧ Sat w0 w' (blk B 91 (psV text k n tat te fin o nd d a) :: R) := by
  have GD := fun w R hS => hD B k n tat te fin o nd d a w0 w R hd hS
  unfold psV at hS GD
  have hd2 : (d == 0) = false := by simp [hd]
  go_enter Tryd.func83, Tryd.ntmps83
  go_wp2_with (go_at_call 84; refine (GD _ _ hS).mono ?_; clear hS; rintro e w ⟨rfl, hS⟩)
  go_loopw [9] (fun x wr => x = .nilIface ∧ Sat w0 wr (blk B 91 [.string ⟨text.toArray⟩, .int .i64 k, .int .i64 n, .int .i64 tat, .int .i64 te, .int .i64 fin, .int .i64 o, .int .i64 nd, .int .i64 d, .int .i64 a] :: R)) (fun _ _ => 0)
  case atStart => exact ⟨rfl, hS⟩
  case round =>
    clear hS
    obtain ⟨rfl, hS⟩ := hrel
    go_wp2_with ((with_reducible apply arm_load hS); exact wanted_none; exact ev_tmp rfl; (repeat (with_reducible exact mem_hd)); rfl; decide +kernel; (try simp only [Act.put, q1, q2, q3]))
    go_ret
    exact ⟨rfl, hS⟩
set_option maxHeartbeats 4000000 in
theorem chainA1 (text : List UInt8) (hl : text.length ≤ 1048576) (n : Nat) (hA : LvA text 84 2 n) (hD : LvD text 84) (B : Nat) (p : Ps) (w0 w : World) (R : List HP) (H : Hp) (hp : PsB text p) (hm : meas text p ≤ n) (hSig : SigE w0) (hbm : base w0 ∈ R)
    (hS : Sat w0 w (blk B 91 (alV text p) :: fz H :: R)) :
    Calls Tryd.prog 83 #[.pointer (some ⟨B, 0, none⟩), .int .i64 8, .int .i64 10, .func (.func 84) #[.pointer (some ⟨B, 0, none⟩)] #[]] w fun e w' => ∃ v, e = .returned v ∧ ∃ r, RD text (.lvl 1) p r ∧ okR w0 w' R H B text p v r := by
  have UA := hA B p w0 w R H hp hm hSig hbm hS
  go_enter Tryd.func83, Tryd.ntmps83
  go_wp2_with (go_at_call 84; refine UA.mono ?_; clear hS UA; rintro e w ⟨v, rfl, r, hrd, hok⟩)
  go_loopw [9] (fun x wr => ∃ s, chSt w0 R H B text 1 p x wr s) (fun _ wr => loopM text B wr)
  case atStart =>
    rcases r with x | ⟨t, q⟩
    · exact ⟨.inl x, hok.1, .lvlE (by decide) hrd, hok.2⟩
    · obtain ⟨h1, h2, h3, h4, h5, H', h6, h7, hS⟩ := hok
      exact ⟨.inr (t, q, H'), h6, h7, h1, h2, h3, h4, h5, fun r h => .lvlK (by decide) hrd h, hS⟩
  case round =>
    clear hok hrd
    obtain ⟨s, hs⟩ := hrel
    rcases s with x | ⟨t, q, H1⟩
    · obtain ⟨hv, hrd, H1, hx, h0, k, n, tat, te, fin, o, nd, h1, h2, h3, h4, hS⟩ := hs
      have hd2 : (x.1 == 0) = false := by simp [h0]
      unfold psV at hS
      have HX : Hid (x.1 = x.1) := hid rfl
      obtain ⟨d, a⟩ := x
      dsimp only at *
      go_wp2_with ((with_reducible apply arm_load hS); exact wanted_none; exact ev_tmp rfl; (repeat (with_reducible exact mem_hd)); rfl; decide +kernel; (try simp only [Act.put, q1, q2, q3]))
      go_ret
      exact ⟨_, rfl, .inl (d, a), hrd, hv, H1, hx, h0, k, n, tat, te, fin, o, nd, h1, h2, h3, h4, hS⟩
    · obtain ⟨hx, hi, hq, ho, hmm, hsz, hok, hR, hS⟩ := hs
      have hM := loopM_al hS mem_hd
      have hS0 := hS
      unfold alV psV at hS
      by_cases hk : knd q = 8
      · have hkk : ((tokE q.tk).1 == 8) = true := by simpa [knd] using hk
        have MC := makesC B text q hq w0 wr (fz H1 :: R) hS0
        rcases hmk : makesP q with ⟨d, a⟩ | q1
        · rw [hmk] at MC
          have hth : thenP (makesP q) (advP text) = .inl (d, a) := by rw [hmk]; rfl
          clear hmk
          go_wp2_with (first | ((with_reducible apply arm_load hS); (first | with_reducible exact wanted_none | exact wanted_guard rfl rfl); exact ev_tmp rfl; (repeat (with_reducible exact mem_hd)); rfl; decide +kernel; (try simp only [Act.put, q1, q2, q3])) | (go_at_call 110; refine MC.mono ?_; clear MC hS hS0; rintro e w ⟨rfl, hDd⟩) | (go_at_call 44; refine (advD_aft B text _ _ w0 _ _ hDd).mono ?_; clear hDd; rintro e w ⟨rfl, hDd⟩) | (go_at_call 84; refine (lvD_aft text _ hD B _ _ w0 _ _ hDd).mono ?_; clear hDd; rintro e w ⟨rfl, h0, k, n, tat, te, fin, o, nd, h1, h2, h3, h4, hS⟩; have hd2 : (d == 0) = false := (by simpa using h0); unfold psV at hS; dsimp only at hS))
          go_roundw
          case rel => exact ⟨.inl (d, a), .inr hi.form, hR _ (.loopA hk hth), H1, hx, h0, k, n, tat, te, fin, o, nd, by omega, h2, h3, h4, hS⟩
          case measure =>
            have := loopM_dead (text := text) h0 hS mem_hd
            omega
        · have hq1o : q1.opn = q.opn ∧ q1.nds = q.nds + 1 ∧ meas text q1 = meas text q ∧ knd q1 = knd q := by
            unfold makesP at hmk
            split at hmk
            · cases hmk
            · injection hmk with hmk
              subst hmk
              exact ⟨rfl, rfl, rfl, rfl⟩
          obtain ⟨o1, o2, o3, o4⟩ := hq1o
          rw [hmk] at MC
          rcases had : advP text q1 with ⟨d, a⟩ | q2
          · have hth : thenP (makesP q) (advP text) = .inl (d, a) := by rw [hmk]; exact had
            have AC := fun w hq1 hS => advC B text hl q1 hq1 w0 w hSig (fz H1 :: R) (List.mem_cons_of_mem _ hbm) hS
            rw [had] at AC
            clear hmk had
            go_wp2_with (first | ((with_reducible apply arm_load hS); (first | with_reducible exact wanted_none | exact wanted_guard rfl rfl); exact ev_tmp rfl; (repeat (with_reducible exact mem_hd)); rfl; decide +kernel; (try simp only [Act.put, q1, q2, q3])) | (go_at_call 110; refine MC.mono ?_; clear MC hS hS0; rintro e w ⟨rfl, hq1, hS⟩) | (go_at_call 44; refine (AC _ hq1 hS).mono ?_; clear AC hS; rintro e w ⟨rfl, hDd⟩) | (go_at_call 84; refine (lvD_aft text _ hD B _ _ w0 _ _ hDd).mono ?_; clear hDd; rintro e w ⟨rfl, h0, k, n, tat, te, fin, o, nd, h1, h2, h3, h4, hS⟩; have hd2 : (d == 0) = false := (by simpa using h0); unfold psV at hS; dsimp only at hS))
            go_roundw
            case rel => exact ⟨.inl (d, a), .inr hi.form, hR _ (.loopA hk hth), H1, hx, h0, k, n, tat, te, fin, o, nd, by omega, h2, h3, h4, hS⟩
            case measure =>
              have := loopM_dead (text := text) h0 hS mem_hd
              omega
          · have hth : thenP (makesP q) (advP text) = .inr q2 := by rw [hmk]; exact had
            have AC := fun w hq1 hS => advC B text hl q1 hq1 w0 w hSig (fz H1 :: R) (List.mem_cons_of_mem _ hbm) hS
            rw [had] at AC
            have hms : ∀ hq1 : PsB text q1, meas text q2 < meas text q1 ∧ q2.opn = q1.opn ∧ q2.nds = q1.nds := fun hq1 => advP_meas hq1 (by rw [o4, hk]; decide) had
            have UA := fun w hq2 hm2 hS => hA B q2 w0 w R H1 hq2 hm2 hSig hbm hS
            clear hmk had
            go_wp2_with (first | ((with_reducible apply arm_load hS); (first | with_reducible exact wanted_none | exact wanted_guard rfl rfl); exact ev_tmp rfl; (repeat (with_reducible exact mem_hd)); rfl; decide +kernel; (try simp only [Act.put, q1, q2, q3])) | (go_at_call 110; refine MC.mono ?_; clear MC hS hS0; rintro e w ⟨rfl, hq1, hS⟩) | (go_at_call 44; refine (AC _ hq1 hS).mono ?_; clear AC hS; rintro e w ⟨rfl, hq2, hS⟩; obtain ⟨m1, m2, m3⟩ := hms hq1; clear hms) | (go_at_call 84; refine (UA _ hq2 (by omega) hS).mono ?_; clear UA hS; rintro e w ⟨y, rfl, r3, hrd, hok3⟩; rcases r3 with ⟨d, a⟩ | ⟨t2, q3⟩; (focus (obtain ⟨hy, H3, hx3, h0, k, n, tat, te, fin, o, nd, h1, h2, h3, h4, hS⟩ := hok3)); (have hd2 : (d == 0) = false := (by simpa using h0)); (unfold psV at hS); (dsimp only at hS); rotate_left 1; (obtain ⟨c1, c2, c3, c4, c5, H3, hx3, hi3, hS⟩ := hok3); (unfold alV psV at hS); rotate_left 1) | (go_at_call 73; refine (joinM 10 (by unfold i64; omega) t t2 hok.ops c5.ops (by have := hq.2.1; omega) (by have := c1.2.1; omega) _ _ H3 (InT.ext hx3 hi) hi3 w0 _ (blk B 91 (alV text q3) :: R) (by unfold alV psV; exact hS.sb (by (repeat (first | with_reducible exact Sb.refl | (with_reducible refine Sb.take (by (repeat (with_reducible first | exact Rem.hd | apply Rem.tl)); done) ?_)))))).mono ?_; clear hS; rintro e w ⟨z, rfl, H4, hx4, hi4, hS⟩))
            · go_roundw
              case rel => exact ⟨.inl (d, a), .inr hi.form, hR _ (.loopE hk hth hrd), H3, hx.trans hx3, h0, k, n, tat, te, fin, o, nd, by omega, h2, h3, h4, hS⟩
              case measure =>
                have := loopM_dead (text := text) h0 hS mem_hd
                omega
            · have hS4 : Sat w0 _ (blk B 91 (alV text q3) :: fz H4 :: R) := hS.sb (by (repeat (first | with_reducible exact Sb.refl | (with_reducible refine Sb.take (by (repeat (with_reducible first | exact Rem.hd | apply Rem.tl)); done) ?_))))
              go_roundw
              case rel => exact ⟨.inr (.bin 10 t t2, q3, H4), (hx.trans hx3).trans hx4, hi4, c1, by omega, by omega, by simp only [size]; omega, ⟨by decide, by decide, hok, c5⟩, fun r h => hR r (.loopK hk hth hrd h), hS4⟩
              case measure =>
                have := loopM_al hS4 mem_hd
                omega
      · have hkk : ((tokE q.tk).1 == 8) = false := by simpa [knd] using hk
        go_wp2_with ((with_reducible apply arm_load hS); (first | with_reducible exact wanted_none | exact wanted_guard rfl rfl); exact ev_tmp rfl; (repeat (with_reducible exact mem_hd)); rfl; decide +kernel; (try simp only [Act.put, q1, q2, q3]))
        go_ret
        exact ⟨_, rfl, .inr (t, q), hR _ (.loopN hk), hq, ho, hmm, hsz, hok, H1, hx, hi, hS0⟩
end Go.Proofs.YthackanffcaejaaDoor
end
section
set_option linter.unusedSimpArgs false
set_option linter.unusedVariables false
set_option maxRecDepth 20000
namespace Go.Proofs.YthackanffcaejaaDoor
open Go Go.RowKit Go.SL Go.ClauseP Go.LexP

theorem andD (text : List UInt8) (hD : LvD text 151) : LvD text 146 := by
  intro B k n tat te fin o nd d a w0 w R hd hS
  have CD := chainD5 text hD B k n tat te fin o nd d a 4 6 w0 w R hd hS
  go_enter Tryd.func146, Tryd.ntmps146
  go_wp2_with (first | (go_at_call 83; refine CD.mono ?_; clear hS CD; rintro e w ⟨rfl, hS⟩))
  go_ret
  exact ⟨rfl, hS⟩
theorem andA (text : List UInt8) (hl : text.length ≤ 1048576) (n : Nat) (hA : LvA text 151 6 n) (hD : LvD text 151) : LvA text 146 5 n := by
  intro B p w0 w R H hp hm hSig hbm hS
  have CA := chainA5 text hl n hA hD B p w0 w R H hp hm hSig hbm hS
  go_enter Tryd.func146, Tryd.ntmps146
  go_wp2_with (first | (go_at_call 83; refine CA.mono ?_; clear hS CA; rintro e w ⟨v, rfl, r, hrd, hok⟩))
  go_ret
  exact ⟨_, rfl, r, hrd, hok⟩
theorem xorD (text : List UInt8) (hD : LvD text 146) : LvD text 133 := by
  intro B k n tat te fin o nd d a w0 w R hd hS
  have CD := chainD4 text hD B k n tat te fin o nd d a 6 8 w0 w R hd hS
  go_enter Tryd.func133, Tryd.ntmps133
  go_wp2_with (first | (go_at_call 83; refine CD.mono ?_; clear hS CD; rintro e w ⟨rfl, hS⟩))
  go_ret
  exact ⟨rfl, hS⟩
theorem xorA (text : List UInt8) (hl : text.length ≤ 1048576) (n : Nat) (hA : LvA text 146 5 n) (hD : LvD text 146) : LvA text 133 4 n := by
  intro B p w0 w R H hp hm hSig hbm hS
  have CA := chainA4 text hl n hA hD B p w0 w R H hp hm hSig hbm hS
  go_enter Tryd.func133, Tryd.ntmps133
  go_wp2_with (first | (go_at_call 83; refine CA.mono ?_; clear hS CA; rintro e w ⟨v, rfl, r, hrd, hok⟩))
  go_ret
  exact ⟨_, rfl, r, hrd, hok⟩
theorem orD (text : List UInt8) (hD : LvD text 133) : LvD text 111 := by
  intro B k n tat te fin o nd d a w0 w R hd hS
  have CD := chainD3 text hD B k n tat te fin o nd d a 5 7 w0 w R hd hS
  go_enter Tryd.func111, Tryd.ntmps111
  go_wp2_with (first | (go_at_call 83; refine CD.mono ?_; clear hS CD; rintro e w ⟨rfl, hS⟩))
  go_ret
  exact ⟨rfl, hS⟩
theorem orA (text : List UInt8) (hl : text.length ≤ 1048576) (n : Nat) (hA : LvA text 133 4 n) (hD : LvD text 133) : LvA text 111 3 n := by
  intro B p w0 w R H hp hm hSig hbm hS
  have CA := chainA3 text hl n hA hD B p w0 w R H hp hm hSig hbm hS
  go_enter Tryd.func111, Tryd.ntmps111
  go_wp2_with (first | (go_at_call 83; refine CA.mono ?_; clear hS CA; rintro e w ⟨v, rfl, r, hrd, hok⟩))
  go_ret
  exact ⟨_, rfl, r, hrd, hok⟩
theorem formulaD (text : List UInt8) (hD : LvD text 84) : LvD text 45 := by
  intro B k n tat te fin o nd d a w0 w R hd hS
  have CD := chainD1 text hD B k n tat te fin o nd d a 8 10 w0 w R hd hS
  go_enter Tryd.func45, Tryd.ntmps45
  go_wp2_with (first | (go_at_call 83; refine CD.mono ?_; clear hS CD; rintro e w ⟨rfl, hS⟩))
  go_ret
  exact ⟨rfl, hS⟩
theorem formulaA (text : List UInt8) (hl : text.length ≤ 1048576) (n : Nat) (hA : LvA text 84 2 n) (hD : LvD text 84) : LvA text 45 1 n := by
  intro B p w0 w R H hp hm hSig hbm hS
  have CA := chainA1 text hl n hA hD B p w0 w R H hp hm hSig hbm hS
  go_enter Tryd.func45, Tryd.ntmps45
  go_wp2_with (first | (go_at_call 83; refine CA.mono ?_; clear hS CA; rintro e w ⟨v, rfl, r, hrd, hok⟩))
  go_ret
  exact ⟨_, rfl, r, hrd, hok⟩
end Go.Proofs.YthackanffcaejaaDoor
end
section
set_option linter.unusedSimpArgs false
set_option linter.unusedVariables false
set_option maxRecDepth 20000
namespace Go.Proofs.YthackanffcaejaaDoor
open Go Go.RowKit Go.SL Go.ClauseP Go.LexP

theorem impD (text : List UInt8) (hD : LvD text 111) : LvD text 84 := by
  intro B k n tat te fin o nd d a w0 w R hd hS
  have GD := fun w R hS => hD B k n tat te fin o nd d a w0 w R hd hS
  unfold psV at hS GD
  have hd2 : (d == 0) = false := by simp [hd]
  have hd3 : (d != 0) = true := by simp [hd]
  go_enter Tryd.func84, Tryd.ntmps84
  go_wp2_with (first | ((with_reducible apply arm_build1 hS); exact wanted_none; exact E121; exact ev_tmp rfl; exact cells_one rfl; rfl; decide; clear hS; intro NB w hS; (try simp only [Act.put, q1, q2, q3])) | (go_at_call 111; refine (GD _ _ hS).mono ?_; clear hS; rintro e w ⟨rfl, hS⟩))
  go_loopw [3] (fun _ wr => Sat w0 wr (blk B 91 [.string ⟨text.toArray⟩, .int .i64 k, .int .i64 n, .int .i64 tat, .int .i64 te, .int .i64 fin, .int .i64 o, .int .i64 nd, .int .i64 d, .int .i64 a] :: R)) (fun _ _ => 0)
  case atStart => exact hS.sb (by (repeat (first | with_reducible exact Sb.refl | (with_reducible refine Sb.take (by (repeat (with_reducible first | exact Rem.hd | apply Rem.tl)); done) ?_) | with_reducible apply Sb.skip)))
  case round =>
    clear hS
    have hS := hrel
    clear hrel
    go_wp2_with ((with_reducible apply arm_load hS); exact wanted_none; exact ev_tmp rfl; (repeat (with_reducible exact mem_hd)); rfl; decide +kernel; (try simp only [Act.put, q1, q2, q3]))
    go_ret
    exact ⟨rfl, hS⟩
theorem Vs.at_ {H : Hp} : ∀ {xs : List T} {vs : List Value} (m : Nat) (x : T), Vs H xs vs → xs[m]? = some x → ∃ v, vs[xs.length - 1 - m]? = some v ∧ InT H x v
  | [], _, m, x, _, hx => by simp at hx
  | y :: ys, _, 0, x, ⟨vs', v, e, k, k'⟩, hx => by
    simp at hx
    subst hx
    subst e
    refine ⟨v, ?_, k'⟩
    have := k.len
    rw [List.getElem?_append_right (by simp; omega)]
    simp [this]
  | y :: ys, _, m + 1, x, ⟨vs', v, e, k, k'⟩, hx => by
    subst e
    have hx2 : ys[m]? = some x := by simpa using hx
    obtain ⟨v2, h1, h2⟩ := Vs.at_ m x k hx2
    refine ⟨v2, ?_, h2⟩
    have hm := (List.getElem?_eq_some_iff.1 hx2).1
    have := k.len
    rw [List.getElem?_append_left (by simp only [List.length_cons]; omega)]
    simp only [List.length_cons]
    rw [← h1]
    congr 1
    omega
def imSt (w0 : World) (R : List HP) (H : Hp) (B : Nat) (text : List UInt8) (p : Ps) (ad : Option Addr) (m cap : Nat) (vs : List Value) (w : World) : (Int × Nat) ⊕ (List T × Ps × Hp) → Prop
  | .inl x => RD text (.lvl 2) p (.inl x) ∧ ∃ H', Ext H H' ∧ Dead w0 w (fz H' :: own 79 1 ad m cap vs :: R) B text p.opn x
  | .inr (xs, q, H') => Ext H H' ∧ Vs H' xs vs ∧ xs ≠ [] ∧ PsB text q ∧ q.opn = p.opn ∧ meas text q ≤ meas text p ∧ p.nds + sumSz xs + (xs.length - 1) ≤ q.nds ∧ (∀ x ∈ xs, okT x) ∧ (∀ r, RD text (.imps xs) q r → RD text (.lvl 2) p r) ∧
      Sat w0 w (blk B 91 (alV text q) :: fz H' :: own 79 1 ad m cap vs :: R)
theorem sumSz_len : ∀ xs : List T, xs.length ≤ sumSz xs
  | [] => by simp [sumSz]
  | x :: xs => by
    have := sumSz_len xs
    have h := size_pos x
    simp only [sumSz, List.map_cons, List.sum_cons, List.length_cons] at this ⊢
    omega
theorem size_le_sum : ∀ {xs : List T} {y : T}, y ∈ xs → size y ≤ sumSz xs
  | x :: xs, y, h => by
    simp only [sumSz, List.map_cons, List.sum_cons]
    rcases List.mem_cons.1 h with rfl | h
    · omega
    · have := size_le_sum h
      unfold sumSz at this
      omega
theorem impT_snoc (x y : T) (rest : List T) : impT (x :: (rest ++ [y])) = .bin 9 y (impT (x :: rest)) := by simp [impT, List.foldl_append]
theorem impT_take {xs : List T} {k : Nat} {y : T} (h : xs[k + 1]? = some y) : impT (xs.take (k + 2)) = .bin 9 y (impT (xs.take (k + 1))) := by
  cases xs with
  | nil => simp at h
  | cons x rest =>
    have h2 : rest[k]? = some y := by simpa using h
    obtain ⟨hk, hy⟩ := List.getElem?_eq_some_iff.1 h2
    rw [List.take_succ_cons, List.take_succ_cons, List.take_succ_eq_append_getElem hk, hy]
    exact impT_snoc _ _ _
theorem size_impT : ∀ (rest : List T) (x : T), size (impT (x :: rest)) = sumSz (x :: rest) + rest.length
  | [], x => by simp [impT, sumSz]
  | y :: rest, x => by
    have := size_impT rest (.bin 9 y x)
    simp only [impT, List.foldl_cons] at this ⊢
    rw [this]
    simp only [sumSz, List.map_cons, List.sum_cons, size, List.length_cons]
    omega
theorem okT_impT : ∀ (rest : List T) (x : T), (∀ y ∈ x :: rest, okT y) → okT (impT (x :: rest))
  | [], x, h => h x (.head _)
  | y :: rest, x, h => by
    have := okT_impT rest (.bin 9 y x) (fun z hz => by
      rcases List.mem_cons.1 hz with rfl | hz
      · exact ⟨by decide, by decide, h y (.tail _ (.head _)), h x (.head _)⟩
      · exact h z (.tail _ (.tail _ hz)))
    simpa only [impT, List.foldl_cons] using this
theorem sumSz_take (xs : List T) (k : Nat) : sumSz (xs.take k) ≤ sumSz xs := by
  have h : xs = xs.take k ++ xs.drop k := (List.take_append_drop k xs).symm
  have h2 : sumSz xs = sumSz (xs.take k) + sumSz (xs.drop k) := by conv => lhs; rw [h]
                                                                   simp only [sumSz, List.map_append, List.sum_append]
  omega
theorem impT_bd {xs : List T} {k m : Nat} (hk : k < xs.length) (hs : sumSz xs + (xs.length - 1) ≤ m) (ho : ∀ x ∈ xs, okT x) : size (impT (xs.take (k + 1))) ≤ m ∧ okT (impT (xs.take (k + 1))) := by
  cases xs with
  | nil => simp at hk
  | cons x rest =>
    have h1 := sumSz_take (x :: rest) (k + 1)
    rw [List.take_succ_cons] at h1 ⊢
    have h2 : (rest.take k).length ≤ rest.length := by simp [List.length_take]; omega
    simp only [List.length_cons] at hs
    refine ⟨by rw [size_impT]; omega, okT_impT _ _ fun y hy => ho y ?_⟩
    rcases List.mem_cons.1 hy with rfl | hy
    · exact .head _
    · exact .tail _ (List.mem_of_mem_take hy)
def pst (text : List UInt8) (p : Ps) (H' : Hp) (v : Value) (k n tat te fin o nd d a : Int) : Rt → Prop
  | .inl x => x = (d, a.toNat) ∧ (x.2 : Int) = a ∧ d ≠ 0 ∧ p.opn ≤ o ∧ o ≤ 65 ∧ 0 ≤ nd ∧ nd ≤ 65537
  | .inr (t, q) => alV text q = psV text k n tat te fin o nd d a ∧ PsB text q ∧ q.opn = p.opn ∧ meas text q ≤ meas text p ∧ p.nds + size t ≤ q.nds ∧ okT t ∧ InT H' t v
theorem IfV.cell {v : Value} (h : IfV v) : v.oneCell' = true := by
  rcases h with rfl | ⟨K, b, rfl⟩ <;> rfl
theorem okR_cells {w0 w : World} {R : List HP} {H : Hp} {B : Nat} {text : List UInt8} {p : Ps} {v : Value} {r : Rt} (h : okR w0 w R H B text p v r) :
    ∃ (k n tat te fin o nd d a : Int) (H' : Hp), Ext H H' ∧ pst text p H' v k n tat te fin o nd d a r ∧ v.oneCell' = true ∧ Sat w0 w (blk B 91 [.string ⟨text.toArray⟩, .int .i64 k, .int .i64 n, .int .i64 tat, .int .i64 te, .int .i64 fin, .int .i64 o, .int .i64 nd, .int .i64 d, .int .i64 a] :: fz H' :: R) := by
  rcases r with ⟨d, a⟩ | ⟨t, q⟩
  · obtain ⟨hv, H1, hx, h0, k, n, tat, te, fin, o, nd, h1, h2, h3, h4, hS⟩ := h
    exact ⟨k, n, tat, te, fin, o, nd, d, a, H1, hx, ⟨by simp, rfl, h0, h1, h2, h3, h4⟩, hv.cell, hS⟩
  · obtain ⟨h1, h2, h3, h4, h5, H1, h6, h7, hS⟩ := h
    exact ⟨_, _, _, _, _, _, _, _, _, H1, h6, ⟨rfl, h1, h2, h3, h4, h5, h7⟩, IfV.cell (.inr h7.form), hS⟩
set_option maxHeartbeats 8000000 in
theorem impA (text : List UInt8) (hl : text.length ≤ 1048576) (n : Nat) (hA : LvA text 111 3 n) (hD : LvD text 111) : LvA text 84 2 n := by
  intro B p w0 w R H hp hm hSig hbm hS
  have UA := hA B p w0 w R H hp hm hSig hbm hS
  go_enter Tryd.func84, Tryd.ntmps84
  go_wp2_with (first | (go_at_call 111; refine UA.mono ?_; clear hS UA; rintro e w ⟨v, rfl, r, hrd, hok⟩; obtain ⟨k, n, tat, te, fin, o, nd, d, a, H1, hx, hps, hoc, hS⟩ := okR_cells hok; clear hok) | ((with_reducible apply arm_build1 hS); exact wanted_none; exact E121; exact ev_tmp rfl; exact cells_one hoc; rfl; decide; clear hS; intro B3 w hS; (try simp only [Act.put, q1, q2, q3])))
  have hS1 := hS.turn (B := own 79 1 (some ⟨B3, 0, none⟩) 1 1 [v]) fun g h => ⟨rfl, .inr ⟨B3, [v], rfl, Nat.le_refl _, by unfold maxLen; omega, rfl, rfl, h⟩⟩
  have hS2 : Sat w0 w (blk B 91 [.string ⟨text.toArray⟩, .int .i64 k, .int .i64 n, .int .i64 tat, .int .i64 te, .int .i64 fin, .int .i64 o, .int .i64 nd, .int .i64 d, .int .i64 a] :: fz H1 :: own 79 1 (some ⟨B3, 0, none⟩) 1 1 [v] :: R) := hS1.sb (by (repeat (first | with_reducible exact Sb.refl | (with_reducible refine Sb.take (by (repeat (with_reducible first | exact Rem.hd | apply Rem.tl)); done) ?_))))
  clear hS hS1
  go_loopw [3] (fun l wr => ∃ ad m cap vs s, l = .slice ad m cap ∧ imSt w0 R H B text p ad m cap vs wr s) (fun _ wr => loopM text B wr)
  case atStart =>
    refine ⟨some ⟨B3, 0, none⟩, 1, 1, [v], ?_⟩
    rcases r with x | ⟨t, q⟩
    · obtain ⟨rfl, ha, h0, h1, h2, h3, h4⟩ := hps
      exact ⟨.inl _, rfl, .impE hrd, H1, hx, h0, k, n, tat, te, fin, o, nd, h1, h2, h3, h4, by dsimp only at ha ⊢; rw [ha]; exact hS2⟩
    · obtain ⟨e1, h1, h2, h3, h4, h5, h6⟩ := hps
      refine ⟨.inr ([t], q, H1), rfl, hx, ⟨[], v, rfl, rfl, h6⟩, by simp, h1, h2, h3, by simp [sumSz]; omega, by simpa using h5, fun r h => .impK hrd h, ?_⟩
      rw [e1]
      exact hS2
  case round =>
    clear hS2 hrd hps
    obtain ⟨ad, m, cap, vs, s, rfl, hs⟩ := hrel
    rcases s with x | ⟨xs, q, H1⟩
    · obtain ⟨hrd, H1, hx, h0, k, n, tat, te, fin, o, nd, h1, h2, h3, h4, hS⟩ := hs
      obtain ⟨d, a⟩ := x
      dsimp only at *
      have hd2 : (d == 0) = false := by simp [h0]
      have hd3 : (d != 0) = true := by simp [h0]
      unfold psV at hS
      go_wp2_with ((with_reducible apply arm_load hS); exact wanted_none; exact ev_tmp rfl; (repeat (with_reducible exact mem_hd)); rfl; decide +kernel; (try simp only [Act.put, q1, q2, q3]))
      go_ret
      exact ⟨_, rfl, .inl (d, a), hrd, .inl rfl, H1, hx, h0, k, n, tat, te, fin, o, nd, h1, h2, h3, h4, by dsimp only; unfold psV; exact hS.sb (by (repeat (first | with_reducible exact Sb.refl | (with_reducible refine Sb.take (by (repeat (with_reducible first | exact Rem.hd | apply Rem.tl)); done) ?_) | with_reducible apply Sb.skip)))⟩
    · obtain ⟨hx, hvs, hne, hq, ho, hmm, hsz, hok, hR, hS⟩ := hs
      have hM := loopM_al hS mem_hd
      have hS0 := hS
      have hln : vs.length = m * 1 := hS.ownLen (mem_tl (mem_tl mem_hd))
      have hxl := hvs.len
      have hml : m ≤ 65536 := by
        have h1 := sumSz_len xs
        have h2 := hq.2.1
        omega
      have HLN := hid hln
      have HXL := hid hxl
      clear hln hxl
      unfold alV psV at hS
      by_cases hk : knd q = 7
      · have hkk : ((tokE q.tk).1 == 7) = true := by simpa [knd] using hk
        have MC := makesC B text q hq w0 wr (fz H1 :: own 79 1 ad m cap vs :: R) hS0
        rcases hmk : makesP q with ⟨d, a⟩ | q1
        · rw [hmk] at MC
          have hth : thenP (makesP q) (advP text) = .inl (d, a) := by rw [hmk]; rfl
          clear hmk
          go_wp2_with (first | ((with_reducible apply arm_load hS); (first | with_reducible exact wanted_none | exact wanted_guard rfl rfl); exact ev_tmp rfl; (repeat (with_reducible exact mem_hd)); rfl; decide +kernel; (try simp only [Act.put, q1, q2, q3])) | ((with_reducible apply arm_build1 hS); exact wanted_none; exact E121; exact ev_tmp rfl; exact cells_one rfl; rfl; decide; clear hS; intro NB w hS; (try simp only [Act.put, q1, q2, q3])) | ((with_reducible apply arm_appendB hS); exact wanted_none; exact ev_tmp rfl; exact ev_tmp rfl; exact E121; (repeat (with_reducible first | exact Rem.hd | apply Rem.tl)); (repeat (with_reducible apply Rem.tl)); rfl; rfl; (omega); (omega); clear hS; intro AD CAP w hS; (try simp only [Nat.zero_add, List.nil_append] at hS); (try simp only [Act.put, q1, q2, q3])) | (go_at_call 110; refine MC.mono ?_; clear MC hS hS0; rintro e w ⟨rfl, hDd⟩) | (go_at_call 44; refine (advD_aft B text _ _ w0 _ _ hDd).mono ?_; clear hDd; rintro e w ⟨rfl, hDd⟩) | (go_at_call 111; refine (lvD_aft text _ hD B _ _ w0 _ _ hDd).mono ?_; clear hDd; rintro e w ⟨rfl, h0, k, n, tat, te, fin, o, nd, h1, h2, h3, h4, hS⟩; have hd2 : (d == 0) = false := (by simpa using h0); unfold psV at hS; dsimp only at hS))
          have hS4 : Sat w0 w (blk B 91 (psV text k n tat te fin o nd d a) :: fz H1 :: own 79 1 AD (m + 1) CAP (vs ++ [.nilIface]) :: R) := by unfold psV; exact hS.sb (by (repeat (first | with_reducible exact Sb.refl | (with_reducible refine Sb.take (by (repeat (with_reducible first | exact Rem.hd | apply Rem.tl)); done) ?_))))
          go_roundw
          case rel => exact ⟨AD, m + 1, CAP, _, .inl (d, a), rfl, hR _ (.impsA hk hth), H1, hx, h0, k, n, tat, te, fin, o, nd, by omega, h2, h3, h4, hS4⟩
          case measure =>
            have := loopM_dead (text := text) h0 hS4 mem_hd
            omega
        · have hq1o : q1.opn = q.opn ∧ q1.nds = q.nds + 1 ∧ meas text q1 = meas text q ∧ knd q1 = knd q := by
            unfold makesP at hmk
            split at hmk
            · cases hmk
            · injection hmk with hmk
              subst hmk
              exact ⟨rfl, rfl, rfl, rfl⟩
          obtain ⟨o1, o2, o3, o4⟩ := hq1o
          rw [hmk] at MC
          rcases had : advP text q1 with ⟨d, a⟩ | q2
          · have hth : thenP (makesP q) (advP text) = .inl (d, a) := by rw [hmk]; exact had
            have AC := fun w hq1 hS => advC B text hl q1 hq1 w0 w hSig (fz H1 :: own 79 1 ad m cap vs :: R) (List.mem_cons_of_mem _ (List.mem_cons_of_mem _ hbm)) hS
            rw [had] at AC
            clear hmk had
            go_wp2_with (first | ((with_reducible apply arm_load hS); (first | with_reducible exact wanted_none | exact wanted_guard rfl rfl); exact ev_tmp rfl; (repeat (with_reducible exact mem_hd)); rfl; decide +kernel; (try simp only [Act.put, q1, q2, q3])) | ((with_reducible apply arm_build1 hS); exact wanted_none; exact E121; exact ev_tmp rfl; exact cells_one rfl; rfl; decide; clear hS; intro NB w hS; (try simp only [Act.put, q1, q2, q3])) | ((with_reducible apply arm_appendB hS); exact wanted_none; exact ev_tmp rfl; exact ev_tmp rfl; exact E121; (repeat (with_reducible first | exact Rem.hd | apply Rem.tl)); (repeat (with_reducible apply Rem.tl)); rfl; rfl; (omega); (omega); clear hS; intro AD CAP w hS; (try simp only [Nat.zero_add, List.nil_append] at hS); (try simp only [Act.put, q1, q2, q3])) | (go_at_call 110; refine MC.mono ?_; clear MC hS hS0; rintro e w ⟨rfl, hq1, hS⟩) | (go_at_call 44; refine (AC _ hq1 hS).mono ?_; clear AC hS; rintro e w ⟨rfl, hDd⟩) | (go_at_call 111; refine (lvD_aft text _ hD B _ _ w0 _ _ hDd).mono ?_; clear hDd; rintro e w ⟨rfl, h0, k, n, tat, te, fin, o, nd, h1, h2, h3, h4, hS⟩; have hd2 : (d == 0) = false := (by simpa using h0); unfold psV at hS; dsimp only at hS))
            have hS4 : Sat w0 w (blk B 91 (psV text k n tat te fin o nd d a) :: fz H1 :: own 79 1 AD (m + 1) CAP (vs ++ [.nilIface]) :: R) := by unfold psV; exact hS.sb (by (repeat (first | with_reducible exact Sb.refl | (with_reducible refine Sb.take (by (repeat (with_reducible first | exact Rem.hd | apply Rem.tl)); done) ?_))))
            go_roundw
            case rel => exact ⟨AD, m + 1, CAP, _, .inl (d, a), rfl, hR _ (.impsA hk hth), H1, hx, h0, k, n, tat, te, fin, o, nd, by omega, h2, h3, h4, hS4⟩
            case measure =>
              have := loopM_dead (text := text) h0 hS4 mem_hd
              omega
          · have hth : thenP (makesP q) (advP text) = .inr q2 := by rw [hmk]; exact had
            have AC := fun w hq1 hS => advC B text hl q1 hq1 w0 w hSig (fz H1 :: own 79 1 ad m cap vs :: R) (List.mem_cons_of_mem _ (List.mem_cons_of_mem _ hbm)) hS
            rw [had] at AC
            have hms : ∀ hq1 : PsB text q1, meas text q2 < meas text q1 ∧ q2.opn = q1.opn ∧ q2.nds = q1.nds := fun hq1 => advP_meas hq1 (by rw [o4, hk]; decide) had
            have UA := fun w hq2 hm2 hS => hA B q2 w0 w (own 79 1 ad m cap vs :: R) H1 hq2 hm2 hSig (List.mem_cons_of_mem _ hbm) hS
            clear hmk had
            go_wp2_with (first | ((with_reducible apply arm_load hS); (first | with_reducible exact wanted_none | exact wanted_guard rfl rfl); exact ev_tmp rfl; (repeat (with_reducible exact mem_hd)); rfl; decide +kernel; (try simp only [Act.put, q1, q2, q3])) | (go_at_call 110; refine MC.mono ?_; clear MC hS hS0; rintro e w ⟨rfl, hq1, hS⟩) | (go_at_call 44; refine (AC _ hq1 hS).mono ?_; clear AC hS; rintro e w ⟨rfl, hq2, hS⟩; obtain ⟨m1, m2, m3⟩ := hms hq1; clear hms) | (go_at_call 111; refine (UA _ hq2 (by omega) hS).mono ?_; clear UA hS; rintro e w ⟨y, rfl, r3, hrd, hok3⟩; (obtain ⟨k, n, tat, te, fin, o, nd, d, a, H3, hx3, hps, hoc, hS⟩ := okR_cells hok3); clear hok3) | ((with_reducible apply arm_build1 hS); exact wanted_none; exact E121; exact ev_tmp rfl; exact cells_one hoc; rfl; decide; clear hS; intro B3 w hS; (try simp only [Act.put, q1, q2, q3])) | ((with_reducible apply arm_appendB hS); exact wanted_none; exact ev_tmp rfl; exact ev_tmp rfl; exact E121; (repeat (with_reducible first | exact Rem.hd | apply Rem.tl)); (repeat (with_reducible apply Rem.tl)); rfl; (simp only [List.all_cons, List.all_nil, hoc, Bool.and_true]); omega; omega; clear hS; intro AD CAP w hS; (try simp only [Act.put, q1, q2, q3])))
            have hS4 : Sat w0 w (blk B 91 (psV text k n tat te fin o nd d a) :: fz H3 :: own 79 1 AD (m + 1) CAP (vs ++ [y]) :: R) := by unfold psV; exact hS.sb (by (repeat (first | with_reducible exact Sb.refl | (with_reducible refine Sb.take (by (repeat (with_reducible first | exact Rem.hd | apply Rem.tl)); done) ?_))))
            clear hS
            rcases r3 with x | ⟨t2, q3⟩
            · obtain ⟨rfl, ha, h0, h1, h2, h3, h4⟩ := hps
              go_roundw
              case rel => exact ⟨AD, m + 1, CAP, _, .inl _, rfl, hR _ (.impsE hk hth hrd), H3, hx.trans hx3, h0, k, n, tat, te, fin, o, nd, by omega, h2, h3, h4, by dsimp only at ha ⊢; rw [ha]; exact hS4⟩
              case measure =>
                have := loopM_dead (text := text) h0 hS4 mem_hd
                omega
            · obtain ⟨e1, c1, c2, c3, c4, c5, hi3⟩ := hps
              rw [← e1] at hS4
              go_roundw
              case rel => exact ⟨AD, m + 1, CAP, _, .inr (t2 :: xs, q3, H3), rfl, hx.trans hx3, ⟨vs, y, rfl, hvs.ext hx3, hi3⟩, by simp, c1, by omega, by omega, by
                have : 0 < xs.length := List.length_pos_iff.2 hne
                simp only [sumSz, List.map_cons, List.sum_cons, List.length_cons] at hsz ⊢
                omega, fun z hz => (by rcases List.mem_cons.1 hz with rfl | hz; exact c5; exact hok z hz), fun r h => hR r (.impsK hk hth hrd h), hS4⟩
              case measure =>
                have := loopM_al hS4 mem_hd
                omega
      · have hkk : ((tokE q.tk).1 == 7) = false := by simpa [knd] using hk
        have h0l : 0 < xs.length := List.length_pos_iff.2 hne
        have hmx : m = xs.length := by have := HLN.out; have := HXL.out; omega
        obtain ⟨x0, hx0⟩ : ∃ x0, xs[0]? = some x0 := ⟨_, List.getElem?_eq_getElem h0l⟩
        obtain ⟨v0, hv0, hi0⟩ := hvs.at_ 0 x0 hx0
        rw [← hmx, Nat.sub_zero] at hv0
        have h0m : 0 < m := by omega
        have HMX := hid hmx
        clear hmx
        have hone : v0.oneCell' = true := IfV.cell (.inr hi0.form)
        go_wp2_with (first | ((with_reducible apply arm_load hS); (first | with_reducible exact wanted_none | exact wanted_guard rfl rfl); exact ev_tmp rfl; (repeat (with_reducible exact mem_hd)); rfl; decide +kernel; (try simp only [Act.put, q1, q2, q3])) | ((with_reducible apply arm_indexAddr); exact wanted_none; exact ev_tmp rfl; exact ev_tmp rfl; exact E121; (omega); (omega); (exact hS.ownNN (by (repeat (with_reducible first | exact mem_hd | apply mem_tl))) (by omega)); (simp only [Int.toNat_natCast, Nat.mul_one, Nat.zero_add, tn_sub, tn_sub1, tn_sub2, tn_sub3, tn_add, tn_add1, tn_add2]; rfl); (try simp only [Act.put, q1, q2, q3])) | ((with_reducible apply arm_loadE); exact wanted_none; exact ev_tmp rfl; (exact (hS.ownCell (by (repeat (with_reducible first | exact mem_hd | apply mem_tl))) (by (assumption))).1); decide +kernel; (try simp only [Act.put, q1, q2, q3])))
        go_loopw [4, 5] (fun x i wi => ∃ k : Nat, ∃ H', k < m ∧ Ext H1 H' ∧ InT H' (impT (xs.take (k + 1))) x ∧ ((k + 1 = m ∧ i = .int .i64 (-1)) ∨ ∃ j : Nat, k + 2 + j = m ∧ i = .int .i64 j) ∧ Sat w0 wi (blk B 91 (alV text q) :: fz H' :: own 79 1 ad m cap vs :: R)) (fun _ i _ => (intOf i + 1).toNat)
        case atStart =>
          refine ⟨0, H1, h0m, Ext.refl _, ?_, ?_, hS0⟩
          · cases xs with
            | nil => exact (hne rfl).elim
            | cons x rest =>
              simp only [List.getElem?_cons_zero, Option.some.injEq] at hx0
              subst hx0
              exact hi0
          · by_cases h1 : m = 1
            · exact .inl ⟨by omega, by subst h1; rfl⟩
            · exact .inr ⟨m - 2, by omega, congrArg (Value.int .i64) (by omega)⟩
        case round =>
          clear hS hS0
          obtain ⟨k, H2, hk1, hx2, hiT, hj, hS⟩ := hrel
          have hS0 := hS
          unfold alV psV at hS
          rcases hj with ⟨hk2, rfl⟩ | ⟨j, hk2, rfl⟩
          · have HK2 := hid hk2
            clear hk2
            go_wp2_with ((with_reducible apply arm_load hS); exact wanted_guard rfl rfl; exact ev_const; (repeat (with_reducible apply mem_tl)); rfl; decide +kernel; (try simp only [Act.put, q1, q2, q3]))
            go_ret
            have hkm := HK2.out
            have hall : xs.take (k + 1) = xs := List.take_of_length_le (by have := HMX.out; omega)
            have hbd := impT_bd (xs := xs) (k := k) (m := q.nds - p.nds) (by have := HMX.out; omega) (by omega) hok
            rw [hall] at hbd hiT
            exact ⟨_, rfl, .inr (impT xs, q), hR _ (.impsN hk), hq, ho, hmm, by have := hbd.1; omega, hbd.2, H2, hx.trans hx2, hiT, hS0.sb (by (repeat (first | with_reducible exact Sb.refl | (with_reducible refine Sb.take (by (repeat (with_reducible first | exact Rem.hd | apply Rem.tl)); done) ?_) | with_reducible apply Sb.skip)))⟩
          · obtain ⟨y, hy⟩ : ∃ y, xs[k + 1]? = some y := ⟨_, List.getElem?_eq_getElem (by have := HMX.out; omega)⟩
            obtain ⟨vy, hvy, hiy⟩ := hvs.at_ (k + 1) y hy
            have hjx : xs.length - 1 - (k + 1) = j := by have := HMX.out; omega
            rw [hjx] at hvy
            have hjm : j < m := by omega
            have hbd := impT_bd (xs := xs) (k := k) (m := q.nds - p.nds) (by have := HMX.out; omega) (by omega) hok
            have hby := impT_take hy
            have hys : size y ≤ q.nds := by
              have h1 : y ∈ xs := List.mem_of_getElem? hy
              have h2 := size_le_sum h1
              omega
            have hoy := hok y (List.mem_of_getElem? hy)
            have JM := fun w hS => joinM 9 (by unfold i64; omega) y (impT (xs.take (k + 1))) hoy.ops hbd.2.ops (by have := hq.2.1; omega) (by have := hq.2.1; have := hbd.1; omega) vy _ H2 (hiy.ext hx2) hiT w0 w (blk B 91 (alV text q) :: own 79 1 ad m cap vs :: R) hS
            have HK2 := hid hk2
            have HBY := hid hby
            clear hk2 hby hjx hy
            go_wp2_with (first | ((with_reducible apply arm_indexAddr); exact wanted_none; exact ev_tmp rfl; exact ev_tmp rfl; exact E121; (omega); (omega); (exact hS.ownNN (by (repeat (with_reducible first | exact mem_hd | apply mem_tl))) (by omega)); (simp only [Int.toNat_natCast, Nat.mul_one, Nat.zero_add, tn_sub, tn_sub1, tn_sub2, tn_sub3, tn_add, tn_add1, tn_add2]; rfl); (try simp only [Act.put, q1, q2, q3])) | ((with_reducible apply arm_loadE); exact wanted_none; exact ev_tmp rfl; (exact (hS.ownCell (by (repeat (with_reducible first | exact mem_hd | apply mem_tl))) (by (assumption))).1); decide +kernel; (try simp only [Act.put, q1, q2, q3])) | (go_at_call 73; refine (JM _ (by unfold alV psV; exact hS.sb (by (repeat (first | with_reducible exact Sb.refl | (with_reducible refine Sb.take (by (repeat (with_reducible first | exact Rem.hd | apply Rem.tl)); done) ?_)))))).mono ?_; clear hS JM; rintro e w ⟨z, rfl, H4, hx4, hi4, hS⟩))
            go_roundw
            case rel =>
              refine ⟨k + 1, H4, by have := HK2.out; omega, hx2.trans hx4, by rw [HBY.out]; exact hi4, ?_, hS.sb (by (repeat (first | with_reducible exact Sb.refl | (with_reducible refine Sb.take (by (repeat (with_reducible first | exact Rem.hd | apply Rem.tl)); done) ?_))))⟩
              have := HK2.out
              rcases j with _ | j
              · exact .inl ⟨by omega, rfl⟩
              · exact .inr ⟨j, by omega, congrArg (Value.int .i64) (by omega)⟩
            case measure => (simp [intOf]) <;> omega
end Go.Proofs.YthackanffcaejaaDoor
end
