/- A part of the proof: Lv3 Lv4 FormT. -/
import Derived.Test.YthackanffcaejaaGreatDoorO1
import Derived.Test.YthackanffcaejaaGreatDoorO7
import Derived.Test.YthackanffcaejaaGreatDoorO8
set_option linter.unusedSimpArgs false
set_option linter.unusedVariables false
set_option linter.unusedSectionVars false
namespace Go.Proofs.YthackanffcaejaaGreatDoor
section
set_option maxRecDepth 20000
open Go Go.RowKit Go.SL Go.ClauseP Go.LexP

theorem chainD4 (text : List UInt8) (hD : LvD text 151) (B : Nat) (k n tat te fin o nd d a c op : Int) (w0 w : World) (R : List HP) (hd : d ≠ 0) (hS : Sat w0 w (blk B 82 (psV text k n tat te fin o nd d a) :: R)) :
    Calls Tryz.prog 81 #[.pointer (some ⟨B, 0, none⟩), .int .i64 c, .int .i64 op, .func (.func 151) #[.pointer (some ⟨B, 0, none⟩)] #[]] w fun e w' => e = .returned .nilIface ∧ Sat w0 w' (blk B 82 (psV text k n tat te fin o nd d a) :: R) := by
  have GD := fun w R hS => hD B k n tat te fin o nd d a w0 w R hd hS
  unfold psV at hS GD
  have hd2 : (d == 0) = false := by simp [hd]
  go_enter Tryz.func81, Tryz.ntmps81
  go_wp2_with (go_at_call 151; refine (GD _ _ hS).mono ?_; clear hS; rintro e w ⟨rfl, hS⟩)
  go_loopw [9] (fun x wr => x = .nilIface ∧ Sat w0 wr (blk B 82 [.string ⟨text.toArray⟩, .int .i64 k, .int .i64 n, .int .i64 tat, .int .i64 te, .int .i64 fin, .int .i64 o, .int .i64 nd, .int .i64 d, .int .i64 a] :: R)) (fun _ _ => 0)
  case atStart => exact ⟨rfl, hS⟩
  case round =>
    clear hS
    obtain ⟨rfl, hS⟩ := hrel
    go_wp2_with ((with_reducible apply yi hS);exact ya;exact yb rfl;exact yf;rfl;decide +kernel;(try simp only [Act.put,q1,q2,q3]))
    go_ret
    exact ⟨rfl, hS⟩
set_option maxHeartbeats 4000000 in
theorem chainA4 (text : List UInt8) (hl : text.length ≤ 1048576) (n : Nat) (hA : LvA text 151 5 n) (hD : LvD text 151) (B : Nat) (p : Ps) (w0 w : World) (R : List HP) (H : Hp) (hp : PsB text p) (hm : meas text p ≤ n) (hSig : kZ w0) (hbm : YT w0 ∈ R)
    (hS : Sat w0 w (blk B 82 (alV text p) :: fz H :: R)) :
    Calls Tryz.prog 81 #[.pointer (some ⟨B, 0, none⟩), .int .i64 6, .int .i64 8, .func (.func 151) #[.pointer (some ⟨B, 0, none⟩)] #[]] w fun e w' => ∃ v, e = .returned v ∧ ∃ r, RD text (.lvl 4) p r ∧ okR w0 w' R H B text p v r := by
  have UA := hA B p w0 w R H hp hm hSig hbm hS
  go_enter Tryz.func81, Tryz.ntmps81
  go_wp2_with (go_at_call 151; refine UA.mono ?_; clear hS UA; rintro e w ⟨v, rfl, r, hrd, hok⟩)
  go_loopw [9] (fun x wr => ∃ s, chSt w0 R H B text 4 p x wr s) (fun _ wr => jY text B wr)
  case atStart =>
    rcases r with x | ⟨t, q⟩
    · exact ⟨.inl x, hok.1, .lvlE (by decide) hrd, hok.2⟩
    · obtain ⟨h1, h2, h3, h4, h5, H', h6, h7, hS⟩ := hok
      exact ⟨.inr (t, q, H'), h6, h7, h1, h2, h3, h4, h5, fun r h => .lvlK (by decide) hrd h, hS⟩
  case round =>
    clear hok hrd
    obtain ⟨s, hs⟩ := hrel
    rcases s with x | ⟨t, q, H1⟩
    · obtain ⟨hv, hrd, H1, hx, h0, k, n, tat, te, fin, o, nd, h1, h2, h3, h4, hS⟩ := hs
      have hd2 : (x.1 == 0) = false := by simp [h0]
      unfold psV at hS
      have HX : Hid (x.1 = x.1) := hid rfl
      obtain ⟨d, a⟩ := x
      dsimp only at *
      go_wp2_with ((with_reducible apply yi hS);exact ya;exact yb rfl;exact yf;rfl;decide +kernel;(try simp only [Act.put,q1,q2,q3]))
      go_ret
      exact ⟨_, rfl, .inl (d, a), hrd, hv, H1, hx, h0, k, n, tat, te, fin, o, nd, h1, h2, h3, h4, hS⟩
    · obtain ⟨hx, hi, hq, ho, hmm, hsz, hok, hR, hS⟩ := hs
      have hM := kA hS yf
      have hS0 := hS
      unfold alV psV at hS
      by_cases hk : knd q = 6
      · have hkk : ((Yk q.tk).1 == 6) = true := by simpa [knd] using hk
        have MC := JW B text q hq w0 wr (fz H1 :: R) hS0
        rcases hmk : yD q with ⟨d, a⟩ | q1
        · rw [hmk] at MC
          have hth : yu (yD q) (yV text) = .inl (d, a) := by rw [hmk]; rfl
          clear hmk
          go_wp2_with (first|((with_reducible apply yi hS);(first|with_reducible exact ya|exact yg rfl rfl);exact yb rfl;exact yf;rfl;decide +kernel;(try simp only [Act.put,q1,q2,q3]))|(go_at_call 114;refine MC.mono ?_;clear MC hS hS0;rintro e w ⟨rfl, hDd⟩)|(go_at_call 37;refine (KE B text _ _ w0 _ _ hDd).mono ?_;clear hDd;rintro e w ⟨rfl, hDd⟩)|(go_at_call 151;refine (kS text _ hD B _ _ w0 _ _ hDd).mono ?_;clear hDd;rintro e w ⟨rfl, h0, k, n, tat, te, fin, o, nd, h1, h2, h3, h4, hS⟩;have hd2 : (d == 0) = false := (by simpa using h0);unfold psV at hS;dsimp only at hS))
          go_roundw
          case rel => exact ⟨.inl (d, a), .inr hi.form, hR _ (.loopA hk hth), H1, hx, h0, k, n, tat, te, fin, o, nd, by omega, h2, h3, h4, hS⟩
          case measure =>
            have := Ys (text := text) h0 hS yf
            omega
        · have hq1o : q1.opn = q.opn ∧ q1.nds = q.nds + 1 ∧ meas text q1 = meas text q ∧ knd q1 = knd q := by
            unfold yD at hmk
            split at hmk
            · cases hmk
            · injection hmk with hmk
              subst hmk
              exact ⟨rfl, rfl, rfl, rfl⟩
          obtain ⟨o1, o2, o3, o4⟩ := hq1o
          rw [hmk] at MC
          rcases had : yV text q1 with ⟨d, a⟩ | q2
          · have hth : yu (yD q) (yV text) = .inl (d, a) := by rw [hmk]; exact had
            have AC := fun w hq1 hS => us B text hl q1 hq1 w0 w hSig (fz H1 :: R) (List.mem_cons_of_mem _ hbm) hS
            rw [had] at AC
            clear hmk had
            go_wp2_with (first|((with_reducible apply yi hS);(first|with_reducible exact ya|exact yg rfl rfl);exact yb rfl;exact yf;rfl;decide +kernel;(try simp only [Act.put,q1,q2,q3]))|(go_at_call 114;refine MC.mono ?_;clear MC hS hS0;rintro e w ⟨rfl, hq1, hS⟩)|(go_at_call 37;refine (AC _ hq1 hS).mono ?_;clear AC hS;rintro e w ⟨rfl, hDd⟩)|(go_at_call 151;refine (kS text _ hD B _ _ w0 _ _ hDd).mono ?_;clear hDd;rintro e w ⟨rfl, h0, k, n, tat, te, fin, o, nd, h1, h2, h3, h4, hS⟩;have hd2 : (d == 0) = false := (by simpa using h0);unfold psV at hS;dsimp only at hS))
            go_roundw
            case rel => exact ⟨.inl (d, a), .inr hi.form, hR _ (.loopA hk hth), H1, hx, h0, k, n, tat, te, fin, o, nd, by omega, h2, h3, h4, hS⟩
            case measure =>
              have := Ys (text := text) h0 hS yf
              omega
          · have hth : yu (yD q) (yV text) = .inr q2 := by rw [hmk]; exact had
            have AC := fun w hq1 hS => us B text hl q1 hq1 w0 w hSig (fz H1 :: R) (List.mem_cons_of_mem _ hbm) hS
            rw [had] at AC
            have hms : ∀ hq1 : PsB text q1, meas text q2 < meas text q1 ∧ q2.opn = q1.opn ∧ q2.nds = q1.nds := fun hq1 => jj hq1 (by rw [o4, hk]; decide) had
            have UA := fun w hq2 hm2 hS => hA B q2 w0 w R H1 hq2 hm2 hSig hbm hS
            clear hmk had
            go_wp2_with (first|((with_reducible apply yi hS);(first|with_reducible exact ya|exact yg rfl rfl);exact yb rfl;exact yf;rfl;decide +kernel;(try simp only [Act.put,q1,q2,q3]))|(go_at_call 114;refine MC.mono ?_;clear MC hS hS0;rintro e w ⟨rfl, hq1, hS⟩)|(go_at_call 37;refine (AC _ hq1 hS).mono ?_;clear AC hS;rintro e w ⟨rfl, hq2, hS⟩;obtain ⟨m1, m2, m3⟩ := hms hq1;clear hms)|(go_at_call 151;refine (UA _ hq2 (by omega) hS).mono ?_;clear UA hS;rintro e w ⟨y, rfl, r3, hrd, hok3⟩;rcases r3 with ⟨d, a⟩|⟨t2, q3⟩;(focus (obtain ⟨hy, H3, hx3, h0, k, n, tat, te, fin, o, nd, h1, h2, h3, h4, hS⟩ := hok3));(have hd2 : (d == 0) = false := (by simpa using h0));(unfold psV at hS);(dsimp only at hS);rotate_left 1;(obtain ⟨c1, c2, c3, c4, c5, H3, hx3, hi3, hS⟩ := hok3);(unfold alV psV at hS);rotate_left 1)|(go_at_call 71;refine (xf 8 (by unfold i64;omega) t t2 hok.ops c5.ops (by have := hq.2.1;omega) (by have := c1.2.1;omega) _ _ H3 (InT.ext hx3 hi) hi3 w0 _ (blk B 82 (alV text q3) :: R) (by unfold alV psV;exact hS.sb (by (repeat (first|with_reducible exact Sb.refl|(with_reducible refine Sb.take (by (repeat (with_reducible first|exact Rem.hd|apply Rem.tl));done) ?_)))))).mono ?_;clear hS;rintro e w ⟨z, rfl, H4, hx4, hi4, hS⟩))
            · go_roundw
              case rel => exact ⟨.inl (d, a), .inr hi.form, hR _ (.loopE hk hth hrd), H3, hx.trans hx3, h0, k, n, tat, te, fin, o, nd, by omega, h2, h3, h4, hS⟩
              case measure =>
                have := Ys (text := text) h0 hS yf
                omega
            · have hS4 : Sat w0 _ (blk B 82 (alV text q3) :: fz H4 :: R) := hS.sb (by (repeat (first | with_reducible exact Sb.refl | (with_reducible refine Sb.take (by (repeat (with_reducible first | exact Rem.hd | apply Rem.tl)); done) ?_))))
              go_roundw
              case rel => exact ⟨.inr (.bin 8 t t2, q3, H4), (hx.trans hx3).trans hx4, hi4, c1, by omega, by omega, by simp only [size]; omega, ⟨by decide, by decide, hok, c5⟩, fun r h => hR r (.loopK hk hth hrd h), hS4⟩
              case measure =>
                have := kA hS4 yf
                omega
      · have hkk : ((Yk q.tk).1 == 6) = false := by simpa [knd] using hk
        go_wp2_with ((with_reducible apply yi hS);(first|with_reducible exact ya|exact yg rfl rfl);exact yb rfl;exact yf;rfl;decide +kernel;(try simp only [Act.put,q1,q2,q3]))
        go_ret
        exact ⟨_, rfl, .inr (t, q), hR _ (.loopN hk), hq, ho, hmm, hsz, hok, H1, hx, hi, hS0⟩
theorem chainD3 (text : List UInt8) (hD : LvD text 139) (B : Nat) (k n tat te fin o nd d a c op : Int) (w0 w : World) (R : List HP) (hd : d ≠ 0) (hS : Sat w0 w (blk B 82 (psV text k n tat te fin o nd d a) :: R)) :
    Calls Tryz.prog 81 #[.pointer (some ⟨B, 0, none⟩), .int .i64 c, .int .i64 op, .func (.func 139) #[.pointer (some ⟨B, 0, none⟩)] #[]] w fun e w' => e = .returned .nilIface ∧ Sat w0 w' (blk B 82 (psV text k n tat te fin o nd d a) :: R) := by
  have GD := fun w R hS => hD B k n tat te fin o nd d a w0 w R hd hS
  unfold psV at hS GD
  have hd2 : (d == 0) = false := by simp [hd]
  go_enter Tryz.func81, Tryz.ntmps81
  go_wp2_with (go_at_call 139; refine (GD _ _ hS).mono ?_; clear hS; rintro e w ⟨rfl, hS⟩)
  go_loopw [9] (fun x wr => x = .nilIface ∧ Sat w0 wr (blk B 82 [.string ⟨text.toArray⟩, .int .i64 k, .int .i64 n, .int .i64 tat, .int .i64 te, .int .i64 fin, .int .i64 o, .int .i64 nd, .int .i64 d, .int .i64 a] :: R)) (fun _ _ => 0)
  case atStart => exact ⟨rfl, hS⟩
  case round =>
    clear hS
    obtain ⟨rfl, hS⟩ := hrel
    go_wp2_with ((with_reducible apply yi hS);exact ya;exact yb rfl;exact yf;rfl;decide +kernel;(try simp only [Act.put,q1,q2,q3]))
    go_ret
    exact ⟨rfl, hS⟩
set_option maxHeartbeats 4000000 in
theorem chainA3 (text : List UInt8) (hl : text.length ≤ 1048576) (n : Nat) (hA : LvA text 139 4 n) (hD : LvD text 139) (B : Nat) (p : Ps) (w0 w : World) (R : List HP) (H : Hp) (hp : PsB text p) (hm : meas text p ≤ n) (hSig : kZ w0) (hbm : YT w0 ∈ R)
    (hS : Sat w0 w (blk B 82 (alV text p) :: fz H :: R)) :
    Calls Tryz.prog 81 #[.pointer (some ⟨B, 0, none⟩), .int .i64 5, .int .i64 7, .func (.func 139) #[.pointer (some ⟨B, 0, none⟩)] #[]] w fun e w' => ∃ v, e = .returned v ∧ ∃ r, RD text (.lvl 3) p r ∧ okR w0 w' R H B text p v r := by
  have UA := hA B p w0 w R H hp hm hSig hbm hS
  go_enter Tryz.func81, Tryz.ntmps81
  go_wp2_with (go_at_call 139; refine UA.mono ?_; clear hS UA; rintro e w ⟨v, rfl, r, hrd, hok⟩)
  go_loopw [9] (fun x wr => ∃ s, chSt w0 R H B text 3 p x wr s) (fun _ wr => jY text B wr)
  case atStart =>
    rcases r with x | ⟨t, q⟩
    · exact ⟨.inl x, hok.1, .lvlE (by decide) hrd, hok.2⟩
    · obtain ⟨h1, h2, h3, h4, h5, H', h6, h7, hS⟩ := hok
      exact ⟨.inr (t, q, H'), h6, h7, h1, h2, h3, h4, h5, fun r h => .lvlK (by decide) hrd h, hS⟩
  case round =>
    clear hok hrd
    obtain ⟨s, hs⟩ := hrel
    rcases s with x | ⟨t, q, H1⟩
    · obtain ⟨hv, hrd, H1, hx, h0, k, n, tat, te, fin, o, nd, h1, h2, h3, h4, hS⟩ := hs
      have hd2 : (x.1 == 0) = false := by simp [h0]
      unfold psV at hS
      have HX : Hid (x.1 = x.1) := hid rfl
      obtain ⟨d, a⟩ := x
      dsimp only at *
      go_wp2_with ((with_reducible apply yi hS);exact ya;exact yb rfl;exact yf;rfl;decide +kernel;(try simp only [Act.put,q1,q2,q3]))
      go_ret
      exact ⟨_, rfl, .inl (d, a), hrd, hv, H1, hx, h0, k, n, tat, te, fin, o, nd, h1, h2, h3, h4, hS⟩
    · obtain ⟨hx, hi, hq, ho, hmm, hsz, hok, hR, hS⟩ := hs
      have hM := kA hS yf
      have hS0 := hS
      unfold alV psV at hS
      by_cases hk : knd q = 5
      · have hkk : ((Yk q.tk).1 == 5) = true := by simpa [knd] using hk
        have MC := JW B text q hq w0 wr (fz H1 :: R) hS0
        rcases hmk : yD q with ⟨d, a⟩ | q1
        · rw [hmk] at MC
          have hth : yu (yD q) (yV text) = .inl (d, a) := by rw [hmk]; rfl
          clear hmk
          go_wp2_with (first|((with_reducible apply yi hS);(first|with_reducible exact ya|exact yg rfl rfl);exact yb rfl;exact yf;rfl;decide +kernel;(try simp only [Act.put,q1,q2,q3]))|(go_at_call 114;refine MC.mono ?_;clear MC hS hS0;rintro e w ⟨rfl, hDd⟩)|(go_at_call 37;refine (KE B text _ _ w0 _ _ hDd).mono ?_;clear hDd;rintro e w ⟨rfl, hDd⟩)|(go_at_call 139;refine (kS text _ hD B _ _ w0 _ _ hDd).mono ?_;clear hDd;rintro e w ⟨rfl, h0, k, n, tat, te, fin, o, nd, h1, h2, h3, h4, hS⟩;have hd2 : (d == 0) = false := (by simpa using h0);unfold psV at hS;dsimp only at hS))
          go_roundw
          case rel => exact ⟨.inl (d, a), .inr hi.form, hR _ (.loopA hk hth), H1, hx, h0, k, n, tat, te, fin, o, nd, by omega, h2, h3, h4, hS⟩
          case measure =>
            have := Ys (text := text) h0 hS yf
            omega
        · have hq1o : q1.opn = q.opn ∧ q1.nds = q.nds + 1 ∧ meas text q1 = meas text q ∧ knd q1 = knd q := by
            unfold yD at hmk
            split at hmk
            · cases hmk
            · injection hmk with hmk
              subst hmk
              exact ⟨rfl, rfl, rfl, rfl⟩
          obtain ⟨o1, o2, o3, o4⟩ := hq1o
          rw [hmk] at MC
          rcases had : yV text q1 with ⟨d, a⟩ | q2
          · have hth : yu (yD q) (yV text) = .inl (d, a) := by rw [hmk]; exact had
            have AC := fun w hq1 hS => us B text hl q1 hq1 w0 w hSig (fz H1 :: R) (List.mem_cons_of_mem _ hbm) hS
            rw [had] at AC
            clear hmk had
            go_wp2_with (first|((with_reducible apply yi hS);(first|with_reducible exact ya|exact yg rfl rfl);exact yb rfl;exact yf;rfl;decide +kernel;(try simp only [Act.put,q1,q2,q3]))|(go_at_call 114;refine MC.mono ?_;clear MC hS hS0;rintro e w ⟨rfl, hq1, hS⟩)|(go_at_call 37;refine (AC _ hq1 hS).mono ?_;clear AC hS;rintro e w ⟨rfl, hDd⟩)|(go_at_call 139;refine (kS text _ hD B _ _ w0 _ _ hDd).mono ?_;clear hDd;rintro e w ⟨rfl, h0, k, n, tat, te, fin, o, nd, h1, h2, h3, h4, hS⟩;have hd2 : (d == 0) = false := (by simpa using h0);unfold psV at hS;dsimp only at hS))
            go_roundw
            case rel => exact ⟨.inl (d, a), .inr hi.form, hR _ (.loopA hk hth), H1, hx, h0, k, n, tat, te, fin, o, nd, by omega, h2, h3, h4, hS⟩
            case measure =>
              have := Ys (text := text) h0 hS yf
              omega
          · have hth : yu (yD q) (yV text) = .inr q2 := by rw [hmk]; exact had
            have AC := fun w hq1 hS => us B text hl q1 hq1 w0 w hSig (fz H1 :: R) (List.mem_cons_of_mem _ hbm) hS
            rw [had] at AC
            have hms : ∀ hq1 : PsB text q1, meas text q2 < meas text q1 ∧ q2.opn = q1.opn ∧ q2.nds = q1.nds := fun hq1 => jj hq1 (by rw [o4, hk]; decide) had
            have UA := fun w hq2 hm2 hS => hA B q2 w0 w R H1 hq2 hm2 hSig hbm hS
            clear hmk had
            go_wp2_with (first|((with_reducible apply yi hS);(first|with_reducible exact ya|exact yg rfl rfl);exact yb rfl;exact yf;rfl;decide +kernel;(try simp only [Act.put,q1,q2,q3]))|(go_at_call 114;refine MC.mono ?_;clear MC hS hS0;rintro e w ⟨rfl, hq1, hS⟩)|(go_at_call 37;refine (AC _ hq1 hS).mono ?_;clear AC hS;rintro e w ⟨rfl, hq2, hS⟩;obtain ⟨m1, m2, m3⟩ := hms hq1;clear hms)|(go_at_call 139;refine (UA _ hq2 (by omega) hS).mono ?_;clear UA hS;rintro e w ⟨y, rfl, r3, hrd, hok3⟩;rcases r3 with ⟨d, a⟩|⟨t2, q3⟩;(focus (obtain ⟨hy, H3, hx3, h0, k, n, tat, te, fin, o, nd, h1, h2, h3, h4, hS⟩ := hok3));(have hd2 : (d == 0) = false := (by simpa using h0));(unfold psV at hS);(dsimp only at hS);rotate_left 1;(obtain ⟨c1, c2, c3, c4, c5, H3, hx3, hi3, hS⟩ := hok3);(unfold alV psV at hS);rotate_left 1)|(go_at_call 71;refine (xf 7 (by unfold i64;omega) t t2 hok.ops c5.ops (by have := hq.2.1;omega) (by have := c1.2.1;omega) _ _ H3 (InT.ext hx3 hi) hi3 w0 _ (blk B 82 (alV text q3) :: R) (by unfold alV psV;exact hS.sb (by (repeat (first|with_reducible exact Sb.refl|(with_reducible refine Sb.take (by (repeat (with_reducible first|exact Rem.hd|apply Rem.tl));done) ?_)))))).mono ?_;clear hS;rintro e w ⟨z, rfl, H4, hx4, hi4, hS⟩))
            · go_roundw
              case rel => exact ⟨.inl (d, a), .inr hi.form, hR _ (.loopE hk hth hrd), H3, hx.trans hx3, h0, k, n, tat, te, fin, o, nd, by omega, h2, h3, h4, hS⟩
              case measure =>
                have := Ys (text := text) h0 hS yf
                omega
            · have hS4 : Sat w0 _ (blk B 82 (alV text q3) :: fz H4 :: R) := hS.sb (by (repeat (first | with_reducible exact Sb.refl | (with_reducible refine Sb.take (by (repeat (with_reducible first | exact Rem.hd | apply Rem.tl)); done) ?_))))
              go_roundw
              case rel => exact ⟨.inr (.bin 7 t t2, q3, H4), (hx.trans hx3).trans hx4, hi4, c1, by omega, by omega, by simp only [size]; omega, ⟨by decide, by decide, hok, c5⟩, fun r h => hR r (.loopK hk hth hrd h), hS4⟩
              case measure =>
                have := kA hS4 yf
                omega
      · have hkk : ((Yk q.tk).1 == 5) = false := by simpa [knd] using hk
        go_wp2_with ((with_reducible apply yi hS);(first|with_reducible exact ya|exact yg rfl rfl);exact yb rfl;exact yf;rfl;decide +kernel;(try simp only [Act.put,q1,q2,q3]))
        go_ret
        exact ⟨_, rfl, .inr (t, q), hR _ (.loopN hk), hq, ho, hmm, hsz, hok, H1, hx, hi, hS0⟩
theorem chainD1 (text : List UInt8) (hD : LvD text 82) (B : Nat) (k n tat te fin o nd d a c op : Int) (w0 w : World) (R : List HP) (hd : d ≠ 0) (hS : Sat w0 w (blk B 82 (psV text k n tat te fin o nd d a) :: R)) :
    Calls Tryz.prog 81 #[.pointer (some ⟨B, 0, none⟩), .int .i64 c, .int .i64 op, .func (.func 82) #[.pointer (some ⟨B, 0, none⟩)] #[]] w fun e w' => e = .returned .nilIface ∧ Sat w0 w' (blk B 82 (psV text k n tat te fin o nd d a) :: R) := by
  have GD := fun w R hS => hD B k n tat te fin o nd d a w0 w R hd hS
  unfold psV at hS GD
  have hd2 : (d == 0) = false := by simp [hd]
  go_enter Tryz.func81, Tryz.ntmps81
  go_wp2_with (go_at_call 82; refine (GD _ _ hS).mono ?_; clear hS; rintro e w ⟨rfl, hS⟩)
  go_loopw [9] (fun x wr => x = .nilIface ∧ Sat w0 wr (blk B 82 [.string ⟨text.toArray⟩, .int .i64 k, .int .i64 n, .int .i64 tat, .int .i64 te, .int .i64 fin, .int .i64 o, .int .i64 nd, .int .i64 d, .int .i64 a] :: R)) (fun _ _ => 0)
  case atStart => exact ⟨rfl, hS⟩
  case round =>
    clear hS
    obtain ⟨rfl, hS⟩ := hrel
    go_wp2_with ((with_reducible apply yi hS);exact ya;exact yb rfl;exact yf;rfl;decide +kernel;(try simp only [Act.put,q1,q2,q3]))
    go_ret
    exact ⟨rfl, hS⟩
set_option maxHeartbeats 4000000 in
theorem chainA1 (text : List UInt8) (hl : text.length ≤ 1048576) (n : Nat) (hA : LvA text 82 2 n) (hD : LvD text 82) (B : Nat) (p : Ps) (w0 w : World) (R : List HP) (H : Hp) (hp : PsB text p) (hm : meas text p ≤ n) (hSig : kZ w0) (hbm : YT w0 ∈ R)
    (hS : Sat w0 w (blk B 82 (alV text p) :: fz H :: R)) :
    Calls Tryz.prog 81 #[.pointer (some ⟨B, 0, none⟩), .int .i64 8, .int .i64 10, .func (.func 82) #[.pointer (some ⟨B, 0, none⟩)] #[]] w fun e w' => ∃ v, e = .returned v ∧ ∃ r, RD text (.lvl 1) p r ∧ okR w0 w' R H B text p v r := by
  have UA := hA B p w0 w R H hp hm hSig hbm hS
  go_enter Tryz.func81, Tryz.ntmps81
  go_wp2_with (go_at_call 82; refine UA.mono ?_; clear hS UA; rintro e w ⟨v, rfl, r, hrd, hok⟩)
  go_loopw [9] (fun x wr => ∃ s, chSt w0 R H B text 1 p x wr s) (fun _ wr => jY text B wr)
  case atStart =>
    rcases r with x | ⟨t, q⟩
    · exact ⟨.inl x, hok.1, .lvlE (by decide) hrd, hok.2⟩
    · obtain ⟨h1, h2, h3, h4, h5, H', h6, h7, hS⟩ := hok
      exact ⟨.inr (t, q, H'), h6, h7, h1, h2, h3, h4, h5, fun r h => .lvlK (by decide) hrd h, hS⟩
  case round =>
    clear hok hrd
    obtain ⟨s, hs⟩ := hrel
    rcases s with x | ⟨t, q, H1⟩
    · obtain ⟨hv, hrd, H1, hx, h0, k, n, tat, te, fin, o, nd, h1, h2, h3, h4, hS⟩ := hs
      have hd2 : (x.1 == 0) = false := by simp [h0]
      unfold psV at hS
      have HX : Hid (x.1 = x.1) := hid rfl
      obtain ⟨d, a⟩ := x
      dsimp only at *
      go_wp2_with ((with_reducible apply yi hS);exact ya;exact yb rfl;exact yf;rfl;decide +kernel;(try simp only [Act.put,q1,q2,q3]))
      go_ret
      exact ⟨_, rfl, .inl (d, a), hrd, hv, H1, hx, h0, k, n, tat, te, fin, o, nd, h1, h2, h3, h4, hS⟩
    · obtain ⟨hx, hi, hq, ho, hmm, hsz, hok, hR, hS⟩ := hs
      have hM := kA hS yf
      have hS0 := hS
      unfold alV psV at hS
      by_cases hk : knd q = 8
      · have hkk : ((Yk q.tk).1 == 8) = true := by simpa [knd] using hk
        have MC := JW B text q hq w0 wr (fz H1 :: R) hS0
        rcases hmk : yD q with ⟨d, a⟩ | q1
        · rw [hmk] at MC
          have hth : yu (yD q) (yV text) = .inl (d, a) := by rw [hmk]; rfl
          clear hmk
          go_wp2_with (first|((with_reducible apply yi hS);(first|with_reducible exact ya|exact yg rfl rfl);exact yb rfl;exact yf;rfl;decide +kernel;(try simp only [Act.put,q1,q2,q3]))|(go_at_call 114;refine MC.mono ?_;clear MC hS hS0;rintro e w ⟨rfl, hDd⟩)|(go_at_call 37;refine (KE B text _ _ w0 _ _ hDd).mono ?_;clear hDd;rintro e w ⟨rfl, hDd⟩)|(go_at_call 82;refine (kS text _ hD B _ _ w0 _ _ hDd).mono ?_;clear hDd;rintro e w ⟨rfl, h0, k, n, tat, te, fin, o, nd, h1, h2, h3, h4, hS⟩;have hd2 : (d == 0) = false := (by simpa using h0);unfold psV at hS;dsimp only at hS))
          go_roundw
          case rel => exact ⟨.inl (d, a), .inr hi.form, hR _ (.loopA hk hth), H1, hx, h0, k, n, tat, te, fin, o, nd, by omega, h2, h3, h4, hS⟩
          case measure =>
            have := Ys (text := text) h0 hS yf
            omega
        · have hq1o : q1.opn = q.opn ∧ q1.nds = q.nds + 1 ∧ meas text q1 = meas text q ∧ knd q1 = knd q := by
            unfold yD at hmk
            split at hmk
            · cases hmk
            · injection hmk with hmk
              subst hmk
              exact ⟨rfl, rfl, rfl, rfl⟩
          obtain ⟨o1, o2, o3, o4⟩ := hq1o
          rw [hmk] at MC
          rcases had : yV text q1 with ⟨d, a⟩ | q2
          · have hth : yu (yD q) (yV text) = .inl (d, a) := by rw [hmk]; exact had
            have AC := fun w hq1 hS => us B text hl q1 hq1 w0 w hSig (fz H1 :: R) (List.mem_cons_of_mem _ hbm) hS
            rw [had] at AC
            clear hmk had
            go_wp2_with (first|((with_reducible apply yi hS);(first|with_reducible exact ya|exact yg rfl rfl);exact yb rfl;exact yf;rfl;decide +kernel;(try simp only [Act.put,q1,q2,q3]))|(go_at_call 114;refine MC.mono ?_;clear MC hS hS0;rintro e w ⟨rfl, hq1, hS⟩)|(go_at_call 37;refine (AC _ hq1 hS).mono ?_;clear AC hS;rintro e w ⟨rfl, hDd⟩)|(go_at_call 82;refine (kS text _ hD B _ _ w0 _ _ hDd).mono ?_;clear hDd;rintro e w ⟨rfl, h0, k, n, tat, te, fin, o, nd, h1, h2, h3, h4, hS⟩;have hd2 : (d == 0) = false := (by simpa using h0);unfold psV at hS;dsimp only at hS))
            go_roundw
            case rel => exact ⟨.inl (d, a), .inr hi.form, hR _ (.loopA hk hth), H1, hx, h0, k, n, tat, te, fin, o, nd, by omega, h2, h3, h4, hS⟩
            case measure =>
              have := Ys (text := text) h0 hS yf
              omega
          · have hth : yu (yD q) (yV text) = .inr q2 := by rw [hmk]; exact had
            have AC := fun w hq1 hS => us B text hl q1 hq1 w0 w hSig (fz H1 :: R) (List.mem_cons_of_mem _ hbm) hS
            rw [had] at AC
            have hms : ∀ hq1 : PsB text q1, meas text q2 < meas text q1 ∧ q2.opn = q1.opn ∧ q2.nds = q1.nds := fun hq1 => jj hq1 (by rw [o4, hk]; decide) had
            have UA := fun w hq2 hm2 hS => hA B q2 w0 w R H1 hq2 hm2 hSig hbm hS
            clear hmk had
            go_wp2_with (first|((with_reducible apply yi hS);(first|with_reducible exact ya|exact yg rfl rfl);exact yb rfl;exact yf;rfl;decide +kernel;(try simp only [Act.put,q1,q2,q3]))|(go_at_call 114;refine MC.mono ?_;clear MC hS hS0;rintro e w ⟨rfl, hq1, hS⟩)|(go_at_call 37;refine (AC _ hq1 hS).mono ?_;clear AC hS;rintro e w ⟨rfl, hq2, hS⟩;obtain ⟨m1, m2, m3⟩ := hms hq1;clear hms)|(go_at_call 82;refine (UA _ hq2 (by omega) hS).mono ?_;clear UA hS;rintro e w ⟨y, rfl, r3, hrd, hok3⟩;rcases r3 with ⟨d, a⟩|⟨t2, q3⟩;(focus (obtain ⟨hy, H3, hx3, h0, k, n, tat, te, fin, o, nd, h1, h2, h3, h4, hS⟩ := hok3));(have hd2 : (d == 0) = false := (by simpa using h0));(unfold psV at hS);(dsimp only at hS);rotate_left 1;(obtain ⟨c1, c2, c3, c4, c5, H3, hx3, hi3, hS⟩ := hok3);(unfold alV psV at hS);rotate_left 1)|(go_at_call 71;refine (xf 10 (by unfold i64;omega) t t2 hok.ops c5.ops (by have := hq.2.1;omega) (by have := c1.2.1;omega) _ _ H3 (InT.ext hx3 hi) hi3 w0 _ (blk B 82 (alV text q3) :: R) (by unfold alV psV;exact hS.sb (by (repeat (first|with_reducible exact Sb.refl|(with_reducible refine Sb.take (by (repeat (with_reducible first|exact Rem.hd|apply Rem.tl));done) ?_)))))).mono ?_;clear hS;rintro e w ⟨z, rfl, H4, hx4, hi4, hS⟩))
            · go_roundw
              case rel => exact ⟨.inl (d, a), .inr hi.form, hR _ (.loopE hk hth hrd), H3, hx.trans hx3, h0, k, n, tat, te, fin, o, nd, by omega, h2, h3, h4, hS⟩
              case measure =>
                have := Ys (text := text) h0 hS yf
                omega
            · have hS4 : Sat w0 _ (blk B 82 (alV text q3) :: fz H4 :: R) := hS.sb (by (repeat (first | with_reducible exact Sb.refl | (with_reducible refine Sb.take (by (repeat (with_reducible first | exact Rem.hd | apply Rem.tl)); done) ?_))))
              go_roundw
              case rel => exact ⟨.inr (.bin 10 t t2, q3, H4), (hx.trans hx3).trans hx4, hi4, c1, by omega, by omega, by simp only [size]; omega, ⟨by decide, by decide, hok, c5⟩, fun r h => hR r (.loopK hk hth hrd h), hS4⟩
              case measure =>
                have := kA hS4 yf
                omega
      · have hkk : ((Yk q.tk).1 == 8) = false := by simpa [knd] using hk
        go_wp2_with ((with_reducible apply yi hS);(first|with_reducible exact ya|exact yg rfl rfl);exact yb rfl;exact yf;rfl;decide +kernel;(try simp only [Act.put,q1,q2,q3]))
        go_ret
        exact ⟨_, rfl, .inr (t, q), hR _ (.loopN hk), hq, ho, hmm, hsz, hok, H1, hx, hi, hS0⟩
end
section
set_option maxRecDepth 20000
open Go Go.RowKit Go.SL Go.ClauseP Go.LexP

theorem andD (text : List UInt8) (hD : LvD text 162) : LvD text 151 := by
  intro B k n tat te fin o nd d a w0 w R hd hS
  have CD := chainD5 text hD B k n tat te fin o nd d a 4 6 w0 w R hd hS
  go_enter Tryz.func151, Tryz.ntmps151
  go_wp2_with (first | (go_at_call 81; refine CD.mono ?_; clear hS CD; rintro e w ⟨rfl, hS⟩))
  go_ret
  exact ⟨rfl, hS⟩
theorem andA (text : List UInt8) (hl : text.length ≤ 1048576) (n : Nat) (hA : LvA text 162 6 n) (hD : LvD text 162) : LvA text 151 5 n := by
  intro B p w0 w R H hp hm hSig hbm hS
  have CA := chainA5 text hl n hA hD B p w0 w R H hp hm hSig hbm hS
  go_enter Tryz.func151, Tryz.ntmps151
  go_wp2_with (first | (go_at_call 81; refine CA.mono ?_; clear hS CA; rintro e w ⟨v, rfl, r, hrd, hok⟩))
  go_ret
  exact ⟨_, rfl, r, hrd, hok⟩
theorem xorD (text : List UInt8) (hD : LvD text 151) : LvD text 139 := by
  intro B k n tat te fin o nd d a w0 w R hd hS
  have CD := chainD4 text hD B k n tat te fin o nd d a 6 8 w0 w R hd hS
  go_enter Tryz.func139, Tryz.ntmps139
  go_wp2_with (first | (go_at_call 81; refine CD.mono ?_; clear hS CD; rintro e w ⟨rfl, hS⟩))
  go_ret
  exact ⟨rfl, hS⟩
theorem xorA (text : List UInt8) (hl : text.length ≤ 1048576) (n : Nat) (hA : LvA text 151 5 n) (hD : LvD text 151) : LvA text 139 4 n := by
  intro B p w0 w R H hp hm hSig hbm hS
  have CA := chainA4 text hl n hA hD B p w0 w R H hp hm hSig hbm hS
  go_enter Tryz.func139, Tryz.ntmps139
  go_wp2_with (first | (go_at_call 81; refine CA.mono ?_; clear hS CA; rintro e w ⟨v, rfl, r, hrd, hok⟩))
  go_ret
  exact ⟨_, rfl, r, hrd, hok⟩
theorem orD (text : List UInt8) (hD : LvD text 139) : LvD text 115 := by
  intro B k n tat te fin o nd d a w0 w R hd hS
  have CD := chainD3 text hD B k n tat te fin o nd d a 5 7 w0 w R hd hS
  go_enter Tryz.func115, Tryz.ntmps115
  go_wp2_with (first | (go_at_call 81; refine CD.mono ?_; clear hS CD; rintro e w ⟨rfl, hS⟩))
  go_ret
  exact ⟨rfl, hS⟩
theorem orA (text : List UInt8) (hl : text.length ≤ 1048576) (n : Nat) (hA : LvA text 139 4 n) (hD : LvD text 139) : LvA text 115 3 n := by
  intro B p w0 w R H hp hm hSig hbm hS
  have CA := chainA3 text hl n hA hD B p w0 w R H hp hm hSig hbm hS
  go_enter Tryz.func115, Tryz.ntmps115
  go_wp2_with (first | (go_at_call 81; refine CA.mono ?_; clear hS CA; rintro e w ⟨v, rfl, r, hrd, hok⟩))
  go_ret
  exact ⟨_, rfl, r, hrd, hok⟩
theorem formulaD (text : List UInt8) (hD : LvD text 82) : LvD text 38 := by
  intro B k n tat te fin o nd d a w0 w R hd hS
  have CD := chainD1 text hD B k n tat te fin o nd d a 8 10 w0 w R hd hS
  go_enter Tryz.func38, Tryz.ntmps38
  go_wp2_with (first | (go_at_call 81; refine CD.mono ?_; clear hS CD; rintro e w ⟨rfl, hS⟩))
  go_ret
  exact ⟨rfl, hS⟩
theorem formulaA (text : List UInt8) (hl : text.length ≤ 1048576) (n : Nat) (hA : LvA text 82 2 n) (hD : LvD text 82) : LvA text 38 1 n := by
  intro B p w0 w R H hp hm hSig hbm hS
  have CA := chainA1 text hl n hA hD B p w0 w R H hp hm hSig hbm hS
  go_enter Tryz.func38, Tryz.ntmps38
  go_wp2_with (first | (go_at_call 81; refine CA.mono ?_; clear hS CA; rintro e w ⟨v, rfl, r, hrd, hok⟩))
  go_ret
  exact ⟨_, rfl, r, hrd, hok⟩
end
section
open Go Go.RowKit Go.SL

theorem uj (st : List T) (op n : Int) :
    (YH st op n = none ∧ (Ya op n < 0 ∨ (¬ Ya op n < 0 ∧ Ya op n > (st.length : Int)))) ∨
    (op = 1 ∧ Ya op n = 0 ∧ YH st op n = some (.cst n :: st)) ∨
    (op = 2 ∧ Ya op n = 0 ∧ YH st op n = some (.var n :: st)) ∨
    (∃ a r, st = a :: r ∧ op = 3 ∧ Ya op n = 1 ∧ YH st op n = some (.neg a :: r)) ∨
    (∃ a r, st = a :: r ∧ (op = 4 ∨ op = 5) ∧ Ya op n = 1 ∧ YH st op n = some (.qu op n a :: r)) ∨
    (∃ a b r, st = b :: a :: r ∧ (6 ≤ op ∧ op ≤ 10) ∧ Ya op n = 2 ∧ YH st op n = some (.bin op a b :: r)) ∨
    (∃ c a b r, st = b :: a :: c :: r ∧ op = 11 ∧ Ya op n = 3 ∧ YH st op n = some (.ite c a b :: r)) := by
  by_cases c1 : op = 1 ∧ (n = 0 ∨ n = 1)
  · refine .inr (.inl ⟨c1.1, ?_, ?_⟩)
    · unfold Ya; rw [if_pos (.inl c1)]
    · unfold YH; rw [if_pos c1]
  by_cases c2 : op = 2 ∧ 0 ≤ n ∧ n < 65536
  · refine .inr (.inr (.inl ⟨c2.1, ?_, ?_⟩))
    · unfold Ya; rw [if_pos (.inr c2)]
    · unfold YH; rw [if_neg c1, if_pos c2]
  have e0 : ¬ (op = 1 ∧ (n = 0 ∨ n = 1) ∨ op = 2 ∧ 0 ≤ n ∧ n < 65536) := by rintro (h | h); exact c1 h; exact c2 h
  by_cases c3 : op = 3 ∧ n = 0
  · have ea : Ya op n = 1 := by unfold Ya; rw [if_neg e0, if_pos (.inl c3)]
    have es : YH st op n = (match st with | a :: r => some (.neg a :: r) | _ => none) := by unfold YH; rw [if_neg c1, if_neg c2, if_pos c3] <;> rfl
    cases st with
    | nil => exact .inl ⟨es, .inr ⟨by omega, by simp [ea]⟩⟩
    | cons a r => exact .inr (.inr (.inr (.inl ⟨a, r, rfl, c3.1, ea, es⟩)))
  by_cases c4 : (op = 4 ∨ op = 5) ∧ 0 ≤ n ∧ n < 65536
  · have ea : Ya op n = 1 := by unfold Ya; rw [if_neg e0, if_pos (.inr c4)]
    have es : YH st op n = (match st with | a :: r => some (.qu op n a :: r) | _ => none) := by unfold YH; rw [if_neg c1, if_neg c2, if_neg c3, if_pos c4] <;> rfl
    cases st with
    | nil => exact .inl ⟨es, .inr ⟨by omega, by simp [ea]⟩⟩
    | cons a r => exact .inr (.inr (.inr (.inr (.inl ⟨a, r, rfl, c4.1, ea, es⟩))))
  have e1 : ¬ (op = 3 ∧ n = 0 ∨ (op = 4 ∨ op = 5) ∧ 0 ≤ n ∧ n < 65536) := by rintro (h | h); exact c3 h; exact c4 h
  by_cases c5 : 6 ≤ op ∧ op ≤ 10 ∧ n = 0
  · have ea : Ya op n = 2 := by unfold Ya; rw [if_neg e0, if_neg e1, if_pos c5]
    have es : YH st op n = (match st with | b :: a :: r => some (.bin op a b :: r) | _ => none) := by unfold YH; rw [if_neg c1, if_neg c2, if_neg c3, if_neg c4, if_pos c5] <;> rfl
    rcases st with _ | ⟨b, _ | ⟨a, r⟩⟩
    · exact .inl ⟨es, .inr ⟨by omega, by simp [ea]⟩⟩
    · exact .inl ⟨es, .inr ⟨by omega, by simp [ea]⟩⟩
    · exact .inr (.inr (.inr (.inr (.inr (.inl ⟨a, b, r, rfl, ⟨c5.1, c5.2.1⟩, ea, es⟩)))))
  by_cases c6 : op = 11 ∧ n = 0
  · have ea : Ya op n = 3 := by unfold Ya; rw [if_neg e0, if_neg e1, if_neg c5, if_pos c6]
    have es : YH st op n = (match st with | b :: a :: c :: r => some (.ite c a b :: r) | _ => none) := by unfold YH; rw [if_neg c1, if_neg c2, if_neg c3, if_neg c4, if_neg c5, if_pos c6] <;> rfl
    rcases st with _ | ⟨b, _ | ⟨a, _ | ⟨c, r⟩⟩⟩
    · exact .inl ⟨es, .inr ⟨by omega, by simp [ea]⟩⟩
    · exact .inl ⟨es, .inr ⟨by omega, by simp [ea]⟩⟩
    · exact .inl ⟨es, .inr ⟨by omega, by simp [ea]⟩⟩
    · exact .inr (.inr (.inr (.inr (.inr (.inr ⟨c, a, b, r, rfl, c6.1, ea, es⟩)))))
  · refine .inl ⟨?_, .inl ?_⟩
    · unfold YH; rw [if_neg c1, if_neg c2, if_neg c3, if_neg c4, if_neg c5, if_neg c6]
    · unfold Ya; rw [if_neg e0, if_neg e1, if_neg c5, if_neg c6]; omega

def Fs : List (Int × Int) → List Value
  | [] => []
  | x :: xs => .int .i64 x.1 :: .int .i64 x.2 :: Fs xs
theorem Ke : ∀ fs : List (Int × Int), (Fs fs).length = fs.length * 2
  | [] => rfl
  | x :: xs => by simp [Fs, Ke xs]; omega
theorem gP : ∀ (fs : List (Int × Int)) (k : Nat), (Fs fs).drop (k * 2) = Fs (fs.drop k)
  | [], k => by simp [Fs]
  | x :: xs, 0 => by simp
  | x :: xs, k + 1 => by
    have : (k + 1) * 2 = k * 2 + 1 + 1 := by omega
    rw [this]
    simp only [Fs, List.drop_succ_cons, gP xs k]
theorem Xr {fs : List (Int × Int)} {k : Nat} {op n : Int} (h : fs[k]? = some (op, n)) : ((Fs fs).drop (k * 2)).take 2 = [.int .i64 op, .int .i64 n] := by
  rw [gP]
  have hk := (List.getElem?_eq_some_iff.1 h).1
  rw [List.drop_eq_getElem_cons hk]
  have : fs[k] = (op, n) := (List.getElem?_eq_some_iff.1 h).2
  rw [this]
  rfl
def Vs (H : Hp) : List T → List Value → Prop
  | [], vs => vs = []
  | t :: st, vs => ∃ vs' v, vs = vs' ++ [v] ∧ Vs H st vs' ∧ InT H t v
theorem Vs.ext {H H' : Hp} (h : Ext H H') : ∀ {st : List T} {vs : List Value}, Vs H st vs → Vs H' st vs
  | [], _, k => k
  | _ :: _, _, ⟨vs', v, e, k, k'⟩ => ⟨vs', v, e, k.ext h, k'.ext h⟩
theorem Vs.len {H : Hp} : ∀ {st : List T} {vs : List Value}, Vs H st vs → vs.length = st.length
  | [], _, k => by simp only [Vs] at k; subst k; rfl
  | _ :: _, _, ⟨vs', v, e, k, k'⟩ => by subst e; simp [k.len]
def TI (fs : List (Int × Int)) (k : Nat) (st : List T) : Prop := Km [] (fs.take k) = some st
theorem TI.zero (fs : List (Int × Int)) : TI fs 0 [] := rfl
theorem TI.step {fs : List (Int × Int)} {k : Nat} {st st' : List T} {op n : Int} (h : TI fs k st) (hx : fs[k]? = some (op, n)) (hs : YH st op n = some st') : TI fs (k + 1) st' := by
  unfold TI at *
  have hk := (List.getElem?_eq_some_iff.1 hx).1
  rw [List.take_succ_eq_append_getElem hk, YP, h]
  have : fs[k] = (op, n) := (List.getElem?_eq_some_iff.1 hx).2
  simp [this, Km, hs]
theorem TI.bad {fs : List (Int × Int)} {k : Nat} {st : List T} {op n : Int} (h : TI fs k st) (hx : fs[k]? = some (op, n)) (hs : YH st op n = none) : kL fs = none := by
  unfold TI at *
  have hk := (List.getElem?_eq_some_iff.1 hx).1
  have he : fs[k] = (op, n) := (List.getElem?_eq_some_iff.1 hx).2
  have hr : Km [] fs = none := by
    conv => lhs; rw [← List.take_append_drop k fs]
    rw [YP, h, List.drop_eq_getElem_cons hk, he]
    simp [Km, hs]
  unfold kL
  split
  · rfl
  · rw [hr]
theorem TI.done {fs : List (Int × Int)} {st : List T} (h : TI fs fs.length st) (hl : fs.length ≤ 65536) : (∃ t, st = [t] ∧ kL fs = some t) ∨ (st.length ≠ 1 ∧ kL fs = none) := by
  unfold TI at h
  rw [List.take_length] at h
  unfold kL
  rw [if_neg (by omega), h]
  rcases st with _ | ⟨a, _ | ⟨b, r⟩⟩
  · exact .inr ⟨by simp, rfl⟩
  · exact .inl ⟨a, rfl, rfl⟩
  · exact .inr ⟨by simp, rfl⟩
theorem TI.bnd {fs : List (Int × Int)} {k : Nat} {st : List T} (h : TI fs k st) (hl : fs.length ≤ 65536) : st.length ≤ 65536 ∧ ∀ t ∈ st, okT t ∧ size t ≤ 65536 := by
  unfold TI at h
  have h1 := stack_le h
  have h2 := xm _ _ _ h (by simp)
  have h3 : (fs.take k).length ≤ 65536 := by rw [List.length_take]; omega
  exact ⟨by omega, fun t ht => ⟨h2 t ht, by have := h1.2 t ht; omega⟩⟩
end
end Go.Proofs.YthackanffcaejaaGreatDoor
