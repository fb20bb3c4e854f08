/- A part of the proof: Lv5 Lv6. -/
import Derived.Test.YthackanffcaejaaGreatDoorO1
import Derived.Test.YthackanffcaejaaGreatDoorO9
set_option linter.unusedSimpArgs false
set_option linter.unusedVariables false
set_option linter.unusedSectionVars false
namespace Go.Proofs.YthackanffcaejaaGreatDoor
section
set_option maxRecDepth 20000
open Go Go.RowKit Go.SL Go.ClauseP Go.LexP

theorem impD (text : List UInt8) (hD : LvD text 115) : LvD text 82 := by
  intro B k n tat te fin o nd d a w0 w R hd hS
  have GD := fun w R hS => hD B k n tat te fin o nd d a w0 w R hd hS
  unfold psV at hS GD
  have hd2 : (d == 0) = false := by simp [hd]
  have hd3 : (d != 0) = true := by simp [hd]
  go_enter Tryz.func82, Tryz.ntmps82
  go_wp2_with (first|((with_reducible apply yI hS);exact ya;exact E130;exact yb rfl;exact Yz rfl;rfl;decide;clear hS;intro NB w hS;(try simp only [Act.put,q1,q2,q3]))|(go_at_call 115;refine (GD _ _ hS).mono ?_;clear hS;rintro e w ⟨rfl, hS⟩))
  go_loopw [3] (fun _ wr => Sat w0 wr (blk B 82 [.string ⟨text.toArray⟩, .int .i64 k, .int .i64 n, .int .i64 tat, .int .i64 te, .int .i64 fin, .int .i64 o, .int .i64 nd, .int .i64 d, .int .i64 a] :: R)) (fun _ _ => 0)
  case atStart => exact hS.sb (by (repeat (first | with_reducible exact Sb.refl | (with_reducible refine Sb.take (by (repeat (with_reducible first | exact Rem.hd | apply Rem.tl)); done) ?_) | with_reducible apply Sb.skip)))
  case round =>
    clear hS
    have hS := hrel
    clear hrel
    go_wp2_with ((with_reducible apply yi hS);exact ya;exact yb rfl;exact yf;rfl;decide +kernel;(try simp only [Act.put,q1,q2,q3]))
    go_ret
    exact ⟨rfl, hS⟩
theorem Vs.at_ {H : Hp} : ∀ {xs : List T} {vs : List Value} (m : Nat) (x : T), Vs H xs vs → xs[m]? = some x → ∃ v, vs[xs.length - 1 - m]? = some v ∧ InT H x v
  | [], _, m, x, _, hx => by simp at hx
  | y :: ys, _, 0, x, ⟨vs', v, e, k, k'⟩, hx => by
    simp at hx
    subst hx
    subst e
    refine ⟨v, ?_, k'⟩
    have := k.len
    rw [List.getElem?_append_right (by simp; omega)]
    simp [this]
  | y :: ys, _, m + 1, x, ⟨vs', v, e, k, k'⟩, hx => by
    subst e
    have hx2 : ys[m]? = some x := by simpa using hx
    obtain ⟨v2, h1, h2⟩ := Vs.at_ m x k hx2
    refine ⟨v2, ?_, h2⟩
    have hm := (List.getElem?_eq_some_iff.1 hx2).1
    have := k.len
    rw [List.getElem?_append_left (by simp only [List.length_cons]; omega)]
    simp only [List.length_cons]
    rw [← h1]
    congr 1
    omega
def imSt (w0 : World) (R : List HP) (H : Hp) (B : Nat) (text : List UInt8) (p : Ps) (ad : Option Addr) (m cap : Nat) (vs : List Value) (w : World) : (Int × Nat) ⊕ (List T × Ps × Hp) → Prop
  | .inl x => RD text (.lvl 2) p (.inl x) ∧ ∃ H', Ext H H' ∧ Dead w0 w (fz H' :: own 70 1 ad m cap vs :: R) B text p.opn x
  | .inr (xs, q, H') => Ext H H' ∧ Vs H' xs vs ∧ xs ≠ [] ∧ PsB text q ∧ q.opn = p.opn ∧ meas text q ≤ meas text p ∧ p.nds + Ym xs + (xs.length - 1) ≤ q.nds ∧ (∀ x ∈ xs, okT x) ∧ (∀ r, RD text (.imps xs) q r → RD text (.lvl 2) p r) ∧
      Sat w0 w (blk B 82 (alV text q) :: fz H' :: own 70 1 ad m cap vs :: R)
theorem UP : ∀ xs : List T, xs.length ≤ Ym xs
  | [] => by simp [Ym]
  | x :: xs => by
    have := UP xs
    have h := kg x
    simp only [Ym, List.map_cons, List.sum_cons, List.length_cons] at this ⊢
    omega
theorem uk : ∀ {xs : List T} {y : T}, y ∈ xs → size y ≤ Ym xs
  | x :: xs, y, h => by
    simp only [Ym, List.map_cons, List.sum_cons]
    rcases List.mem_cons.1 h with rfl | h
    · omega
    · have := uk h
      unfold Ym at this
      omega
theorem impT_snoc (x y : T) (rest : List T) : Ks (x :: (rest ++ [y])) = .bin 9 y (Ks (x :: rest)) := by simp [Ks, List.foldl_append]
theorem impT_take {xs : List T} {k : Nat} {y : T} (h : xs[k + 1]? = some y) : Ks (xs.take (k + 2)) = .bin 9 y (Ks (xs.take (k + 1))) := by
  cases xs with
  | nil => simp at h
  | cons x rest =>
    have h2 : rest[k]? = some y := by simpa using h
    obtain ⟨hk, hy⟩ := List.getElem?_eq_some_iff.1 h2
    rw [List.take_succ_cons, List.take_succ_cons, List.take_succ_eq_append_getElem hk, hy]
    exact impT_snoc _ _ _
theorem xd : ∀ (rest : List T) (x : T), size (Ks (x :: rest)) = Ym (x :: rest) + rest.length
  | [], x => by simp [Ks, Ym]
  | y :: rest, x => by
    have := xd rest (.bin 9 y x)
    simp only [Ks, List.foldl_cons] at this ⊢
    rw [this]
    simp only [Ym, List.map_cons, List.sum_cons, size, List.length_cons]
    omega
theorem Xn : ∀ (rest : List T) (x : T), (∀ y ∈ x :: rest, okT y) → okT (Ks (x :: rest))
  | [], x, h => h x (.head _)
  | y :: rest, x, h => by
    have := Xn rest (.bin 9 y x) (fun z hz => by
      rcases List.mem_cons.1 hz with rfl | hz
      · exact ⟨by decide, by decide, h y (.tail _ (.head _)), h x (.head _)⟩
      · exact h z (.tail _ (.tail _ hz)))
    simpa only [Ks, List.foldl_cons] using this
theorem gn (xs : List T) (k : Nat) : Ym (xs.take k) ≤ Ym xs := by
  have h : xs = xs.take k ++ xs.drop k := (List.take_append_drop k xs).symm
  have h2 : Ym xs = Ym (xs.take k) + Ym (xs.drop k) := by conv => lhs; rw [h]
                                                          simp only [Ym, List.map_append, List.sum_append]
  omega
theorem Gc {xs : List T} {k m : Nat} (hk : k < xs.length) (hs : Ym xs + (xs.length - 1) ≤ m) (ho : ∀ x ∈ xs, okT x) : size (Ks (xs.take (k + 1))) ≤ m ∧ okT (Ks (xs.take (k + 1))) := by
  cases xs with
  | nil => simp at hk
  | cons x rest =>
    have h1 := gn (x :: rest) (k + 1)
    rw [List.take_succ_cons] at h1 ⊢
    have h2 : (rest.take k).length ≤ rest.length := by simp [List.length_take]; omega
    simp only [List.length_cons] at hs
    refine ⟨by rw [xd]; omega, Xn _ _ fun y hy => ho y ?_⟩
    rcases List.mem_cons.1 hy with rfl | hy
    · exact .head _
    · exact .tail _ (List.mem_of_mem_take hy)
def pst (text : List UInt8) (p : Ps) (H' : Hp) (v : Value) (k n tat te fin o nd d a : Int) : Rt → Prop
  | .inl x => x = (d, a.toNat) ∧ (x.2 : Int) = a ∧ d ≠ 0 ∧ p.opn ≤ o ∧ o ≤ 65 ∧ 0 ≤ nd ∧ nd ≤ 65537
  | .inr (t, q) => alV text q = psV text k n tat te fin o nd d a ∧ PsB text q ∧ q.opn = p.opn ∧ meas text q ≤ meas text p ∧ p.nds + size t ≤ q.nds ∧ okT t ∧ InT H' t v
theorem IfV.cell {v : Value} (h : IfV v) : v.oneCell' = true := by
  rcases h with rfl | ⟨K, b, rfl⟩ <;> rfl
theorem xc {w0 w : World} {R : List HP} {H : Hp} {B : Nat} {text : List UInt8} {p : Ps} {v : Value} {r : Rt} (h : okR w0 w R H B text p v r) :
    ∃ (k n tat te fin o nd d a : Int) (H' : Hp), Ext H H' ∧ pst text p H' v k n tat te fin o nd d a r ∧ v.oneCell' = true ∧ Sat w0 w (blk B 82 [.string ⟨text.toArray⟩, .int .i64 k, .int .i64 n, .int .i64 tat, .int .i64 te, .int .i64 fin, .int .i64 o, .int .i64 nd, .int .i64 d, .int .i64 a] :: fz H' :: R) := by
  rcases r with ⟨d, a⟩ | ⟨t, q⟩
  · obtain ⟨hv, H1, hx, h0, k, n, tat, te, fin, o, nd, h1, h2, h3, h4, hS⟩ := h
    exact ⟨k, n, tat, te, fin, o, nd, d, a, H1, hx, ⟨by simp, rfl, h0, h1, h2, h3, h4⟩, hv.cell, hS⟩
  · obtain ⟨h1, h2, h3, h4, h5, H1, h6, h7, hS⟩ := h
    exact ⟨_, _, _, _, _, _, _, _, _, H1, h6, ⟨rfl, h1, h2, h3, h4, h5, h7⟩, IfV.cell (.inr h7.form), hS⟩
set_option maxHeartbeats 8000000 in
theorem impA (text : List UInt8) (hl : text.length ≤ 1048576) (n : Nat) (hA : LvA text 115 3 n) (hD : LvD text 115) : LvA text 82 2 n := by
  intro B p w0 w R H hp hm hSig hbm hS
  have UA := hA B p w0 w R H hp hm hSig hbm hS
  go_enter Tryz.func82, Tryz.ntmps82
  go_wp2_with (first|(go_at_call 115;refine UA.mono ?_;clear hS UA;rintro e w ⟨v, rfl, r, hrd, hok⟩;obtain ⟨k, n, tat, te, fin, o, nd, d, a, H1, hx, hps, hoc, hS⟩ := xc hok;clear hok)|((with_reducible apply yI hS);exact ya;exact E130;exact yb rfl;exact Yz hoc;rfl;decide;clear hS;intro B3 w hS;(try simp only [Act.put,q1,q2,q3])))
  have hS1 := hS.turn (B := own 70 1 (some ⟨B3, 0, none⟩) 1 1 [v]) fun g h => ⟨rfl, .inr ⟨B3, [v], rfl, Nat.le_refl _, by unfold maxLen; omega, rfl, rfl, h⟩⟩
  have hS2 : Sat w0 w (blk B 82 [.string ⟨text.toArray⟩, .int .i64 k, .int .i64 n, .int .i64 tat, .int .i64 te, .int .i64 fin, .int .i64 o, .int .i64 nd, .int .i64 d, .int .i64 a] :: fz H1 :: own 70 1 (some ⟨B3, 0, none⟩) 1 1 [v] :: R) := hS1.sb (by (repeat (first|with_reducible exact Sb.refl|(with_reducible refine Sb.take (by (repeat (with_reducible first|exact Rem.hd|apply Rem.tl));done) ?_))))
  clear hS hS1
  go_loopw [3] (fun l wr => ∃ ad m cap vs s, l = .slice ad m cap ∧ imSt w0 R H B text p ad m cap vs wr s) (fun _ wr => jY text B wr)
  case atStart =>
    refine ⟨some ⟨B3, 0, none⟩, 1, 1, [v], ?_⟩
    rcases r with x | ⟨t, q⟩
    · obtain ⟨rfl, ha, h0, h1, h2, h3, h4⟩ := hps
      exact ⟨.inl _, rfl, .impE hrd, H1, hx, h0, k, n, tat, te, fin, o, nd, h1, h2, h3, h4, by dsimp only at ha ⊢; rw [ha]; exact hS2⟩
    · obtain ⟨e1, h1, h2, h3, h4, h5, h6⟩ := hps
      refine ⟨.inr ([t], q, H1), rfl, hx, ⟨[], v, rfl, rfl, h6⟩, by simp, h1, h2, h3, by simp [Ym]; omega, by simpa using h5, fun r h => .impK hrd h, ?_⟩
      rw [e1]
      exact hS2
  case round =>
    clear hS2 hrd hps
    obtain ⟨ad, m, cap, vs, s, rfl, hs⟩ := hrel
    rcases s with x | ⟨xs, q, H1⟩
    · obtain ⟨hrd, H1, hx, h0, k, n, tat, te, fin, o, nd, h1, h2, h3, h4, hS⟩ := hs
      obtain ⟨d, a⟩ := x
      dsimp only at *
      have hd2 : (d == 0) = false := by simp [h0]
      have hd3 : (d != 0) = true := by simp [h0]
      unfold psV at hS
      go_wp2_with ((with_reducible apply yi hS);exact ya;exact yb rfl;exact yf;rfl;decide +kernel;(try simp only [Act.put,q1,q2,q3]))
      go_ret
      exact ⟨_, rfl, .inl (d, a), hrd, .inl rfl, H1, hx, h0, k, n, tat, te, fin, o, nd, h1, h2, h3, h4, by dsimp only; unfold psV; exact hS.sb (by (repeat (first | with_reducible exact Sb.refl | (with_reducible refine Sb.take (by (repeat (with_reducible first | exact Rem.hd | apply Rem.tl)); done) ?_) | with_reducible apply Sb.skip)))⟩
    · obtain ⟨hx, hvs, hne, hq, ho, hmm, hsz, hok, hR, hS⟩ := hs
      have hM := kA hS yf
      have hS0 := hS
      have hln : vs.length = m * 1 := hS.ownLen (ye (ye yf))
      have hxl := hvs.len
      have hml : m ≤ 65536 := by
        have h1 := UP xs
        have h2 := hq.2.1
        omega
      have HLN := hid hln
      have HXL := hid hxl
      clear hln hxl
      unfold alV psV at hS
      by_cases hk : knd q = 7
      · have hkk : ((Yk q.tk).1 == 7) = true := by simpa [knd] using hk
        have MC := JW B text q hq w0 wr (fz H1 :: own 70 1 ad m cap vs :: R) hS0
        rcases hmk : yD q with ⟨d, a⟩ | q1
        · rw [hmk] at MC
          have hth : yu (yD q) (yV text) = .inl (d, a) := by rw [hmk]; rfl
          clear hmk
          go_wp2_with (first|((with_reducible apply yi hS);(first|with_reducible exact ya|exact yg rfl rfl);exact yb rfl;exact yf;rfl;decide +kernel;(try simp only [Act.put,q1,q2,q3]))|((with_reducible apply yI hS);exact ya;exact E130;exact yb rfl;exact Yz rfl;rfl;decide;clear hS;intro NB w hS;(try simp only [Act.put,q1,q2,q3]))|((with_reducible apply yW hS);exact ya;exact yb rfl;exact yb rfl;exact E130;(repeat (with_reducible first|exact Rem.hd|apply Rem.tl));(repeat (with_reducible apply Rem.tl));rfl;rfl;(omega);(omega);clear hS;intro AD CAP w hS;(try simp only [Nat.zero_add, List.nil_append] at hS);(try simp only [Act.put,q1,q2,q3]))|(go_at_call 114;refine MC.mono ?_;clear MC hS hS0;rintro e w ⟨rfl, hDd⟩)|(go_at_call 37;refine (KE B text _ _ w0 _ _ hDd).mono ?_;clear hDd;rintro e w ⟨rfl, hDd⟩)|(go_at_call 115;refine (kS text _ hD B _ _ w0 _ _ hDd).mono ?_;clear hDd;rintro e w ⟨rfl, h0, k, n, tat, te, fin, o, nd, h1, h2, h3, h4, hS⟩;have hd2 : (d == 0) = false := (by simpa using h0);unfold psV at hS;dsimp only at hS))
          have hS4 : Sat w0 w (blk B 82 (psV text k n tat te fin o nd d a) :: fz H1 :: own 70 1 AD (m + 1) CAP (vs ++ [.nilIface]) :: R) := by unfold psV; exact hS.sb (by (repeat (first | with_reducible exact Sb.refl | (with_reducible refine Sb.take (by (repeat (with_reducible first | exact Rem.hd | apply Rem.tl)); done) ?_))))
          go_roundw
          case rel => exact ⟨AD, m + 1, CAP, _, .inl (d, a), rfl, hR _ (.impsA hk hth), H1, hx, h0, k, n, tat, te, fin, o, nd, by omega, h2, h3, h4, hS4⟩
          case measure =>
            have := Ys (text := text) h0 hS4 yf
            omega
        · have hq1o : q1.opn = q.opn ∧ q1.nds = q.nds + 1 ∧ meas text q1 = meas text q ∧ knd q1 = knd q := by
            unfold yD at hmk
            split at hmk
            · cases hmk
            · injection hmk with hmk
              subst hmk
              exact ⟨rfl, rfl, rfl, rfl⟩
          obtain ⟨o1, o2, o3, o4⟩ := hq1o
          rw [hmk] at MC
          rcases had : yV text q1 with ⟨d, a⟩ | q2
          · have hth : yu (yD q) (yV text) = .inl (d, a) := by rw [hmk]; exact had
            have AC := fun w hq1 hS => us B text hl q1 hq1 w0 w hSig (fz H1 :: own 70 1 ad m cap vs :: R) (List.mem_cons_of_mem _ (List.mem_cons_of_mem _ hbm)) hS
            rw [had] at AC
            clear hmk had
            go_wp2_with (first|((with_reducible apply yi hS);(first|with_reducible exact ya|exact yg rfl rfl);exact yb rfl;exact yf;rfl;decide +kernel;(try simp only [Act.put,q1,q2,q3]))|((with_reducible apply yI hS);exact ya;exact E130;exact yb rfl;exact Yz rfl;rfl;decide;clear hS;intro NB w hS;(try simp only [Act.put,q1,q2,q3]))|((with_reducible apply yW hS);exact ya;exact yb rfl;exact yb rfl;exact E130;(repeat (with_reducible first|exact Rem.hd|apply Rem.tl));(repeat (with_reducible apply Rem.tl));rfl;rfl;(omega);(omega);clear hS;intro AD CAP w hS;(try simp only [Nat.zero_add, List.nil_append] at hS);(try simp only [Act.put,q1,q2,q3]))|(go_at_call 114;refine MC.mono ?_;clear MC hS hS0;rintro e w ⟨rfl, hq1, hS⟩)|(go_at_call 37;refine (AC _ hq1 hS).mono ?_;clear AC hS;rintro e w ⟨rfl, hDd⟩)|(go_at_call 115;refine (kS text _ hD B _ _ w0 _ _ hDd).mono ?_;clear hDd;rintro e w ⟨rfl, h0, k, n, tat, te, fin, o, nd, h1, h2, h3, h4, hS⟩;have hd2 : (d == 0) = false := (by simpa using h0);unfold psV at hS;dsimp only at hS))
            have hS4 : Sat w0 w (blk B 82 (psV text k n tat te fin o nd d a) :: fz H1 :: own 70 1 AD (m + 1) CAP (vs ++ [.nilIface]) :: R) := by unfold psV; exact hS.sb (by (repeat (first | with_reducible exact Sb.refl | (with_reducible refine Sb.take (by (repeat (with_reducible first | exact Rem.hd | apply Rem.tl)); done) ?_))))
            go_roundw
            case rel => exact ⟨AD, m + 1, CAP, _, .inl (d, a), rfl, hR _ (.impsA hk hth), H1, hx, h0, k, n, tat, te, fin, o, nd, by omega, h2, h3, h4, hS4⟩
            case measure =>
              have := Ys (text := text) h0 hS4 yf
              omega
          · have hth : yu (yD q) (yV text) = .inr q2 := by rw [hmk]; exact had
            have AC := fun w hq1 hS => us B text hl q1 hq1 w0 w hSig (fz H1 :: own 70 1 ad m cap vs :: R) (List.mem_cons_of_mem _ (List.mem_cons_of_mem _ hbm)) hS
            rw [had] at AC
            have hms : ∀ hq1 : PsB text q1, meas text q2 < meas text q1 ∧ q2.opn = q1.opn ∧ q2.nds = q1.nds := fun hq1 => jj hq1 (by rw [o4, hk]; decide) had
            have UA := fun w hq2 hm2 hS => hA B q2 w0 w (own 70 1 ad m cap vs :: R) H1 hq2 hm2 hSig (List.mem_cons_of_mem _ hbm) hS
            clear hmk had
            go_wp2_with (first|((with_reducible apply yi hS);(first|with_reducible exact ya|exact yg rfl rfl);exact yb rfl;exact yf;rfl;decide +kernel;(try simp only [Act.put,q1,q2,q3]))|(go_at_call 114;refine MC.mono ?_;clear MC hS hS0;rintro e w ⟨rfl, hq1, hS⟩)|(go_at_call 37;refine (AC _ hq1 hS).mono ?_;clear AC hS;rintro e w ⟨rfl, hq2, hS⟩;obtain ⟨m1, m2, m3⟩ := hms hq1;clear hms)|(go_at_call 115;refine (UA _ hq2 (by omega) hS).mono ?_;clear UA hS;rintro e w ⟨y, rfl, r3, hrd, hok3⟩;(obtain ⟨k, n, tat, te, fin, o, nd, d, a, H3, hx3, hps, hoc, hS⟩ := xc hok3);clear hok3)|((with_reducible apply yI hS);exact ya;exact E130;exact yb rfl;exact Yz hoc;rfl;decide;clear hS;intro B3 w hS;(try simp only [Act.put,q1,q2,q3]))|((with_reducible apply yW hS);exact ya;exact yb rfl;exact yb rfl;exact E130;(repeat (with_reducible first|exact Rem.hd|apply Rem.tl));(repeat (with_reducible apply Rem.tl));rfl;(simp only [List.all_cons, List.all_nil, hoc, Bool.and_true]);omega;omega;clear hS;intro AD CAP w hS;(try simp only [Act.put,q1,q2,q3])))
            have hS4 : Sat w0 w (blk B 82 (psV text k n tat te fin o nd d a) :: fz H3 :: own 70 1 AD (m + 1) CAP (vs ++ [y]) :: R) := by unfold psV; exact hS.sb (by (repeat (first | with_reducible exact Sb.refl | (with_reducible refine Sb.take (by (repeat (with_reducible first | exact Rem.hd | apply Rem.tl)); done) ?_))))
            clear hS
            rcases r3 with x | ⟨t2, q3⟩
            · obtain ⟨rfl, ha, h0, h1, h2, h3, h4⟩ := hps
              go_roundw
              case rel => exact ⟨AD, m + 1, CAP, _, .inl _, rfl, hR _ (.impsE hk hth hrd), H3, hx.trans hx3, h0, k, n, tat, te, fin, o, nd, by omega, h2, h3, h4, by dsimp only at ha ⊢; rw [ha]; exact hS4⟩
              case measure =>
                have := Ys (text := text) h0 hS4 yf
                omega
            · obtain ⟨e1, c1, c2, c3, c4, c5, hi3⟩ := hps
              rw [← e1] at hS4
              go_roundw
              case rel => exact ⟨AD, m + 1, CAP, _, .inr (t2 :: xs, q3, H3), rfl, hx.trans hx3, ⟨vs, y, rfl, hvs.ext hx3, hi3⟩, by simp, c1, by omega, by omega, by
                have : 0 < xs.length := List.length_pos_iff.2 hne
                simp only [Ym, List.map_cons, List.sum_cons, List.length_cons] at hsz ⊢
                omega, fun z hz => (by rcases List.mem_cons.1 hz with rfl | hz; exact c5; exact hok z hz), fun r h => hR r (.impsK hk hth hrd h), hS4⟩
              case measure =>
                have := kA hS4 yf
                omega
      · have hkk : ((Yk q.tk).1 == 7) = false := by simpa [knd] using hk
        have h0l : 0 < xs.length := List.length_pos_iff.2 hne
        have hmx : m = xs.length := by have := HLN.out; have := HXL.out; omega
        obtain ⟨x0, hx0⟩ : ∃ x0, xs[0]? = some x0 := ⟨_, List.getElem?_eq_getElem h0l⟩
        obtain ⟨v0, hv0, hi0⟩ := hvs.at_ 0 x0 hx0
        rw [← hmx, Nat.sub_zero] at hv0
        have h0m : 0 < m := by omega
        have HMX := hid hmx
        clear hmx
        have hone : v0.oneCell' = true := IfV.cell (.inr hi0.form)
        go_wp2_with (first|((with_reducible apply yi hS);(first|with_reducible exact ya|exact yg rfl rfl);exact yb rfl;exact yf;rfl;decide +kernel;(try simp only [Act.put,q1,q2,q3]))|((with_reducible apply yA);exact ya;exact yb rfl;exact yb rfl;exact E130;(omega);(omega);(exact hS.ownNN (by (repeat (with_reducible first|exact yf|apply ye))) (by omega));(simp only [Int.toNat_natCast, Nat.mul_one, Nat.zero_add, Yc, yL, yJ, yP, Yb, yQ, yK];rfl);(try simp only [Act.put,q1,q2,q3]))|((with_reducible apply Yl);exact ya;exact yb rfl;(exact (hS.ownCell (by (repeat (with_reducible first|exact yf|apply ye))) (by (assumption))).1);decide +kernel;(try simp only [Act.put,q1,q2,q3])))
        go_loopw [4, 5] (fun x i wi => ∃ k : Nat, ∃ H', k < m ∧ Ext H1 H' ∧ InT H' (Ks (xs.take (k + 1))) x ∧ ((k + 1 = m ∧ i = .int .i64 (-1)) ∨ ∃ j : Nat, k + 2 + j = m ∧ i = .int .i64 j) ∧ Sat w0 wi (blk B 82 (alV text q) :: fz H' :: own 70 1 ad m cap vs :: R)) (fun _ i _ => (intOf i + 1).toNat)
        case atStart =>
          refine ⟨0, H1, h0m, Ext.refl _, ?_, ?_, hS0⟩
          · cases xs with
            | nil => exact (hne rfl).elim
            | cons x rest =>
              simp only [List.getElem?_cons_zero, Option.some.injEq] at hx0
              subst hx0
              exact hi0
          · by_cases h1 : m = 1
            · exact .inl ⟨by omega, by subst h1; rfl⟩
            · exact .inr ⟨m - 2, by omega, congrArg (Value.int .i64) (by omega)⟩
        case round =>
          clear hS hS0
          obtain ⟨k, H2, hk1, hx2, hiT, hj, hS⟩ := hrel
          have hS0 := hS
          unfold alV psV at hS
          rcases hj with ⟨hk2, rfl⟩ | ⟨j, hk2, rfl⟩
          · have HK2 := hid hk2
            clear hk2
            go_wp2_with ((with_reducible apply yi hS);exact yg rfl rfl;exact yh;(repeat (with_reducible apply ye));rfl;decide +kernel;(try simp only [Act.put,q1,q2,q3]))
            go_ret
            have hkm := HK2.out
            have hall : xs.take (k + 1) = xs := List.take_of_length_le (by have := HMX.out; omega)
            have hbd := Gc (xs := xs) (k := k) (m := q.nds - p.nds) (by have := HMX.out; omega) (by omega) hok
            rw [hall] at hbd hiT
            exact ⟨_, rfl, .inr (Ks xs, q), hR _ (.impsN hk), hq, ho, hmm, by have := hbd.1; omega, hbd.2, H2, hx.trans hx2, hiT, hS0.sb (by (repeat (first | with_reducible exact Sb.refl | (with_reducible refine Sb.take (by (repeat (with_reducible first | exact Rem.hd | apply Rem.tl)); done) ?_) | with_reducible apply Sb.skip)))⟩
          · obtain ⟨y, hy⟩ : ∃ y, xs[k + 1]? = some y := ⟨_, List.getElem?_eq_getElem (by have := HMX.out; omega)⟩
            obtain ⟨vy, hvy, hiy⟩ := hvs.at_ (k + 1) y hy
            have hjx : xs.length - 1 - (k + 1) = j := by have := HMX.out; omega
            rw [hjx] at hvy
            have hjm : j < m := by omega
            have hbd := Gc (xs := xs) (k := k) (m := q.nds - p.nds) (by have := HMX.out; omega) (by omega) hok
            have hby := impT_take hy
            have hys : size y ≤ q.nds := by
              have h1 : y ∈ xs := List.mem_of_getElem? hy
              have h2 := uk h1
              omega
            have hoy := hok y (List.mem_of_getElem? hy)
            have JM := fun w hS => xf 9 (by unfold i64; omega) y (Ks (xs.take (k + 1))) hoy.ops hbd.2.ops (by have := hq.2.1; omega) (by have := hq.2.1; have := hbd.1; omega) vy _ H2 (hiy.ext hx2) hiT w0 w (blk B 82 (alV text q) :: own 70 1 ad m cap vs :: R) hS
            have HK2 := hid hk2
            have HBY := hid hby
            clear hk2 hby hjx hy
            go_wp2_with (first|((with_reducible apply yA);exact ya;exact yb rfl;exact yb rfl;exact E130;(omega);(omega);(exact hS.ownNN (by (repeat (with_reducible first|exact yf|apply ye))) (by omega));(simp only [Int.toNat_natCast, Nat.mul_one, Nat.zero_add, Yc, yL, yJ, yP, Yb, yQ, yK];rfl);(try simp only [Act.put,q1,q2,q3]))|((with_reducible apply Yl);exact ya;exact yb rfl;(exact (hS.ownCell (by (repeat (with_reducible first|exact yf|apply ye))) (by (assumption))).1);decide +kernel;(try simp only [Act.put,q1,q2,q3]))|(go_at_call 71;refine (JM _ (by unfold alV psV;exact hS.sb (by (repeat (first|with_reducible exact Sb.refl|(with_reducible refine Sb.take (by (repeat (with_reducible first|exact Rem.hd|apply Rem.tl));done) ?_)))))).mono ?_;clear hS JM;rintro e w ⟨z, rfl, H4, hx4, hi4, hS⟩))
            go_roundw
            case rel =>
              refine ⟨k + 1, H4, by have := HK2.out; omega, hx2.trans hx4, by rw [HBY.out]; exact hi4, ?_, hS.sb (by (repeat (first | with_reducible exact Sb.refl | (with_reducible refine Sb.take (by (repeat (with_reducible first | exact Rem.hd | apply Rem.tl)); done) ?_))))⟩
              have := HK2.out
              rcases j with _ | j
              · exact .inl ⟨by omega, rfl⟩
              · exact .inr ⟨j, by omega, congrArg (Value.int .i64) (by omega)⟩
            case measure => (simp [intOf]) <;> omega
end
section
set_option maxRecDepth 20000
open Go Go.RowKit Go.SL Go.ClauseP Go.LexP

def aftN (w0 w : World) (R : List HP) (B : Nat) (text : List UInt8) (lo hi : Nat) : Rp → Prop
  | .inl x => x.1 ≠ 0 ∧ ∃ k n tat te fin o nd : Int, lo ≤ o ∧ o ≤ 65 ∧ 0 ≤ nd ∧ nd ≤ hi ∧ Sat w0 w (blk B 82 (psV text k n tat te fin o nd x.1 x.2) :: R)
  | .inr q => PsB text q ∧ q.opn = lo ∧ Sat w0 w (blk B 82 (alV text q) :: R)
theorem aftN.dead {w0 w : World} {R : List HP} {B : Nat} {text : List UInt8} {lo : Nat} {x : Int × Nat} (h : aftN w0 w R B text lo 65537 (.inl x)) : Dead w0 w R B text lo x := h
theorem aftN.wide {w0 w : World} {R : List HP} {B : Nat} {text : List UInt8} {lo : Nat} {r : Rp} (h : aftN w0 w R B text lo 65536 r) : aftN w0 w R B text lo 65537 r := by
  cases r with
  | inl x => obtain ⟨h0, k, n, tat, te, fin, o, nd, h1, h2, h3, h4, h5⟩ := h; exact ⟨h0, k, n, tat, te, fin, o, nd, h1, h2, h3, by omega, h5⟩
  | inr q => exact h
theorem aftN.sb {w0 w : World} {R R' : List HP} {B : Nat} {text : List UInt8} {lo hi : Nat} {r : Rp} (h : aftN w0 w R B text lo hi r) (s : ∀ A, Sb (A :: R) (A :: R')) : aftN w0 w R' B text lo hi r := by
  cases r with
  | inl x => obtain ⟨h0, k, n, tat, te, fin, o, nd, h1, h2, h3, h4, h5⟩ := h; exact ⟨h0, k, n, tat, te, fin, o, nd, h1, h2, h3, h4, h5.sb (s _)⟩
  | inr q => exact ⟨h.1, h.2.1, h.2.2.sb (s _)⟩
theorem aftN.of_aft {w0 w : World} {R : List HP} {B : Nat} {text : List UInt8} {lo : Nat} {r : Rp} (h : aft w0 w R B text lo r) (ho : ∀ q, r = .inr q → q.opn = lo) : aftN w0 w R B text lo 65537 r := by
  cases r with
  | inl x => exact h
  | inr q => exact ⟨h.1, ho q rfl, h.2⟩
def UJ (text : List UInt8) (k n tat te fin o nd d a : Int) : Rp → Prop
  | .inl x => x = (d, a.toNat) ∧ (x.2 : Int) = a ∧ d ≠ 0
  | .inr q => alV text q = psV text k n tat te fin o nd d a ∧ d = 0
theorem aftN.cells {w0 w : World} {R : List HP} {B : Nat} {text : List UInt8} {lo : Nat} {r : Rp} (h : aftN w0 w R B text lo 65537 r) :
    ∃ k n tat te fin o nd d a : Int, lo ≤ o ∧ o ≤ 65 ∧ 0 ≤ nd ∧ nd ≤ 65537 ∧ UJ text k n tat te fin o nd d a r ∧ (∀ q, r = .inr q → PsB text q ∧ q.opn = lo) ∧ Sat w0 w (blk B 82 [.string ⟨text.toArray⟩, .int .i64 k, .int .i64 n, .int .i64 tat, .int .i64 te, .int .i64 fin, .int .i64 o, .int .i64 nd, .int .i64 d, .int .i64 a] :: R) := by
  rcases r with ⟨d, a⟩ | q
  · obtain ⟨h0, k, n, tat, te, fin, o, nd, h1, h2, h3, h4, h5⟩ := h
    exact ⟨k, n, tat, te, fin, o, nd, d, a, h1, h2, h3, by omega, ⟨by simp, rfl, h0⟩, fun q e => (nomatch e), h5⟩
  · obtain ⟨h1, h2, h3⟩ := h
    have := h1.1; have := h1.2.1
    exact ⟨_, _, _, _, _, q.opn, q.nds, _, _, by omega, by omega, by omega, by omega, ⟨rfl, rfl⟩, fun q' e => (by injection e with e; subst e; exact ⟨h1, h2⟩), h3⟩
theorem xA (B : Nat) (text : List UInt8) (p : Ps) (hp : PsB text p) (w0 w : World) (R : List HP) (hS : Sat w0 w (blk B 82 (alV text p) :: R)) :
    Calls Tryz.prog 166 #[.pointer (some ⟨B, 0, none⟩)] w fun e w' => e = .returned (.tuple #[]) ∧ aftN w0 w' R B text (p.opn + 1) 65536 (Ye p) := by
  obtain ⟨h1, h2, h3⟩ := hp
  unfold alV at hS
  unfold Ye
  by_cases ho : p.opn = 64
  · rw [if_pos ho]
    have FA := fun w R => xe B text (Yk p.tk).1 (Yk p.tk).2.1 p.at_ 0 p.fin 64 p.nds 0 132 w0 w R
    rw [ho] at hS
    have HO := hid ho
    clear ho
    unfold psV at hS FA
    generalize (Yk p.tk).1 = k at *
    generalize (Yk p.tk).2.1 = n at *
    go_enter Tryz.func166, Tryz.ntmps166
    go_wp2_with (first|((with_reducible apply yi hS);exact ya;exact yb rfl;exact yf;rfl;decide +kernel;(try simp only [Act.put,q1,q2,q3]))|((with_reducible apply yx hS);exact ya;exact yb rfl;exact yb rfl;exact yf;rfl;(focus (simp;done));exact Upd.hd;rfl;decide +kernel;clear hS;intro w hS;(try simp only [q2, q3] at hS);(try simp only [Act.put,q1,q2,q3]))|(go_at_call 80;refine (FA _ _ hS).mono ?_;clear hS;rintro e w ⟨rfl, hS⟩))
    go_end0
    exact ⟨rfl, by show (132 : Int) ≠ 0; decide, _, _, _, _, _, (65 : Int), (p.nds : Int), by have := HO.out; omega, by omega, by omega, by omega, hS⟩
  · rw [if_neg ho]
    have ho2 : ((p.opn : Int) == 64) = false := by simp; omega
    unfold psV at hS
    go_enter Tryz.func166, Tryz.ntmps166
    go_wp2_with (first|((with_reducible apply yi hS);exact ya;exact yb rfl;exact yf;rfl;decide +kernel;(try simp only [Act.put,q1,q2,q3]))|((with_reducible apply yx hS);exact ya;exact yb rfl;exact yb rfl;exact yf;rfl;(focus (simp;done));exact Upd.hd;rfl;decide +kernel;clear hS;intro w hS;(try simp only [q2, q3] at hS);(try simp only [Act.put,q1,q2,q3])))
    go_end0
    exact ⟨rfl, ⟨by dsimp only; omega, h2, h3⟩, rfl, hS⟩
theorem uT (B : Nat) (text : List UInt8) (lo : Nat) (r : Rp) (w0 w : World) (R : List HP) (h : aftN w0 w R B text lo 65536 r) :
    Calls Tryz.prog 114 #[.pointer (some ⟨B, 0, none⟩)] w fun e w' => e = .returned (.tuple #[]) ∧ aftN w0 w' R B text lo 65537 (yu r yD) := by
  rcases r with x | q
  · obtain ⟨h0, k, n, tat, te, fin, o, nd, h1, h2, h3, h4, hS⟩ := h
    refine (makesD B text k n tat te fin o nd x.1 x.2 h0 h3 h4 w0 w R hS).mono ?_
    rintro e w' ⟨rfl, hS⟩
    exact ⟨rfl, h0, k, n, tat, te, fin, o, nd + 1, h1, h2, by omega, by omega, hS⟩
  · obtain ⟨h1, h2, hS⟩ := h
    refine (JW B text q h1 w0 w R hS).mono ?_
    rintro e w' ⟨rfl, ha⟩
    refine ⟨rfl, ?_⟩
    rw [h2] at ha
    refine aftN.of_aft ha fun q' hq => ?_
    unfold yu yD at hq
    dsimp only at hq
    split at hq
    · cases hq
    · injection hq with hq; subst hq; exact h2
theorem Xf (B : Nat) (text : List UInt8) (hl : text.length ≤ 1048576) (lo : Nat) (r : Rp) (w0 w : World) (hSig : kZ w0) (R : List HP) (hbm : YT w0 ∈ R) (h : aftN w0 w R B text lo 65537 r) :
    Calls Tryz.prog 37 #[.pointer (some ⟨B, 0, none⟩)] w fun e w' => e = .returned (.tuple #[]) ∧ aftN w0 w' R B text lo 65537 (yu r (yV text)) := by
  rcases r with x | q
  · exact KE B text lo x w0 w R h
  · obtain ⟨h1, h2, hS⟩ := h
    refine (us B text hl q h1 w0 w hSig R hbm hS).mono ?_
    rintro e w' ⟨rfl, ha⟩
    refine ⟨rfl, ?_⟩
    rw [h2] at ha
    refine aftN.of_aft ha fun q' hq => ?_
    have := ji hq
    subst this
    exact h2
theorem gS (B : Nat) (text : List UInt8) (hl : text.length ≤ 1048576) (c : Int) (lo : Nat) (r : Rp) (w0 w : World) (hSig : kZ w0) (R : List HP) (hbm : YT w0 ∈ R) (h : aftN w0 w R B text lo 65537 r) :
    Calls Tryz.prog 39 #[.pointer (some ⟨B, 0, none⟩), .int .i64 c] w fun e w' => e = .returned (.tuple #[]) ∧ aftN w0 w' R B text lo 65537 (yu r (yU text c)) := by
  rcases r with x | q
  · obtain ⟨h0, k, n, tat, te, fin, o, nd, h1, h2, h3, h4, hS⟩ := h
    refine (needD B text k n tat te fin o nd x.1 x.2 c h0 w0 w R hS).mono ?_
    rintro e w' ⟨rfl, hS⟩
    exact ⟨rfl, h0, k, n, tat, te, fin, o, nd, h1, h2, h3, h4, hS⟩
  · obtain ⟨h1, h2, hS⟩ := h
    refine (needC B text hl q h1 w0 w hSig R hbm hS c).mono ?_
    rintro e w' ⟨rfl, ha⟩
    refine ⟨rfl, ?_⟩
    rw [h2] at ha
    refine aftN.of_aft ha fun q' hq => ?_
    unfold yu yU at hq
    dsimp only at hq
    split at hq
    · have := ji hq
      subst this
      exact h2
    · cases hq
def rpR : Rt → Rp
  | .inl x => .inl x
  | .inr (_, q) => .inr q
def jv (text : List UInt8) (tsk : Tsk) : Rp → Rt → Prop
  | .inl x, r => r = .inl x
  | .inr q, r => RD text tsk q r
def treeF (text : List UInt8) (H : Hp) (v : Value) (r : Rp) (r' : Rt) : Prop := ∀ t q, r' = .inr (t, q) → okT t ∧ InT H t v ∧ q.fin ≤ text.length ∧ ∀ q0, r = .inr q0 → meas text q ≤ meas text q0 ∧ q0.nds + size t ≤ q.nds
theorem treeF.ext {text : List UInt8} {H H' : Hp} {v : Value} {r : Rp} {r' : Rt} (h : treeF text H v r r') (hx : Ext H H') : treeF text H' v r r' := fun t q e => ⟨(h t q e).1, (h t q e).2.1.ext hx, (h t q e).2.2⟩
theorem lvX (text : List UInt8) (f b n : Nat) (hA : LvA text f b n) (hD : LvD text f) (B : Nat) (lo : Nat) (r : Rp) (w0 w : World) (hSig : kZ w0) (R : List HP) (H : Hp) (hbm : YT w0 ∈ R) (hm : ∀ q, r = .inr q → meas text q ≤ n) (h : aftN w0 w (fz H :: R) B text lo 65537 r) :
    Calls Tryz.prog f #[.pointer (some ⟨B, 0, none⟩)] w fun e w' => ∃ v, e = .returned v ∧ ∃ r' H', jv text (.lvl b) r r' ∧ Ext H H' ∧ IfV v ∧ treeF text H' v r r' ∧ aftN w0 w' (fz H' :: R) B text lo 65537 (rpR r') := by
  rcases r with x | q
  · refine (kS text f hD B lo x w0 w _ h).mono ?_
    rintro e w' ⟨rfl, h⟩
    exact ⟨_, rfl, .inl x, H, rfl, Ext.refl _, .inl rfl, fun t q e => (nomatch e), h⟩
  · obtain ⟨h1, h2, hS⟩ := h
    refine (hA B q w0 w R H h1 (hm q rfl) hSig hbm hS).mono ?_
    rintro e w' ⟨v, rfl, r', hrd, hok⟩
    rcases r' with x | ⟨t, q'⟩
    · obtain ⟨hv, H', hx, hd⟩ := hok
      rw [h2] at hd
      exact ⟨v, rfl, .inl x, H', hrd, hx, hv, fun t q e => (nomatch e), hd⟩
    · obtain ⟨c1, c2, c3, c4, c5, H', c6, c7, c8⟩ := hok
      refine ⟨v, rfl, .inr (t, q'), H', hrd, c6, .inr c7.form, fun t2 q2 e => ?_, c1, c2.trans h2, c8⟩
      injection e with e
      injection e with e1 e2
      subst e1; subst e2
      refine ⟨c5, c7, c1.2.2.1, fun q0 e => ?_⟩
      injection e with e
      subst e
      exact ⟨c3, c4⟩
theorem XQ (text : List UInt8) : LvD text 162 := by
  intro B k n tat te fin o nd d a w0 w R hd hS
  unfold psV at hS
  have hd2 : (d == 0) = false := by simp [hd]
  have hd3 : (d != 0) = true := by simp [hd]
  go_enter Tryz.func162, Tryz.ntmps162
  go_wp2_with ((with_reducible apply yi hS);exact ya;exact yb rfl;exact yf;rfl;decide +kernel;(try simp only [Act.put,q1,q2,q3]))
  go_ret
  exact ⟨rfl, hS⟩
theorem jQ (text : List UInt8) : LvD text 38 := formulaD text (impD text (orD text (xorD text (andD text (XQ text)))))
theorem UG (text : List UInt8) (hl : text.length ≤ 1048576) (n : Nat) (hA : LvA text 162 6 n) : LvA text 38 1 n := by
  have u := XQ text
  have a := andA text hl n hA u
  have x := xorA text hl n a (andD text u)
  have o := orA text hl n x (xorD text (andD text u))
  have i := impA text hl n o (orD text (xorD text (andD text u)))
  exact formulaA text hl n i (impD text (orD text (xorD text (andD text u))))
end
end Go.Proofs.YthackanffcaejaaGreatDoor
