/- A part of the proof: Form13 Form14. -/
import Derived.Test.YthackanffcaejaaGreatDoorO1
import Derived.Test.YthackanffcaejaaGreatDoorO23
set_option linter.unusedSimpArgs false
set_option linter.unusedVariables false
set_option linter.unusedSectionVars false
namespace Go.Proofs.YthackanffcaejaaGreatDoor
section
set_option maxRecDepth 20000
open Go Go.RowKit Go.SL

theorem mv3 {w0 w : World} {A B C : HP} {R : List HP} (hS : Sat w0 w (A :: B :: C :: R)) : Sat w0 w (B :: C :: A :: R) := (hS.front (Rem.tl (Rem.tl Rem.hd))).front (Rem.tl (Rem.tl Rem.hd))
theorem PgIn.tail {fs : List (Int × Int)} {fr : List Int} {af ar : Option Addr} {AF AR : HP} {R : List HP} (h : PgIn fs fr af ar AF AR R) (A : HP) : PgIn fs fr af ar AF AR (A :: R) := ⟨h.rf, h.rr, .tail _ h.mf, .tail _ h.mr, h.hl, h.hn⟩
theorem XP {w0 w : World} {R : List HP} {A : HP} {p : Nat} {x y : Value} {l : List UInt8} {deep most : Int} {ad : Option Addr} {n cap : Nat} (hn : n = l.length)
    (hS : Sat w0 w (blk p 68 [x, y, .slice ad n cap, .int .i64 deep, .int .i64 most] :: own 5 1 ad n cap (Bs l) :: A :: R)) : Sat w0 w (pg p x y l deep most :: R) :=
  ((yT hn hS).front (Rem.tl Rem.hd)).drop
theorem cnt0 (op side : Int) (a : T) (last : Bool) : 0 ≤ cnt op side a last (look a) := by
  obtain ⟨l1, l2, l3, l4⟩ := YC a
  exact (KC (n := 2 * size a) l1 l2 l3 l4).1
theorem YG {fs : List (Int × Int)} {fr : List Int} {t : T} {s : Nat} {x : Int} {af ar : Option Addr} {AF AR : HP} {R : List HP} {w0 w : World} (hs : Sub fs fr s t) (hb : s + size t ≤ fs.length) (hx : x = ((s + size t - 1 : Nat) : Int))
    (hP : PgIn fs fr af ar AF AR R) (hS : Sat w0 w R) : 0 ≤ x ∧ x < fs.length ∧ ((Fs fs).drop (x.toNat * 2)).take 2 = [.int .i64 (Yg t), .int .i64 (KN t)] ∧ (Fs fs)[x.toNat * 2 + 0]? = some (.int .i64 (Yg t)) ∧ (Fs fs)[x.toNat * 2 + 1]? = some (.int .i64 (KN t)) ∧ (Is fr)[x.toNat]? = some (.int .i64 (s : Int)) ∧ (∃ aa, af = some aa ∧ aa.spot = none) ∧ (∃ aa, ar = some aa ∧ aa.spot = none) := by
  have hsp := kg t
  have hroot := hs.root
  have hxn : x.toNat = s + size t - 1 := by omega
  rw [← hxn] at hroot
  exact ⟨by omega, by omega, Xr hroot.1, (xw hroot.1).1, (xw hroot.1).2, Gb hroot.2, Sat.rdAd2 hP.rf hS hP.mf (by rw [Ke]; omega), Sat.rdAd2 hP.rr hS hP.mr (by rw [Yr, hP.hl]; omega)⟩

set_option maxHeartbeats 4000000 in
theorem treeCst (fs : List (Int × Int)) (fr : List Int) (n : Int) (ht : okT (.cst n)) : Kq fs fr (.cst n) := by
  intro s x last p af ar cf cr AF AR l deep most w0 w R hs hb hx hP d0 d1 d2 hll hS
  obtain ⟨x0, x1, xN, xO, xM, xF, nf, nr⟩ := YG hs hb hx (hP.tail _) hS
  have rf := hP.rf
  have rr := hP.rr
  have mf := hP.mf
  have mr := hP.mr
  have hln := hP.hl
  have hnn := hP.hn
  have HN := hid hx
  have HZ := hid True.intro
  obtain ⟨X, hX⟩ : ∃ X, X = wr (.cst n) last := ⟨_, rfl⟩
  obtain ⟨M, hM⟩ : ∃ M, M = max most (deep + lkd (.cst n) last) := ⟨_, rfl⟩
  rw [← hX, ← hM]
  simp only [Yg, KN] at xN xO xM
  have hM2 : M = most := by rw [hM]; cases last <;> simp only [lkd, look] <;> simp <;> omega
  simp only [size] at hll d2
  rw [ua] at hX
  subst hM2
  have hk : n = 0 ∨ n = 1 := ht
  clear hM ht xO xM xF hx
  rcases hk with rfl | rfl
  all_goals
    have HX := hid hX
    clear hX
    obtain ⟨PA, PC, hS⟩ := yZ hS
    go_enter Tryz.func104, Tryz.ntmps104
    go_wp2_with (first|((with_reducible apply yi hS);(first|with_reducible exact ya|exact yg rfl rfl);exact yb rfl;(repeat (with_reducible first|exact yf|apply ye));rfl;decide +kernel;(try simp only [Act.put,q1,q2,q3]))|((with_reducible apply yA);exact ya;exact yb rfl;exact yb rfl;exact E22;(omega);(omega);(assumption);(rfl);(try simp only [Act.put,q1,q2,q3]))|((with_reducible apply Yo hS);exact ya;exact yb rfl;assumption;(((repeat (with_reducible apply ye)));(try assumption));assumption;rfl;exact sz50;decide +kernel;decide;(try simp only [Act.put,q1,q2,q3]))|((with_reducible apply yl hS);exact ya;exact z50;clear hS;intro NB w hS;(try simp only [Act.put,q1,q2,q3]))|(((with_reducible apply yk hS);exact ya;exact yb rfl;exact yb rfl;exact yf;rfl;(focus (simp;done));exact Upd.hd;rfl;exact sz50;rfl;clear hS;intro w hS;(try simp only [yo, q2, q3] at hS);(try simp only [Act.put,q1,q2,q3]));replace hS := mv3 hS)|(go_at_call 106;refine (Jv p _ _ _ _ _ _ _ _ (yT rfl hS) _ (by simp;omega)).mono ?_;clear hS;rintro e w ⟨rfl, hS⟩;obtain ⟨PA, PC, hS⟩ := yZ hS))
    go_end0
    exact ⟨rfl, by rw [HX.out]; exact XP rfl hS⟩

set_option maxHeartbeats 4000000 in
theorem treeVar (fs : List (Int × Int)) (fr : List Int) (n : Int) (ht : okT (.var n)) : Kq fs fr (.var n) := by
  intro s x last p af ar cf cr AF AR l deep most w0 w R hs hb hx hP d0 d1 d2 hll hS
  obtain ⟨x0, x1, xN, xO, xM, xF, nf, nr⟩ := YG hs hb hx (hP.tail _) hS
  have rf := hP.rf
  have rr := hP.rr
  have mf := hP.mf
  have mr := hP.mr
  have hln := hP.hl
  have hnn := hP.hn
  have HN := hid hx
  have HZ := hid True.intro
  obtain ⟨X, hX⟩ : ∃ X, X = wr (.var n) last := ⟨_, rfl⟩
  obtain ⟨M, hM⟩ : ∃ M, M = max most (deep + lkd (.var n) last) := ⟨_, rfl⟩
  rw [← hX, ← hM]
  simp only [Yg, KN] at xN xO xM
  have hM2 : M = most := by rw [hM]; cases last <;> simp only [lkd, look] <;> simp <;> omega
  simp only [size] at hll d2
  rw [Jh] at hX
  subst hM2
  obtain ⟨h1, h2⟩ := ht
  obtain ⟨k, rfl⟩ := Int.eq_ofNat_of_zero_le h1
  rw [Lib.itoa_nonneg] at hX
  have hil := Lib.itoa_length_le (k : Int) (by omega) (by omega)
  rw [Lib.itoa_nonneg] at hil
  have HX := hid hX
  clear hM xO xM xF hX hx
  obtain ⟨PA, PC, hS⟩ := yZ hS
  go_enter Tryz.func104, Tryz.ntmps104
  go_wp2_with (first|((with_reducible apply yi hS);exact ya;exact yb rfl;(repeat (with_reducible first|exact yf|apply ye));rfl;decide +kernel;(try simp only [Act.put,q1,q2,q3]))|((with_reducible apply yA);exact ya;exact yb rfl;exact yb rfl;exact E22;(omega);(omega);(assumption);(rfl);(try simp only [Act.put,q1,q2,q3]))|((with_reducible apply Yo hS);exact ya;exact yb rfl;assumption;(((repeat (with_reducible apply ye)));(try assumption));assumption;rfl;exact sz50;decide +kernel;decide;(try simp only [Act.put,q1,q2,q3]))|((with_reducible apply yl hS);exact ya;exact z50;clear hS;intro NB w hS;(try simp only [Act.put,q1,q2,q3]))|(((with_reducible apply yk hS);exact ya;exact yb rfl;exact yb rfl;exact yf;rfl;(focus (simp;done));exact Upd.hd;rfl;exact sz50;rfl;clear hS;intro w hS;(try simp only [yo, q2, q3] at hS);(try simp only [Act.put,q1,q2,q3]));replace hS := mv3 hS)|((with_reducible apply kz);exact ya;exact yh;exact yb rfl;(simp only [List.length_append, List.length_cons, List.length_nil];omega);(try simp only [Act.put,q1,q2,q3]))|(go_at_call 123;refine (JD k (by omega) _ _ _ hS).mono ?_;clear hS;rintro e w ⟨rfl, hS⟩)|(go_at_call 106;refine (Jv p _ _ _ _ _ _ _ _ (yT rfl hS) _ (by simp;omega)).mono ?_;clear hS;rintro e w ⟨rfl, hS⟩;obtain ⟨PA, PC, hS⟩ := yZ hS))
  go_end0
  exact ⟨rfl, by rw [HX.out]; exact XP rfl hS⟩

set_option maxHeartbeats 4000000 in
theorem treeNeg (fs : List (Int × Int)) (fr : List Int) (a : T) (ht : okT (.neg a)) (hsz : size (.neg a) ≤ 65536) (ih : Kq fs fr a) : Kq fs fr (.neg a) := by
  intro s x last p af ar cf cr AF AR l deep most w0 w R hs hb hx hP d0 d1 d2 hll hS
  obtain ⟨x0, x1, xN, xO, xM, xF, nf, nr⟩ := YG hs hb hx (hP.tail _) hS
  have rf := hP.rf
  have rr := hP.rr
  have mf := hP.mf
  have mr := hP.mr
  have hln := hP.hl
  have hnn := hP.hn
  have HN := hid hx
  have HZ := hid True.intro
  obtain ⟨X, hX⟩ : ∃ X, X = wr (.neg a) last := ⟨_, rfl⟩
  obtain ⟨M, hM⟩ : ∃ M, M = max most (deep + lkd (.neg a) last) := ⟨_, rfl⟩
  rw [← hX, ← hM]
  simp only [Yg, KN] at xN xO xM
  simp only [size] at hll d2 hb hx hsz
  replace HN := hid hx
  have hsa : Sub fs fr s a := hs.1
  have hpa := kg a
  obtain ⟨y0, y1, yN, yO, yM, yF, _, _⟩ := YG (x := x - 1) hsa (by omega) (by omega) (hP.tail _) hS
  have ka : okT a := ht
  have OP := kX fs fr a ka (by omega) ih s (x - 1) (jT (Yg a)) last _ (brk_neg ka last) p af ar cf cr AF AR
  have TR := gI (Yg a)
  rw [jH] at hX
  rw [lkd_neg] at hM
  have e1 : opB a (YO 3 0 a last) last = opd 3 0 a last := rfl
  have e2 := xo 3 0 a last
  rw [e1] at OP
  rw [e2] at OP
  have hc1 := cnt0 3 0 a last
  have HX := hid hX
  have HM := hid hM
  generalize opd 3 0 a last = O1 at *
  generalize cnt 3 0 a last (look a) = c1 at *
  generalize Yg a = oa at *
  generalize jT oa = b1 at *
  clear hX hM e1 e2 xO xM xF yN yM yF ih hs hx
  obtain ⟨PA, PC, hS⟩ := yZ hS
  go_enter Tryz.func104, Tryz.ntmps104
  go_wp2_with (first|((with_reducible apply yi hS);exact ya;exact yb rfl;(repeat (with_reducible first|exact yf|apply ye));rfl;decide +kernel;(try simp only [Act.put,q1,q2,q3]))|((with_reducible apply yA);exact ya;exact yb rfl;exact yb rfl;exact E22;(omega);(omega);(assumption);(rfl);(try simp only [Act.put,q1,q2,q3]))|((with_reducible apply yE);exact ya;exact yb rfl;(assumption);exact fo50_0;(try simp only [Act.put,q1,q2,q3]))|((with_reducible apply Yl);exact ya;exact yb rfl;(exact Sat.rdCell2 (by assumption) hS (by ((repeat (with_reducible apply ye)));try assumption) (by (assumption)));decide +kernel;(try simp only [Act.put,q1,q2,q3]))|((with_reducible apply Yo hS);exact ya;exact yb rfl;assumption;(((repeat (with_reducible apply ye)));(try assumption));assumption;rfl;exact sz50;decide +kernel;decide;(try simp only [Act.put,q1,q2,q3]))|((with_reducible apply yl hS);exact ya;exact z50;clear hS;intro NB w hS;(try simp only [Act.put,q1,q2,q3]))|(((with_reducible apply yk hS);exact ya;exact yb rfl;exact yb rfl;exact yf;rfl;(focus (simp;done));exact Upd.hd;rfl;exact sz50;rfl;clear hS;intro w hS;(try simp only [yo, q2, q3] at hS);(try simp only [Act.put,q1,q2,q3]));replace hS := mv3 hS)|((with_reducible apply yx hS);exact ya;exact yb rfl;exact yb rfl;exact yf;rfl;(focus (simp;done));exact Upd.hd;rfl;decide +kernel;clear hS;intro w hS;(try simp only [q2, q3] at hS);(try simp only [Act.put,q1,q2,q3]))|(go_at_call 124;refine (TR _ _ _ hS).mono ?_;clear hS;rintro e w ⟨rfl, hS⟩)|(go_at_call 106;refine (Jv p _ _ _ _ _ _ _ _ (yT rfl hS) _ (by simp;omega)).mono ?_;clear hS;rintro e w ⟨rfl, hS⟩;obtain ⟨PA, PC, hS⟩ := yZ hS)|(go_at_call 105;refine (jo p _ _ _ _ _ _ _ _ (yT rfl hS) (by omega) (by omega)).mono ?_;clear hS;rintro e w ⟨rfl, hS⟩;obtain ⟨PA, PC, hS⟩ := yZ hS)|(go_at_call 67;(with_reducible refine (OP _ _ _ _ _ _ hsa (by omega) (by have := HN.out;have := HZ.out;omega) (hP.tail _) (by omega) (by omega) (by omega) (by simp;omega) (yT rfl hS)).mono ?_);clear hS;rintro e w ⟨rfl, hS⟩;obtain ⟨PA, PC, hS⟩ := yZ hS))
  go_end0
  have f1 : l ++ X = l ++ [33] ++ O1 := by rw [HX.out]; simp
  have f2 : M = max (max most (deep + 1)) (deep + 1 + c1) := by rw [HM.out]; omega
  refine ⟨rfl, ?_⟩
  rw [f1, f2]
  exact XP rfl hS

set_option maxHeartbeats 4000000 in
theorem treeBin (fs : List (Int × Int)) (fr : List Int) (op : Int) (a b : T) (ht : okT (.bin op a b)) (hsz : size (.bin op a b) ≤ 65536) (ih1 : Kq fs fr a) (ih2 : Kq fs fr b) : Kq fs fr (.bin op a b) := by
  intro s x last p af ar cf cr AF AR l deep most w0 w R hs hb hx hP d0 d1 d2 hll hS
  obtain ⟨x0, x1, xN, xO, xM, xF, nf, nr⟩ := YG hs hb hx (hP.tail _) hS
  have rf := hP.rf
  have rr := hP.rr
  have mf := hP.mf
  have mr := hP.mr
  have hln := hP.hl
  have hnn := hP.hn
  have HN := hid hx
  have HZ := hid True.intro
  obtain ⟨X, hX⟩ : ∃ X, X = wr (.bin op a b) last := ⟨_, rfl⟩
  obtain ⟨M, hM⟩ : ∃ M, M = max most (deep + lkd (.bin op a b) last) := ⟨_, rfl⟩
  rw [← hX, ← hM]
  simp only [Yg, KN] at xN xO xM
  simp only [size] at hll d2 hb hx hsz
  replace HN := hid hx
  have hsa : Sub fs fr s a := hs.1
  have hsb : Sub fs fr (s + size a) b := hs.2.1
  have hpa := kg a
  have hpb := kg b
  obtain ⟨z, hz⟩ : ∃ z : Int, z = ((s + size a : Nat) : Int) := ⟨_, rfl⟩
  obtain ⟨y0, y1, yN, yO, yM, yF, _, _⟩ := YG (x := x - 1) hsb (by omega) (by omega) (hP.tail _) hS
  rw [← hz] at yF
  obtain ⟨z0, z1, zN, zO, zM, zF, _, _⟩ := YG (x := z - 1) hsa (by omega) (by omega) (hP.tail _) hS
  replace HZ := hid hz
  obtain ⟨o1, o2, ka, kb⟩ := ht
  have OP1 := kX fs fr a ka (by omega) ih1 s (z - 1) (jq op (Yg a)) false _ (brk_first o1 o2 ka) p af ar cf cr AF AR
  have OP2 := kX fs fr b kb (by omega) ih2 (s + size a) (x - 1) (Kw op (Yg b)) last _ (gq o1 o2 kb last) p af ar cf cr AF AR
  have TR := gI op
  have FR := firstR op (Yg a)
  have SR := secondR op (Yg b)
  have GR := signR op o1 o2
  have htw : jT op = true := by simp [jT, o1, o2]
  rw [htw] at TR
  rw [jB] at hX
  rw [lkd_bin] at hM
  have e1 : opB a (YO op 0 a false) false = opd op 0 a false := rfl
  have e2 := xo op 0 a false
  have e3 : opB b (YO op 1 b last) last = opd op 1 b last := rfl
  have e4 := xo op 1 b last
  rw [e1, e2] at OP1
  rw [e3, e4] at OP2
  have hc1 := cnt0 op 0 a false
  have hc2 := cnt0 op 1 b last
  obtain ⟨wa1, wa2, _⟩ := kW a ka (by omega)
  have k1 : (opd op 0 a false).length ≤ 40 * size a + 2 := by unfold opd; split <;> (try simp only [List.length_append, List.length_cons, List.length_nil]) <;> omega
  have k3 : (Yv op).length ≤ 7 := by
    unfold Yv; (repeat' split) <;> (decide)
  have HX := hid hX
  have HM := hid hM
  have g1 : (op == 1) = false := by simp; omega
  have g2 : (op == 2) = false := by simp; omega
  have g3 : (op == 3) = false := by simp; omega
  generalize opd op 0 a false = O1 at *
  generalize opd op 1 b last = O2 at *
  generalize cnt op 0 a false (look a) = c1 at *
  generalize cnt op 1 b last (look b) = c2 at *
  generalize Yv op = S1 at *
  generalize Yg a = oa at *
  generalize Yg b = ob at *
  generalize jq op oa = b1 at *
  generalize Kw op ob = b2 at *
  clear hX hM e1 e2 e3 e4 xO xM xF yN yM zN zM zF ih1 ih2 hs hx hz htw
  obtain ⟨PA, PC, hS⟩ := yZ hS
  go_enter Tryz.func104, Tryz.ntmps104
  go_wp2_with (first|((with_reducible apply Cont.intro);(first|(focus (apply Or.inr;apply (Sat.sb hS);(repeat (first|with_reducible exact Sb.refl|(with_reducible refine Sb.take (by (repeat (with_reducible first|exact Rem.hd|apply Rem.tl));done) ?_)|with_reducible apply Sb.skip));done))|(exact Or.inl (by kernel_rfl)));intro hR hC)|((first|((with_reducible apply yc (i := 0));(simp only [q4,q6,q5];with_reducible rfl);kernel_rfl;kernel_rfl;decide +kernel;rfl;exact hC;exact (fun _ _ _ h => h);exact hR;with_reducible exact ya)|((with_reducible apply yc (i := 1));(simp only [q4,q6,q5];with_reducible rfl);kernel_rfl;kernel_rfl;decide +kernel;rfl;exact hC;exact (fun _ _ _ h => h);exact hR;with_reducible exact ya)|((with_reducible apply yc (i := 4));(simp only [q4,q6,q5];with_reducible rfl);kernel_rfl;kernel_rfl;decide +kernel;rfl;exact hC;exact (fun _ _ _ h => h);exact hR;with_reducible exact ya)|((with_reducible apply yc (i := 5));(simp only [q4,q6,q5];with_reducible rfl);kernel_rfl;kernel_rfl;decide +kernel;rfl;exact hC;exact (fun _ _ _ h => h);exact hR;with_reducible exact ya)|((with_reducible apply yc (i := 8));(simp only [q4,q6,q5];with_reducible rfl);kernel_rfl;kernel_rfl;decide +kernel;rfl;exact hC;exact (fun _ _ _ h => h);exact hR;with_reducible exact ya));(intro w;first|(go_simp;done)|(go_simp;rw [yw (by omega) (by omega)])|(go_simp;with_reducible rfl)|(go_simp;rfl));(clear hR hC;intro hR hC);(try simp only [Act.put,q1,q2,q3]))|((first|((with_reducible apply yc (i := 2));(simp only [q4,q6,q5];with_reducible rfl);kernel_rfl;kernel_rfl;decide +kernel;rfl;exact hC;exact (fun _ _ _ h => h);exact hR;with_reducible exact ya)|((with_reducible apply yc (i := 6));(simp only [q4,q6,q5];with_reducible rfl);kernel_rfl;kernel_rfl;decide +kernel;rfl;exact hC;exact (fun _ _ _ h => h);exact hR;with_reducible exact ya)|((with_reducible apply yc (i := 10));(simp only [q4,q6,q5];with_reducible rfl);kernel_rfl;kernel_rfl;decide +kernel;rfl;exact hC;exact (fun _ _ _ h => h);exact hR;with_reducible exact ya));(intro w;first|(exact yX rfl (by (first|exact yb rfl|exact yh)) (by assumption) (by with_reducible first|exact fo7_0|exact fo50_0))|(go_simp;done)|(go_simp;rw [yw (by omega) (by omega)])|(go_simp;with_reducible rfl)|(go_simp;rfl));(clear hR hC;intro hR hC);(try simp only [Act.put,q1,q2,q3]))|(((with_reducible apply yc (i := 9));(simp only [q4,q6,q5];with_reducible rfl);kernel_rfl;kernel_rfl;decide +kernel;rfl;exact hC;exact (fun _ _ _ h => h);exact hR;with_reducible exact ya);(intro w;first|(with_reducible exact yG E22 rfl (by (first|exact yb rfl|exact yh)) (by (first|exact yb rfl|exact yh)) (by (omega)) (by (omega)) (by (assumption)) (by (rfl)))|(with_reducible exact yG E35 rfl (by (exact yh)) (by (exact yh)) (by (omega)) (by (omega)) (by (assumption)) (by (rfl)))|(with_reducible exact yG E42 rfl (by (exact yh)) (by (exact yh)) (by (omega)) (by (omega)) (by (assumption)) (by (rfl)))|(with_reducible exact yG E59 rfl (by (exact yh)) (by (exact yh)) (by (omega)) (by (omega)) (by (assumption)) (by (rfl)))|(with_reducible exact yG E61 rfl (by (exact yh)) (by (exact yh)) (by (omega)) (by (omega)) (by (assumption)) (by (rfl)))|(with_reducible exact yG E66 rfl (by (exact yh)) (by (exact yh)) (by (omega)) (by (omega)) (by (assumption)) (by (rfl)))|(with_reducible exact yG E88 rfl (by (exact yh)) (by (exact yh)) (by (omega)) (by (omega)) (by (assumption)) (by (rfl)))|(with_reducible exact yG E90 rfl (by (exact yh)) (by (exact yh)) (by (omega)) (by (omega)) (by (assumption)) (by (rfl)))|(with_reducible exact yG E112 rfl (by (exact yh)) (by (exact yh)) (by (omega)) (by (omega)) (by (assumption)) (by (rfl)))|(with_reducible exact yG E116 rfl (by (exact yh)) (by (exact yh)) (by (omega)) (by (omega)) (by (assumption)) (by (rfl)))|(with_reducible exact yG E120 rfl (by (exact yh)) (by (exact yh)) (by (omega)) (by (omega)) (by (assumption)) (by (rfl)))|(with_reducible exact yG E130 rfl (by (exact yh)) (by (exact yh)) (by (omega)) (by (omega)) (by (assumption)) (by (rfl)))|(with_reducible exact yG E174 rfl (by (exact yh)) (by (exact yh)) (by (omega)) (by (omega)) (by (assumption)) (by (rfl)))|(with_reducible exact yG E177 rfl (by (exact yh)) (by (exact yh)) (by (omega)) (by (omega)) (by (assumption)) (by (rfl)))|(with_reducible exact yG E205 rfl (by (exact yh)) (by (exact yh)) (by (omega)) (by (omega)) (by (assumption)) (by (rfl)))|(go_simp;done)|(go_simp;rw [yw (by omega) (by omega)])|(go_simp;with_reducible rfl));(clear hR hC;intro hR hC);(try simp only [Act.put,q1,q2,q3]))|((first|((with_reducible apply yj (i := 3));(simp only [q4,q6,q5];with_reducible rfl);kernel_rfl;kernel_rfl;decide +kernel;kernel_rfl;rfl;exact hC;exact (fun _ _ _ h => h);exact hR;kernel_rfl;with_reducible exact ya)|((with_reducible apply yj (i := 7));(simp only [q4,q6,q5];with_reducible rfl);kernel_rfl;kernel_rfl;decide +kernel;kernel_rfl;rfl;exact hC;exact (fun _ _ _ h => h);exact hR;kernel_rfl;with_reducible exact ya)|((with_reducible apply yj (i := 11));(simp only [q4,q6,q5];with_reducible rfl);kernel_rfl;kernel_rfl;decide +kernel;kernel_rfl;rfl;exact hC;exact (fun _ _ _ h => h);exact hR;kernel_rfl;with_reducible exact ya));(intro w hS;(apply ym rfl (by (first|exact yb rfl|exact yh)));first|exact yd (by decide +kernel) (hS.cell (by (repeat (with_reducible first|exact yf|apply ye))) rfl)|exact yd (by decide +kernel) ((hS.ownCell (by (repeat (with_reducible apply ye))) (by (assumption))).1)|exact yd (by decide +kernel) (Sat.rdCell2 (by assumption) hS (by ((repeat (with_reducible apply ye)));try assumption) (by (assumption)))|exact yd (by decide +kernel) (hS.baseCell (by ((repeat (with_reducible apply ye)));try assumption) (by assumption))|exact yd (by decide +kernel) (fzC (by assumption) hS (by ((repeat (with_reducible apply ye)));try assumption))|exact yp hS (by assumption) (by ((repeat (with_reducible apply ye)));try assumption) (by assumption) (by rfl) (by with_reducible exact sz7) (by decide +kernel) (by decide)|exact hS.loadWhole (by (repeat (with_reducible apply ye))) (by kernel_rfl) (by kernel_rfl));(clear hR hC;intro hR hC);(try simp only [Act.put,q1,q2,q3]))|((with_reducible apply yn (i := 12));(simp only [q4,q6,q5];with_reducible rfl);decide +kernel;exact hC;clear hR hC)|((with_reducible apply yn (i := 13));(simp only [q4,q6,q5];with_reducible rfl);decide +kernel;exact hC;clear hR hC)|((with_reducible apply yq);decide +kernel;clear hR hC)|(refine yz 15 14 hS (by kernel_rfl) [13] rfl ?_;clear hS;intro w hS hR hC)|(((with_reducible apply yc (i := 15));(simp only [q4,q6,q5];with_reducible rfl);kernel_rfl;kernel_rfl;decide +kernel;rfl;exact hC;exact (fun _ _ _ h => h);exact hR;with_reducible exact ya);(intro w;first|(go_simp;done)|(go_simp;rw [yw (by omega) (by omega)])|(go_simp;with_reducible rfl)|(go_simp;rfl));(clear hR hC;intro hR hC);(try simp only [Act.put,q1,q2,q3]))|((first|((with_reducible apply yc (i := 3));(simp only [q4,q6,q5];with_reducible rfl);kernel_rfl;kernel_rfl;decide +kernel;rfl;exact hC;exact (fun _ _ _ h => h);exact hR;with_reducible exact ya)|((with_reducible apply yc (i := 7));(simp only [q4,q6,q5];with_reducible rfl);kernel_rfl;kernel_rfl;decide +kernel;rfl;exact hC;exact (fun _ _ _ h => h);exact hR;with_reducible exact ya));(intro w;first|(exact yX rfl (by (exact yh)) (by assumption) (by with_reducible exact fo7_0))|(go_simp;done)|(go_simp;rw [yw (by omega) (by omega)])|(go_simp;with_reducible rfl)|(go_simp;rfl));(clear hR hC;intro hR hC);(try simp only [Act.put,q1,q2,q3]))|(((with_reducible apply yc (i := 11));(simp only [q4,q6,q5];with_reducible rfl);kernel_rfl;kernel_rfl;decide +kernel;rfl;exact hC;exact (fun _ _ _ h => h);exact hR;with_reducible exact ya);(intro w;first|(with_reducible exact yG E22 rfl (by (exact yb rfl)) (by (exact yb rfl)) (by (omega)) (by (omega)) (by (assumption)) (by (rfl)))|(with_reducible exact yG E35 rfl (by (exact yh)) (by (exact yh)) (by (omega)) (by (omega)) (by (assumption)) (by (rfl)))|(with_reducible exact yG E42 rfl (by (exact yh)) (by (exact yh)) (by (omega)) (by (omega)) (by (assumption)) (by (rfl)))|(with_reducible exact yG E59 rfl (by (exact yh)) (by (exact yh)) (by (omega)) (by (omega)) (by (assumption)) (by (rfl)))|(with_reducible exact yG E61 rfl (by (exact yh)) (by (exact yh)) (by (omega)) (by (omega)) (by (assumption)) (by (rfl)))|(with_reducible exact yG E66 rfl (by (exact yh)) (by (exact yh)) (by (omega)) (by (omega)) (by (assumption)) (by (rfl)))|(with_reducible exact yG E88 rfl (by (exact yh)) (by (exact yh)) (by (omega)) (by (omega)) (by (assumption)) (by (rfl)))|(with_reducible exact yG E90 rfl (by (exact yh)) (by (exact yh)) (by (omega)) (by (omega)) (by (assumption)) (by (rfl)))|(with_reducible exact yG E112 rfl (by (exact yh)) (by (exact yh)) (by (omega)) (by (omega)) (by (assumption)) (by (rfl)))|(with_reducible exact yG E116 rfl (by (exact yh)) (by (exact yh)) (by (omega)) (by (omega)) (by (assumption)) (by (rfl)))|(with_reducible exact yG E120 rfl (by (exact yh)) (by (exact yh)) (by (omega)) (by (omega)) (by (assumption)) (by (rfl)))|(with_reducible exact yG E130 rfl (by (exact yh)) (by (exact yh)) (by (omega)) (by (omega)) (by (assumption)) (by (rfl)))|(with_reducible exact yG E174 rfl (by (exact yh)) (by (exact yh)) (by (omega)) (by (omega)) (by (assumption)) (by (rfl)))|(with_reducible exact yG E177 rfl (by (exact yh)) (by (exact yh)) (by (omega)) (by (omega)) (by (assumption)) (by (rfl)))|(with_reducible exact yG E205 rfl (by (exact yh)) (by (exact yh)) (by (omega)) (by (omega)) (by (assumption)) (by (rfl)))|(go_simp;done)|(go_simp;rw [yw (by omega) (by omega)])|(go_simp;with_reducible rfl));(clear hR hC;intro hR hC);(try simp only [Act.put,q1,q2,q3]))|((first|((with_reducible apply yj (i := 4));(simp only [q4,q6,q5];with_reducible rfl);kernel_rfl;kernel_rfl;decide +kernel;kernel_rfl;rfl;exact hC;exact (fun _ _ _ h => h);exact hR;kernel_rfl;with_reducible exact ya)|((with_reducible apply yj (i := 8));(simp only [q4,q6,q5];with_reducible rfl);kernel_rfl;kernel_rfl;decide +kernel;kernel_rfl;rfl;exact hC;exact (fun _ _ _ h => h);exact hR;kernel_rfl;with_reducible exact ya));(intro w hS;(apply ym rfl (by (exact yb rfl)));first|exact yd (by decide +kernel) (hS.cell (by (repeat (with_reducible first|exact yf|apply ye))) rfl)|exact yd (by decide +kernel) ((hS.ownCell (by (repeat (with_reducible apply ye))) (by (rfl))).1)|exact yd (by decide +kernel) (Sat.rdCell2 (by assumption) hS (by ((repeat (with_reducible apply ye)));try assumption) (by (rfl)))|exact yd (by decide +kernel) (hS.baseCell (by ((repeat (with_reducible apply ye)));try assumption) (by assumption))|exact yd (by decide +kernel) (fzC (by assumption) hS (by ((repeat (with_reducible apply ye)));try assumption))|exact yp hS (by assumption) (by ((repeat (with_reducible apply ye)));try assumption) (by assumption) (by rfl) (by with_reducible exact sz7) (by decide +kernel) (by decide)|exact hS.loadWhole (by (repeat (with_reducible apply ye))) (by kernel_rfl) (by kernel_rfl));(clear hR hC;intro hR hC);(try simp only [Act.put,q1,q2,q3]))|((with_reducible apply yn (i := 14));(simp only [q4,q6,q5];with_reducible rfl);decide +kernel;exact hC;clear hR hC)|((with_reducible apply yn (i := 16));(simp only [q4,q6,q5];with_reducible rfl);decide +kernel;exact hC;clear hR hC)|(refine yz 17 17 hS (by kernel_rfl) [16] rfl ?_;clear hS;intro w hS hR hC)|((with_reducible apply yi hS);exact ya;exact yb rfl;(repeat (with_reducible first|exact yf|apply ye));rfl;decide +kernel;(try simp only [Act.put,q1,q2,q3]))|((with_reducible apply yA);exact ya;exact yb rfl;exact yb rfl;(with_reducible first|exact E22|exact E35);(omega);(omega);(first|exact Sat.rdAd2 (by assumption) hS (by ((repeat (with_reducible apply ye)));try assumption) (by (simp only [Yr, Yt, List.length_take, List.length_drop];omega))|assumption);(first|(simp only [Int.toNat_natCast, Nat.mul_one, Nat.zero_add, Yc, yL, yJ, yP, Yb, yQ, yK];rfl)|rfl);(try simp only [Act.put,q1,q2,q3]))|((with_reducible apply yE);exact ya;exact yb rfl;(assumption);exact fo50_0;(try simp only [Act.put,q1,q2,q3]))|((with_reducible apply Yl);exact ya;exact yb rfl;(exact Sat.rdCell2 (by assumption) hS (by ((repeat (with_reducible apply ye)));try assumption) (by (assumption)));decide +kernel;(try simp only [Act.put,q1,q2,q3]))|((with_reducible apply Yo hS);exact ya;exact yb rfl;assumption;(((repeat (with_reducible apply ye)));(try assumption));assumption;rfl;exact sz50;decide +kernel;decide;(try simp only [Act.put,q1,q2,q3]))|((with_reducible apply yl hS);exact ya;exact z50;clear hS;intro NB w hS;(try simp only [Act.put,q1,q2,q3]))|(((with_reducible apply yk hS);exact ya;exact yb rfl;exact yb rfl;exact yf;rfl;(focus (simp;done));exact Upd.hd;rfl;exact sz50;rfl;clear hS;intro w hS;(try simp only [yo, q2, q3] at hS);(try simp only [Act.put,q1,q2,q3]));replace hS := mv3 hS)|(go_at_call 124;refine (TR _ _ _ hS).mono ?_;clear hS;rintro e w ⟨rfl, hS⟩)|(go_at_call 125;refine (FR _ _ _ hS).mono ?_;clear hS;rintro e w ⟨rfl, hS⟩)|(go_at_call 127;refine (SR _ _ _ hS).mono ?_;clear hS;rintro e w ⟨rfl, hS⟩)|(go_at_call 126;refine (GR _ _ _ hS).mono ?_;clear hS;rintro e w ⟨rfl, hS⟩)|(go_at_call 106;refine (Jv p _ _ _ _ _ _ _ _ (yT rfl hS) _ (by simp;omega)).mono ?_;clear hS;rintro e w ⟨rfl, hS⟩;obtain ⟨PA, PC, hS⟩ := yZ hS)|(go_at_call 67;(first|with_reducible refine (OP1 _ _ _ _ _ _ hsa (by omega) (by have := HN.out;have := HZ.out;omega) (hP.tail _) (by omega) (by omega) (by omega) (by simp;omega) (yT rfl hS)).mono ?_|with_reducible refine (OP2 _ _ _ _ _ _ hsb (by omega) (by have := HN.out;have := HZ.out;omega) (hP.tail _) (by omega) (by omega) (by omega) (by simp;omega) (yT rfl hS)).mono ?_);clear hS;rintro e w ⟨rfl, hS⟩;obtain ⟨PA, PC, hS⟩ := yZ hS))
  go_end0
  have f1 : l ++ X = l ++ O1 ++ S1 ++ O2 := by rw [HX.out]; simp
  have f2 : M = max (max most (deep + c1)) (deep + c2) := by rw [HM.out]; omega
  refine ⟨rfl, ?_⟩
  rw [f1, f2]
  exact XP rfl hS
end
section
set_option maxRecDepth 20000
open Go Go.RowKit Go.SL


set_option maxHeartbeats 4000000 in
theorem treeIte (fs : List (Int × Int)) (fr : List Int) (c a b : T) (ht : okT (.ite c a b)) (hsz : size (.ite c a b) ≤ 65536) (ih0 : Kq fs fr c) (ih1 : Kq fs fr a) (ih2 : Kq fs fr b) : Kq fs fr (.ite c a b) := by
  intro s x last p af ar cf cr AF AR l deep most w0 w R hs hb hx hP d0 d1 d2 hll hS
  obtain ⟨x0, x1, xN, xO, xM, xF, nf, nr⟩ := YG hs hb hx (hP.tail _) hS
  have rf := hP.rf
  have rr := hP.rr
  have mf := hP.mf
  have mr := hP.mr
  have hln := hP.hl
  have hnn := hP.hn
  have HN := hid hx
  have HZ := hid True.intro
  obtain ⟨X, hX⟩ : ∃ X, X = wr (.ite c a b) last := ⟨_, rfl⟩
  obtain ⟨M, hM⟩ : ∃ M, M = max most (deep + lkd (.ite c a b) last) := ⟨_, rfl⟩
  rw [← hX, ← hM]
  simp only [Yg, KN] at xN xO xM
  simp only [size] at hll d2 hb hx hsz
  replace HN := hid hx
  have hsc : Sub fs fr s c := hs.1
  have hsa : Sub fs fr (s + size c) a := hs.2.1
  have hsb : Sub fs fr (s + size c + size a) b := hs.2.2.1
  have hpc := kg c
  have hpa := kg a
  have hpb := kg b
  obtain ⟨z, hz⟩ : ∃ z : Int, z = ((s + size c + size a : Nat) : Int) := ⟨_, rfl⟩
  obtain ⟨u, hu⟩ : ∃ u : Int, u = ((s + size c : Nat) : Int) := ⟨_, rfl⟩
  obtain ⟨y0, y1, yN, yO, yM, yF, _, _⟩ := YG (x := x - 1) hsb (by omega) (by omega) (hP.tail _) hS
  rw [← hz] at yF
  obtain ⟨z0, z1, zN, zO, zM, zF, _, _⟩ := YG (x := z - 1) hsa (by omega) (by omega) (hP.tail _) hS
  rw [← hu] at zF
  obtain ⟨u0, u1, _, _, _, _, _, _⟩ := YG (x := u - 1) hsc (by omega) (by omega) (hP.tail _) hS
  replace HZ := hid (And.intro hz hu)
  obtain ⟨kc, ka, kb⟩ := ht
  have fq : ∀ o : Int, (false || (quP o && !true)) = false := fun o => by cases quP o <;> rfl
  have OP0 := kX fs fr c kc (by omega) ih0 s (u - 1) false true _ (fq _) p af ar cf cr AF AR
  have OP1 := kX fs fr a ka (by omega) ih1 (s + size c) (z - 1) false true _ (fq _) p af ar cf cr AF AR
  have OP2 := kX fs fr b kb (by omega) ih2 (s + size c + size a) (x - 1) false true _ (fq _) p af ar cf cr AF AR
  rw [Jf] at hX
  rw [lkd_ite] at hM
  have e1 : ∀ t : T, opB t false true = wr t true := fun t => rfl
  have e2 : ∀ t : T, lkB t false true = lkd t true := fun t => rfl
  rw [e1, e2] at OP0 OP1 OP2
  have hc0 := (Jk c true).1
  have hc1 := (Jk a true).1
  have hc2 := (Jk b true).1
  obtain ⟨wc1, wc2, _⟩ := kW c kc (by omega)
  obtain ⟨wa1, wa2, _⟩ := kW a ka (by omega)
  obtain ⟨wb1, wb2, _⟩ := kW b kb (by omega)
  have HX := hid hX
  have HM := hid hM
  generalize wr c true = O0 at *
  generalize wr a true = O1 at *
  generalize wr b true = O2 at *
  generalize lkd c true = c0 at *
  generalize lkd a true = c1 at *
  generalize lkd b true = c2 at *
  have TR : ∀ (w0 w : World) (Hs : List HP), Sat w0 w Hs → Calls Tryz.prog 124 #[.int .i64 11] w fun e w' => e = .returned (.bool false) ∧ Sat w0 w' Hs := fun w0 w Hs h => gI 11 w0 w Hs h
  clear hX hM e1 e2 xO xM xF yN yM zN zM ih0 ih1 ih2 hs hx hz hu fq
  obtain ⟨PA, PC, hS⟩ := yZ hS
  go_enter Tryz.func104, Tryz.ntmps104
  go_wp2_with (first|((with_reducible apply yi hS);exact ya;exact yb rfl;(repeat (with_reducible first|exact yf|apply ye));rfl;decide +kernel;(try simp only [Act.put,q1,q2,q3]))|((with_reducible apply yA);exact ya;exact yb rfl;exact yb rfl;(with_reducible first|exact E22|exact E35);(omega);(omega);(first|exact Sat.rdAd2 (by assumption) hS (by ((repeat (with_reducible apply ye)));try assumption) (by (simp only [Yr, Yt, List.length_take, List.length_drop];omega))|assumption);(first|(simp only [Int.toNat_natCast, Nat.mul_one, Nat.zero_add, Yc, yL, yJ, yP, Yb, yQ, yK];rfl)|rfl);(try simp only [Act.put,q1,q2,q3]))|((with_reducible apply Yl);exact ya;exact yb rfl;(exact Sat.rdCell2 (by assumption) hS (by ((repeat (with_reducible apply ye)));try assumption) (by (assumption)));decide +kernel;(try simp only [Act.put,q1,q2,q3]))|((with_reducible apply Yo hS);exact ya;exact yb rfl;assumption;(((repeat (with_reducible apply ye)));(try assumption));assumption;rfl;exact sz50;decide +kernel;decide;(try simp only [Act.put,q1,q2,q3]))|((with_reducible apply yl hS);exact ya;exact z50;clear hS;intro NB w hS;(try simp only [Act.put,q1,q2,q3]))|(((with_reducible apply yk hS);exact ya;exact yb rfl;exact yb rfl;exact yf;rfl;(focus (simp;done));exact Upd.hd;rfl;exact sz50;rfl;clear hS;intro w hS;(try simp only [yo, q2, q3] at hS);(try simp only [Act.put,q1,q2,q3]));replace hS := mv3 hS)|((with_reducible apply yx hS);exact ya;exact yb rfl;exact yb rfl;exact yf;rfl;(focus (simp;done));exact Upd.hd;rfl;decide +kernel;clear hS;intro w hS;(try simp only [q2, q3] at hS);(try simp only [Act.put,q1,q2,q3]))|(go_at_call 124;refine (TR _ _ _ hS).mono ?_;clear hS;rintro e w ⟨rfl, hS⟩)|(go_at_call 106;refine (Jv p _ _ _ _ _ _ _ _ (yT rfl hS) _ (by simp;omega)).mono ?_;clear hS;rintro e w ⟨rfl, hS⟩;obtain ⟨PA, PC, hS⟩ := yZ hS)|(go_at_call 105;refine (jo p _ _ _ _ _ _ _ _ (yT rfl hS) (by omega) (by omega)).mono ?_;clear hS;rintro e w ⟨rfl, hS⟩;obtain ⟨PA, PC, hS⟩ := yZ hS)|(go_at_call 67;(first|with_reducible refine (OP0 _ _ _ _ _ _ hsc (by omega) (by have := HN.out;have := HZ.out;omega) (hP.tail _) (by omega) (by omega) (by omega) (by simp;omega) (yT rfl hS)).mono ?_|with_reducible refine (OP1 _ _ _ _ _ _ hsa (by omega) (by have := HN.out;have := HZ.out;omega) (hP.tail _) (by omega) (by omega) (by omega) (by simp;omega) (yT rfl hS)).mono ?_|with_reducible refine (OP2 _ _ _ _ _ _ hsb (by omega) (by have := HN.out;have := HZ.out;omega) (hP.tail _) (by omega) (by omega) (by omega) (by simp;omega) (yT rfl hS)).mono ?_);clear hS;rintro e w ⟨rfl, hS⟩;obtain ⟨PA, PC, hS⟩ := yZ hS))
  go_end0
  have f1 : l ++ X = l ++ [105, 116, 101, 40] ++ O0 ++ [44, 32] ++ O1 ++ [44, 32] ++ O2 ++ [41] := by rw [HX.out]; simp
  have f2 : M = max (max (max (max most (deep + 1)) (deep + 1 + c0)) (deep + 1 + c1)) (deep + 1 + c2) := by rw [HM.out]; omega
  refine ⟨rfl, ?_⟩
  rw [f1, f2]
  exact XP rfl hS

structure QI (fs : List (Int × Int)) (fr : List Int) (op : Int) (s N : Nat) (L : List UInt8) (deep M m : Int) (c : T) (cur : List UInt8) (k : Nat) (mk y : Int) : Prop where
  hy : y = ((s + size (.qu op m c) - 1 : Nat) : Int)
  hs : Sub fs fr s (.qu op m c)
  ht : okT (.qu op m c)
  hz : size (.qu op m c) ≤ N
  hX : cur ++ ([120] ++ Lib.itoa m ++ kE op c) = L
  hM : max mk (deep + k + (1 + lkd c true)) = M
  hc : cur.length + 50 * size (.qu op m c) ≤ 1000000010
  hd : deep + k + 4 * size (.qu op m c) ≤ 1000000
  h1 : deep + k ≤ mk
theorem QI.next {fs : List (Int × Int)} {fr : List Int} {op : Int} {s N : Nat} {L : List UInt8} {deep M m m' : Int} {c : T} {cur : List UInt8} {k : Nat} {mk y : Int} (h : QI fs fr op s N L deep M m (.qu op m' c) cur k mk y) :
    QI fs fr op s N L deep M m' c (cur ++ ([120] ++ Lib.itoa m) ++ [44, 32]) (k + 1) (max mk (deep + k + 1)) (y - 1) := by
  have h1 := h.hy
  have h2 := h.ht
  have h3 := h.hz
  have h4 := h.hM
  have h5 := h.hc
  have h6 := h.hd
  have h7 := h.h1
  have hl := Lib.itoa_length_le m (by have := h2.2.1; omega) (by have := h2.2.2.1; omega)
  simp only [size] at h1 h3 h5 h6
  rw [lkd_qu] at h4
  have hk := (Jk c true).1
  refine ⟨?_, h.hs.1, h2.2.2.2, ?_, ?_, ?_, ?_, ?_, ?_⟩
  · simp only [size]; omega
  · simp only [size]; omega
  · rw [← h.hX, KF]; simp
  · push_cast; omega
  · simp only [size, List.length_append, List.length_cons, List.length_nil]; omega
  · simp only [size]; push_cast; omega
  · push_cast; omega

set_option maxHeartbeats 4000000 in
theorem quantR (fs : List (Int × Int)) (fr : List Int) (op v : Int) (a : T) (ht : okT (.qu op v a)) (hsz : size (.qu op v a) ≤ 65536) (ih : ∀ u, size u < size (.qu op v a) → okT u → Kq fs fr u) (s : Nat) (x : Int) (p : Nat) (af ar : Option Addr) (cf cr : Nat) (AF AR : HP) (l : List UInt8) (deep most : Int) (w0 w : World) (R : List HP)
    (hs : Sub fs fr s (.qu op v a)) (hb : s + size (.qu op v a) ≤ fs.length) (hx : x = ((s + size (.qu op v a) - 1 : Nat) : Int)) (hP : PgIn fs fr af ar AF AR R) (d0 : 0 ≤ deep) (d1 : deep ≤ most) (d2 : deep + 4 * size (.qu op v a) ≤ 1000000) (hll : l.length + 50 * size (.qu op v a) ≤ 1000000000)
    (hS : Sat w0 w (pg p (.slice af fs.length cf) (.slice ar fs.length cr) l deep most :: R)) :
    Calls Tryz.prog 128 #[.pointer (some ⟨p, 0, none⟩), .int .i64 x] w fun e w' => e = .returned (.tuple #[]) ∧ Sat w0 w' (pg p (.slice af fs.length cf) (.slice ar fs.length cr) (l ++ (Yv op ++ [120] ++ Lib.itoa v ++ kE op a)) deep (max most (deep + (1 + lkd a true))) :: R) := by
  obtain ⟨x0, x1, xN, xO, xM, xF, nf, nr⟩ := YG hs hb hx (hP.tail _) hS
  have rf := hP.rf
  have mf := hP.mf
  have hnn := hP.hn
  simp only [Yg, KN] at xO xM
  obtain ⟨X, hX⟩ : ∃ X, X = Yv op ++ [120] ++ Lib.itoa v ++ kE op a := ⟨_, rfl⟩
  obtain ⟨M, hM⟩ : ∃ M, M = max most (deep + (1 + lkd a true)) := ⟨_, rfl⟩
  rw [← hX, ← hM]
  have HX := hid hX
  have HM := hid hM
  have HN := hid hx
  have HIH := hid ih
  have hop := ht.1
  have k3 : (Yv op).length ≤ 7 := by rcases hop with rfl | rfl <;> decide
  have HT := hid ht
  have HS := hid hs
  have HD := hid d1
  generalize hS1 : Yv op = S1 at *
  have HS1 := hid hS1
  clear hX hM hx ih xN xM xF hs ht hS1 d1
  obtain ⟨PA, PC, hS⟩ := yZ hS
  obtain ⟨P0, Q0, hS1⟩ : ∃ P0 Q0, P0 = PA ∧ Q0 = PC := ⟨_, _, rfl, rfl⟩
  go_enter Tryz.func128, Tryz.ntmps128
  rcases hop with rfl | rfl
  · have HQ : QI fs fr 4 s (size (.qu 4 v a)) (l ++ X) deep M v a (l ++ Yv 4) 0 most x := by
      have hx := HN.out
      have hd := HD.out
      refine ⟨hx, HS.out, HT.out, Nat.le_refl _, ?_, ?_, ?_, ?_, ?_⟩
      · rw [HX.out, HS1.out]; simp
      · rw [HM.out]; simp
      · rw [HS1.out, List.length_append]; omega
      · simpa using d2
      · simpa using hd
    have HQ2 := hid HQ
    have hsp4 : Yv 4 = [101, 120, 105, 115, 116, 115, 32] := rfl
    rw [hsp4] at HQ2
    have HQQ := hid HQ2
    clear HQ HQ2 hsp4
    go_wp2_with (first|((with_reducible apply yi hS);exact ya;exact yb rfl;exact yf;rfl;decide +kernel;(try simp only [Act.put,q1,q2,q3]))|((with_reducible apply yA);exact ya;exact yb rfl;exact yb rfl;exact E22;(omega);(omega);(assumption);(rfl);(try simp only [Act.put,q1,q2,q3]))|((with_reducible apply yE);exact ya;exact yb rfl;(assumption);exact fo50_0;(try simp only [Act.put,q1,q2,q3]))|((with_reducible apply Yl);exact ya;exact yb rfl;(exact Sat.rdCell2 (by assumption) hS (by ((repeat (with_reducible apply ye)));try assumption) (by (assumption)));decide +kernel;(try simp only [Act.put,q1,q2,q3]))|(go_at_call 106;refine (Jv p _ _ _ _ _ _ _ _ (yT rfl hS) _ (by simp;omega)).mono ?_;clear hS;rintro e w ⟨rfl, hS⟩;obtain ⟨PA, PC, hS⟩ := yZ hS))
    go_loopw [1, 5] (fun i n wr => ∃ (m : Int) (c : T) (cur : List UInt8) (k : Nat) (mk y : Int), i = .int .i64 y ∧ n = .int .i64 k ∧ Hid (QI fs fr 4 s (size (.qu 4 v a)) (l ++ X) deep M m c cur k mk y) ∧ Sat w0 wr (pg p (.slice af fs.length cf) (.slice ar fs.length cr) cur (deep + k) mk :: R)) (fun i _ _ => (intOf i).toNat)
    case atStart => exact ⟨v, a, _, 0, most, x, rfl, rfl, HQQ.out, by simpa using yT rfl hS⟩
    case round =>
      clear hS
      obtain ⟨m, c, cur, k, mk, y, rfl, rfl, HQ, hS⟩ := hrel
      have hq := HQ.out
      have hub : s + size (.qu 4 m c) ≤ fs.length := by have := hq.hz; omega
      obtain ⟨y0, y1, _, _, yM, _, _, _⟩ := YG hq.hs hub hq.hy (hP.tail _) hS
      have hsc : Sub fs fr s c := hq.hs.1
      have hkc : okT c := hq.ht.2.2.2
      have hpc := kg c
      have hyy := hq.hy
      have hzz := hq.hz
      have hcc := hq.hc
      have hdd := hq.hd
      have h11 := hq.h1
      simp only [size] at hyy hzz hcc hdd hub
      obtain ⟨v0, v1, _, vO, _, _, _, _⟩ := YG (x := y - 1) hsc (by omega) (by omega) (hP.tail _) hS
      have hm1 := hq.ht.2.1
      have hm2 := hq.ht.2.2.1
      simp only [KN] at yM
      obtain ⟨mn, rfl⟩ := Int.eq_ofNat_of_zero_le hm1
      have hil := Lib.itoa_length_le (mn : Int) (by omega) (by omega)
      rw [Lib.itoa_nonneg] at hil
      have fq : ∀ o : Int, (false || (quP o && !true)) = false := fun o => by cases quP o <;> rfl
      have OP := kX fs fr c hkc (by omega) (HIH.out c (by simp only [size]; omega) hkc) s (y - 1) false true _ (fq _) p af ar cf cr AF AR
      have HYY := hid hyy
      have hyp : 1 ≤ y := by omega
      have hc0 := (Jk c true).1
      by_cases ho : Yg c = 4
      · obtain ⟨m', c', rfl⟩ : ∃ m' c', c = .qu 4 m' c' := by
          cases c with
          | qu o m' c' => simp only [Yg] at ho; subst ho; exact ⟨m', c', rfl⟩
          | bin o a b => simp only [Yg] at ho; have := hkc.1; omega
          | _ => simp [Yg] at ho
        have HNX := hid hq.next
        simp only [Yg] at vO
        clear hq hyy ho OP
        obtain ⟨PA, PC, hS⟩ := yZ hS
        go_wp2_with (first|((with_reducible apply yi hS);exact ya;exact yb rfl;(repeat (with_reducible first|exact yf|apply ye));rfl;decide +kernel;(try simp only [Act.put,q1,q2,q3]))|((with_reducible apply yA);exact ya;exact yb rfl;exact yb rfl;exact E22;(omega);(omega);(assumption);(rfl);(try simp only [Act.put,q1,q2,q3]))|((with_reducible apply yE);exact ya;exact yb rfl;(assumption);(with_reducible first|exact fo50_0|exact fo50_1);(try simp only [Act.put,q1,q2,q3]))|((with_reducible apply Yl);exact ya;exact yb rfl;(exact Sat.rdCell2 (by assumption) hS (by ((repeat (with_reducible apply ye)));try assumption) (by (assumption)));decide +kernel;(try simp only [Act.put,q1,q2,q3]))|((with_reducible apply kz);exact ya;exact yh;exact yb rfl;(simp only [List.length_append, List.length_cons, List.length_nil];omega);(try simp only [Act.put,q1,q2,q3]))|(go_at_call 123;refine (JD mn (by omega) _ _ _ hS).mono ?_;clear hS;rintro e w ⟨rfl, hS⟩)|(go_at_call 106;refine (Jv p _ _ _ _ _ _ _ _ (yT rfl hS) _ (by simp;omega)).mono ?_;clear hS;rintro e w ⟨rfl, hS⟩;obtain ⟨PA, PC, hS⟩ := yZ hS)|(go_at_call 105;refine (jo p _ _ _ _ _ _ _ _ (yT rfl hS) (by omega) (by omega)).mono ?_;clear hS;rintro e w ⟨rfl, hS⟩;obtain ⟨PA, PC, hS⟩ := yZ hS))
        go_roundw
        case rel => exact ⟨m', c', _, k + 1, _, y - 1, by go_num, by go_num, HNX.out, by rw [Lib.itoa_nonneg]; simpa [Int.add_assoc] using yT rfl hS⟩
        case measure => simp [intOf]; omega
      · have hne : (Yg c != 4) = true := by simp [ho]
        have hqf : jw 4 c = false := by
          cases c with
          | qu o m' c' => simp only [Yg] at ho; simp [jw, ho]
          | _ => rfl
        have e1 : opB c false true = Go.Proofs.YthackanffcaejaaGreatDoor.wr c true := rfl
        have e2 : lkB c false true = lkd c true := rfl
        rw [e1, e2] at OP
        have HE1 := hid (show l ++ X = cur ++ ([120] ++ Lib.decDigits mn) ++ [58, 32] ++ Go.Proofs.YthackanffcaejaaGreatDoor.wr c true by rw [← hq.hX, kC hqf, Lib.itoa_nonneg]; simp)
        have HE2 := hid hq.hM
        generalize Yg c = oc at *
        generalize Go.Proofs.YthackanffcaejaaGreatDoor.wr c true = O1 at *
        generalize lkd c true = c1 at *
        clear hq hyy ho hqf e1 e2
        obtain ⟨PA, PC, hS⟩ := yZ hS
        go_wp2_with (first|((with_reducible apply yi hS);exact ya;exact yb rfl;(repeat (with_reducible first|exact yf|apply ye));rfl;decide +kernel;(try simp only [Act.put,q1,q2,q3]))|((with_reducible apply yA);exact ya;exact yb rfl;exact yb rfl;exact E22;(omega);(omega);(assumption);(rfl);(try simp only [Act.put,q1,q2,q3]))|((with_reducible apply yE);exact ya;exact yb rfl;(assumption);(with_reducible first|exact fo50_0|exact fo50_1);(try simp only [Act.put,q1,q2,q3]))|((with_reducible apply Yl);exact ya;exact yb rfl;(exact Sat.rdCell2 (by assumption) hS (by ((repeat (with_reducible apply ye)));try assumption) (by (assumption)));decide +kernel;(try simp only [Act.put,q1,q2,q3]))|((with_reducible apply yx hS);exact ya;exact yb rfl;exact yb rfl;exact yf;rfl;(focus (simp;done));exact Upd.hd;rfl;decide +kernel;clear hS;intro w hS;(try simp only [q2, q3] at hS);(try simp only [Act.put,q1,q2,q3]))|((with_reducible apply kz);exact ya;exact yh;exact yb rfl;(simp only [List.length_append, List.length_cons, List.length_nil];omega);(try simp only [Act.put,q1,q2,q3]))|(go_at_call 123;refine (JD mn (by omega) _ _ _ hS).mono ?_;clear hS;rintro e w ⟨rfl, hS⟩)|(go_at_call 106;refine (Jv p _ _ _ _ _ _ _ _ (yT rfl hS) _ (by simp;omega)).mono ?_;clear hS;rintro e w ⟨rfl, hS⟩;obtain ⟨PA, PC, hS⟩ := yZ hS)|(go_at_call 105;refine (jo p _ _ _ _ _ _ _ _ (yT rfl hS) (by omega) (by omega)).mono ?_;clear hS;rintro e w ⟨rfl, hS⟩;obtain ⟨PA, PC, hS⟩ := yZ hS)|(go_at_call 67;(with_reducible refine (OP _ _ _ _ _ _ hsc (by omega) (by have := HYY.out;omega) hP (by omega) (by omega) (by omega) (by simp;omega) (yT rfl hS)).mono ?_);clear hS;rintro e w ⟨rfl, hS⟩;obtain ⟨PA, PC, hS⟩ := yZ hS))
        go_end0
        rw [show deep + (k : Int) + 1 - ((k : Int) + 1) = deep by omega] at hS
        have f1 : l ++ X = cur ++ 120 :: Lib.decDigits mn ++ [58, 32] ++ O1 := by rw [HE1.out]; simp
        have f2 : M = max (max mk (deep + (k : Int) + 1)) (deep + (k : Int) + 1 + c1) := by rw [← HE2.out]; omega
        refine ⟨rfl, ?_⟩
        rw [f1, f2]
        exact yT rfl hS
  · have HQ : QI fs fr 5 s (size (.qu 5 v a)) (l ++ X) deep M v a (l ++ Yv 5) 0 most x := by
      have hx := HN.out
      have hd := HD.out
      refine ⟨hx, HS.out, HT.out, Nat.le_refl _, ?_, ?_, ?_, ?_, ?_⟩
      · rw [HX.out, HS1.out]; simp
      · rw [HM.out]; simp
      · rw [HS1.out, List.length_append]; omega
      · simpa using d2
      · simpa using hd
    have HQ2 := hid HQ
    have hsp4 : Yv 5 = [102, 111, 114, 97, 108, 108, 32] := rfl
    rw [hsp4] at HQ2
    have HQQ := hid HQ2
    clear HQ HQ2 hsp4
    go_wp2_with (first|((with_reducible apply yi hS);exact ya;exact yb rfl;exact yf;rfl;decide +kernel;(try simp only [Act.put,q1,q2,q3]))|((with_reducible apply yA);exact ya;exact yb rfl;exact yb rfl;exact E22;(omega);(omega);(assumption);(rfl);(try simp only [Act.put,q1,q2,q3]))|((with_reducible apply yE);exact ya;exact yb rfl;(assumption);exact fo50_0;(try simp only [Act.put,q1,q2,q3]))|((with_reducible apply Yl);exact ya;exact yb rfl;(exact Sat.rdCell2 (by assumption) hS (by ((repeat (with_reducible apply ye)));try assumption) (by (assumption)));decide +kernel;(try simp only [Act.put,q1,q2,q3]))|(go_at_call 106;refine (Jv p _ _ _ _ _ _ _ _ (yT rfl hS) _ (by simp;omega)).mono ?_;clear hS;rintro e w ⟨rfl, hS⟩;obtain ⟨PA, PC, hS⟩ := yZ hS))
    go_loopw [1, 5] (fun i n wr => ∃ (m : Int) (c : T) (cur : List UInt8) (k : Nat) (mk y : Int), i = .int .i64 y ∧ n = .int .i64 k ∧ Hid (QI fs fr 5 s (size (.qu 5 v a)) (l ++ X) deep M m c cur k mk y) ∧ Sat w0 wr (pg p (.slice af fs.length cf) (.slice ar fs.length cr) cur (deep + k) mk :: R)) (fun i _ _ => (intOf i).toNat)
    case atStart => exact ⟨v, a, _, 0, most, x, rfl, rfl, HQQ.out, by simpa using yT rfl hS⟩
    case round =>
      clear hS
      obtain ⟨m, c, cur, k, mk, y, rfl, rfl, HQ, hS⟩ := hrel
      have hq := HQ.out
      have hub : s + size (.qu 5 m c) ≤ fs.length := by have := hq.hz; omega
      obtain ⟨y0, y1, _, _, yM, _, _, _⟩ := YG hq.hs hub hq.hy (hP.tail _) hS
      have hsc : Sub fs fr s c := hq.hs.1
      have hkc : okT c := hq.ht.2.2.2
      have hpc := kg c
      have hyy := hq.hy
      have hzz := hq.hz
      have hcc := hq.hc
      have hdd := hq.hd
      have h11 := hq.h1
      simp only [size] at hyy hzz hcc hdd hub
      obtain ⟨v0, v1, _, vO, _, _, _, _⟩ := YG (x := y - 1) hsc (by omega) (by omega) (hP.tail _) hS
      have hm1 := hq.ht.2.1
      have hm2 := hq.ht.2.2.1
      simp only [KN] at yM
      obtain ⟨mn, rfl⟩ := Int.eq_ofNat_of_zero_le hm1
      have hil := Lib.itoa_length_le (mn : Int) (by omega) (by omega)
      rw [Lib.itoa_nonneg] at hil
      have fq : ∀ o : Int, (false || (quP o && !true)) = false := fun o => by cases quP o <;> rfl
      have OP := kX fs fr c hkc (by omega) (HIH.out c (by simp only [size]; omega) hkc) s (y - 1) false true _ (fq _) p af ar cf cr AF AR
      have HYY := hid hyy
      have hyp : 1 ≤ y := by omega
      have hc0 := (Jk c true).1
      by_cases ho : Yg c = 5
      · obtain ⟨m', c', rfl⟩ : ∃ m' c', c = .qu 5 m' c' := by
          cases c with
          | qu o m' c' => simp only [Yg] at ho; subst ho; exact ⟨m', c', rfl⟩
          | bin o a b => simp only [Yg] at ho; have := hkc.1; omega
          | _ => simp [Yg] at ho
        have HNX := hid hq.next
        simp only [Yg] at vO
        clear hq hyy ho OP
        obtain ⟨PA, PC, hS⟩ := yZ hS
        go_wp2_with (first|((with_reducible apply yi hS);exact ya;exact yb rfl;(repeat (with_reducible first|exact yf|apply ye));rfl;decide +kernel;(try simp only [Act.put,q1,q2,q3]))|((with_reducible apply yA);exact ya;exact yb rfl;exact yb rfl;exact E22;(omega);(omega);(assumption);(rfl);(try simp only [Act.put,q1,q2,q3]))|((with_reducible apply yE);exact ya;exact yb rfl;(assumption);(with_reducible first|exact fo50_0|exact fo50_1);(try simp only [Act.put,q1,q2,q3]))|((with_reducible apply Yl);exact ya;exact yb rfl;(exact Sat.rdCell2 (by assumption) hS (by ((repeat (with_reducible apply ye)));try assumption) (by (assumption)));decide +kernel;(try simp only [Act.put,q1,q2,q3]))|((with_reducible apply kz);exact ya;exact yh;exact yb rfl;(simp only [List.length_append, List.length_cons, List.length_nil];omega);(try simp only [Act.put,q1,q2,q3]))|(go_at_call 123;refine (JD mn (by omega) _ _ _ hS).mono ?_;clear hS;rintro e w ⟨rfl, hS⟩)|(go_at_call 106;refine (Jv p _ _ _ _ _ _ _ _ (yT rfl hS) _ (by simp;omega)).mono ?_;clear hS;rintro e w ⟨rfl, hS⟩;obtain ⟨PA, PC, hS⟩ := yZ hS)|(go_at_call 105;refine (jo p _ _ _ _ _ _ _ _ (yT rfl hS) (by omega) (by omega)).mono ?_;clear hS;rintro e w ⟨rfl, hS⟩;obtain ⟨PA, PC, hS⟩ := yZ hS))
        go_roundw
        case rel => exact ⟨m', c', _, k + 1, _, y - 1, by go_num, by go_num, HNX.out, by rw [Lib.itoa_nonneg]; simpa [Int.add_assoc] using yT rfl hS⟩
        case measure => simp [intOf]; omega
      · have hne : (Yg c != 5) = true := by simp [ho]
        have hqf : jw 5 c = false := by
          cases c with
          | qu o m' c' => simp only [Yg] at ho; simp [jw, ho]
          | _ => rfl
        have e1 : opB c false true = Go.Proofs.YthackanffcaejaaGreatDoor.wr c true := rfl
        have e2 : lkB c false true = lkd c true := rfl
        rw [e1, e2] at OP
        have HE1 := hid (show l ++ X = cur ++ ([120] ++ Lib.decDigits mn) ++ [58, 32] ++ Go.Proofs.YthackanffcaejaaGreatDoor.wr c true by rw [← hq.hX, kC hqf, Lib.itoa_nonneg]; simp)
        have HE2 := hid hq.hM
        generalize Yg c = oc at *
        generalize Go.Proofs.YthackanffcaejaaGreatDoor.wr c true = O1 at *
        generalize lkd c true = c1 at *
        clear hq hyy ho hqf e1 e2
        obtain ⟨PA, PC, hS⟩ := yZ hS
        go_wp2_with (first|((with_reducible apply yi hS);exact ya;exact yb rfl;(repeat (with_reducible first|exact yf|apply ye));rfl;decide +kernel;(try simp only [Act.put,q1,q2,q3]))|((with_reducible apply yA);exact ya;exact yb rfl;exact yb rfl;exact E22;(omega);(omega);(assumption);(rfl);(try simp only [Act.put,q1,q2,q3]))|((with_reducible apply yE);exact ya;exact yb rfl;(assumption);(with_reducible first|exact fo50_0|exact fo50_1);(try simp only [Act.put,q1,q2,q3]))|((with_reducible apply Yl);exact ya;exact yb rfl;(exact Sat.rdCell2 (by assumption) hS (by ((repeat (with_reducible apply ye)));try assumption) (by (assumption)));decide +kernel;(try simp only [Act.put,q1,q2,q3]))|((with_reducible apply yx hS);exact ya;exact yb rfl;exact yb rfl;exact yf;rfl;(focus (simp;done));exact Upd.hd;rfl;decide +kernel;clear hS;intro w hS;(try simp only [q2, q3] at hS);(try simp only [Act.put,q1,q2,q3]))|((with_reducible apply kz);exact ya;exact yh;exact yb rfl;(simp only [List.length_append, List.length_cons, List.length_nil];omega);(try simp only [Act.put,q1,q2,q3]))|(go_at_call 123;refine (JD mn (by omega) _ _ _ hS).mono ?_;clear hS;rintro e w ⟨rfl, hS⟩)|(go_at_call 106;refine (Jv p _ _ _ _ _ _ _ _ (yT rfl hS) _ (by simp;omega)).mono ?_;clear hS;rintro e w ⟨rfl, hS⟩;obtain ⟨PA, PC, hS⟩ := yZ hS)|(go_at_call 105;refine (jo p _ _ _ _ _ _ _ _ (yT rfl hS) (by omega) (by omega)).mono ?_;clear hS;rintro e w ⟨rfl, hS⟩;obtain ⟨PA, PC, hS⟩ := yZ hS)|(go_at_call 67;(with_reducible refine (OP _ _ _ _ _ _ hsc (by omega) (by have := HYY.out;omega) hP (by omega) (by omega) (by omega) (by simp;omega) (yT rfl hS)).mono ?_);clear hS;rintro e w ⟨rfl, hS⟩;obtain ⟨PA, PC, hS⟩ := yZ hS))
        go_end0
        rw [show deep + (k : Int) + 1 - ((k : Int) + 1) = deep by omega] at hS
        have f1 : l ++ X = cur ++ 120 :: Lib.decDigits mn ++ [58, 32] ++ O1 := by rw [HE1.out]; simp
        have f2 : M = max (max mk (deep + (k : Int) + 1)) (deep + (k : Int) + 1 + c1) := by rw [← HE2.out]; omega
        refine ⟨rfl, ?_⟩
        rw [f1, f2]
        exact yT rfl hS


set_option maxHeartbeats 4000000 in
theorem treeQu (fs : List (Int × Int)) (fr : List Int) (op v : Int) (a : T) (ht : okT (.qu op v a)) (hsz : size (.qu op v a) ≤ 65536) (ih : ∀ u, size u < size (.qu op v a) → okT u → Kq fs fr u) : Kq fs fr (.qu op v a) := by
  intro s x last p af ar cf cr AF AR l deep most w0 w R hs hb hx hP d0 d1 d2 hll hS
  obtain ⟨x0, x1, xN, xO, xM, xF, nf, nr⟩ := YG hs hb hx (hP.tail _) hS
  have rf := hP.rf
  have rr := hP.rr
  have mf := hP.mf
  have mr := hP.mr
  have hln := hP.hl
  have hnn := hP.hn
  have HN := hid hx
  have HZ := hid True.intro
  obtain ⟨X, hX⟩ : ∃ X, X = wr (.qu op v a) last := ⟨_, rfl⟩
  obtain ⟨M, hM⟩ : ∃ M, M = max most (deep + lkd (.qu op v a) last) := ⟨_, rfl⟩
  rw [← hX, ← hM]
  simp only [Yg, KN] at xN xO xM
  have QR := quantR fs fr op v a ht hsz ih s x p af ar cf cr AF AR l deep most
  rw [uc] at hX
  rw [lkd_qu] at hM
  rw [← hX, ← hM] at QR
  have hop := ht.1
  have HXX := hid hx
  clear hX hM hx ih xO xM xF ht
  rcases hop with rfl | rfl
  all_goals
    have TR4 : ∀ (w0 w : World) (Hs : List HP), Sat w0 w Hs → Calls Tryz.prog 124 #[.int .i64 4] w fun e w' => e = .returned (.bool false) ∧ Sat w0 w' Hs := fun w0 w Hs h => gI 4 w0 w Hs h
    have TR5 : ∀ (w0 w : World) (Hs : List HP), Sat w0 w Hs → Calls Tryz.prog 124 #[.int .i64 5] w fun e w' => e = .returned (.bool false) ∧ Sat w0 w' Hs := fun w0 w Hs h => gI 5 w0 w Hs h
    obtain ⟨PA, PC, hS⟩ := yZ hS
    go_enter Tryz.func104, Tryz.ntmps104
    go_wp2_with (first|((with_reducible apply yi hS);exact ya;exact yb rfl;(repeat (with_reducible first|exact yf|apply ye));rfl;decide +kernel;(try simp only [Act.put,q1,q2,q3]))|((with_reducible apply yA);exact ya;exact yb rfl;exact yb rfl;exact E22;(omega);(omega);(assumption);(rfl);(try simp only [Act.put,q1,q2,q3]))|((with_reducible apply Yo hS);exact ya;exact yb rfl;assumption;(((repeat (with_reducible apply ye)));(try assumption));assumption;rfl;exact sz50;decide +kernel;decide;(try simp only [Act.put,q1,q2,q3]))|((with_reducible apply yl hS);exact ya;exact z50;clear hS;intro NB w hS;(try simp only [Act.put,q1,q2,q3]))|(((with_reducible apply yk hS);exact ya;exact yb rfl;exact yb rfl;exact yf;rfl;(focus (simp;done));exact Upd.hd;rfl;exact sz50;rfl;clear hS;intro w hS;(try simp only [yo, q2, q3] at hS);(try simp only [Act.put,q1,q2,q3]));replace hS := mv3 hS)|(go_at_call 124;(first|with_reducible refine (TR4 _ _ _ hS).mono ?_|with_reducible refine (TR5 _ _ _ hS).mono ?_);clear hS;rintro e w ⟨rfl, hS⟩)|(go_at_call 128;refine (QR _ _ _ hs hb HXX.out (hP.tail _) d0 d1 d2 hll (yT rfl hS)).mono ?_;clear hS;rintro e w ⟨rfl, hS⟩))
    go_end0
    exact ⟨rfl, (hS.front (Rem.tl Rem.hd)).drop⟩

theorem treeAll (fs : List (Int × Int)) (fr : List Int) : ∀ (n : Nat) (t : T), size t = n → okT t → size t ≤ 65536 → Kq fs fr t := by
  intro n
  induction n using Nat.strongRecOn with
  | _ n ih =>
    intro t hn ht hs
    subst hn
    cases t with
    | cst m => exact treeCst fs fr m ht
    | var m => exact treeVar fs fr m ht
    | neg a => exact treeNeg fs fr a ht hs (ih _ (by simp [size]) a rfl ht (by simp [size] at hs; omega))
    | qu op m a => exact treeQu fs fr op m a ht hs fun u hu hk => ih _ hu u rfl hk (by omega)
    | bin op a b => exact treeBin fs fr op a b ht hs (ih _ (by simp [size]; omega) a rfl ht.2.2.1 (by simp [size] at hs; omega)) (ih _ (by simp [size]; omega) b rfl ht.2.2.2 (by simp [size] at hs; omega))
    | ite c a b => exact treeIte fs fr c a b ht hs (ih _ (by simp [size]; omega) c rfl ht.1 (by simp [size] at hs; omega)) (ih _ (by simp [size]; omega) a rfl ht.2.1 (by simp [size] at hs; omega)) (ih _ (by simp [size]; omega) b rfl ht.2.2 (by simp [size] at hs; omega))
end
end Go.Proofs.YthackanffcaejaaGreatDoor
