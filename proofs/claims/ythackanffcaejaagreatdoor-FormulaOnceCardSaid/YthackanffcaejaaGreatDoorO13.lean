/- A part of the proof: Lv10 Rd2 Rd3. -/
import Derived.Test.YthackanffcaejaaGreatDoorO1
import Derived.Test.YthackanffcaejaaGreatDoorO7
import Derived.Test.YthackanffcaejaaGreatDoorO9
import Derived.Test.YthackanffcaejaaGreatDoorO12
set_option linter.unusedSimpArgs false
set_option linter.unusedVariables false
set_option linter.unusedSectionVars false
namespace Go.Proofs.YthackanffcaejaaGreatDoor
section
set_option maxRecDepth 20000
open Go Go.RowKit Go.SL
-- ACT2

theorem YQ : ∀ (a b : List (Int × Int)), Fs (a ++ b) = Fs a ++ Fs b
  | [], b => rfl
  | x :: a, b => by simp [Fs, YQ a b]
def LsM (t : T) : Prop := ∀ (ad : Option Addr) (n cap : Nat) (fs : List (Int × Int)) (v : Value) (H : Hp) (w0 w : World) (R : List HP), Sat w0 w (own 50 2 ad n cap (Fs fs) :: R) → fz H ∈ R → InT H t v → n + size t ≤ 1000000 →
  Calls Tryz.prog 41 #[.slice ad n cap, v] w fun e w' => ∃ ad' cap', e = .returned (.slice ad' (n + size t) cap') ∧ Sat w0 w' (own 50 2 ad' (n + size t) cap' (Fs (fs ++ post t)) :: R)
theorem listC0 (c : Int) : LsM (.cst c) := by
  rintro ad n cap fs v H w0 w R hS hm ⟨b, rfl, hb⟩ hsz
  simp only [size] at hsz
  have c2 : celH H b 2 = some (.int .i64 c) := by simp [celH, hb]
  clear hb
  go_enter Tryz.func41, Tryz.ntmps41
  go_wp2_with (first|((with_reducible apply Yq);exact ya;exact yb rfl;exact Tryz.underlying132;(try simp only [Act.put,q1,q2,q3]))|((with_reducible apply YV hS);exact ya;exact yb rfl;assumption;(((repeat (with_reducible apply ye)));(try assumption));decide +kernel;(try simp only [Act.put,q1,q2,q3]))|((with_reducible apply yI hS);exact ya;exact E22;exact yb rfl;exact yt;rfl;decide;clear hS;intro NB w hS;(try simp only [Act.put,q1,q2,q3]))|((with_reducible apply yW hS);exact ya;exact yb rfl;exact yb rfl;exact E22;(repeat (with_reducible first|exact Rem.hd|apply Rem.tl));(repeat (with_reducible apply Rem.tl));rfl;rfl;(omega);(omega);clear hS;intro AD CAP w hS;(try simp only [Nat.zero_add, List.nil_append] at hS);(try simp only [Act.put,q1,q2,q3])))
  go_ret
  refine ⟨AD, CAP, rfl, ?_⟩
  rw [YQ]
  exact hS
theorem listV0 (c : Int) : LsM (.var c) := by
  rintro ad n cap fs v H w0 w R hS hm ⟨b, rfl, hb⟩ hsz
  simp only [size] at hsz
  have c2 : celH H b 2 = some (.int .i64 c) := by simp [celH, hb]
  clear hb
  go_enter Tryz.func41, Tryz.ntmps41
  go_wp2_with (first|((with_reducible apply Yq);exact ya;exact yb rfl;exact Tryz.underlying137;(try simp only [Act.put,q1,q2,q3]))|((with_reducible apply Yu);exact ya;exact yb rfl;(decide);exact Tryz.underlying132;kernel_rfl;(try simp only [Act.put,q1,q2,q3]))|((with_reducible apply YV hS);exact ya;exact yb rfl;assumption;(((repeat (with_reducible apply ye)));(try assumption));decide +kernel;(try simp only [Act.put,q1,q2,q3]))|((with_reducible apply yI hS);exact ya;exact E22;exact yb rfl;exact yt;rfl;decide;clear hS;intro NB w hS;(try simp only [Act.put,q1,q2,q3]))|((with_reducible apply yW hS);exact ya;exact yb rfl;exact yb rfl;exact E22;(repeat (with_reducible first|exact Rem.hd|apply Rem.tl));(repeat (with_reducible apply Rem.tl));rfl;rfl;(omega);(omega);clear hS;intro AD CAP w hS;(try simp only [Nat.zero_add, List.nil_append] at hS);(try simp only [Act.put,q1,q2,q3])))
  go_ret
  refine ⟨AD, CAP, rfl, ?_⟩
  rw [YQ]
  exact hS
theorem listN (a : T) (ih : LsM a) : LsM (.neg a) := by
  rintro ad n cap fs v H w0 w R hS hm ⟨va, hva, b, rfl, hb⟩ hsz
  simp only [size] at hsz
  have c2 : celH H b 2 = some va := by simp [celH, hb]
  have IH := fun w R hS hm => ih ad n cap fs va H w0 w R hS hm hva (by omega)
  clear hb ih
  go_enter Tryz.func41, Tryz.ntmps41
  go_wp2_with (first|((with_reducible apply Yq);exact ya;exact yb rfl;exact Tryz.underlying151;(try simp only [Act.put,q1,q2,q3]))|((with_reducible apply Yu);exact ya;exact yb rfl;(decide);(with_reducible first|exact Tryz.underlying132|exact Tryz.underlying137);kernel_rfl;(try simp only [Act.put,q1,q2,q3]))|((with_reducible apply YV hS);exact ya;exact yb rfl;assumption;(((repeat (with_reducible apply ye)));(try assumption));decide +kernel;(try simp only [Act.put,q1,q2,q3]))|((with_reducible apply yI hS);exact ya;exact E22;exact yb rfl;exact yt;rfl;decide;clear hS;intro NB w hS;(try simp only [Act.put,q1,q2,q3]))|((with_reducible apply yW hS);exact ya;exact yb rfl;exact yb rfl;exact E22;(repeat (with_reducible first|exact Rem.hd|apply Rem.tl));(repeat (with_reducible apply Rem.tl));rfl;rfl;(omega);(omega);clear hS;intro AD CAP w hS;(try simp only [Nat.zero_add, List.nil_append] at hS);(try simp only [Act.put,q1,q2,q3]))|(go_at_call 41;refine (IH _ _ (hS.front (by (exact Rem.hd))) (by ((repeat (with_reducible apply ye));(try assumption)))).mono ?_;clear hS IH;rintro e w ⟨ad1, cap1, rfl, hS⟩))
  go_ret
  refine ⟨AD, CAP, rfl, ?_⟩
  rw [show fs ++ post (.neg a) = fs ++ post a ++ [(3, 0)] by simp [post], YQ]
  exact hS
set_option maxHeartbeats 2000000 in
theorem listQ (op x : Int) (a : T) (ih : LsM a) : LsM (.qu op x a) := by
  rintro ad n cap fs v H w0 w R hS hm ⟨va, hva, b, rfl, hb⟩ hsz
  simp only [size] at hsz
  have c1 : celH H b 2 = some (.int .i64 op) := by simp [celH, hb]
  have c2 : celH H b 3 = some (.int .i64 x) := by simp [celH, hb]
  have c3 : celH H b 4 = some va := by simp [celH, hb]
  have IH := fun w R hS hm => ih ad n cap fs va H w0 w R hS hm hva (by omega)
  clear hb ih
  go_enter Tryz.func41, Tryz.ntmps41
  go_wp2_with (first|((with_reducible apply Cont.intro);(focus (apply Or.inr;apply (Sat.sb hS);(repeat (with_reducible first|exact Sb.refl|apply Sb.skip));done));intro hR hC)|((first|((with_reducible apply yc (i := 0));(simp only [q4,q6,q5];with_reducible rfl);kernel_rfl;kernel_rfl;decide +kernel;rfl;exact hC;exact (fun _ _ _ h => h);exact hR;with_reducible exact ya)|((with_reducible apply yc (i := 1));(simp only [q4,q6,q5];with_reducible rfl);kernel_rfl;kernel_rfl;decide +kernel;rfl;exact hC;exact (fun _ _ _ h => h);exact hR;with_reducible exact ya)|((with_reducible apply yc (i := 2));(simp only [q4,q6,q5];with_reducible rfl);kernel_rfl;kernel_rfl;decide +kernel;rfl;exact hC;exact (fun _ _ _ h => h);exact hR;with_reducible exact ya)|((with_reducible apply yc (i := 6));(simp only [q4,q6,q5];with_reducible rfl);kernel_rfl;kernel_rfl;decide +kernel;rfl;exact hC;exact (fun _ _ _ h => h);exact hR;with_reducible exact ya)|((with_reducible apply yc (i := 7));(simp only [q4,q6,q5];with_reducible rfl);kernel_rfl;kernel_rfl;decide +kernel;rfl;exact hC;exact (fun _ _ _ h => h);exact hR;with_reducible exact ya)|((with_reducible apply yc (i := 10));(simp only [q4,q6,q5];with_reducible rfl);kernel_rfl;kernel_rfl;decide +kernel;rfl;exact hC;exact (fun _ _ _ h => h);exact hR;with_reducible exact ya)|((with_reducible apply yc (i := 11));(simp only [q4,q6,q5];with_reducible rfl);kernel_rfl;kernel_rfl;decide +kernel;rfl;exact hC;exact (fun _ _ _ h => h);exact hR;with_reducible exact ya)|((with_reducible apply yc (i := 14));(simp only [q4,q6,q5];with_reducible rfl);kernel_rfl;kernel_rfl;decide +kernel;rfl;exact hC;exact (fun _ _ _ h => h);exact hR;with_reducible exact ya)|((with_reducible apply yc (i := 17));(simp only [q4,q6,q5];with_reducible rfl);kernel_rfl;kernel_rfl;decide +kernel;rfl;exact hC;exact (fun _ _ _ h => h);exact hR;with_reducible exact ya));(intro w;first|(go_simp;done)|(go_simp;rw [yw (by omega) (by omega)])|(go_simp;with_reducible rfl)|(go_simp;rfl));(clear hR hC;intro hR hC);(try simp only [Act.put,q1,q2,q3]))|((first|((with_reducible apply yc (i := 3));(simp only [q4,q6,q5];with_reducible rfl);kernel_rfl;kernel_rfl;decide +kernel;rfl;exact hC;exact (fun _ _ _ h => h);exact hR;with_reducible exact ya)|((with_reducible apply yc (i := 8));(simp only [q4,q6,q5];with_reducible rfl);kernel_rfl;kernel_rfl;decide +kernel;rfl;exact hC;exact (fun _ _ _ h => h);exact hR;with_reducible exact ya)|((with_reducible apply yc (i := 12));(simp only [q4,q6,q5];with_reducible rfl);kernel_rfl;kernel_rfl;decide +kernel;rfl;exact hC;exact (fun _ _ _ h => h);exact hR;with_reducible exact ya));(intro w;first|(exact yX rfl (by (exact yh)) (by assumption) (by with_reducible exact fo50_0))|(go_simp;done)|(go_simp;rw [yw (by omega) (by omega)])|(go_simp;with_reducible rfl)|(go_simp;rfl));(clear hR hC;intro hR hC);(try simp only [Act.put,q1,q2,q3]))|((first|((with_reducible apply yj (i := 4));(simp only [q4,q6,q5];with_reducible rfl);kernel_rfl;kernel_rfl;decide +kernel;kernel_rfl;rfl;exact hC;exact (fun _ _ _ h => h);exact hR;kernel_rfl;with_reducible exact ya)|((with_reducible apply yj (i := 9));(simp only [q4,q6,q5];with_reducible rfl);kernel_rfl;kernel_rfl;decide +kernel;kernel_rfl;rfl;exact hC;exact (fun _ _ _ h => h);exact hR;kernel_rfl;with_reducible exact ya)|((with_reducible apply yj (i := 13));(simp only [q4,q6,q5];with_reducible rfl);kernel_rfl;kernel_rfl;decide +kernel;kernel_rfl;rfl;exact hC;exact (fun _ _ _ h => h);exact hR;kernel_rfl;with_reducible exact ya));(intro w hS;(apply ym rfl (by (exact yb rfl)));first|exact yd (by decide +kernel) (hS.cell (by (repeat (with_reducible apply ye))) rfl)|exact yd (by decide +kernel) ((hS.ownCell (by (repeat (with_reducible apply ye))) (by (rfl))).1)|exact yd (by decide +kernel) (Sat.rdCell2 (by assumption) hS (by ((repeat (with_reducible apply ye)));try assumption) (by (rfl)))|exact yd (by decide +kernel) (hS.baseCell (by ((repeat (with_reducible apply ye)));try assumption) (by assumption))|exact yd (by decide +kernel) (fzC (by assumption) hS (by ((repeat (with_reducible apply ye)));try assumption))|exact yp hS (by assumption) (by ((repeat (with_reducible apply ye)));try assumption) (by assumption) (by rfl) (by with_reducible exact sz50) (by decide +kernel) (by decide)|exact hS.loadWhole (by (repeat (with_reducible apply ye))) (by kernel_rfl) (by kernel_rfl));(clear hR hC;intro hR hC);(try simp only [Act.put,q1,q2,q3]))|((with_reducible apply yn (i := 5));(simp only [q4,q6,q5];with_reducible rfl);decide +kernel;exact hC;clear hR hC)|((with_reducible apply yn (i := 15));(simp only [q4,q6,q5];with_reducible rfl);decide +kernel;exact hC;clear hR hC)|((with_reducible apply yn (i := 16));(simp only [q4,q6,q5];with_reducible rfl);decide +kernel;exact hC;clear hR hC)|((with_reducible apply Kz (i := 5) (i2 := 15));(simp only [q4,q6,q5];with_reducible rfl);(simp only [q4,q6,q5];with_reducible rfl);decide +kernel;exact hC;(all_goals (clear hR hC)))|((with_reducible apply yq);decide +kernel;clear hR hC)|(refine KV (own 50 2 ad n cap (Fs fs)) 13 18 hS (by (repeat (with_reducible first|exact Rem.hd|apply Rem.tl));done) (by kernel_rfl) [] rfl ?_;clear hS;intro w hS hR hC)|((with_reducible apply Yq);exact ya;exact yb rfl;exact Tryz.underlying156;(try simp only [Act.put,q1,q2,q3]))|((with_reducible apply Yu);exact ya;exact yb rfl;(decide);(with_reducible first|exact Tryz.underlying132|exact Tryz.underlying137|exact Tryz.underlying151);kernel_rfl;(try simp only [Act.put,q1,q2,q3]))|((with_reducible apply yI hS);exact ya;exact E22;exact yb rfl;exact yt;rfl;decide;clear hS;intro NB w hS;(try simp only [Act.put,q1,q2,q3]))|((with_reducible apply yW hS);exact ya;exact yb rfl;exact yb rfl;exact E22;(repeat (with_reducible first|exact Rem.hd|apply Rem.tl));(repeat (with_reducible apply Rem.tl));rfl;rfl;(omega);(omega);clear hS;intro AD CAP w hS;(try simp only [Nat.zero_add, List.nil_append] at hS);(try simp only [Act.put,q1,q2,q3]))|(go_at_call 41;refine (IH _ _ (hS.front (by (repeat (with_reducible first|exact Rem.hd|apply Rem.tl)))) (by ((repeat (with_reducible apply ye));(try assumption)))).mono ?_;clear hS IH;rintro e w ⟨ad1, cap1, rfl, hS⟩))
  all_goals
    go_ret
    refine ⟨_, _, rfl, ?_⟩
    rw [show fs ++ post (.qu op x a) = fs ++ post a ++ [(op, x)] by simp [post], YQ]
    exact hS
set_option maxHeartbeats 4000000 in
theorem listB (op : Int) (x y : T) (ih1 : LsM x) (ih2 : LsM y) : LsM (.bin op x y) := by
  rintro ad n cap fs v H w0 w R hS hm ⟨va, vb, hva, hvb, b, rfl, hb⟩ hsz
  simp only [size] at hsz
  have c1 : celH H b 2 = some (.int .i64 op) := by simp [celH, hb]
  have c2 : celH H b 3 = some va := by simp [celH, hb]
  have c3 : celH H b 4 = some vb := by simp [celH, hb]
  have I1 := fun w R hS hm => ih1 ad n cap fs va H w0 w R hS hm hva (by omega)
  have I2 := fun ad1 cap1 w R hS hm => ih2 ad1 (n + size x) cap1 (fs ++ post x) vb H w0 w R hS hm hvb (by omega)
  clear hb ih1 ih2
  go_enter Tryz.func41, Tryz.ntmps41
  go_wp2_with (first|((with_reducible apply Cont.intro);(focus (apply Or.inr;apply (Sat.sb hS);(repeat (with_reducible first|exact Sb.refl|apply Sb.skip));done));intro hR hC)|((first|((with_reducible apply yc (i := 0));(simp only [q4,q6,q5];with_reducible rfl);kernel_rfl;kernel_rfl;decide +kernel;rfl;exact hC;exact (fun _ _ _ h => h);exact hR;with_reducible exact ya)|((with_reducible apply yc (i := 1));(simp only [q4,q6,q5];with_reducible rfl);kernel_rfl;kernel_rfl;decide +kernel;rfl;exact hC;exact (fun _ _ _ h => h);exact hR;with_reducible exact ya)|((with_reducible apply yc (i := 2));(simp only [q4,q6,q5];with_reducible rfl);kernel_rfl;kernel_rfl;decide +kernel;rfl;exact hC;exact (fun _ _ _ h => h);exact hR;with_reducible exact ya)|((with_reducible apply yc (i := 6));(simp only [q4,q6,q5];with_reducible rfl);kernel_rfl;kernel_rfl;decide +kernel;rfl;exact hC;exact (fun _ _ _ h => h);exact hR;with_reducible exact ya)|((with_reducible apply yc (i := 7));(simp only [q4,q6,q5];with_reducible rfl);kernel_rfl;kernel_rfl;decide +kernel;rfl;exact hC;exact (fun _ _ _ h => h);exact hR;with_reducible exact ya)|((with_reducible apply yc (i := 11));(simp only [q4,q6,q5];with_reducible rfl);kernel_rfl;kernel_rfl;decide +kernel;rfl;exact hC;exact (fun _ _ _ h => h);exact hR;with_reducible exact ya)|((with_reducible apply yc (i := 12));(simp only [q4,q6,q5];with_reducible rfl);kernel_rfl;kernel_rfl;decide +kernel;rfl;exact hC;exact (fun _ _ _ h => h);exact hR;with_reducible exact ya)|((with_reducible apply yc (i := 15));(simp only [q4,q6,q5];with_reducible rfl);kernel_rfl;kernel_rfl;decide +kernel;rfl;exact hC;exact (fun _ _ _ h => h);exact hR;with_reducible exact ya)|((with_reducible apply yc (i := 18));(simp only [q4,q6,q5];with_reducible rfl);kernel_rfl;kernel_rfl;decide +kernel;rfl;exact hC;exact (fun _ _ _ h => h);exact hR;with_reducible exact ya));(intro w;first|(go_simp;done)|(go_simp;rw [yw (by omega) (by omega)])|(go_simp;with_reducible rfl)|(go_simp;rfl));(clear hR hC;intro hR hC);(try simp only [Act.put,q1,q2,q3]))|((first|((with_reducible apply yc (i := 3));(simp only [q4,q6,q5];with_reducible rfl);kernel_rfl;kernel_rfl;decide +kernel;rfl;exact hC;exact (fun _ _ _ h => h);exact hR;with_reducible exact ya)|((with_reducible apply yc (i := 8));(simp only [q4,q6,q5];with_reducible rfl);kernel_rfl;kernel_rfl;decide +kernel;rfl;exact hC;exact (fun _ _ _ h => h);exact hR;with_reducible exact ya)|((with_reducible apply yc (i := 13));(simp only [q4,q6,q5];with_reducible rfl);kernel_rfl;kernel_rfl;decide +kernel;rfl;exact hC;exact (fun _ _ _ h => h);exact hR;with_reducible exact ya));(intro w;first|(exact yX rfl (by (exact yh)) (by assumption) (by with_reducible exact fo50_0))|(go_simp;done)|(go_simp;rw [yw (by omega) (by omega)])|(go_simp;with_reducible rfl)|(go_simp;rfl));(clear hR hC;intro hR hC);(try simp only [Act.put,q1,q2,q3]))|((first|((with_reducible apply yj (i := 4));(simp only [q4,q6,q5];with_reducible rfl);kernel_rfl;kernel_rfl;decide +kernel;kernel_rfl;rfl;exact hC;exact (fun _ _ _ h => h);exact hR;kernel_rfl;with_reducible exact ya)|((with_reducible apply yj (i := 9));(simp only [q4,q6,q5];with_reducible rfl);kernel_rfl;kernel_rfl;decide +kernel;kernel_rfl;rfl;exact hC;exact (fun _ _ _ h => h);exact hR;kernel_rfl;with_reducible exact ya)|((with_reducible apply yj (i := 14));(simp only [q4,q6,q5];with_reducible rfl);kernel_rfl;kernel_rfl;decide +kernel;kernel_rfl;rfl;exact hC;exact (fun _ _ _ h => h);exact hR;kernel_rfl;with_reducible exact ya));(intro w hS;(apply ym rfl (by (exact yb rfl)));first|exact yd (by decide +kernel) (hS.cell (by (repeat (with_reducible apply ye))) rfl)|exact yd (by decide +kernel) ((hS.ownCell (by (repeat (with_reducible apply ye))) (by (rfl))).1)|exact yd (by decide +kernel) (Sat.rdCell2 (by assumption) hS (by ((repeat (with_reducible apply ye)));try assumption) (by (rfl)))|exact yd (by decide +kernel) (hS.baseCell (by ((repeat (with_reducible apply ye)));try assumption) (by assumption))|exact yd (by decide +kernel) (fzC (by assumption) hS (by ((repeat (with_reducible apply ye)));try assumption))|exact yp hS (by assumption) (by ((repeat (with_reducible apply ye)));try assumption) (by assumption) (by rfl) (by with_reducible exact sz50) (by decide +kernel) (by decide)|exact hS.loadWhole (by (repeat (with_reducible apply ye))) (by kernel_rfl) (by kernel_rfl));(clear hR hC;intro hR hC);(try simp only [Act.put,q1,q2,q3]))|((with_reducible apply yn (i := 5));(simp only [q4,q6,q5];with_reducible rfl);decide +kernel;exact hC;clear hR hC)|((with_reducible apply yn (i := 10));(simp only [q4,q6,q5];with_reducible rfl);decide +kernel;exact hC;clear hR hC)|((with_reducible apply yn (i := 16));(simp only [q4,q6,q5];with_reducible rfl);decide +kernel;exact hC;clear hR hC)|((with_reducible apply yn (i := 17));(simp only [q4,q6,q5];with_reducible rfl);decide +kernel;exact hC;clear hR hC)|((with_reducible apply Kz (i := 5) (i2 := 16));(simp only [q4,q6,q5];with_reducible rfl);(simp only [q4,q6,q5];with_reducible rfl);decide +kernel;exact hC;(all_goals (clear hR hC)))|((with_reducible apply Kz (i := 10) (i2 := 16));(simp only [q4,q6,q5];with_reducible rfl);(simp only [q4,q6,q5];with_reducible rfl);decide +kernel;exact hC;(all_goals (clear hR hC)))|((with_reducible apply yq);decide +kernel;clear hR hC)|(refine KV (own 50 2 ad n cap (Fs fs)) 16 19 hS (by (repeat (with_reducible first|exact Rem.hd|apply Rem.tl));done) (by kernel_rfl) [] rfl ?_;clear hS;intro w hS hR hC)|((with_reducible apply Yq);exact ya;exact yb rfl;exact Tryz.underlying160;(try simp only [Act.put,q1,q2,q3]))|((with_reducible apply Yu);exact ya;exact yb rfl;(decide);(with_reducible first|exact Tryz.underlying132|exact Tryz.underlying137|exact Tryz.underlying151|exact Tryz.underlying156);kernel_rfl;(try simp only [Act.put,q1,q2,q3]))|((with_reducible apply yI hS);exact ya;exact E22;exact yb rfl;exact yt;rfl;decide;clear hS;intro NB w hS;(try simp only [Act.put,q1,q2,q3]))|((with_reducible apply yW hS);exact ya;exact yb rfl;exact yb rfl;exact E22;(repeat (with_reducible first|exact Rem.hd|apply Rem.tl));(repeat (with_reducible apply Rem.tl));rfl;rfl;(omega);(omega);clear hS;intro AD CAP w hS;(try simp only [Nat.zero_add, List.nil_append] at hS);(try simp only [Act.put,q1,q2,q3]))|((go_at_call 41);(first|(refine (I1 _ _ (hS.front (by (repeat (with_reducible first|exact Rem.hd|apply Rem.tl)))) (by ((repeat (with_reducible apply ye));(try assumption)))).mono ?_;clear hS I1;rintro e w ⟨ad1, cap1, rfl, hS⟩)|(refine (I2 _ _ _ _ (hS.front (by (repeat (with_reducible first|exact Rem.hd|apply Rem.tl)))) (by ((repeat (with_reducible apply ye));(try assumption)))).mono ?_;clear hS I2;rintro e w ⟨ad2, cap2, rfl, hS⟩))))
  all_goals
    go_ret
    have e : n + size x + size y + 1 = n + size (.bin op x y) := by simp only [size]; omega
    rw [← e]
    refine ⟨_, _, rfl, ?_⟩
    rw [show fs ++ post (.bin op x y) = fs ++ post x ++ post y ++ [(op, 0)] by simp [post], YQ]
    exact hS
set_option maxHeartbeats 4000000 in
theorem listI (x y z : T) (ih1 : LsM x) (ih2 : LsM y) (ih3 : LsM z) : LsM (.ite x y z) := by
  rintro ad n cap fs v H w0 w R hS hm ⟨va, vb, vc, hva, hvb, hvc, b, rfl, hb⟩ hsz
  simp only [size] at hsz
  have c1 : celH H b 2 = some va := by simp [celH, hb]
  have c2 : celH H b 3 = some vb := by simp [celH, hb]
  have c3 : celH H b 4 = some vc := by simp [celH, hb]
  have I1 := fun w R hS hm => ih1 ad n cap fs va H w0 w R hS hm hva (by omega)
  have I2 := fun ad1 cap1 w R hS hm => ih2 ad1 (n + size x) cap1 (fs ++ post x) vb H w0 w R hS hm hvb (by omega)
  have I3 := fun ad1 cap1 w R hS hm => ih3 ad1 (n + size x + size y) cap1 (fs ++ post x ++ post y) vc H w0 w R hS hm hvc (by omega)
  clear hb ih1 ih2 ih3
  go_enter Tryz.func41, Tryz.ntmps41
  go_wp2_with (first|((with_reducible apply Cont.intro);(focus (apply Or.inr;apply (Sat.sb hS);(repeat (with_reducible first|exact Sb.refl|apply Sb.skip));done));intro hR hC)|((first|((with_reducible apply yc (i := 0));(simp only [q4,q6,q5];with_reducible rfl);kernel_rfl;kernel_rfl;decide +kernel;rfl;exact hC;exact (fun _ _ _ h => h);exact hR;with_reducible exact ya)|((with_reducible apply yc (i := 1));(simp only [q4,q6,q5];with_reducible rfl);kernel_rfl;kernel_rfl;decide +kernel;rfl;exact hC;exact (fun _ _ _ h => h);exact hR;with_reducible exact ya)|((with_reducible apply yc (i := 2));(simp only [q4,q6,q5];with_reducible rfl);kernel_rfl;kernel_rfl;decide +kernel;rfl;exact hC;exact (fun _ _ _ h => h);exact hR;with_reducible exact ya)|((with_reducible apply yc (i := 6));(simp only [q4,q6,q5];with_reducible rfl);kernel_rfl;kernel_rfl;decide +kernel;rfl;exact hC;exact (fun _ _ _ h => h);exact hR;with_reducible exact ya)|((with_reducible apply yc (i := 7));(simp only [q4,q6,q5];with_reducible rfl);kernel_rfl;kernel_rfl;decide +kernel;rfl;exact hC;exact (fun _ _ _ h => h);exact hR;with_reducible exact ya)|((with_reducible apply yc (i := 11));(simp only [q4,q6,q5];with_reducible rfl);kernel_rfl;kernel_rfl;decide +kernel;rfl;exact hC;exact (fun _ _ _ h => h);exact hR;with_reducible exact ya)|((with_reducible apply yc (i := 12));(simp only [q4,q6,q5];with_reducible rfl);kernel_rfl;kernel_rfl;decide +kernel;rfl;exact hC;exact (fun _ _ _ h => h);exact hR;with_reducible exact ya)|((with_reducible apply yc (i := 16));(simp only [q4,q6,q5];with_reducible rfl);kernel_rfl;kernel_rfl;decide +kernel;rfl;exact hC;exact (fun _ _ _ h => h);exact hR;with_reducible exact ya)|((with_reducible apply yc (i := 19));(simp only [q4,q6,q5];with_reducible rfl);kernel_rfl;kernel_rfl;decide +kernel;rfl;exact hC;exact (fun _ _ _ h => h);exact hR;with_reducible exact ya));(intro w;first|(go_simp;done)|(go_simp;rw [yw (by omega) (by omega)])|(go_simp;with_reducible rfl)|(go_simp;rfl));(clear hR hC;intro hR hC);(try simp only [Act.put,q1,q2,q3]))|((first|((with_reducible apply yc (i := 3));(simp only [q4,q6,q5];with_reducible rfl);kernel_rfl;kernel_rfl;decide +kernel;rfl;exact hC;exact (fun _ _ _ h => h);exact hR;with_reducible exact ya)|((with_reducible apply yc (i := 8));(simp only [q4,q6,q5];with_reducible rfl);kernel_rfl;kernel_rfl;decide +kernel;rfl;exact hC;exact (fun _ _ _ h => h);exact hR;with_reducible exact ya)|((with_reducible apply yc (i := 13));(simp only [q4,q6,q5];with_reducible rfl);kernel_rfl;kernel_rfl;decide +kernel;rfl;exact hC;exact (fun _ _ _ h => h);exact hR;with_reducible exact ya));(intro w;first|(exact yX rfl (by (exact yh)) (by assumption) (by with_reducible exact fo50_0))|(go_simp;done)|(go_simp;rw [yw (by omega) (by omega)])|(go_simp;with_reducible rfl)|(go_simp;rfl));(clear hR hC;intro hR hC);(try simp only [Act.put,q1,q2,q3]))|((first|((with_reducible apply yj (i := 4));(simp only [q4,q6,q5];with_reducible rfl);kernel_rfl;kernel_rfl;decide +kernel;kernel_rfl;rfl;exact hC;exact (fun _ _ _ h => h);exact hR;kernel_rfl;with_reducible exact ya)|((with_reducible apply yj (i := 9));(simp only [q4,q6,q5];with_reducible rfl);kernel_rfl;kernel_rfl;decide +kernel;kernel_rfl;rfl;exact hC;exact (fun _ _ _ h => h);exact hR;kernel_rfl;with_reducible exact ya)|((with_reducible apply yj (i := 14));(simp only [q4,q6,q5];with_reducible rfl);kernel_rfl;kernel_rfl;decide +kernel;kernel_rfl;rfl;exact hC;exact (fun _ _ _ h => h);exact hR;kernel_rfl;with_reducible exact ya));(intro w hS;(apply ym rfl (by (exact yb rfl)));first|exact yd (by decide +kernel) (hS.cell (by (repeat (with_reducible apply ye))) rfl)|exact yd (by decide +kernel) ((hS.ownCell (by (repeat (with_reducible apply ye))) (by (rfl))).1)|exact yd (by decide +kernel) (Sat.rdCell2 (by assumption) hS (by ((repeat (with_reducible apply ye)));try assumption) (by (rfl)))|exact yd (by decide +kernel) (hS.baseCell (by ((repeat (with_reducible apply ye)));try assumption) (by assumption))|exact yd (by decide +kernel) (fzC (by assumption) hS (by ((repeat (with_reducible apply ye)));try assumption))|exact yp hS (by assumption) (by ((repeat (with_reducible apply ye)));try assumption) (by assumption) (by rfl) (by with_reducible exact sz50) (by decide +kernel) (by decide)|exact hS.loadWhole (by (repeat (with_reducible apply ye))) (by kernel_rfl) (by kernel_rfl));(clear hR hC;intro hR hC);(try simp only [Act.put,q1,q2,q3]))|((with_reducible apply yn (i := 5));(simp only [q4,q6,q5];with_reducible rfl);decide +kernel;exact hC;clear hR hC)|((with_reducible apply yn (i := 10));(simp only [q4,q6,q5];with_reducible rfl);decide +kernel;exact hC;clear hR hC)|((with_reducible apply yn (i := 15));(simp only [q4,q6,q5];with_reducible rfl);decide +kernel;exact hC;clear hR hC)|((with_reducible apply yn (i := 17));(simp only [q4,q6,q5];with_reducible rfl);decide +kernel;exact hC;clear hR hC)|((with_reducible apply yn (i := 18));(simp only [q4,q6,q5];with_reducible rfl);decide +kernel;exact hC;clear hR hC)|((with_reducible apply Kz (i := 5) (i2 := 17));(simp only [q4,q6,q5];with_reducible rfl);(simp only [q4,q6,q5];with_reducible rfl);decide +kernel;exact hC;(all_goals (clear hR hC)))|((with_reducible apply Kz (i := 10) (i2 := 17));(simp only [q4,q6,q5];with_reducible rfl);(simp only [q4,q6,q5];with_reducible rfl);decide +kernel;exact hC;(all_goals (clear hR hC)))|((with_reducible apply Kz (i := 15) (i2 := 17));(simp only [q4,q6,q5];with_reducible rfl);(simp only [q4,q6,q5];with_reducible rfl);decide +kernel;exact hC;(all_goals (clear hR hC)))|((with_reducible apply yq);decide +kernel;clear hR hC)|(refine KV (own 50 2 ad n cap (Fs fs)) 19 20 hS (by (repeat (with_reducible first|exact Rem.hd|apply Rem.tl));done) (by kernel_rfl) [] rfl ?_;clear hS;intro w hS hR hC)|((with_reducible apply Yq);exact ya;exact yb rfl;exact Tryz.underlying163;(try simp only [Act.put,q1,q2,q3]))|((with_reducible apply Yu);exact ya;exact yb rfl;(decide);(with_reducible first|exact Tryz.underlying132|exact Tryz.underlying137|exact Tryz.underlying151|exact Tryz.underlying156|exact Tryz.underlying160);kernel_rfl;(try simp only [Act.put,q1,q2,q3]))|((with_reducible apply yI hS);exact ya;exact E22;exact yb rfl;exact yt;rfl;decide;clear hS;intro NB w hS;(try simp only [Act.put,q1,q2,q3]))|((with_reducible apply yW hS);exact ya;exact yb rfl;exact yb rfl;exact E22;(repeat (with_reducible first|exact Rem.hd|apply Rem.tl));(repeat (with_reducible apply Rem.tl));rfl;rfl;(omega);(omega);clear hS;intro AD CAP w hS;(try simp only [Nat.zero_add, List.nil_append] at hS);(try simp only [Act.put,q1,q2,q3]))|((go_at_call 41);(first|(refine (I1 _ _ (hS.front (by (repeat (with_reducible first|exact Rem.hd|apply Rem.tl)))) (by ((repeat (with_reducible apply ye));(try assumption)))).mono ?_;clear hS I1;rintro e w ⟨ad1, cap1, rfl, hS⟩)|(refine (I2 _ _ _ _ (hS.front (by (repeat (with_reducible first|exact Rem.hd|apply Rem.tl)))) (by ((repeat (with_reducible apply ye));(try assumption)))).mono ?_;clear hS I2;rintro e w ⟨ad2, cap2, rfl, hS⟩)|(refine (I3 _ _ _ _ (hS.front (by (repeat (with_reducible first|exact Rem.hd|apply Rem.tl)))) (by ((repeat (with_reducible apply ye));(try assumption)))).mono ?_;clear hS I3;rintro e w ⟨ad3, cap3, rfl, hS⟩))))
  all_goals
    go_ret
    have e : n + size x + size y + size z + 1 = n + size (.ite x y z) := by simp only [size]; omega
    rw [← e]
    refine ⟨_, _, rfl, ?_⟩
    rw [show fs ++ post (.ite x y z) = fs ++ post x ++ post y ++ post z ++ [(11, 0)] by simp [post], YQ]
    exact hS
theorem uh : ∀ t : T, LsM t
  | .cst c => listC0 c
  | .var c => listV0 c
  | .neg a => listN a (uh a)
  | .qu op x a => listQ op x a (uh a)
  | .bin op x y => listB op x y (uh x) (uh y)
  | .ite x y z => listI x y z (uh x) (uh y) (uh z)
end
section
open Go Go.RowKit Go.SL Go.ClauseP Go.LexP

theorem pieceT_le (l : List UInt8) : (Yj l).2 ≤ l.length := by
  unfold Yj
  split
  · simp
  · rename_i c cs
    split
    · exact (List.takeWhile_sublist _).length_le
    · split
      · exact (List.takeWhile_sublist _).length_le
      · split
        · rename_i s hs
          have h := List.find?_some hs
          exact (List.isPrefixOf_iff_prefix.1 h).length_le
        · simp
theorem Jp (text : List UInt8) (k : Nat) (hk : k ≤ text.length) : (yS text k).fin ≤ text.length := by
  have h1 := jb text k hk
  unfold yS
  split
  · exact Nat.le_refl _
  · dsimp only
    have h2 := pieceT_le (text.drop (Yh text k))
    rw [List.length_drop] at h2
    omega
theorem advL {text : List UInt8} {p : Ps} {e : Int × Nat} (h : yV text p = .inl e) : ∃ c, (yS text p.fin).tk = .bad c ∧ e = (c, (yS text p.fin).at_) := by
  unfold yV at h
  split at h
  · rename_i c hc
    exact ⟨c, hc, by injection h with h; exact h.symm⟩
  · cases h
theorem uv {text : List UInt8} {p q : Ps} (h : yV text p = .inr q) : KK q = yS text p.fin ∧ q.opn = p.opn ∧ q.nds = p.nds ∧ ∀ e, q.tk ≠ .bad e := by
  unfold yV at h
  split at h
  · cases h
  · rename_i hne
    injection h with h
    subst h
    exact ⟨rfl, rfl, rfl, hne⟩
theorem jK {text : List UInt8} {p : Ps} {e : Int × Nat} (h : yV text p = .inl e) (m : MS) (w q : Int) : MRun text m w q (yS text p.fin) (.inl e) := by
  obtain ⟨c, hc, rfl⟩ := advL h
  exact .err (by rw [hc]; rfl)
theorem KS {text : List UInt8} {p q : Ps} (hf : p.fin ≤ text.length) (ho : p.opn ≤ 64) (hn : p.nds ≤ 65536) (h : yV text p = .inr q) : Ok text q := by
  obtain ⟨h1, h2, h3, h4⟩ := uv h
  have e1 : q.tk = (yS text p.fin).tk := congrArg TokR.tk h1
  have e2 : q.fin = (yS text p.fin).fin := congrArg TokR.fin h1
  refine ⟨?_, by omega, by omega, by rw [e2]; exact Jp text p.fin hf, fun hk => ?_⟩
  · rcases JB text p.fin with h | ⟨e, h⟩
    · rw [e1]; exact h
    · exact (h4 e (e1.trans h)).elim
  · rw [e2]
    exact nextT_fin text p.fin hf (e1 ▸ hk)
theorem xy {t : Tk} (h : YU t) : (Yk t).1 = 9 ↔ t = .opn := by cases t <;> simp [Yk, YU] at * <;> omega
theorem uw {t : Tk} (h : YU t) : (Yk t).1 = 10 ↔ t = .cls := by cases t <;> simp [Yk, YU] at * <;> omega
theorem xh {t : Tk} (h : YU t) : (Yk t).1 = 11 ↔ t = .comma := by cases t <;> simp [Yk, YU] at * <;> omega
theorem xa {t : Tk} (h : YU t) : (Yk t).1 = 12 ↔ t = .colon := by cases t <;> simp [Yk, YU] at * <;> omega
theorem gW {t : Tk} (h : YU t) : (Yk t).1 = 0 ↔ t = .fin := by cases t <;> simp [Yk, YU] at * <;> omega
theorem XW {t : Tk} (h : YU t) {b : Nat} (hb : b = 1 ∨ b = 3 ∨ b = 4 ∨ b = 5) : (Yk t).1 = kOf b ↔ t = .op (oOf b) := by
  rcases hb with rfl | rfl | rfl | rfl <;> cases t <;> simp [Yk, YU, kOf, oOf] at * <;> omega
theorem xi {t : Tk} (h : YU t) : (Yk t).1 = 7 ↔ t = .op 9 := by cases t <;> simp [Yk, YU] at * <;> omega

/-! ### One step -/
theorem xB {text : List UInt8} {m m' : MS} {w q w' q' : Int} {p p' : Ps} {r : Ans} (hs : yB m w q p.tk = .go m' w' q') (ht : KK p' = yS text p.fin) (h : MRun text m' w' q' (KK p') r) : MRun text m w q (KK p) r :=
  .go hs (by rw [ht] at h; exact h)
theorem KO {text : List UInt8} {m : MS} {w q : Int} {p : Ps} {e : Int} (hs : yB m w q p.tk = .err e) : MRun text m w q (KK p) (.inl (e, p.at_)) := .err (t := KK p) hs
def jU (text : List UInt8) (m : MS) (w q : Int) (p : Ps) (m' : Ps → MS) (w' q' : Int) (dn : Nat) (dk : Nat) : Rp → Prop
  | .inl e => MRun text m w q (KK p) (.inl e)
  | .inr p' => Ok text p' ∧ p'.opn = p.opn + dn ∧ p'.nds = p.nds + dk ∧ ∀ r, MRun text (m' p') w' q' (KK p') r → MRun text m w q (KK p) r
theorem adv_step {text : List UInt8} {m m' : MS} {w q w' q' : Int} {p : Ps} (hp : Ok text p) (hs : yB m w q p.tk = .go m' w' q') : jU text m w q p (fun _ => m') w' q' 0 0 (yV text p) := by
  cases h : yV text p with
  | inl e => exact .go hs (jK h _ _ _)
  | inr p' =>
    obtain ⟨h1, h2, h3, _⟩ := uv h
    exact ⟨KS hp.2.2.2.1 hp.2.1 hp.2.2.1 h, h2, h3, fun r hr => xB hs h1 hr⟩
theorem jp {text : List UInt8} {m : MS} {w q w' q' : Int} {p : Ps} {g : MS → MS} (hp : Ok text p) (hn : m.nds = p.nds) (hs : yB m w q p.tk = Yw m fun m => .go (g m) w' q') :
    jU text m w q p (fun p' => g ⟨m.st, m.out, m.opn, p'.nds⟩) w' q' 0 1 (yu (yD p) (yV text)) := by
  unfold yD
  by_cases h : p.nds = 65536
  · rw [if_pos h]
    refine KO ?_
    rw [hs, Yw, if_pos (by omega)]
  · rw [if_neg h]
    have hs2 : yB m w q p.tk = .go (g ⟨m.st, m.out, m.opn, m.nds + 1⟩) w' q' := by rw [hs, Yw, if_neg (by have := hp.2.2.1; omega)]
    show jU _ _ _ _ _ _ _ _ _ _ (yV text { p with nds := p.nds + 1 })
    cases ha : yV text { p with nds := p.nds + 1 } with
    | inl e => exact .go hs2 (jK ha _ _ _)
    | inr p' =>
      obtain ⟨h1, h2, h3, _⟩ := uv ha
      refine ⟨KS (p := { p with nds := p.nds + 1 }) hp.2.2.2.1 hp.2.1 (by dsimp only; have := hp.2.2.1; omega) ha, h2, h3, fun r hr => xB hs2 h1 ?_⟩
      rw [hn, show p.nds + 1 = p'.nds from h3.symm]
      exact hr
theorem Jj {text : List UInt8} {m : MS} {w q w' q' : Int} {p : Ps} {x : Wt} (hp : Ok text p) (hn : m.opn = p.opn) (hs : yB m w q p.tk = YK m x fun m => .go m w' q') :
    jU text m w q p (fun p' => ⟨x :: m.st, m.out, p'.opn, m.nds⟩) w' q' 1 0 (yu (Ye p) (yV text)) := by
  unfold Ye
  by_cases h : p.opn = 64
  · rw [if_pos h]
    refine KO ?_
    rw [hs, YK, if_pos (by omega)]
  · rw [if_neg h]
    have hs2 : yB m w q p.tk = .go ⟨x :: m.st, m.out, m.opn + 1, m.nds⟩ w' q' := by rw [hs, YK, if_neg (by have := hp.2.1; omega)]
    show jU _ _ _ _ _ _ _ _ _ _ (yV text { p with opn := p.opn + 1 })
    cases ha : yV text { p with opn := p.opn + 1 } with
    | inl e => exact .go hs2 (jK ha _ _ _)
    | inr p' =>
      obtain ⟨h1, h2, h3, _⟩ := uv ha
      refine ⟨KS (p := { p with opn := p.opn + 1 }) hp.2.2.2.1 (by dsimp only; have := hp.2.1; omega) hp.2.2.1 ha, h2, h3, fun r hr => xB hs2 h1 ?_⟩
      rw [hn, show p.opn + 1 = p'.opn from h2.symm]
      exact hr
theorem Ki {text : List UInt8} {m : MS} {w q w' q' : Int} {p : Ps} {x : Wt} (hp : Ok text p) (hn : m.opn = p.opn) (hk : m.nds = p.nds) (hs : yB m w q p.tk = YK m x fun m => Yw m fun m => .go m w' q') :
    jU text m w q p (fun p' => ⟨x :: m.st, m.out, p'.opn, p'.nds⟩) w' q' 1 1 (yu (yu (Ye p) yD) (yV text)) := by
  unfold Ye
  by_cases h : p.opn = 64
  · rw [if_pos h]
    refine KO ?_
    rw [hs, YK, if_pos (by omega)]
  · rw [if_neg h]
    show jU _ _ _ _ _ _ _ _ _ _ (yu (yD { p with opn := p.opn + 1 }) (yV text))
    unfold yD
    by_cases h2 : p.nds = 65536
    · rw [if_pos h2]
      refine KO ?_
      rw [hs, YK, if_neg (by have := hp.2.1; omega), Yw, if_pos (by dsimp only; omega)]
    · rw [if_neg h2]
      have hs2 : yB m w q p.tk = .go ⟨x :: m.st, m.out, m.opn + 1, m.nds + 1⟩ w' q' := by rw [hs, YK, if_neg (by have := hp.2.1; omega), Yw, if_neg (by dsimp only; have := hp.2.2.1; omega)]
      show jU _ _ _ _ _ _ _ _ _ _ (yV text { p with opn := p.opn + 1, nds := p.nds + 1 })
      cases ha : yV text { p with opn := p.opn + 1, nds := p.nds + 1 } with
      | inl e => exact .go hs2 (jK ha _ _ _)
      | inr p' =>
        obtain ⟨h1, h2, h3, _⟩ := uv ha
        refine ⟨KS (p := { p with opn := p.opn + 1, nds := p.nds + 1 }) hp.2.2.2.1 (by dsimp only; have := hp.2.1; omega) (by dsimp only; have := hp.2.2.1; omega) ha, h2, h3, fun r hr => xB hs2 h1 ?_⟩
        rw [hn, hk, show p.opn + 1 = p'.opn from h2.symm, show p.nds + 1 = p'.nds from h3.symm]
        exact hr
theorem KX {text : List UInt8} {m m' : MS} {w q w' q' : Int} {p : Ps} {k : Int} (hp : Ok text p) (hs : knd p = k → yB m w q p.tk = .go m' w' q') (hn : knd p ≠ k → yB m w q p.tk = .err 131) : jU text m w q p (fun _ => m') w' q' 0 0 (yU text k p) := by
  unfold yU
  by_cases h : knd p = k
  · rw [if_pos h]; exact adv_step hp (hs h)
  · rw [if_neg h]; exact KO (hn h)

/-! ### What waits above a stop -/
def cn (l : List Wt) : Nat := (l.map opW).sum
def nd (l : List Wt) : List (Int × Int) := l.flatMap ndW
theorem uU (a b : List Wt) : cn (a ++ b) = cn a + cn b := by simp [cn]
theorem JT (a b : List Wt) : nd (a ++ b) = nd a ++ nd b := by simp [nd]
def Soft (w : Wt) : Prop := w = .not ∨ (∃ o n, w = .quant o n) ∨ ∃ o, w = .op o
theorem ki : ∀ (pend S : List Wt) (o : List (Int × Int)) (k : Nat), (∀ w ∈ pend, Soft w) → Yd (pend ++ S) o (k + cn pend) = Yd S (o ++ nd pend) k
  | [], S, o, k, _ => by simp [cn, nd]
  | w :: pend, S, o, k, h => by
    have ih := ki pend S (o ++ ndW w) k (fun x hx => h x (.tail _ hx))
    have e : k + cn (w :: pend) - opW w = k + cn pend := by simp [cn]; omega
    rcases h w (.head _) with rfl | ⟨a, b, rfl⟩ | ⟨a, rfl⟩
    all_goals
      simp only [List.cons_append, Yd, e, ih, nd, List.flatMap_cons, List.append_assoc]
theorem jI (op : Int) (b : Nat) (hb : YI op ≤ b) : ∀ (pend S : List Wt) (o : List (Int × Int)) (k : Nat), (∀ w ∈ pend, w = .not ∨ ∃ o', w = .op o' ∧ b ≤ YI o' ∧ (op = 9 → YI o' ≠ YI op)) → YE op (pend ++ S) o (k + cn pend) = YE op S (o ++ nd pend) k
  | [], S, o, k, _ => by simp [cn, nd]
  | w :: pend, S, o, k, h => by
    have ih := jI op b hb pend S (o ++ ndW w) k (fun x hx => h x (.tail _ hx))
    have e : k + cn (w :: pend) - opW w = k + cn pend := by simp [cn]; omega
    rcases h w (.head _) with rfl | ⟨a, rfl, h1, h2⟩
    · simp only [ndW, opW] at ih e
      simp only [List.cons_append, YE, e, ih, nd, List.flatMap_cons, List.append_assoc, ndW]
    · simp only [ndW, opW, Nat.sub_zero] at ih e
      rw [List.cons_append, YE]
      rw [if_neg (by rintro (h3 | ⟨h3, h4⟩); omega; exact h2 h4 h3), e, ih]
      simp [nd, ndW]
def Stops (b : Nat) : List Wt → Prop
  | .not :: _ => 6 ≤ b
  | .op o :: _ => YI o < b
  | _ => True
theorem kM (o : Int) : 1 ≤ YI o ∧ YI o ≤ 5 := by unfold YI; (repeat' split) <;> (omega)
theorem stops6 (S : List Wt) : Stops 6 S := by
  unfold Stops
  split
  · exact Nat.le_refl _
  · rename_i o _; have := kM o; omega
  · trivial
theorem Stops.up {b : Nat} {S : List Wt} (h : Stops b S) (hb : b < 6) : Stops (b + 1) S := by
  unfold Stops at *
  split at h
  · omega
  · omega
  · trivial
theorem xg {op : Int} {S : List Wt} (h : Stops (YI op) S) (o : List (Int × Int)) (k : Nat) : YE op S o k = (S, o, k) := by
  have := kM op
  cases S with
  | nil => rfl
  | cons w S =>
    unfold Stops at h
    cases w with
    | not => dsimp only at h; omega
    | op x => dsimp only at h; simp only [YE]; rw [if_pos (.inl h)]
    | _ => rfl
def Good (b : Nat) (tk : Tk) (pend : List Wt) : Prop := (∀ w ∈ pend, Soft w) ∧ ∀ k, tk = .op k → YI k < b ∧ ∀ w ∈ pend, w = .not ∨ ∃ o, w = .op o ∧ b ≤ YI o
def Good' (b : Nat) (tk : Tk) (pend : List Wt) : Prop := (∀ w ∈ pend, Soft w) ∧ ∀ k, tk = .op k → YI k < b + 1 ∧ ∀ w ∈ pend, w = .not ∨ ∃ o, w = .op o ∧ b ≤ YI o
theorem Good.weak {b : Nat} {tk : Tk} {pend : List Wt} (h : Good (b + 1) tk pend) : Good' b tk pend :=
  ⟨h.1, fun k hk => ⟨(h.2 k hk).1, fun w hw => (h.2 k hk).2 w hw |>.imp id fun ⟨o, e, h2⟩ => ⟨o, e, by omega⟩⟩⟩
end
section
open Go Go.RowKit Go.SL Go.ClauseP Go.LexP

def LawR (text : List UInt8) (b : Nat) (m : MS) (w q : Int) (p : Ps) (o : List (Int × Int)) (S : List Wt) : Rt → Prop
  | .inl e => MRun text m w q (KK p) (.inl e)
  | .inr (x, p') => Ok text p' ∧ p'.opn = p.opn ∧ ∃ pend o' q', o' ++ nd pend = post x ∧ Good b p'.tk pend ∧ ∀ r, MRun text ⟨pend ++ S, o ++ o', p'.opn + cn pend, p'.nds⟩ 1 q' (KK p') r → MRun text m w q (KK p) r
theorem LawR.comp {text : List UInt8} {b : Nat} {m m2 : MS} {w q w2 q2 : Int} {p p2 : Ps} {o : List (Int × Int)} {S : List Wt} {r : Rt} (h : LawR text b m2 w2 q2 p2 o S r) (ho : p2.opn = p.opn) (hc : ∀ r, MRun text m2 w2 q2 (KK p2) r → MRun text m w q (KK p) r) :
    LawR text b m w q p o S r := by
  rcases r with e | ⟨x, p'⟩
  · exact hc _ h
  · obtain ⟨h1, h2, pend, o', q', h3, h4, h5⟩ := h
    exact ⟨h1, h2.trans ho, pend, o', q', h3, h4, fun r hr => hc _ (h5 r hr)⟩
def Mot (text : List UInt8) : Tsk → Ps → Rt → Prop
  | .lvl b, p, r => Ok text p → ∀ S o q, Stops b S → LawR text b ⟨S, o, p.opn, p.nds⟩ 0 q p o S r
  | .loop b x, p, r => Ok text p → b = 1 ∨ b = 3 ∨ b = 4 ∨ b = 5 → ∀ S o q pend o', Stops b S → o' ++ nd pend = post x → Good' b p.tk pend → LawR text b ⟨pend ++ S, o ++ o', p.opn + cn pend, p.nds⟩ 1 q p o S r
  | .imps xs, p, r => ∀ x rest, xs = x :: rest → Ok text p → ∀ S o q pend o', Stops 2 S → o' ++ nd pend = post x → Good 3 p.tk pend →
      LawR text 2 ⟨pend ++ (List.replicate rest.length (.op 9) ++ S), o ++ YW rest ++ o', p.opn + cn pend, p.nds⟩ 1 q p o S r
theorem Jq {b : Nat} (hb : b = 1 ∨ b = 3 ∨ b = 4 ∨ b = 5) : YI (oOf b) = b := by rcases hb with rfl | rfl | rfl | rfl <;> rfl
theorem oOf_ne {b : Nat} (hb : b = 1 ∨ b = 3 ∨ b = 4 ∨ b = 5) : oOf b ≠ 9 := by rcases hb with rfl | rfl | rfl | rfl <;> decide
theorem JX {text : List UInt8} {b : Nat} {p : Ps} {S pend : List Wt} {o o' : List (Int × Int)} {x : T} (q : Int) (hp : Ok text p) (hb : b = 1 ∨ b = 3 ∨ b = 4 ∨ b = 5) (hS : Stops b S) (hx : o' ++ nd pend = post x) (hG : Good' b p.tk pend) (hk : knd p = kOf b) :
    jU text ⟨pend ++ S, o ++ o', p.opn + cn pend, p.nds⟩ 1 q p (fun p' => ⟨.op (oOf b) :: S, o ++ post x, p.opn, p'.nds⟩) 0 q 0 1 (yu (yD p) (yV text)) := by
  have ht : p.tk = .op (oOf b) := (XW hp.1 hb).1 hk
  have e := Jq hb
  have h1 : YE (oOf b) (pend ++ S) (o ++ o') (p.opn + cn pend) = (S, o ++ post x, p.opn) := by
    rw [jI (oOf b) b (by omega) pend S (o ++ o') p.opn (fun w hw => (hG.2 _ ht).2 w hw |>.imp id fun ⟨y, e1, e2⟩ => ⟨y, e1, e2, fun e3 => absurd e3 (oOf_ne hb)⟩), List.append_assoc, hx]
    exact xg (by rw [e]; exact hS) _ _
  have h := jp (text := text) (m := ⟨pend ++ S, o ++ o', p.opn + cn pend, p.nds⟩) (w := 1) (q := q) (w' := 0) (q' := q) (p := p) (g := fun m => ⟨.op (oOf b) :: (YE (oOf b) m.st m.out m.opn).1, (YE (oOf b) m.st m.out m.opn).2.1, (YE (oOf b) m.st m.out m.opn).2.2, m.nds⟩) hp rfl (by rw [ht]; rfl)
  simpa only [h1] using h
theorem oper_reps {S : List Wt} (h : Stops 2 S) (o : List (Int × Int)) (k : Nat) : ∀ n : Nat, YE 9 (List.replicate n (.op 9) ++ S) o k = (List.replicate n (.op 9) ++ S, o, k)
  | 0 => xg (op := 9) h o k
  | n + 1 => by
    rw [List.replicate_succ, List.cons_append, YE]
    rw [if_pos (.inr ⟨rfl, rfl⟩)]
theorem ne9 {y : Int} (h : 3 ≤ YI y) : YI y ≠ YI 9 := by
  have : YI 9 = 2 := rfl
  omega
theorem JV {text : List UInt8} {p : Ps} {S pend : List Wt} {o o' : List (Int × Int)} {x : T} {rest : List T} (q : Int) (hp : Ok text p) (hS : Stops 2 S) (hx : o' ++ nd pend = post x) (hG : Good 3 p.tk pend) (hk : knd p = 7) :
    jU text ⟨pend ++ (List.replicate rest.length (.op 9) ++ S), o ++ YW rest ++ o', p.opn + cn pend, p.nds⟩ 1 q p (fun p' => ⟨List.replicate (x :: rest).length (.op 9) ++ S, o ++ YW (x :: rest), p.opn, p'.nds⟩) 0 q 0 1 (yu (yD p) (yV text)) := by
  have ht : p.tk = .op 9 := (xi hp.1).1 hk
  have h1 : YE 9 (pend ++ (List.replicate rest.length (.op 9) ++ S)) (o ++ YW rest ++ o') (p.opn + cn pend) = (List.replicate rest.length (.op 9) ++ S, o ++ YW (x :: rest), p.opn) := by
    rw [jI 9 3 (by decide) pend _ _ p.opn (fun w hw => (hG.2 _ ht).2 w hw |>.imp id fun ⟨y, e1, e2⟩ => ⟨y, e1, e2, fun _ => ne9 e2⟩), List.append_assoc, hx, List.append_assoc]
    exact oper_reps hS _ _ _
  have h := jp (text := text) (m := ⟨pend ++ (List.replicate rest.length (.op 9) ++ S), o ++ YW rest ++ o', p.opn + cn pend, p.nds⟩) (w := 1) (q := q) (w' := 0) (q' := q) (p := p) (g := fun m => ⟨.op 9 :: (YE 9 m.st m.out m.opn).1, (YE 9 m.st m.out m.opn).2.1, (YE 9 m.st m.out m.opn).2.2, m.nds⟩) hp rfl (by rw [ht]; rfl)
  simpa only [h1, List.length_cons, List.replicate_succ, List.cons_append] using h
theorem UI : ∀ (rest : List T) (x : T), post (Ks (x :: rest)) = YW rest ++ post x ++ List.replicate rest.length (9, 0)
  | [], x => by simp [Ks, YW]
  | y :: rest, x => by
    have := UI rest (.bin 9 y x)
    simp only [Ks, List.foldl_cons] at this ⊢
    rw [this]
    simp [YW, post, List.replicate_succ]
theorem nd_reps (n : Nat) : nd (List.replicate n (.op 9)) = List.replicate n (9, 0) := by
  induction n with
  | zero => rfl
  | succ n ih => simp only [List.replicate_succ, nd, List.flatMap_cons] at ih ⊢; rw [ih]; rfl
theorem cn_reps (n : Nat) : cn (List.replicate n (.op 9)) = 0 := by
  induction n with
  | zero => rfl
  | succ n ih => simp only [List.replicate_succ, cn, List.map_cons, List.sum_cons] at ih ⊢; rw [ih]; rfl
theorem Ok.less {text : List UInt8} {p : Ps} (h : Ok text p) (k : Nat) : Ok text { p with opn := p.opn - k } := ⟨h.1, by dsimp only; have := h.2.1; omega, h.2.2⟩
theorem Good.nil {b : Nat} {tk : Tk} (h : ∀ k, tk = .op k → YI k < b) : Good b tk [] := ⟨fun w hw => (nomatch hw), fun k hk => ⟨h k hk, fun w hw => (nomatch hw)⟩⟩
theorem bnd6 (k : Int) : YI k < 6 := by have := kM k; omega
theorem Good.noop {tk : Tk} {pend : List Wt} (h : Good 1 tk pend) (k : Int) : tk ≠ .op k := fun e => by have h1 := (h.2 k e).1; have := kM k; omega

/-! ### A quantifier's variables -/
def gT (text : List UInt8) (p : Ps) (vs : List Int) (S : List Wt) (o : List (Int × Int)) (op : Int) : (Int × Nat) ⊕ (List Int × Ps) → Prop
  | .inl e => MRun text ⟨S, o, p.opn, p.nds⟩ 3 op (yS text p.fin) (.inl e)
  | .inr (vs', q) => ∃ ns, ns ≠ [] ∧ vs' = vs ++ ns ∧ Ok text q ∧ q.opn = p.opn + ns.length ∧ ∀ r, MRun text ⟨ns.reverse.map (Wt.quant op) ++ S, o, q.opn, q.nds⟩ 0 op (KK q) r → MRun text ⟨S, o, p.opn, p.nds⟩ 3 op (yS text p.fin) r
theorem uS {text : List UInt8} {p : Ps} {vs : List Int} {r : (Int × Nat) ⊕ (List Int × Ps)} (h : Vars text p vs r) : ∀ (S : List Wt) (o : List (Int × Int)) (op : Int), p.fin ≤ text.length → p.opn ≤ 64 → p.nds ≤ 65536 → gT text p vs S o op r := by
  induction h with
  | adv ha => intro S o op _ _ _; exact jK ha _ _ _
  | @tok p vs q ha hn =>
    intro S o op hf ho hk
    obtain ⟨h1, h2, h3, h4⟩ := uv ha
    unfold gT
    rw [← h1]
    refine KO ?_
    obtain ⟨tk, at_, fin, opn, nds⟩ := q
    dsimp only at hn h4 ⊢
    cases tk <;> first | rfl | exact (hn _ rfl).elim | exact (h4 _ rfl).elim
  | @open_ p vs q n e ha ht hb =>
    intro S o op hf ho hk
    obtain ⟨h1, h2, h3, h4⟩ := uv ha
    have hq := KS hf ho hk ha
    have hs := Ki (text := text) (m := ⟨S, o, p.opn, p.nds⟩) (w := 3) (q := op) (x := .quant op n) (w' := 4) (q' := op) hq (by dsimp only; omega) (by dsimp only; omega) (by rw [ht]; rfl)
    rw [hb] at hs
    unfold gT
    rw [← h1]
    exact hs
  | @more p vs q n q' r ha ht hb hc _ ih =>
    intro S o op hf ho hk
    obtain ⟨h1, h2, h3, h4⟩ := uv ha
    have hq := KS hf ho hk ha
    have hs := Ki (text := text) (m := ⟨S, o, p.opn, p.nds⟩) (w := 3) (q := op) (x := .quant op n) (w' := 4) (q' := op) hq (by dsimp only; omega) (by dsimp only; omega) (by rw [ht]; rfl)
    rw [hb] at hs
    obtain ⟨k1, k2, k3, k4⟩ := hs
    have hgo : ∀ r, MRun text ⟨.quant op n :: S, o, q'.opn, q'.nds⟩ 3 op (yS text q'.fin) r → MRun text ⟨S, o, p.opn, p.nds⟩ 3 op (yS text p.fin) r := by
      intro r hr
      rw [← h1]
      refine k4 r ?_
      exact .go (t := KK q') (m' := ⟨.quant op n :: S, o, q'.opn, q'.nds⟩) (w' := 3) (q' := op) (by show yB _ _ _ q'.tk = _; rw [hc]; rfl) hr
    have ih2 := ih (.quant op n :: S) o op k1.2.2.2.1 k1.2.1 k1.2.2.1
    rcases r with e | ⟨vs', q2⟩
    · exact hgo _ ih2
    · obtain ⟨ns, e0, e1, e2, e3, e4⟩ := ih2
      refine ⟨n :: ns, by simp, by rw [e1]; simp, e2, by rw [e3, k2, h2]; simp; omega, fun r hr => hgo r (e4 r ?_)⟩
      simpa using hr
  | @done p vs q n q' ha ht hb hc =>
    intro S o op hf ho hk
    obtain ⟨h1, h2, h3, h4⟩ := uv ha
    have hq := KS hf ho hk ha
    have hs := Ki (text := text) (m := ⟨S, o, p.opn, p.nds⟩) (w := 3) (q := op) (x := .quant op n) (w' := 4) (q' := op) hq (by dsimp only; omega) (by dsimp only; omega) (by rw [ht]; rfl)
    rw [hb] at hs
    obtain ⟨k1, k2, k3, k4⟩ := hs
    have hn := KX (text := text) (m := ⟨.quant op n :: S, o, q'.opn, q'.nds⟩) (m' := ⟨.quant op n :: S, o, q'.opn, q'.nds⟩) (w := 4) (q := op) (w' := 0) (q' := op) (k := 12) k1
      (fun h => by rw [(xa k1.1).1 h]; rfl)
      (fun h => by
        have h' : q'.tk ≠ .colon := fun e => h ((xa k1.1).2 e)
        have h5 := k1.1
        obtain ⟨tk, at_, fin, opn, nds⟩ := q'
        dsimp only at h' hc h5 ⊢
        cases tk <;> first | rfl | exact (h' rfl).elim | exact (hc rfl).elim | exact h5.elim)
    cases hnd : yU text 12 q' with
    | inl e =>
      rw [hnd] at hn
      unfold gT
      rw [← h1]
      exact k4 _ hn
    | inr q2 =>
      rw [hnd] at hn
      obtain ⟨g1, g2, g3, g4⟩ := hn
      refine ⟨[n], by simp, rfl, g1, by simp; omega, fun r hr => ?_⟩
      rw [← h1]
      refine k4 r (g4 r ?_)
      have e1 : q2.opn = q'.opn := g2
      have e2 : q2.nds = q'.nds := g3
      rw [← e1, ← e2]
      simpa using hr
theorem Xs (op : Int) : ∀ (ns : List Int) (x : T), post (quT op ns x) = post x ++ nd (ns.reverse.map (Wt.quant op))
  | [], x => by simp [quT, nd]
  | n :: ns, x => by
    have := Xs op ns x
    simp only [quT, List.foldr_cons] at this ⊢
    rw [post, this]
    simp [JT, nd, ndW]
theorem cn_quants (op : Int) (ns : List Int) : cn (ns.map (Wt.quant op)) = ns.length := by
  induction ns with
  | nil => rfl
  | cons n ns ih => simp only [List.map_cons, cn, List.sum_cons, List.length_cons] at ih ⊢; rw [ih]; simp [opW]; omega
end
end Go.Proofs.YthackanffcaejaaGreatDoor
