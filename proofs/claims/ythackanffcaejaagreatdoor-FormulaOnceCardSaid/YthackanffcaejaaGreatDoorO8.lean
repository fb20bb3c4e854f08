/- A part of the proof: Pm Pm2 Lv1 Lv2. -/
import Derived.Test.YthackanffcaejaaGreatDoorO1
import Derived.Test.YthackanffcaejaaGreatDoorO7
set_option linter.unusedSimpArgs false
set_option linter.unusedVariables false
set_option linter.unusedSectionVars false
namespace Go.Proofs.YthackanffcaejaaGreatDoor
section
set_option maxRecDepth 20000
open Go Go.RowKit Go.SL Go.ClauseP Go.LexP

def psV (text : List UInt8) (k n tat te fin o nd e a : Int) : List Value := [.string ⟨text.toArray⟩, .int .i64 k, .int .i64 n, .int .i64 tat, .int .i64 te, .int .i64 fin, .int .i64 o, .int .i64 nd, .int .i64 e, .int .i64 a]
theorem xe (B : Nat) (text : List UInt8) (k n tat te fin o nd a c : Int) (w0 w : World) (R : List HP) (hS : Sat w0 w (blk B 82 (psV text k n tat te fin o nd 0 a) :: R)) :
    Calls Tryz.prog 80 #[.pointer (some ⟨B, 0, none⟩), .int .i64 c] w fun e w' => e = .returned (.tuple #[]) ∧ Sat w0 w' (blk B 82 (psV text k n tat te fin o nd c tat) :: R) := by
  unfold psV at hS
  go_enter Tryz.func80, Tryz.ntmps80
  go_wp2_with (first|((with_reducible apply yi hS);exact ya;exact yb rfl;exact yf;rfl;decide +kernel;(try simp only [Act.put,q1,q2,q3]))|((with_reducible apply yx hS);exact ya;exact yb rfl;exact yb rfl;exact yf;rfl;(focus (simp;done));exact Upd.hd;rfl;decide +kernel;clear hS;intro w hS;(try simp only [q2, q3] at hS);(try simp only [Act.put,q1,q2,q3])))
  go_end0
  exact ⟨rfl, hS⟩
theorem gZ (B : Nat) (text : List UInt8) (k n tat te fin o nd d a c : Int) (hd : d ≠ 0) (w0 w : World) (R : List HP) (hS : Sat w0 w (blk B 82 (psV text k n tat te fin o nd d a) :: R)) :
    Calls Tryz.prog 80 #[.pointer (some ⟨B, 0, none⟩), .int .i64 c] w fun e w' => e = .returned (.tuple #[]) ∧ Sat w0 w' (blk B 82 (psV text k n tat te fin o nd d a) :: R) := by
  unfold psV at hS
  have hd2 : (d == 0) = false := by simp [hd]
  go_enter Tryz.func80, Tryz.ntmps80
  go_wp2_with ((with_reducible apply yi hS);exact ya;exact yb rfl;exact yf;rfl;decide +kernel;(try simp only [Act.put,q1,q2,q3]))
  go_end0
  exact ⟨rfl, hS⟩
theorem advD (B : Nat) (text : List UInt8) (k n tat te fin o nd d a : Int) (hd : d ≠ 0) (w0 w : World) (R : List HP) (hS : Sat w0 w (blk B 82 (psV text k n tat te fin o nd d a) :: R)) :
    Calls Tryz.prog 37 #[.pointer (some ⟨B, 0, none⟩)] w fun e w' => e = .returned (.tuple #[]) ∧ Sat w0 w' (blk B 82 (psV text k n tat te fin o nd d a) :: R) := by
  have FD := gZ B text k n tat te fin o nd d a
  unfold psV at hS FD
  have hd2 : (d == 0) = false := by simp [hd]
  have hd3 : (d != 0) = true := by simp [hd]
  go_enter Tryz.func37, Tryz.ntmps37
  go_wp2_with ((with_reducible apply yi hS);exact ya;exact yb rfl;exact yf;rfl;decide +kernel;(try simp only [Act.put,q1,q2,q3]))
  refine bodyPost_ret (results_none rfl _ _ _) rfl ?_
  exact ⟨rfl, hS⟩
theorem isD (B : Nat) (text : List UInt8) (k n tat te fin o nd d a c : Int) (hd : d ≠ 0) (w0 w : World) (R : List HP) (hS : Sat w0 w (blk B 82 (psV text k n tat te fin o nd d a) :: R)) :
    Calls Tryz.prog 83 #[.pointer (some ⟨B, 0, none⟩), .int .i64 c] w fun e w' => e = .returned (.bool false) ∧ Sat w0 w' (blk B 82 (psV text k n tat te fin o nd d a) :: R) := by
  have FD := gZ B text k n tat te fin o nd d a
  unfold psV at hS FD
  have hd2 : (d == 0) = false := by simp [hd]
  have hd3 : (d != 0) = true := by simp [hd]
  go_enter Tryz.func83, Tryz.ntmps83
  go_wp2_with ((with_reducible apply yi hS);exact ya;exact yb rfl;exact yf;rfl;decide +kernel;(try simp only [Act.put,q1,q2,q3]))
  go_ret
  exact ⟨rfl, hS⟩
theorem needD (B : Nat) (text : List UInt8) (k n tat te fin o nd d a c : Int) (hd : d ≠ 0) (w0 w : World) (R : List HP) (hS : Sat w0 w (blk B 82 (psV text k n tat te fin o nd d a) :: R)) :
    Calls Tryz.prog 39 #[.pointer (some ⟨B, 0, none⟩), .int .i64 c] w fun e w' => e = .returned (.tuple #[]) ∧ Sat w0 w' (blk B 82 (psV text k n tat te fin o nd d a) :: R) := by
  have FD := gZ B text k n tat te fin o nd d a
  have ID := isD B text k n tat te fin o nd d a c hd
  unfold psV at hS FD ID
  have hd2 : (d == 0) = false := by simp [hd]
  have hd3 : (d != 0) = true := by simp [hd]
  go_enter Tryz.func39, Tryz.ntmps39
  go_wp2_with (first|((with_reducible apply yi hS);exact ya;exact yb rfl;exact yf;rfl;decide +kernel;(try simp only [Act.put,q1,q2,q3]))|(go_at_call 83;refine (ID _ _ _ hS).mono ?_;clear hS;rintro e w ⟨rfl, hS⟩))
  go_end0
  exact ⟨rfl, hS⟩
theorem makesD (B : Nat) (text : List UInt8) (k n tat te fin o nd d a : Int) (hd : d ≠ 0) (h1 : 0 ≤ nd) (h2 : nd ≤ 65536) (w0 w : World) (R : List HP) (hS : Sat w0 w (blk B 82 (psV text k n tat te fin o nd d a) :: R)) :
    Calls Tryz.prog 114 #[.pointer (some ⟨B, 0, none⟩)] w fun e w' => e = .returned (.tuple #[]) ∧ Sat w0 w' (blk B 82 (psV text k n tat te fin o (nd + 1) d a) :: R) := by
  have FD := fun w => gZ B text k n tat te fin o nd d a 8 hd w0 w R
  unfold psV at hS FD
  by_cases hm : nd = 65536
  · subst hm
    go_enter Tryz.func114, Tryz.ntmps114
    go_wp2_with (first|((with_reducible apply yi hS);exact ya;exact yb rfl;exact yf;rfl;decide +kernel;(try simp only [Act.put,q1,q2,q3]))|((with_reducible apply yx hS);exact ya;exact yb rfl;exact yb rfl;exact yf;rfl;(focus (simp;done));exact Upd.hd;rfl;decide +kernel;clear hS;intro w hS;(try simp only [q2, q3] at hS);(try simp only [Act.put,q1,q2,q3]))|(go_at_call 80;refine (FD _ hS).mono ?_;clear hS;rintro e w ⟨rfl, hS⟩))
    go_end0
    exact ⟨rfl, hS⟩
  · have hm2 : (nd == 65536) = false := by simp [hm]
    go_enter Tryz.func114, Tryz.ntmps114
    go_wp2_with (first|((with_reducible apply yi hS);exact ya;exact yb rfl;exact yf;rfl;decide +kernel;(try simp only [Act.put,q1,q2,q3]))|((with_reducible apply yx hS);exact ya;exact yb rfl;exact yb rfl;exact yf;rfl;(focus (simp;done));exact Upd.hd;rfl;decide +kernel;clear hS;intro w hS;(try simp only [q2, q3] at hS);(try simp only [Act.put,q1,q2,q3])))
    go_end0
    exact ⟨rfl, hS⟩
def alV (text : List UInt8) (p : Ps) : List Value := psV text (Yk p.tk).1 (Yk p.tk).2.1 p.at_ 0 p.fin p.opn p.nds 0 0
def Dead (w0 w : World) (R : List HP) (B : Nat) (text : List UInt8) (lo : Nat) (x : Int × Nat) : Prop := x.1 ≠ 0 ∧ ∃ k n tat te fin o nd : Int, lo ≤ o ∧ o ≤ 65 ∧ 0 ≤ nd ∧ nd ≤ 65537 ∧ Sat w0 w (blk B 82 (psV text k n tat te fin o nd x.1 x.2) :: R)
def PsB (text : List UInt8) (p : Ps) : Prop := p.opn ≤ 64 ∧ p.nds ≤ 65536 ∧ p.fin ≤ text.length ∧ YU p.tk
def aft (w0 w : World) (R : List HP) (B : Nat) (text : List UInt8) (lo : Nat) : Rp → Prop
  | .inl x => Dead w0 w R B text lo x
  | .inr q => PsB text q ∧ Sat w0 w (blk B 82 (alV text q) :: R)
theorem uD (w : List UInt8) (e : Int) (h : kU w = .bad e) : e ≠ 0 := by
  unfold kU at h
  repeat (first | (split at h) | (cases h <;> decide))
theorem xb (text : List UInt8) (k : Nat) (e : Int) (h : (yS text k).tk = .bad e) : e ≠ 0 := by
  unfold yS at h
  split at h
  · cases h
  · dsimp only at h
    generalize text.drop (Yh text k) = l at h
    unfold Yj at h
    split at h
    · cases h
    · split at h
      · exact uD _ _ h
      · split at h
        · dsimp only at h
          split at h
          · injection h with h; omega
          · cases h
        · split at h
          · rename_i s hs
            have h3 : ∀ s ∈ signs11 ++ signs10, ∀ e, s.2 ≠ Tk.bad e := by
              intro s hs e
              simp only [signs11, signs10, List.cons_append, List.nil_append, List.mem_cons, List.not_mem_nil, or_false] at hs
              rcases hs with rfl | rfl | rfl | rfl | rfl | rfl | rfl | rfl | rfl | rfl | rfl | rfl | rfl | rfl | rfl | rfl | rfl | rfl | rfl | rfl | rfl <;> (intro h; cases h)
            exact (h3 s (List.mem_of_find?_eq_some hs) e h).elim
          · injection h with h; omega
theorem tokE_ok (t : Tk) (h : ¬ ∃ e, t = .bad e) : (Yk t).2.2 = 0 := by
  cases t <;> first | rfl | exact (h ⟨_, rfl⟩).elim
theorem Gj (text : List UInt8) (p : Ps) (h : ¬ ∃ e, (yS text p.fin).tk = .bad e) : yV text p = .inr ⟨(yS text p.fin).tk, (yS text p.fin).at_, (yS text p.fin).fin, p.opn, p.nds⟩ := by
  unfold yV
  generalize yS text p.fin = t at *
  obtain ⟨tk, a, f⟩ := t
  cases tk <;> first | rfl | exact (h ⟨_, rfl⟩).elim
theorem uF (text : List UInt8) (p : Ps) (e : Int) (h : (yS text p.fin).tk = .bad e) : yV text p = .inl (e, (yS text p.fin).at_) := by
  unfold yV
  generalize yS text p.fin = t at *
  obtain ⟨tk, a, f⟩ := t
  dsimp only at h
  subst h
  rfl
set_option maxHeartbeats 2000000 in
theorem us (B : Nat) (text : List UInt8) (hl : text.length ≤ 1048576) (p : Ps) (hp : PsB text p) (w0 w : World) (hSig : kZ w0) (R : List HP) (hbm : YT w0 ∈ R) (hS : Sat w0 w (blk B 82 (alV text p) :: R)) :
    Calls Tryz.prog 37 #[.pointer (some ⟨B, 0, none⟩)] w fun e w' => e = .returned (.tuple #[]) ∧ aft w0 w' R B text p.opn (yV text p) := by
  obtain ⟨h1, h2, h3, _⟩ := hp
  have htk := JB text p.fin
  have NC := fun w Hs hm hS => nextC text hl p.fin h3 w0 w hSig Hs hm hS
  have hnb := jg text p.fin h3
  have hne := xb text p.fin
  unfold alV psV at hS
  have hbm2 : YT w0 ∈ (blk B 82 [.string ⟨text.toArray⟩, .int .i64 (Yk p.tk).1, .int .i64 (Yk p.tk).2.1, .int .i64 p.at_, .int .i64 0, .int .i64 p.fin, .int .i64 p.opn, .int .i64 p.nds, .int .i64 0, .int .i64 0] :: R) := List.mem_cons_of_mem _ hbm
  obtain ⟨n1, n2, n3⟩ := hnb
  by_cases hb : ∃ e, (yS text p.fin).tk = .bad e
  · obtain ⟨c, hb⟩ := hb
    rw [uF text p c hb]
    generalize yS text p.fin = t at *
    obtain ⟨tk, at_, fin⟩ := t
    dsimp only at *
    subst hb
    clear htk
    have hc := hne c rfl
    have hc2 : (c != 0) = true := by simp [hc]
    have FA := xe B text 0 0 at_ c fin p.opn p.nds 0 c
    have FA := fun w R => FA w0 w R
    unfold psV at FA
    simp only [Uu, Yk] at NC
    generalize (Yk p.tk).1 = k at *
    generalize (Yk p.tk).2.1 = n at *
    go_enter Tryz.func37, Tryz.ntmps37
    go_wp2_with (first|((with_reducible apply Cont.intro);(first|(focus (apply Or.inr;apply (Sat.sb hS);(repeat (first|with_reducible exact Sb.refl|(with_reducible refine Sb.take (by (repeat (with_reducible apply Rem.tl));done) ?_)|with_reducible apply Sb.skip));done))|(exact Or.inl (by kernel_rfl)));intro hR hC)|((first|((with_reducible apply yc (i := 0));(simp only [q4,q6,q5];with_reducible rfl);kernel_rfl;kernel_rfl;decide +kernel;rfl;exact hC;exact (fun _ _ _ h => h);exact hR;with_reducible exact ya)|((with_reducible apply yc (i := 1));(simp only [q4,q6,q5];with_reducible rfl);kernel_rfl;kernel_rfl;decide +kernel;rfl;exact hC;exact (fun _ _ _ h => h);exact hR;with_reducible exact ya)|((with_reducible apply yc (i := 2));(simp only [q4,q6,q5];with_reducible rfl);kernel_rfl;kernel_rfl;decide +kernel;rfl;exact hC;exact (fun _ _ _ h => h);exact hR;with_reducible exact ya)|((with_reducible apply yc (i := 3));(simp only [q4,q6,q5];with_reducible rfl);kernel_rfl;kernel_rfl;decide +kernel;rfl;exact hC;exact (fun _ _ _ h => h);exact hR;with_reducible exact ya)|((with_reducible apply yc (i := 6));(simp only [q4,q6,q5];with_reducible rfl);kernel_rfl;kernel_rfl;decide +kernel;rfl;exact hC;exact (fun _ _ _ h => h);exact hR;with_reducible exact ya)|((with_reducible apply yc (i := 7));(simp only [q4,q6,q5];with_reducible rfl);kernel_rfl;kernel_rfl;decide +kernel;rfl;exact hC;exact (fun _ _ _ h => h);exact hR;with_reducible exact ya)|((with_reducible apply yc (i := 11));(simp only [q4,q6,q5];with_reducible rfl);kernel_rfl;kernel_rfl;decide +kernel;rfl;exact hC;exact (fun _ _ _ h => h);exact hR;with_reducible exact ya)|((with_reducible apply yc (i := 12));(simp only [q4,q6,q5];with_reducible rfl);kernel_rfl;kernel_rfl;decide +kernel;rfl;exact hC;exact (fun _ _ _ h => h);exact hR;with_reducible exact ya)|((with_reducible apply yc (i := 13));(simp only [q4,q6,q5];with_reducible rfl);kernel_rfl;kernel_rfl;decide +kernel;rfl;exact hC;exact (fun _ _ _ h => h);exact hR;with_reducible exact ya)|((with_reducible apply yc (i := 14));(simp only [q4,q6,q5];with_reducible rfl);kernel_rfl;kernel_rfl;decide +kernel;rfl;exact hC;exact (fun _ _ _ h => h);exact hR;with_reducible exact ya)|((with_reducible apply yc (i := 17));(simp only [q4,q6,q5];with_reducible rfl);kernel_rfl;kernel_rfl;decide +kernel;rfl;exact hC;exact (fun _ _ _ h => h);exact hR;with_reducible exact ya));(intro w;first|(go_simp;done)|(go_simp;rw [yw (by omega) (by omega)])|(go_simp;with_reducible rfl)|(go_simp;rfl));(clear hR hC;intro hR hC);(try simp only [Act.put,q1,q2,q3]))|((first|((with_reducible apply yc (i := 4));(simp only [q4,q6,q5];with_reducible rfl);kernel_rfl;kernel_rfl;decide +kernel;rfl;exact hC;exact (fun _ _ _ h => h);exact hR;with_reducible exact ya)|((with_reducible apply yc (i := 8));(simp only [q4,q6,q5];with_reducible rfl);kernel_rfl;kernel_rfl;decide +kernel;rfl;exact hC;exact (fun _ _ _ h => h);exact hR;with_reducible exact ya)|((with_reducible apply yc (i := 15));(simp only [q4,q6,q5];with_reducible rfl);kernel_rfl;kernel_rfl;decide +kernel;rfl;exact hC;exact (fun _ _ _ h => h);exact hR;with_reducible exact ya)|((with_reducible apply yc (i := 18));(simp only [q4,q6,q5];with_reducible rfl);kernel_rfl;kernel_rfl;decide +kernel;rfl;exact hC;exact (fun _ _ _ h => h);exact hR;with_reducible exact ya));(intro w;first|(exact yX rfl (by (exact yh)) (by assumption) (by with_reducible exact fo82_6))|(go_simp;done)|(go_simp;rw [yw (by omega) (by omega)])|(go_simp;with_reducible rfl)|(go_simp;rfl));(clear hR hC;intro hR hC);(try simp only [Act.put,q1,q2,q3]))|((first|((with_reducible apply yj (i := 5));(simp only [q4,q6,q5];with_reducible rfl);kernel_rfl;kernel_rfl;decide +kernel;kernel_rfl;rfl;exact hC;exact (fun _ _ _ h => h);exact hR;kernel_rfl;with_reducible exact ya)|((with_reducible apply yj (i := 9));(simp only [q4,q6,q5];with_reducible rfl);kernel_rfl;kernel_rfl;decide +kernel;kernel_rfl;rfl;exact hC;exact (fun _ _ _ h => h);exact hR;kernel_rfl;with_reducible exact ya));(intro w hS;(apply ym rfl (by (exact yb rfl)));first|exact yd (by decide +kernel) (hS.cell (by (exact yf)) rfl)|exact yd (by decide +kernel) ((hS.ownCell (by (repeat (with_reducible apply ye))) (by (rfl))).1)|exact yd (by decide +kernel) (Sat.rdCell2 (by assumption) hS (by ((repeat (with_reducible apply ye)));try assumption) (by (rfl)))|exact yd (by decide +kernel) (hS.baseCell (by ((repeat (with_reducible apply ye)));try assumption) (by assumption))|exact yd (by decide +kernel) (fzC (by assumption) hS (by ((repeat (with_reducible apply ye)));try assumption))|exact yp hS (by assumption) (by ((repeat (with_reducible apply ye)));try assumption) (by assumption) (by rfl) (by with_reducible exact sz82) (by decide +kernel) (by decide)|exact hS.loadWhole (by (repeat (with_reducible apply ye))) (by kernel_rfl) (by kernel_rfl));(clear hR hC;intro hR hC);(try simp only [Act.put,q1,q2,q3]))|((with_reducible apply yn (i := 10));(simp only [q4,q6,q5];with_reducible rfl);decide +kernel;exact hC;clear hR hC)|((with_reducible apply yn (i := 16));(simp only [q4,q6,q5];with_reducible rfl);decide +kernel;exact hC;clear hR hC)|((with_reducible apply yn (i := 19));(simp only [q4,q6,q5];with_reducible rfl);decide +kernel;exact hC;clear hR hC)|((with_reducible apply yq);decide +kernel;clear hR hC)|(refine yz 1 20 hS (by kernel_rfl) [16, 19] rfl ?_;clear hS;intro w hS hR hC)|((with_reducible apply yi hS);exact ya;exact yb rfl;exact yf;rfl;decide +kernel;(try simp only [Act.put,q1,q2,q3]))|((with_reducible apply yx hS);exact ya;exact yb rfl;exact yb rfl;exact yf;rfl;(focus (simp;done));exact Upd.hd;rfl;decide +kernel;clear hS;intro w hS;(try simp only [q2, q3] at hS);(try simp only [Act.put,q1,q2,q3]))|((with_reducible apply yk hS);exact ya;exact yb rfl;exact yb rfl;exact yf;rfl;(focus (simp;done));exact Upd.hd;rfl;exact sz80;rfl;clear hS;intro w hS;(try simp only [yo, q2, q3] at hS);(try simp only [Act.put,q1,q2,q3]))|(go_at_call 79;refine (NC _ _ hbm2 hS).mono ?_;clear hS;rintro e w ⟨rfl, hS⟩)|(go_at_call 80;refine (FA _ _ hS).mono ?_;clear hS;rintro e w ⟨rfl, hS⟩))
    go_end0
    exact ⟨rfl, hc, _, _, _, _, _, p.opn, p.nds, Int.le_refl _, by omega, by omega, by omega, hS⟩
  · rw [Gj text p hb]
    generalize yS text p.fin = t at *
    obtain ⟨tk, at_, fin⟩ := t
    dsimp only at *
    have h0 := tokE_ok tk hb
    have HTK : Hid (YU tk) := hid (htk.resolve_right hb)
    clear hb hne htk
    simp only [Uu, h0] at NC
    have HF : Hid (aft w0 = aft w0) := hid rfl
    generalize hk : (Yk tk).1 = k1 at *
    generalize hn : (Yk tk).2.1 = n1 at *
    generalize (Yk p.tk).1 = k at *
    generalize (Yk p.tk).2.1 = n at *
    have HK := hid hk
    have HN := hid hn
    clear hk hn h0
    go_enter Tryz.func37, Tryz.ntmps37
    go_wp2_with (first|((with_reducible apply Cont.intro);(first|(focus (apply Or.inr;apply (Sat.sb hS);(repeat (first|with_reducible exact Sb.refl|(with_reducible refine Sb.take (by (repeat (with_reducible apply Rem.tl));done) ?_)|with_reducible apply Sb.skip));done))|(exact Or.inl (by kernel_rfl)));intro hR hC)|((first|((with_reducible apply yc (i := 0));(simp only [q4,q6,q5];with_reducible rfl);kernel_rfl;kernel_rfl;decide +kernel;rfl;exact hC;exact (fun _ _ _ h => h);exact hR;with_reducible exact ya)|((with_reducible apply yc (i := 1));(simp only [q4,q6,q5];with_reducible rfl);kernel_rfl;kernel_rfl;decide +kernel;rfl;exact hC;exact (fun _ _ _ h => h);exact hR;with_reducible exact ya)|((with_reducible apply yc (i := 2));(simp only [q4,q6,q5];with_reducible rfl);kernel_rfl;kernel_rfl;decide +kernel;rfl;exact hC;exact (fun _ _ _ h => h);exact hR;with_reducible exact ya)|((with_reducible apply yc (i := 3));(simp only [q4,q6,q5];with_reducible rfl);kernel_rfl;kernel_rfl;decide +kernel;rfl;exact hC;exact (fun _ _ _ h => h);exact hR;with_reducible exact ya)|((with_reducible apply yc (i := 6));(simp only [q4,q6,q5];with_reducible rfl);kernel_rfl;kernel_rfl;decide +kernel;rfl;exact hC;exact (fun _ _ _ h => h);exact hR;with_reducible exact ya)|((with_reducible apply yc (i := 7));(simp only [q4,q6,q5];with_reducible rfl);kernel_rfl;kernel_rfl;decide +kernel;rfl;exact hC;exact (fun _ _ _ h => h);exact hR;with_reducible exact ya)|((with_reducible apply yc (i := 11));(simp only [q4,q6,q5];with_reducible rfl);kernel_rfl;kernel_rfl;decide +kernel;rfl;exact hC;exact (fun _ _ _ h => h);exact hR;with_reducible exact ya)|((with_reducible apply yc (i := 12));(simp only [q4,q6,q5];with_reducible rfl);kernel_rfl;kernel_rfl;decide +kernel;rfl;exact hC;exact (fun _ _ _ h => h);exact hR;with_reducible exact ya)|((with_reducible apply yc (i := 13));(simp only [q4,q6,q5];with_reducible rfl);kernel_rfl;kernel_rfl;decide +kernel;rfl;exact hC;exact (fun _ _ _ h => h);exact hR;with_reducible exact ya)|((with_reducible apply yc (i := 14));(simp only [q4,q6,q5];with_reducible rfl);kernel_rfl;kernel_rfl;decide +kernel;rfl;exact hC;exact (fun _ _ _ h => h);exact hR;with_reducible exact ya)|((with_reducible apply yc (i := 17));(simp only [q4,q6,q5];with_reducible rfl);kernel_rfl;kernel_rfl;decide +kernel;rfl;exact hC;exact (fun _ _ _ h => h);exact hR;with_reducible exact ya));(intro w;first|(go_simp;done)|(go_simp;rw [yw (by omega) (by omega)])|(go_simp;with_reducible rfl)|(go_simp;rfl));(clear hR hC;intro hR hC);(try simp only [Act.put,q1,q2,q3]))|((first|((with_reducible apply yc (i := 4));(simp only [q4,q6,q5];with_reducible rfl);kernel_rfl;kernel_rfl;decide +kernel;rfl;exact hC;exact (fun _ _ _ h => h);exact hR;with_reducible exact ya)|((with_reducible apply yc (i := 8));(simp only [q4,q6,q5];with_reducible rfl);kernel_rfl;kernel_rfl;decide +kernel;rfl;exact hC;exact (fun _ _ _ h => h);exact hR;with_reducible exact ya)|((with_reducible apply yc (i := 15));(simp only [q4,q6,q5];with_reducible rfl);kernel_rfl;kernel_rfl;decide +kernel;rfl;exact hC;exact (fun _ _ _ h => h);exact hR;with_reducible exact ya)|((with_reducible apply yc (i := 18));(simp only [q4,q6,q5];with_reducible rfl);kernel_rfl;kernel_rfl;decide +kernel;rfl;exact hC;exact (fun _ _ _ h => h);exact hR;with_reducible exact ya));(intro w;first|(exact yX rfl (by (exact yh)) (by assumption) (by with_reducible exact fo82_6))|(go_simp;done)|(go_simp;rw [yw (by omega) (by omega)])|(go_simp;with_reducible rfl)|(go_simp;rfl));(clear hR hC;intro hR hC);(try simp only [Act.put,q1,q2,q3]))|((first|((with_reducible apply yj (i := 5));(simp only [q4,q6,q5];with_reducible rfl);kernel_rfl;kernel_rfl;decide +kernel;kernel_rfl;rfl;exact hC;exact (fun _ _ _ h => h);exact hR;kernel_rfl;with_reducible exact ya)|((with_reducible apply yj (i := 9));(simp only [q4,q6,q5];with_reducible rfl);kernel_rfl;kernel_rfl;decide +kernel;kernel_rfl;rfl;exact hC;exact (fun _ _ _ h => h);exact hR;kernel_rfl;with_reducible exact ya));(intro w hS;(apply ym rfl (by (exact yb rfl)));first|exact yd (by decide +kernel) (hS.cell (by (exact yf)) rfl)|exact yd (by decide +kernel) ((hS.ownCell (by (repeat (with_reducible apply ye))) (by (rfl))).1)|exact yd (by decide +kernel) (Sat.rdCell2 (by assumption) hS (by ((repeat (with_reducible apply ye)));try assumption) (by (rfl)))|exact yd (by decide +kernel) (hS.baseCell (by ((repeat (with_reducible apply ye)));try assumption) (by assumption))|exact yd (by decide +kernel) (fzC (by assumption) hS (by ((repeat (with_reducible apply ye)));try assumption))|exact yp hS (by assumption) (by ((repeat (with_reducible apply ye)));try assumption) (by assumption) (by rfl) (by with_reducible exact sz82) (by decide +kernel) (by decide)|exact hS.loadWhole (by (repeat (with_reducible apply ye))) (by kernel_rfl) (by kernel_rfl));(clear hR hC;intro hR hC);(try simp only [Act.put,q1,q2,q3]))|((with_reducible apply yn (i := 10));(simp only [q4,q6,q5];with_reducible rfl);decide +kernel;exact hC;clear hR hC)|((with_reducible apply yn (i := 16));(simp only [q4,q6,q5];with_reducible rfl);decide +kernel;exact hC;clear hR hC)|((with_reducible apply yn (i := 19));(simp only [q4,q6,q5];with_reducible rfl);decide +kernel;exact hC;clear hR hC)|((with_reducible apply yq);decide +kernel;clear hR hC)|(refine yz 1 20 hS (by kernel_rfl) [16, 19] rfl ?_;clear hS;intro w hS hR hC)|((with_reducible apply yi hS);exact ya;exact yb rfl;exact yf;rfl;decide +kernel;(try simp only [Act.put,q1,q2,q3]))|((with_reducible apply yx hS);exact ya;exact yb rfl;exact yb rfl;exact yf;rfl;(focus (simp;done));exact Upd.hd;rfl;decide +kernel;clear hS;intro w hS;(try simp only [q2, q3] at hS);(try simp only [Act.put,q1,q2,q3]))|((with_reducible apply yk hS);exact ya;exact yb rfl;exact yb rfl;exact yf;rfl;(focus (simp;done));exact Upd.hd;rfl;exact sz80;rfl;clear hS;intro w hS;(try simp only [yo, q2, q3] at hS);(try simp only [Act.put,q1,q2,q3]))|(go_at_call 79;refine (NC _ _ hbm2 hS).mono ?_;clear hS;rintro e w ⟨rfl, hS⟩))
    go_end0
    refine ⟨rfl, ⟨h1, h2, n2, HTK.out⟩, ?_⟩
    unfold alV psV
    rw [HK.out, HN.out]
    exact hS
end
section
set_option maxRecDepth 20000
open Go Go.RowKit Go.SL Go.ClauseP Go.LexP

theorem Dead.mono {w0 w : World} {R : List HP} {B : Nat} {text : List UInt8} {lo lo' : Nat} {x : Int × Nat} (h : Dead w0 w R B text lo x) (hl : lo' ≤ lo) : Dead w0 w R B text lo' x := by
  obtain ⟨h0, k, n, tat, te, fin, o, nd, h1, h2⟩ := h
  exact ⟨h0, k, n, tat, te, fin, o, nd, by omega, h2⟩
theorem JW (B : Nat) (text : List UInt8) (p : Ps) (hp : PsB text p) (w0 w : World) (R : List HP) (hS : Sat w0 w (blk B 82 (alV text p) :: R)) :
    Calls Tryz.prog 114 #[.pointer (some ⟨B, 0, none⟩)] w fun e w' => e = .returned (.tuple #[]) ∧ aft w0 w' R B text p.opn (yD p) := by
  obtain ⟨h1, h2, h3⟩ := hp
  unfold alV at hS
  unfold yD
  by_cases ho : p.nds = 65536
  · rw [if_pos ho]
    have FA := fun w R => xe B text (Yk p.tk).1 (Yk p.tk).2.1 p.at_ 0 p.fin p.opn 65536 0 8 w0 w R
    rw [ho] at hS
    unfold psV at hS FA
    generalize (Yk p.tk).1 = k at *
    generalize (Yk p.tk).2.1 = n at *
    go_enter Tryz.func114, Tryz.ntmps114
    go_wp2_with (first|((with_reducible apply yi hS);exact ya;exact yb rfl;exact yf;rfl;decide +kernel;(try simp only [Act.put,q1,q2,q3]))|((with_reducible apply yx hS);exact ya;exact yb rfl;exact yb rfl;exact yf;rfl;(focus (simp;done));exact Upd.hd;rfl;decide +kernel;clear hS;intro w hS;(try simp only [q2, q3] at hS);(try simp only [Act.put,q1,q2,q3]))|(go_at_call 80;refine (FA _ _ hS).mono ?_;clear hS;rintro e w ⟨rfl, hS⟩))
    go_end0
    exact ⟨rfl, by show (8 : Int) ≠ 0; decide, _, _, _, _, _, (p.opn : Int), (65537 : Int), by omega, by omega, by omega, by omega, hS⟩
  · rw [if_neg ho]
    have ho2 : ((p.nds : Int) == 65536) = false := by simp; omega
    unfold psV at hS
    go_enter Tryz.func114, Tryz.ntmps114
    go_wp2_with (first|((with_reducible apply yi hS);exact ya;exact yb rfl;exact yf;rfl;decide +kernel;(try simp only [Act.put,q1,q2,q3]))|((with_reducible apply yx hS);exact ya;exact yb rfl;exact yb rfl;exact yf;rfl;(focus (simp;done));exact Upd.hd;rfl;decide +kernel;clear hS;intro w hS;(try simp only [q2, q3] at hS);(try simp only [Act.put,q1,q2,q3])))
    go_end0
    exact ⟨rfl, ⟨h1, by dsimp only; omega, h3⟩, hS⟩
theorem isY (B : Nat) (text : List UInt8) (hl : text.length ≤ 1048576) (p : Ps) (hp : PsB text p) (w0 w : World) (hSig : kZ w0) (R : List HP) (hbm : YT w0 ∈ R) (hS : Sat w0 w (blk B 82 (alV text p) :: R)) (c : Int) (hc : knd p = c) :
    Calls Tryz.prog 83 #[.pointer (some ⟨B, 0, none⟩), .int .i64 c] w fun e w' => e = .returned (.bool true) ∧ aft w0 w' R B text p.opn (yV text p) := by
  have AC := fun w R hbm hS => us B text hl p hp w0 w hSig R hbm hS
  subst hc
  unfold knd
  unfold alV psV at hS AC
  generalize yV text p = r at *
  generalize (Yk p.tk).1 = k at *
  generalize (Yk p.tk).2.1 = n at *
  go_enter Tryz.func83, Tryz.ntmps83
  go_wp2_with (first|((with_reducible apply yi hS);(first|with_reducible exact ya|exact yg rfl rfl);exact yb rfl;exact yf;rfl;decide +kernel;(try simp only [Act.put,q1,q2,q3]))|(go_at_call 37;refine (AC _ _ hbm hS).mono ?_;clear hS;rintro e w ⟨rfl, hS⟩))
  go_ret
  exact ⟨rfl, hS⟩
theorem needC (B : Nat) (text : List UInt8) (hl : text.length ≤ 1048576) (p : Ps) (hp : PsB text p) (w0 w : World) (hSig : kZ w0) (R : List HP) (hbm : YT w0 ∈ R) (hS : Sat w0 w (blk B 82 (alV text p) :: R)) (c : Int) :
    Calls Tryz.prog 39 #[.pointer (some ⟨B, 0, none⟩), .int .i64 c] w fun e w' => e = .returned (.tuple #[]) ∧ aft w0 w' R B text p.opn (yU text c p) := by
  unfold yU
  by_cases hc : knd p = c
  · rw [if_pos hc]
    have IY := fun w R hbm hS => isY B text hl p hp w0 w hSig R hbm hS c hc
    subst hc
    unfold knd at *
    unfold alV psV at hS IY
    generalize yV text p = r at *
    generalize (Yk p.tk).1 = k at *
    generalize (Yk p.tk).2.1 = n at *
    go_enter Tryz.func39, Tryz.ntmps39
    go_wp2_with (first|((with_reducible apply yi hS);(first|with_reducible exact ya|exact yg rfl rfl);exact yb rfl;exact yf;rfl;decide +kernel;(try simp only [Act.put,q1,q2,q3]))|(go_at_call 83;refine (IY _ _ hbm hS).mono ?_;clear hS;rintro e w ⟨rfl, hS⟩))
    go_end0
    exact ⟨rfl, hS⟩
  · rw [if_neg hc]
    obtain ⟨h1, h2, h3⟩ := hp
    have FA := fun w R => xe B text (Yk p.tk).1 (Yk p.tk).2.1 p.at_ 0 p.fin p.opn p.nds 0 131 w0 w R
    have ID := fun w R => isD B text (Yk p.tk).1 (Yk p.tk).2.1 p.at_ 0 p.fin p.opn p.nds 131 p.at_ c (by decide) w0 w R
    unfold knd at hc
    unfold alV psV at hS
    unfold psV at FA ID
    generalize (Yk p.tk).1 = k at *
    generalize (Yk p.tk).2.1 = n at *
    have hc2 : (k != c) = true := by simp [hc]
    go_enter Tryz.func39, Tryz.ntmps39
    go_wp2_with (first|((with_reducible apply yi hS);(first|with_reducible exact ya|exact yg rfl rfl);exact yb rfl;exact yf;rfl;decide +kernel;(try simp only [Act.put,q1,q2,q3]))|(go_at_call 80;refine (FA _ _ hS).mono ?_;clear hS;rintro e w ⟨rfl, hS⟩)|(go_at_call 83;refine (ID _ _ hS).mono ?_;clear hS;rintro e w ⟨rfl, hS⟩))
    go_end0
    exact ⟨rfl, by show (131 : Int) ≠ 0; decide, _, _, _, _, _, (p.opn : Int), (p.nds : Int), by omega, by omega, by omega, by omega, hS⟩
end
section
set_option maxRecDepth 20000
open Go Go.RowKit Go.SL Go.ClauseP Go.LexP

def meas (text : List UInt8) (p : Ps) : Nat := if knd p = 0 then 0 else text.length + 1 - p.fin
theorem Jl (text : List UInt8) (k : Nat) (hk : k ≤ text.length) : (yS text k).tk = .fin ∨ k < (yS text k).fin := by
  obtain ⟨h1, h2⟩ := Ui text k hk
  unfold yS
  split
  · exact .inl rfl
  · rename_i h
    have := uK (text.drop (Yh text k)) (by
      intro e
      have := congrArg List.length e
      rw [List.length_drop] at this
      simp at this
      omega)
    exact .inr (by dsimp only; omega)
theorem ji {text : List UInt8} {p q : Ps} (h : yV text p = .inr q) : q = ⟨(yS text p.fin).tk, (yS text p.fin).at_, (yS text p.fin).fin, p.opn, p.nds⟩ := by
  by_cases hb : ∃ e, (yS text p.fin).tk = .bad e
  · obtain ⟨e, hb⟩ := hb
    rw [uF text p e hb] at h
    cases h
  · rw [Gj text p hb] at h
    injection h with h
    exact h.symm
theorem jj {text : List UInt8} {p q : Ps} (hp : PsB text p) (hk : knd p ≠ 0) (h : yV text p = .inr q) : meas text q < meas text p ∧ q.opn = p.opn ∧ q.nds = p.nds := by
  obtain rfl := ji h
  refine ⟨?_, rfl, rfl⟩
  have h3 := hp.2.2.1
  unfold meas
  rw [if_neg hk]
  have hb := jg text p.fin h3
  rcases Jl text p.fin h3 with hf | hf
  · rw [if_pos (by unfold knd; dsimp only; rw [hf]; rfl)]
    omega
  · split
    · omega
    · dsimp only; omega
def IfV (v : Value) : Prop := v = .nilIface ∨ ∃ K b, v = .iface K (.pointer (some ⟨b, 0, none⟩))
def okR (w0 w : World) (R : List HP) (H : Hp) (B : Nat) (text : List UInt8) (p : Ps) (v : Value) : Rt → Prop
  | .inl x => IfV v ∧ ∃ H', Ext H H' ∧ Dead w0 w (fz H' :: R) B text p.opn x
  | .inr (t, q) => PsB text q ∧ q.opn = p.opn ∧ meas text q ≤ meas text p ∧ p.nds + size t ≤ q.nds ∧ okT t ∧ ∃ H', Ext H H' ∧ InT H' t v ∧ Sat w0 w (blk B 82 (alV text q) :: fz H' :: R)
def LvA (text : List UInt8) (f b n : Nat) : Prop := ∀ (B : Nat) (p : Ps) (w0 w : World) (R : List HP) (H : Hp), PsB text p → meas text p ≤ n → kZ w0 → YT w0 ∈ R → Sat w0 w (blk B 82 (alV text p) :: fz H :: R) →
  Calls Tryz.prog f #[.pointer (some ⟨B, 0, none⟩)] w fun e w' => ∃ v, e = .returned v ∧ ∃ r, RD text (.lvl b) p r ∧ okR w0 w' R H B text p v r
def LvD (text : List UInt8) (f : Nat) : Prop := ∀ (B : Nat) (k n tat te fin o nd d a : Int) (w0 w : World) (R : List HP), d ≠ 0 → Sat w0 w (blk B 82 (psV text k n tat te fin o nd d a) :: R) →
  Calls Tryz.prog f #[.pointer (some ⟨B, 0, none⟩)] w fun e w' => e = .returned .nilIface ∧ Sat w0 w' (blk B 82 (psV text k n tat te fin o nd d a) :: R)
def jY (text : List UInt8) (B : Nat) (w : World) : Nat := match w.cell? ⟨B, 8, none⟩, w.cell? ⟨B, 1, none⟩, w.cell? ⟨B, 5, none⟩ with
  | some (.int _ e), some (.int _ k), some (.int _ f) => if e ≠ 0 then 0 else (if k = 0 then 0 else text.length + 1 - f.toNat) + 1
  | _, _, _ => 0
theorem kA {text : List UInt8} {B : Nat} {w0 w : World} {Hs : List HP} {q : Ps} (hS : Sat w0 w Hs) (hm : blk B 82 (alV text q) ∈ Hs) : jY text B w = meas text q + 1 := by
  have h8 := hS.cell hm (show (alV text q)[8]? = some (.int .i64 0) from rfl)
  have h1 := hS.cell hm (show (alV text q)[1]? = some (.int .i64 (Yk q.tk).1) from rfl)
  have h5 := hS.cell hm (show (alV text q)[5]? = some (.int .i64 q.fin) from rfl)
  unfold jY meas knd
  rw [h8, h1, h5]
  simp
theorem Ys {text : List UInt8} {B : Nat} {w0 w : World} {Hs : List HP} {k n tat te fin o nd d a : Int} (hd : d ≠ 0) (hS : Sat w0 w Hs) (hm : blk B 82 (psV text k n tat te fin o nd d a) ∈ Hs) : jY text B w = 0 := by
  have h8 := hS.cell hm (show (psV text k n tat te fin o nd d a)[8]? = some (.int .i64 d) from rfl)
  have h1 := hS.cell hm (show (psV text k n tat te fin o nd d a)[1]? = some (.int .i64 k) from rfl)
  have h5 := hS.cell hm (show (psV text k n tat te fin o nd d a)[5]? = some (.int .i64 fin) from rfl)
  unfold jY
  rw [h8, h1, h5]
  simp [hd]
end
section
set_option maxRecDepth 20000
open Go Go.RowKit Go.SL Go.ClauseP Go.LexP

theorem chainD5 (text : List UInt8) (hD : LvD text 162) (B : Nat) (k n tat te fin o nd d a c op : Int) (w0 w : World) (R : List HP) (hd : d ≠ 0) (hS : Sat w0 w (blk B 82 (psV text k n tat te fin o nd d a) :: R)) :
    Calls Tryz.prog 81 #[.pointer (some ⟨B, 0, none⟩), .int .i64 c, .int .i64 op, .func (.func 162) #[.pointer (some ⟨B, 0, none⟩)] #[]] w fun e w' => e = .returned .nilIface ∧ Sat w0 w' (blk B 82 (psV text k n tat te fin o nd d a) :: R) := by
  have GD := fun w R hS => hD B k n tat te fin o nd d a w0 w R hd hS
  unfold psV at hS GD
  have hd2 : (d == 0) = false := by simp [hd]
  go_enter Tryz.func81, Tryz.ntmps81
  go_wp2_with (go_at_call 162; refine (GD _ _ hS).mono ?_; clear hS; rintro e w ⟨rfl, hS⟩)
  go_loopw [9] (fun x wr => x = .nilIface ∧ Sat w0 wr (blk B 82 [.string ⟨text.toArray⟩, .int .i64 k, .int .i64 n, .int .i64 tat, .int .i64 te, .int .i64 fin, .int .i64 o, .int .i64 nd, .int .i64 d, .int .i64 a] :: R)) (fun _ _ => 0)
  case atStart => exact ⟨rfl, hS⟩
  case round =>
    clear hS
    obtain ⟨rfl, hS⟩ := hrel
    go_wp2_with ((with_reducible apply yi hS);exact ya;exact yb rfl;exact yf;rfl;decide +kernel;(try simp only [Act.put,q1,q2,q3]))
    go_ret
    exact ⟨rfl, hS⟩
theorem KE (B : Nat) (text : List UInt8) (lo : Nat) (x : Int × Nat) (w0 w : World) (R : List HP) (h : Dead w0 w R B text lo x) :
    Calls Tryz.prog 37 #[.pointer (some ⟨B, 0, none⟩)] w fun e w' => e = .returned (.tuple #[]) ∧ Dead w0 w' R B text lo x := by
  obtain ⟨h0, k, n, tat, te, fin, o, nd, h1, h2, h3, h4, hS⟩ := h
  refine (advD B text k n tat te fin o nd x.1 x.2 h0 w0 w R hS).mono ?_
  rintro e w' ⟨rfl, hS⟩
  exact ⟨rfl, h0, k, n, tat, te, fin, o, nd, h1, h2, h3, h4, hS⟩
theorem kS (text : List UInt8) (f : Nat) (hD : LvD text f) (B : Nat) (lo : Nat) (x : Int × Nat) (w0 w : World) (R : List HP) (h : Dead w0 w R B text lo x) :
    Calls Tryz.prog f #[.pointer (some ⟨B, 0, none⟩)] w fun e w' => e = .returned .nilIface ∧ Dead w0 w' R B text lo x := by
  obtain ⟨h0, k, n, tat, te, fin, o, nd, h1, h2, h3, h4, hS⟩ := h
  refine (hD B k n tat te fin o nd x.1 x.2 w0 w R h0 hS).mono ?_
  rintro e w' ⟨rfl, hS⟩
  exact ⟨rfl, h0, k, n, tat, te, fin, o, nd, h1, h2, h3, h4, hS⟩
def chSt (w0 : World) (R : List HP) (H : Hp) (B : Nat) (text : List UInt8) (b : Nat) (p : Ps) (xv : Value) (w : World) : (Int × Nat) ⊕ (T × Ps × Hp) → Prop
  | .inl x => IfV xv ∧ RD text (.lvl b) p (.inl x) ∧ ∃ H', Ext H H' ∧ Dead w0 w (fz H' :: R) B text p.opn x
  | .inr (t, q, H') => Ext H H' ∧ InT H' t xv ∧ PsB text q ∧ q.opn = p.opn ∧ meas text q ≤ meas text p ∧ p.nds + size t ≤ q.nds ∧ okT t ∧ (∀ r, RD text (.loop b t) q r → RD text (.lvl b) p r) ∧ Sat w0 w (blk B 82 (alV text q) :: fz H' :: R)
set_option maxHeartbeats 4000000 in
theorem chainA5 (text : List UInt8) (hl : text.length ≤ 1048576) (n : Nat) (hA : LvA text 162 6 n) (hD : LvD text 162) (B : Nat) (p : Ps) (w0 w : World) (R : List HP) (H : Hp) (hp : PsB text p) (hm : meas text p ≤ n) (hSig : kZ w0) (hbm : YT w0 ∈ R)
    (hS : Sat w0 w (blk B 82 (alV text p) :: fz H :: R)) :
    Calls Tryz.prog 81 #[.pointer (some ⟨B, 0, none⟩), .int .i64 4, .int .i64 6, .func (.func 162) #[.pointer (some ⟨B, 0, none⟩)] #[]] w fun e w' => ∃ v, e = .returned v ∧ ∃ r, RD text (.lvl 5) p r ∧ okR w0 w' R H B text p v r := by
  have UA := hA B p w0 w R H hp hm hSig hbm hS
  go_enter Tryz.func81, Tryz.ntmps81
  go_wp2_with (go_at_call 162; refine UA.mono ?_; clear hS UA; rintro e w ⟨v, rfl, r, hrd, hok⟩)
  go_loopw [9] (fun x wr => ∃ s, chSt w0 R H B text 5 p x wr s) (fun _ wr => jY text B wr)
  case atStart =>
    rcases r with x | ⟨t, q⟩
    · exact ⟨.inl x, hok.1, .lvlE (by decide) hrd, hok.2⟩
    · obtain ⟨h1, h2, h3, h4, h5, H', h6, h7, hS⟩ := hok
      exact ⟨.inr (t, q, H'), h6, h7, h1, h2, h3, h4, h5, fun r h => .lvlK (by decide) hrd h, hS⟩
  case round =>
    clear hok hrd
    obtain ⟨s, hs⟩ := hrel
    rcases s with x | ⟨t, q, H1⟩
    · obtain ⟨hv, hrd, H1, hx, h0, k, n, tat, te, fin, o, nd, h1, h2, h3, h4, hS⟩ := hs
      have hd2 : (x.1 == 0) = false := by simp [h0]
      unfold psV at hS
      have HX : Hid (x.1 = x.1) := hid rfl
      obtain ⟨d, a⟩ := x
      dsimp only at *
      go_wp2_with ((with_reducible apply yi hS);exact ya;exact yb rfl;exact yf;rfl;decide +kernel;(try simp only [Act.put,q1,q2,q3]))
      go_ret
      exact ⟨_, rfl, .inl (d, a), hrd, hv, H1, hx, h0, k, n, tat, te, fin, o, nd, h1, h2, h3, h4, hS⟩
    · obtain ⟨hx, hi, hq, ho, hmm, hsz, hok, hR, hS⟩ := hs
      have hM := kA hS yf
      have hS0 := hS
      unfold alV psV at hS
      by_cases hk : knd q = 4
      · have hkk : ((Yk q.tk).1 == 4) = true := by simpa [knd] using hk
        have MC := JW B text q hq w0 wr (fz H1 :: R) hS0
        rcases hmk : yD q with ⟨d, a⟩ | q1
        · rw [hmk] at MC
          have hth : yu (yD q) (yV text) = .inl (d, a) := by rw [hmk]; rfl
          clear hmk
          go_wp2_with (first|((with_reducible apply yi hS);(first|with_reducible exact ya|exact yg rfl rfl);exact yb rfl;exact yf;rfl;decide +kernel;(try simp only [Act.put,q1,q2,q3]))|(go_at_call 114;refine MC.mono ?_;clear MC hS hS0;rintro e w ⟨rfl, hDd⟩)|(go_at_call 37;refine (KE B text _ _ w0 _ _ hDd).mono ?_;clear hDd;rintro e w ⟨rfl, hDd⟩)|(go_at_call 162;refine (kS text _ hD B _ _ w0 _ _ hDd).mono ?_;clear hDd;rintro e w ⟨rfl, h0, k, n, tat, te, fin, o, nd, h1, h2, h3, h4, hS⟩;have hd2 : (d == 0) = false := (by simpa using h0);unfold psV at hS;dsimp only at hS))
          go_roundw
          case rel => exact ⟨.inl (d, a), .inr hi.form, hR _ (.loopA hk hth), H1, hx, h0, k, n, tat, te, fin, o, nd, by omega, h2, h3, h4, hS⟩
          case measure =>
            have := Ys (text := text) h0 hS yf
            omega
        · have hq1o : q1.opn = q.opn ∧ q1.nds = q.nds + 1 ∧ meas text q1 = meas text q ∧ knd q1 = knd q := by
            unfold yD at hmk
            split at hmk
            · cases hmk
            · injection hmk with hmk
              subst hmk
              exact ⟨rfl, rfl, rfl, rfl⟩
          obtain ⟨o1, o2, o3, o4⟩ := hq1o
          rw [hmk] at MC
          rcases had : yV text q1 with ⟨d, a⟩ | q2
          · have hth : yu (yD q) (yV text) = .inl (d, a) := by rw [hmk]; exact had
            have AC := fun w hq1 hS => us B text hl q1 hq1 w0 w hSig (fz H1 :: R) (List.mem_cons_of_mem _ hbm) hS
            rw [had] at AC
            clear hmk had
            go_wp2_with (first|((with_reducible apply yi hS);(first|with_reducible exact ya|exact yg rfl rfl);exact yb rfl;exact yf;rfl;decide +kernel;(try simp only [Act.put,q1,q2,q3]))|(go_at_call 114;refine MC.mono ?_;clear MC hS hS0;rintro e w ⟨rfl, hq1, hS⟩)|(go_at_call 37;refine (AC _ hq1 hS).mono ?_;clear AC hS;rintro e w ⟨rfl, hDd⟩)|(go_at_call 162;refine (kS text _ hD B _ _ w0 _ _ hDd).mono ?_;clear hDd;rintro e w ⟨rfl, h0, k, n, tat, te, fin, o, nd, h1, h2, h3, h4, hS⟩;have hd2 : (d == 0) = false := (by simpa using h0);unfold psV at hS;dsimp only at hS))
            go_roundw
            case rel => exact ⟨.inl (d, a), .inr hi.form, hR _ (.loopA hk hth), H1, hx, h0, k, n, tat, te, fin, o, nd, by omega, h2, h3, h4, hS⟩
            case measure =>
              have := Ys (text := text) h0 hS yf
              omega
          · have hth : yu (yD q) (yV text) = .inr q2 := by rw [hmk]; exact had
            have AC := fun w hq1 hS => us B text hl q1 hq1 w0 w hSig (fz H1 :: R) (List.mem_cons_of_mem _ hbm) hS
            rw [had] at AC
            have hms : ∀ hq1 : PsB text q1, meas text q2 < meas text q1 ∧ q2.opn = q1.opn ∧ q2.nds = q1.nds := fun hq1 => jj hq1 (by rw [o4, hk]; decide) had
            have UA := fun w hq2 hm2 hS => hA B q2 w0 w R H1 hq2 hm2 hSig hbm hS
            clear hmk had
            go_wp2_with (first|((with_reducible apply yi hS);(first|with_reducible exact ya|exact yg rfl rfl);exact yb rfl;exact yf;rfl;decide +kernel;(try simp only [Act.put,q1,q2,q3]))|(go_at_call 114;refine MC.mono ?_;clear MC hS hS0;rintro e w ⟨rfl, hq1, hS⟩)|(go_at_call 37;refine (AC _ hq1 hS).mono ?_;clear AC hS;rintro e w ⟨rfl, hq2, hS⟩;obtain ⟨m1, m2, m3⟩ := hms hq1;clear hms)|(go_at_call 162;refine (UA _ hq2 (by omega) hS).mono ?_;clear UA hS;rintro e w ⟨y, rfl, r3, hrd, hok3⟩;rcases r3 with ⟨d, a⟩|⟨t2, q3⟩;(focus (obtain ⟨hy, H3, hx3, h0, k, n, tat, te, fin, o, nd, h1, h2, h3, h4, hS⟩ := hok3));(have hd2 : (d == 0) = false := (by simpa using h0));(unfold psV at hS);(dsimp only at hS);rotate_left 1;(obtain ⟨c1, c2, c3, c4, c5, H3, hx3, hi3, hS⟩ := hok3);(unfold alV psV at hS);rotate_left 1)|(go_at_call 71;refine (xf 6 (by unfold i64;omega) t t2 hok.ops c5.ops (by have := hq.2.1;omega) (by have := c1.2.1;omega) _ _ H3 (InT.ext hx3 hi) hi3 w0 _ (blk B 82 (alV text q3) :: R) (by unfold alV psV;exact hS.sb (by (repeat (first|with_reducible exact Sb.refl|(with_reducible refine Sb.take (by (repeat (with_reducible first|exact Rem.hd|apply Rem.tl));done) ?_)))))).mono ?_;clear hS;rintro e w ⟨z, rfl, H4, hx4, hi4, hS⟩))
            · go_roundw
              case rel => exact ⟨.inl (d, a), .inr hi.form, hR _ (.loopE hk hth hrd), H3, hx.trans hx3, h0, k, n, tat, te, fin, o, nd, by omega, h2, h3, h4, hS⟩
              case measure =>
                have := Ys (text := text) h0 hS yf
                omega
            · have hS4 : Sat w0 _ (blk B 82 (alV text q3) :: fz H4 :: R) := hS.sb (by (repeat (first | with_reducible exact Sb.refl | (with_reducible refine Sb.take (by (repeat (with_reducible first | exact Rem.hd | apply Rem.tl)); done) ?_))))
              go_roundw
              case rel => exact ⟨.inr (.bin 6 t t2, q3, H4), (hx.trans hx3).trans hx4, hi4, c1, by omega, by omega, by simp only [size]; omega, ⟨by decide, by decide, hok, c5⟩, fun r h => hR r (.loopK hk hth hrd h), hS4⟩
              case measure =>
                have := kA hS4 yf
                omega
      · have hkk : ((Yk q.tk).1 == 4) = false := by simpa [knd] using hk
        go_wp2_with ((with_reducible apply yi hS);(first|with_reducible exact ya|exact yg rfl rfl);exact yb rfl;exact yf;rfl;decide +kernel;(try simp only [Act.put,q1,q2,q3]))
        go_ret
        exact ⟨_, rfl, .inr (t, q), hR _ (.loopN hk), hq, ho, hmm, hsz, hok, H1, hx, hi, hS0⟩
end
end Go.Proofs.YthackanffcaejaaGreatDoor
