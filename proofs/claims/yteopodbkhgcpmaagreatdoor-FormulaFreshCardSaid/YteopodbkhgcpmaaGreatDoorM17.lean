/- A part of the proof: Rx9. -/
import Derived.Test.YteopodbkhgcpmaaGreatDoorM1
import Derived.Test.YteopodbkhgcpmaaGreatDoorM8
import Derived.Test.YteopodbkhgcpmaaGreatDoorM11
import Derived.Test.YteopodbkhgcpmaaGreatDoorM12
import Derived.Test.YteopodbkhgcpmaaGreatDoorM13
import Derived.Test.YteopodbkhgcpmaaGreatDoorM16
set_option linter.unusedSimpArgs false
set_option linter.unusedVariables false
set_option linter.unusedSectionVars false
namespace Go.Proofs.YteopodbkhgcpmaaGreatDoor
section
set_option maxRecDepth 100000
open Go Go.RowKit Go.SL Go.ClauseP Go.LexP
-- GREAT

set_option maxHeartbeats 4000000 in
theorem parseDL (text:List UInt8) (ht:text.length≤140737488351232) (hlong:1048576 < text.length) (w0 w:World) (R:List HP) (hS:Sat w0 w R) :
  Calls Tryz.prog 7 #[.string ⟨text.toArray⟩] w fun e w'=>e=.returned (.tuple #[.slice none 0 0,.agg #[.int .i64 5,.int .i64 0,.int .i64 0]])∧Sat w0 w' R:=by
 have hli:(1048576:Int) < (text.length:Int):=by omega
 clear hlong
 go_enter Tryz.func7,Tryz.ntmps7
 go_wp2_with ((first|((with_reducible apply yk hS);exact ya;exact z28;clear hS;intro NB w hS)|((with_reducible apply yi hS);exact ya;exact yb rfl;exact yb rfl;exact ye;rfl;(focus (simp;done));exact Upd.hd;rfl;exact sz28;rfl;clear hS;intro w hS;(try simp only[yp,qS] at hS)));try simp only[qA])
 refine bodyPost_ret (yE rfl rfl rfl (hS.loadWhole (by(exact ye)) (by kernel_rfl) (by kernel_rfl))) rfl ?_
 exact⟨rfl,hS.sb (by(repeat (with_reducible first|exact Sb.refl|apply Sb.skip)))⟩
theorem at_le (text:List UInt8) (k:Nat) (hk:k≤text.length):(yP text k).at_≤text.length:=(je text k hk).2.2
theorem closeStp (m:MS) (q:Int) (rs:List Wt × List (Int × Int) × Nat):((kF m.nds rs).1=0∧Kf m q rs=.go (kF m.nds rs).2 1 q)∨((kF m.nds rs).1=131∧Kf m q rs=.err 131):=by
 obtain⟨S,o,k⟩:=rs
 cases S with
 | nil=>exact .inr ⟨rfl,rfl⟩
 | cons x S=>cases x with
  | opn=>exact .inl ⟨rfl,rfl⟩
  | ite n =>
   simp only[kF,Kf]
   by_cases h:n=2
   ·rw[if_pos h,if_pos h];exact .inl ⟨rfl,rfl⟩
   ·rw[if_neg h,if_neg h];exact .inr ⟨rfl,rfl⟩
  | _=>exact .inr ⟨rfl,rfl⟩
theorem commaStp (m:MS) (q:Int) (rs:List Wt × List (Int × Int) × Nat):((kP m.nds rs).1=0∧KP m q rs=.go (kP m.nds rs).2 0 q)∨((kP m.nds rs).1=131∧KP m q rs=.err 131):=by
 obtain⟨S,o,k⟩:=rs
 cases S with
 | nil=>exact .inr ⟨rfl,rfl⟩
 | cons x S=>cases x with
  | ite n =>
   simp only[kP,KP]
   by_cases h:2≤n
   ·rw[if_pos h,if_pos h];exact .inr ⟨rfl,rfl⟩
   ·rw[if_neg h,if_neg h];exact .inl ⟨rfl,rfl⟩
  | _=>exact .inr ⟨rfl,rfl⟩
theorem kd_ne (x:Wt) (S:List Wt):kd (x::S)≠0:=by cases x <;> simp[kd,wtN]
theorem top_nil (B:Nat) (out:List (Int × Int)) (opn nds:Nat) (hm:(MS.mk [] out opn nds).st.length≤200000) (w0 w:World) (R:List HP) (h:MSt w0 w R B ⟨[],out,opn,nds⟩) :
  Calls Tryz.prog 31 #[.pointer (some ⟨B,0,none⟩)] w fun e w'=>e=.returned (.int .i64 0)∧MSt w0 w' R B ⟨[],out,opn,nds⟩:=topM B ⟨[],out,opn,nds⟩ hm w0 w R h
theorem kinds0 {tk:Tk} (h:YL tk) (hq:tk=.fin∨(∃ o,tk=.op o)∨tk=.cls∨tk=.comma∨tk=.colon):(Yq tk).1≠1∧(Yq tk).1≠2∧(Yq tk).1≠3∧(Yq tk).1≠4∧(Yq tk).1≠5∧(Yq tk).1≠6∧(Yq tk).1≠8:=by
 rcases hq with rfl|⟨o,rfl⟩|rfl|rfl|rfl <;> simp[Yq]
theorem else0 {tk:Tk} {m:MS} {q:Int} (h:YL tk) (hq:tk=.fin∨(∃ o,tk=.op o)∨tk=.cls∨tk=.comma∨tk=.colon):yB m 0 q tk=.err 131:=by
 rcases hq with rfl|⟨o,rfl⟩|rfl|rfl|rfl <;> simp[yB]
theorem kinds2 {tk:Tk} (h:YL tk) (hq:¬ tk=.opn):(Yq tk).1≠1∧(Yq tk).1≠8:=by cases tk <;> simp_all [Yq,YL]
theorem else2 {tk:Tk} {m:MS} {q:Int} (h:YL tk) (hq:¬ tk=.opn):yB m 2 q tk=.err 131:=by cases tk <;> simp_all [yB,YL]
theorem kinds3 {tk:Tk} (h:YL tk) (hq:¬ ∃ n,tk=.var n):(Yq tk).1≠1∧(Yq tk).1≠3:=by cases tk <;> simp_all [Yq,YL]
theorem else3 {tk:Tk} {m:MS} {q:Int} (h:YL tk) (hq:¬ ∃ n,tk=.var n):yB m 3 q tk=.err 131:=by cases tk <;> simp_all [yB,YL]
theorem kinds4 {tk:Tk} (h:YL tk) (hq:¬ (tk=.comma∨tk=.colon)):(Yq tk).1≠1∧(Yq tk).1≠10∧(Yq tk).1≠11:=by cases tk <;> simp_all [Yq,YL]
theorem else4 {tk:Tk} {m:MS} {q:Int} (h:YL tk) (hq:¬ (tk=.comma∨tk=.colon)):yB m 4 q tk=.err 131:=by cases tk <;> simp_all [yB,YL]
theorem kinds1 {tk:Tk} (h:YL tk) (hq:¬ (tk=.fin∨(∃ o,tk=.op o)∨tk=.cls∨tk=.comma)):(Yq tk).1≠1∧(Yq tk).1≠7∧(Yq tk).1≠9∧(Yq tk).1≠10∧(Yq tk).1≠0:=by cases tk <;> simp_all [Yq,YL]
theorem else1 {tk:Tk} {m:MS} {q:Int} (h:YL tk) (hq:¬ (tk=.fin∨(∃ o,tk=.op o)∨tk=.cls∨tk=.comma)):yB m 1 q tk=.err 131:=by cases tk <;> simp_all [yB,YL]
theorem ug {tk:Tk} {q:Int} (m:MS) (ht:tk=.opn∨tk=.ite∨tk=.not):((YQ tk m).1≠0→yB m 0 q tk=.err (YQ tk m).1)∧((YQ tk m).1=0→yB m 0 q tk=.go (YQ tk m).2 (if tk=.ite then 2 else 0) q):=by
 rcases ht with rfl|rfl|rfl
 ·simp only[yB,YE,YQ,if_true]
  by_cases h:64≤m.opn
  ·rw[if_pos h,if_pos h];exact⟨fun _=>rfl,fun h=>by have h:(132:Int)=0:=h;exact absurd h (by decide)⟩
  ·rw[if_neg h,if_neg h];exact⟨fun h=>absurd rfl h,fun _=>rfl⟩
 ·simp only[yB,YE,Yk,YQ,if_true]
  by_cases h:64≤m.opn
  ·rw[if_pos h,if_pos h];exact⟨fun _=>rfl,fun h=>by have h:(132:Int)=0:=h;exact absurd h (by decide)⟩
  ·rw[if_neg h,if_neg h]
   by_cases h6:65536≤m.nds
   ·rw[if_pos h6,if_pos h6];exact⟨fun _=>rfl,fun h=>by have h:(8:Int)=0:=h;exact absurd h (by decide)⟩
   ·rw[if_neg h6,if_neg h6];exact⟨fun h=>absurd rfl h,fun _=>rfl⟩
 ·simp only[yB,YE,Yk,YQ,if_true]
  by_cases h:64≤m.opn
  ·rw[if_pos h,if_pos h];exact⟨fun _=>rfl,fun h=>by have h:(132:Int)=0:=h;exact absurd h (by decide)⟩
  ·rw[if_neg h,if_neg h]
   by_cases h6:65536≤m.nds
   ·rw[if_pos h6,if_pos h6];exact⟨fun _=>rfl,fun h=>by have h:(8:Int)=0:=h;exact absurd h (by decide)⟩
   ·rw[if_neg h6,if_neg h6];exact⟨fun h=>absurd rfl h,fun _=>rfl⟩
def PInv (w0:World) (R:List HP) (MB FB:Nat) (text:List UInt8) (m:MS) (want q:Int) (k:Nat) (wr:World):Prop :=
 (want=0∨want=1∨want=2∨want=3∨want=4)∧k≤text.length∧MInv m∧Hid (∀ r,MRun text m want q (yP text k) r→MRun text m00 0 0 (yP text 0) r)∧MSt w0 wr (blk FB 28 [.int .i64 0,.int .i64 0,.int .i64 0]::R) MB m
set_option maxHeartbeats 16000000 in
theorem parseD (text:List UInt8) (hl:text.length≤1048576) (w0 w:World) (hSig:SigR w0) (R:List HP) (hbm:YF w0∈R) (hS:Sat w0 w R) :
  Calls Tryz.prog 7 #[.string ⟨text.toArray⟩] w fun e w'=>∃ r,MRun text m00 0 0 (yP text 0) r∧fnQ text w0 R e w' r:=by
 have hli:(text.length:Int)≤1048576:=by omega
 have hld:decide ((1048576:Int) < (text.length:Int))=false:=by simp;omega
 go_enter Tryz.func7,Tryz.ntmps7
 go_wp2_with ((first|((with_reducible apply yH hS);exact ya;exact yb rfl;exact yw;clear hS;intro MB w hS)|((with_reducible apply yk hS);exact ya;exact z28;clear hS;intro FB w hS));try simp only[qA])
 have hS1:Sat w0 w (blk MB 70 [.slice none 0 0,.slice none 0 0,.int .i64 0,.int .i64 0]::own 78 3 none 0 0 []::own 44 2 none 0 0 []::blk FB 28 [.int .i64 0,.int .i64 0,.int .i64 0]::R):=((hS.ownNil 78 3).ownNil 44 2).sb (by(repeat (with_reducible first|exact Sb.refl|(refine Sb.take (by(repeat (first|exact Rem.hd|apply Rem.tl));done) ?_))))
 clear hS
 go_loopw [5,6,7] (fun wv qv iv wr=>∃ m want q k,wv=.int .i64 want∧qv=.int .i64 q∧iv=.int .i64 (k:Nat)∧PInv w0 R MB FB text m want q k wr) (fun _ _ iv _=>text.length+1 - (intOf iv).toNat)
 case atStart=>exact⟨m00,0,0,0,rfl,rfl,rfl,.inl rfl,Nat.zero_le _,MInv.start,hid fun r h=>h,none,0,none,0,hS1⟩
 case round =>
  clear hS1
  obtain⟨m,want,q,k,rfl,rfl,rfl,hw,hk,hinv,HRUN,ad1,c1,ad2,c2,hS⟩:=hrel
  have NC:=fun w Hs hm hS=>nextR text hl k hk w0 w hSig Hs hm hS
  have hgr:=Jo text k hk
  have hfl:=(je text k hk).2.1
  have hal:=at_le text k hk
  have htk:=JB text k
  have hplace:=hal
  generalize hT:yP text k=t at *
  obtain⟨tk,at_,fin⟩:=t
  dsimp only at *
  have HT:=hid hT
  clear hT
  have hkf:(k:Int)≤1048576:=by omega
  go_upto_region 11 with ((first|((with_reducible apply yk hS);exact ya;exact z72;clear hS;intro TB w hS)|((with_reducible apply yi hS);exact ya;exact yb rfl;exact yb rfl;exact ye;rfl;(focus (simp;done));exact Upd.hd;rfl;exact sz72;rfl;clear hS;intro w hS;(try simp only[yp,qS] at hS))|((with_reducible apply yh hS);exact ya;exact yb rfl;exact ye;rfl;decide +kernel)|(go_at_call 23;refine (NC _ _ (by((repeat (with_reducible apply yd));(try assumption))) hS).mono ?_;clear hS NC;rintro e w ⟨rfl,hS⟩));try simp only[qA])
  try simp only[yp,qS] at hS
  have hmok:=hinv.small
  have SP:=spotR text at_ hal hl w0
  have HNB:Hid (∀ e,tk=.bad e→e≠0):=hid (by
   have h1:=xA text k
   rw[HT.out] at h1
   exact h1)
  generalize hsp:Yt text at_=sp at *
  obtain⟨sl,sc⟩:=sp
  dsimp only at SP
  have HSP:=hid hsp
  clear hsp HT
  have hol:m.out.length≤400000:=by have:=hmok.2.2.1;omega
  have hm:MOk m:=hmok
  clear hmok
  rcases htk with htk|⟨e,rfl⟩
  rotate_left
  ·as_aux_lemma =>
    have he0:(e != 0)=true:=by simpa using HNB.out e rfl
    simp only[Yq] at hS
    clear hinv hm HNB hgr
    have HE:=hid (show yB m want q (.bad e)=.err e from rfl)
    go_wp2_with ((first|((with_reducible apply Cont.intro);(exact Or.inl (by kernel_rfl));intro hR hC)|((first|((with_reducible apply dP 0 hC hR);(simp only[qL];rfl);decide +kernel;exact iQ;exact ya)|((with_reducible apply dP 2 hC hR);(simp only[qL];rfl);decide +kernel;exact iQ;exact ya)|((with_reducible apply dP 3 hC hR);(simp only[qL];rfl);decide +kernel;exact iQ;exact ya));(intro w;first|(go_simp;done)|(go_simp;rw[yo (by omega) (by omega)])|(go_simp;with_reducible rfl)|(go_simp;rfl));(clear hR hC;intro hR hC))|(((with_reducible apply dR 1 hC hR);(simp only[qL];rfl);decide +kernel;exact iQ;exact ya);(intro w hS;(apply yj rfl (by(exact yb rfl)));first|exact yc (by decide +kernel) (hS.cell (by(repeat (with_reducible apply yd))) rfl)|exact yc (by decide +kernel) ((hS.ownCell (by(repeat (with_reducible apply yd))) (by(rfl))).1)|exact yc (by decide +kernel) (Sat.rdCell2 (by assumption) hS (by((repeat (with_reducible apply yd)));try assumption) (by(rfl)))|exact yc (by decide +kernel) (hS.baseCell (by((repeat (with_reducible apply yd)));try assumption) (by assumption))|exact yc (by decide +kernel) (fzC (by assumption) hS (by((repeat (with_reducible apply yd)));try assumption))|exact yl hS (by assumption) (by((repeat (with_reducible apply yd)));try assumption) (by assumption) (by rfl) (by with_reducible exact sz78) (by decide +kernel) (by decide)|exact hS.loadWhole (by(exact ye)) (by kernel_rfl) (by kernel_rfl));(clear hR hC;intro hR hC))|((with_reducible apply yq (i:=4));(simp only[qL];rfl);decide +kernel;exact hC;clear hR hC)|((with_reducible apply ym);decide +kernel;clear hR hC)|(refine yt 53 5 hS (by kernel_rfl) [4] rfl ?_;clear hS;intro w hS hR hC)|((with_reducible apply yk hS);exact ya;exact z26;clear hS;intro SB w hS)|((with_reducible apply yi hS);exact ya;exact yb rfl;exact yb rfl;(repeat (with_reducible first|exact ye|apply yd));rfl;(focus (simp;done));(repeat (with_reducible first|exact Upd.hd|apply Upd.tl));rfl;(with_reducible first|exact sz26|exact sz28);rfl;clear hS;intro w hS;(try simp only[yp,qS] at hS))|((with_reducible apply yh hS);exact ya;exact yb rfl;exact ye;rfl;decide +kernel)|(go_at_call 32;refine (SP _ _ hS).mono ?_;clear hS;rintro e w ⟨rfl,hS⟩));try simp only[qA])
    refine bodyPost_ret (yE rfl rfl rfl (hS.loadWhole (b:=FB) (t:=28) (by(repeat (with_reducible first|exact ye|apply yd))) (by kernel_rfl) (by kernel_rfl))) rfl ?_
    exact⟨.inl (e,at_),HRUN.out _ (.err HE.out),by rw[HSP.out];rfl,hS.sb (by(repeat (with_reducible first|exact Sb.refl|apply Sb.skip)))⟩
  clear HNB
  rcases hw with rfl|rfl|rfl|rfl|rfl
  ·as_aux_lemma =>
    by_cases hq0:tk=.fin∨(∃ o,tk=.op o)∨tk=.cls∨tk=.comma∨tk=.colon
    ·as_aux_lemma =>
      have hk1:(Yq tk).1≠1∧(Yq tk).1≠2∧(Yq tk).1≠3∧(Yq tk).1≠4∧(Yq tk).1≠5∧(Yq tk).1≠6∧(Yq tk).1≠8:=kinds0 htk hq0
      have hes:=else0 (m:=m) (q:=q) htk hq0
      obtain⟨g1,g2,g3,g4,g5,g6,g8⟩:=hk1
      have PF:=fun a b c w R h=>prefElse MB (Yq tk).1 a b c g8 g6 g4 m w0 w R h
      generalize (Yq tk).1=kk at *
      generalize (Yq tk).2=nn at *
      have e1:(kk == 1)=false:=beq_eq_false_iff_ne.2 g1
      have e2:(kk == 2)=false:=beq_eq_false_iff_ne.2 g2
      have e3:(kk == 3)=false:=beq_eq_false_iff_ne.2 g3
      have e5:(kk == 5)=false:=beq_eq_false_iff_ne.2 g5
      have e6:(kk == 6)=false:=beq_eq_false_iff_ne.2 g6
      clear g1 g2 g3 g4 g5 g6 g8 hgr
      have HE:=hid (hes)
      go_wp2_with ((first|(go_at_call 25;refine (PF _ _ _ _ (blk TB 72 [.int .i64 kk,.int .i64 nn,.int .i64 at_,.int .i64 fin]::blk FB 28 [.int .i64 0,.int .i64 0,.int .i64 0]::R) ⟨ad1,c1,ad2,c2,hS.sb (by(repeat (with_reducible first|exact Sb.refl|(refine Sb.take (by(repeat (first|exact Rem.hd|apply Rem.tl));done) ?_))))⟩).mono ?_;clear hS PF;rintro e w ⟨rfl,m',⟨ad1,c1,ad2,c2,hS⟩,hm'⟩)|((with_reducible apply Cont.intro);(exact Or.inl (by kernel_rfl));intro hR hC)|((first|((with_reducible apply dP 0 hC hR);(simp only[qL];rfl);decide +kernel;exact iQ;exact ya)|((with_reducible apply dP 2 hC hR);(simp only[qL];rfl);decide +kernel;exact iQ;exact ya)|((with_reducible apply dP 3 hC hR);(simp only[qL];rfl);decide +kernel;exact iQ;exact ya));(intro w;first|(go_simp;done)|(go_simp;rw[yo (by omega) (by omega)])|(go_simp;with_reducible rfl)|(go_simp;rfl));(clear hR hC;intro hR hC))|(((with_reducible apply dR 1 hC hR);(simp only[qL];rfl);decide +kernel;exact iQ;exact ya);(intro w hS;(apply yj rfl (by(exact yb rfl)));first|exact yc (by decide +kernel) (hS.cell (by(repeat (with_reducible apply yd))) rfl)|exact yc (by decide +kernel) ((hS.ownCell (by(repeat (with_reducible apply yd))) (by(rfl))).1)|exact yc (by decide +kernel) (Sat.rdCell2 (by assumption) hS (by((repeat (with_reducible apply yd)));try assumption) (by(rfl)))|exact yc (by decide +kernel) (hS.baseCell (by((repeat (with_reducible apply yd)));try assumption) (by assumption))|exact yc (by decide +kernel) (fzC (by assumption) hS (by((repeat (with_reducible apply yd)));try assumption))|exact yl hS (by assumption) (by((repeat (with_reducible apply yd)));try assumption) (by assumption) (by rfl) (by with_reducible exact sz78) (by decide +kernel) (by decide)|exact hS.loadWhole (by(exact ye)) (by kernel_rfl) (by kernel_rfl));(clear hR hC;intro hR hC))|((with_reducible apply yq (i:=4));(simp only[qL];rfl);decide +kernel;exact hC;clear hR hC)|((with_reducible apply ym);decide +kernel;clear hR hC)|(refine yt 53 5 hS (by kernel_rfl) [4] rfl ?_;clear hS;intro w hS hR hC)|((with_reducible apply yk hS);exact ya;exact z26;clear hS;intro SB w hS)|((with_reducible apply yi hS);exact ya;exact yb rfl;exact yb rfl;(repeat (with_reducible first|exact ye|apply yd));rfl;(focus (simp;done));(repeat (with_reducible first|exact Upd.hd|apply Upd.tl));rfl;(with_reducible first|exact sz26|exact sz28);rfl;clear hS;intro w hS;(try simp only[yp,qS] at hS))|((with_reducible apply yh hS);(first|with_reducible exact ya|exact yf rfl (by(simp only[q4,q5,q6]);try with_reducible rfl));exact yb rfl;(repeat (with_reducible first|exact ye|apply yd));rfl;decide +kernel)|((with_reducible apply yG hS);exact ya;exact yb rfl;exact ye;exact sz72;decide +kernel;rfl;rfl)|(go_at_call 32;refine (SP _ _ hS).mono ?_;clear hS;rintro e w ⟨rfl,hS⟩));try simp only[qA])
      refine bodyPost_ret (yE rfl rfl rfl (hS.loadWhole (b:=FB) (t:=28) (by(repeat (with_reducible first|exact ye|apply yd))) (by kernel_rfl) (by kernel_rfl))) rfl ?_
      exact⟨.inl (131,at_),HRUN.out _ (.err HE.out),by rw[HSP.out];rfl,hS.sb (by(repeat (with_reducible first|exact Sb.refl|apply Sb.skip)))⟩
    ·as_aux_lemma =>
      cases tk with
      | bad e=>exact htk.elim
      | const n=>as_aux_lemma =>
        have hkf2:k < fin:=hgr.resolve_left (by simp)
        obtain⟨st,out,opn,nds⟩:=m
        dsimp only at *
        have MK:=fun w R h=>jW MB st out opn nds hm.2.2.2.2 w0 w R h
        simp only[Yq] at hS
        by_cases h6:65536≤nds
        ·as_aux_lemma =>
          simp only[if_pos h6] at MK
          have HE:=hid (show yB ⟨st,out,opn,nds⟩ 0 q (.const n)=.err 8 by simp only[yB,Yk,if_true];rw[if_pos h6])
          go_wp2_with ((first|(go_at_call 24;refine (MK _ (blk TB 72 [.int .i64 2,.int .i64 n,.int .i64 at_,.int .i64 fin]::blk FB 28 [.int .i64 0,.int .i64 0,.int .i64 0]::R) ⟨ad1,c1,ad2,c2,hS.sb (by(repeat (with_reducible first|exact Sb.refl|(refine Sb.take (by(repeat (first|exact Rem.hd|apply Rem.tl));done) ?_))))⟩).mono ?_;clear hS MK;rintro e w ⟨rfl,ad1,c1,ad2,c2,hS⟩)|((with_reducible apply Cont.intro);(first|(focus (apply Or.inr;apply (Sat.sb hS);(repeat (with_reducible first|exact Sb.refl|(refine Sb.take (by(repeat (first|exact Rem.hd|apply Rem.tl));done) ?_)|apply Sb.skip));done))|(exact Or.inl (by kernel_rfl)));intro hR hC)|((first|((with_reducible apply dP 0 hC hR);(simp only[qL];rfl);decide +kernel;exact iQ;exact ya)|((with_reducible apply dP 1 hC hR);(simp only[qL];rfl);decide +kernel;exact iQ;exact ya)|((with_reducible apply dP 2 hC hR);(simp only[qL];rfl);decide +kernel;exact iQ;exact ya)|((with_reducible apply dP 5 hC hR);(simp only[qL];rfl);decide +kernel;exact iQ;exact ya)|((with_reducible apply dP 8 hC hR);(simp only[qL];rfl);decide +kernel;exact iQ;exact ya)|((with_reducible apply dP 11 hC hR);(simp only[qL];rfl);decide +kernel;exact iQ;exact ya));(intro w;first|(go_simp;done)|(go_simp;rw[yo (by omega) (by omega)])|(go_simp;with_reducible rfl)|(go_simp;rfl));(clear hR hC;intro hR hC))|((first|((with_reducible apply dP 3 hC hR);(simp only[qL];rfl);decide +kernel;exact iQ;exact ya)|((with_reducible apply dP 6 hC hR);(simp only[qL];rfl);decide +kernel;exact iQ;exact ya)|((with_reducible apply dP 12 hC hR);(simp only[qL];rfl);decide +kernel;exact iQ;exact ya));(intro w;first|(exact yz rfl (by(exact yg)) (by assumption) (by with_reducible exact fo78_2))|(go_simp;done)|(go_simp;rw[yo (by omega) (by omega)])|(go_simp;with_reducible rfl)|(go_simp;rfl));(clear hR hC;intro hR hC))|((first|((with_reducible apply dR 4 hC hR);(simp only[qL];rfl);decide +kernel;exact iQ;exact ya)|((with_reducible apply dR 7 hC hR);(simp only[qL];rfl);decide +kernel;exact iQ;exact ya));(intro w hS;(apply yj rfl (by(exact yb rfl)));first|exact yc (by decide +kernel) (hS.cell (by(repeat (with_reducible first|exact ye|apply yd))) rfl)|exact yc (by decide +kernel) ((hS.ownCell (by(repeat (with_reducible apply yd))) (by(rfl))).1)|exact yc (by decide +kernel) (Sat.rdCell2 (by assumption) hS (by((repeat (with_reducible apply yd)));try assumption) (by(rfl)))|exact yc (by decide +kernel) (hS.baseCell (by((repeat (with_reducible apply yd)));try assumption) (by assumption))|exact yc (by decide +kernel) (fzC (by assumption) hS (by((repeat (with_reducible apply yd)));try assumption))|exact yl hS (by assumption) (by((repeat (with_reducible apply yd)));try assumption) (by assumption) (by rfl) (by with_reducible exact sz78) (by decide +kernel) (by decide)|exact hS.loadWhole (by(repeat (with_reducible apply yd))) (by kernel_rfl) (by kernel_rfl));(clear hR hC;intro hR hC))|((with_reducible apply yq (i:=9));(simp only[qL];rfl);decide +kernel;exact hC;clear hR hC)|((with_reducible apply yq (i:=10));(simp only[qL];rfl);decide +kernel;exact hC;clear hR hC)|((with_reducible apply yq (i:=13));(simp only[qL];rfl);decide +kernel;exact hC;clear hR hC)|((with_reducible apply ym);decide +kernel;clear hR hC)|(refine yt 18 14 hS (by kernel_rfl) [10,13] rfl ?_;clear hS;intro w hS hR hC)|((with_reducible apply yA hS);exact ya;exact E23;exact yb rfl;exact yw;rfl;decide;clear hS;intro NB w hS)|((with_reducible apply yD hS);exact ya;exact yb rfl;exact yb rfl;exact E23;(repeat (with_reducible first|exact Rem.hd|apply Rem.tl));(repeat (with_reducible apply Rem.tl));rfl;rfl;(omega);(omega);clear hS;intro AD CAP w hS;(try simp only[Nat.zero_add,List.nil_append] at hS))|(((with_reducible apply dR 1 hC hR);(simp only[qL];rfl);decide +kernel;exact iQ;exact ya);(intro w hS;(apply yj rfl (by(exact yb rfl)));first|exact yc (by decide +kernel) (hS.cell (by(repeat (with_reducible apply yd))) rfl)|exact yc (by decide +kernel) ((hS.ownCell (by(repeat (with_reducible apply yd))) (by(rfl))).1)|exact yc (by decide +kernel) (Sat.rdCell2 (by assumption) hS (by((repeat (with_reducible apply yd)));try assumption) (by(rfl)))|exact yc (by decide +kernel) (hS.baseCell (by((repeat (with_reducible apply yd)));try assumption) (by assumption))|exact yc (by decide +kernel) (fzC (by assumption) hS (by((repeat (with_reducible apply yd)));try assumption))|exact yl hS (by assumption) (by((repeat (with_reducible apply yd)));try assumption) (by assumption) (by rfl) (by with_reducible exact sz78) (by decide +kernel) (by decide)|exact hS.loadWhole (by(exact ye)) (by kernel_rfl) (by kernel_rfl));(clear hR hC;intro hR hC))|((with_reducible apply yq (i:=4));(simp only[qL];rfl);decide +kernel;exact hC;clear hR hC)|(refine yt 53 5 hS (by kernel_rfl) [4] rfl ?_;clear hS;intro w hS hR hC)|((with_reducible apply yk hS);exact ya;exact z26;clear hS;intro SB w hS)|((with_reducible apply yi hS);exact ya;exact yb rfl;exact yb rfl;(repeat (with_reducible first|exact ye|apply yd));rfl;(focus (simp;done));(repeat (with_reducible first|exact Upd.hd|apply Upd.tl));rfl;(with_reducible first|exact sz26|exact sz28);rfl;clear hS;intro w hS;(try simp only[yp,qS] at hS))|((with_reducible apply yh hS);(first|with_reducible exact ya|exact yf rfl (by(simp only[q4,q5,q6]);try with_reducible rfl));exact yb rfl;(repeat (with_reducible first|exact ye|apply yd));rfl;decide +kernel)|((with_reducible apply yy hS);exact ya;exact yb rfl;exact yb rfl;(repeat (with_reducible first|exact ye|apply yd));rfl;(focus (simp;done));(repeat (with_reducible first|exact Upd.hd|apply Upd.tl));rfl;decide +kernel;clear hS;intro w hS;(try simp only[qS] at hS))|(go_at_call 32;refine (SP _ _ hS).mono ?_;clear hS;rintro e w ⟨rfl,hS⟩));try simp only[qA])
          refine bodyPost_ret (yE rfl rfl rfl (hS.loadWhole (b:=FB) (t:=28) (by(repeat (with_reducible first|exact ye|apply yd))) (by kernel_rfl) (by kernel_rfl))) rfl ?_
          exact⟨.inl (8,at_),HRUN.out _ (.err HE.out),by rw[HSP.out];rfl,hS.sb (by(repeat (with_reducible first|exact Sb.refl|apply Sb.skip)))⟩
        ·as_aux_lemma =>
          simp only[if_neg h6] at MK
          have hs:=show yB ⟨st,out,opn,nds⟩ 0 q (.const n)=.go ⟨st,out++[(1,n)],opn,nds+1⟩ 1 q by simp only[yB,Yk,if_true];rw[if_neg h6]
          have HINV:=hid (YR hinv hs)
          have HRUN2:=hid (fun r h=>HRUN.out r (.go (t:=⟨_,at_,fin⟩) hs h))
          clear hs
          go_wp2_with ((first|(go_at_call 24;refine (MK _ (blk TB 72 [.int .i64 2,.int .i64 n,.int .i64 at_,.int .i64 fin]::blk FB 28 [.int .i64 0,.int .i64 0,.int .i64 0]::R) ⟨ad1,c1,ad2,c2,hS.sb (by(repeat (with_reducible first|exact Sb.refl|(refine Sb.take (by(repeat (first|exact Rem.hd|apply Rem.tl));done) ?_))))⟩).mono ?_;clear hS MK;rintro e w ⟨rfl,ad1,c1,ad2,c2,hS⟩)|((with_reducible apply Cont.intro);(first|(focus (apply Or.inr;apply (Sat.sb hS);(repeat (with_reducible first|exact Sb.refl|(refine Sb.take (by(repeat (first|exact Rem.hd|apply Rem.tl));done) ?_)|apply Sb.skip));done))|(exact Or.inl (by kernel_rfl)));intro hR hC)|((first|((with_reducible apply dP 0 hC hR);(simp only[qL];rfl);decide +kernel;exact iQ;exact ya)|((with_reducible apply dP 1 hC hR);(simp only[qL];rfl);decide +kernel;exact iQ;exact ya)|((with_reducible apply dP 2 hC hR);(simp only[qL];rfl);decide +kernel;exact iQ;exact ya)|((with_reducible apply dP 5 hC hR);(simp only[qL];rfl);decide +kernel;exact iQ;exact ya)|((with_reducible apply dP 8 hC hR);(simp only[qL];rfl);decide +kernel;exact iQ;exact ya)|((with_reducible apply dP 11 hC hR);(simp only[qL];rfl);decide +kernel;exact iQ;exact ya));(intro w;first|(go_simp;done)|(go_simp;rw[yo (by omega) (by omega)])|(go_simp;with_reducible rfl)|(go_simp;rfl));(clear hR hC;intro hR hC))|((first|((with_reducible apply dP 3 hC hR);(simp only[qL];rfl);decide +kernel;exact iQ;exact ya)|((with_reducible apply dP 6 hC hR);(simp only[qL];rfl);decide +kernel;exact iQ;exact ya)|((with_reducible apply dP 12 hC hR);(simp only[qL];rfl);decide +kernel;exact iQ;exact ya));(intro w;first|(exact yz rfl (by(exact yg)) (by assumption) (by with_reducible exact fo78_2))|(go_simp;done)|(go_simp;rw[yo (by omega) (by omega)])|(go_simp;with_reducible rfl)|(go_simp;rfl));(clear hR hC;intro hR hC))|((first|((with_reducible apply dR 4 hC hR);(simp only[qL];rfl);decide +kernel;exact iQ;exact ya)|((with_reducible apply dR 7 hC hR);(simp only[qL];rfl);decide +kernel;exact iQ;exact ya));(intro w hS;(apply yj rfl (by(exact yb rfl)));first|exact yc (by decide +kernel) (hS.cell (by(repeat (with_reducible first|exact ye|apply yd))) rfl)|exact yc (by decide +kernel) ((hS.ownCell (by(repeat (with_reducible apply yd))) (by(rfl))).1)|exact yc (by decide +kernel) (Sat.rdCell2 (by assumption) hS (by((repeat (with_reducible apply yd)));try assumption) (by(rfl)))|exact yc (by decide +kernel) (hS.baseCell (by((repeat (with_reducible apply yd)));try assumption) (by assumption))|exact yc (by decide +kernel) (fzC (by assumption) hS (by((repeat (with_reducible apply yd)));try assumption))|exact yl hS (by assumption) (by((repeat (with_reducible apply yd)));try assumption) (by assumption) (by rfl) (by with_reducible exact sz78) (by decide +kernel) (by decide)|exact hS.loadWhole (by(repeat (with_reducible apply yd))) (by kernel_rfl) (by kernel_rfl));(clear hR hC;intro hR hC))|((with_reducible apply yq (i:=9));(simp only[qL];rfl);decide +kernel;exact hC;clear hR hC)|((with_reducible apply yq (i:=10));(simp only[qL];rfl);decide +kernel;exact hC;clear hR hC)|((with_reducible apply yq (i:=13));(simp only[qL];rfl);decide +kernel;exact hC;clear hR hC)|((with_reducible apply ym);decide +kernel;clear hR hC)|(refine yt 18 14 hS (by kernel_rfl) [10,13] rfl ?_;clear hS;intro w hS hR hC)|((with_reducible apply yA hS);exact ya;exact E23;exact yb rfl;exact yw;rfl;decide;clear hS;intro NB w hS)|((with_reducible apply yD hS);exact ya;exact yb rfl;exact yb rfl;exact E23;(repeat (with_reducible first|exact Rem.hd|apply Rem.tl));(repeat (with_reducible apply Rem.tl));rfl;rfl;(omega);(omega);clear hS;intro AD CAP w hS;(try simp only[Nat.zero_add,List.nil_append] at hS))|((with_reducible apply yh hS);(first|with_reducible exact ya|exact yf rfl (by(simp only[q4,q5,q6]);try with_reducible rfl));exact yb rfl;(repeat (with_reducible first|exact ye|apply yd));rfl;decide +kernel)|((with_reducible apply yy hS);exact ya;exact yb rfl;exact yb rfl;(repeat (with_reducible first|exact ye|apply yd));rfl;(focus (simp;done));(repeat (with_reducible first|exact Upd.hd|apply Upd.tl));rfl;decide +kernel;clear hS;intro w hS;(try simp only[qS] at hS)));try simp only[qA])
          go_roundw
          case rel=>exact⟨_,1,q,fin,rfl,rfl,rfl,by decide,hfl,HINV.out,HRUN2,⟨ad1,c1,AD,CAP,by simp only[List.length_append,List.length_cons,List.length_nil,Nat.zero_add,YJ,Fs];exact hS.sb (by(repeat (with_reducible first|exact Sb.refl|(refine Sb.take (by(repeat (first|exact Rem.hd|apply Rem.tl));done) ?_)|apply Sb.skip)))⟩⟩
          case measure=>simp[intOf];omega
      | var n=>as_aux_lemma =>
        have hkf2:k < fin:=hgr.resolve_left (by simp)
        obtain⟨st,out,opn,nds⟩:=m
        dsimp only at *
        have MK:=fun w R h=>jW MB st out opn nds hm.2.2.2.2 w0 w R h
        simp only[Yq] at hS
        by_cases h6:65536≤nds
        ·as_aux_lemma =>
          simp only[if_pos h6] at MK
          have HE:=hid (show yB ⟨st,out,opn,nds⟩ 0 q (.var n)=.err 8 by simp only[yB,Yk,if_true];rw[if_pos h6])
          go_wp2_with ((first|(go_at_call 24;refine (MK _ (blk TB 72 [.int .i64 3,.int .i64 n,.int .i64 at_,.int .i64 fin]::blk FB 28 [.int .i64 0,.int .i64 0,.int .i64 0]::R) ⟨ad1,c1,ad2,c2,hS.sb (by(repeat (with_reducible first|exact Sb.refl|(refine Sb.take (by(repeat (first|exact Rem.hd|apply Rem.tl));done) ?_))))⟩).mono ?_;clear hS MK;rintro e w ⟨rfl,ad1,c1,ad2,c2,hS⟩)|((with_reducible apply Cont.intro);(first|(focus (apply Or.inr;apply (Sat.sb hS);(repeat (with_reducible first|exact Sb.refl|(refine Sb.take (by(repeat (first|exact Rem.hd|apply Rem.tl));done) ?_)|apply Sb.skip));done))|(exact Or.inl (by kernel_rfl)));intro hR hC)|((first|((with_reducible apply dP 0 hC hR);(simp only[qL];rfl);decide +kernel;exact iQ;exact ya)|((with_reducible apply dP 1 hC hR);(simp only[qL];rfl);decide +kernel;exact iQ;exact ya)|((with_reducible apply dP 2 hC hR);(simp only[qL];rfl);decide +kernel;exact iQ;exact ya)|((with_reducible apply dP 5 hC hR);(simp only[qL];rfl);decide +kernel;exact iQ;exact ya)|((with_reducible apply dP 8 hC hR);(simp only[qL];rfl);decide +kernel;exact iQ;exact ya)|((with_reducible apply dP 11 hC hR);(simp only[qL];rfl);decide +kernel;exact iQ;exact ya));(intro w;first|(go_simp;done)|(go_simp;rw[yo (by omega) (by omega)])|(go_simp;with_reducible rfl)|(go_simp;rfl));(clear hR hC;intro hR hC))|((first|((with_reducible apply dP 3 hC hR);(simp only[qL];rfl);decide +kernel;exact iQ;exact ya)|((with_reducible apply dP 6 hC hR);(simp only[qL];rfl);decide +kernel;exact iQ;exact ya)|((with_reducible apply dP 12 hC hR);(simp only[qL];rfl);decide +kernel;exact iQ;exact ya));(intro w;first|(exact yz rfl (by(exact yg)) (by assumption) (by with_reducible exact fo78_2))|(go_simp;done)|(go_simp;rw[yo (by omega) (by omega)])|(go_simp;with_reducible rfl)|(go_simp;rfl));(clear hR hC;intro hR hC))|((first|((with_reducible apply dR 4 hC hR);(simp only[qL];rfl);decide +kernel;exact iQ;exact ya)|((with_reducible apply dR 7 hC hR);(simp only[qL];rfl);decide +kernel;exact iQ;exact ya));(intro w hS;(apply yj rfl (by(exact yb rfl)));first|exact yc (by decide +kernel) (hS.cell (by(repeat (with_reducible first|exact ye|apply yd))) rfl)|exact yc (by decide +kernel) ((hS.ownCell (by(repeat (with_reducible apply yd))) (by(rfl))).1)|exact yc (by decide +kernel) (Sat.rdCell2 (by assumption) hS (by((repeat (with_reducible apply yd)));try assumption) (by(rfl)))|exact yc (by decide +kernel) (hS.baseCell (by((repeat (with_reducible apply yd)));try assumption) (by assumption))|exact yc (by decide +kernel) (fzC (by assumption) hS (by((repeat (with_reducible apply yd)));try assumption))|exact yl hS (by assumption) (by((repeat (with_reducible apply yd)));try assumption) (by assumption) (by rfl) (by with_reducible exact sz78) (by decide +kernel) (by decide)|exact hS.loadWhole (by(repeat (with_reducible apply yd))) (by kernel_rfl) (by kernel_rfl));(clear hR hC;intro hR hC))|((with_reducible apply yq (i:=9));(simp only[qL];rfl);decide +kernel;exact hC;clear hR hC)|((with_reducible apply yq (i:=10));(simp only[qL];rfl);decide +kernel;exact hC;clear hR hC)|((with_reducible apply yq (i:=13));(simp only[qL];rfl);decide +kernel;exact hC;clear hR hC)|((with_reducible apply ym);decide +kernel;clear hR hC)|(refine yt 18 14 hS (by kernel_rfl) [10,13] rfl ?_;clear hS;intro w hS hR hC)|((with_reducible apply yA hS);exact ya;exact E23;exact yb rfl;exact yw;rfl;decide;clear hS;intro NB w hS)|((with_reducible apply yD hS);exact ya;exact yb rfl;exact yb rfl;exact E23;(repeat (with_reducible first|exact Rem.hd|apply Rem.tl));(repeat (with_reducible apply Rem.tl));rfl;rfl;(omega);(omega);clear hS;intro AD CAP w hS;(try simp only[Nat.zero_add,List.nil_append] at hS))|(((with_reducible apply dR 1 hC hR);(simp only[qL];rfl);decide +kernel;exact iQ;exact ya);(intro w hS;(apply yj rfl (by(exact yb rfl)));first|exact yc (by decide +kernel) (hS.cell (by(repeat (with_reducible apply yd))) rfl)|exact yc (by decide +kernel) ((hS.ownCell (by(repeat (with_reducible apply yd))) (by(rfl))).1)|exact yc (by decide +kernel) (Sat.rdCell2 (by assumption) hS (by((repeat (with_reducible apply yd)));try assumption) (by(rfl)))|exact yc (by decide +kernel) (hS.baseCell (by((repeat (with_reducible apply yd)));try assumption) (by assumption))|exact yc (by decide +kernel) (fzC (by assumption) hS (by((repeat (with_reducible apply yd)));try assumption))|exact yl hS (by assumption) (by((repeat (with_reducible apply yd)));try assumption) (by assumption) (by rfl) (by with_reducible exact sz78) (by decide +kernel) (by decide)|exact hS.loadWhole (by(exact ye)) (by kernel_rfl) (by kernel_rfl));(clear hR hC;intro hR hC))|((with_reducible apply yq (i:=4));(simp only[qL];rfl);decide +kernel;exact hC;clear hR hC)|(refine yt 53 5 hS (by kernel_rfl) [4] rfl ?_;clear hS;intro w hS hR hC)|((with_reducible apply yk hS);exact ya;exact z26;clear hS;intro SB w hS)|((with_reducible apply yi hS);exact ya;exact yb rfl;exact yb rfl;(repeat (with_reducible first|exact ye|apply yd));rfl;(focus (simp;done));(repeat (with_reducible first|exact Upd.hd|apply Upd.tl));rfl;(with_reducible first|exact sz26|exact sz28);rfl;clear hS;intro w hS;(try simp only[yp,qS] at hS))|((with_reducible apply yh hS);(first|with_reducible exact ya|exact yf rfl (by(simp only[q4,q5,q6]);try with_reducible rfl));exact yb rfl;(repeat (with_reducible first|exact ye|apply yd));rfl;decide +kernel)|((with_reducible apply yy hS);exact ya;exact yb rfl;exact yb rfl;(repeat (with_reducible first|exact ye|apply yd));rfl;(focus (simp;done));(repeat (with_reducible first|exact Upd.hd|apply Upd.tl));rfl;decide +kernel;clear hS;intro w hS;(try simp only[qS] at hS))|(go_at_call 32;refine (SP _ _ hS).mono ?_;clear hS;rintro e w ⟨rfl,hS⟩));try simp only[qA])
          refine bodyPost_ret (yE rfl rfl rfl (hS.loadWhole (b:=FB) (t:=28) (by(repeat (with_reducible first|exact ye|apply yd))) (by kernel_rfl) (by kernel_rfl))) rfl ?_
          exact⟨.inl (8,at_),HRUN.out _ (.err HE.out),by rw[HSP.out];rfl,hS.sb (by(repeat (with_reducible first|exact Sb.refl|apply Sb.skip)))⟩
        ·as_aux_lemma =>
          simp only[if_neg h6] at MK
          have hs:=show yB ⟨st,out,opn,nds⟩ 0 q (.var n)=.go ⟨st,out++[(2,n)],opn,nds+1⟩ 1 q by simp only[yB,Yk,if_true];rw[if_neg h6]
          have HINV:=hid (YR hinv hs)
          have HRUN2:=hid (fun r h=>HRUN.out r (.go (t:=⟨_,at_,fin⟩) hs h))
          clear hs
          go_wp2_with ((first|(go_at_call 24;refine (MK _ (blk TB 72 [.int .i64 3,.int .i64 n,.int .i64 at_,.int .i64 fin]::blk FB 28 [.int .i64 0,.int .i64 0,.int .i64 0]::R) ⟨ad1,c1,ad2,c2,hS.sb (by(repeat (with_reducible first|exact Sb.refl|(refine Sb.take (by(repeat (first|exact Rem.hd|apply Rem.tl));done) ?_))))⟩).mono ?_;clear hS MK;rintro e w ⟨rfl,ad1,c1,ad2,c2,hS⟩)|((with_reducible apply Cont.intro);(first|(focus (apply Or.inr;apply (Sat.sb hS);(repeat (with_reducible first|exact Sb.refl|(refine Sb.take (by(repeat (first|exact Rem.hd|apply Rem.tl));done) ?_)|apply Sb.skip));done))|(exact Or.inl (by kernel_rfl)));intro hR hC)|((first|((with_reducible apply dP 0 hC hR);(simp only[qL];rfl);decide +kernel;exact iQ;exact ya)|((with_reducible apply dP 1 hC hR);(simp only[qL];rfl);decide +kernel;exact iQ;exact ya)|((with_reducible apply dP 2 hC hR);(simp only[qL];rfl);decide +kernel;exact iQ;exact ya)|((with_reducible apply dP 5 hC hR);(simp only[qL];rfl);decide +kernel;exact iQ;exact ya)|((with_reducible apply dP 8 hC hR);(simp only[qL];rfl);decide +kernel;exact iQ;exact ya)|((with_reducible apply dP 11 hC hR);(simp only[qL];rfl);decide +kernel;exact iQ;exact ya));(intro w;first|(go_simp;done)|(go_simp;rw[yo (by omega) (by omega)])|(go_simp;with_reducible rfl)|(go_simp;rfl));(clear hR hC;intro hR hC))|((first|((with_reducible apply dP 3 hC hR);(simp only[qL];rfl);decide +kernel;exact iQ;exact ya)|((with_reducible apply dP 6 hC hR);(simp only[qL];rfl);decide +kernel;exact iQ;exact ya)|((with_reducible apply dP 12 hC hR);(simp only[qL];rfl);decide +kernel;exact iQ;exact ya));(intro w;first|(exact yz rfl (by(exact yg)) (by assumption) (by with_reducible exact fo78_2))|(go_simp;done)|(go_simp;rw[yo (by omega) (by omega)])|(go_simp;with_reducible rfl)|(go_simp;rfl));(clear hR hC;intro hR hC))|((first|((with_reducible apply dR 4 hC hR);(simp only[qL];rfl);decide +kernel;exact iQ;exact ya)|((with_reducible apply dR 7 hC hR);(simp only[qL];rfl);decide +kernel;exact iQ;exact ya));(intro w hS;(apply yj rfl (by(exact yb rfl)));first|exact yc (by decide +kernel) (hS.cell (by(repeat (with_reducible first|exact ye|apply yd))) rfl)|exact yc (by decide +kernel) ((hS.ownCell (by(repeat (with_reducible apply yd))) (by(rfl))).1)|exact yc (by decide +kernel) (Sat.rdCell2 (by assumption) hS (by((repeat (with_reducible apply yd)));try assumption) (by(rfl)))|exact yc (by decide +kernel) (hS.baseCell (by((repeat (with_reducible apply yd)));try assumption) (by assumption))|exact yc (by decide +kernel) (fzC (by assumption) hS (by((repeat (with_reducible apply yd)));try assumption))|exact yl hS (by assumption) (by((repeat (with_reducible apply yd)));try assumption) (by assumption) (by rfl) (by with_reducible exact sz78) (by decide +kernel) (by decide)|exact hS.loadWhole (by(repeat (with_reducible apply yd))) (by kernel_rfl) (by kernel_rfl));(clear hR hC;intro hR hC))|((with_reducible apply yq (i:=9));(simp only[qL];rfl);decide +kernel;exact hC;clear hR hC)|((with_reducible apply yq (i:=10));(simp only[qL];rfl);decide +kernel;exact hC;clear hR hC)|((with_reducible apply yq (i:=13));(simp only[qL];rfl);decide +kernel;exact hC;clear hR hC)|((with_reducible apply ym);decide +kernel;clear hR hC)|(refine yt 18 14 hS (by kernel_rfl) [10,13] rfl ?_;clear hS;intro w hS hR hC)|((with_reducible apply yA hS);exact ya;exact E23;exact yb rfl;exact yw;rfl;decide;clear hS;intro NB w hS)|((with_reducible apply yD hS);exact ya;exact yb rfl;exact yb rfl;exact E23;(repeat (with_reducible first|exact Rem.hd|apply Rem.tl));(repeat (with_reducible apply Rem.tl));rfl;rfl;(omega);(omega);clear hS;intro AD CAP w hS;(try simp only[Nat.zero_add,List.nil_append] at hS))|((with_reducible apply yh hS);(first|with_reducible exact ya|exact yf rfl (by(simp only[q4,q5,q6]);try with_reducible rfl));exact yb rfl;(repeat (with_reducible first|exact ye|apply yd));rfl;decide +kernel)|((with_reducible apply yy hS);exact ya;exact yb rfl;exact yb rfl;(repeat (with_reducible first|exact ye|apply yd));rfl;(focus (simp;done));(repeat (with_reducible first|exact Upd.hd|apply Upd.tl));rfl;decide +kernel;clear hS;intro w hS;(try simp only[qS] at hS)));try simp only[qA])
          go_roundw
          case rel=>exact⟨_,1,q,fin,rfl,rfl,rfl,by decide,hfl,HINV.out,HRUN2,⟨ad1,c1,AD,CAP,by simp only[List.length_append,List.length_cons,List.length_nil,Nat.zero_add,YJ,Fs];exact hS.sb (by(repeat (with_reducible first|exact Sb.refl|(refine Sb.take (by(repeat (first|exact Rem.hd|apply Rem.tl));done) ?_)|apply Sb.skip)))⟩⟩
          case measure=>simp[intOf];omega
      | quant o=>as_aux_lemma =>
        have hkf2:k < fin:=hgr.resolve_left (by simp)
        simp only[Yq] at hS
        have hs:=show yB m 0 q (.quant o)=.go m 3 o from rfl
        have HINV:=hid (YR hinv hs)
        have HRUN2:=hid (fun r h=>HRUN.out r (.go (t:=⟨_,at_,fin⟩) hs h))
        clear hs
        go_wp2_with ((with_reducible apply yh hS);(first|with_reducible exact ya|exact yf rfl (by(simp only[q4,q5,q6]);try with_reducible rfl));exact yb rfl;exact ye;rfl;decide +kernel;(try simp only[qA]))
        go_roundw
        case rel=>exact⟨_,3,o,fin,rfl,rfl,rfl,by decide,hfl,HINV.out,HRUN2,⟨ad1,c1,ad2,c2,hS.sb (by(repeat (with_reducible first|exact Sb.refl|(refine Sb.take (by(repeat (first|exact Rem.hd|apply Rem.tl));done) ?_)|apply Sb.skip)))⟩⟩
        case measure=>simp[intOf];omega
      | opn=>as_aux_lemma =>
        have hkf2:k < fin:=hgr.resolve_left (by simp)
        have PF:=fun w R h=>prefOpn MB 0 at_ fin m hm w0 w R h
        have hsp2:=ug (tk:=.opn) (q:=q) m (by simp)
        have hm2:=hm
        simp only[Yq] at hS
        generalize hP:YQ .opn m=P at *
        obtain⟨c,m2⟩:=P
        dsimp only at hsp2 PF
        clear hP
        by_cases hc:c=0
        ·as_aux_lemma =>
          subst hc
          have hs2:=hsp2.2 rfl
          have hs:=hs2
          have HINV:=hid (YR hinv hs)
          have HRUN2:=hid (fun r h=>HRUN.out r (.go (t:=⟨_,at_,fin⟩) hs h))
          clear hs
          go_wp2_with ((first|(go_at_call 25;refine (PF _ (blk TB 72 [.int .i64 8,.int .i64 0,.int .i64 at_,.int .i64 fin]::blk FB 28 [.int .i64 0,.int .i64 0,.int .i64 0]::R) ⟨ad1,c1,ad2,c2,hS.sb (by(repeat (with_reducible first|exact Sb.refl|(refine Sb.take (by(repeat (first|exact Rem.hd|apply Rem.tl));done) ?_))))⟩).mono ?_;clear hS PF;rintro e w ⟨rfl,m',⟨ad1,c1,ad2,c2,hS⟩,hm'⟩)|((with_reducible apply yh hS);(first|with_reducible exact ya|exact yf rfl (by(simp only[q4,q5,q6]);try with_reducible rfl));exact yb rfl;(repeat (with_reducible first|exact ye|apply yd));rfl;decide +kernel)|((with_reducible apply yG hS);exact ya;exact yb rfl;exact ye;exact sz72;decide +kernel;rfl;rfl));try simp only[qA])
          go_roundw
          case rel=>exact⟨_,0,q,fin,rfl,rfl,rfl,by decide,hfl,HINV.out,HRUN2,by obtain rfl:=hm' (by trivial);exact⟨ad1,c1,ad2,c2,hS.sb (by(repeat (with_reducible first|exact Sb.refl|(refine Sb.take (by(repeat (first|exact Rem.hd|apply Rem.tl));done) ?_)|apply Sb.skip)))⟩⟩
          case measure=>simp[intOf];omega
        ·as_aux_lemma =>
          have hc2:(c != 0)=true:=by simpa using hc
          have HE:=hid (hsp2.1 hc)
          go_wp2_with ((first|(go_at_call 25;refine (PF _ (blk TB 72 [.int .i64 8,.int .i64 0,.int .i64 at_,.int .i64 fin]::blk FB 28 [.int .i64 0,.int .i64 0,.int .i64 0]::R) ⟨ad1,c1,ad2,c2,hS.sb (by(repeat (with_reducible first|exact Sb.refl|(refine Sb.take (by(repeat (first|exact Rem.hd|apply Rem.tl));done) ?_))))⟩).mono ?_;clear hS PF;rintro e w ⟨rfl,m',⟨ad1,c1,ad2,c2,hS⟩,hm'⟩)|((with_reducible apply Cont.intro);(exact Or.inl (by kernel_rfl));intro hR hC)|((first|((with_reducible apply dP 0 hC hR);(simp only[qL];rfl);decide +kernel;exact iQ;exact ya)|((with_reducible apply dP 2 hC hR);(simp only[qL];rfl);decide +kernel;exact iQ;exact ya)|((with_reducible apply dP 3 hC hR);(simp only[qL];rfl);decide +kernel;exact iQ;exact ya));(intro w;first|(go_simp;done)|(go_simp;rw[yo (by omega) (by omega)])|(go_simp;with_reducible rfl)|(go_simp;rfl));(clear hR hC;intro hR hC))|(((with_reducible apply dR 1 hC hR);(simp only[qL];rfl);decide +kernel;exact iQ;exact ya);(intro w hS;(apply yj rfl (by(exact yb rfl)));first|exact yc (by decide +kernel) (hS.cell (by(repeat (with_reducible apply yd))) rfl)|exact yc (by decide +kernel) ((hS.ownCell (by(repeat (with_reducible apply yd))) (by(rfl))).1)|exact yc (by decide +kernel) (Sat.rdCell2 (by assumption) hS (by((repeat (with_reducible apply yd)));try assumption) (by(rfl)))|exact yc (by decide +kernel) (hS.baseCell (by((repeat (with_reducible apply yd)));try assumption) (by assumption))|exact yc (by decide +kernel) (fzC (by assumption) hS (by((repeat (with_reducible apply yd)));try assumption))|exact yl hS (by assumption) (by((repeat (with_reducible apply yd)));try assumption) (by assumption) (by rfl) (by with_reducible exact sz78) (by decide +kernel) (by decide)|exact hS.loadWhole (by(exact ye)) (by kernel_rfl) (by kernel_rfl));(clear hR hC;intro hR hC))|((with_reducible apply yq (i:=4));(simp only[qL];rfl);decide +kernel;exact hC;clear hR hC)|((with_reducible apply ym);decide +kernel;clear hR hC)|(refine yt 53 5 hS (by kernel_rfl) [4] rfl ?_;clear hS;intro w hS hR hC)|((with_reducible apply yk hS);exact ya;exact z26;clear hS;intro SB w hS)|((with_reducible apply yi hS);exact ya;exact yb rfl;exact yb rfl;(repeat (with_reducible first|exact ye|apply yd));rfl;(focus (simp;done));(repeat (with_reducible first|exact Upd.hd|apply Upd.tl));rfl;(with_reducible first|exact sz26|exact sz28);rfl;clear hS;intro w hS;(try simp only[yp,qS] at hS))|((with_reducible apply yh hS);(first|with_reducible exact ya|exact yf rfl (by(simp only[q4,q5,q6]);try with_reducible rfl));exact yb rfl;(repeat (with_reducible first|exact ye|apply yd));rfl;decide +kernel)|((with_reducible apply yG hS);exact ya;exact yb rfl;exact ye;exact sz72;decide +kernel;rfl;rfl)|(go_at_call 32;refine (SP _ _ hS).mono ?_;clear hS;rintro e w ⟨rfl,hS⟩));try simp only[qA])
          refine bodyPost_ret (yE rfl rfl rfl (hS.loadWhole (b:=FB) (t:=28) (by(repeat (with_reducible first|exact ye|apply yd))) (by kernel_rfl) (by kernel_rfl))) rfl ?_
          exact⟨.inl (c,at_),HRUN.out _ (.err HE.out),by rw[HSP.out];rfl,hS.sb (by(repeat (with_reducible first|exact Sb.refl|apply Sb.skip)))⟩
      | ite=>as_aux_lemma =>
        have hkf2:k < fin:=hgr.resolve_left (by simp)
        have PF:=fun w R h=>prefIte MB 131 at_ fin m hm w0 w R h
        have hsp2:=ug (tk:=.ite) (q:=q) m (by simp)
        have hm2:=hm
        simp only[Yq] at hS
        generalize hP:YQ .ite m=P at *
        obtain⟨c,m2⟩:=P
        dsimp only at hsp2 PF
        clear hP
        by_cases hc:c=0
        ·as_aux_lemma =>
          subst hc
          have hs2:=hsp2.2 rfl
          have hs:=hs2
          have HINV:=hid (YR hinv hs)
          have HRUN2:=hid (fun r h=>HRUN.out r (.go (t:=⟨_,at_,fin⟩) hs h))
          clear hs
          go_wp2_with ((first|(go_at_call 25;refine (PF _ (blk TB 72 [.int .i64 6,.int .i64 131,.int .i64 at_,.int .i64 fin]::blk FB 28 [.int .i64 0,.int .i64 0,.int .i64 0]::R) ⟨ad1,c1,ad2,c2,hS.sb (by(repeat (with_reducible first|exact Sb.refl|(refine Sb.take (by(repeat (first|exact Rem.hd|apply Rem.tl));done) ?_))))⟩).mono ?_;clear hS PF;rintro e w ⟨rfl,m',⟨ad1,c1,ad2,c2,hS⟩,hm'⟩)|((with_reducible apply yh hS);(first|with_reducible exact ya|exact yf rfl (by(simp only[q4,q5,q6]);try with_reducible rfl));exact yb rfl;(repeat (with_reducible first|exact ye|apply yd));rfl;decide +kernel)|((with_reducible apply yG hS);exact ya;exact yb rfl;exact ye;exact sz72;decide +kernel;rfl;rfl));try simp only[qA])
          go_roundw
          case rel=>exact⟨_,2,q,fin,rfl,rfl,rfl,by decide,hfl,HINV.out,HRUN2,by obtain rfl:=hm' (by trivial);exact⟨ad1,c1,ad2,c2,hS.sb (by(repeat (with_reducible first|exact Sb.refl|(refine Sb.take (by(repeat (first|exact Rem.hd|apply Rem.tl));done) ?_)|apply Sb.skip)))⟩⟩
          case measure=>simp[intOf];omega
        ·as_aux_lemma =>
          have hc2:(c != 0)=true:=by simpa using hc
          have HE:=hid (hsp2.1 hc)
          go_wp2_with ((first|(go_at_call 25;refine (PF _ (blk TB 72 [.int .i64 6,.int .i64 131,.int .i64 at_,.int .i64 fin]::blk FB 28 [.int .i64 0,.int .i64 0,.int .i64 0]::R) ⟨ad1,c1,ad2,c2,hS.sb (by(repeat (with_reducible first|exact Sb.refl|(refine Sb.take (by(repeat (first|exact Rem.hd|apply Rem.tl));done) ?_))))⟩).mono ?_;clear hS PF;rintro e w ⟨rfl,m',⟨ad1,c1,ad2,c2,hS⟩,hm'⟩)|((with_reducible apply Cont.intro);(exact Or.inl (by kernel_rfl));intro hR hC)|((first|((with_reducible apply dP 0 hC hR);(simp only[qL];rfl);decide +kernel;exact iQ;exact ya)|((with_reducible apply dP 2 hC hR);(simp only[qL];rfl);decide +kernel;exact iQ;exact ya)|((with_reducible apply dP 3 hC hR);(simp only[qL];rfl);decide +kernel;exact iQ;exact ya));(intro w;first|(go_simp;done)|(go_simp;rw[yo (by omega) (by omega)])|(go_simp;with_reducible rfl)|(go_simp;rfl));(clear hR hC;intro hR hC))|(((with_reducible apply dR 1 hC hR);(simp only[qL];rfl);decide +kernel;exact iQ;exact ya);(intro w hS;(apply yj rfl (by(exact yb rfl)));first|exact yc (by decide +kernel) (hS.cell (by(repeat (with_reducible apply yd))) rfl)|exact yc (by decide +kernel) ((hS.ownCell (by(repeat (with_reducible apply yd))) (by(rfl))).1)|exact yc (by decide +kernel) (Sat.rdCell2 (by assumption) hS (by((repeat (with_reducible apply yd)));try assumption) (by(rfl)))|exact yc (by decide +kernel) (hS.baseCell (by((repeat (with_reducible apply yd)));try assumption) (by assumption))|exact yc (by decide +kernel) (fzC (by assumption) hS (by((repeat (with_reducible apply yd)));try assumption))|exact yl hS (by assumption) (by((repeat (with_reducible apply yd)));try assumption) (by assumption) (by rfl) (by with_reducible exact sz78) (by decide +kernel) (by decide)|exact hS.loadWhole (by(exact ye)) (by kernel_rfl) (by kernel_rfl));(clear hR hC;intro hR hC))|((with_reducible apply yq (i:=4));(simp only[qL];rfl);decide +kernel;exact hC;clear hR hC)|((with_reducible apply ym);decide +kernel;clear hR hC)|(refine yt 53 5 hS (by kernel_rfl) [4] rfl ?_;clear hS;intro w hS hR hC)|((with_reducible apply yk hS);exact ya;exact z26;clear hS;intro SB w hS)|((with_reducible apply yi hS);exact ya;exact yb rfl;exact yb rfl;(repeat (with_reducible first|exact ye|apply yd));rfl;(focus (simp;done));(repeat (with_reducible first|exact Upd.hd|apply Upd.tl));rfl;(with_reducible first|exact sz26|exact sz28);rfl;clear hS;intro w hS;(try simp only[yp,qS] at hS))|((with_reducible apply yh hS);(first|with_reducible exact ya|exact yf rfl (by(simp only[q4,q5,q6]);try with_reducible rfl));exact yb rfl;(repeat (with_reducible first|exact ye|apply yd));rfl;decide +kernel)|((with_reducible apply yG hS);exact ya;exact yb rfl;exact ye;exact sz72;decide +kernel;rfl;rfl)|(go_at_call 32;refine (SP _ _ hS).mono ?_;clear hS;rintro e w ⟨rfl,hS⟩));try simp only[qA])
          refine bodyPost_ret (yE rfl rfl rfl (hS.loadWhole (b:=FB) (t:=28) (by(repeat (with_reducible first|exact ye|apply yd))) (by kernel_rfl) (by kernel_rfl))) rfl ?_
          exact⟨.inl (c,at_),HRUN.out _ (.err HE.out),by rw[HSP.out];rfl,hS.sb (by(repeat (with_reducible first|exact Sb.refl|apply Sb.skip)))⟩
      | not=>as_aux_lemma =>
        have hkf2:k < fin:=hgr.resolve_left (by simp)
        have PF:=fun w R h=>prefNot MB 0 at_ fin m hm w0 w R h
        have hsp2:=ug (tk:=.not) (q:=q) m (by simp)
        have hm2:=hm
        simp only[Yq] at hS
        generalize hP:YQ .not m=P at *
        obtain⟨c,m2⟩:=P
        dsimp only at hsp2 PF
        clear hP
        by_cases hc:c=0
        ·as_aux_lemma =>
          subst hc
          have hs2:=hsp2.2 rfl
          have hs:=hs2
          have HINV:=hid (YR hinv hs)
          have HRUN2:=hid (fun r h=>HRUN.out r (.go (t:=⟨_,at_,fin⟩) hs h))
          clear hs
          go_wp2_with ((first|(go_at_call 25;refine (PF _ (blk TB 72 [.int .i64 4,.int .i64 0,.int .i64 at_,.int .i64 fin]::blk FB 28 [.int .i64 0,.int .i64 0,.int .i64 0]::R) ⟨ad1,c1,ad2,c2,hS.sb (by(repeat (with_reducible first|exact Sb.refl|(refine Sb.take (by(repeat (first|exact Rem.hd|apply Rem.tl));done) ?_))))⟩).mono ?_;clear hS PF;rintro e w ⟨rfl,m',⟨ad1,c1,ad2,c2,hS⟩,hm'⟩)|((with_reducible apply yh hS);(first|with_reducible exact ya|exact yf rfl (by(simp only[q4,q5,q6]);try with_reducible rfl));exact yb rfl;(repeat (with_reducible first|exact ye|apply yd));rfl;decide +kernel)|((with_reducible apply yG hS);exact ya;exact yb rfl;exact ye;exact sz72;decide +kernel;rfl;rfl));try simp only[qA])
          go_roundw
          case rel=>exact⟨_,0,q,fin,rfl,rfl,rfl,by decide,hfl,HINV.out,HRUN2,by obtain rfl:=hm' (by trivial);exact⟨ad1,c1,ad2,c2,hS.sb (by(repeat (with_reducible first|exact Sb.refl|(refine Sb.take (by(repeat (first|exact Rem.hd|apply Rem.tl));done) ?_)|apply Sb.skip)))⟩⟩
          case measure=>simp[intOf];omega
        ·as_aux_lemma =>
          have hc2:(c != 0)=true:=by simpa using hc
          have HE:=hid (hsp2.1 hc)
          go_wp2_with ((first|(go_at_call 25;refine (PF _ (blk TB 72 [.int .i64 4,.int .i64 0,.int .i64 at_,.int .i64 fin]::blk FB 28 [.int .i64 0,.int .i64 0,.int .i64 0]::R) ⟨ad1,c1,ad2,c2,hS.sb (by(repeat (with_reducible first|exact Sb.refl|(refine Sb.take (by(repeat (first|exact Rem.hd|apply Rem.tl));done) ?_))))⟩).mono ?_;clear hS PF;rintro e w ⟨rfl,m',⟨ad1,c1,ad2,c2,hS⟩,hm'⟩)|((with_reducible apply Cont.intro);(exact Or.inl (by kernel_rfl));intro hR hC)|((first|((with_reducible apply dP 0 hC hR);(simp only[qL];rfl);decide +kernel;exact iQ;exact ya)|((with_reducible apply dP 2 hC hR);(simp only[qL];rfl);decide +kernel;exact iQ;exact ya)|((with_reducible apply dP 3 hC hR);(simp only[qL];rfl);decide +kernel;exact iQ;exact ya));(intro w;first|(go_simp;done)|(go_simp;rw[yo (by omega) (by omega)])|(go_simp;with_reducible rfl)|(go_simp;rfl));(clear hR hC;intro hR hC))|(((with_reducible apply dR 1 hC hR);(simp only[qL];rfl);decide +kernel;exact iQ;exact ya);(intro w hS;(apply yj rfl (by(exact yb rfl)));first|exact yc (by decide +kernel) (hS.cell (by(repeat (with_reducible apply yd))) rfl)|exact yc (by decide +kernel) ((hS.ownCell (by(repeat (with_reducible apply yd))) (by(rfl))).1)|exact yc (by decide +kernel) (Sat.rdCell2 (by assumption) hS (by((repeat (with_reducible apply yd)));try assumption) (by(rfl)))|exact yc (by decide +kernel) (hS.baseCell (by((repeat (with_reducible apply yd)));try assumption) (by assumption))|exact yc (by decide +kernel) (fzC (by assumption) hS (by((repeat (with_reducible apply yd)));try assumption))|exact yl hS (by assumption) (by((repeat (with_reducible apply yd)));try assumption) (by assumption) (by rfl) (by with_reducible exact sz78) (by decide +kernel) (by decide)|exact hS.loadWhole (by(exact ye)) (by kernel_rfl) (by kernel_rfl));(clear hR hC;intro hR hC))|((with_reducible apply yq (i:=4));(simp only[qL];rfl);decide +kernel;exact hC;clear hR hC)|((with_reducible apply ym);decide +kernel;clear hR hC)|(refine yt 53 5 hS (by kernel_rfl) [4] rfl ?_;clear hS;intro w hS hR hC)|((with_reducible apply yk hS);exact ya;exact z26;clear hS;intro SB w hS)|((with_reducible apply yi hS);exact ya;exact yb rfl;exact yb rfl;(repeat (with_reducible first|exact ye|apply yd));rfl;(focus (simp;done));(repeat (with_reducible first|exact Upd.hd|apply Upd.tl));rfl;(with_reducible first|exact sz26|exact sz28);rfl;clear hS;intro w hS;(try simp only[yp,qS] at hS))|((with_reducible apply yh hS);(first|with_reducible exact ya|exact yf rfl (by(simp only[q4,q5,q6]);try with_reducible rfl));exact yb rfl;(repeat (with_reducible first|exact ye|apply yd));rfl;decide +kernel)|((with_reducible apply yG hS);exact ya;exact yb rfl;exact ye;exact sz72;decide +kernel;rfl;rfl)|(go_at_call 32;refine (SP _ _ hS).mono ?_;clear hS;rintro e w ⟨rfl,hS⟩));try simp only[qA])
          refine bodyPost_ret (yE rfl rfl rfl (hS.loadWhole (b:=FB) (t:=28) (by(repeat (with_reducible first|exact ye|apply yd))) (by kernel_rfl) (by kernel_rfl))) rfl ?_
          exact⟨.inl (c,at_),HRUN.out _ (.err HE.out),by rw[HSP.out];rfl,hS.sb (by(repeat (with_reducible first|exact Sb.refl|apply Sb.skip)))⟩
      | op o=>exact(hq0 (.inr (.inl ⟨_,rfl⟩))).elim
      | _=>exact(hq0 (by simp)).elim

  ·as_aux_lemma =>
    by_cases hq0:tk=.fin∨(∃ o,tk=.op o)∨tk=.cls∨tk=.comma
    ·as_aux_lemma =>
      rcases hq0 with hq0|hq0|hq0|hq0
      ·as_aux_lemma =>
        subst hq0
        obtain⟨st,out,opn,nds⟩:=m
        dsimp only at *
        simp only[Yq] at hS
        have IR:=fun w R h=>gW MB ⟨st,out,opn,nds⟩ hm w0 w R h
        have hst:yB ⟨st,out,opn,nds⟩ 1 q .fin=finM (yQ st out opn):=by simp only[yB,if_true]
        dsimp only at IR
        clear hinv hm
        generalize yQ st out opn=P at *
        obtain⟨S1,o1,k1⟩:=P
        dsimp only at IR
        cases S1 with
        | nil=>as_aux_lemma =>
          have TM:=fun hm w R h=>top_nil MB o1 k1 nds hm w0 w R h
          have hst:yB ⟨st,out,opn,nds⟩ 1 q .fin=.done o1:=hst
          have HE:=hid hst
          clear hst
          go_upto_region 13 with ((with_reducible apply yh hS);exact ya;exact yb rfl;exact ye;rfl;decide +kernel;(try simp only[qA]))
          go_upto_region 38 with fail
          go_wp2_with ((first|(go_at_call 30;refine (IR _ (blk TB 72 [.int .i64 0,.int .i64 0,.int .i64 at_,.int .i64 fin]::blk FB 28 [.int .i64 0,.int .i64 0,.int .i64 0]::R) ⟨ad1,c1,ad2,c2,hS.sb (by(repeat (with_reducible first|exact Sb.refl|(refine Sb.take (by(repeat (first|exact Rem.hd|apply Rem.tl));done) ?_))))⟩).mono ?_;clear hS IR;rintro e w ⟨rfl,hmi,ad1,c1,ad2,c2,hS⟩)|(go_at_call 31;refine (TM hmi.2.1 _ (blk TB 72 [.int .i64 0,.int .i64 0,.int .i64 at_,.int .i64 fin]::blk FB 28 [.int .i64 0,.int .i64 0,.int .i64 0]::R) ⟨ad1,c1,ad2,c2,hS.sb (by(repeat (with_reducible exact Sb.refl)))⟩).mono ?_;clear hS TM;rintro e w ⟨rfl,ad1,c1,ad2,c2,hS⟩)|((with_reducible apply yh hS);(first|with_reducible exact ya|exact yf rfl (by(simp only[q4,q5,q6]);try with_reducible rfl));exact yb rfl;exact ye;rfl;decide +kernel)|((with_reducible apply yi hS);exact ya;exact yb rfl;exact yb rfl;(repeat (with_reducible first|exact ye|apply yd));rfl;(focus (simp;done));(repeat (with_reducible first|exact Upd.hd|apply Upd.tl));rfl;exact sz28;rfl;clear hS;intro w hS;(try simp only[yp,qS] at hS)));try simp only[qA])
          refine bodyPost_ret (yE rfl rfl rfl (hS.loadWhole (b:=FB) (t:=28) (by(repeat (with_reducible first|exact ye|apply yd))) (by kernel_rfl) (by kernel_rfl))) rfl ?_
          exact⟨.inr o1,HRUN.out _ (.done HE.out),ad2,c2,rfl,hS.sb (by(repeat (with_reducible first|exact Sb.refl|(refine Sb.take (by(repeat (first|exact Rem.hd|apply Rem.tl));done) ?_)|apply Sb.skip)))⟩
        | cons x S=>as_aux_lemma =>
          have TM:=fun hm w R h=>topM MB ⟨x::S,o1,k1,nds⟩ hm w0 w R h
          have hkd:(kd (x::S) == 0)=false:=beq_eq_false_iff_ne.2 (kd_ne x S)
          dsimp only at TM
          generalize kd (x::S)=kk at *
          go_upto_region 13 with ((with_reducible apply yh hS);exact ya;exact yb rfl;exact ye;rfl;decide +kernel;(try simp only[qA]))
          go_upto_region 38 with fail
          have HE:=hid (hst)
          go_wp2_with ((first|(go_at_call 30;refine (IR _ (blk TB 72 [.int .i64 0,.int .i64 0,.int .i64 at_,.int .i64 fin]::blk FB 28 [.int .i64 0,.int .i64 0,.int .i64 0]::R) ⟨ad1,c1,ad2,c2,hS.sb (by(repeat (with_reducible first|exact Sb.refl|(refine Sb.take (by(repeat (first|exact Rem.hd|apply Rem.tl));done) ?_))))⟩).mono ?_;clear hS IR;rintro e w ⟨rfl,hmi,ad1,c1,ad2,c2,hS⟩)|(go_at_call 31;refine (TM hmi.2.1 _ (blk TB 72 [.int .i64 0,.int .i64 0,.int .i64 at_,.int .i64 fin]::blk FB 28 [.int .i64 0,.int .i64 0,.int .i64 0]::R) ⟨ad1,c1,ad2,c2,hS.sb (by(repeat (with_reducible exact Sb.refl)))⟩).mono ?_;clear hS TM;rintro e w ⟨rfl,ad1,c1,ad2,c2,hS⟩)|((with_reducible apply Cont.intro);(exact Or.inl (by kernel_rfl));intro hR hC)|((first|((with_reducible apply dP 0 hC hR);(simp only[qL];rfl);decide +kernel;exact iQ;exact ya)|((with_reducible apply dP 2 hC hR);(simp only[qL];rfl);decide +kernel;exact iQ;exact ya)|((with_reducible apply dP 3 hC hR);(simp only[qL];rfl);decide +kernel;exact iQ;exact ya));(intro w;first|(go_simp;done)|(go_simp;rw[yo (by omega) (by omega)])|(go_simp;with_reducible rfl)|(go_simp;rfl));(clear hR hC;intro hR hC))|(((with_reducible apply dR 1 hC hR);(simp only[qL];rfl);decide +kernel;exact iQ;exact ya);(intro w hS;(apply yj rfl (by(exact yb rfl)));first|exact yc (by decide +kernel) (hS.cell (by(repeat (with_reducible apply yd))) rfl)|exact yc (by decide +kernel) ((hS.ownCell (by(repeat (with_reducible apply yd))) (by(rfl))).1)|exact yc (by decide +kernel) (Sat.rdCell2 (by assumption) hS (by((repeat (with_reducible apply yd)));try assumption) (by(rfl)))|exact yc (by decide +kernel) (hS.baseCell (by((repeat (with_reducible apply yd)));try assumption) (by assumption))|exact yc (by decide +kernel) (fzC (by assumption) hS (by((repeat (with_reducible apply yd)));try assumption))|exact yl hS (by assumption) (by((repeat (with_reducible apply yd)));try assumption) (by assumption) (by rfl) (by with_reducible exact sz78) (by decide +kernel) (by decide)|exact hS.loadWhole (by(exact ye)) (by kernel_rfl) (by kernel_rfl));(clear hR hC;intro hR hC))|((with_reducible apply yq (i:=4));(simp only[qL];rfl);decide +kernel;exact hC;clear hR hC)|((with_reducible apply ym);decide +kernel;clear hR hC)|(refine yt 53 5 hS (by kernel_rfl) [4] rfl ?_;clear hS;intro w hS hR hC)|((with_reducible apply yk hS);exact ya;exact z26;clear hS;intro SB w hS)|((with_reducible apply yi hS);exact ya;exact yb rfl;exact yb rfl;(repeat (with_reducible first|exact ye|apply yd));rfl;(focus (simp;done));(repeat (with_reducible first|exact Upd.hd|apply Upd.tl));rfl;(with_reducible first|exact sz26|exact sz28);rfl;clear hS;intro w hS;(try simp only[yp,qS] at hS))|((with_reducible apply yh hS);(first|with_reducible exact ya|exact yf rfl (by(simp only[q4,q5,q6]);try with_reducible rfl));exact yb rfl;(repeat (with_reducible first|exact ye|apply yd));rfl;decide +kernel)|(go_at_call 32;refine (SP _ _ hS).mono ?_;clear hS;rintro e w ⟨rfl,hS⟩));try simp only[qA])
          refine bodyPost_ret (yE rfl rfl rfl (hS.loadWhole (b:=FB) (t:=28) (by(repeat (with_reducible first|exact ye|apply yd))) (by kernel_rfl) (by kernel_rfl))) rfl ?_
          exact⟨.inl (131,at_),HRUN.out _ (.err HE.out),by rw[HSP.out];rfl,hS.sb (by(repeat (with_reducible first|exact Sb.refl|apply Sb.skip)))⟩
      ·as_aux_lemma =>
        obtain⟨o,rfl⟩:=hq0
        have hkf2:k < fin:=hgr.resolve_left (by simp)
        obtain⟨st,out,opn,nds⟩:=m
        dsimp only at *
        simp only[Yq] at hS
        have hop:i64 o:=by obtain⟨h1,h2⟩:=htk;constructor <;> omega
        have OPR:=fun w R h=>operatorR MB o hop st out opn nds hm w0 w R h
        by_cases h6:65536≤nds
        ·as_aux_lemma =>
          simp only[if_pos h6] at OPR
          go_upto_region 13 with ((with_reducible apply yh hS);exact ya;exact yb rfl;exact ye;rfl;decide +kernel;(try simp only[qA]))
          go_upto_region 38 with fail
          have HE:=hid (show yB ⟨st,out,opn,nds⟩ 1 q (.op o)=.err 8 by simp only[yB,Yk,if_true];rw[if_pos h6])
          go_wp2_with ((first|(go_at_call 27;refine (OPR _ (blk TB 72 [.int .i64 7,.int .i64 o,.int .i64 at_,.int .i64 fin]::blk FB 28 [.int .i64 0,.int .i64 0,.int .i64 0]::R) ⟨ad1,c1,ad2,c2,hS.sb (by(repeat (with_reducible first|exact Sb.refl|(refine Sb.take (by(repeat (first|exact Rem.hd|apply Rem.tl));done) ?_))))⟩).mono ?_;clear hS OPR;rintro e w ⟨rfl,hz1,hz2⟩;obtain⟨ad1,c1,ad2,c2,hS⟩:=hz2 h6)|((with_reducible apply Cont.intro);(exact Or.inl (by kernel_rfl));intro hR hC)|((first|((with_reducible apply dP 0 hC hR);(simp only[qL];rfl);decide +kernel;exact iQ;exact ya)|((with_reducible apply dP 2 hC hR);(simp only[qL];rfl);decide +kernel;exact iQ;exact ya)|((with_reducible apply dP 3 hC hR);(simp only[qL];rfl);decide +kernel;exact iQ;exact ya));(intro w;first|(go_simp;done)|(go_simp;rw[yo (by omega) (by omega)])|(go_simp;with_reducible rfl)|(go_simp;rfl));(clear hR hC;intro hR hC))|(((with_reducible apply dR 1 hC hR);(simp only[qL];rfl);decide +kernel;exact iQ;exact ya);(intro w hS;(apply yj rfl (by(exact yb rfl)));first|exact yc (by decide +kernel) (hS.cell (by(repeat (with_reducible apply yd))) rfl)|exact yc (by decide +kernel) ((hS.ownCell (by(repeat (with_reducible apply yd))) (by(rfl))).1)|exact yc (by decide +kernel) (Sat.rdCell2 (by assumption) hS (by((repeat (with_reducible apply yd)));try assumption) (by(rfl)))|exact yc (by decide +kernel) (hS.baseCell (by((repeat (with_reducible apply yd)));try assumption) (by assumption))|exact yc (by decide +kernel) (fzC (by assumption) hS (by((repeat (with_reducible apply yd)));try assumption))|exact yl hS (by assumption) (by((repeat (with_reducible apply yd)));try assumption) (by assumption) (by rfl) (by with_reducible exact sz78) (by decide +kernel) (by decide)|exact hS.loadWhole (by(exact ye)) (by kernel_rfl) (by kernel_rfl));(clear hR hC;intro hR hC))|((with_reducible apply yq (i:=4));(simp only[qL];rfl);decide +kernel;exact hC;clear hR hC)|((with_reducible apply ym);decide +kernel;clear hR hC)|(refine yt 53 5 hS (by kernel_rfl) [4] rfl ?_;clear hS;intro w hS hR hC)|((with_reducible apply yk hS);exact ya;exact z26;clear hS;intro SB w hS)|((with_reducible apply yi hS);exact ya;exact yb rfl;exact yb rfl;(repeat (with_reducible first|exact ye|apply yd));rfl;(focus (simp;done));(repeat (with_reducible first|exact Upd.hd|apply Upd.tl));rfl;(with_reducible first|exact sz26|exact sz28);rfl;clear hS;intro w hS;(try simp only[yp,qS] at hS))|((with_reducible apply yh hS);(first|with_reducible exact ya|exact yf rfl (by(simp only[q4,q5,q6]);try with_reducible rfl));exact yb rfl;(repeat (with_reducible first|exact ye|apply yd));rfl;decide +kernel)|(go_at_call 32;refine (SP _ _ hS).mono ?_;clear hS;rintro e w ⟨rfl,hS⟩));try simp only[qA])
          refine bodyPost_ret (yE rfl rfl rfl (hS.loadWhole (b:=FB) (t:=28) (by(repeat (with_reducible first|exact ye|apply yd))) (by kernel_rfl) (by kernel_rfl))) rfl ?_
          exact⟨.inl (8,at_),HRUN.out _ (.err HE.out),by rw[HSP.out];rfl,hS.sb (by(repeat (with_reducible first|exact Sb.refl|apply Sb.skip)))⟩
        ·as_aux_lemma =>
          simp only[if_neg h6] at OPR
          go_upto_region 13 with ((with_reducible apply yh hS);exact ya;exact yb rfl;exact ye;rfl;decide +kernel;(try simp only[qA]))
          go_upto_region 38 with fail
          have hs:=show yB ⟨st,out,opn,nds⟩ 1 q (.op o)=.go ⟨.op o::(Yr o st out opn).1,(Yr o st out opn).2.1,(Yr o st out opn).2.2,nds+1⟩ 0 q by simp only[yB,Yk,if_true];rw[if_neg h6]
          have HINV:=hid (YR hinv hs)
          have HRUN2:=hid (fun r h=>HRUN.out r (.go (t:=⟨_,at_,fin⟩) hs h))
          clear hs
          go_wp2_with (first|(go_at_call 27;refine (OPR _ (blk TB 72 [.int .i64 7,.int .i64 o,.int .i64 at_,.int .i64 fin]::blk FB 28 [.int .i64 0,.int .i64 0,.int .i64 0]::R) ⟨ad1,c1,ad2,c2,hS.sb (by(repeat (with_reducible first|exact Sb.refl|(refine Sb.take (by(repeat (first|exact Rem.hd|apply Rem.tl));done) ?_))))⟩).mono ?_;clear hS OPR;rintro e w ⟨rfl,hz1,hz2⟩;obtain⟨⟨ad1,c1,ad2,c2,hS⟩,_⟩:=hz1 h6)|((with_reducible apply yh hS);(first|with_reducible exact ya|exact yf rfl (by(simp only[q4,q5,q6]);try with_reducible rfl));exact yb rfl;exact ye;rfl;decide +kernel;(try simp only[qA])))
          go_roundw
          case rel=>exact⟨_,0,q,fin,rfl,rfl,rfl,by decide,hfl,HINV.out,HRUN2,⟨ad1,c1,ad2,c2,hS.sb (by(repeat (with_reducible first|exact Sb.refl|(refine Sb.take (by(repeat (first|exact Rem.hd|apply Rem.tl));done) ?_)|apply Sb.skip)))⟩⟩
          case measure=>simp[intOf];omega
      ·as_aux_lemma =>
        subst hq0
        have hkf2:k < fin:=hgr.resolve_left (by simp)
        obtain⟨st,out,opn,nds⟩:=m
        dsimp only at *
        simp only[Yq] at hS
        have CLR:=fun w R h=>closesR MB st out opn nds hm w0 w R h
        have hst:=closeStp ⟨st,out,opn,nds⟩ q (yQ st out opn)
        have hstep:yB ⟨st,out,opn,nds⟩ 1 q .cls=Kf ⟨st,out,opn,nds⟩ q (yQ st out opn):=by simp only[yB,if_true]
        rw[← hstep] at hst
        clear hstep
        dsimp only at hst
        generalize kF nds (yQ st out opn)=P at *
        obtain⟨c,m2⟩:=P
        dsimp only at CLR hst
        rcases hst with ⟨hc,hs2⟩|⟨hc,hs2⟩
        ·as_aux_lemma =>
          subst hc
          go_upto_region 13 with ((with_reducible apply yh hS);exact ya;exact yb rfl;exact ye;rfl;decide +kernel;(try simp only[qA]))
          go_upto_region 38 with fail
          have hs:=hs2
          have HINV:=hid (YR hinv hs)
          have HRUN2:=hid (fun r h=>HRUN.out r (.go (t:=⟨_,at_,fin⟩) hs h))
          clear hs
          go_wp2_with (first|(go_at_call 28;refine (CLR _ (blk TB 72 [.int .i64 9,.int .i64 0,.int .i64 at_,.int .i64 fin]::blk FB 28 [.int .i64 0,.int .i64 0,.int .i64 0]::R) ⟨ad1,c1,ad2,c2,hS.sb (by(repeat (with_reducible first|exact Sb.refl|(refine Sb.take (by(repeat (first|exact Rem.hd|apply Rem.tl));done) ?_))))⟩).mono ?_;clear hS CLR;rintro e w ⟨rfl,hz1,hz2⟩;obtain⟨⟨ad1,c1,ad2,c2,hS⟩,_⟩:=hz1 rfl)|((with_reducible apply yh hS);(exact yf rfl (by(simp only[q4,q5,q6]);try with_reducible rfl));exact yb rfl;exact ye;rfl;decide +kernel;(try simp only[qA])))
          go_roundw
          case rel=>exact⟨_,1,q,fin,rfl,rfl,rfl,by decide,hfl,HINV.out,HRUN2,⟨ad1,c1,ad2,c2,hS.sb (by(repeat (with_reducible first|exact Sb.refl|(refine Sb.take (by(repeat (first|exact Rem.hd|apply Rem.tl));done) ?_)|apply Sb.skip)))⟩⟩
          case measure=>simp[intOf];omega
        ·as_aux_lemma =>
          subst hc
          go_upto_region 13 with ((with_reducible apply yh hS);exact ya;exact yb rfl;exact ye;rfl;decide +kernel;(try simp only[qA]))
          go_upto_region 38 with fail
          have HE:=hid (hs2)
          go_wp2_with ((first|(go_at_call 28;refine (CLR _ (blk TB 72 [.int .i64 9,.int .i64 0,.int .i64 at_,.int .i64 fin]::blk FB 28 [.int .i64 0,.int .i64 0,.int .i64 0]::R) ⟨ad1,c1,ad2,c2,hS.sb (by(repeat (with_reducible first|exact Sb.refl|(refine Sb.take (by(repeat (first|exact Rem.hd|apply Rem.tl));done) ?_))))⟩).mono ?_;clear hS CLR;rintro e w ⟨rfl,hz1,hz2⟩;obtain⟨m',ad1,c1,ad2,c2,hS⟩:=hz2 rfl)|((with_reducible apply Cont.intro);(exact Or.inl (by kernel_rfl));intro hR hC)|((first|((with_reducible apply dP 0 hC hR);(simp only[qL];rfl);decide +kernel;exact iQ;exact ya)|((with_reducible apply dP 2 hC hR);(simp only[qL];rfl);decide +kernel;exact iQ;exact ya)|((with_reducible apply dP 3 hC hR);(simp only[qL];rfl);decide +kernel;exact iQ;exact ya));(intro w;first|(go_simp;done)|(go_simp;rw[yo (by omega) (by omega)])|(go_simp;with_reducible rfl)|(go_simp;rfl));(clear hR hC;intro hR hC))|(((with_reducible apply dR 1 hC hR);(simp only[qL];rfl);decide +kernel;exact iQ;exact ya);(intro w hS;(apply yj rfl (by(exact yb rfl)));first|exact yc (by decide +kernel) (hS.cell (by(repeat (with_reducible apply yd))) rfl)|exact yc (by decide +kernel) ((hS.ownCell (by(repeat (with_reducible apply yd))) (by(rfl))).1)|exact yc (by decide +kernel) (Sat.rdCell2 (by assumption) hS (by((repeat (with_reducible apply yd)));try assumption) (by(rfl)))|exact yc (by decide +kernel) (hS.baseCell (by((repeat (with_reducible apply yd)));try assumption) (by assumption))|exact yc (by decide +kernel) (fzC (by assumption) hS (by((repeat (with_reducible apply yd)));try assumption))|exact yl hS (by assumption) (by((repeat (with_reducible apply yd)));try assumption) (by assumption) (by rfl) (by with_reducible exact sz78) (by decide +kernel) (by decide)|exact hS.loadWhole (by(exact ye)) (by kernel_rfl) (by kernel_rfl));(clear hR hC;intro hR hC))|((with_reducible apply yq (i:=4));(simp only[qL];rfl);decide +kernel;exact hC;clear hR hC)|((with_reducible apply ym);decide +kernel;clear hR hC)|(refine yt 53 5 hS (by kernel_rfl) [4] rfl ?_;clear hS;intro w hS hR hC)|((with_reducible apply yk hS);exact ya;exact z26;clear hS;intro SB w hS)|((with_reducible apply yi hS);exact ya;exact yb rfl;exact yb rfl;(repeat (with_reducible first|exact ye|apply yd));rfl;(focus (simp;done));(repeat (with_reducible first|exact Upd.hd|apply Upd.tl));rfl;(with_reducible first|exact sz26|exact sz28);rfl;clear hS;intro w hS;(try simp only[yp,qS] at hS))|((with_reducible apply yh hS);(first|with_reducible exact ya|exact yf rfl (by(simp only[q4,q5,q6]);try with_reducible rfl));exact yb rfl;(repeat (with_reducible first|exact ye|apply yd));rfl;decide +kernel)|(go_at_call 32;refine (SP _ _ hS).mono ?_;clear hS;rintro e w ⟨rfl,hS⟩));try simp only[qA])
          refine bodyPost_ret (yE rfl rfl rfl (hS.loadWhole (b:=FB) (t:=28) (by(repeat (with_reducible first|exact ye|apply yd))) (by kernel_rfl) (by kernel_rfl))) rfl ?_
          exact⟨.inl (131,at_),HRUN.out _ (.err HE.out),by rw[HSP.out];rfl,hS.sb (by(repeat (with_reducible first|exact Sb.refl|apply Sb.skip)))⟩
      ·as_aux_lemma =>
        subst hq0
        have hkf2:k < fin:=hgr.resolve_left (by simp)
        obtain⟨st,out,opn,nds⟩:=m
        dsimp only at *
        simp only[Yq] at hS
        have CMR:=fun w R h=>commaR MB st out opn nds hm w0 w R h
        have hst:=commaStp ⟨st,out,opn,nds⟩ q (yQ st out opn)
        have hstep:yB ⟨st,out,opn,nds⟩ 1 q .comma=KP ⟨st,out,opn,nds⟩ q (yQ st out opn):=by simp only[yB,if_true]
        rw[← hstep] at hst
        clear hstep
        dsimp only at hst
        generalize kP nds (yQ st out opn)=P at *
        obtain⟨c,m2⟩:=P
        dsimp only at CMR hst
        rcases hst with ⟨hc,hs2⟩|⟨hc,hs2⟩
        ·as_aux_lemma =>
          subst hc
          go_upto_region 13 with ((with_reducible apply yh hS);exact ya;exact yb rfl;exact ye;rfl;decide +kernel;(try simp only[qA]))
          go_upto_region 38 with fail
          have hs:=hs2
          have HINV:=hid (YR hinv hs)
          have HRUN2:=hid (fun r h=>HRUN.out r (.go (t:=⟨_,at_,fin⟩) hs h))
          clear hs
          go_wp2_with (first|(go_at_call 29;refine (CMR _ (blk TB 72 [.int .i64 10,.int .i64 0,.int .i64 at_,.int .i64 fin]::blk FB 28 [.int .i64 0,.int .i64 0,.int .i64 0]::R) ⟨ad1,c1,ad2,c2,hS.sb (by(repeat (with_reducible first|exact Sb.refl|(refine Sb.take (by(repeat (first|exact Rem.hd|apply Rem.tl));done) ?_))))⟩).mono ?_;clear hS CMR;rintro e w ⟨rfl,hz1,hz2⟩;obtain⟨⟨ad1,c1,ad2,c2,hS⟩,_⟩:=hz1 rfl)|((with_reducible apply yh hS);(exact yf rfl (by(simp only[q4,q5,q6]);try with_reducible rfl));exact yb rfl;exact ye;rfl;decide +kernel;(try simp only[qA])))
          go_roundw
          case rel=>exact⟨_,0,q,fin,rfl,rfl,rfl,by decide,hfl,HINV.out,HRUN2,⟨ad1,c1,ad2,c2,hS.sb (by(repeat (with_reducible first|exact Sb.refl|(refine Sb.take (by(repeat (first|exact Rem.hd|apply Rem.tl));done) ?_)|apply Sb.skip)))⟩⟩
          case measure=>simp[intOf];omega
        ·as_aux_lemma =>
          subst hc
          go_upto_region 13 with ((with_reducible apply yh hS);exact ya;exact yb rfl;exact ye;rfl;decide +kernel;(try simp only[qA]))
          go_upto_region 38 with fail
          have HE:=hid (hs2)
          go_wp2_with ((first|(go_at_call 29;refine (CMR _ (blk TB 72 [.int .i64 10,.int .i64 0,.int .i64 at_,.int .i64 fin]::blk FB 28 [.int .i64 0,.int .i64 0,.int .i64 0]::R) ⟨ad1,c1,ad2,c2,hS.sb (by(repeat (with_reducible first|exact Sb.refl|(refine Sb.take (by(repeat (first|exact Rem.hd|apply Rem.tl));done) ?_))))⟩).mono ?_;clear hS CMR;rintro e w ⟨rfl,hz1,hz2⟩;obtain⟨m',ad1,c1,ad2,c2,hS⟩:=hz2 rfl)|((with_reducible apply Cont.intro);(exact Or.inl (by kernel_rfl));intro hR hC)|((first|((with_reducible apply dP 0 hC hR);(simp only[qL];rfl);decide +kernel;exact iQ;exact ya)|((with_reducible apply dP 2 hC hR);(simp only[qL];rfl);decide +kernel;exact iQ;exact ya)|((with_reducible apply dP 3 hC hR);(simp only[qL];rfl);decide +kernel;exact iQ;exact ya));(intro w;first|(go_simp;done)|(go_simp;rw[yo (by omega) (by omega)])|(go_simp;with_reducible rfl)|(go_simp;rfl));(clear hR hC;intro hR hC))|(((with_reducible apply dR 1 hC hR);(simp only[qL];rfl);decide +kernel;exact iQ;exact ya);(intro w hS;(apply yj rfl (by(exact yb rfl)));first|exact yc (by decide +kernel) (hS.cell (by(repeat (with_reducible apply yd))) rfl)|exact yc (by decide +kernel) ((hS.ownCell (by(repeat (with_reducible apply yd))) (by(rfl))).1)|exact yc (by decide +kernel) (Sat.rdCell2 (by assumption) hS (by((repeat (with_reducible apply yd)));try assumption) (by(rfl)))|exact yc (by decide +kernel) (hS.baseCell (by((repeat (with_reducible apply yd)));try assumption) (by assumption))|exact yc (by decide +kernel) (fzC (by assumption) hS (by((repeat (with_reducible apply yd)));try assumption))|exact yl hS (by assumption) (by((repeat (with_reducible apply yd)));try assumption) (by assumption) (by rfl) (by with_reducible exact sz78) (by decide +kernel) (by decide)|exact hS.loadWhole (by(exact ye)) (by kernel_rfl) (by kernel_rfl));(clear hR hC;intro hR hC))|((with_reducible apply yq (i:=4));(simp only[qL];rfl);decide +kernel;exact hC;clear hR hC)|((with_reducible apply ym);decide +kernel;clear hR hC)|(refine yt 53 5 hS (by kernel_rfl) [4] rfl ?_;clear hS;intro w hS hR hC)|((with_reducible apply yk hS);exact ya;exact z26;clear hS;intro SB w hS)|((with_reducible apply yi hS);exact ya;exact yb rfl;exact yb rfl;(repeat (with_reducible first|exact ye|apply yd));rfl;(focus (simp;done));(repeat (with_reducible first|exact Upd.hd|apply Upd.tl));rfl;(with_reducible first|exact sz26|exact sz28);rfl;clear hS;intro w hS;(try simp only[yp,qS] at hS))|((with_reducible apply yh hS);(first|with_reducible exact ya|exact yf rfl (by(simp only[q4,q5,q6]);try with_reducible rfl));exact yb rfl;(repeat (with_reducible first|exact ye|apply yd));rfl;decide +kernel)|(go_at_call 32;refine (SP _ _ hS).mono ?_;clear hS;rintro e w ⟨rfl,hS⟩));try simp only[qA])
          refine bodyPost_ret (yE rfl rfl rfl (hS.loadWhole (b:=FB) (t:=28) (by(repeat (with_reducible first|exact ye|apply yd))) (by kernel_rfl) (by kernel_rfl))) rfl ?_
          exact⟨.inl (131,at_),HRUN.out _ (.err HE.out),by rw[HSP.out];rfl,hS.sb (by(repeat (with_reducible first|exact Sb.refl|apply Sb.skip)))⟩
    ·as_aux_lemma =>
      have hk1:=kinds1 htk hq0
      have hes:=else1 (m:=m) (q:=q) htk hq0
      obtain⟨g1,g7,g9,g10,g0⟩:=hk1
      generalize (Yq tk).1=kk at *
      generalize (Yq tk).2=nn at *
      have e1:(kk == 1)=false:=beq_eq_false_iff_ne.2 g1
      have e7:(kk == 7)=false:=beq_eq_false_iff_ne.2 g7
      have e9:(kk == 9)=false:=beq_eq_false_iff_ne.2 g9
      have e10:(kk == 10)=false:=beq_eq_false_iff_ne.2 g10
      have e0:(kk == 0)=false:=beq_eq_false_iff_ne.2 g0
      clear g1 g7 g9 g10 g0 hgr hinv hm
      go_upto_region 13 with ((with_reducible apply yh hS);exact ya;exact yb rfl;exact ye;rfl;decide +kernel;(try simp only[qA]))
      go_upto_region 38 with fail
      have HE:=hid (hes)
      go_wp2_with ((first|((with_reducible apply Cont.intro);(exact Or.inl (by kernel_rfl));intro hR hC)|((first|((with_reducible apply dP 0 hC hR);(simp only[qL];rfl);decide +kernel;exact iQ;exact ya)|((with_reducible apply dP 2 hC hR);(simp only[qL];rfl);decide +kernel;exact iQ;exact ya)|((with_reducible apply dP 3 hC hR);(simp only[qL];rfl);decide +kernel;exact iQ;exact ya));(intro w;first|(go_simp;done)|(go_simp;rw[yo (by omega) (by omega)])|(go_simp;with_reducible rfl)|(go_simp;rfl));(clear hR hC;intro hR hC))|(((with_reducible apply dR 1 hC hR);(simp only[qL];rfl);decide +kernel;exact iQ;exact ya);(intro w hS;(apply yj rfl (by(exact yb rfl)));first|exact yc (by decide +kernel) (hS.cell (by(repeat (with_reducible apply yd))) rfl)|exact yc (by decide +kernel) ((hS.ownCell (by(repeat (with_reducible apply yd))) (by(rfl))).1)|exact yc (by decide +kernel) (Sat.rdCell2 (by assumption) hS (by((repeat (with_reducible apply yd)));try assumption) (by(rfl)))|exact yc (by decide +kernel) (hS.baseCell (by((repeat (with_reducible apply yd)));try assumption) (by assumption))|exact yc (by decide +kernel) (fzC (by assumption) hS (by((repeat (with_reducible apply yd)));try assumption))|exact yl hS (by assumption) (by((repeat (with_reducible apply yd)));try assumption) (by assumption) (by rfl) (by with_reducible exact sz78) (by decide +kernel) (by decide)|exact hS.loadWhole (by(exact ye)) (by kernel_rfl) (by kernel_rfl));(clear hR hC;intro hR hC))|((with_reducible apply yq (i:=4));(simp only[qL];rfl);decide +kernel;exact hC;clear hR hC)|((with_reducible apply ym);decide +kernel;clear hR hC)|(refine yt 53 5 hS (by kernel_rfl) [4] rfl ?_;clear hS;intro w hS hR hC)|((with_reducible apply yk hS);exact ya;exact z26;clear hS;intro SB w hS)|((with_reducible apply yi hS);exact ya;exact yb rfl;exact yb rfl;(repeat (with_reducible first|exact ye|apply yd));rfl;(focus (simp;done));(repeat (with_reducible first|exact Upd.hd|apply Upd.tl));rfl;(with_reducible first|exact sz26|exact sz28);rfl;clear hS;intro w hS;(try simp only[yp,qS] at hS))|((with_reducible apply yh hS);(first|with_reducible exact ya|exact yf rfl (by(simp only[q4,q5,q6]);try with_reducible rfl));exact yb rfl;exact ye;rfl;decide +kernel)|(go_at_call 32;refine (SP _ _ hS).mono ?_;clear hS;rintro e w ⟨rfl,hS⟩));try simp only[qA])
      refine bodyPost_ret (yE rfl rfl rfl (hS.loadWhole (b:=FB) (t:=28) (by(repeat (with_reducible first|exact ye|apply yd))) (by kernel_rfl) (by kernel_rfl))) rfl ?_
      exact⟨.inl (131,at_),HRUN.out _ (.err HE.out),by rw[HSP.out];rfl,hS.sb (by(repeat (with_reducible first|exact Sb.refl|apply Sb.skip)))⟩
  ·as_aux_lemma =>
    by_cases hq0:tk=.opn
    ·as_aux_lemma =>
      subst hq0
      have hkf2:k < fin:=hgr.resolve_left (by simp)
      simp only[Yq] at hS
      go_upto_region 13 with ((with_reducible apply yh hS);exact ya;exact yb rfl;exact ye;rfl;decide +kernel;(try simp only[qA]))
      go_upto_region 27 with fail
      have hs:=show yB m 2 q .opn=.go m 0 q from rfl
      have HINV:=hid (YR hinv hs)
      have HRUN2:=hid (fun r h=>HRUN.out r (.go (t:=⟨_,at_,fin⟩) hs h))
      clear hs
      go_wp2_with ((with_reducible apply yh hS);(exact yf rfl (by(simp only[q4,q5,q6]);try with_reducible rfl));exact yb rfl;exact ye;rfl;decide +kernel;(try simp only[qA]))
      go_roundw
      case rel=>exact⟨_,0,q,fin,rfl,rfl,rfl,by decide,hfl,HINV.out,HRUN2,⟨ad1,c1,ad2,c2,hS.sb (by(repeat (with_reducible first|exact Sb.refl|(refine Sb.take (by(repeat (first|exact Rem.hd|apply Rem.tl));done) ?_)|apply Sb.skip)))⟩⟩
      case measure=>simp[intOf];omega
    ·as_aux_lemma =>
      have hk1:=kinds2 htk hq0
      have hes:=else2 (m:=m) (q:=q) htk hq0
      obtain⟨g1,g8⟩:=hk1
      generalize (Yq tk).1=kk at *
      generalize (Yq tk).2=nn at *
      have e1:(kk == 1)=false:=beq_eq_false_iff_ne.2 g1
      have e8:(kk == 8)=false:=beq_eq_false_iff_ne.2 g8
      clear g1 g8 hgr hinv hm
      go_upto_region 13 with ((with_reducible apply yh hS);exact ya;exact yb rfl;exact ye;rfl;decide +kernel;(try simp only[qA]))
      go_upto_region 27 with fail
      go_upto_region 29 with ((with_reducible apply yh hS);(exact yf rfl (by(simp only[q4,q5,q6]);try with_reducible rfl));exact yb rfl;exact ye;rfl;decide +kernel;(try simp only[qA]))
      go_upto_region 51 with fail
      have HE:=hid (hes)
      go_wp2_with ((first|((with_reducible apply Cont.intro);(exact Or.inl (by kernel_rfl));intro hR hC)|((first|((with_reducible apply dP 0 hC hR);(simp only[qL];rfl);decide +kernel;exact iQ;exact ya)|((with_reducible apply dP 2 hC hR);(simp only[qL];rfl);decide +kernel;exact iQ;exact ya)|((with_reducible apply dP 3 hC hR);(simp only[qL];rfl);decide +kernel;exact iQ;exact ya));(intro w;first|(go_simp;done)|(go_simp;rw[yo (by omega) (by omega)])|(go_simp;with_reducible rfl)|(go_simp;rfl));(clear hR hC;intro hR hC))|(((with_reducible apply dR 1 hC hR);(simp only[qL];rfl);decide +kernel;exact iQ;exact ya);(intro w hS;(apply yj rfl (by(exact yb rfl)));first|exact yc (by decide +kernel) (hS.cell (by(repeat (with_reducible apply yd))) rfl)|exact yc (by decide +kernel) ((hS.ownCell (by(repeat (with_reducible apply yd))) (by(rfl))).1)|exact yc (by decide +kernel) (Sat.rdCell2 (by assumption) hS (by((repeat (with_reducible apply yd)));try assumption) (by(rfl)))|exact yc (by decide +kernel) (hS.baseCell (by((repeat (with_reducible apply yd)));try assumption) (by assumption))|exact yc (by decide +kernel) (fzC (by assumption) hS (by((repeat (with_reducible apply yd)));try assumption))|exact yl hS (by assumption) (by((repeat (with_reducible apply yd)));try assumption) (by assumption) (by rfl) (by with_reducible exact sz78) (by decide +kernel) (by decide)|exact hS.loadWhole (by(exact ye)) (by kernel_rfl) (by kernel_rfl));(clear hR hC;intro hR hC))|((with_reducible apply yq (i:=4));(simp only[qL];rfl);decide +kernel;exact hC;clear hR hC)|((with_reducible apply ym);decide +kernel;clear hR hC)|(refine yt 53 5 hS (by kernel_rfl) [4] rfl ?_;clear hS;intro w hS hR hC)|((with_reducible apply yk hS);exact ya;exact z26;clear hS;intro SB w hS)|((with_reducible apply yi hS);exact ya;exact yb rfl;exact yb rfl;(repeat (with_reducible first|exact ye|apply yd));rfl;(focus (simp;done));(repeat (with_reducible first|exact Upd.hd|apply Upd.tl));rfl;(with_reducible first|exact sz26|exact sz28);rfl;clear hS;intro w hS;(try simp only[yp,qS] at hS))|((with_reducible apply yh hS);exact ya;exact yb rfl;exact ye;rfl;decide +kernel)|(go_at_call 32;refine (SP _ _ hS).mono ?_;clear hS;rintro e w ⟨rfl,hS⟩));try simp only[qA])
      refine bodyPost_ret (yE rfl rfl rfl (hS.loadWhole (b:=FB) (t:=28) (by(repeat (with_reducible first|exact ye|apply yd))) (by kernel_rfl) (by kernel_rfl))) rfl ?_
      exact⟨.inl (131,at_),HRUN.out _ (.err HE.out),by rw[HSP.out];rfl,hS.sb (by(repeat (with_reducible first|exact Sb.refl|apply Sb.skip)))⟩
  ·as_aux_lemma =>
    by_cases hq0:∃ n,tk=.var n
    ·as_aux_lemma =>
      obtain⟨n,rfl⟩:=hq0
      have hkf2:k < fin:=hgr.resolve_left (by simp)
      simp only[Yq] at hS
      obtain⟨st,out,opn,nds⟩:=m
      dsimp only at *
      have OP:=fun w R h=>Xe MB (.quant q n) st out opn nds hm.2.2.2.1 hm.2.1 w0 w R h
      simp only[wtN] at OP
      by_cases h64:64≤opn
      ·as_aux_lemma =>
        simp only[if_pos h64] at OP
        go_upto_region 13 with ((with_reducible apply yh hS);exact ya;exact yb rfl;exact ye;rfl;decide +kernel;(try simp only[qA]))
        go_upto_region 29 with fail
        have HE:=hid (show yB ⟨st,out,opn,nds⟩ 3 q (.var n)=.err 132 by simp only[yB,YE];rw[if_neg (by decide),if_pos trivial,if_pos h64])
        go_wp2_with ((first|(go_at_call 26;refine (OP _ (blk TB 72 [.int .i64 3,.int .i64 n,.int .i64 at_,.int .i64 fin]::blk FB 28 [.int .i64 0,.int .i64 0,.int .i64 0]::R) ⟨ad1,c1,ad2,c2,hS.sb (by(repeat (with_reducible first|exact Sb.refl|(refine Sb.take (by(repeat (first|exact Rem.hd|apply Rem.tl));done) ?_))))⟩).mono ?_;clear hS OP;rintro e w ⟨rfl,ad1,c1,ad2,c2,hS⟩)|((with_reducible apply Cont.intro);(exact Or.inl (by kernel_rfl));intro hR hC)|((first|((with_reducible apply dP 0 hC hR);(simp only[qL];rfl);decide +kernel;exact iQ;exact ya)|((with_reducible apply dP 2 hC hR);(simp only[qL];rfl);decide +kernel;exact iQ;exact ya)|((with_reducible apply dP 3 hC hR);(simp only[qL];rfl);decide +kernel;exact iQ;exact ya));(intro w;first|(go_simp;done)|(go_simp;rw[yo (by omega) (by omega)])|(go_simp;with_reducible rfl)|(go_simp;rfl));(clear hR hC;intro hR hC))|(((with_reducible apply dR 1 hC hR);(simp only[qL];rfl);decide +kernel;exact iQ;exact ya);(intro w hS;(apply yj rfl (by(exact yb rfl)));first|exact yc (by decide +kernel) (hS.cell (by(repeat (with_reducible apply yd))) rfl)|exact yc (by decide +kernel) ((hS.ownCell (by(repeat (with_reducible apply yd))) (by(rfl))).1)|exact yc (by decide +kernel) (Sat.rdCell2 (by assumption) hS (by((repeat (with_reducible apply yd)));try assumption) (by(rfl)))|exact yc (by decide +kernel) (hS.baseCell (by((repeat (with_reducible apply yd)));try assumption) (by assumption))|exact yc (by decide +kernel) (fzC (by assumption) hS (by((repeat (with_reducible apply yd)));try assumption))|exact yl hS (by assumption) (by((repeat (with_reducible apply yd)));try assumption) (by assumption) (by rfl) (by with_reducible exact sz78) (by decide +kernel) (by decide)|exact hS.loadWhole (by(exact ye)) (by kernel_rfl) (by kernel_rfl));(clear hR hC;intro hR hC))|((with_reducible apply yq (i:=4));(simp only[qL];rfl);decide +kernel;exact hC;clear hR hC)|((with_reducible apply ym);decide +kernel;clear hR hC)|(refine yt 53 5 hS (by kernel_rfl) [4] rfl ?_;clear hS;intro w hS hR hC)|((with_reducible apply yk hS);exact ya;exact z26;clear hS;intro SB w hS)|((with_reducible apply yi hS);exact ya;exact yb rfl;exact yb rfl;(repeat (with_reducible first|exact ye|apply yd));rfl;(focus (simp;done));(repeat (with_reducible first|exact Upd.hd|apply Upd.tl));rfl;(with_reducible first|exact sz26|exact sz28);rfl;clear hS;intro w hS;(try simp only[yp,qS] at hS))|((with_reducible apply yh hS);(first|with_reducible exact ya|exact yf rfl (by(simp only[q4,q5,q6]);try with_reducible rfl));exact yb rfl;(repeat (with_reducible first|exact ye|apply yd));rfl;decide +kernel)|(go_at_call 32;refine (SP _ _ hS).mono ?_;clear hS;rintro e w ⟨rfl,hS⟩));try simp only[qA])
        refine bodyPost_ret (yE rfl rfl rfl (hS.loadWhole (b:=FB) (t:=28) (by(repeat (with_reducible first|exact ye|apply yd))) (by kernel_rfl) (by kernel_rfl))) rfl ?_
        exact⟨.inl (132,at_),HRUN.out _ (.err HE.out),by rw[HSP.out];rfl,hS.sb (by(repeat (with_reducible first|exact Sb.refl|apply Sb.skip)))⟩
      ·as_aux_lemma =>
        simp only[if_neg h64] at OP
        have MK:=fun w R h=>jW MB (.quant q n::st) out (opn+1) nds hm.2.2.2.2 w0 w R h
        by_cases h6:65536≤nds
        ·as_aux_lemma =>
          simp only[if_pos h6] at MK
          go_upto_region 13 with ((with_reducible apply yh hS);exact ya;exact yb rfl;exact ye;rfl;decide +kernel;(try simp only[qA]))
          go_upto_region 29 with fail
          have HE:=hid (show yB ⟨st,out,opn,nds⟩ 3 q (.var n)=.err 8 by simp only[yB,YE,Yk];rw[if_neg (by decide),if_pos trivial,if_neg h64,if_pos h6])
          go_wp2_with ((first|(go_at_call 26;refine (OP _ (blk TB 72 [.int .i64 3,.int .i64 n,.int .i64 at_,.int .i64 fin]::blk FB 28 [.int .i64 0,.int .i64 0,.int .i64 0]::R) ⟨ad1,c1,ad2,c2,hS.sb (by(repeat (with_reducible first|exact Sb.refl|(refine Sb.take (by(repeat (first|exact Rem.hd|apply Rem.tl));done) ?_))))⟩).mono ?_;clear hS OP;rintro e w ⟨rfl,ad1,c1,ad2,c2,hS⟩)|(go_at_call 24;refine (MK _ (blk TB 72 [.int .i64 3,.int .i64 n,.int .i64 at_,.int .i64 fin]::blk FB 28 [.int .i64 0,.int .i64 0,.int .i64 0]::R) ⟨ad1,c1,ad2,c2,hS.sb (by(repeat (with_reducible exact Sb.refl)))⟩).mono ?_;clear hS MK;rintro e w ⟨rfl,ad1,c1,ad2,c2,hS⟩)|((with_reducible apply Cont.intro);(exact Or.inl (by kernel_rfl));intro hR hC)|((first|((with_reducible apply dP 0 hC hR);(simp only[qL];rfl);decide +kernel;exact iQ;exact ya)|((with_reducible apply dP 2 hC hR);(simp only[qL];rfl);decide +kernel;exact iQ;exact ya)|((with_reducible apply dP 3 hC hR);(simp only[qL];rfl);decide +kernel;exact iQ;exact ya));(intro w;first|(go_simp;done)|(go_simp;rw[yo (by omega) (by omega)])|(go_simp;with_reducible rfl)|(go_simp;rfl));(clear hR hC;intro hR hC))|(((with_reducible apply dR 1 hC hR);(simp only[qL];rfl);decide +kernel;exact iQ;exact ya);(intro w hS;(apply yj rfl (by(exact yb rfl)));first|exact yc (by decide +kernel) (hS.cell (by(repeat (with_reducible apply yd))) rfl)|exact yc (by decide +kernel) ((hS.ownCell (by(repeat (with_reducible apply yd))) (by(rfl))).1)|exact yc (by decide +kernel) (Sat.rdCell2 (by assumption) hS (by((repeat (with_reducible apply yd)));try assumption) (by(rfl)))|exact yc (by decide +kernel) (hS.baseCell (by((repeat (with_reducible apply yd)));try assumption) (by assumption))|exact yc (by decide +kernel) (fzC (by assumption) hS (by((repeat (with_reducible apply yd)));try assumption))|exact yl hS (by assumption) (by((repeat (with_reducible apply yd)));try assumption) (by assumption) (by rfl) (by with_reducible exact sz78) (by decide +kernel) (by decide)|exact hS.loadWhole (by(exact ye)) (by kernel_rfl) (by kernel_rfl));(clear hR hC;intro hR hC))|((with_reducible apply yq (i:=4));(simp only[qL];rfl);decide +kernel;exact hC;clear hR hC)|((with_reducible apply ym);decide +kernel;clear hR hC)|(refine yt 53 5 hS (by kernel_rfl) [4] rfl ?_;clear hS;intro w hS hR hC)|((with_reducible apply yk hS);exact ya;exact z26;clear hS;intro SB w hS)|((with_reducible apply yi hS);exact ya;exact yb rfl;exact yb rfl;(repeat (with_reducible first|exact ye|apply yd));rfl;(focus (simp;done));(repeat (with_reducible first|exact Upd.hd|apply Upd.tl));rfl;(with_reducible first|exact sz26|exact sz28);rfl;clear hS;intro w hS;(try simp only[yp,qS] at hS))|((with_reducible apply yh hS);(first|with_reducible exact ya|exact yf rfl (by(simp only[q4,q5,q6]);try with_reducible rfl));exact yb rfl;(repeat (with_reducible first|exact ye|apply yd));rfl;decide +kernel)|(go_at_call 32;refine (SP _ _ hS).mono ?_;clear hS;rintro e w ⟨rfl,hS⟩));try simp only[qA])
          refine bodyPost_ret (yE rfl rfl rfl (hS.loadWhole (b:=FB) (t:=28) (by(repeat (with_reducible first|exact ye|apply yd))) (by kernel_rfl) (by kernel_rfl))) rfl ?_
          exact⟨.inl (8,at_),HRUN.out _ (.err HE.out),by rw[HSP.out];rfl,hS.sb (by(repeat (with_reducible first|exact Sb.refl|apply Sb.skip)))⟩
        ·as_aux_lemma =>
          simp only[if_neg h6] at MK
          go_upto_region 13 with ((with_reducible apply yh hS);exact ya;exact yb rfl;exact ye;rfl;decide +kernel;(try simp only[qA]))
          go_upto_region 29 with fail
          have hs:=show yB ⟨st,out,opn,nds⟩ 3 q (.var n)=.go ⟨.quant q n::st,out,opn+1,nds+1⟩ 4 q by simp only[yB,YE,Yk];rw[if_neg (by decide),if_pos trivial,if_neg h64,if_neg h6]
          have HINV:=hid (YR hinv hs)
          have HRUN2:=hid (fun r h=>HRUN.out r (.go (t:=⟨_,at_,fin⟩) hs h))
          clear hs
          go_wp2_with (first|(go_at_call 26;refine (OP _ (blk TB 72 [.int .i64 3,.int .i64 n,.int .i64 at_,.int .i64 fin]::blk FB 28 [.int .i64 0,.int .i64 0,.int .i64 0]::R) ⟨ad1,c1,ad2,c2,hS.sb (by(repeat (with_reducible first|exact Sb.refl|(refine Sb.take (by(repeat (first|exact Rem.hd|apply Rem.tl));done) ?_))))⟩).mono ?_;clear hS OP;rintro e w ⟨rfl,ad1,c1,ad2,c2,hS⟩)|(go_at_call 24;refine (MK _ (blk TB 72 [.int .i64 3,.int .i64 n,.int .i64 at_,.int .i64 fin]::blk FB 28 [.int .i64 0,.int .i64 0,.int .i64 0]::R) ⟨ad1,c1,ad2,c2,hS.sb (by(repeat (with_reducible exact Sb.refl)))⟩).mono ?_;clear hS MK;rintro e w ⟨rfl,ad1,c1,ad2,c2,hS⟩)|((with_reducible apply yh hS);(first|with_reducible exact ya|exact yf rfl (by(simp only[q4,q5,q6]);try with_reducible rfl));exact yb rfl;exact ye;rfl;decide +kernel;(try simp only[qA])))
          go_roundw
          case rel=>exact⟨_,4,q,fin,rfl,rfl,rfl,by decide,hfl,HINV.out,HRUN2,⟨ad1,c1,ad2,c2,hS.sb (by(repeat (with_reducible first|exact Sb.refl|(refine Sb.take (by(repeat (first|exact Rem.hd|apply Rem.tl));done) ?_)|apply Sb.skip)))⟩⟩
          case measure=>simp[intOf];omega
    ·as_aux_lemma =>
      have hk1:=kinds3 htk hq0
      have hes:=else3 (m:=m) (q:=q) htk hq0
      obtain⟨g1,g3⟩:=hk1
      generalize (Yq tk).1=kk at *
      generalize (Yq tk).2=nn at *
      have e1:(kk == 1)=false:=beq_eq_false_iff_ne.2 g1
      have e3:(kk == 3)=false:=beq_eq_false_iff_ne.2 g3
      clear g1 g3 hgr hinv hm
      go_upto_region 13 with ((with_reducible apply yh hS);exact ya;exact yb rfl;exact ye;rfl;decide +kernel;(try simp only[qA]))
      go_upto_region 29 with fail
      go_upto_region 34 with ((with_reducible apply yh hS);(exact yf rfl (by(simp only[q4,q5,q6]);try with_reducible rfl));exact yb rfl;exact ye;rfl;decide +kernel;(try simp only[qA]))
      go_upto_region 51 with fail
      have HE:=hid (hes)
      go_wp2_with ((first|((with_reducible apply Cont.intro);(exact Or.inl (by kernel_rfl));intro hR hC)|((first|((with_reducible apply dP 0 hC hR);(simp only[qL];rfl);decide +kernel;exact iQ;exact ya)|((with_reducible apply dP 2 hC hR);(simp only[qL];rfl);decide +kernel;exact iQ;exact ya)|((with_reducible apply dP 3 hC hR);(simp only[qL];rfl);decide +kernel;exact iQ;exact ya));(intro w;first|(go_simp;done)|(go_simp;rw[yo (by omega) (by omega)])|(go_simp;with_reducible rfl)|(go_simp;rfl));(clear hR hC;intro hR hC))|(((with_reducible apply dR 1 hC hR);(simp only[qL];rfl);decide +kernel;exact iQ;exact ya);(intro w hS;(apply yj rfl (by(exact yb rfl)));first|exact yc (by decide +kernel) (hS.cell (by(repeat (with_reducible apply yd))) rfl)|exact yc (by decide +kernel) ((hS.ownCell (by(repeat (with_reducible apply yd))) (by(rfl))).1)|exact yc (by decide +kernel) (Sat.rdCell2 (by assumption) hS (by((repeat (with_reducible apply yd)));try assumption) (by(rfl)))|exact yc (by decide +kernel) (hS.baseCell (by((repeat (with_reducible apply yd)));try assumption) (by assumption))|exact yc (by decide +kernel) (fzC (by assumption) hS (by((repeat (with_reducible apply yd)));try assumption))|exact yl hS (by assumption) (by((repeat (with_reducible apply yd)));try assumption) (by assumption) (by rfl) (by with_reducible exact sz78) (by decide +kernel) (by decide)|exact hS.loadWhole (by(exact ye)) (by kernel_rfl) (by kernel_rfl));(clear hR hC;intro hR hC))|((with_reducible apply yq (i:=4));(simp only[qL];rfl);decide +kernel;exact hC;clear hR hC)|((with_reducible apply ym);decide +kernel;clear hR hC)|(refine yt 53 5 hS (by kernel_rfl) [4] rfl ?_;clear hS;intro w hS hR hC)|((with_reducible apply yk hS);exact ya;exact z26;clear hS;intro SB w hS)|((with_reducible apply yi hS);exact ya;exact yb rfl;exact yb rfl;(repeat (with_reducible first|exact ye|apply yd));rfl;(focus (simp;done));(repeat (with_reducible first|exact Upd.hd|apply Upd.tl));rfl;(with_reducible first|exact sz26|exact sz28);rfl;clear hS;intro w hS;(try simp only[yp,qS] at hS))|((with_reducible apply yh hS);exact ya;exact yb rfl;exact ye;rfl;decide +kernel)|(go_at_call 32;refine (SP _ _ hS).mono ?_;clear hS;rintro e w ⟨rfl,hS⟩));try simp only[qA])
      refine bodyPost_ret (yE rfl rfl rfl (hS.loadWhole (b:=FB) (t:=28) (by(repeat (with_reducible first|exact ye|apply yd))) (by kernel_rfl) (by kernel_rfl))) rfl ?_
      exact⟨.inl (131,at_),HRUN.out _ (.err HE.out),by rw[HSP.out];rfl,hS.sb (by(repeat (with_reducible first|exact Sb.refl|apply Sb.skip)))⟩
  ·as_aux_lemma =>
    by_cases hq0:tk=.comma∨tk=.colon
    ·as_aux_lemma =>
      rcases hq0 with rfl|rfl
      ·as_aux_lemma =>
        have hkf2:k < fin:=hgr.resolve_left (by simp)
        simp only[Yq] at hS
        go_upto_region 13 with ((with_reducible apply yh hS);exact ya;exact yb rfl;exact ye;rfl;decide +kernel;(try simp only[qA]))
        go_upto_region 34 with fail
        have hs:=show yB m 4 q .comma=.go m 3 q from rfl
        have HINV:=hid (YR hinv hs)
        have HRUN2:=hid (fun r h=>HRUN.out r (.go (t:=⟨_,at_,fin⟩) hs h))
        clear hs
        go_wp2_with ((with_reducible apply yh hS);(exact yf rfl (by(simp only[q4,q5,q6]);try with_reducible rfl));exact yb rfl;exact ye;rfl;decide +kernel;(try simp only[qA]))
        go_roundw
        case rel=>exact⟨_,3,q,fin,rfl,rfl,rfl,by decide,hfl,HINV.out,HRUN2,⟨ad1,c1,ad2,c2,hS.sb (by(repeat (with_reducible first|exact Sb.refl|(refine Sb.take (by(repeat (first|exact Rem.hd|apply Rem.tl));done) ?_)|apply Sb.skip)))⟩⟩
        case measure=>simp[intOf];omega
      ·as_aux_lemma =>
        have hkf2:k < fin:=hgr.resolve_left (by simp)
        simp only[Yq] at hS
        go_upto_region 13 with ((with_reducible apply yh hS);exact ya;exact yb rfl;exact ye;rfl;decide +kernel;(try simp only[qA]))
        go_upto_region 34 with fail
        have hs:=show yB m 4 q .colon=.go m 0 q from rfl
        have HINV:=hid (YR hinv hs)
        have HRUN2:=hid (fun r h=>HRUN.out r (.go (t:=⟨_,at_,fin⟩) hs h))
        clear hs
        go_wp2_with ((with_reducible apply yh hS);(exact yf rfl (by(simp only[q4,q5,q6]);try with_reducible rfl));exact yb rfl;exact ye;rfl;decide +kernel;(try simp only[qA]))
        go_roundw
        case rel=>exact⟨_,0,q,fin,rfl,rfl,rfl,by decide,hfl,HINV.out,HRUN2,⟨ad1,c1,ad2,c2,hS.sb (by(repeat (with_reducible first|exact Sb.refl|(refine Sb.take (by(repeat (first|exact Rem.hd|apply Rem.tl));done) ?_)|apply Sb.skip)))⟩⟩
        case measure=>simp[intOf];omega
    ·as_aux_lemma =>
      have hk1:=kinds4 htk hq0
      have hes:=else4 (m:=m) (q:=q) htk hq0
      obtain⟨g1,g10,g11⟩:=hk1
      generalize (Yq tk).1=kk at *
      generalize (Yq tk).2=nn at *
      have e1:(kk == 1)=false:=beq_eq_false_iff_ne.2 g1
      have e10:(kk == 10)=false:=beq_eq_false_iff_ne.2 g10
      have e11:(kk == 11)=false:=beq_eq_false_iff_ne.2 g11
      clear g1 g10 g11 hgr hinv hm
      go_upto_region 13 with ((with_reducible apply yh hS);exact ya;exact yb rfl;exact ye;rfl;decide +kernel;(try simp only[qA]))
      go_upto_region 34 with fail
      go_upto_region 38 with ((with_reducible apply yh hS);(exact yf rfl (by(simp only[q4,q5,q6]);try with_reducible rfl));exact yb rfl;exact ye;rfl;decide +kernel;(try simp only[qA]))
      go_upto_region 51 with fail
      have HE:=hid (hes)
      go_wp2_with ((first|((with_reducible apply Cont.intro);(exact Or.inl (by kernel_rfl));intro hR hC)|((first|((with_reducible apply dP 0 hC hR);(simp only[qL];rfl);decide +kernel;exact iQ;exact ya)|((with_reducible apply dP 2 hC hR);(simp only[qL];rfl);decide +kernel;exact iQ;exact ya)|((with_reducible apply dP 3 hC hR);(simp only[qL];rfl);decide +kernel;exact iQ;exact ya));(intro w;first|(go_simp;done)|(go_simp;rw[yo (by omega) (by omega)])|(go_simp;with_reducible rfl)|(go_simp;rfl));(clear hR hC;intro hR hC))|(((with_reducible apply dR 1 hC hR);(simp only[qL];rfl);decide +kernel;exact iQ;exact ya);(intro w hS;(apply yj rfl (by(exact yb rfl)));first|exact yc (by decide +kernel) (hS.cell (by(repeat (with_reducible apply yd))) rfl)|exact yc (by decide +kernel) ((hS.ownCell (by(repeat (with_reducible apply yd))) (by(rfl))).1)|exact yc (by decide +kernel) (Sat.rdCell2 (by assumption) hS (by((repeat (with_reducible apply yd)));try assumption) (by(rfl)))|exact yc (by decide +kernel) (hS.baseCell (by((repeat (with_reducible apply yd)));try assumption) (by assumption))|exact yc (by decide +kernel) (fzC (by assumption) hS (by((repeat (with_reducible apply yd)));try assumption))|exact yl hS (by assumption) (by((repeat (with_reducible apply yd)));try assumption) (by assumption) (by rfl) (by with_reducible exact sz78) (by decide +kernel) (by decide)|exact hS.loadWhole (by(exact ye)) (by kernel_rfl) (by kernel_rfl));(clear hR hC;intro hR hC))|((with_reducible apply yq (i:=4));(simp only[qL];rfl);decide +kernel;exact hC;clear hR hC)|((with_reducible apply ym);decide +kernel;clear hR hC)|(refine yt 53 5 hS (by kernel_rfl) [4] rfl ?_;clear hS;intro w hS hR hC)|((with_reducible apply yk hS);exact ya;exact z26;clear hS;intro SB w hS)|((with_reducible apply yi hS);exact ya;exact yb rfl;exact yb rfl;(repeat (with_reducible first|exact ye|apply yd));rfl;(focus (simp;done));(repeat (with_reducible first|exact Upd.hd|apply Upd.tl));rfl;(with_reducible first|exact sz26|exact sz28);rfl;clear hS;intro w hS;(try simp only[yp,qS] at hS))|((with_reducible apply yh hS);exact ya;exact yb rfl;exact ye;rfl;decide +kernel)|(go_at_call 32;refine (SP _ _ hS).mono ?_;clear hS;rintro e w ⟨rfl,hS⟩));try simp only[qA])
      refine bodyPost_ret (yE rfl rfl rfl (hS.loadWhole (b:=FB) (t:=28) (by(repeat (with_reducible first|exact ye|apply yd))) (by kernel_rfl) (by kernel_rfl))) rfl ?_
      exact⟨.inl (131,at_),HRUN.out _ (.err HE.out),by rw[HSP.out];rfl,hS.sb (by(repeat (with_reducible first|exact Sb.refl|apply Sb.skip)))⟩
end
end Go.Proofs.YteopodbkhgcpmaaGreatDoor
