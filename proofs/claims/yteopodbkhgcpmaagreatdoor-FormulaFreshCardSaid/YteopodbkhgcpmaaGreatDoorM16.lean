/- A part of the proof: Lv8 Lv9 Lv11. -/
import Derived.Test.YteopodbkhgcpmaaGreatDoorM1
import Derived.Test.YteopodbkhgcpmaaGreatDoorM4
import Derived.Test.YteopodbkhgcpmaaGreatDoorM10
import Derived.Test.YteopodbkhgcpmaaGreatDoorM13
import Derived.Test.YteopodbkhgcpmaaGreatDoorM15
set_option linter.unusedSimpArgs false
set_option linter.unusedVariables false
set_option linter.unusedSectionVars false
namespace Go.Proofs.YteopodbkhgcpmaaGreatDoor
section
set_option maxRecDepth 20000
open Go Go.RowKit Go.SL Go.ClauseP Go.LexP

def quJ (text:List UInt8) (p q:Ps) (vs:List Int):Prop :=
 (∀ r,q.tk=.comma→Vars text q vs r→Vars text p [] r)∧(q.tk≠.comma→Vars text p [] (match yL text 12 q with|.inl e=>.inl e|.inr q'=>.inr (vs,q')))
def quSt (w0:World) (R:List HP) (H:Hp) (B:Nat) (text:List UInt8) (p:Ps) (ad:Option Addr) (m cap:Nat) (xs:List Value) (b:Bool) (w:World):(Int × Nat) ⊕ (Ps × List Int)→Prop
 | .inl x=>Vars text p [] (.inl x)∧aftN w0 w (fz H::own 3 1 ad m cap xs::R) B text p.opn 65537 (.inl x)
 | .inr (q,vs)=>xs=Is vs∧vs.length=m∧PsB text q∧q.opn=p.opn+m∧p.nds+m≤q.nds∧meas text q≤meas text p∧(∀ v∈vs,0≤v∧v < 65536) ∧
   ((b=true∧(∀ r,Vars text q vs r→Vars text p [] r)∧meas text q=meas text p∧knd q≠0)∨(b=false∧quJ text p q vs∧meas text q < meas text p))∧Sat w0 w (blk B 51 (alV text q)::fz H::own 3 1 ad m cap xs::R)
theorem tk_var {t:Tk} (h:YL t) (hk:(yZ t).1=2):∃ n,t=.var n:=by
 cases t <;> simp[yZ,YL] at*<;> omega
theorem gy {t:Tk} (h:YL t):(yZ t).1=11↔t=.comma:=by cases t <;> simp[yZ,YL] at*<;> omega
theorem quJ_next {text:List UInt8} {p q q1 q':Ps} {vs:List Int} {n:Int} (hR:∀ r,Vars text q vs r→Vars text p [] r) (ha:yM text q=.inr q1) (ht:q1.tk=.var n) (hb:yx (yx (yV q1) yC) (yM text)=.inr q'):quJ text p q' (vs++[n]) :=
 ⟨fun r hc hr=>hR r (.more ha ht hb hc hr),fun hc=>hR _ (.done ha ht hb hc)⟩
theorem adv_Ok_tk {text:List UInt8} {p q:Ps} (h:yM text p=.inr q):YL q.tk:=by
 obtain rfl:=KV h
 rcases JB text p.fin with h1|⟨e,h1⟩
 ·exact h1
 ·rw[uR text p e h1] at h;cases h
theorem adv_fin {text:List UInt8} {p q:Ps} (hf:p.fin≤text.length) (h:yM text p=.inr q):q.fin≤text.length:=by
 obtain rfl:=KV h
 exact(je text p.fin hf).2.1
theorem UJ (op:Int):∀ (vs:List Int) (x:T),size (quT op vs x)=size x+vs.length
 | [],x=>rfl
 | v::vs,x=>by
  have:=UJ op vs x
  simp only[quT,List.foldr_cons,List.length_cons,size] at this ⊢
  rw[this];omega
theorem GX {op:Int} (ho:op=4∨op=5):∀ {vs:List Int} {x:T},okT x→(∀ v∈vs,0≤v∧v < 65536)→okT (quT op vs x)
 | [],x,h,_=>h
 | v::vs,x,h,hv=>⟨ho,(hv v (.head _)).1,(hv v (.head _)).2,GX ho h (fun u hu=>hv u (.tail _ hu))⟩
theorem kG {w0 w:World} {R:List HP} {B:Nat} {text:List UInt8} {lo:Nat} {d:Int} {a:Nat} (h:aftN w0 w R B text lo 65537 (.inl (d,a))):d≠0∧∃ k n tat te fin o nd:Int,lo≤o∧o≤65∧0≤nd∧nd≤65537 ∧
  Sat w0 w (blk B 51 [.string ⟨text.toArray⟩,.int .i64 k,.int .i64 n,.int .i64 tat,.int .i64 te,.int .i64 fin,.int .i64 o,.int .i64 nd,.int .i64 d,.int .i64 a]::R):=h
set_option maxHeartbeats 8000000 in
theorem quLoop (text:List UInt8) (hl:text.length≤1048576) (B:Nat) (p:Ps) (op:Int) (w0 w:World) (R:List HP) (H:Hp) (hp:PsB text p) (hSig:kY w0) (hbm:YF w0∈R) (hA:LvA text 15 1 (meas text p - 1)) (ht:p.tk=.quant op) (hop:i64 op)
  (hS:Sat w0 w (blk B 51 (alV text p)::fz H::R)) :
  Calls Tryz.prog 125 #[.pointer (some ⟨B,0,none⟩),.int .i64 op] w (PostR w0 R H B text p):=by
 have hpk:op=4∨op=5:=by have:=hp.2.2.2;rw[ht] at this;exact this
 have hkn:knd p≠0:=by unfold knd;rw[ht];show op+9≠0;omega
 have hf:=hp.2.2.1
 have hmp:=jJ hf hkn
 have hS0:=(hS.ownNil 3 1).sb (L:=blk B 51 (alV text p)::fz H::own 3 1 none 0 0 []::R) (by(repeat (with_reducible first|exact Sb.refl|(refine Sb.take (by(repeat (first|exact Rem.hd|apply Rem.tl));done) ?_))))
 have HPK:=hid hpk
 have HT:=hid ht
 clear ht hpk hS
 go_enter Tryz.func125,Tryz.ntmps125
 go_wp2_with ((with_reducible apply yh hS);exact yf rfl rfl;exact yg;(repeat (with_reducible apply yd));rfl;decide +kernel;(try simp only[qA]))
 go_loopw [5,6] (fun l f wr=>∃ ad m cap xs b s,l=.slice ad m cap∧f=.bool b∧quSt w0 R H B text p ad m cap xs b wr s) (fun _ _ wr=>Jf text B wr)
 case atStart=>exact⟨none,0,0,[],true,.inr (p,[]),rfl,rfl,rfl,rfl,hp,rfl,Nat.le_refl _,Nat.le_refl _,fun v hv=>(nomatch hv),.inl ⟨rfl,fun r h=>h,rfl,hkn⟩,hS0⟩
 case round =>
  clear hS0
  obtain⟨ad,m,cap,xs,b,s,rfl,rfl,hs⟩:=hrel
  rcases s with ⟨d,a⟩|⟨q,vs⟩
  ·obtain⟨hvr,hA⟩:=hs
   obtain⟨h0,k,n,tat,te,fin,o,nd,h1,h2,h3,h4,hS⟩:=kG hA
   have hd2:(d == 0)=false:=by simp[h0]
   have hd3:(d != 0)=true:=by simp[h0]
   have ND:=fun w R hS=>needD B text k n tat te fin o nd d a 12 h0 w0 w R hS
   unfold psV at ND
   clear hA
   go_wp2_with (first|((with_reducible apply yh hS);exact ya;exact yb rfl;exact ye;rfl;decide +kernel;(try simp only[qA]))|(go_at_call 16;refine (ND _ _ hS).mono ?_;clear hS;rintro e w ⟨rfl,hS⟩))
   go_ret
   exact⟨_,rfl,.inl (d,a),.quA HT.out hvr,.inl rfl,H,Ext.refl _,h0,k,n,tat,te,fin,o,nd,h1,h2,h3,h4,hS.sb (by unfold psV;(repeat (with_reducible first|exact Sb.refl|(refine Sb.take (by(repeat (first|exact Rem.hd|apply Rem.tl));done) ?_)|apply Sb.skip)))⟩
  ·obtain⟨hxs,hvl,hq,ho,hnd,hmq,hvb,hbb,hS⟩:=hs
   have hM:=kf hS ye
   have hS0:=hS
   have hqf:=hq.2.2.1
   have hb1:=hq.1
   have hb2:=hq.2.1
   have hml:m≤64:=by omega
   have HXS:=hid hxs
   have HVL:=hid hvl
   have HVB:=hid hvb
   clear hxs hvl hvb
   unfold alV psV at hS
   by_cases hgo:(∀ r,Vars text q vs r→Vars text p [] r)∧(b || ((yZ q.tk).1 == 11))=true∧knd q≠0
   ·obtain⟨hR,hb,hkq⟩:=hgo
    have hcases:b=true∨(b=false∧((yZ q.tk).1 == 11)=true):=by cases b <;> simp_all
    have AX:=fun w R hm h=>Xz B text hl (p.opn+m) (.inr q) w0 w hSig R hm h
    have hst:aftN w0 wr (fz H::own 3 1 ad m cap xs::R) B text (p.opn+m) 65537 (.inr q):=⟨hq,ho,hS0⟩
    have HBB:=hid hbb
    clear hbb hb
    cases had:yM text q with
    | inl x =>
     obtain⟨d,a⟩:=x
     rw[show yx (.inr q) (yM text)=.inl (d,a) from had] at AX
     have hv:Vars text p [] (.inl (d,a)):=hR _ (.adv had)
     have HV:=hid hv
     have HH:Hid (Vars text p []=Vars text p []):=hid rfl
     clear had hv hR
     rcases hcases with rfl|⟨rfl,hk11⟩
     all_goals
      go_wp2_with (first|((with_reducible apply yh hS);(first|with_reducible exact ya|exact yf rfl rfl);exact yb rfl;exact ye;rfl;decide +kernel;(try simp only[qA]))|(go_at_call 14;refine (AX _ _ (by((repeat (with_reducible apply yd));(try assumption))) hst).mono ?_;clear hS hS0 hst AX;rintro e w ⟨rfl,hA⟩;obtain⟨h0,k,n,tat,te,fin,o,nd,h1,h2,h3,h4,hS⟩:=kG hA;have hd2:(d == 0)=false:=(by simpa using h0)))
      go_roundw
      case rel=>exact⟨ad,m,cap,xs,false,.inl (d,a),rfl,rfl,HV.out,h0,k,n,tat,te,fin,o,nd,by omega,h2,h3,h4,hS⟩
      case measure =>
       have:=Yg (text:=text) h0 hS ye
       omega
    | inr q1 =>
     rw[show yx (.inr q) (yM text)=.inr q1 from had] at AX
     obtain⟨a1,a2,a3⟩:=xj hqf hkq had
     by_cases hk1:knd q1=2
     ·have hq1:=adv_Ok_tk had
      obtain⟨c,hc⟩:=tk_var hq1 hk1
      have he1:alV text q1=[.string ⟨text.toArray⟩,.int .i64 2,.int .i64 c,.int .i64 q1.at_,.int .i64 0,.int .i64 q1.fin,.int .i64 q1.opn,.int .i64 q1.nds,.int .i64 0,.int .i64 0]:=by unfold alV psV;rw[hc];rfl
      have hcb:0≤c∧c < 65536:=by rw[hc] at hq1;exact hq1
      have OX:=fun w R h1 hS=>Xf B text q1 h1 w0 w R hS
      have MX:=fun w R h=>Uo B text (q1.opn+1) (yV q1) w0 w R h
      cases hmk:yx (yV q1) yC with
      | inl x =>
       obtain⟨d,a⟩:=x
       rw[hmk] at MX
       have hv:Vars text p [] (.inl (d,a)):=hR _ (.open_ had hc (by rw[hmk];rfl))
       have HV:=hid hv
       have HE:=hid he1
       have ADx:=fun w R h=>Ky B text (q1.opn+1) (d,a) w0 w R h
       clear hmk hv hR had hc hk1 he1
       rcases hcases with rfl|⟨rfl,hk11⟩
       all_goals
        go_wp2_with ((first|((with_reducible apply yh hS);(first|with_reducible exact ya|exact yf rfl rfl);exact yb rfl;exact ye;rfl;decide +kernel)|((with_reducible apply yA hS);exact ya;exact E31;exact yb rfl;exact yN rfl;rfl;decide;clear hS;intro NB w hS)|((with_reducible apply yD hS);exact ya;exact yb rfl;exact yb rfl;exact E31;(repeat (with_reducible first|exact Rem.hd|apply Rem.tl));(repeat (with_reducible apply Rem.tl));rfl;rfl;(omega);(omega);clear hS;intro AD CAP w hS;(try simp only[Nat.zero_add,List.nil_append] at hS))|((go_at_call 14);(first|(refine (AX _ _ (by((repeat (with_reducible apply yd));(try assumption))) hst).mono ?_;clear hS hS0 hst AX;rintro e w ⟨rfl,hq1,ho1,hS⟩;rw[HE.out] at hS)|((have hS3:Sat w0 w (blk B 51 (psV text k n tat te fin o nd d a)::fz H::own 3 1 AD (m+1) CAP (xs++[.int .i64 n])::R):=(by unfold psV;exact hS.sb (by(repeat (with_reducible first|exact Sb.refl|(refine Sb.take (by(repeat (first|exact Rem.hd|apply Rem.tl));done) ?_))))));refine (ADx _ _ ⟨h0,k,n,tat,te,fin,o,nd,h1,h2,h3,h4,hS3⟩).mono ?_;clear hS hS3;rintro e w ⟨rfl,h0',k',n',tat',te',fin',o',nd',h1',h2',h3',h4',hS⟩;unfold psV at hS;dsimp only at hS)))|(go_at_call 124;refine (OX _ _ hq1 (by rw[HE.out];exact hS)).mono ?_;clear hS;rintro e w ⟨rfl,hA⟩)|(go_at_call 75;refine (MX _ _ hA).mono ?_;clear hA;rintro e w ⟨rfl,hA⟩;obtain⟨h0,k,n,tat,te,fin,o,nd,h1,h2,h3,h4,hS⟩:=kG hA;clear hA;have hd2:(d == 0)=false:=(by simpa using h0)));try simp only[qA])
        go_roundw
        case rel=>exact⟨AD,m+1,CAP,_,false,.inl (d,a),rfl,rfl,HV.out,h0',k',n',tat',te',fin',o',nd',by omega,h2',h3',h4',hS⟩
        case measure =>
         have:=Yg (text:=text) h0' hS ye
         omega
      | inr q2 =>
       rw[hmk] at MX
       have hq2e:q2={ q1 with opn:=q1.opn+1,nds:=q1.nds+1 }:=by
        obtain⟨p1,g1,g2⟩:=Kw hmk
        obtain rfl:=Jp g1
        exact Jn g2
       have he2:alV text q2=[.string ⟨text.toArray⟩,.int .i64 2,.int .i64 c,.int .i64 q1.at_,.int .i64 0,.int .i64 q1.fin,.int .i64 (q1.opn+1),.int .i64 (q1.nds+1),.int .i64 0,.int .i64 0]:=by rw[hq2e];unfold alV psV;dsimp only;rw[hc];rfl
       have h2k:knd q2≠0:=by rw[hq2e];show knd q1≠0;omega
       have h2f:q2.fin≤text.length:=by rw[hq2e];exact(show q1.fin≤text.length from adv_fin hqf had)
       have h2m:meas text q2=meas text q1∧q2.opn=q1.opn+1∧q2.nds=q1.nds+1:=by rw[hq2e];exact⟨rfl,rfl,rfl⟩
       obtain⟨z1,z2,z3⟩:=h2m
       have A2:=fun w R hm h=>Xz B text hl (q1.opn+1) (.inr q2) w0 w hSig R hm h
       cases had2:yM text q2 with
       | inl x =>
        obtain⟨d,a⟩:=x
        rw[show yx (.inr q2) (yM text)=.inl (d,a) from had2] at A2
        have hv:Vars text p [] (.inl (d,a)):=hR _ (.open_ had hc (by rw[hmk];exact had2))
        have HV:=hid hv
        have HE:=hid he1
        have HE2:=hid he2
        clear hmk hv hR had had2 hc hk1 he1 he2 hq2e
        rcases hcases with rfl|⟨rfl,hk11⟩
        all_goals
         go_wp2_with ((first|((with_reducible apply yh hS);(first|with_reducible exact ya|exact yf rfl rfl);exact yb rfl;exact ye;rfl;decide +kernel)|((with_reducible apply yA hS);exact ya;exact E31;exact yb rfl;exact yN rfl;rfl;decide;clear hS;intro NB w hS)|((with_reducible apply yD hS);exact ya;exact yb rfl;exact yb rfl;exact E31;(repeat (with_reducible first|exact Rem.hd|apply Rem.tl));(repeat (with_reducible apply Rem.tl));rfl;rfl;(omega);(omega);clear hS;intro AD CAP w hS;(try simp only[Nat.zero_add,List.nil_append] at hS))|((go_at_call 14);(first|(refine (AX _ _ (by((repeat (with_reducible apply yd));(try assumption))) hst).mono ?_;clear hS hS0 hst AX;rintro e w ⟨rfl,hq1,ho1,hS⟩;rw[HE.out] at hS)|((have hS3:Sat w0 w (blk B 51 (alV text q2)::fz H::own 3 1 AD (m+1) CAP (xs++[.int .i64 c])::R):=(by rw[HE2.out];exact hS.sb (by(repeat (with_reducible first|exact Sb.refl|(refine Sb.take (by(repeat (first|exact Rem.hd|apply Rem.tl));done) ?_))))));refine (A2 _ _ (by((repeat (with_reducible apply yd));(try assumption))) ⟨hq2,ho2,hS3⟩).mono ?_;clear hS hS3;rintro e w ⟨rfl,h0,k,n,tat,te,fin,o,nd,h1,h2,h3,h4,hS⟩;unfold psV at hS;dsimp only at hS)))|(go_at_call 124;refine (OX _ _ hq1 (by rw[HE.out];exact hS)).mono ?_;clear hS;rintro e w ⟨rfl,hA⟩)|(go_at_call 75;refine (MX _ _ hA).mono ?_;clear hA;rintro e w ⟨rfl,hq2,ho2,hS⟩;rw[HE2.out] at hS));try simp only[qA])
         go_roundw
         case rel=>exact⟨AD,m+1,CAP,_,false,.inl (d,a),rfl,rfl,HV.out,h0,k,n,tat,te,fin,o,nd,by omega,h2,h3,h4,hS⟩
         case measure =>
          have:=Yg (text:=text) h0 hS ye
          omega
       | inr q3 =>
        rw[show yx (.inr q2) (yM text)=.inr q3 from had2] at A2
        obtain⟨y1,y2,y3⟩:=xj h2f h2k had2
        have hJ:quJ text p q3 (vs++[c]):=quJ_next hR had hc (by rw[hmk];exact had2)
        have HJ:=hid hJ
        have HE:=hid he1
        have HE2:=hid he2
        clear hmk hJ hR had had2 hc hk1 he1 he2 hq2e
        have hmm3:meas text q3 < meas text q:=by omega
        rcases hcases with rfl|⟨rfl,hk11⟩
        all_goals
         go_wp2_with ((first|((with_reducible apply yh hS);(first|with_reducible exact ya|exact yf rfl rfl);exact yb rfl;exact ye;rfl;decide +kernel)|((with_reducible apply yA hS);exact ya;exact E31;exact yb rfl;exact yN rfl;rfl;decide;clear hS;intro NB w hS)|((with_reducible apply yD hS);exact ya;exact yb rfl;exact yb rfl;exact E31;(repeat (with_reducible first|exact Rem.hd|apply Rem.tl));(repeat (with_reducible apply Rem.tl));rfl;rfl;(omega);(omega);clear hS;intro AD CAP w hS;(try simp only[Nat.zero_add,List.nil_append] at hS))|((go_at_call 14);(first|(refine (AX _ _ (by((repeat (with_reducible apply yd));(try assumption))) hst).mono ?_;clear hS hS0 hst AX;rintro e w ⟨rfl,hq1,ho1,hS⟩;rw[HE.out] at hS)|((have hS3:Sat w0 w (blk B 51 (alV text q2)::fz H::own 3 1 AD (m+1) CAP (xs++[.int .i64 c])::R):=(by rw[HE2.out];exact hS.sb (by(repeat (with_reducible first|exact Sb.refl|(refine Sb.take (by(repeat (first|exact Rem.hd|apply Rem.tl));done) ?_))))));refine (A2 _ _ (by((repeat (with_reducible apply yd));(try assumption))) ⟨hq2,ho2,hS3⟩).mono ?_;clear hS hS3;rintro e w ⟨rfl,hq3,ho3,hS⟩)))|(go_at_call 124;refine (OX _ _ hq1 (by rw[HE.out];exact hS)).mono ?_;clear hS;rintro e w ⟨rfl,hA⟩)|(go_at_call 75;refine (MX _ _ hA).mono ?_;clear hA;rintro e w ⟨rfl,hq2,ho2,hS⟩;rw[HE2.out] at hS));try simp only[qA])
         go_roundw
         case rel=>exact⟨AD,m+1,CAP,_,false,.inr (q3,vs++[c]),rfl,rfl,by rw[HXS.out,Is_append];rfl,by have:=HVL.out;simp;omega,hq3,by omega,by omega,by omega,fun v hv=>(by
          rcases List.mem_append.1 hv with h|h
          ·exact HVB.out v h
          ·simp only[List.mem_singleton] at h;rw[h];exact hcb),.inr ⟨rfl,HJ.out,by omega⟩,hS⟩
         case measure =>
          have:=kf hS ye
          omega
     ·have hk12:((yZ q1.tk).1 != 2)=true:=by simpa [knd] using hk1
      have hv:Vars text p [] (.inl (131,q1.at_)):=hR _ (.tok had (fun n hn=>hk1 (by unfold knd;rw[hn];rfl)))
      have FA:=fun w R=>xq B text (yZ q1.tk).1 (yZ q1.tk).2.1 q1.at_ 0 q1.fin q1.opn q1.nds 0 131 w0 w R
      unfold psV at FA
      have HV:=hid hv
      clear hv hR had hk1
      rcases hcases with rfl|⟨rfl,hk11⟩
      all_goals
       go_wp2_with (first|((with_reducible apply yh hS);(first|with_reducible exact ya|exact yf rfl rfl);exact yb rfl;exact ye;rfl;decide +kernel;(try simp only[qA]))|(go_at_call 14;refine (AX _ _ (by((repeat (with_reducible apply yd));(try assumption))) hst).mono ?_;clear hS hS0 hst AX;rintro e w ⟨rfl,hq1,ho1,hS⟩;unfold alV psV at hS)|(go_at_call 43;refine (FA _ _ hS).mono ?_;clear hS;rintro e w ⟨rfl,hS⟩))
       have c1:=hq1.1
       have c2:=hq1.2.1
       go_roundw
       case rel=>exact⟨ad,m,cap,xs,false,.inl (131,q1.at_),rfl,rfl,HV.out,by show (131:Int)≠0;decide,_,_,_,_,_,(q1.opn:Int),(q1.nds:Int),by omega,by omega,by omega,by omega,hS⟩
       case measure =>
        have:=Yg (text:=text) (by decide) hS ye
        omega
   ·rcases hbb with ⟨rfl,hR,hme,hkq⟩|⟨rfl,hJ,hlt⟩
    ·exact absurd ⟨hR,rfl,hkq⟩ hgo
    ·have hk11:((yZ q.tk).1 == 11)=false:=by
      rw[beq_eq_false_iff_ne]
      intro e
      have hc:=(gy hq.2.2.2).1 e
      exact hgo ⟨fun r hr=>hJ.1 r hc hr,by simp[e],by unfold knd;rw[e];decide⟩
     have hv:=hJ.2 (fun e=>by rw[(gy hq.2.2.2).2 e] at hk11;simp at hk11)
     have NX:=fun w R hm h=>GR B text hl 12 (p.opn+m) (.inr q) w0 w hSig R hm h
     have hst:aftN w0 wr (fz H::own 3 1 ad m cap xs::R) B text (p.opn+m) 65537 (.inr q):=⟨hq,ho,hS0⟩
     clear hgo hJ
     cases hnd:yL text 12 q with
     | inl x =>
      obtain⟨d,a⟩:=x
      rw[hnd] at hv
      rw[show yx (.inr q) (yL text 12)=.inl (d,a) from hnd] at NX
      have HV:=hid hv
      clear hv hnd
      go_wp2_with (first|((with_reducible apply yh hS);(first|with_reducible exact ya|exact yf rfl rfl);exact yb rfl;exact ye;rfl;decide +kernel;(try simp only[qA]))|(go_at_call 16;refine (NX _ _ (by((repeat (with_reducible apply yd));(try assumption))) hst).mono ?_;clear hS hS0 hst NX;rintro e w ⟨rfl,hA⟩;obtain⟨h0,k,n,tat,te,fin,o,nd,h1,h2,h3,h4,hS⟩:=kG hA;have hd2:(d == 0)=false:=(by simpa using h0);have hd3:(d != 0)=true:=(by simpa using h0)))
      have hS2:=hS.sb (L:=blk B 51 [.string ⟨text.toArray⟩,.int .i64 k,.int .i64 n,.int .i64 tat,.int .i64 te,.int .i64 fin,.int .i64 o,.int .i64 nd,.int .i64 d,.int .i64 a]::fz H::R) (by(repeat (with_reducible first|exact Sb.refl|(refine Sb.take (by(repeat (first|exact Rem.hd|apply Rem.tl));done) ?_)|apply Sb.skip)))
      go_ret
      exact⟨_,rfl,.inl (d,a),.quA HT.out HV.out,.inl rfl,H,Ext.refl _,h0,k,n,tat,te,fin,o,nd,by omega,h2,h3,h4,hS2⟩
     | inr q4 =>
      rw[hnd] at hv
      rw[show yx (.inr q) (yL text 12)=.inr q4 from hnd] at NX
      obtain⟨y1,y2,y3⟩:=jK hqf (by decide) hnd
      have LX:=fun w h=>lvX text _ 1 _ hA (jU text) B (p.opn+m) (.inr q4) w0 w hSig (own 3 1 ad m cap xs::R) H (List.mem_cons_of_mem _ hbm) (fun q5 e=>by injection e with e;subst e;omega) h
      have HV:=hid hv
      clear hv hnd
      go_wp2_with (first|((with_reducible apply yh hS);(first|with_reducible exact ya|exact yf rfl rfl);exact yb rfl;exact ye;rfl;decide +kernel;(try simp only[qA]))|(go_at_call 16;refine (NX _ _ (by((repeat (with_reducible apply yd));(try assumption))) hst).mono ?_;clear hS hS0 hst NX;rintro e w ⟨rfl,hA⟩;have hA2:=hA;obtain⟨hq4,ho4,hS⟩:=hA;unfold alV psV at hS))
      refine (LX _ hA2).mono ?_
      clear hS hA2
      rintro e w ⟨v1,rfl,r1,H1,hth1,hx1,hv1,htr1,hA3⟩
      rcases r1 with ⟨d,a⟩|⟨x,q5⟩
      ·obtain⟨h0,k,n,tat,te,fin,o,nd,h1,h2,h3,h4,hS⟩:=kG hA3
       have hd3:(d != 0)=true:=by simpa using h0
       have hrd:=RD.quE HT.out HV.out hth1
       have HRD:=hid hrd
       clear hA3 hth1 htr1 hrd
       go_wp2_with ((first|((with_reducible apply yh hS);exact ya;exact yb rfl;exact ye;rfl;decide +kernel)|((with_reducible apply yy hS);exact ya;exact yb rfl;exact yb rfl;exact ye;rfl;(focus (simp;done));exact Upd.hd;rfl;decide +kernel;clear hS;intro w hS;(try simp only[qS] at hS)));try simp only[qA])
       have hS2:=hS.sb (L:=blk B 51 [.string ⟨text.toArray⟩,.int .i64 k,.int .i64 n,.int .i64 tat,.int .i64 te,.int .i64 fin,.int .i64 (o - m),.int .i64 nd,.int .i64 d,.int .i64 a]::fz H1::R) (by(repeat (with_reducible first|exact Sb.refl|(refine Sb.take (by(repeat (first|exact Rem.hd|apply Rem.tl));done) ?_)|apply Sb.skip)))
       go_ret
       exact⟨_,rfl,.inl (d,a),HRD.out,.inl rfl,H1,hx1,h0,k,n,tat,te,fin,o - m,nd,by omega,by omega,h3,h4,hS2⟩
      ·obtain⟨hq5,ho5,hS⟩:=hA3
       obtain⟨u1,u2,u3,u4⟩:=htr1 x q5 rfl
       obtain⟨u5,u6⟩:=u4 q4 rfl
       have hrd:=RD.quK HT.out HV.out hth1
       have HRD:=hid hrd
       have hlk:xn text (yZ q5.tk).1 (yZ q5.tk).2.1 q5.at_ 0 q5.fin q5.opn q5.nds 0 0 (.inr q5):=⟨rfl,rfl⟩
       have HLK:=hid hlk
       have c1:=hq5.1
       have c2:=hq5.2.1
       have hvl:=HVL.out
       have hU1:=hid u1
       have hxsv:=HXS.out
       rw[hxsv] at hS
       unfold alV psV at hS
       have HO5:=hid ho5
       clear hth1 htr1 hrd hlk u4 u1 hvl hxsv ho5
       go_wp2_with ((first|((with_reducible apply yh hS);exact ya;exact yb rfl;exact ye;rfl;decide +kernel)|((with_reducible apply yy hS);exact ya;exact yb rfl;exact yb rfl;exact ye;rfl;(focus (simp;done));exact Upd.hd;rfl;decide +kernel;clear hS;intro w hS;(try simp only[qS] at hS)));try simp only[qA])
       have hS1:Sat w0 w (blk B 51 [.string ⟨text.toArray⟩,.int .i64 (yZ q5.tk).1,.int .i64 (yZ q5.tk).2.1,.int .i64 q5.at_,.int .i64 0,.int .i64 q5.fin,.int .i64 (q5.opn - m),.int .i64 q5.nds,.int .i64 0,.int .i64 0]::fz H1::own 3 1 ad m cap (Is vs)::R):=hS.sb (by(repeat (with_reducible exact Sb.refl)))
       clear hS
       go_loopw [7,8] (fun y i wi=>∃ k:Nat,∃ H',k≤m∧Ext H1 H'∧InT H' (quT op (vs.drop (m - k)) x) y∧((k=m∧i=.int .i64 (-1))∨∃ j:Nat,k+1+j=m∧i=.int .i64 j) ∧
        Sat w0 wi (blk B 51 [.string ⟨text.toArray⟩,.int .i64 (yZ q5.tk).1,.int .i64 (yZ q5.tk).2.1,.int .i64 q5.at_,.int .i64 0,.int .i64 q5.fin,.int .i64 (q5.opn - m),.int .i64 q5.nds,.int .i64 0,.int .i64 0]::fz H'::own 3 1 ad m cap (Is vs)::R)) (fun _ i _=>(intOf i+1).toNat)
       case atStart =>
        refine ⟨0,H1,by omega,Ext.refl _,?_,?_,hS1⟩
        ·rw[List.drop_of_length_le (by have:=HVL.out;omega)];exact u2
        ·by_cases h1:m=0
         ·exact .inl ⟨h1.symm,by subst h1;rfl⟩
         ·exact .inr ⟨m - 1,by omega,congrArg (Value.int .i64) (by omega)⟩
       case round =>
        clear hS1
        obtain⟨k,H2,hk1,hx2,hiT,hj,hS⟩:=hrel
        rcases hj with ⟨hk2,rfl⟩|⟨j,hk2,rfl⟩
        ·have HK2:=hid hk2
         clear hk2
         go_wp2_with ((with_reducible apply yh hS);exact yf rfl rfl;exact yg;(repeat (with_reducible apply yd));rfl;decide +kernel;(try simp only[qA]))
         have hS2:=hS.sb (L:=blk B 51 [.string ⟨text.toArray⟩,.int .i64 (yZ q5.tk).1,.int .i64 (yZ q5.tk).2.1,.int .i64 q5.at_,.int .i64 0,.int .i64 q5.fin,.int .i64 (q5.opn - m),.int .i64 q5.nds,.int .i64 0,.int .i64 0]::fz H2::R) (by(repeat (with_reducible first|exact Sb.refl|(refine Sb.take (by(repeat (first|exact Rem.hd|apply Rem.tl));done) ?_)|apply Sb.skip)))
         go_ret
         have hkm:=HK2.out
         subst hkm
         rw[Nat.sub_self,List.drop_zero] at hiT
         have hr:=HRD.out
         rw[HVL.out] at hr
         exact⟨_,rfl,.inr (quT op vs x,{ q5 with opn:=q5.opn - k }),hr,uO HLK.out k hq5 HO5.out (by omega) (by rw[UJ,HVL.out];omega) (GX HPK.out hU1.out HVB.out) (hx1.trans hx2) hiT hS2⟩
        ·obtain⟨vj,hvj⟩:∃ vj,vs[j]?=some vj:=⟨_,List.getElem?_eq_getElem (by have:=HVL.out;omega)⟩
         have hjm:j < m:=by omega
         have hsz:size (quT op (vs.drop (m - k)) x)≤1000000:=by
          rw[UJ,List.length_drop,HVL.out];omega
         have hdr:quT op (vs.drop (m - (k+1))) x=.qu op vj (quT op (vs.drop (m - k)) x):=by
          have e1:m - (k+1)=j:=by omega
          have e2:m - k=j+1:=by omega
          obtain⟨g1,g2⟩:=List.getElem?_eq_some_iff.1 hvj
          rw[e1,e2,List.drop_eq_getElem_cons g1,g2]
          rfl
         have QM:=fun w hS=>uh op vj (quT op (vs.drop (m - k)) x) hsz _ H2 hiT w0 w (blk B 51 [.string ⟨text.toArray⟩,.int .i64 (yZ q5.tk).1,.int .i64 (yZ q5.tk).2.1,.int .i64 q5.at_,.int .i64 0,.int .i64 q5.fin,.int .i64 (q5.opn - m),.int .i64 q5.nds,.int .i64 0,.int .i64 0]::own 3 1 ad m cap (Is vs)::R) hS
         have HDR:=hid hdr
         have HK2:=hid hk2
         clear hdr hk2
         go_wp2_with ((first|((with_reducible apply yn);exact ya;exact yb rfl;exact yb rfl;exact E31;(omega);(omega);(exact hS.ownNN (by(repeat (with_reducible first|exact ye|apply yd))) (by omega));(simp only[qN];rfl))|((with_reducible apply yF);exact ya;exact yb rfl;(exact(hS.ownCell (by(repeat (with_reducible first|exact ye|apply yd))) (by(exact us (by assumption)))).1);decide +kernel)|(go_at_call 64;refine (QM _ (hS.sb (by(repeat (with_reducible first|exact Sb.refl|(refine Sb.take (by(repeat (first|exact Rem.hd|apply Rem.tl));done) ?_)))))).mono ?_;clear hS QM;rintro e w ⟨z,rfl,H4,hx4,hi4,hS⟩));try simp only[qA])
         go_roundw
         case rel =>
          refine ⟨k+1,H4,by have:=HK2.out;omega,hx2.trans hx4,by rw[HDR.out];exact hi4,?_,hS.sb (by(repeat (with_reducible first|exact Sb.refl|(refine Sb.take (by(repeat (first|exact Rem.hd|apply Rem.tl));done) ?_))))⟩
          have:=HK2.out
          rcases j with _|j
          ·exact .inl ⟨by omega,rfl⟩
          ·exact .inr ⟨j,by omega,congrArg (Value.int .i64) (by omega)⟩
         case measure=>(simp[intOf]) <;> omega
end
section
set_option maxRecDepth 20000
open Go Go.RowKit Go.SL Go.ClauseP Go.LexP

theorem not_rd {text:List UInt8} {p:Ps} {r':Rt} (ht:p.tk=.not) (h:jz text (.lvl 6) (yx (yx (yV p) yC) (yM text)) r'):(∀ e,r'=.inl e→RD text (.lvl 6) p (.inl e)) ∧
  ∀ x q,r'=.inr (x,q)→∃ q0,yx (yx (yV p) yC) (yM text)=.inr q0∧RD text (.lvl 6) p (.inr (.neg x,{ q with opn:=q.opn - 1 })):=by
 cases h0:yx (yx (yV p) yC) (yM text) with
 | inl e0 =>
  rw[h0] at h
  have h:r'=.inl e0:=h
  subst h
  exact⟨fun e he=>by injection he with he;subst he;exact .notA ht h0,fun x q he=>(nomatch he)⟩
 | inr q0 =>
  rw[h0] at h
  have h:RD text (.lvl 6) q0 r':=h
  exact⟨fun e he=>by subst he;exact .notE ht h0 h,fun x q he=>by subst he;exact⟨q0,rfl,.notK ht h0 h⟩⟩
set_option maxHeartbeats 4000000 in
theorem unaryN (text:List UInt8) (hl:text.length≤1048576) (B:Nat) (p:Ps) (w0 w:World) (R:List HP) (H:Hp) (hp:PsB text p) (hSig:kY w0) (hbm:YF w0∈R) (hA:LvA text 117 6 (meas text p - 1)) (ht:p.tk=.not) (hS:Sat w0 w (blk B 51 (alV text p)::fz H::R)) :
  Calls Tryz.prog 117 #[.pointer (some ⟨B,0,none⟩)] w (PostR w0 R H B text p):=by
 have hkn:knd p≠0:=by unfold knd;rw[ht];exact xf
 have hf:=hp.2.2.1
 have hmp:=jJ hf hkn
 have hbq:=fun q=>gL (text:=text) (p:=p) (q:=q) hf hkn
 have he:alV text p=[.string ⟨text.toArray⟩,.int .i64 3,.int .i64 0,.int .i64 p.at_,.int .i64 0,.int .i64 p.fin,.int .i64 p.opn,.int .i64 p.nds,.int .i64 0,.int .i64 0]:=by unfold alV psV;rw[ht];rfl
 have hrd:=fun r'=>not_rd (text:=text) (r':=r') ht
 have OX:=fun w R hS=>Xf B text p hp w0 w R hS
 have MX:=fun w R h=>Uo B text (p.opn+1) (yV p) w0 w R h
 have AX:=fun w R hm h=>Xz B text hl (p.opn+1) (yx (yV p) yC) w0 w hSig R hm h
 have LX:=fun r w R H hm hq h=>lvX text _ 6 _ hA (Gw text) B (p.opn+1) r w0 w hSig R H hm hq h
 rw[he] at hS
 have HRD:=hid hrd
 have HE:=hid he
 have HBQ:=hid hbq
 clear hrd he ht hbq
 go_enter Tryz.func117,Tryz.ntmps117
 go_wp2_with ((with_reducible apply yh hS);exact ya;exact yb rfl;exact ye;rfl;decide +kernel;(try simp only[qA]))
 refine (OX _ (fz H::R) (by rw[HE.out];exact hS)).mono ?_
 clear hS
 rintro e w ⟨rfl,hA⟩
 go_wp2_with fail
 refine (MX _ _ hA).mono ?_
 clear hA
 rintro e w ⟨rfl,hA⟩
 go_wp2_with fail
 refine (AX _ _ (by((repeat (with_reducible apply yd));(try assumption))) hA).mono ?_
 clear hA
 rintro e w ⟨rfl,hA⟩
 go_wp2_with fail
 refine (LX _ _ _ _ (by((repeat (with_reducible apply yd));(try assumption))) (fun q hq=>by have:=(HBQ.out q hq).1;omega) hA).mono ?_
 clear hA
 rintro e w ⟨v1,rfl,r1,H1,hth1,hx1,hv1,htr1,hA⟩
 obtain⟨z1,z2⟩:=HRD.out r1 hth1
 rcases r1 with ⟨d,a⟩|⟨x,q⟩
 ·obtain⟨h0,k,n,tat,te,fin,o,nd,h1,h2,h3,h4,hS⟩:=kG hA
  have hd3:(d != 0)=true:=by simpa using h0
  have hr:=z1 _ rfl
  have HR:=hid hr
  clear hA hth1 htr1 z1 z2 hr
  go_wp2_with ((first|((with_reducible apply yh hS);exact ya;exact yb rfl;exact ye;rfl;decide +kernel)|((with_reducible apply yy hS);exact ya;exact yb rfl;exact yb rfl;exact ye;rfl;(focus (simp;done));exact Upd.hd;rfl;decide +kernel;clear hS;intro w hS;(try simp only[qS] at hS)));try simp only[qA])
  have hS2:=hS.sb (L:=blk B 51 [.string ⟨text.toArray⟩,.int .i64 k,.int .i64 n,.int .i64 tat,.int .i64 te,.int .i64 fin,.int .i64 (o - 1),.int .i64 nd,.int .i64 d,.int .i64 a]::fz H1::R) (by(repeat (with_reducible exact Sb.refl)))
  go_ret
  exact⟨_,rfl,.inl (d,a),HR.out,.inl rfl,H1,hx1,h0,k,n,tat,te,fin,o - 1,nd,by omega,by omega,h3,h4,hS2⟩
 ·obtain⟨q0,e0,hr⟩:=z2 x q rfl
  obtain⟨m1,m2,m3⟩:=HBQ.out q0 e0
  obtain⟨u1,u2,u3,u4⟩:=htr1 x q rfl
  obtain⟨u5,u6⟩:=u4 q0 e0
  obtain⟨k1,n1,tat1,te1,fin1,o1,nd1,d1,a1,c1,c2,c3,c4,hlk,hqq,hS⟩:=hA.cells
  obtain⟨b1,b2⟩:=hqq q rfl
  have hlk0:=hlk
  obtain⟨_,rfl⟩:=hlk
  have hsz:q.nds≤65536:=b1.2.1
  have NM:=fun w R hS=>notM x u1.ops (by omega) v1 H1 u2 w0 w R hS
  have HLK:=hid hlk0
  have HR:=hid hr
  have HB:=hid b2
  have HU:=hid u1
  clear hA hlk0 hqq z1 z2 hr hth1 htr1 b2 u1 u4 e0
  go_wp2_with ((first|((with_reducible apply yh hS);exact ya;exact yb rfl;exact ye;rfl;decide +kernel)|((with_reducible apply yy hS);exact ya;exact yb rfl;exact yb rfl;exact ye;rfl;(focus (simp;done));exact Upd.hd;rfl;decide +kernel;clear hS;intro w hS;(try simp only[qS] at hS))|(go_at_call 63;refine (NM _ (blk B 51 [.string ⟨text.toArray⟩,.int .i64 k1,.int .i64 n1,.int .i64 tat1,.int .i64 te1,.int .i64 fin1,.int .i64 (o1 - 1),.int .i64 nd1,.int .i64 0,.int .i64 a1]::R) (hS.sb (by(repeat (with_reducible first|exact Sb.refl|(refine Sb.take (by(repeat (first|exact Rem.hd|apply Rem.tl));done) ?_)))))).mono ?_;clear hS NM;rintro e w ⟨z,rfl,H4,hx4,hi4,hS⟩));try simp only[qA])
  have hS2:=hS.sb (L:=blk B 51 [.string ⟨text.toArray⟩,.int .i64 k1,.int .i64 n1,.int .i64 tat1,.int .i64 te1,.int .i64 fin1,.int .i64 (o1 - 1),.int .i64 nd1,.int .i64 0,.int .i64 a1]::fz H4::R) (by(repeat (with_reducible first|exact Sb.refl|(refine Sb.take (by(repeat (first|exact Rem.hd|apply Rem.tl));done) ?_))))
  go_ret
  exact⟨_,rfl,.inr (.neg x,{ q with opn:=q.opn - 1 }),HR.out,uO HLK.out 1 b1 HB.out (by omega) (by simp only[size];omega) HU.out (hx1.trans hx4) hi4 hS2⟩
set_option maxHeartbeats 4000000 in
theorem unaryQ (text:List UInt8) (hl:text.length≤1048576) (B:Nat) (p:Ps) (op:Int) (w0 w:World) (R:List HP) (H:Hp) (hp:PsB text p) (hSig:kY w0) (hbm:YF w0∈R) (hA:LvA text 15 1 (meas text p - 1)) (ht:p.tk=.quant op) (hS:Sat w0 w (blk B 51 (alV text p)::fz H::R)) :
  Calls Tryz.prog 117 #[.pointer (some ⟨B,0,none⟩)] w (PostR w0 R H B text p):=by
 have hpk:op=4∨op=5:=by have:=hp.2.2.2;rw[ht] at this;exact this
 have QL:=fun w hS=>quLoop text hl B p op w0 w R H hp hSig hbm hA ht (by unfold i64;omega) hS
 have he:alV text p=[.string ⟨text.toArray⟩,.int .i64 (op+9),.int .i64 0,.int .i64 p.at_,.int .i64 0,.int .i64 p.fin,.int .i64 p.opn,.int .i64 p.nds,.int .i64 0,.int .i64 0]:=by unfold alV psV;rw[ht];rfl
 rw[he] at hS
 have HE:=hid he
 clear he ht
 rcases hpk with rfl|rfl
 all_goals
  simp only[Int.reduceAdd] at hS HE
  go_enter Tryz.func117,Tryz.ntmps117
  go_wp2_with (first|((with_reducible apply yh hS);exact ya;exact yb rfl;exact ye;rfl;decide +kernel;(try simp only[qA]))|(go_at_call 125;refine (QL _ (by rw[HE.out];exact hS)).mono ?_;clear hS QL;rintro e w ⟨v,rfl,r,hrd,hok⟩))
  go_ret
  exact⟨_,rfl,r,hrd,hok⟩
theorem UQ (text:List UInt8) (B:Nat) (p:Ps) (w0 w:World) (R:List HP) (H:Hp) (h3:knd p≠3) (h13:knd p≠13) (h14:knd p≠14) (hS:Sat w0 w (blk B 51 (alV text p)::fz H::R))
  (PC:∀ w,Sat w0 w (blk B 51 (alV text p)::fz H::R)→Calls Tryz.prog 126 #[.pointer (some ⟨B,0,none⟩)] w (PostR w0 R H B text p)) :
  Calls Tryz.prog 117 #[.pointer (some ⟨B,0,none⟩)] w (PostR w0 R H B text p):=by
 unfold knd at h3 h13 h14
 unfold alV psV at hS PC
 generalize (yZ p.tk).1=k at *
 generalize (yZ p.tk).2.1=n at *
 have e3:(k == 3)=false:=by simpa using h3
 have e13:(k == 13)=false:=by simpa using h13
 have e14:(k == 14)=false:=by simpa using h14
 go_enter Tryz.func117,Tryz.ntmps117
 go_wp2_with (first|((with_reducible apply yh hS);exact ya;exact yb rfl;exact ye;rfl;decide +kernel;(try simp only[qA]))|(go_at_call 126;refine (PC _ hS).mono ?_;clear hS PC;rintro e w ⟨v,rfl,r,hrd,hok⟩))
 go_ret
 exact⟨_,rfl,r,hrd,hok⟩
theorem unaryA (text:List UInt8) (hl:text.length≤1048576):∀ n,LvA text 117 6 n:=by
 intro n
 induction n using Nat.strongRecOn with
 | _ n ih =>
  intro B p w0 w R H hp hm hSig hbm hS
  have hU:knd p≠0→LvA text 117 6 (meas text p - 1):=fun h=>ih _ (by have:=jJ hp.2.2.1 h;omega)
  have hF:knd p≠0→LvA text 15 1 (meas text p - 1):=fun h=>xu text hl _ (hU h)
  have hk:=hp.2.2.2
  cases ht:p.tk with
  | bad e=>rw[ht] at hk;exact hk.elim
  | not=>exact unaryN text hl B p w0 w R H hp hSig hbm (hU (by unfold knd;rw[ht];decide)) ht hS
  | quant o=>exact unaryQ text hl B p o w0 w R H hp hSig hbm (hF (by unfold knd;rw[ht];rw[ht] at hk;have hk:o=4∨o=5:=hk;show o+9≠0;omega)) ht hS
  | const c=>exact UQ text B p w0 w R H (by unfold knd;rw[ht];exact(by decide:(1:Int)≠3)) (by unfold knd;rw[ht];exact(by decide:(1:Int)≠13)) (by unfold knd;rw[ht];exact(by decide:(1:Int)≠14)) hS fun w hS=>primC text hl B p w0 w R H hp hSig hbm c ht hS
  | var c=>exact UQ text B p w0 w R H (by unfold knd;rw[ht];exact(by decide:(2:Int)≠3)) (by unfold knd;rw[ht];exact(by decide:(2:Int)≠13)) (by unfold knd;rw[ht];exact(by decide:(2:Int)≠14)) hS fun w hS=>primV text hl B p w0 w R H hp hSig hbm c ht hS
  | opn=>exact UQ text B p w0 w R H (by unfold knd;rw[ht];decide) (by unfold knd;rw[ht];decide) (by unfold knd;rw[ht];decide) hS fun w hS=>primO text hl B p w0 w R H hp hSig hbm (hF (by unfold knd;rw[ht];decide)) ht hS
  | ite=>exact UQ text B p w0 w R H (by unfold knd;rw[ht];decide) (by unfold knd;rw[ht];decide) (by unfold knd;rw[ht];decide) hS fun w hS=>primI text hl B p w0 w R H hp hSig hbm (hF (by unfold knd;rw[ht];decide)) ht hS
  | _ =>
   have hrd:RD text (.lvl 6) p (.inl (131,p.at_)):=.else_ (by simp[ht]) (by simp[ht]) (by simp[ht]) (by simp[ht])
   have hkk:∀ c:Int,c=1∨c=2∨c=3∨c=9∨c=13∨c=14∨c=15→knd p≠c:=by
    intro c hc
    unfold knd
    rw[ht] at hk ⊢
    simp only[yZ,YL] at hk ⊢
    omega
   exact UQ text B p w0 w R H (hkk 3 (by omega)) (hkk 13 (by omega)) (hkk 14 (by omega)) hS fun w hS=>primE text hl B p w0 w R H hp hrd (hkk 1 (by omega)) (hkk 2 (by omega)) (hkk 9 (by omega)) (hkk 15 (by omega)) hS
theorem formulaX (text:List UInt8) (hl:text.length≤1048576) (n:Nat):LvA text 15 1 n:=xu text hl n (unaryA text hl n)
end
section
set_option maxRecDepth 20000
open Go Go.RowKit Go.SL Go.ClauseP Go.LexP

def fnQ (text:List UInt8) (w0:World) (R:List HP) (e:Ending) (w':World):Ans→Prop
 | .inr out=>∃ (ad:Option Addr) (cap:Nat),e=.returned (.tuple #[.slice ad out.length cap,.agg #[.int .i64 0,.int .i64 0,.int .i64 0]])∧Sat w0 w' (own 44 2 ad out.length cap (Fs out)::R)
 | .inl (c,a)=>e=.returned (.tuple #[.slice none 0 0,.agg #[.int .i64 c,.int .i64 (Yt text a).1,.int .i64 (Yt text a).2]])∧Sat w0 w' R
theorem parse_of {text:List UInt8} {r':Rt} {r1:Rp} (h1:yM text p00=r1) (h:jz text (.lvl 1) r1 r'):jn text (xR text r')∧(∀ e,yx (rpR r') (yL text 0)=.inl e→xR text r'=.inl e)∧∀ q,yx (rpR r') (yL text 0)=.inr q→∃ x q0,r'=.inr (x,q0)∧xR text r'=.inr x:=by
 have hp:jn text (xR text r'):=by
  unfold jn
  rw[h1]
  cases r1 with
  | inl e =>
   have h:r'=.inl e:=h
   rw[h];rfl
  | inr p=>exact⟨r',h,rfl⟩
 refine ⟨hp,?_⟩
 rcases r' with e|⟨x,q⟩
 ·exact⟨fun e' he=>(by injection he with he;rw[he];rfl),fun q hq=>(nomatch hq)⟩
 ·refine ⟨fun e' he=>?_,fun q' hq=>⟨x,q,rfl,?_⟩⟩
  ·have he:yL text 0 q=.inl e':=he
   simp only[xR,he]
  ·have hq:yL text 0 q=.inr q':=hq
   simp only[xR,hq]
theorem yE {P:Program} {w:World} {fn:Func} {t t':Tmp} {T:TypeId} (h:fn.results=#[.tmp t,.cell t' T]) {tmps:Array Value} {ad:Addr} {v v':Value} (hp:tmps.getD t undef=v) (hp':tmps.getD t' undef=.pointer (some ad)) (hl:(loadVar T ad).run P w=.ok v' w) :
  (results fn tmps).run P w=.ok (.tuple #[v,v']) w:=by
 rw[Array.getD_eq_getD_getElem?] at hp hp'
 simp[results,h,hp,hp',asAddr,hl]
theorem nds_of {w0 w:World} {R:List HP} {B:Nat} {text:List UInt8} {lo hi:Nat} {r:Rp} (h:aftN w0 w R B text lo hi r):∀ q,r=.inr q→q.nds≤65536:=by
 rintro q rfl
 exact h.1.2.1
theorem meas_le (text:List UInt8) (p:Ps):meas text p≤text.length+1:=by unfold meas;split <;> omega
set_option maxHeartbeats 4000000 in
theorem parseL (text:List UInt8) (ht:text.length≤140737488351232) (hlong:1048576 < text.length) (w0 w:World) (R:List HP) (hS:Sat w0 w R) :
  Calls Tryz.prog 5 #[.string ⟨text.toArray⟩] w fun e w'=>e=.returned (.tuple #[.slice none 0 0,.agg #[.int .i64 5,.int .i64 0,.int .i64 0]])∧Sat w0 w' R:=by
 have hli:(1048576:Int) < (text.length:Int):=by omega
 clear hlong
 go_enter Tryz.func5,Tryz.ntmps5
 go_wp2_with ((first|((with_reducible apply yk hS);exact ya;exact z28;clear hS;intro NB w hS)|((with_reducible apply yi hS);exact ya;exact yb rfl;exact yb rfl;exact ye;rfl;(focus (simp;done));exact Upd.hd;rfl;exact sz28;rfl;clear hS;intro w hS;(try simp only[yp,qS] at hS)));try simp only[qA])
 refine bodyPost_ret (yE rfl rfl rfl (hS.loadWhole (by(exact ye)) (by kernel_rfl) (by kernel_rfl))) rfl ?_
 exact⟨rfl,hS.sb (by(repeat (with_reducible first|exact Sb.refl|apply Sb.skip)))⟩
set_option maxHeartbeats 8000000 in
theorem Gd (text:List UInt8) (hl:text.length≤1048576) (w0 w:World) (hSig:kY w0) (R:List HP) (hbm:YF w0∈R) (hS:Sat w0 w R) :
  Calls Tryz.prog 5 #[.string ⟨text.toArray⟩] w fun e w'=>∃ r,jn text r∧fnQ text w0 R e w' (gG r):=by
 have hli:(text.length:Int)≤1048576:=by omega
 have AX:=fun B w R hm h=>Xz B text hl 0 (.inr p00) w0 w hSig R hm h
 have LX:=fun B r w R H hm hq h=>lvX text _ 1 _ (formulaX text hl (text.length+1)) (jU text) B 0 r w0 w hSig R H hm hq h
 have NX:=fun B r w R hm h=>GR B text hl 0 0 r w0 w hSig R hm h
 have hp0:PsB text p00:=⟨Nat.zero_le _,Nat.zero_le _,Nat.zero_le _,trivial⟩
 replace hS:=hS.fzNil
 go_enter Tryz.func5,Tryz.ntmps5
 go_wp2_with ((first|((with_reducible apply yH hS);exact ya;exact yb rfl;exact yw;clear hS;intro PB w hS)|((with_reducible apply yk hS);exact ya;exact z28;clear hS;intro FB w hS));try simp only[qA])
 have hS1:Sat w0 w (blk PB 51 (alV text p00)::fz (fun _=>none)::blk FB 28 [.int .i64 0,.int .i64 0,.int .i64 0]::R):=hS.sb (by unfold alV psV p00;simp only[yZ,Int.natCast_zero];(repeat (with_reducible first|exact Sb.refl|(refine Sb.take (by(repeat (first|exact Rem.hd|apply Rem.tl));done) ?_))))
 refine (AX PB _ _ (by((repeat (with_reducible apply yd));(try assumption))) ⟨hp0,rfl,hS1⟩).mono ?_
 clear hS hS1
 rintro e w ⟨rfl,hA⟩
 go_wp2_with fail
 refine (LX PB _ _ _ _ (by((repeat (with_reducible apply yd));(try assumption))) (fun q _=>meas_le text q) hA).mono ?_
 clear hA
 rintro e w ⟨v1,rfl,r1,H1,hth1,hx1,hv1,htr1,hA⟩
 have hnd:=nds_of hA
 go_wp2_with fail
 refine (NX PB _ _ _ (by((repeat (with_reducible apply yd));(try assumption))) hA).mono ?_
 clear hA
 rintro e w ⟨rfl,hA⟩
 obtain⟨z1,z2,z3⟩:=parse_of rfl hth1
 have hth0:=hth1
 clear hth1
 cases hr:yx (rpR r1) (yL text 0) with
 | inl x =>
  obtain⟨d,a⟩:=x
  have hen:=z2 (d,a) hr
  rw[hr] at hA
  rw[hen] at z1
  have hpl:=gu (jZ z1) (e:=d) (a:=a) rfl
  obtain⟨h0,k,n,tat,te,fin,o,nd,h1,h2,h3,h4,hS⟩:=kG hA
  have hd3:(d != 0)=true:=by simpa using h0
  have PL:=fun w Hs hS=>placeC text a hpl hl w0 w Hs hS
  have Z1:=hid z1
  clear hA z1 z2 z3 hen hr htr1 hth0 hnd
  generalize hsp:Yt text a=sp at *
  obtain⟨l,c⟩:=sp
  dsimp only at PL
  have HSP:=hid hsp
  clear hsp
  go_wp2_with ((first|((with_reducible apply Cont.intro);(first|(focus (apply Or.inr;apply (Sat.sb hS);(repeat (with_reducible first|exact Sb.refl|(refine Sb.take (by(repeat (first|exact Rem.hd|apply Rem.tl));done) ?_)|apply Sb.skip));done))|(exact Or.inl (by kernel_rfl)));intro hR hC)|((first|((with_reducible apply dP 0 hC hR);(simp only[qL];rfl);decide +kernel;exact iQ;exact ya)|((with_reducible apply dP 1 hC hR);(simp only[qL];rfl);decide +kernel;exact iQ;exact ya)|((with_reducible apply dP 4 hC hR);(simp only[qL];rfl);decide +kernel;exact iQ;exact ya)|((with_reducible apply dP 5 hC hR);(simp only[qL];rfl);decide +kernel;exact iQ;exact ya)|((with_reducible apply dP 6 hC hR);(simp only[qL];rfl);decide +kernel;exact iQ;exact ya)|((with_reducible apply dP 10 hC hR);(simp only[qL];rfl);decide +kernel;exact iQ;exact ya)|((with_reducible apply dP 11 hC hR);(simp only[qL];rfl);decide +kernel;exact iQ;exact ya));(intro w;first|(go_simp;done)|(go_simp;rw[yo (by omega) (by omega)])|(go_simp;with_reducible rfl)|(go_simp;rfl));(clear hR hC;intro hR hC))|((first|((with_reducible apply dP 2 hC hR);(simp only[qL];rfl);decide +kernel;exact iQ;exact ya)|((with_reducible apply dP 7 hC hR);(simp only[qL];rfl);decide +kernel;exact iQ;exact ya));(intro w;first|(exact yz rfl (by(exact yg)) (by assumption) (by with_reducible exact fo51_6))|(go_simp;done)|(go_simp;rw[yo (by omega) (by omega)])|(go_simp;with_reducible rfl)|(go_simp;rfl));(clear hR hC;intro hR hC))|((first|((with_reducible apply dR 3 hC hR);(simp only[qL];rfl);decide +kernel;exact iQ;exact ya)|((with_reducible apply dR 8 hC hR);(simp only[qL];rfl);decide +kernel;exact iQ;exact ya));(intro w hS;(apply yj rfl (by(exact yb rfl)));first|exact yc (by decide +kernel) (hS.cell (by(exact ye)) rfl)|exact yc (by decide +kernel) ((hS.ownCell (by(repeat (with_reducible apply yd))) (by(rfl))).1)|exact yc (by decide +kernel) (Sat.rdCell2 (by assumption) hS (by((repeat (with_reducible apply yd)));try assumption) (by(rfl)))|exact yc (by decide +kernel) (hS.baseCell (by((repeat (with_reducible apply yd)));try assumption) (by assumption))|exact yc (by decide +kernel) (fzC (by assumption) hS (by((repeat (with_reducible apply yd)));try assumption))|exact yl hS (by assumption) (by((repeat (with_reducible apply yd)));try assumption) (by assumption) (by rfl) (by with_reducible exact sz51) (by decide +kernel) (by decide)|exact hS.loadWhole (by(repeat (with_reducible apply yd))) (by kernel_rfl) (by kernel_rfl));(clear hR hC;intro hR hC))|((with_reducible apply yq (i:=9));(simp only[qL];rfl);decide +kernel;exact hC;clear hR hC)|((with_reducible apply yq (i:=12));(simp only[qL];rfl);decide +kernel;exact hC;clear hR hC)|((with_reducible apply ym);decide +kernel;clear hR hC)|(refine yt 8 13 hS (by kernel_rfl) [12] rfl ?_;clear hS;intro w hS hR hC)|((with_reducible apply yh hS);exact ya;exact yb rfl;exact ye;rfl;decide +kernel)|((with_reducible apply yi hS);exact ya;exact yb rfl;exact yb rfl;(repeat (with_reducible first|exact ye|apply yd));rfl;(focus (simp;done));(repeat (with_reducible first|exact Upd.hd|apply Upd.tl));rfl;exact sz28;rfl;clear hS;intro w hS;(try simp only[yp,qS] at hS))|(go_at_call 17;refine (PL _ _ hS).mono ?_;clear hS;rintro e w ⟨rfl,hS⟩));try simp only[qA])
  refine bodyPost_ret (yE rfl rfl rfl (hS.loadWhole (by(repeat (with_reducible first|exact ye|apply yd))) (by kernel_rfl) (by kernel_rfl))) rfl ?_
  exact⟨.inl (d,a),Z1.out,by rw[HSP.out];rfl,hS.sb (by(repeat (with_reducible first|exact Sb.refl|apply Sb.skip)))⟩
 | inr q =>
  obtain⟨x,q0,rfl,hen⟩:=z3 q hr
  rw[hr] at hA
  obtain⟨u1,u2,u3,u4⟩:=htr1 x q0 rfl
  have hsx:size x≤65536:=by
   have h1:=hnd q0 rfl
   obtain⟨p1,hp1⟩:∃ p1,yM text p00=.inr p1:=by
    cases h:yM text p00 with
    | inl e=>rw[show yx (.inr p00) (yM text)=.inl e from h] at hth0;cases hth0
    | inr p1=>exact⟨p1,rfl⟩
   have h2:=(u4 p1 hp1).2
   omega
  rw[hen] at z1
  obtain⟨k,n,tat,te,fin,o,nd,d,a,c1,c2,c3,c4,hlk,hqq,hS⟩:=hA.cells
  obtain⟨_,rfl⟩:=hlk
  have LM:=fun w R hS hm=>uz x none 0 0 [] v1 H1 w0 w R hS hm u2 (by omega)
  simp only[Nat.zero_add,List.nil_append] at LM
  have Z1:=hid z1
  have hS2:=hS.ownNil 44 2
  clear hA z1 z2 z3 hen hr htr1 hS hnd hth0 u4 hqq u1
  have hS:=hS2
  clear hS2
  go_wp2_with ((first|((with_reducible apply yh hS);exact ya;exact yb rfl;(repeat (with_reducible first|exact ye|apply yd));rfl;decide +kernel)|((with_reducible apply yi hS);exact ya;exact yb rfl;exact yb rfl;(repeat (with_reducible first|exact ye|apply yd));rfl;(focus (simp;done));(repeat (with_reducible first|exact Upd.hd|apply Upd.tl));rfl;exact sz28;rfl;clear hS;intro w hS;(try simp only[yp,qS] at hS))|(go_at_call 18;refine (LM _ _ hS (by(repeat (with_reducible first|exact ye|apply yd)))).mono ?_;clear hS;rintro e w ⟨ad1,cap1,rfl,hS⟩));try simp only[qA])
  refine bodyPost_ret (yE rfl rfl rfl (hS.loadWhole (by(repeat (with_reducible first|exact ye|apply yd))) (by kernel_rfl) (by kernel_rfl))) rfl ?_
  refine ⟨.inr x,Z1.out,ad1,cap1,?_,?_⟩
  ·simp only[gG,kg];rfl
  ·simp only[gG,kg];exact hS.sb (by(repeat (with_reducible first|exact Sb.refl|(refine Sb.take (by(repeat (first|exact Rem.hd|apply Rem.tl));done) ?_)|apply Sb.skip)))
end
end Go.Proofs.YteopodbkhgcpmaaGreatDoor
