/- A part of the proof: Lv6 Lv7. -/
import Derived.Test.YteopodbkhgcpmaaGreatDoorM1
import Derived.Test.YteopodbkhgcpmaaGreatDoorM14
set_option linter.unusedSimpArgs false
set_option linter.unusedVariables false
set_option linter.unusedSectionVars false
namespace Go.Proofs.YteopodbkhgcpmaaGreatDoor
section
set_option maxRecDepth 20000
open Go Go.RowKit Go.SL Go.ClauseP Go.LexP

def aftN (w0 w:World) (R:List HP) (B:Nat) (text:List UInt8) (lo hi:Nat):Rp→Prop
 | .inl x=>x.1≠0∧∃ k n tat te fin o nd:Int,lo≤o∧o≤65∧0≤nd∧nd≤hi∧Sat w0 w (blk B 51 (psV text k n tat te fin o nd x.1 x.2)::R)
 | .inr q=>PsB text q∧q.opn=lo∧Sat w0 w (blk B 51 (alV text q)::R)
theorem aftN.dead {w0 w:World} {R:List HP} {B:Nat} {text:List UInt8} {lo:Nat} {x:Int × Nat} (h:aftN w0 w R B text lo 65537 (.inl x)):Dead w0 w R B text lo x:=h
theorem aftN.wide {w0 w:World} {R:List HP} {B:Nat} {text:List UInt8} {lo:Nat} {r:Rp} (h:aftN w0 w R B text lo 65536 r):aftN w0 w R B text lo 65537 r:=by
 cases r with
 | inl x=>obtain⟨h0,k,n,tat,te,fin,o,nd,h1,h2,h3,h4,h5⟩:=h;exact⟨h0,k,n,tat,te,fin,o,nd,h1,h2,h3,by omega,h5⟩
 | inr q=>exact h
theorem aftN.sb {w0 w:World} {R R':List HP} {B:Nat} {text:List UInt8} {lo hi:Nat} {r:Rp} (h:aftN w0 w R B text lo hi r) (s:∀ A,Sb (A::R) (A::R')):aftN w0 w R' B text lo hi r:=by
 cases r with
 | inl x=>obtain⟨h0,k,n,tat,te,fin,o,nd,h1,h2,h3,h4,h5⟩:=h;exact⟨h0,k,n,tat,te,fin,o,nd,h1,h2,h3,h4,h5.sb (s _)⟩
 | inr q=>exact⟨h.1,h.2.1,h.2.2.sb (s _)⟩
theorem aftN.of_aft {w0 w:World} {R:List HP} {B:Nat} {text:List UInt8} {lo:Nat} {r:Rp} (h:aft w0 w R B text lo r) (ho:∀ q,r=.inr q→q.opn=lo):aftN w0 w R B text lo 65537 r:=by
 cases r with
 | inl x=>exact h
 | inr q=>exact⟨h.1,ho q rfl,h.2⟩
def xn (text:List UInt8) (k n tat te fin o nd d a:Int):Rp→Prop
 | .inl x=>x=(d,a.toNat)∧(x.2:Int)=a∧d≠0
 | .inr q=>alV text q=psV text k n tat te fin o nd d a∧d=0
theorem aftN.cells {w0 w:World} {R:List HP} {B:Nat} {text:List UInt8} {lo:Nat} {r:Rp} (h:aftN w0 w R B text lo 65537 r) :
  ∃ k n tat te fin o nd d a:Int,lo≤o∧o≤65∧0≤nd∧nd≤65537∧xn text k n tat te fin o nd d a r∧(∀ q,r=.inr q→PsB text q∧q.opn=lo)∧Sat w0 w (blk B 51 [.string ⟨text.toArray⟩,.int .i64 k,.int .i64 n,.int .i64 tat,.int .i64 te,.int .i64 fin,.int .i64 o,.int .i64 nd,.int .i64 d,.int .i64 a]::R):=by
 rcases r with ⟨d,a⟩|q
 ·obtain⟨h0,k,n,tat,te,fin,o,nd,h1,h2,h3,h4,h5⟩:=h
  exact⟨k,n,tat,te,fin,o,nd,d,a,h1,h2,h3,by omega,⟨by simp,rfl,h0⟩,fun q e=>(nomatch e),h5⟩
 ·obtain⟨h1,h2,h3⟩:=h
  have:=h1.1;have:=h1.2.1
  exact⟨_,_,_,_,_,q.opn,q.nds,_,_,by omega,by omega,by omega,by omega,⟨rfl,rfl⟩,fun q' e=>(by injection e with e;subst e;exact⟨h1,h2⟩),h3⟩
theorem Xf (B:Nat) (text:List UInt8) (p:Ps) (hp:PsB text p) (w0 w:World) (R:List HP) (hS:Sat w0 w (blk B 51 (alV text p)::R)) :
  Calls Tryz.prog 124 #[.pointer (some ⟨B,0,none⟩)] w fun e w'=>e=.returned (.tuple #[])∧aftN w0 w' R B text (p.opn+1) 65536 (yV p):=by
 obtain⟨h1,h2,h3⟩:=hp
 unfold alV at hS
 unfold yV
 by_cases ho:p.opn=64
 ·rw[if_pos ho]
  have FA:=fun w R=>xq B text (yZ p.tk).1 (yZ p.tk).2.1 p.at_ 0 p.fin 64 p.nds 0 132 w0 w R
  rw[ho] at hS
  have HO:=hid ho
  clear ho
  unfold psV at hS FA
  generalize (yZ p.tk).1=k at *
  generalize (yZ p.tk).2.1=n at *
  go_enter Tryz.func124,Tryz.ntmps124
  go_wp2_with ((first|((with_reducible apply yh hS);exact ya;exact yb rfl;exact ye;rfl;decide +kernel)|((with_reducible apply yy hS);exact ya;exact yb rfl;exact yb rfl;exact ye;rfl;(focus (simp;done));exact Upd.hd;rfl;decide +kernel;clear hS;intro w hS;(try simp only[qS] at hS))|(go_at_call 43;refine (FA _ _ hS).mono ?_;clear hS;rintro e w ⟨rfl,hS⟩));try simp only[qA])
  go_end0
  exact⟨rfl,by show (132:Int)≠0;decide,_,_,_,_,_,(65:Int),(p.nds:Int),by have:=HO.out;omega,by omega,by omega,by omega,hS⟩
 ·rw[if_neg ho]
  have ho2:((p.opn:Int) == 64)=false:=by simp;omega
  unfold psV at hS
  go_enter Tryz.func124,Tryz.ntmps124
  go_wp2_with ((first|((with_reducible apply yh hS);exact ya;exact yb rfl;exact ye;rfl;decide +kernel)|((with_reducible apply yy hS);exact ya;exact yb rfl;exact yb rfl;exact ye;rfl;(focus (simp;done));exact Upd.hd;rfl;decide +kernel;clear hS;intro w hS;(try simp only[qS] at hS)));try simp only[qA])
  go_end0
  exact⟨rfl,⟨by dsimp only;omega,h2,h3⟩,rfl,hS⟩
theorem Uo (B:Nat) (text:List UInt8) (lo:Nat) (r:Rp) (w0 w:World) (R:List HP) (h:aftN w0 w R B text lo 65536 r) :
  Calls Tryz.prog 75 #[.pointer (some ⟨B,0,none⟩)] w fun e w'=>e=.returned (.tuple #[])∧aftN w0 w' R B text lo 65537 (yx r yC):=by
 rcases r with x|q
 ·obtain⟨h0,k,n,tat,te,fin,o,nd,h1,h2,h3,h4,hS⟩:=h
  refine (makesD B text k n tat te fin o nd x.1 x.2 h0 h3 h4 w0 w R hS).mono ?_
  rintro e w' ⟨rfl,hS⟩
  exact⟨rfl,h0,k,n,tat,te,fin,o,nd+1,h1,h2,by omega,by omega,hS⟩
 ·obtain⟨h1,h2,hS⟩:=h
  refine (ua B text q h1 w0 w R hS).mono ?_
  rintro e w' ⟨rfl,ha⟩
  refine ⟨rfl,?_⟩
  rw[h2] at ha
  refine aftN.of_aft ha fun q' hq=>?_
  unfold yx yC at hq
  dsimp only at hq
  split at hq
  ·cases hq
  ·injection hq with hq;subst hq;exact h2
theorem Xz (B:Nat) (text:List UInt8) (hl:text.length≤1048576) (lo:Nat) (r:Rp) (w0 w:World) (hSig:kY w0) (R:List HP) (hbm:YF w0∈R) (h:aftN w0 w R B text lo 65537 r) :
  Calls Tryz.prog 14 #[.pointer (some ⟨B,0,none⟩)] w fun e w'=>e=.returned (.tuple #[])∧aftN w0 w' R B text lo 65537 (yx r (yM text)):=by
 rcases r with x|q
 ·exact Ky B text lo x w0 w R h
 ·obtain⟨h1,h2,hS⟩:=h
  refine (uF B text hl q h1 w0 w hSig R hbm hS).mono ?_
  rintro e w' ⟨rfl,ha⟩
  refine ⟨rfl,?_⟩
  rw[h2] at ha
  refine aftN.of_aft ha fun q' hq=>?_
  have:=KV hq
  subst this
  exact h2
theorem GR (B:Nat) (text:List UInt8) (hl:text.length≤1048576) (c:Int) (lo:Nat) (r:Rp) (w0 w:World) (hSig:kY w0) (R:List HP) (hbm:YF w0∈R) (h:aftN w0 w R B text lo 65537 r) :
  Calls Tryz.prog 16 #[.pointer (some ⟨B,0,none⟩),.int .i64 c] w fun e w'=>e=.returned (.tuple #[])∧aftN w0 w' R B text lo 65537 (yx r (yL text c)):=by
 rcases r with x|q
 ·obtain⟨h0,k,n,tat,te,fin,o,nd,h1,h2,h3,h4,hS⟩:=h
  refine (needD B text k n tat te fin o nd x.1 x.2 c h0 w0 w R hS).mono ?_
  rintro e w' ⟨rfl,hS⟩
  exact⟨rfl,h0,k,n,tat,te,fin,o,nd,h1,h2,h3,h4,hS⟩
 ·obtain⟨h1,h2,hS⟩:=h
  refine (needC B text hl q h1 w0 w hSig R hbm hS c).mono ?_
  rintro e w' ⟨rfl,ha⟩
  refine ⟨rfl,?_⟩
  rw[h2] at ha
  refine aftN.of_aft ha fun q' hq=>?_
  unfold yx yL at hq
  dsimp only at hq
  split at hq
  ·have:=KV hq
   subst this
   exact h2
  ·cases hq
def rpR:Rt→Rp
 | .inl x=>.inl x
 | .inr (_,q)=>.inr q
def jz (text:List UInt8) (tsk:Tsk):Rp→Rt→Prop
 | .inl x,r=>r=.inl x
 | .inr q,r=>RD text tsk q r
def treeF (text:List UInt8) (H:Hp) (v:Value) (r:Rp) (r':Rt):Prop:=∀ t q,r'=.inr (t,q)→okT t∧InT H t v∧q.fin≤text.length∧∀ q0,r=.inr q0→meas text q≤meas text q0∧q0.nds+size t≤q.nds
theorem treeF.ext {text:List UInt8} {H H':Hp} {v:Value} {r:Rp} {r':Rt} (h:treeF text H v r r') (hx:Ext H H'):treeF text H' v r r':=fun t q e=>⟨(h t q e).1,(h t q e).2.1.ext hx,(h t q e).2.2⟩
theorem lvX (text:List UInt8) (f b n:Nat) (hA:LvA text f b n) (hD:LvD text f) (B:Nat) (lo:Nat) (r:Rp) (w0 w:World) (hSig:kY w0) (R:List HP) (H:Hp) (hbm:YF w0∈R) (hm:∀ q,r=.inr q→meas text q≤n) (h:aftN w0 w (fz H::R) B text lo 65537 r) :
  Calls Tryz.prog f #[.pointer (some ⟨B,0,none⟩)] w fun e w'=>∃ v,e=.returned v∧∃ r' H',jz text (.lvl b) r r'∧Ext H H'∧IfV v∧treeF text H' v r r'∧aftN w0 w' (fz H'::R) B text lo 65537 (rpR r'):=by
 rcases r with x|q
 ·refine (kS text f hD B lo x w0 w _ h).mono ?_
  rintro e w' ⟨rfl,h⟩
  exact⟨_,rfl,.inl x,H,rfl,Ext.refl _,.inl rfl,fun t q e=>(nomatch e),h⟩
 ·obtain⟨h1,h2,hS⟩:=h
  refine (hA B q w0 w R H h1 (hm q rfl) hSig hbm hS).mono ?_
  rintro e w' ⟨v,rfl,r',hrd,hok⟩
  rcases r' with x|⟨t,q'⟩
  ·obtain⟨hv,H',hx,hd⟩:=hok
   rw[h2] at hd
   exact⟨v,rfl,.inl x,H',hrd,hx,hv,fun t q e=>(nomatch e),hd⟩
  ·obtain⟨c1,c2,c3,c4,c5,H',c6,c7,c8⟩:=hok
   refine ⟨v,rfl,.inr (t,q'),H',hrd,c6,.inr c7.form,fun t2 q2 e=>?_,c1,c2.trans h2,c8⟩
   injection e with e
   injection e with e1 e2
   subst e1;subst e2
   refine ⟨c5,c7,c1.2.2.1,fun q0 e=>?_⟩
   injection e with e
   subst e
   exact⟨c3,c4⟩
theorem Gw (text:List UInt8):LvD text 117:=by
 intro B k n tat te fin o nd d a w0 w R hd hS
 unfold psV at hS
 have hd2:(d == 0)=false:=by simp[hd]
 have hd3:(d != 0)=true:=by simp[hd]
 go_enter Tryz.func117,Tryz.ntmps117
 go_wp2_with ((with_reducible apply yh hS);exact ya;exact yb rfl;exact ye;rfl;decide +kernel;(try simp only[qA]))
 go_ret
 exact⟨rfl,hS⟩
theorem jU (text:List UInt8):LvD text 15:=formulaD text (impD text (orD text (xorD text (andD text (Gw text)))))
theorem xu (text:List UInt8) (hl:text.length≤1048576) (n:Nat) (hA:LvA text 117 6 n):LvA text 15 1 n:=by
 have u:=Gw text
 have a:=andA text hl n hA u
 have x:=xorA text hl n a (andD text u)
 have o:=orA text hl n x (xorD text (andD text u))
 have i:=impA text hl n o (orD text (xorD text (andD text u)))
 exact formulaA text hl n i (impD text (orD text (xorD text (andD text u))))
end
section
set_option maxRecDepth 20000
open Go Go.RowKit Go.SL Go.ClauseP Go.LexP

/-! ### Plain facts of the steps -/
theorem xj {text:List UInt8} {p q:Ps} (hf:p.fin≤text.length) (hk:knd p≠0) (h:yM text p=.inr q):meas text q < meas text p∧q.opn=p.opn∧q.nds=p.nds:=by
 obtain rfl:=KV h
 refine ⟨?_,rfl,rfl⟩
 unfold meas
 rw[if_neg hk]
 have hb:=je text p.fin hf
 rcases Jo text p.fin hf with hx|hx
 ·rw[if_pos (by unfold knd;dsimp only;rw[hx];rfl)]
  omega
 ·split
  ·omega
  ·dsimp only;omega
theorem Kw {r:Rp} {f:Ps→Rp} {q:Ps} (h:yx r f=.inr q):∃ p,r=.inr p∧f p=.inr q:=by
 cases r with
 | inl e=>cases h
 | inr p=>exact⟨p,rfl,h⟩
theorem Jn {p q:Ps} (h:yC p=.inr q):q={ p with nds:=p.nds+1 }:=by
 unfold yC at h
 split at h
 ·cases h
 ·injection h with h;exact h.symm
theorem Jp {p q:Ps} (h:yV p=.inr q):q={ p with opn:=p.opn+1 }:=by
 unfold yV at h
 split at h
 ·cases h
 ·injection h with h;exact h.symm
theorem GQ {text:List UInt8} {p q:Ps} (hf:p.fin≤text.length) (hk:knd p≠0) (h:yx (yC p) (yM text)=.inr q):meas text q < meas text p∧q.opn=p.opn∧q.nds=p.nds+1:=by
 obtain⟨p1,h1,h2⟩:=Kw h
 obtain rfl:=Jn h1
 exact xj (p:={ p with nds:=p.nds+1 }) hf hk h2
theorem opens_q {text:List UInt8} {p q:Ps} (hf:p.fin≤text.length) (hk:knd p≠0) (h:yx (yV p) (yM text)=.inr q):meas text q < meas text p∧q.opn=p.opn+1∧q.nds=p.nds:=by
 obtain⟨p1,h1,h2⟩:=Kw h
 obtain rfl:=Jp h1
 exact xj (p:={ p with opn:=p.opn+1 }) hf hk h2
theorem gL {text:List UInt8} {p q:Ps} (hf:p.fin≤text.length) (hk:knd p≠0) (h:yx (yx (yV p) yC) (yM text)=.inr q):meas text q < meas text p∧q.opn=p.opn+1∧q.nds=p.nds+1:=by
 obtain⟨p2,h1,h2⟩:=Kw h
 obtain⟨p1,h3,h4⟩:=Kw h1
 obtain rfl:=Jp h3
 obtain rfl:=Jn h4
 exact xj (p:={ p with opn:=p.opn+1,nds:=p.nds+1 }) hf hk h2
theorem jK {text:List UInt8} {p q:Ps} {k:Int} (hf:p.fin≤text.length) (hk:k≠0) (h:yL text k p=.inr q):meas text q < meas text p∧q.opn=p.opn∧q.nds=p.nds:=by
 unfold yL at h
 split at h
 ·rename_i hkk
  exact xj hf (by rw[hkk];exact hk) h
 ·cases h
theorem jJ {text:List UInt8} {p:Ps} (hf:p.fin≤text.length) (hk:knd p≠0):0 < meas text p:=by
 unfold meas;rw[if_neg hk];omega
theorem cellF_opn {text:List UInt8} {k n tat te fin o nd d a:Int} {q:Ps} (h:xn text k n tat te fin o nd d a (.inr q)) (j:Nat) (hj:j≤q.opn):psV text k n tat te fin (o - j) nd d a=alV text { q with opn:=q.opn - j }:=by
 obtain⟨h,rfl⟩:=h
 unfold alV psV at h ⊢
 simp only[List.cons.injEq,Value.int.injEq,true_and,and_true] at h
 obtain⟨h1,h2,h3,h4,h5,h6,h7,h8⟩:=h
 subst h1;subst h2;subst h3;subst h4;subst h5;subst h7
 dsimp only
 rw[show ((q.opn - j:Nat):Int)=o - (j:Int) by omega,h8]
/-! ### How the readings are put together -/
theorem opn_rd {text:List UInt8} {p:Ps} {r':Rt} (ht:p.tk=.opn) (h:jz text (.lvl 1) (yx (yV p) (yM text)) r'):(∀ e,yx (rpR r') (yL text 10)=.inl e→RD text (.lvl 6) p (.inl e)) ∧
  ∀ q,yx (rpR r') (yL text 10)=.inr q→∃ q0 x q1,yx (yV p) (yM text)=.inr q0∧r'=.inr (x,q1)∧yL text 10 q1=.inr q∧RD text (.lvl 6) p (.inr (x,{ q with opn:=q.opn - 1 })):=by
 cases h0:yx (yV p) (yM text) with
 | inl e0 =>
  rw[h0] at h
  have h:r'=.inl e0:=h
  subst h
  refine ⟨fun e he=>?_,fun q he=>(nomatch he)⟩
  have he:e0=e:=by injection he
  subst he
  exact .opnA ht h0
 | inr q0 =>
  rw[h0] at h
  have h:RD text (.lvl 1) q0 r':=h
  rcases r' with e1|⟨x,q1⟩
  ·refine ⟨fun e he=>?_,fun q he=>(nomatch he)⟩
   have he:e1=e:=by injection he
   subst he
   exact .opnE ht h0 h
  ·have hk:=RD.opnK ht h0 h
   refine ⟨fun e he=>?_,fun q he=>⟨q0,x,q1,rfl,rfl,he,?_⟩⟩
   ·have he:yL text 10 q1=.inl e:=he
    rw[he] at hk;exact hk
   ·have he:yL text 10 q1=.inr q:=he
    rw[he] at hk;exact hk
theorem ite_rd {text:List UInt8} {p:Ps} {r1 r2 r3:Rt} (ht:p.tk=.ite) (h1:jz text (.lvl 1) (yx (yx (yx (yV p) yC) (yM text)) (yL text 9)) r1) (h2:jz text (.lvl 1) (yx (rpR r1) (yL text 11)) r2) (h3:jz text (.lvl 1) (yx (rpR r2) (yL text 11)) r3) :
  (∀ e,yx (rpR r3) (yL text 10)=.inl e→RD text (.lvl 6) p (.inl e)) ∧
  ∀ q,yx (rpR r3) (yL text 10)=.inr q→∃ q0 c q1 q2 a q3 q4 b q5,yx (yx (yx (yV p) yC) (yM text)) (yL text 9)=.inr q0∧r1=.inr (c,q1)∧yL text 11 q1=.inr q2∧r2=.inr (a,q3)∧yL text 11 q3=.inr q4∧r3=.inr (b,q5)∧yL text 10 q5=.inr q ∧
   RD text (.lvl 6) p (.inr (.ite c a b,{ q with opn:=q.opn - 1 })):=by
 have dead:∀ {e0:Int × Nat} {r:Rt},r=.inl e0→(∀ e,yx (rpR r) (yL text 10)=.inl e→e=e0)∧∀ q,yx (rpR r) (yL text 10)≠.inr q:=by
  rintro e0 r rfl
  exact⟨fun e he=>(by injection he with he;exact he.symm),fun q he=>(nomatch he)⟩
 cases h0:yx (yx (yx (yV p) yC) (yM text)) (yL text 9) with
 | inl e0 =>
  rw[h0] at h1
  have h1:r1=.inl e0:=h1
  subst h1
  have h2:r2=.inl e0:=h2
  subst h2
  have h3:r3=.inl e0:=h3
  obtain⟨g1,g2⟩:=dead h3
  exact⟨fun e he=>by rw[g1 e he];exact .iteA ht h0,fun q he=>(g2 q he).elim⟩
 | inr q0 =>
  rw[h0] at h1
  have h1:RD text (.lvl 1) q0 r1:=h1
  rcases r1 with e1|⟨c,q1⟩
  ·have h2:r2=.inl e1:=h2
   subst h2
   have h3:r3=.inl e1:=h3
   obtain⟨g1,g2⟩:=dead h3
   exact⟨fun e he=>by rw[g1 e he];exact .iteC ht h0 h1,fun q he=>(g2 q he).elim⟩
  ·cases hn:yL text 11 q1 with
   | inl e2 =>
    have h2:jz text (.lvl 1) (yL text 11 q1) r2:=h2
    rw[hn] at h2
    have h2:r2=.inl e2:=h2
    subst h2
    have h3:r3=.inl e2:=h3
    obtain⟨g1,g2⟩:=dead h3
    exact⟨fun e he=>by rw[g1 e he];exact .iteD ht h0 h1 hn,fun q he=>(g2 q he).elim⟩
   | inr q2 =>
    have h2:jz text (.lvl 1) (yL text 11 q1) r2:=h2
    rw[hn] at h2
    have h2:RD text (.lvl 1) q2 r2:=h2
    rcases r2 with e3|⟨a,q3⟩
    ·have h3:r3=.inl e3:=h3
     obtain⟨g1,g2⟩:=dead h3
     exact⟨fun e he=>by rw[g1 e he];exact .iteE ht h0 h1 hn h2,fun q he=>(g2 q he).elim⟩
    ·cases hn2:yL text 11 q3 with
     | inl e4 =>
      have h3:jz text (.lvl 1) (yL text 11 q3) r3:=h3
      rw[hn2] at h3
      have h3:r3=.inl e4:=h3
      obtain⟨g1,g2⟩:=dead h3
      exact⟨fun e he=>by rw[g1 e he];exact .iteF ht h0 h1 hn h2 hn2,fun q he=>(g2 q he).elim⟩
     | inr q4 =>
      have h3:jz text (.lvl 1) (yL text 11 q3) r3:=h3
      rw[hn2] at h3
      have h3:RD text (.lvl 1) q4 r3:=h3
      rcases r3 with e5|⟨b,q5⟩
      ·obtain⟨g1,g2⟩:=dead (r:=.inl e5) rfl
       exact⟨fun e he=>by rw[g1 e he];exact .iteG ht h0 h1 hn h2 hn2 h3,fun q he=>(g2 q he).elim⟩
      ·have hk:=RD.iteK ht h0 h1 hn h2 hn2 h3
       refine ⟨fun e he=>?_,fun q he=>⟨q0,c,q1,q2,a,q3,q4,b,q5,rfl,rfl,hn,rfl,hn2,rfl,he,?_⟩⟩
       ·have he:yL text 10 q5=.inl e:=he
        rw[he] at hk;exact hk
       ·have he:yL text 10 q5=.inr q:=he
        rw[he] at hk;exact hk
/-! ### The walk -/
theorem XY:(1:Int)≠0:=by decide
theorem gA:(2:Int)≠0:=by decide
theorem Xb:(9:Int)≠0:=by decide
theorem Xr:(15:Int)≠0:=by decide
theorem xf:(3:Int)≠0:=by decide
abbrev PostR (w0:World) (R:List HP) (H:Hp) (B:Nat) (text:List UInt8) (p:Ps) (e:Ending) (w':World):Prop:=∃ v,e=.returned v∧∃ r,RD text (.lvl 6) p r∧okR w0 w' R H B text p v r
section
variable {w0 w:World} {R:List HP} {H H':Hp} {B:Nat} {text:List UInt8} {p:Ps} {v:Value} {k n tat te fin o nd d a:Int}
theorem uN {x:Int × Nat} (hv:IfV v) (hx:Ext H H') (hlk:xn text k n tat te fin o nd d a (.inl x)) {o':Int} (h1:p.opn≤o') (h2:o'≤65) (h3:0≤nd) (h4:nd≤65537)
  (hS:Sat w0 w (blk B 51 [.string ⟨text.toArray⟩,.int .i64 k,.int .i64 n,.int .i64 tat,.int .i64 te,.int .i64 fin,.int .i64 o',.int .i64 nd,.int .i64 d,.int .i64 a]::fz H'::R)):okR w0 w R H B text p v (.inl x):=by
 obtain⟨rfl,ha,h0⟩:=hlk
 exact⟨hv,H',hx,h0,k,n,tat,te,fin,o',nd,h1,h2,h3,h4,by dsimp only at ha ⊢;rw[ha];exact hS⟩
theorem uO {q:Ps} {t:T} (hlk:xn text k n tat te fin o nd d a (.inr q)) (j:Nat) (hq:PsB text q) (ho:q.opn=p.opn+j) (hm:meas text q≤meas text p) (hn:p.nds+size t≤q.nds) (hk:okT t) (hx:Ext H H') (hi:InT H' t v)
  (hS:Sat w0 w (blk B 51 [.string ⟨text.toArray⟩,.int .i64 k,.int .i64 n,.int .i64 tat,.int .i64 te,.int .i64 fin,.int .i64 (o - j),.int .i64 nd,.int .i64 d,.int .i64 a]::fz H'::R)) :
  okR w0 w R H B text p v (.inr (t,{ q with opn:=q.opn - j })):=by
 refine ⟨⟨by have:=hq.1;dsimp only;omega,hq.2.1,hq.2.2.1,hq.2.2.2⟩,by dsimp only;omega,hm,hn,hk,H',hx,hi,?_⟩
 rw[← cellF_opn hlk j (by omega)]
 exact hS
theorem GW {q:Ps} {t:T} (hlk:xn text k n tat te fin o nd d a (.inr q)) (hq:PsB text q) (ho:q.opn=p.opn) (hm:meas text q≤meas text p) (hn:p.nds+size t≤q.nds) (hk:okT t) (hx:Ext H H') (hi:InT H' t v)
  (hS:Sat w0 w (blk B 51 [.string ⟨text.toArray⟩,.int .i64 k,.int .i64 n,.int .i64 tat,.int .i64 te,.int .i64 fin,.int .i64 o,.int .i64 nd,.int .i64 d,.int .i64 a]::fz H'::R)) :
  okR w0 w R H B text p v (.inr (t,q)):=by
 refine ⟨hq,ho,hm,hn,hk,H',hx,hi,?_⟩
 rw[hlk.1]
 exact hS
end
set_option maxHeartbeats 2000000 in
theorem primC (text:List UInt8) (hl:text.length≤1048576) (B:Nat) (p:Ps) (w0 w:World) (R:List HP) (H:Hp) (hp:PsB text p) (hSig:kY w0) (hbm:YF w0∈R) (c:Int) (ht:p.tk=.const c) (hS:Sat w0 w (blk B 51 (alV text p)::fz H::R)) :
  Calls Tryz.prog 126 #[.pointer (some ⟨B,0,none⟩)] w (PostR w0 R H B text p):=by
 have hrd:=RD.cst (text:=text) ht
 have hpk:=hp.2.2.2
 rw[ht] at hpk
 have hkn:knd p≠0:=by unfold knd;rw[ht];exact XY
 have hf:=hp.2.2.1
 have hmq:=fun q=>GQ (text:=text) (p:=p) (q:=q) hf hkn
 have he:alV text p=[.string ⟨text.toArray⟩,.int .i64 1,.int .i64 c,.int .i64 p.at_,.int .i64 0,.int .i64 p.fin,.int .i64 p.opn,.int .i64 p.nds,.int .i64 0,.int .i64 0]:=by unfold alV psV;rw[ht];rfl
 generalize hr0:yx (yC p) (yM text)=r0 at *
 have MX:=fun w R hS=>Uo B text p.opn (.inr p) w0 w R ⟨hp,rfl,hS⟩
 have AX:=fun w R hm h=>Xz B text hl p.opn (yx (.inr p) yC) w0 w hSig R hm h
 rw[show yx (yx (.inr p) yC) (yM text)=r0 from hr0] at AX
 rw[he] at hS
 have HPK:=hid hpk
 have HRD:=hid hrd
 have HE:=hid he
 clear hr0 hpk hrd he ht
 go_enter Tryz.func126,Tryz.ntmps126
 go_wp2_with ((first|((with_reducible apply yh hS);exact ya;exact yb rfl;(repeat (with_reducible first|exact ye|apply yd));rfl;decide +kernel)|((with_reducible apply yG hS);exact ya;exact yb rfl;exact ye;exact sz49;decide +kernel;rfl;rfl)|((with_reducible apply yi hS);exact ya;exact yb rfl;exact yb rfl;exact ye;rfl;(focus (simp;done));exact Upd.hd;rfl;exact sz49;rfl;clear hS;intro w hS;(try simp only[yp,qS] at hS))|((with_reducible apply yk hS);exact ya;exact z49;clear hS;intro TB w hS)|((with_reducible apply yH hS);exact ya;exact yb rfl;exact yw;clear hS;intro NB w hS)|(go_at_call 75;(simp only[yp,List.drop_succ_cons,List.drop_zero,List.take_succ_cons,List.take_zero,q2,q3] at hS);refine (MX _ (blk TB 49 [.int .i64 1,.int .i64 c,.int .i64 p.at_,.int .i64 0]::fz H::R) (by rw[HE.out];exact hS.sb (by(repeat (with_reducible first|exact Sb.refl|(refine Sb.take (by(repeat (first|exact Rem.hd|apply Rem.tl));done) ?_)))))).mono ?_;clear hS;rintro e w ⟨rfl,hA⟩)|(go_at_call 14;refine (AX _ _ (by((repeat (with_reducible apply yd));(try assumption))) hA).mono ?_;clear hA;rintro e w ⟨rfl,hA⟩;obtain⟨k1,n1,tat1,te1,fin1,o1,nd1,d1,a1,c1,c2,c3,c4,hlk,hqq,hS⟩:=hA.cells;clear hA;have HLK:=hid hlk;have HQQ:=hid hqq;clear hlk hqq));try simp only[qA])
 go_ret
 have hS1:Sat w0 w (blk NB 108 [.int .i64 0,.int .i64 0,.int .i64 c]::fz H::blk B 51 [.string ⟨text.toArray⟩,.int .i64 k1,.int .i64 n1,.int .i64 tat1,.int .i64 te1,.int .i64 fin1,.int .i64 o1,.int .i64 nd1,.int .i64 d1,.int .i64 a1]::R):=hS.sb (by(repeat (with_reducible first|exact Sb.refl|(refine Sb.take (by(repeat (first|exact Rem.hd|apply Rem.tl));done) ?_)|apply Sb.skip)))
 obtain⟨H',x1,x2,hS2⟩:=hS1.fzBlk
 have hS3:=hS2.sb (L:=blk B 51 [.string ⟨text.toArray⟩,.int .i64 k1,.int .i64 n1,.int .i64 tat1,.int .i64 te1,.int .i64 fin1,.int .i64 o1,.int .i64 nd1,.int .i64 d1,.int .i64 a1]::fz H'::R) (by(repeat (with_reducible first|exact Sb.refl|(refine Sb.take (by(repeat (first|exact Rem.hd|apply Rem.tl));done) ?_))))
 have hi:InT H' (.cst c) (.iface 104 (.pointer (some ⟨NB,0,none⟩))):=⟨NB,rfl,x2⟩
 have hrd:=HRD.out
 rcases r0 with x|q
 ·exact⟨_,rfl,.inl x,hrd,uN (.inr hi.form) x1 HLK.out (by omega) c2 c3 c4 hS3⟩
 ·obtain⟨m1,m2,m3⟩:=hmq q rfl
  exact⟨_,rfl,.inr (.cst c,q),hrd,GW HLK.out (HQQ.out q rfl).1 m2 (by omega) (by simp only[size];omega) HPK.out x1 hi hS3⟩
set_option maxHeartbeats 2000000 in
theorem primV (text:List UInt8) (hl:text.length≤1048576) (B:Nat) (p:Ps) (w0 w:World) (R:List HP) (H:Hp) (hp:PsB text p) (hSig:kY w0) (hbm:YF w0∈R) (c:Int) (ht:p.tk=.var c) (hS:Sat w0 w (blk B 51 (alV text p)::fz H::R)) :
  Calls Tryz.prog 126 #[.pointer (some ⟨B,0,none⟩)] w (PostR w0 R H B text p):=by
 have hrd:=RD.var (text:=text) ht
 have hpk:=hp.2.2.2
 rw[ht] at hpk
 have hkn:knd p≠0:=by unfold knd;rw[ht];exact gA
 have hf:=hp.2.2.1
 have hmq:=fun q=>GQ (text:=text) (p:=p) (q:=q) hf hkn
 have he:alV text p=[.string ⟨text.toArray⟩,.int .i64 2,.int .i64 c,.int .i64 p.at_,.int .i64 0,.int .i64 p.fin,.int .i64 p.opn,.int .i64 p.nds,.int .i64 0,.int .i64 0]:=by unfold alV psV;rw[ht];rfl
 generalize hr0:yx (yC p) (yM text)=r0 at *
 have MX:=fun w R hS=>Uo B text p.opn (.inr p) w0 w R ⟨hp,rfl,hS⟩
 have AX:=fun w R hm h=>Xz B text hl p.opn (yx (.inr p) yC) w0 w hSig R hm h
 rw[show yx (yx (.inr p) yC) (yM text)=r0 from hr0] at AX
 rw[he] at hS
 have HPK:=hid hpk
 have HRD:=hid hrd
 have HE:=hid he
 clear hr0 hpk hrd he ht
 go_enter Tryz.func126,Tryz.ntmps126
 go_wp2_with ((first|((with_reducible apply yh hS);exact ya;exact yb rfl;(repeat (with_reducible first|exact ye|apply yd));rfl;decide +kernel)|((with_reducible apply yG hS);exact ya;exact yb rfl;exact ye;exact sz49;decide +kernel;rfl;rfl)|((with_reducible apply yi hS);exact ya;exact yb rfl;exact yb rfl;exact ye;rfl;(focus (simp;done));exact Upd.hd;rfl;exact sz49;rfl;clear hS;intro w hS;(try simp only[yp,qS] at hS))|((with_reducible apply yk hS);exact ya;exact z49;clear hS;intro TB w hS)|((with_reducible apply yH hS);exact ya;exact yb rfl;exact yw;clear hS;intro NB w hS)|(go_at_call 75;(simp only[yp,List.drop_succ_cons,List.drop_zero,List.take_succ_cons,List.take_zero,q2,q3] at hS);refine (MX _ (blk TB 49 [.int .i64 2,.int .i64 c,.int .i64 p.at_,.int .i64 0]::fz H::R) (by rw[HE.out];exact hS.sb (by(repeat (with_reducible first|exact Sb.refl|(refine Sb.take (by(repeat (first|exact Rem.hd|apply Rem.tl));done) ?_)))))).mono ?_;clear hS;rintro e w ⟨rfl,hA⟩)|(go_at_call 14;refine (AX _ _ (by((repeat (with_reducible apply yd));(try assumption))) hA).mono ?_;clear hA;rintro e w ⟨rfl,hA⟩;obtain⟨k1,n1,tat1,te1,fin1,o1,nd1,d1,a1,c1,c2,c3,c4,hlk,hqq,hS⟩:=hA.cells;clear hA;have HLK:=hid hlk;have HQQ:=hid hqq;clear hlk hqq));try simp only[qA])
 go_ret
 have hS1:Sat w0 w (blk NB 111 [.int .i64 0,.int .i64 0,.int .i64 c]::fz H::blk B 51 [.string ⟨text.toArray⟩,.int .i64 k1,.int .i64 n1,.int .i64 tat1,.int .i64 te1,.int .i64 fin1,.int .i64 o1,.int .i64 nd1,.int .i64 d1,.int .i64 a1]::R):=hS.sb (by(repeat (with_reducible first|exact Sb.refl|(refine Sb.take (by(repeat (first|exact Rem.hd|apply Rem.tl));done) ?_)|apply Sb.skip)))
 obtain⟨H',x1,x2,hS2⟩:=hS1.fzBlk
 have hS3:=hS2.sb (L:=blk B 51 [.string ⟨text.toArray⟩,.int .i64 k1,.int .i64 n1,.int .i64 tat1,.int .i64 te1,.int .i64 fin1,.int .i64 o1,.int .i64 nd1,.int .i64 d1,.int .i64 a1]::fz H'::R) (by(repeat (with_reducible first|exact Sb.refl|(refine Sb.take (by(repeat (first|exact Rem.hd|apply Rem.tl));done) ?_))))
 have hi:InT H' (.var c) (.iface 109 (.pointer (some ⟨NB,0,none⟩))):=⟨NB,rfl,x2⟩
 have hrd:=HRD.out
 rcases r0 with x|q
 ·exact⟨_,rfl,.inl x,hrd,uN (.inr hi.form) x1 HLK.out (by omega) c2 c3 c4 hS3⟩
 ·obtain⟨m1,m2,m3⟩:=hmq q rfl
  exact⟨_,rfl,.inr (.var c,q),hrd,GW HLK.out (HQQ.out q rfl).1 m2 (by omega) (by simp only[size];omega) HPK.out x1 hi hS3⟩
theorem primE (text:List UInt8) (hl:text.length≤1048576) (B:Nat) (p:Ps) (w0 w:World) (R:List HP) (H:Hp) (hp:PsB text p) (hrd:RD text (.lvl 6) p (.inl (131,p.at_))) (h1:knd p≠1) (h2:knd p≠2) (h9:knd p≠9) (h15:knd p≠15) (hS:Sat w0 w (blk B 51 (alV text p)::fz H::R)) :
  Calls Tryz.prog 126 #[.pointer (some ⟨B,0,none⟩)] w (PostR w0 R H B text p):=by
 have b1:=hp.1
 have b2:=hp.2.1
 have FA:=fun w R=>xq B text (yZ p.tk).1 (yZ p.tk).2.1 p.at_ 0 p.fin p.opn p.nds 0 131 w0 w R
 unfold knd at h1 h2 h9 h15
 unfold alV at hS
 unfold psV at hS FA
 have HRD:=hid hrd
 clear hrd
 generalize (yZ p.tk).1=k at *
 generalize (yZ p.tk).2.1=n at *
 have e1:(k == 1)=false:=by simpa using h1
 have e2:(k == 2)=false:=by simpa using h2
 have e9:(k == 9)=false:=by simpa using h9
 have e15:(k == 15)=false:=by simpa using h15
 go_enter Tryz.func126,Tryz.ntmps126
 go_wp2_with ((first|((with_reducible apply yh hS);exact ya;exact yb rfl;exact ye;rfl;decide +kernel)|((with_reducible apply yG hS);exact ya;exact yb rfl;exact ye;exact sz49;decide +kernel;rfl;rfl)|((with_reducible apply yi hS);exact ya;exact yb rfl;exact yb rfl;exact ye;rfl;(focus (simp;done));exact Upd.hd;rfl;exact sz49;rfl;clear hS;intro w hS;(try simp only[yp,qS] at hS))|((with_reducible apply yk hS);exact ya;exact z49;clear hS;intro TB w hS)|(go_at_call 43;(simp only[yp,List.drop_succ_cons,List.drop_zero,List.take_succ_cons,List.take_zero,q2,q3] at hS);refine (FA _ (fz H::R) (hS.sb (by(repeat (with_reducible first|exact Sb.refl|(refine Sb.take (by(repeat (first|exact Rem.hd|apply Rem.tl));done) ?_)|apply Sb.skip))))).mono ?_;clear hS;rintro e w ⟨rfl,hS⟩));try simp only[qA])
 go_ret
 exact⟨_,rfl,.inl (131,p.at_),HRD.out,.inl rfl,H,Ext.refl _,by show (131:Int)≠0;decide,_,_,_,_,_,(p.opn:Int),(p.nds:Int),by omega,by omega,by omega,by omega,hS⟩
set_option maxHeartbeats 4000000 in
theorem primO (text:List UInt8) (hl:text.length≤1048576) (B:Nat) (p:Ps) (w0 w:World) (R:List HP) (H:Hp) (hp:PsB text p) (hSig:kY w0) (hbm:YF w0∈R) (hA:LvA text 15 1 (meas text p - 1)) (ht:p.tk=.opn) (hS:Sat w0 w (blk B 51 (alV text p)::fz H::R)) :
  Calls Tryz.prog 126 #[.pointer (some ⟨B,0,none⟩)] w (PostR w0 R H B text p):=by
 have hkn:knd p≠0:=by unfold knd;rw[ht];exact Xb
 have hf:=hp.2.2.1
 have hmq:=fun q=>opens_q (text:=text) (p:=p) (q:=q) hf hkn
 have hmp:=jJ hf hkn
 have he:alV text p=[.string ⟨text.toArray⟩,.int .i64 9,.int .i64 0,.int .i64 p.at_,.int .i64 0,.int .i64 p.fin,.int .i64 p.opn,.int .i64 p.nds,.int .i64 0,.int .i64 0]:=by unfold alV psV;rw[ht];rfl
 have hrd:=fun r'=>opn_rd (text:=text) (r':=r') ht
 generalize hr0:yx (yV p) (yM text)=r0 at *
 have OX:=fun w R hS=>Xf B text p hp w0 w R hS
 have AX:=fun w R hm h=>Xz B text hl (p.opn+1) (yV p) w0 w hSig R hm h
 rw[hr0] at AX
 have LX:=fun w R hm h=>lvX text _ 1 _ hA (jU text) B (p.opn+1) r0 w0 w hSig R H hm (fun q hq=>by have:=(hmq q hq).1;omega) h
 have NX:=fun r w R hm h=>GR B text hl 10 (p.opn+1) r w0 w hSig R hm h
 rw[he] at hS
 have HRD:=hid hrd
 have HE:=hid he
 clear hr0 hrd he ht
 go_enter Tryz.func126,Tryz.ntmps126
 go_wp2_with ((first|((with_reducible apply yh hS);exact ya;exact yb rfl;exact ye;rfl;decide +kernel)|((with_reducible apply yG hS);exact ya;exact yb rfl;exact ye;exact sz49;decide +kernel;rfl;rfl)|((with_reducible apply yy hS);exact ya;exact yb rfl;exact yb rfl;exact ye;rfl;(focus (simp;done));exact Upd.hd;rfl;decide +kernel;clear hS;intro w hS;(try simp only[qS] at hS))|((with_reducible apply yi hS);exact ya;exact yb rfl;exact yb rfl;exact ye;rfl;(focus (simp;done));exact Upd.hd;rfl;exact sz49;rfl;clear hS;intro w hS;(try simp only[yp,qS] at hS))|((with_reducible apply yk hS);exact ya;exact z49;clear hS;intro TB w hS)|(go_at_call 124;(simp only[yp,List.drop_succ_cons,List.drop_zero,List.take_succ_cons,List.take_zero,q2,q3] at hS);refine (OX _ (fz H::R) (by rw[HE.out];exact hS.sb (by(repeat (with_reducible first|exact Sb.refl|(refine Sb.take (by(repeat (first|exact Rem.hd|apply Rem.tl));done) ?_)|apply Sb.skip))))).mono ?_;clear hS;rintro e w ⟨rfl,hA⟩)|(go_at_call 14;refine (AX _ _ (by((repeat (with_reducible apply yd));(try assumption))) hA.wide).mono ?_;clear hA;rintro e w ⟨rfl,hA⟩)|(go_at_call 15;refine (LX _ _ (by((repeat (with_reducible apply yd));(try assumption))) hA).mono ?_;clear hA;rintro e w ⟨v,rfl,r1,H1,hth,hx,hv,htr,hA⟩;have HTH:=hid hth;have HTR:=hid htr;clear hth htr)|(go_at_call 16;refine (NX _ _ _ (by((repeat (with_reducible apply yd));(try assumption))) hA).mono ?_;clear hA;rintro e w ⟨rfl,hA⟩;obtain⟨k1,n1,tat1,te1,fin1,o1,nd1,d1,a1,c1,c2,c3,c4,hlk,hqq,hS⟩:=hA.cells;clear hA;have HLK:=hid hlk;have HQQ:=hid hqq;clear hlk hqq));try simp only[qA])
 go_ret
 obtain⟨q1,q2⟩:=HRD.out r1 HTH.out
 have hlk:=HLK.out
 have hqq:=HQQ.out
 cases hr:yx (rpR r1) (yL text 10) with
 | inl x =>
  rw[hr] at hlk
  exact⟨_,rfl,.inl x,q1 x hr,uN hv hx hlk (by omega) (by omega) c3 c4 hS⟩
 | inr q =>
  rw[hr] at hlk
  obtain⟨q0,x,qa,e1,e2,e3,e4⟩:=q2 q hr
  obtain⟨t1,t2,hql,t3⟩:=HTR.out x qa e2
  obtain⟨t4,t5⟩:=t3 q0 e1
  obtain⟨m1,m2,m3⟩:=hmq q0 e1
  obtain⟨b1,b2⟩:=hqq q hr
  obtain⟨n1,n2,n3⟩:=jK hql (by decide) e3
  exact⟨_,rfl,.inr (x,{ q with opn:=q.opn - 1 }),e4,uO hlk 1 b1 (by omega) (by omega) (by omega) t1 hx t2 hS⟩
theorem Xa {text:List UInt8} {k:Int} {r:Rp} {q:Ps} (h:yx r (yL text k)=.inr q):∃ p,r=.inr p∧yL text k p=.inr q:=Kw h
theorem rpR_inr {r:Rt} {q:Ps} (h:rpR r=.inr q):∃ t,r=.inr (t,q):=by
 rcases r with e|⟨t,q'⟩
 ·cases h
 ·have h:q'=q:=by injection h
  exact⟨t,by rw[h]⟩
theorem fin_of {w0 w:World} {R:List HP} {B:Nat} {text:List UInt8} {lo hi:Nat} {r:Rp} (h:aftN w0 w R B text lo hi r):∀ q,r=.inr q→q.fin≤text.length:=by
 rintro q rfl
 exact h.1.2.2.1
theorem ite_facts {text:List UInt8} {p q:Ps} {r1 r2 r3:Rt} {v1 v2 v3:Value} {H1 H2 H3:Hp} (hp:p.fin≤text.length) (hk:knd p≠0)
  (t1:treeF text H1 v1 (yx (yx (yx (yV p) yC) (yM text)) (yL text 9)) r1) (t2:treeF text H2 v2 (yx (rpR r1) (yL text 11)) r2) (t3:treeF text H3 v3 (yx (rpR r2) (yL text 11)) r3)
  (hpf:∀ q,yx (yx (yV p) yC) (yM text)=.inr q→q.fin≤text.length) {q0 q1 q2 q3 q4 q5:Ps} {c a b:T} (e1:yx (yx (yx (yV p) yC) (yM text)) (yL text 9)=.inr q0) (e2:r1=.inr (c,q1)) (e3:yL text 11 q1=.inr q2) (e4:r2=.inr (a,q3))
  (e5:yL text 11 q3=.inr q4) (e6:r3=.inr (b,q5)) (e7:yL text 10 q5=.inr q) :
  (okT c∧InT H1 c v1)∧(okT a∧InT H2 a v2)∧(okT b∧InT H3 b v3)∧meas text q≤meas text p∧p.nds+(size c+size a+size b+1)≤q.nds:=by
 obtain⟨qq,f1,f2⟩:=Xa e1
 obtain⟨m1,m2,m3⟩:=gL hp hk f1
 obtain⟨n1,n2,n3⟩:=jK (hpf qq f1) (by decide) f2
 obtain⟨a1,a2,a3,a4⟩:=t1 c q1 e2
 obtain⟨a5,a6⟩:=a4 q0 e1
 obtain⟨n4,n5,n6⟩:=jK a3 (by decide) e3
 obtain⟨b1,b2,b3,b4⟩:=t2 a q3 e4
 obtain⟨b5,b6⟩:=b4 q2 (by rw[e2];exact e3)
 obtain⟨n7,n8,n9⟩:=jK b3 (by decide) e5
 obtain⟨c1,c2,c3,c4⟩:=t3 b q5 e6
 obtain⟨c5,c6⟩:=c4 q4 (by rw[e4];exact e5)
 obtain⟨n10,n11,n12⟩:=jK c3 (by decide) e7
 exact⟨⟨a1,a2⟩,⟨b1,b2⟩,⟨c1,c2⟩,by omega,by omega⟩
theorem xz {text:List UInt8} {k:Int} {r:Rt} {m:Nat} (hk:k≠0) (hf:∀ t q,r=.inr (t,q)→q.fin≤text.length) (hm:∀ t q,r=.inr (t,q)→meas text q≤m):∀ q,yx (rpR r) (yL text k)=.inr q→meas text q≤m:=by
 intro q hq
 obtain⟨q1,e1,e2⟩:=Xa hq
 obtain⟨t,rfl⟩:=rpR_inr e1
 have:=(jK (hf t q1 rfl) hk e2).1
 have:=hm t q1 rfl
 omega
theorem xL {text:List UInt8} {H:Hp} {v:Value} {r:Rp} {r':Rt} {m:Nat} (h:treeF text H v r r') (hth:jz text (.lvl 1) r r') (hm:∀ q,r=.inr q→meas text q≤m):∀ t q,r'=.inr (t,q)→meas text q≤m:=by
 intro t q e
 rcases r with x|q0
 ·have hth:r'=.inl x:=hth
  rw[hth] at e
  cases e
 ·have:=((h t q e).2.2.2 q0 rfl).1
  have:=hm q0 rfl
  omega
set_option maxHeartbeats 8000000 in
theorem primI (text:List UInt8) (hl:text.length≤1048576) (B:Nat) (p:Ps) (w0 w:World) (R:List HP) (H:Hp) (hp:PsB text p) (hSig:kY w0) (hbm:YF w0∈R) (hA:LvA text 15 1 (meas text p - 1)) (ht:p.tk=.ite) (hS:Sat w0 w (blk B 51 (alV text p)::fz H::R)) :
  Calls Tryz.prog 126 #[.pointer (some ⟨B,0,none⟩)] w (PostR w0 R H B text p):=by
 have hkn:knd p≠0:=by unfold knd;rw[ht];exact Xr
 have hf:=hp.2.2.1
 have hmp:=jJ hf hkn
 have he:alV text p=[.string ⟨text.toArray⟩,.int .i64 15,.int .i64 0,.int .i64 p.at_,.int .i64 0,.int .i64 p.fin,.int .i64 p.opn,.int .i64 p.nds,.int .i64 0,.int .i64 0]:=by unfold alV psV;rw[ht];rfl
 have hrd:=fun r1 r2 r3=>ite_rd (text:=text) (r1:=r1) (r2:=r2) (r3:=r3) ht
 have OX:=fun w R hS=>Xf B text p hp w0 w R hS
 have MX:=fun w R h=>Uo B text (p.opn+1) (yV p) w0 w R h
 have AX:=fun w R hm h=>Xz B text hl (p.opn+1) (yx (yV p) yC) w0 w hSig R hm h
 have LX:=fun r w R H hm hq h=>lvX text _ 1 _ hA (jU text) B (p.opn+1) r w0 w hSig R H hm hq h
 have NX:=fun k r w R hm h=>GR B text hl k (p.opn+1) r w0 w hSig R hm h
 have hbq:=fun q=>gL (text:=text) (p:=p) (q:=q) hf hkn
 rw[he] at hS
 have HRD:=hid hrd
 have HE:=hid he
 have HBQ:=hid hbq
 clear hrd he ht hbq
 go_enter Tryz.func126,Tryz.ntmps126
 go_wp2_with ((first|((with_reducible apply yh hS);exact ya;exact yb rfl;exact ye;rfl;decide +kernel)|((with_reducible apply yG hS);exact ya;exact yb rfl;exact ye;exact sz49;decide +kernel;rfl;rfl)|((with_reducible apply yi hS);exact ya;exact yb rfl;exact yb rfl;exact ye;rfl;(focus (simp;done));exact Upd.hd;rfl;exact sz49;rfl;clear hS;intro w hS;(try simp only[yp,qS] at hS))|((with_reducible apply yk hS);exact ya;exact z49;clear hS;intro TB w hS));try simp only[qA])
 simp only[yp,List.drop_succ_cons,List.drop_zero,List.take_succ_cons,List.take_zero,List.set_cons_zero,List.set_cons_succ] at hS
 refine (OX _ (fz H::R) (by rw[HE.out];exact hS.sb (by(repeat (with_reducible first|exact Sb.refl|(refine Sb.take (by(repeat (first|exact Rem.hd|apply Rem.tl));done) ?_)|apply Sb.skip))))).mono ?_
 clear hS
 rintro e w ⟨rfl,hA⟩
 go_wp2_with fail
 refine (MX _ _ hA).mono ?_
 clear hA
 rintro e w ⟨rfl,hA⟩
 go_wp2_with fail
 refine (AX _ _ (by((repeat (with_reducible apply yd));(try assumption))) hA).mono ?_
 clear hA
 rintro e w ⟨rfl,hA⟩
 have hpf:=fin_of hA
 have HPF:=hid hpf
 clear hpf
 go_wp2_with fail
 refine (NX 9 _ _ _ (by((repeat (with_reducible apply yd));(try assumption))) hA).mono ?_
 clear hA
 rintro e w ⟨rfl,hA⟩
 have hmm:∀ q,yx (yx (yx (yV p) yC) (yM text)) (yL text 9)=.inr q→meas text q≤meas text p - 1:=fun q hq=>by
  obtain⟨qq,f1,f2⟩:=Xa hq
  obtain⟨m1,m2,m3⟩:=HBQ.out qq f1
  have:=(jK (HPF.out qq f1) (by decide) f2).1
  omega
 go_wp2_with fail
 refine (LX _ _ _ _ (by((repeat (with_reducible apply yd));(try assumption))) hmm hA).mono ?_
 clear hA
 rintro e w ⟨v1,rfl,r1,H1,hth1,hx1,hv1,htr1,hA⟩
 have hmm1:=xz (k:=11) (by decide) (fun t q e=>(htr1 t q e).2.2.1) (xL htr1 hth1 hmm)
 have HTH1:=hid hth1
 have HTR1:=hid htr1
 have HX1:=hid hx1
 have HM:=hid hmm
 clear hth1 htr1 hx1 hmm
 go_wp2_with fail
 refine (NX 11 _ _ _ (by((repeat (with_reducible apply yd));(try assumption))) hA).mono ?_
 clear hA
 rintro e w ⟨rfl,hA⟩
 go_wp2_with fail
 refine (LX _ _ _ _ (by((repeat (with_reducible apply yd));(try assumption))) hmm1 hA).mono ?_
 clear hA
 rintro e w ⟨v2,rfl,r2,H2,hth2,hx2,hv2,htr2,hA⟩
 have hmm2:=xz (k:=11) (by decide) (fun t q e=>(htr2 t q e).2.2.1) (xL htr2 hth2 hmm1)
 have HTH2:=hid hth2
 have HTR2:=hid htr2
 have HX2:=hid hx2
 clear hth2 htr2 hx2 hmm1
 go_wp2_with fail
 refine (NX 11 _ _ _ (by((repeat (with_reducible apply yd));(try assumption))) hA).mono ?_
 clear hA
 rintro e w ⟨rfl,hA⟩
 go_wp2_with fail
 refine (LX _ _ _ _ (by((repeat (with_reducible apply yd));(try assumption))) hmm2 hA).mono ?_
 clear hA
 rintro e w ⟨v3,rfl,r3,H3,hth3,hx3,hv3,htr3,hA⟩
 have HTH3:=hid hth3
 have HTR3:=hid htr3
 have HX3:=hid hx3
 clear hth3 htr3 hx3 hmm2
 go_wp2_with fail
 refine (NX 10 _ _ _ (by((repeat (with_reducible apply yd));(try assumption))) hA).mono ?_
 clear hA
 rintro e w ⟨rfl,hA⟩
 obtain⟨q1,q2⟩:=HRD.out r1 r2 r3 HTH1.out HTH2.out HTH3.out
 have hx:=HX1.out.trans (HX2.out.trans HX3.out)
 have hfx:=fun q0 c q1 q2 a q3 q4 b q5 q e1 e2 e3 e4 e5 e6 e7=>ite_facts (q:=q) (q0:=q0) (q1:=q1) (q2:=q2) (q3:=q3) (q4:=q4) (q5:=q5) (c:=c) (a:=a) (b:=b) hf hkn HTR1.out HTR2.out HTR3.out HPF.out e1 e2 e3 e4 e5 e6 e7
 cases hr:yx (rpR r3) (yL text 10) with
 | inl x =>
  have h1:=q1 x hr
  rw[hr] at hA
  obtain⟨k1,n1,tat1,te1,fin1,o1,nd1,d1,a1,c1,c2,c3,c4,hlk,hqq,hS⟩:=hA.cells
  have hd:(d1 != 0)=true:=by simpa using hlk.2.2
  have HLK:=hid hlk
  have HR:=hid h1
  have HXX:=hid hx
  clear hA hlk hqq q1 q2 hr h1 hx hfx
  go_wp2_with ((first|((with_reducible apply yh hS);exact ya;exact yb rfl;exact ye;rfl;decide +kernel)|((with_reducible apply yy hS);exact ya;exact yb rfl;exact yb rfl;exact ye;rfl;(focus (simp;done));exact Upd.hd;rfl;decide +kernel;clear hS;intro w hS;(try simp only[qS] at hS)));try simp only[qA])
  have hS2:=hS.sb (L:=blk B 51 [.string ⟨text.toArray⟩,.int .i64 k1,.int .i64 n1,.int .i64 tat1,.int .i64 te1,.int .i64 fin1,.int .i64 (o1 - 1),.int .i64 nd1,.int .i64 d1,.int .i64 a1]::fz H3::R) (by(repeat (with_reducible exact Sb.refl)))
  go_ret
  exact⟨_,rfl,.inl x,HR.out,uN (p:=p) (o':=o1 - 1) (.inl rfl) HXX.out HLK.out (by omega) (by omega) c3 c4 hS2⟩
 | inr q =>
  obtain⟨q0,c,qa,qb,a,qc,qd,b,qe,e1,e2,e3,e4,e5,e6,e7,h1⟩:=q2 q hr
  obtain⟨⟨k1c,i1⟩,⟨k2c,i2⟩,⟨k3c,i3⟩,g4,g5⟩:=hfx q0 c qa qb a qc qd b qe q e1 e2 e3 e4 e5 e6 e7
  rw[hr] at hA
  obtain⟨k1,n1,tat1,te1,fin1,o1,nd1,d1,a1,c1,c2,c3,c4,hlk,hqq,hS⟩:=hA.cells
  obtain⟨b1,b2⟩:=hqq q rfl
  have hlk0:=hlk
  obtain⟨_,rfl⟩:=hlk
  have hsz:q.nds≤65536:=b1.2.1
  have IM:=fun w R hS=>iteM c a b (by omega) (by omega) (by omega) v1 v2 v3 H3 (i1.ext (HX2.out.trans HX3.out)) (i2.ext HX3.out) i3 w0 w R hS
  have HLK:=hid hlk0
  have HR:=hid h1
  have HXX:=hid hx
  have HKC:=hid (And.intro k1c (And.intro k2c k3c))
  clear hA hlk0 hqq q1 q2 hr h1 hx hfx e1 e2 e3 e4 e5 e6 e7 i1 i2 i3 k1c k2c k3c
  have HB:=hid b2
  clear b2
  go_wp2_with ((first|((with_reducible apply yh hS);exact ya;exact yb rfl;exact ye;rfl;decide +kernel)|((with_reducible apply yy hS);exact ya;exact yb rfl;exact yb rfl;exact ye;rfl;(focus (simp;done));exact Upd.hd;rfl;decide +kernel;clear hS;intro w hS;(try simp only[qS] at hS))|(go_at_call 66;refine (IM _ (blk B 51 [.string ⟨text.toArray⟩,.int .i64 k1,.int .i64 n1,.int .i64 tat1,.int .i64 te1,.int .i64 fin1,.int .i64 (o1 - 1),.int .i64 nd1,.int .i64 0,.int .i64 a1]::R) (hS.sb (by(repeat (with_reducible first|exact Sb.refl|(refine Sb.take (by(repeat (first|exact Rem.hd|apply Rem.tl));done) ?_)))))).mono ?_;clear hS IM;rintro e w ⟨z,rfl,H4,hx4,hi4,hS⟩));try simp only[qA])
  have hS2:=hS.sb (L:=blk B 51 [.string ⟨text.toArray⟩,.int .i64 k1,.int .i64 n1,.int .i64 tat1,.int .i64 te1,.int .i64 fin1,.int .i64 (o1 - 1),.int .i64 nd1,.int .i64 0,.int .i64 a1]::fz H4::R) (by(repeat (with_reducible first|exact Sb.refl|(refine Sb.take (by(repeat (first|exact Rem.hd|apply Rem.tl));done) ?_))))
  go_ret
  exact⟨_,rfl,.inr (.ite c a b,{ q with opn:=q.opn - 1 }),HR.out,uO HLK.out 1 b1 HB.out g4 (by simp only[size];omega) ⟨HKC.out.1,HKC.out.2.1,HKC.out.2.2⟩ (HXX.out.trans hx4) hi4 hS2⟩
end
end Go.Proofs.YteopodbkhgcpmaaGreatDoor
