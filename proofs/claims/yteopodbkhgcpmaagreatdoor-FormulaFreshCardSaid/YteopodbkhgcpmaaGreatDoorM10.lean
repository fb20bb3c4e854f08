/- A part of the proof: Rd2 FzC Lv10 Rx4. -/
import Derived.Test.YteopodbkhgcpmaaGreatDoorM1
import Derived.Test.YteopodbkhgcpmaaGreatDoorM6
import Derived.Test.YteopodbkhgcpmaaGreatDoorM7
import Derived.Test.YteopodbkhgcpmaaGreatDoorM8
import Derived.Test.YteopodbkhgcpmaaGreatDoorM9
set_option linter.unusedSimpArgs false
set_option linter.unusedVariables false
set_option linter.unusedSectionVars false
namespace Go.Proofs.YteopodbkhgcpmaaGreatDoor
section
open Go Go.RowKit Go.SL Go.ClauseP Go.LexP

theorem pieceT_le (l:List UInt8):(Yj l).2≤l.length:=by
 unfold Yj
 split
 ·simp
 ·rename_i c cs
  split
  ·exact(List.takeWhile_sublist _).length_le
  ·split
   ·exact(List.takeWhile_sublist _).length_le
   ·split
    ·rename_i s hs
     have h:=List.find?_some hs
     exact(List.isPrefixOf_iff_prefix.1 h).length_le
    ·simp
theorem Uq (text:List UInt8) (k:Nat) (hk:k≤text.length):(yP text k).fin≤text.length:=by
 have h1:=Jb text k hk
 unfold yP
 split
 ·exact Nat.le_refl _
 ·dsimp only
  have h2:=pieceT_le (text.drop (Yf text k))
  rw[List.length_drop] at h2
  omega
theorem advL {text:List UInt8} {p:Ps} {e:Int × Nat} (h:yM text p=.inl e):∃ c,(yP text p.fin).tk=.bad c∧e=(c,(yP text p.fin).at_):=by
 unfold yM at h
 split at h
 ·rename_i c hc
  exact⟨c,hc,by injection h with h;exact h.symm⟩
 ·cases h
theorem UV {text:List UInt8} {p q:Ps} (h:yM text p=.inr q):KG q=yP text p.fin∧q.opn=p.opn∧q.nds=p.nds∧∀ e,q.tk≠.bad e:=by
 unfold yM at h
 split at h
 ·cases h
 ·rename_i hne
  injection h with h
  subst h
  exact⟨rfl,rfl,rfl,hne⟩
theorem jR {text:List UInt8} {p:Ps} {e:Int × Nat} (h:yM text p=.inl e) (m:MS) (w q:Int):MRun text m w q (yP text p.fin) (.inl e):=by
 obtain⟨c,hc,rfl⟩:=advL h
 exact .err (by rw[hc];rfl)
theorem jD {text:List UInt8} {p q:Ps} (hf:p.fin≤text.length) (ho:p.opn≤64) (hn:p.nds≤65536) (h:yM text p=.inr q):Ok text q:=by
 obtain⟨h1,h2,h3,h4⟩:=UV h
 have e1:q.tk=(yP text p.fin).tk:=congrArg TokR.tk h1
 have e2:q.fin=(yP text p.fin).fin:=congrArg TokR.fin h1
 refine ⟨?_,by omega,by omega,by rw[e2];exact Uq text p.fin hf,fun hk=>?_⟩
 ·rcases JB text p.fin with h|⟨e,h⟩
  ·rw[e1];exact h
  ·exact(h4 e (e1.trans h)).elim
 ·rw[e2]
  exact nextT_fin text p.fin hf (e1 ▸ hk)
theorem GN {t:Tk} (h:YL t):(yZ t).1=9↔t=.opn:=by cases t <;> simp[yZ,YL] at*<;> omega
theorem uL {t:Tk} (h:YL t):(yZ t).1=10↔t=.cls:=by cases t <;> simp[yZ,YL] at*<;> omega
theorem xy {t:Tk} (h:YL t):(yZ t).1=11↔t=.comma:=by cases t <;> simp[yZ,YL] at*<;> omega
theorem xx {t:Tk} (h:YL t):(yZ t).1=12↔t=.colon:=by cases t <;> simp[yZ,YL] at*<;> omega
theorem GL {t:Tk} (h:YL t):(yZ t).1=0↔t=.fin:=by cases t <;> simp[yZ,YL] at*<;> omega
theorem knd_op {t:Tk} (h:YL t) {b:Nat} (hb:b=1∨b=3∨b=4∨b=5):(yZ t).1=kOf b↔t=.op (oOf b):=by
 rcases hb with rfl|rfl|rfl|rfl <;> cases t <;> simp[yZ,YL,kOf,oOf] at*<;> omega
theorem GM {t:Tk} (h:YL t):(yZ t).1=7↔t=.op 9:=by cases t <;> simp[yZ,YL] at*<;> omega

/-! ### One step -/
theorem xS {text:List UInt8} {m m':MS} {w q w' q':Int} {p p':Ps} {r:Ans} (hs:yB m w q p.tk=.go m' w' q') (ht:KG p'=yP text p.fin) (h:MRun text m' w' q' (KG p') r):MRun text m w q (KG p) r :=
 .go hs (by rw[ht] at h;exact h)
theorem KI {text:List UInt8} {m:MS} {w q:Int} {p:Ps} {e:Int} (hs:yB m w q p.tk=.err e):MRun text m w q (KG p) (.inl (e,p.at_)):=.err (t:=KG p) hs
def jp (text:List UInt8) (m:MS) (w q:Int) (p:Ps) (m':Ps→MS) (w' q':Int) (dn:Nat) (dk:Nat):Rp→Prop
 | .inl e=>MRun text m w q (KG p) (.inl e)
 | .inr p'=>Ok text p'∧p'.opn=p.opn+dn∧p'.nds=p.nds+dk∧∀ r,MRun text (m' p') w' q' (KG p') r→MRun text m w q (KG p) r
theorem adv_step {text:List UInt8} {m m':MS} {w q w' q':Int} {p:Ps} (hp:Ok text p) (hs:yB m w q p.tk=.go m' w' q'):jp text m w q p (fun _=>m') w' q' 0 0 (yM text p):=by
 cases h:yM text p with
 | inl e=>exact .go hs (jR h _ _ _)
 | inr p' =>
  obtain⟨h1,h2,h3,_⟩:=UV h
  exact⟨jD hp.2.2.2.1 hp.2.1 hp.2.2.1 h,h2,h3,fun r hr=>xS hs h1 hr⟩
theorem ju {text:List UInt8} {m:MS} {w q w' q':Int} {p:Ps} {g:MS→MS} (hp:Ok text p) (hn:m.nds=p.nds) (hs:yB m w q p.tk=Yk m fun m=>.go (g m) w' q') :
  jp text m w q p (fun p'=>g ⟨m.st,m.out,m.opn,p'.nds⟩) w' q' 0 1 (yx (yC p) (yM text)):=by
 unfold yC
 by_cases h:p.nds=65536
 ·rw[if_pos h]
  refine KI ?_
  rw[hs,Yk,if_pos (by omega)]
 ·rw[if_neg h]
  have hs2:yB m w q p.tk=.go (g ⟨m.st,m.out,m.opn,m.nds+1⟩) w' q':=by rw[hs,Yk,if_neg (by have:=hp.2.2.1;omega)]
  show jp _ _ _ _ _ _ _ _ _ _ (yM text { p with nds:=p.nds+1 })
  cases ha:yM text { p with nds:=p.nds+1 } with
  | inl e=>exact .go hs2 (jR ha _ _ _)
  | inr p' =>
   obtain⟨h1,h2,h3,_⟩:=UV ha
   refine ⟨jD (p:={ p with nds:=p.nds+1 }) hp.2.2.2.1 hp.2.1 (by dsimp only;have:=hp.2.2.1;omega) ha,h2,h3,fun r hr=>xS hs2 h1 ?_⟩
   rw[hn,show p.nds+1=p'.nds from h3.symm]
   exact hr
theorem Jq {text:List UInt8} {m:MS} {w q w' q':Int} {p:Ps} {x:Wt} (hp:Ok text p) (hn:m.opn=p.opn) (hs:yB m w q p.tk=YE m x fun m=>.go m w' q') :
  jp text m w q p (fun p'=>⟨x::m.st,m.out,p'.opn,m.nds⟩) w' q' 1 0 (yx (yV p) (yM text)):=by
 unfold yV
 by_cases h:p.opn=64
 ·rw[if_pos h]
  refine KI ?_
  rw[hs,YE,if_pos (by omega)]
 ·rw[if_neg h]
  have hs2:yB m w q p.tk=.go ⟨x::m.st,m.out,m.opn+1,m.nds⟩ w' q':=by rw[hs,YE,if_neg (by have:=hp.2.1;omega)]
  show jp _ _ _ _ _ _ _ _ _ _ (yM text { p with opn:=p.opn+1 })
  cases ha:yM text { p with opn:=p.opn+1 } with
  | inl e=>exact .go hs2 (jR ha _ _ _)
  | inr p' =>
   obtain⟨h1,h2,h3,_⟩:=UV ha
   refine ⟨jD (p:={ p with opn:=p.opn+1 }) hp.2.2.2.1 (by dsimp only;have:=hp.2.1;omega) hp.2.2.1 ha,h2,h3,fun r hr=>xS hs2 h1 ?_⟩
   rw[hn,show p.opn+1=p'.opn from h2.symm]
   exact hr
theorem Ke {text:List UInt8} {m:MS} {w q w' q':Int} {p:Ps} {x:Wt} (hp:Ok text p) (hn:m.opn=p.opn) (hk:m.nds=p.nds) (hs:yB m w q p.tk=YE m x fun m=>Yk m fun m=>.go m w' q') :
  jp text m w q p (fun p'=>⟨x::m.st,m.out,p'.opn,p'.nds⟩) w' q' 1 1 (yx (yx (yV p) yC) (yM text)):=by
 unfold yV
 by_cases h:p.opn=64
 ·rw[if_pos h]
  refine KI ?_
  rw[hs,YE,if_pos (by omega)]
 ·rw[if_neg h]
  show jp _ _ _ _ _ _ _ _ _ _ (yx (yC { p with opn:=p.opn+1 }) (yM text))
  unfold yC
  by_cases h2:p.nds=65536
  ·rw[if_pos h2]
   refine KI ?_
   rw[hs,YE,if_neg (by have:=hp.2.1;omega),Yk,if_pos (by dsimp only;omega)]
  ·rw[if_neg h2]
   have hs2:yB m w q p.tk=.go ⟨x::m.st,m.out,m.opn+1,m.nds+1⟩ w' q':=by rw[hs,YE,if_neg (by have:=hp.2.1;omega),Yk,if_neg (by dsimp only;have:=hp.2.2.1;omega)]
   show jp _ _ _ _ _ _ _ _ _ _ (yM text { p with opn:=p.opn+1,nds:=p.nds+1 })
   cases ha:yM text { p with opn:=p.opn+1,nds:=p.nds+1 } with
   | inl e=>exact .go hs2 (jR ha _ _ _)
   | inr p' =>
    obtain⟨h1,h2,h3,_⟩:=UV ha
    refine ⟨jD (p:={ p with opn:=p.opn+1,nds:=p.nds+1 }) hp.2.2.2.1 (by dsimp only;have:=hp.2.1;omega) (by dsimp only;have:=hp.2.2.1;omega) ha,h2,h3,fun r hr=>xS hs2 h1 ?_⟩
    rw[hn,hk,show p.opn+1=p'.opn from h2.symm,show p.nds+1=p'.nds from h3.symm]
    exact hr
theorem jd {text:List UInt8} {m m':MS} {w q w' q':Int} {p:Ps} {k:Int} (hp:Ok text p) (hs:knd p=k→yB m w q p.tk=.go m' w' q') (hn:knd p≠k→yB m w q p.tk=.err 131):jp text m w q p (fun _=>m') w' q' 0 0 (yL text k p):=by
 unfold yL
 by_cases h:knd p=k
 ·rw[if_pos h];exact adv_step hp (hs h)
 ·rw[if_neg h];exact KI (hn h)

/-! ### What waits above a stop -/
def cn (l:List Wt):Nat:=(l.map opW).sum
def nd (l:List Wt):List (Int × Int):=l.flatMap ndW
theorem Uc (a b:List Wt):cn (a++b)=cn a+cn b:=by simp[cn]
theorem ub (a b:List Wt):nd (a++b)=nd a++nd b:=by simp[nd]
def Soft (w:Wt):Prop:=w=.not∨(∃ o n,w=.quant o n)∨∃ o,w=.op o
theorem YS:∀ (pend S:List Wt) (o:List (Int × Int)) (k:Nat),(∀ w∈pend,Soft w)→yQ (pend++S) o (k+cn pend)=yQ S (o++nd pend) k
 | [],S,o,k,_=>by simp[cn,nd]
 | w::pend,S,o,k,h=>by
  have ih:=YS pend S (o++ndW w) k (fun x hx=>h x (.tail _ hx))
  have e:k+cn (w::pend) - opW w=k+cn pend:=by simp[cn];omega
  rcases h w (.head _) with rfl|⟨a,b,rfl⟩|⟨a,rfl⟩
  all_goals
   simp only[List.cons_append,yQ,e,ih,nd,List.flatMap_cons,List.append_assoc]
theorem jY (op:Int) (b:Nat) (hb:YB op≤b):∀ (pend S:List Wt) (o:List (Int × Int)) (k:Nat),(∀ w∈pend,w=.not∨∃ o',w=.op o'∧b≤YB o'∧(op=9→YB o'≠YB op))→Yr op (pend++S) o (k+cn pend)=Yr op S (o++nd pend) k
 | [],S,o,k,_=>by simp[cn,nd]
 | w::pend,S,o,k,h=>by
  have ih:=jY op b hb pend S (o++ndW w) k (fun x hx=>h x (.tail _ hx))
  have e:k+cn (w::pend) - opW w=k+cn pend:=by simp[cn];omega
  rcases h w (.head _) with rfl|⟨a,rfl,h1,h2⟩
  ·simp only[ndW,opW] at ih e
   simp only[List.cons_append,Yr,e,ih,nd,List.flatMap_cons,List.append_assoc,ndW]
  ·simp only[ndW,opW,Nat.sub_zero] at ih e
   rw[List.cons_append,Yr]
   rw[if_neg (by rintro (h3|⟨h3,h4⟩);omega;exact h2 h4 h3),e,ih]
   simp[nd,ndW]
def Stops (b:Nat):List Wt→Prop
 | .not::_=>6≤b
 | .op o::_=>YB o < b
 | _=>True
theorem Kq (o:Int):1≤YB o∧YB o≤5:=by unfold YB;(repeat' split) <;> (omega)
theorem stops6 (S:List Wt):Stops 6 S:=by
 unfold Stops
 split
 ·exact Nat.le_refl _
 ·rename_i o _;have:=Kq o;omega
 ·trivial
theorem Stops.up {b:Nat} {S:List Wt} (h:Stops b S) (hb:b < 6):Stops (b+1) S:=by
 unfold Stops at *
 split at h
 ·omega
 ·omega
 ·trivial
theorem xE {op:Int} {S:List Wt} (h:Stops (YB op) S) (o:List (Int × Int)) (k:Nat):Yr op S o k=(S,o,k):=by
 have:=Kq op
 cases S with
 | nil=>rfl
 | cons w S =>
  unfold Stops at h
  cases w with
  | not=>dsimp only at h;omega
  | op x=>dsimp only at h;simp only[Yr];rw[if_pos (.inl h)]
  | _=>rfl
def Good (b:Nat) (tk:Tk) (pend:List Wt):Prop:=(∀ w∈pend,Soft w)∧∀ k,tk=.op k→YB k < b∧∀ w∈pend,w=.not∨∃ o,w=.op o∧b≤YB o
def Good' (b:Nat) (tk:Tk) (pend:List Wt):Prop:=(∀ w∈pend,Soft w)∧∀ k,tk=.op k→YB k < b+1∧∀ w∈pend,w=.not∨∃ o,w=.op o∧b≤YB o
theorem Good.weak {b:Nat} {tk:Tk} {pend:List Wt} (h:Good (b+1) tk pend):Good' b tk pend :=
 ⟨h.1,fun k hk=>⟨(h.2 k hk).1,fun w hw=>(h.2 k hk).2 w hw |>.imp id fun⟨o,e,h2⟩=>⟨o,e,by omega⟩⟩⟩
end
end Go.Proofs.YteopodbkhgcpmaaGreatDoor
namespace Go.SL
section
open Go Go.RowKit
theorem fzC {H:Hp} {b off:Nat} {v:Value} (hv:celH H b off=some v) {w0 w:World} {Hs:List HP} (hS:Sat w0 w Hs) (hm:fz H∈Hs):w.cell? ⟨b,off,none⟩=some v:=hS.fzCell hm hv
end
end Go.SL
namespace Go.Proofs.YteopodbkhgcpmaaGreatDoor
section
set_option maxRecDepth 20000
open Go Go.RowKit Go.SL
-- ACT2

theorem YJ:∀ (a b:List (Int × Int)),Fs (a++b)=Fs a++Fs b
 | [],b=>rfl
 | x::a,b=>by simp[Fs,YJ a b]
def LsM (t:T):Prop:=∀ (ad:Option Addr) (n cap:Nat) (fs:List (Int × Int)) (v:Value) (H:Hp) (w0 w:World) (R:List HP),Sat w0 w (own 44 2 ad n cap (Fs fs)::R)→fz H∈R→InT H t v→n+size t≤1000000 →
 Calls Tryz.prog 18 #[.slice ad n cap,v] w fun e w'=>∃ ad' cap',e=.returned (.slice ad' (n+size t) cap')∧Sat w0 w' (own 44 2 ad' (n+size t) cap' (Fs (fs++post t))::R)
theorem listC0 (c:Int):LsM (.cst c):=by
 rintro ad n cap fs v H w0 w R hS hm ⟨b,rfl,hb⟩ hsz
 simp only[size] at hsz
 have c2:celH H b 2=some (.int .i64 c):=by simp[celH,hb]
 clear hb
 go_enter Tryz.func18,Tryz.ntmps18
 go_wp2_with ((first|((with_reducible apply Ye);exact ya;exact yb rfl;(with_reducible exact Tryz.underlying104))|((with_reducible apply YO hS);exact ya;exact yb rfl;assumption;(((repeat (with_reducible apply yd)));(try assumption));decide +kernel)|((with_reducible apply yA hS);exact ya;exact E23;exact yb rfl;exact yw;rfl;decide;clear hS;intro NB w hS)|((with_reducible apply yD hS);exact ya;exact yb rfl;exact yb rfl;exact E23;(repeat (with_reducible first|exact Rem.hd|apply Rem.tl));(repeat (with_reducible apply Rem.tl));rfl;rfl;(omega);(omega);clear hS;intro AD CAP w hS;(try simp only[Nat.zero_add,List.nil_append] at hS)));try simp only[qA])
 go_ret
 refine ⟨AD,CAP,rfl,?_⟩
 rw[YJ]
 exact hS
theorem listV0 (c:Int):LsM (.var c):=by
 rintro ad n cap fs v H w0 w R hS hm ⟨b,rfl,hb⟩ hsz
 simp only[size] at hsz
 have c2:celH H b 2=some (.int .i64 c):=by simp[celH,hb]
 clear hb
 go_enter Tryz.func18,Tryz.ntmps18
 go_wp2_with ((first|((with_reducible apply Ye);exact ya;exact yb rfl;(with_reducible exact Tryz.underlying109))|((with_reducible apply Yh);exact ya;exact yb rfl;(decide);exact Tryz.underlying104;kernel_rfl)|((with_reducible apply YO hS);exact ya;exact yb rfl;assumption;(((repeat (with_reducible apply yd)));(try assumption));decide +kernel)|((with_reducible apply yA hS);exact ya;exact E23;exact yb rfl;exact yw;rfl;decide;clear hS;intro NB w hS)|((with_reducible apply yD hS);exact ya;exact yb rfl;exact yb rfl;exact E23;(repeat (with_reducible first|exact Rem.hd|apply Rem.tl));(repeat (with_reducible apply Rem.tl));rfl;rfl;(omega);(omega);clear hS;intro AD CAP w hS;(try simp only[Nat.zero_add,List.nil_append] at hS)));try simp only[qA])
 go_ret
 refine ⟨AD,CAP,rfl,?_⟩
 rw[YJ]
 exact hS
theorem listN (a:T) (ih:LsM a):LsM (.neg a):=by
 rintro ad n cap fs v H w0 w R hS hm ⟨va,hva,b,rfl,hb⟩ hsz
 simp only[size] at hsz
 have c2:celH H b 2=some va:=by simp[celH,hb]
 have IH:=fun w R hS hm=>ih ad n cap fs va H w0 w R hS hm hva (by omega)
 clear hb ih
 go_enter Tryz.func18,Tryz.ntmps18
 go_wp2_with ((first|((with_reducible apply Ye);exact ya;exact yb rfl;(with_reducible exact Tryz.underlying112))|((with_reducible apply Yh);exact ya;exact yb rfl;(decide);(with_reducible first|exact Tryz.underlying104|exact Tryz.underlying109);kernel_rfl)|((with_reducible apply YO hS);exact ya;exact yb rfl;assumption;(((repeat (with_reducible apply yd)));(try assumption));decide +kernel)|((with_reducible apply yA hS);exact ya;exact E23;exact yb rfl;exact yw;rfl;decide;clear hS;intro NB w hS)|((with_reducible apply yD hS);exact ya;exact yb rfl;exact yb rfl;exact E23;(repeat (with_reducible first|exact Rem.hd|apply Rem.tl));(repeat (with_reducible apply Rem.tl));rfl;rfl;(omega);(omega);clear hS;intro AD CAP w hS;(try simp only[Nat.zero_add,List.nil_append] at hS))|(go_at_call 18;refine (IH _ _ (hS.front (by(exact Rem.hd))) (by((repeat (with_reducible apply yd));(try assumption)))).mono ?_;clear hS IH;rintro e w ⟨ad1,cap1,rfl,hS⟩));try simp only[qA])
 go_ret
 refine ⟨AD,CAP,rfl,?_⟩
 rw[show fs++post (.neg a)=fs++post a++[(3,0)] by simp[post],YJ]
 exact hS
set_option maxHeartbeats 2000000 in
theorem listQ (op x:Int) (a:T) (ih:LsM a):LsM (.qu op x a):=by
 rintro ad n cap fs v H w0 w R hS hm ⟨va,hva,b,rfl,hb⟩ hsz
 simp only[size] at hsz
 have c1:celH H b 2=some (.int .i64 op):=by simp[celH,hb]
 have c2:celH H b 3=some (.int .i64 x):=by simp[celH,hb]
 have c3:celH H b 4=some va:=by simp[celH,hb]
 have IH:=fun w R hS hm=>ih ad n cap fs va H w0 w R hS hm hva (by omega)
 clear hb ih
 go_enter Tryz.func18,Tryz.ntmps18
 go_wp2_with ((first|((with_reducible apply Cont.intro);(focus (apply Or.inr;apply (Sat.sb hS);(repeat (with_reducible first|exact Sb.refl|apply Sb.skip));done));intro hR hC)|((first|((with_reducible apply dP 0 hC hR);(simp only[qL];rfl);decide +kernel;exact iQ;exact ya)|((with_reducible apply dP 1 hC hR);(simp only[qL];rfl);decide +kernel;exact iQ;exact ya)|((with_reducible apply dP 2 hC hR);(simp only[qL];rfl);decide +kernel;exact iQ;exact ya)|((with_reducible apply dP 6 hC hR);(simp only[qL];rfl);decide +kernel;exact iQ;exact ya)|((with_reducible apply dP 7 hC hR);(simp only[qL];rfl);decide +kernel;exact iQ;exact ya)|((with_reducible apply dP 10 hC hR);(simp only[qL];rfl);decide +kernel;exact iQ;exact ya)|((with_reducible apply dP 11 hC hR);(simp only[qL];rfl);decide +kernel;exact iQ;exact ya)|((with_reducible apply dP 14 hC hR);(simp only[qL];rfl);decide +kernel;exact iQ;exact ya)|((with_reducible apply dP 17 hC hR);(simp only[qL];rfl);decide +kernel;exact iQ;exact ya));(intro w;first|(go_simp;done)|(go_simp;rw[yo (by omega) (by omega)])|(go_simp;with_reducible rfl)|(go_simp;rfl));(clear hR hC;intro hR hC))|((first|((with_reducible apply dP 3 hC hR);(simp only[qL];rfl);decide +kernel;exact iQ;exact ya)|((with_reducible apply dP 8 hC hR);(simp only[qL];rfl);decide +kernel;exact iQ;exact ya)|((with_reducible apply dP 12 hC hR);(simp only[qL];rfl);decide +kernel;exact iQ;exact ya));(intro w;first|(exact yz rfl (by(exact yg)) (by assumption) (by with_reducible exact fo44_0))|(go_simp;done)|(go_simp;rw[yo (by omega) (by omega)])|(go_simp;with_reducible rfl)|(go_simp;rfl));(clear hR hC;intro hR hC))|((first|((with_reducible apply dR 4 hC hR);(simp only[qL];rfl);decide +kernel;exact iQ;exact ya)|((with_reducible apply dR 9 hC hR);(simp only[qL];rfl);decide +kernel;exact iQ;exact ya)|((with_reducible apply dR 13 hC hR);(simp only[qL];rfl);decide +kernel;exact iQ;exact ya));(intro w hS;(apply yj rfl (by(exact yb rfl)));first|exact yc (by decide +kernel) (hS.cell (by(repeat (with_reducible apply yd))) rfl)|exact yc (by decide +kernel) ((hS.ownCell (by(repeat (with_reducible apply yd))) (by(rfl))).1)|exact yc (by decide +kernel) (Sat.rdCell2 (by assumption) hS (by((repeat (with_reducible apply yd)));try assumption) (by(rfl)))|exact yc (by decide +kernel) (hS.baseCell (by((repeat (with_reducible apply yd)));try assumption) (by assumption))|exact yc (by decide +kernel) (fzC (by assumption) hS (by((repeat (with_reducible apply yd)));try assumption))|exact yl hS (by assumption) (by((repeat (with_reducible apply yd)));try assumption) (by assumption) (by rfl) (by with_reducible exact sz44) (by decide +kernel) (by decide)|exact hS.loadWhole (by(repeat (with_reducible apply yd))) (by kernel_rfl) (by kernel_rfl));(clear hR hC;intro hR hC))|((with_reducible apply yq (i:=5));(simp only[qL];rfl);decide +kernel;exact hC;clear hR hC)|((with_reducible apply yq (i:=15));(simp only[qL];rfl);decide +kernel;exact hC;clear hR hC)|((with_reducible apply yq (i:=16));(simp only[qL];rfl);decide +kernel;exact hC;clear hR hC)|((with_reducible apply Ks (i:=5) (i2:=15));(simp only[q4,q6,q5];with_reducible rfl);(simp only[q4,q6,q5];with_reducible rfl);decide +kernel;exact hC;(all_goals (clear hR hC)))|((with_reducible apply ym);decide +kernel;clear hR hC)|(refine KB (own 44 2 ad n cap (Fs fs)) 13 18 hS (by(repeat (with_reducible first|exact Rem.hd|apply Rem.tl));done) (by kernel_rfl) [] rfl ?_;clear hS;intro w hS hR hC)|((with_reducible apply Ye);exact ya;exact yb rfl;(with_reducible exact Tryz.underlying115))|((with_reducible apply Yh);exact ya;exact yb rfl;(decide);(with_reducible first|exact Tryz.underlying104|exact Tryz.underlying109|exact Tryz.underlying112);kernel_rfl)|((with_reducible apply yA hS);exact ya;exact E23;exact yb rfl;exact yw;rfl;decide;clear hS;intro NB w hS)|((with_reducible apply yD hS);exact ya;exact yb rfl;exact yb rfl;exact E23;(repeat (with_reducible first|exact Rem.hd|apply Rem.tl));(repeat (with_reducible apply Rem.tl));rfl;rfl;(omega);(omega);clear hS;intro AD CAP w hS;(try simp only[Nat.zero_add,List.nil_append] at hS))|(go_at_call 18;refine (IH _ _ (hS.front (by(repeat (with_reducible first|exact Rem.hd|apply Rem.tl)))) (by((repeat (with_reducible apply yd));(try assumption)))).mono ?_;clear hS IH;rintro e w ⟨ad1,cap1,rfl,hS⟩));try simp only[qA])
 all_goals
  go_ret
  refine ⟨_,_,rfl,?_⟩
  rw[show fs++post (.qu op x a)=fs++post a++[(op,x)] by simp[post],YJ]
  exact hS
set_option maxHeartbeats 4000000 in
theorem listB (op:Int) (x y:T) (ih1:LsM x) (ih2:LsM y):LsM (.bin op x y):=by
 rintro ad n cap fs v H w0 w R hS hm ⟨va,vb,hva,hvb,b,rfl,hb⟩ hsz
 simp only[size] at hsz
 have c1:celH H b 2=some (.int .i64 op):=by simp[celH,hb]
 have c2:celH H b 3=some va:=by simp[celH,hb]
 have c3:celH H b 4=some vb:=by simp[celH,hb]
 have I1:=fun w R hS hm=>ih1 ad n cap fs va H w0 w R hS hm hva (by omega)
 have I2:=fun ad1 cap1 w R hS hm=>ih2 ad1 (n+size x) cap1 (fs++post x) vb H w0 w R hS hm hvb (by omega)
 clear hb ih1 ih2
 go_enter Tryz.func18,Tryz.ntmps18
 go_wp2_with ((first|((with_reducible apply Cont.intro);(focus (apply Or.inr;apply (Sat.sb hS);(repeat (with_reducible first|exact Sb.refl|apply Sb.skip));done));intro hR hC)|((first|((with_reducible apply dP 0 hC hR);(simp only[qL];rfl);decide +kernel;exact iQ;exact ya)|((with_reducible apply dP 1 hC hR);(simp only[qL];rfl);decide +kernel;exact iQ;exact ya)|((with_reducible apply dP 2 hC hR);(simp only[qL];rfl);decide +kernel;exact iQ;exact ya)|((with_reducible apply dP 6 hC hR);(simp only[qL];rfl);decide +kernel;exact iQ;exact ya)|((with_reducible apply dP 7 hC hR);(simp only[qL];rfl);decide +kernel;exact iQ;exact ya)|((with_reducible apply dP 11 hC hR);(simp only[qL];rfl);decide +kernel;exact iQ;exact ya)|((with_reducible apply dP 12 hC hR);(simp only[qL];rfl);decide +kernel;exact iQ;exact ya)|((with_reducible apply dP 15 hC hR);(simp only[qL];rfl);decide +kernel;exact iQ;exact ya)|((with_reducible apply dP 18 hC hR);(simp only[qL];rfl);decide +kernel;exact iQ;exact ya));(intro w;first|(go_simp;done)|(go_simp;rw[yo (by omega) (by omega)])|(go_simp;with_reducible rfl)|(go_simp;rfl));(clear hR hC;intro hR hC))|((first|((with_reducible apply dP 3 hC hR);(simp only[qL];rfl);decide +kernel;exact iQ;exact ya)|((with_reducible apply dP 8 hC hR);(simp only[qL];rfl);decide +kernel;exact iQ;exact ya)|((with_reducible apply dP 13 hC hR);(simp only[qL];rfl);decide +kernel;exact iQ;exact ya));(intro w;first|(exact yz rfl (by(exact yg)) (by assumption) (by with_reducible exact fo44_0))|(go_simp;done)|(go_simp;rw[yo (by omega) (by omega)])|(go_simp;with_reducible rfl)|(go_simp;rfl));(clear hR hC;intro hR hC))|((first|((with_reducible apply dR 4 hC hR);(simp only[qL];rfl);decide +kernel;exact iQ;exact ya)|((with_reducible apply dR 9 hC hR);(simp only[qL];rfl);decide +kernel;exact iQ;exact ya)|((with_reducible apply dR 14 hC hR);(simp only[qL];rfl);decide +kernel;exact iQ;exact ya));(intro w hS;(apply yj rfl (by(exact yb rfl)));first|exact yc (by decide +kernel) (hS.cell (by(repeat (with_reducible apply yd))) rfl)|exact yc (by decide +kernel) ((hS.ownCell (by(repeat (with_reducible apply yd))) (by(rfl))).1)|exact yc (by decide +kernel) (Sat.rdCell2 (by assumption) hS (by((repeat (with_reducible apply yd)));try assumption) (by(rfl)))|exact yc (by decide +kernel) (hS.baseCell (by((repeat (with_reducible apply yd)));try assumption) (by assumption))|exact yc (by decide +kernel) (fzC (by assumption) hS (by((repeat (with_reducible apply yd)));try assumption))|exact yl hS (by assumption) (by((repeat (with_reducible apply yd)));try assumption) (by assumption) (by rfl) (by with_reducible exact sz44) (by decide +kernel) (by decide)|exact hS.loadWhole (by(repeat (with_reducible apply yd))) (by kernel_rfl) (by kernel_rfl));(clear hR hC;intro hR hC))|((with_reducible apply yq (i:=5));(simp only[qL];rfl);decide +kernel;exact hC;clear hR hC)|((with_reducible apply yq (i:=10));(simp only[qL];rfl);decide +kernel;exact hC;clear hR hC)|((with_reducible apply yq (i:=16));(simp only[qL];rfl);decide +kernel;exact hC;clear hR hC)|((with_reducible apply yq (i:=17));(simp only[qL];rfl);decide +kernel;exact hC;clear hR hC)|((with_reducible apply Ks (i:=5) (i2:=16));(simp only[q4,q6,q5];with_reducible rfl);(simp only[q4,q6,q5];with_reducible rfl);decide +kernel;exact hC;(all_goals (clear hR hC)))|((with_reducible apply Ks (i:=10) (i2:=16));(simp only[q4,q6,q5];with_reducible rfl);(simp only[q4,q6,q5];with_reducible rfl);decide +kernel;exact hC;(all_goals (clear hR hC)))|((with_reducible apply ym);decide +kernel;clear hR hC)|(refine KB (own 44 2 ad n cap (Fs fs)) 16 19 hS (by(repeat (with_reducible first|exact Rem.hd|apply Rem.tl));done) (by kernel_rfl) [] rfl ?_;clear hS;intro w hS hR hC)|((with_reducible apply Ye);exact ya;exact yb rfl;(with_reducible exact Tryz.underlying118))|((with_reducible apply Yh);exact ya;exact yb rfl;(decide);(with_reducible first|exact Tryz.underlying104|exact Tryz.underlying109|exact Tryz.underlying112|exact Tryz.underlying115);kernel_rfl)|((with_reducible apply yA hS);exact ya;exact E23;exact yb rfl;exact yw;rfl;decide;clear hS;intro NB w hS)|((with_reducible apply yD hS);exact ya;exact yb rfl;exact yb rfl;exact E23;(repeat (with_reducible first|exact Rem.hd|apply Rem.tl));(repeat (with_reducible apply Rem.tl));rfl;rfl;(omega);(omega);clear hS;intro AD CAP w hS;(try simp only[Nat.zero_add,List.nil_append] at hS))|((go_at_call 18);(first|(refine (I1 _ _ (hS.front (by(repeat (with_reducible first|exact Rem.hd|apply Rem.tl)))) (by((repeat (with_reducible apply yd));(try assumption)))).mono ?_;clear hS I1;rintro e w ⟨ad1,cap1,rfl,hS⟩)|(refine (I2 _ _ _ _ (hS.front (by(repeat (with_reducible first|exact Rem.hd|apply Rem.tl)))) (by((repeat (with_reducible apply yd));(try assumption)))).mono ?_;clear hS I2;rintro e w ⟨ad2,cap2,rfl,hS⟩))));try simp only[qA])
 all_goals
  go_ret
  have e:n+size x+size y+1=n+size (.bin op x y):=by simp only[size];omega
  rw[← e]
  refine ⟨_,_,rfl,?_⟩
  rw[show fs++post (.bin op x y)=fs++post x++post y++[(op,0)] by simp[post],YJ]
  exact hS
set_option maxHeartbeats 4000000 in
theorem listI (x y z:T) (ih1:LsM x) (ih2:LsM y) (ih3:LsM z):LsM (.ite x y z):=by
 rintro ad n cap fs v H w0 w R hS hm ⟨va,vb,vc,hva,hvb,hvc,b,rfl,hb⟩ hsz
 simp only[size] at hsz
 have c1:celH H b 2=some va:=by simp[celH,hb]
 have c2:celH H b 3=some vb:=by simp[celH,hb]
 have c3:celH H b 4=some vc:=by simp[celH,hb]
 have I1:=fun w R hS hm=>ih1 ad n cap fs va H w0 w R hS hm hva (by omega)
 have I2:=fun ad1 cap1 w R hS hm=>ih2 ad1 (n+size x) cap1 (fs++post x) vb H w0 w R hS hm hvb (by omega)
 have I3:=fun ad1 cap1 w R hS hm=>ih3 ad1 (n+size x+size y) cap1 (fs++post x++post y) vc H w0 w R hS hm hvc (by omega)
 clear hb ih1 ih2 ih3
 go_enter Tryz.func18,Tryz.ntmps18
 go_wp2_with ((first|((with_reducible apply Cont.intro);(focus (apply Or.inr;apply (Sat.sb hS);(repeat (with_reducible first|exact Sb.refl|apply Sb.skip));done));intro hR hC)|((first|((with_reducible apply dP 0 hC hR);(simp only[qL];rfl);decide +kernel;exact iQ;exact ya)|((with_reducible apply dP 1 hC hR);(simp only[qL];rfl);decide +kernel;exact iQ;exact ya)|((with_reducible apply dP 2 hC hR);(simp only[qL];rfl);decide +kernel;exact iQ;exact ya)|((with_reducible apply dP 6 hC hR);(simp only[qL];rfl);decide +kernel;exact iQ;exact ya)|((with_reducible apply dP 7 hC hR);(simp only[qL];rfl);decide +kernel;exact iQ;exact ya)|((with_reducible apply dP 11 hC hR);(simp only[qL];rfl);decide +kernel;exact iQ;exact ya)|((with_reducible apply dP 12 hC hR);(simp only[qL];rfl);decide +kernel;exact iQ;exact ya)|((with_reducible apply dP 16 hC hR);(simp only[qL];rfl);decide +kernel;exact iQ;exact ya)|((with_reducible apply dP 19 hC hR);(simp only[qL];rfl);decide +kernel;exact iQ;exact ya));(intro w;first|(go_simp;done)|(go_simp;rw[yo (by omega) (by omega)])|(go_simp;with_reducible rfl)|(go_simp;rfl));(clear hR hC;intro hR hC))|((first|((with_reducible apply dP 3 hC hR);(simp only[qL];rfl);decide +kernel;exact iQ;exact ya)|((with_reducible apply dP 8 hC hR);(simp only[qL];rfl);decide +kernel;exact iQ;exact ya)|((with_reducible apply dP 13 hC hR);(simp only[qL];rfl);decide +kernel;exact iQ;exact ya));(intro w;first|(exact yz rfl (by(exact yg)) (by assumption) (by with_reducible exact fo44_0))|(go_simp;done)|(go_simp;rw[yo (by omega) (by omega)])|(go_simp;with_reducible rfl)|(go_simp;rfl));(clear hR hC;intro hR hC))|((first|((with_reducible apply dR 4 hC hR);(simp only[qL];rfl);decide +kernel;exact iQ;exact ya)|((with_reducible apply dR 9 hC hR);(simp only[qL];rfl);decide +kernel;exact iQ;exact ya)|((with_reducible apply dR 14 hC hR);(simp only[qL];rfl);decide +kernel;exact iQ;exact ya));(intro w hS;(apply yj rfl (by(exact yb rfl)));first|exact yc (by decide +kernel) (hS.cell (by(repeat (with_reducible apply yd))) rfl)|exact yc (by decide +kernel) ((hS.ownCell (by(repeat (with_reducible apply yd))) (by(rfl))).1)|exact yc (by decide +kernel) (Sat.rdCell2 (by assumption) hS (by((repeat (with_reducible apply yd)));try assumption) (by(rfl)))|exact yc (by decide +kernel) (hS.baseCell (by((repeat (with_reducible apply yd)));try assumption) (by assumption))|exact yc (by decide +kernel) (fzC (by assumption) hS (by((repeat (with_reducible apply yd)));try assumption))|exact yl hS (by assumption) (by((repeat (with_reducible apply yd)));try assumption) (by assumption) (by rfl) (by with_reducible exact sz44) (by decide +kernel) (by decide)|exact hS.loadWhole (by(repeat (with_reducible apply yd))) (by kernel_rfl) (by kernel_rfl));(clear hR hC;intro hR hC))|((with_reducible apply yq (i:=5));(simp only[qL];rfl);decide +kernel;exact hC;clear hR hC)|((with_reducible apply yq (i:=10));(simp only[qL];rfl);decide +kernel;exact hC;clear hR hC)|((with_reducible apply yq (i:=15));(simp only[qL];rfl);decide +kernel;exact hC;clear hR hC)|((with_reducible apply yq (i:=17));(simp only[qL];rfl);decide +kernel;exact hC;clear hR hC)|((with_reducible apply yq (i:=18));(simp only[qL];rfl);decide +kernel;exact hC;clear hR hC)|((with_reducible apply Ks (i:=5) (i2:=17));(simp only[q4,q6,q5];with_reducible rfl);(simp only[q4,q6,q5];with_reducible rfl);decide +kernel;exact hC;(all_goals (clear hR hC)))|((with_reducible apply Ks (i:=10) (i2:=17));(simp only[q4,q6,q5];with_reducible rfl);(simp only[q4,q6,q5];with_reducible rfl);decide +kernel;exact hC;(all_goals (clear hR hC)))|((with_reducible apply Ks (i:=15) (i2:=17));(simp only[q4,q6,q5];with_reducible rfl);(simp only[q4,q6,q5];with_reducible rfl);decide +kernel;exact hC;(all_goals (clear hR hC)))|((with_reducible apply ym);decide +kernel;clear hR hC)|(refine KB (own 44 2 ad n cap (Fs fs)) 19 20 hS (by(repeat (with_reducible first|exact Rem.hd|apply Rem.tl));done) (by kernel_rfl) [] rfl ?_;clear hS;intro w hS hR hC)|((with_reducible apply Ye);exact ya;exact yb rfl;(with_reducible exact Tryz.underlying121))|((with_reducible apply Yh);exact ya;exact yb rfl;(decide);(with_reducible first|exact Tryz.underlying104|exact Tryz.underlying109|exact Tryz.underlying112|exact Tryz.underlying115|exact Tryz.underlying118);kernel_rfl)|((with_reducible apply yA hS);exact ya;exact E23;exact yb rfl;exact yw;rfl;decide;clear hS;intro NB w hS)|((with_reducible apply yD hS);exact ya;exact yb rfl;exact yb rfl;exact E23;(repeat (with_reducible first|exact Rem.hd|apply Rem.tl));(repeat (with_reducible apply Rem.tl));rfl;rfl;(omega);(omega);clear hS;intro AD CAP w hS;(try simp only[Nat.zero_add,List.nil_append] at hS))|((go_at_call 18);(first|(refine (I1 _ _ (hS.front (by(repeat (with_reducible first|exact Rem.hd|apply Rem.tl)))) (by((repeat (with_reducible apply yd));(try assumption)))).mono ?_;clear hS I1;rintro e w ⟨ad1,cap1,rfl,hS⟩)|(refine (I2 _ _ _ _ (hS.front (by(repeat (with_reducible first|exact Rem.hd|apply Rem.tl)))) (by((repeat (with_reducible apply yd));(try assumption)))).mono ?_;clear hS I2;rintro e w ⟨ad2,cap2,rfl,hS⟩)|(refine (I3 _ _ _ _ (hS.front (by(repeat (with_reducible first|exact Rem.hd|apply Rem.tl)))) (by((repeat (with_reducible apply yd));(try assumption)))).mono ?_;clear hS I3;rintro e w ⟨ad3,cap3,rfl,hS⟩))));try simp only[qA])
 all_goals
  go_ret
  have e:n+size x+size y+size z+1=n+size (.ite x y z):=by simp only[size];omega
  rw[← e]
  refine ⟨_,_,rfl,?_⟩
  rw[show fs++post (.ite x y z)=fs++post x++post y++post z++[(11,0)] by simp[post],YJ]
  exact hS
theorem uz:∀ t:T,LsM t
 | .cst c=>listC0 c
 | .var c=>listV0 c
 | .neg a=>listN a (uz a)
 | .qu op x a=>listQ op x a (uz a)
 | .bin op x y=>listB op x y (uz x) (uz y)
 | .ite x y z=>listI x y z (uz x) (uz y) (uz z)
end
section
set_option maxRecDepth 20000
open Go Go.RowKit Go.SL Go.ClauseP Go.LexP
-- ACT2

def MSt (w0 w:World) (R:List HP) (B:Nat) (m:MS):Prop:=∃ (ad1:Option Addr) (c1:Nat) (ad2:Option Addr) (c2:Nat),
 Sat w0 w (blk B 70 [.slice ad1 m.st.length c1,.slice ad2 m.out.length c2,.int .i64 m.opn,.int .i64 m.nds]::own 78 3 ad1 m.st.length c1 (stC m.st)::own 44 2 ad2 m.out.length c2 (Fs m.out)::R)
def MOk (m:MS):Prop:=m.opn=(m.st.map opW).sum∧m.st.length≤200000∧m.out.length+m.st.length≤400000∧m.opn≤64∧m.nds≤65536
def kd:List Wt→Int
 | []=>0
 | w::_=>(wtN w).1
def stM (B:Nat) (w:World):Nat:=match w.cell? ⟨B,0,none⟩ with
 | some (.slice _ n _)=>n
 | _=>0
theorem MSt.meas {w0 w:World} {R:List HP} {B:Nat} {m:MS} (h:MSt w0 w R B m):stM B w=m.st.length:=by
 obtain⟨ad1,c1,ad2,c2,hS⟩:=h
 have h0:=hS.cell ye (off:=0) (v:=.slice ad1 m.st.length c1) rfl
 unfold stM
 rw[h0]
theorem topM (B:Nat) (m:MS) (hm:m.st.length≤200000) (w0 w:World) (R:List HP) (h:MSt w0 w R B m) :
  Calls Tryz.prog 31 #[.pointer (some ⟨B,0,none⟩)] w fun e w'=>e=.returned (.int .i64 (kd m.st))∧MSt w0 w' R B m:=by
 obtain⟨ad1,c1,ad2,c2,hS⟩:=h
 obtain⟨st,out,opn,nds⟩:=m
 cases st with
 | nil =>
  refine (top0 B ad1 c1 _ opn nds w0 w _ hS).mono ?_
  rintro e w' ⟨rfl,hS⟩
  exact⟨rfl,ad1,c1,ad2,c2,hS⟩
 | cons x S =>
  simp only[List.length_cons] at hm hS
  refine (top1 B ad1 S.length c1 (by omega) _ opn nds (wtN x).1 (wtN x).2.1 (wtN x).2.2 (stC S) (YV S) w0 w _ hS).mono ?_
  rintro e w' ⟨rfl,hS⟩
  exact⟨rfl,ad1,c1,ad2,c2,hS⟩
theorem Ja (B:Nat) (x:Wt) (S:List Wt) (out:List (Int × Int)) (opn nds:Nat) (hx:x≠.opn) (ho:opW x≤opn) (ho2:opn≤64) (hl:S.length≤200000) (hn:out.length≤400000) (w0 w:World) (R:List HP) (h:MSt w0 w R B ⟨x::S,out,opn,nds⟩) :
  Calls Tryz.prog 59 #[.pointer (some ⟨B,0,none⟩)] w fun e w'=>e=.returned (.tuple #[])∧MSt w0 w' R B ⟨S,out++ndW x,opn - opW x,nds⟩:=by
 obtain⟨ad1,c1,ad2,c2,hS⟩:=h
 simp only[List.length_cons] at hS
 have e1:opW x≤1:=by cases x <;> simp[opW]
 cases x with
 | opn=>exact(hx rfl).elim
 | not =>
  refine (settleNot B ad1 ad2 S.length c1 out.length c2 (by omega) (by omega) opn nds (by simp only[opW] at ho;omega) (by omega) (stC S) (Fs out) (YV S) w0 w R hS).mono ?_
  rintro e w' ⟨rfl,ad3,c3,hS⟩
  refine ⟨rfl,ad1,c1,ad3,c3,?_⟩
  rw[show ((opn - opW Wt.not:Nat):Int)=(opn:Int) - 1 by simp only[opW] at ho ⊢;omega]
  simpa [ndW,YJ,Fs] using hS
 | quant a b =>
  refine (settleQu B ad1 ad2 S.length c1 out.length c2 (by omega) (by omega) opn nds a b (by simp only[opW] at ho;omega) (by omega) (stC S) (Fs out) (YV S) w0 w R hS).mono ?_
  rintro e w' ⟨rfl,ad3,c3,hS⟩
  refine ⟨rfl,ad1,c1,ad3,c3,?_⟩
  rw[show ((opn - opW (Wt.quant a b):Nat):Int)=(opn:Int) - 1 by simp only[opW] at ho ⊢;omega]
  simpa [ndW,YJ,Fs] using hS
 | ite n =>
  refine (settleIte B ad1 ad2 S.length c1 out.length c2 (by omega) (by omega) opn nds n (by simp only[opW] at ho;omega) (by omega) (stC S) (Fs out) (YV S) w0 w R hS).mono ?_
  rintro e w' ⟨rfl,ad3,c3,hS⟩
  refine ⟨rfl,ad1,c1,ad3,c3,?_⟩
  rw[show ((opn - opW (Wt.ite n):Nat):Int)=(opn:Int) - 1 by simp only[opW] at ho ⊢;omega]
  simpa [ndW,YJ,Fs] using hS
 | op a =>
  refine (settleOp B ad1 ad2 S.length c1 out.length c2 (by omega) (by omega) opn nds a (by omega) (by omega) (stC S) (Fs out) (YV S) w0 w R hS).mono ?_
  rintro e w' ⟨rfl,ad3,c3,hS⟩
  refine ⟨rfl,ad1,c1,ad3,c3,?_⟩
  simpa [ndW,YJ,Fs,opW] using hS
theorem MOk.settle {x:Wt} {S:List Wt} {out:List (Int × Int)} {opn nds:Nat} (h:MOk ⟨x::S,out,opn,nds⟩):opW x≤opn∧MOk ⟨S,out++ndW x,opn - opW x,nds⟩:=by
 obtain⟨h1,h2,h3,h4,h5⟩:=h
 simp only[List.map_cons,List.sum_cons,List.length_cons] at h1 h2 h3
 have hn:(ndW x).length≤1:=by cases x <;> simp[ndW]
 have h4':opn≤64:=h4
 have h1':opn=opW x+(S.map opW).sum:=h1
 refine ⟨by omega,?_,?_,?_,?_,h5⟩
 ·show opn - opW x=(S.map opW).sum;omega
 ·show S.length≤200000;omega
 ·show (out++ndW x).length+S.length≤400000
  rw[List.length_append];omega
 ·show opn - opW x≤64;omega
set_option maxHeartbeats 4000000 in
theorem gW (B:Nat) (m:MS) (hm:MOk m) (w0 w:World) (R:List HP) (h:MSt w0 w R B m) :
  Calls Tryz.prog 30 #[.pointer (some ⟨B,0,none⟩)] w fun e w'=>e=.returned (.tuple #[])∧MOk ⟨(yQ m.st m.out m.opn).1,(yQ m.st m.out m.opn).2.1,(yQ m.st m.out m.opn).2.2,m.nds⟩ ∧
   MSt w0 w' R B ⟨(yQ m.st m.out m.opn).1,(yQ m.st m.out m.opn).2.1,(yQ m.st m.out m.opn).2.2,m.nds⟩:=by
 obtain⟨rs,hrs⟩:∃ rs,rs=yQ m.st m.out m.opn:=⟨_,rfl⟩
 rw[← hrs]
 have HRS:=hid hrs
 have HNN:=hid (rfl:m.nds=m.nds)
 clear hrs
 generalize hnds:m.nds=nds at *
 have HND:=hid hnds
 clear hnds HNN
 have TM:=fun m' hm' w h=>topM B m' hm' w0 w R h
 go_enter Tryz.func30,Tryz.ntmps30
 go_wp2_with fail
 go_loopw [2] (fun _ wr=>∃ S o k,Hid (rs=yQ S o k)∧MOk ⟨S,o,k,nds⟩∧MSt w0 wr R B ⟨S,o,k,nds⟩) (fun _ wr=>stM B wr)
 case atStart =>
  obtain⟨st,out,opn,n⟩:=m
  have e:n=nds:=HND.out
  subst e
  exact⟨st,out,opn,HRS,hm,h⟩
 case round =>
  clear h hm HRS HND
  obtain⟨S,o,k,HR,hm,h⟩:=hrel
  have hme:=h.meas
  have HME:=hid hme
  clear hme
  have T1:=fun w h=>TM ⟨S,o,k,nds⟩ hm.2.1 w h
  clear TM
  cases S with
  | nil =>
   have hr:=HR.out
   have HR2:=hid (show rs=([],o,k) by rw[hr];rfl)
   simp only[kd] at T1
   clear hr HR
   go_wp2_with (go_at_call 31;refine (T1 _ h).mono ?_;clear h;rintro e w ⟨rfl,h⟩)
   go_end0
   rw[HR2.out]
   exact⟨rfl,hm,h⟩
  | cons x S =>
   cases x with
   | opn =>
    have HR2:=hid (show rs=(.opn::S,o,k) by rw[HR.out];rfl)
    simp only[kd,wtN] at T1
    clear HR
    go_wp2_with (go_at_call 31;refine (T1 _ h).mono ?_;clear h;rintro e w ⟨rfl,h⟩)
    go_end0
    rw[HR2.out]
    exact⟨rfl,hm,h⟩
   | ite n =>
    have HR2:=hid (show rs=(.ite n::S,o,k) by rw[HR.out];rfl)
    simp only[kd,wtN] at T1
    clear HR
    go_wp2_with (go_at_call 31;refine (T1 _ h).mono ?_;clear h;rintro e w ⟨rfl,h⟩)
    go_end0
    rw[HR2.out]
    exact⟨rfl,hm,h⟩
   | not =>
    have HR2:=hid (show rs=yQ S (o++ndW .not) (k - opW .not) by rw[HR.out];rfl)
    obtain⟨s1,s2⟩:=hm.settle
    have SM:=fun w h=>Ja B .not S o k nds (by intro h;cases h) s1 hm.2.2.2.1 (by have:=hm.2.1;simp at this;omega) (by have:=hm.2.2.1;simp at this;omega) w0 w R h
    simp only[kd,wtN] at T1
    clear HR
    go_wp2_with (first|(go_at_call 31;refine (T1 _ h).mono ?_;clear h;rintro e w ⟨rfl,h⟩)|(go_at_call 59;refine (SM _ h).mono ?_;clear h;rintro e w ⟨rfl,h⟩))
    go_roundw
    case rel=>exact⟨S,_,_,HR2,s2,h⟩
    case measure=>rw[h.meas,HME.out];simp
   | quant a b =>
    have HR2:=hid (show rs=yQ S (o++ndW (.quant a b)) (k - opW (.quant a b)) by rw[HR.out];rfl)
    obtain⟨s1,s2⟩:=hm.settle
    have SM:=fun w h=>Ja B (.quant a b) S o k nds (by intro h;cases h) s1 hm.2.2.2.1 (by have:=hm.2.1;simp at this;omega) (by have:=hm.2.2.1;simp at this;omega) w0 w R h
    simp only[kd,wtN] at T1
    clear HR
    go_wp2_with (first|(go_at_call 31;refine (T1 _ h).mono ?_;clear h;rintro e w ⟨rfl,h⟩)|(go_at_call 59;refine (SM _ h).mono ?_;clear h;rintro e w ⟨rfl,h⟩))
    go_roundw
    case rel=>exact⟨S,_,_,HR2,s2,h⟩
    case measure=>rw[h.meas,HME.out];simp
   | op a =>
    have HR2:=hid (show rs=yQ S (o++ndW (.op a)) (k - opW (.op a)) by rw[HR.out];rfl)
    obtain⟨s1,s2⟩:=hm.settle
    have SM:=fun w h=>Ja B (.op a) S o k nds (by intro h;cases h) s1 hm.2.2.2.1 (by have:=hm.2.1;simp at this;omega) (by have:=hm.2.2.1;simp at this;omega) w0 w R h
    simp only[kd,wtN] at T1
    clear HR
    go_wp2_with (first|(go_at_call 31;refine (T1 _ h).mono ?_;clear h;rintro e w ⟨rfl,h⟩)|(go_at_call 59;refine (SM _ h).mono ?_;clear h;rintro e w ⟨rfl,h⟩))
    go_roundw
    case rel=>exact⟨S,_,_,HR2,s2,h⟩
    case measure=>rw[h.meas,HME.out];simp
theorem bindsR (o:Int) (w0 w:World) (Hs:List HP) (hS:Sat w0 w Hs):Calls Tryz.prog 58 #[.int .i64 o] w fun e w'=>e=.returned (.int .i64 (YB o))∧Sat w0 w' Hs:=by
 have pf:∀ n:Nat,YB o=n→Calls Tryz.prog 58 #[.int .i64 o] w (fun e w'=>e=.returned (.int .i64 (n:Int))∧Sat w0 w' Hs)→Calls Tryz.prog 58 #[.int .i64 o] w fun e w'=>e=.returned (.int .i64 (YB o))∧Sat w0 w' Hs:=fun n h k=>by rw[h];exact k
 by_cases h6:o=6
 ·subst h6
  refine pf 5 rfl ?_
  go_enter Tryz.func58,Tryz.ntmps58
  go_wp2
  go_ret
  exact⟨rfl,hS⟩
 by_cases h8:o=8
 ·subst h8
  refine pf 4 rfl ?_
  go_enter Tryz.func58,Tryz.ntmps58
  go_wp2
  go_ret
  exact⟨rfl,hS⟩
 by_cases h7:o=7
 ·subst h7
  refine pf 3 rfl ?_
  go_enter Tryz.func58,Tryz.ntmps58
  go_wp2
  go_ret
  exact⟨rfl,hS⟩
 by_cases h9:o=9
 ·subst h9
  refine pf 2 rfl ?_
  go_enter Tryz.func58,Tryz.ntmps58
  go_wp2
  go_ret
  exact⟨rfl,hS⟩
 refine pf 1 (by unfold YB;rw[if_neg h6,if_neg h8,if_neg h7,if_neg h9]) ?_
 have e6:(o == 6)=false:=beq_eq_false_iff_ne.2 h6
 have e8:(o == 8)=false:=beq_eq_false_iff_ne.2 h8
 have e7:(o == 7)=false:=beq_eq_false_iff_ne.2 h7
 have e9:(o == 9)=false:=beq_eq_false_iff_ne.2 h9
 clear h6 h7 h8 h9 pf
 go_enter Tryz.func58,Tryz.ntmps58
 go_wp2
 go_ret
 exact⟨rfl,hS⟩
theorem jW (B:Nat) (S:List Wt) (out:List (Int × Int)) (opn nds:Nat) (hk:nds≤65536) (w0 w:World) (R:List HP) (h:MSt w0 w R B ⟨S,out,opn,nds⟩) :
  Calls Tryz.prog 24 #[.pointer (some ⟨B,0,none⟩)] w fun e w'=>e=.returned (.int .i64 (if 65536≤nds then 8 else 0))∧MSt w0 w' R B ⟨S,out,opn,if 65536≤nds then nds else nds+1⟩:=by
 obtain⟨ad1,c1,ad2,c2,hS⟩:=h
 refine (makesN B _ _ opn nds (by omega) (by omega) w0 w _ hS).mono ?_
 rintro e w' ⟨rfl,hS⟩
 by_cases h:65536≤nds
 ·have h2:(65536:Int)≤(nds:Int):=by omega
  rw[if_pos h2] at hS ⊢
  rw[if_pos h,if_pos h]
  exact⟨rfl,ad1,c1,ad2,c2,hS⟩
 ·have h2:¬ (65536:Int)≤(nds:Int):=by omega
  rw[if_neg h2] at hS ⊢
  rw[if_neg h,if_neg h]
  exact⟨rfl,ad1,c1,ad2,c2,hS⟩
set_option maxHeartbeats 2000000 in
theorem Xe (B:Nat) (x:Wt) (S:List Wt) (out:List (Int × Int)) (opn nds:Nat) (ho:opn≤64) (hl:S.length≤200000) (w0 w:World) (R:List HP) (h:MSt w0 w R B ⟨S,out,opn,nds⟩) :
  Calls Tryz.prog 26 #[.pointer (some ⟨B,0,none⟩),.agg #[.int .i64 (wtN x).1,.int .i64 (wtN x).2.1,.int .i64 (wtN x).2.2]] w fun e w' =>
   e=.returned (.int .i64 (if 64≤opn then 132 else 0))∧MSt w0 w' R B (if 64≤opn then ⟨S,out,opn,nds⟩ else ⟨x::S,out,opn+1,nds⟩):=by
 obtain⟨ad1,c1,ad2,c2,hS⟩:=h
 dsimp only at hS
 generalize hl':S.length=l at *
 generalize hn':out.length=n at *
 generalize hk1:(wtN x).1=k1 at *
 generalize hk2:(wtN x).2.1=k2 at *
 generalize hk3:(wtN x).2.2=k3 at *
 have HL:=hid hl'
 have HN:=hid hn'
 have HK:=hid (And.intro hk1 (And.intro hk2 hk3))
 clear hl' hn' hk1 hk2 hk3
 by_cases h:64≤opn
 ·rw[if_pos h,if_pos h]
  have h2:(64:Int)≤(opn:Int):=by omega
  go_enter Tryz.func26,Tryz.ntmps26
  go_wp2_with ((first|((with_reducible apply yH hS);exact ya;exact yb rfl;exact yw;clear hS;intro WB w hS)|((with_reducible apply yh hS);exact ya;exact yb rfl;(repeat (with_reducible first|exact ye|apply yd));rfl;decide +kernel));try simp only[qA])
  go_ret
  refine ⟨rfl,ad1,c1,ad2,c2,?_⟩
  dsimp only
  rw[HL.out,HN.out]
  exact hS.sb (by(repeat (with_reducible first|exact Sb.refl|(refine Sb.take (by(repeat (first|exact Rem.hd|apply Rem.tl));done) ?_)|apply Sb.skip)))
 ·rw[if_neg h,if_neg h]
  have h2:decide ((opn:Int) ≥ 64)=false:=by simp;omega
  have hli:(l:Int)≤200000:=by omega
  go_enter Tryz.func26,Tryz.ntmps26
  go_wp2_with ((first|((with_reducible apply yH hS);exact ya;exact yb rfl;exact yw;clear hS;intro WB w hS)|((with_reducible apply yh hS);exact ya;exact yb rfl;(repeat (with_reducible first|exact ye|apply yd));rfl;decide +kernel)|((with_reducible apply yy hS);exact ya;exact yb rfl;exact yb rfl;(repeat (with_reducible first|exact ye|apply yd));rfl;(focus (simp;done));(repeat (with_reducible first|exact Upd.hd|apply Upd.tl));rfl;decide +kernel;clear hS;intro w hS;(try simp only[qS] at hS))|((with_reducible apply Cont.intro);(first|(focus (apply Or.inr;apply (Sat.sb hS);(repeat (with_reducible first|exact Sb.refl|(refine Sb.take (by(repeat (first|exact Rem.hd|apply Rem.tl));done) ?_)|apply Sb.skip));done))|(exact Or.inl (by kernel_rfl)));intro hR hC)|((first|((with_reducible apply dP 0 hC hR);(simp only[qL];rfl);decide +kernel;exact iQ;exact ya)|((with_reducible apply dP 1 hC hR);(simp only[qL];rfl);decide +kernel;exact iQ;exact ya)|((with_reducible apply dP 2 hC hR);(simp only[qL];rfl);decide +kernel;exact iQ;exact ya)|((with_reducible apply dP 8 hC hR);(simp only[qL];rfl);decide +kernel;exact iQ;exact ya));(intro w;first|(go_simp;done)|(go_simp;rw[yo (by omega) (by omega)])|(go_simp;with_reducible rfl)|(go_simp;rfl));(clear hR hC;intro hR hC))|((first|((with_reducible apply dP 3 hC hR);(simp only[qL];rfl);decide +kernel;exact iQ;exact ya)|((with_reducible apply dP 9 hC hR);(simp only[qL];rfl);decide +kernel;exact iQ;exact ya));(intro w;first|(exact yz rfl (by(exact yg)) (by assumption) (by with_reducible exact fo78_2))|(go_simp;done)|(go_simp;rw[yo (by omega) (by omega)])|(go_simp;with_reducible rfl)|(go_simp;rfl));(clear hR hC;intro hR hC))|((first|((with_reducible apply dR 4 hC hR);(simp only[qL];rfl);decide +kernel;exact iQ;exact ya)|((with_reducible apply dR 5 hC hR);(simp only[qL];rfl);decide +kernel;exact iQ;exact ya));(intro w hS;(apply yj rfl (by(exact yb rfl)));first|exact yc (by decide +kernel) (hS.cell (by(repeat (with_reducible first|exact ye|apply yd))) rfl)|exact yc (by decide +kernel) ((hS.ownCell (by(repeat (with_reducible apply yd))) (by(rfl))).1)|exact yc (by decide +kernel) (Sat.rdCell2 (by assumption) hS (by((repeat (with_reducible apply yd)));try assumption) (by(rfl)))|exact yc (by decide +kernel) (hS.baseCell (by((repeat (with_reducible apply yd)));try assumption) (by assumption))|exact yc (by decide +kernel) (fzC (by assumption) hS (by((repeat (with_reducible apply yd)));try assumption))|exact yl hS (by assumption) (by((repeat (with_reducible apply yd)));try assumption) (by assumption) (by rfl) (by with_reducible exact sz78) (by decide +kernel) (by decide)|exact hS.loadWhole (by(exact ye)) (by kernel_rfl) (by kernel_rfl));(clear hR hC;intro hR hC))|((with_reducible apply yq (i:=6));(simp only[qL];rfl);decide +kernel;exact hC;clear hR hC)|((with_reducible apply yq (i:=7));(simp only[qL];rfl);decide +kernel;exact hC;clear hR hC)|((with_reducible apply yq (i:=10));(simp only[qL];rfl);decide +kernel;exact hC;clear hR hC)|((with_reducible apply ym);decide +kernel;clear hR hC)|(refine yt 4 11 hS (by kernel_rfl) [7,10] rfl ?_;clear hS;intro w hS hR hC)|((with_reducible apply yA hS);exact ya;exact E68;exact yb rfl;exact yw;rfl;decide;clear hS;intro NB w hS)|((with_reducible apply yD hS);exact ya;exact yb rfl;exact yb rfl;exact E68;(repeat (with_reducible first|exact Rem.hd|apply Rem.tl));(repeat (with_reducible apply Rem.tl));rfl;rfl;(omega);(omega);clear hS;intro AD CAP w hS;(try simp only[Nat.zero_add,List.nil_append] at hS)));try simp only[qA])
  go_ret
  refine ⟨rfl,AD,CAP,ad2,c2,?_⟩
  dsimp only[List.length_cons,stC]
  obtain⟨g1,g2,g3⟩:=HK.out
  rw[HL.out,HN.out,g1,g2,g3,show ((opn+1:Nat):Int)=(opn:Int)+1 by omega]
  exact hS.sb (by(repeat (with_reducible first|exact Sb.refl|(refine Sb.take (by(repeat (first|exact Rem.hd|apply Rem.tl));done) ?_)|apply Sb.skip)))
end
end Go.Proofs.YteopodbkhgcpmaaGreatDoor
