/- FormulaFresh: the law's walk. -/
import Derived.Test.YteopodbkhgcpmaaGreatDoorM1
import Derived.Test.YteopodbkhgcpmaaGreatDoorM17
import Derived.Test.YteopodbkhgcpmaaGreatDoorM18
import Derived.Test.YteopodbkhgcpmaaGreatDoorM20
import Derived.Test.YteopodbkhgcpmaaGreatDoorM27
import Derived.Test.YteopodbkhgcpmaaGreatDoorM28
import Derived.Test.YteopodbkhgcpmaaGreatDoorM29
set_option linter.unusedSimpArgs false
set_option linter.unusedVariables false
set_option linter.unusedSectionVars false
namespace Go.Proofs.YteopodbkhgcpmaaGreatDoor
section
set_option maxRecDepth 20000
open Go Go.RowKit Go.SL Go.ClauseP Go.LexP

def Ji (f:FuncId) (w0:World) (text:List UInt8) (xs:List (Int × Int)):Prop:=∀ w R,YF w0∈R→Sat w0 w R →
 Calls Tryz.prog f #[.string ⟨text.toArray⟩] w fun e w'=>∃ (ad:Option Addr) (cap:Nat) (x l k:Int),e=.returned (.tuple #[.slice ad xs.length cap,.agg #[.int .i64 x,.int .i64 l,.int .i64 k]])∧Sat w0 w' (own 44 2 ad xs.length cap (Fs xs)::R)
def Xv (f:FuncId) (w0:World) (text:List UInt8) (v:Int) (es ls:List Int):Prop:=∀ w R,Sat w0 w R →
 Calls Tryz.prog f #[.string ⟨text.toArray⟩] w fun e w'=>∃ (ad1 ad2:Option Addr) (c1 c2:Nat) (x l k:Int),e=.returned (.tuple #[.agg #[.int .i64 v,.slice ad1 es.length c1,.slice ad2 ls.length c2],.agg #[.int .i64 x,.int .i64 l,.int .i64 k]])∧Sat w0 w' (own 3 1 ad1 es.length c1 (Is es)::own 3 1 ad2 ls.length c2 (Is ls)::R)
theorem asCnf {f:FuncId} {w0:World} {text:List UInt8} (h:∀ w R,Sat w0 w R→Calls Tryz.prog f #[.string ⟨text.toArray⟩] w (cnfQ w0 R (Jr text))) {c:CnfV} (hc:Jr text=.inl c):Xv f w0 text c.vars c.ends c.lits:=fun w R hS=>by
 refine (h w R hS).mono fun e w' hq=>?_
 rw[hc] at hq
 obtain⟨ad1,ad2,c1,c2,he,hS⟩:=hq
 exact⟨ad1,ad2,c1,c2,0,0,0,he,hS⟩
theorem cnfs (text:List UInt8) (ht:text.length≤140737488351232) (w0:World):∃ v es ls,es.length≤1000000000∧ls.length≤1000000000∧Xv 6 w0 text v es ls∧Xv 8 w0 text v es ls:=by
 have PC:=parseC text ht w0
 have PR:=parseR text ht w0
 cases hr:Jr text with
 | inl c =>
  have:=res_len hr
  exact⟨c.vars,c.ends,c.lits,by omega,by omega,asCnf PC hr,asCnf PR hr⟩
 | inr x =>
  obtain⟨x,l,k⟩:=x
  rw[hr] at PC PR
  have H:∀ f,(∀ w R,Sat w0 w R→Calls Tryz.prog f #[.string ⟨text.toArray⟩] w (cnfQ w0 R (.inr (x,l,k))))→Xv f w0 text 0 [] []:=fun f h w R hS =>
   (h w R hS).mono fun e w' ⟨he,hS⟩=>⟨none,none,0,0,x,l,k,he,(hS.ownNil 3 1).ownNil 3 1⟩
  exact⟨0,[],[],by simp,by simp,H _ PC,H _ PR⟩
theorem lists (text:List UInt8) (ht:text.length≤140737488351232) (w0:World) (hSE:kY w0) (hSR:SigR w0):∃ xs,xs.length≤65536∧Ji 5 w0 text xs∧Ji 7 w0 text xs:=by
 by_cases hlong:1048576 < text.length
 ·refine ⟨[],by simp,fun w R _ hS=>?_,fun w R _ hS=>?_⟩
  ·exact(parseL text ht hlong w0 w R hS).mono fun e w' ⟨he,hS⟩=>⟨none,0,5,0,0,he,hS.ownNil 44 2⟩
  ·exact(parseDL text ht hlong w0 w R hS).mono fun e w' ⟨he,hS⟩=>⟨none,0,5,0,0,he,hS.ownNil 44 2⟩
 have hl:text.length≤1048576:=by omega
 obtain⟨a,ha⟩|hno:=Classical.em (∃ a,MRun text m00 0 0 (yP text 0) a)
 ·have P1:∀ w R,YF w0∈R→Sat w0 w R→Calls Tryz.prog 5 #[.string ⟨text.toArray⟩] w fun e w'=>fnQ text w0 R e w' a:=fun w R hm hS=>(Gd text hl w0 w hSE R hm hS).mono fun e w' ⟨r,h1,h2⟩=>by
   rw[(jZ h1).det ha] at h2;exact h2
  have P2:∀ w R,YF w0∈R→Sat w0 w R→Calls Tryz.prog 7 #[.string ⟨text.toArray⟩] w fun e w'=>fnQ text w0 R e w' a:=fun w R hm hS=>(parseD text hl w0 w hSR R hm hS).mono fun e w' ⟨r,h1,h2⟩=>by
   rw[h1.det ha] at h2;exact h2
  have hlen:=run_len ha MInv.start
  clear ha
  rcases a with ⟨c,p⟩|out
  ·have H:∀ f,(∀ w R,YF w0∈R→Sat w0 w R→Calls Tryz.prog f #[.string ⟨text.toArray⟩] w fun e w'=>fnQ text w0 R e w' (.inl (c,p)))→Ji f w0 text []:=fun f h w R hm hS =>
    (h w R hm hS).mono fun e w' ⟨he,hS⟩=>⟨none,0,_,_,_,he,hS.ownNil 44 2⟩
   exact⟨[],by simp,H _ P1,H _ P2⟩
  ·have H:∀ f,(∀ w R,YF w0∈R→Sat w0 w R→Calls Tryz.prog f #[.string ⟨text.toArray⟩] w fun e w'=>fnQ text w0 R e w' (.inr out))→Ji f w0 text out:=fun f h w R hm hS =>
    (h w R hm hS).mono fun e w' ⟨ad,cap,he,hS⟩=>⟨ad,cap,0,0,0,he,hS⟩
   exact⟨out,hlen out rfl,H _ P1,H _ P2⟩
 ·have H:Ji 5 w0 text []:=fun w R hm hS=>(Gd text hl w0 w hSE R hm hS).mono fun e w' ⟨r,h1,_⟩=>absurd ⟨_,jZ h1⟩ hno
  have H2:Ji 7 w0 text []:=fun w R hm hS=>(parseD text hl w0 w hSR R hm hS).mono fun e w' ⟨r,h1,_⟩=>absurd ⟨_,h1⟩ hno
  exact⟨[],by simp,H,H2⟩
theorem Xq {w0 w:World}:∀ (L K R:List HP),Sat w0 w (Ym K::(L++R))→Sat w0 w (Ym (L.reverseAux K)::R)
 | [],K,R,h=>h
 | A::L,K,R,h=>Xq L (A::K) R ((h.front (Rem.tl Rem.hd)).join)
theorem XU {xs1 xs2 xs3:List (Int × Int)} (l1:xs1.length≤65536) (l2:xs2.length≤65536) (l3:xs3.length≤65536) {a1 a2 a3:Option Addr} {c1 c2 c3:Nat} {adA:Option Addr} {w0 w:World} {Hs R1 R2 R3:List HP} (hS:Sat w0 w Hs)
  (hA0:own 23 1 adA 3 3 [.slice a1 xs1.length c1,.slice a2 xs2.length c2,.slice a3 xs3.length c3]∈Hs)
  (r1:Rem Hs (own 44 2 a1 xs1.length c1 (Fs xs1)) R1) (r2:Rem R1 (own 44 2 a2 xs2.length c2 (Fs xs2)) R2) (r3:Rem R2 (own 44 2 a3 xs3.length c3 (Fs xs3)) R3)
  (hA:own 23 1 adA 3 3 [.slice a1 xs1.length c1,.slice a2 xs2.length c2,.slice a3 xs3.length c3]∈R3) :
  Calls Tryz.prog 11 #[.slice adA 3 3] w fun e w'=>e=.returned (.bool true)∧Sat w0 w' R3:=by
 have h1:=((hS.front r1).front (Rem.tl r2)).front (Rem.tl (Rem.tl r3))
 have h2:=Xq [_,_,_] [] R3 (h1.emp (A:=Ym []) (fun _=>rfl))
 exact XV [⟨a1,c1,xs1⟩,⟨a2,c2,xs2⟩,⟨a3,c3,xs3⟩] (by simp) (by
  intro t ht
  simp only[List.mem_cons,List.not_mem_nil,or_false] at ht
  rcases ht with rfl|rfl|rfl <;> simp only <;> omega) adA 3 w0 w R3 hA Rd.of_own h2
theorem gX {x1 x2 x3 x4 x5 x6:List Int} {n1 n2 n3 n4 n5 n6:Nat} (e1:x1.length=n1) (e2:x2.length=n2) (e3:x3.length=n3) (e4:x4.length=n4) (e5:x5.length=n5) (e6:x6.length=n6)
  (l1:n1≤1000000000) (l2:n2≤1000000000) (l3:n3≤1000000000) (l4:n4≤1000000000) (l5:n5≤1000000000) (l6:n6≤1000000000)
  {a1 a2 a3 a4 a5 a6:Option Addr} {c1 c2 c3 c4 c5 c6:Nat} {adA:Option Addr} {w0 w:World} {Hs R1 R2 R3 R4 R5 R6:List HP} (hS:Sat w0 w Hs)
  (hA0:own 31 1 adA 6 6 [.slice a1 n1 c1,.slice a2 n2 c2,.slice a3 n3 c3,.slice a4 n4 c4,.slice a5 n5 c5,.slice a6 n6 c6]∈Hs)
  (r1:Rem Hs (own 3 1 a1 n1 c1 (Is x1)) R1) (r2:Rem R1 (own 3 1 a2 n2 c2 (Is x2)) R2) (r3:Rem R2 (own 3 1 a3 n3 c3 (Is x3)) R3)
  (r4:Rem R3 (own 3 1 a4 n4 c4 (Is x4)) R4) (r5:Rem R4 (own 3 1 a5 n5 c5 (Is x5)) R5) (r6:Rem R5 (own 3 1 a6 n6 c6 (Is x6)) R6)
  (hA:own 31 1 adA 6 6 [.slice a1 n1 c1,.slice a2 n2 c2,.slice a3 n3 c3,.slice a4 n4 c4,.slice a5 n5 c5,.slice a6 n6 c6]∈R6) :
  Calls Tryz.prog 12 #[.slice adA 6 6] w fun e w'=>e=.returned (.bool true)∧Sat w0 w' R6:=by
 subst e1 e2 e3 e4 e5 e6
 have h1:=(((((hS.front r1).front (Rem.tl r2)).front (Rem.tl (Rem.tl r3))).front (Rem.tl (Rem.tl (Rem.tl r4)))).front (Rem.tl (Rem.tl (Rem.tl (Rem.tl r5))))).front (Rem.tl (Rem.tl (Rem.tl (Rem.tl (Rem.tl r6)))))
 have h2:=Xq [_,_,_,_,_,_] [] R6 (h1.emp (A:=Ym []) (fun _=>rfl))
 exact gY [⟨a1,c1,x1⟩,⟨a2,c2,x2⟩,⟨a3,c3,x3⟩,⟨a4,c4,x4⟩,⟨a5,c5,x5⟩,⟨a6,c6,x6⟩] (by simp) (by
  intro t ht
  simp only[List.mem_cons,List.not_mem_nil,or_false] at ht
  rcases ht with rfl|rfl|rfl|rfl|rfl|rfl <;> simp only <;> omega) adA 6 w0 w R6 hA Rd.of_own h2
theorem one3 {a1 a2 a3:Option Addr} {n1 n2 n3 c1 c2 c3:Nat}:∀ x∈[Value.slice a1 n1 c1,.slice a2 n2 c2,.slice a3 n3 c3],x.oneCell'=true:=by
 intro x hx
 simp only[List.mem_cons,List.not_mem_nil,or_false] at hx
 rcases hx with rfl|rfl|rfl <;> rfl
theorem one6 {a1 a2 a3 a4 a5 a6:Option Addr} {n1 n2 n3 n4 n5 n6 c1 c2 c3 c4 c5 c6:Nat}:∀ x∈[Value.slice a1 n1 c1,.slice a2 n2 c2,.slice a3 n3 c3,.slice a4 n4 c4,.slice a5 n5 c5,.slice a6 n6 c6],x.oneCell'=true:=by
 intro x hx
 simp only[List.mem_cons,List.not_mem_nil,or_false] at hx
 rcases hx with rfl|rfl|rfl|rfl|rfl|rfl <;> rfl
set_option maxHeartbeats 8000000 in
theorem freshLaw (t1 t2 t3:List UInt8) (ht1:t1.length≤140737488351232) (ht2:t2.length≤140737488351232) (ht3:t3.length≤140737488351232) (w0:World) (hSE:kY w0) (hSR:SigR w0) (htb:Tab w0) :
  Calls Tryz.prog 3 #[.string ⟨t1.toArray⟩,.string ⟨t2.toArray⟩,.string ⟨t3.toArray⟩] w0 fun e w'=>e=.returned (.bool true)∧Sat w0 w' [YF w0]:=by
 obtain⟨xs1,l1,P1,D1⟩:=lists t1 ht1 w0 hSE hSR
 obtain⟨xs2,l2,P2,D2⟩:=lists t2 ht2 w0 hSE hSR
 obtain⟨v,es,ls,q1,q2,C1,C2⟩:=cnfs t3 ht3 w0
 have Y:∀ w1 R,Sat w0 w1 R→Calls Tryz.prog 6 #[.string ⟨#[112,32,99,110,102,32,51,32,50,10,49,32,45,50,32,48,32,50,32,51,32,48,10]⟩] w1 fun e w'=>∃ (ad1 ad2:Option Addr) (c1 c2:Nat) (x l k:Int),e=.returned (.tuple #[.agg #[.int .i64 3,.slice ad1 2 c1,.slice ad2 4 c2],.agg #[.int .i64 x,.int .i64 l,.int .i64 k]])∧Sat w0 w' (own 3 1 ad1 2 c1 (Is [2,4])::own 3 1 ad2 4 c2 (Is [1,-2,2,3])::R):=asCnf (parseC gV (by decide) w0) fresh_is
 have AL:=fun w1 R hm h=>aliveC w0 w1 R hm hSE htb h
 have SM1:=fun ad cap ad2 cap2 w1 R h=>sameT xs1 (by omega) ad cap ad2 cap2 w0 w1 R h (A:=own 44 2 ad xs1.length cap (Fs xs1)) (B:=own 44 2 ad2 xs1.length cap2 (Fs xs1))
 have SM2:=fun ad cap ad2 cap2 w1 R h=>sameT xs2 (by omega) ad cap ad2 cap2 w0 w1 R h (A:=own 44 2 ad xs2.length cap (Fs xs2)) (B:=own 44 2 ad2 xs2.length cap2 (Fs xs2))
 have SC:=fun ad1 ad2 ad3 ad4 c1 c2 c3 c4 w1 R h=>sameCnfE v es ls (by unfold maxLen;omega) (by unfold maxLen;omega) w0 w1 R h (A1:=own 3 1 ad1 es.length c1 (Is es)) (A2:=own 3 1 ad2 ls.length c2 (Is ls)) (A3:=own 3 1 ad3 es.length c3 (Is es)) (A4:=own 3 1 ad4 ls.length c4 (Is ls)) (ad1:=ad1) (ad2:=ad2) (ad3:=ad3) (ad4:=ad4) (c1:=c1) (c2:=c2) (c3:=c3) (c4:=c4)
 unfold Ji at P1 P2 D1 D2
 unfold Xv at C1 C2
 have hS:=Sat.start w0
 go_enter Tryz.func3,Tryz.ntmps3
 go_upto_region 13 with ((first|(go_at_call 4;refine (AL _ _ (by((repeat (with_reducible exact ye));(try assumption))) hS).mono ?_;clear hS;rintro e w ⟨rfl,hS⟩)|((with_reducible apply yk hS);exact ya;(with_reducible first|exact z28|exact z33);clear hS;intro NB w hS)|((with_reducible apply yi hS);exact ya;exact yb rfl;exact yb rfl;(repeat (with_reducible first|exact ye|apply yd));rfl;(focus (simp;done));(repeat (with_reducible first|exact Upd.hd|apply Upd.tl));rfl;(with_reducible first|exact sz28|exact sz33);rfl;clear hS;intro w hS;(try simp only[yp,qS] at hS))|(go_at_call 5;(first|with_reducible refine (P1 _ _ (by((repeat (with_reducible first|exact ye|apply yd));(try assumption))) hS).mono ?_|with_reducible refine (P2 _ _ (by((repeat (with_reducible first|exact ye|apply yd));(try assumption))) hS).mono ?_);clear hS;rintro e w ⟨ad,cap,x,l,k,rfl,hS⟩)|(go_at_call 7;(first|with_reducible refine (D1 _ _ (by((repeat (with_reducible first|exact ye|apply yd));(try assumption))) hS).mono ?_|with_reducible refine (D2 _ _ (by((repeat (with_reducible first|exact ye|apply yd));(try assumption))) hS).mono ?_);clear hS;rintro e w ⟨ad,cap,x,l,k,rfl,hS⟩)|(go_at_call 6;(first|with_reducible refine (C1 _ _ hS).mono ?_|with_reducible refine (Y _ _ hS).mono ?_);clear hS;rintro e w ⟨ad1,ad2,c1,c2,x,l,k,rfl,hS⟩)|(go_at_call 8;refine (C2 _ _ hS).mono ?_;clear hS;rintro e w ⟨ad1,ad2,c1,c2,x,l,k,rfl,hS⟩));try simp only[qA])
 clear AL D1 D2 C2 Y
 go_upto_region 15 with ((first|(go_at_call 9;(first|with_reducible refine (SM1 _ _ _ _ _ _ hS (by(repeat (with_reducible first|exact ye|apply yd))) (by(repeat (with_reducible first|exact ye|apply yd))) Rd.of_own Rd.of_own).mono ?_|with_reducible refine (SM2 _ _ _ _ _ _ hS (by(repeat (with_reducible first|exact ye|apply yd))) (by(repeat (with_reducible first|exact ye|apply yd))) Rd.of_own Rd.of_own).mono ?_);clear hS;rintro e w ⟨rfl,hS⟩)|(go_at_call 10;refine (SC _ _ _ _ _ _ _ _ _ _ hS (by(repeat (with_reducible first|exact ye|apply yd))) (by(repeat (with_reducible first|exact ye|apply yd))) (by(repeat (with_reducible first|exact ye|apply yd))) (by(repeat (with_reducible first|exact ye|apply yd))) Rd.of_own Rd.of_own Rd.of_own Rd.of_own).mono ?_;clear hS;rintro e w ⟨rfl,hS⟩)|((with_reducible apply yh hS);exact yf rfl rfl;exact yb rfl;(repeat (with_reducible first|exact ye|apply yd));rfl;decide +kernel)|((with_reducible apply yG hS);exact yf rfl rfl;exact yb rfl;(repeat (with_reducible first|exact ye|apply yd));exact sz33;decide +kernel;rfl;rfl));try simp only[qA])
 go_wp2_with ((first|((with_reducible apply (uW ([_,_,_]) hS));(first|with_reducible exact ya|exact yf rfl rfl);(with_reducible first|exact E39|exact E41);rfl;decide;decide;rfl;exact one3;clear hS;intro NB w hS)|((with_reducible apply (uW ([_,_,_,_,_,_]) hS));exact yf rfl rfl;exact E41;rfl;decide;decide;rfl;exact one6;clear hS;intro NB w hS)|(go_at_call 11;refine (XU l1 l1 l2 hS (by(exact ye)) (by(repeat (with_reducible first|exact Rem.hd|apply Rem.tl))) (by(repeat (with_reducible first|exact Rem.hd|apply Rem.tl))) (by(repeat (with_reducible first|exact Rem.hd|apply Rem.tl))) (by(exact ye))).mono ?_;clear hS;rintro e w ⟨rfl,hS⟩)|(go_at_call 12;refine (gX (x1:=es) (x2:=ls) (x3:=es) (x4:=ls) (x5:=[2,4]) (x6:=[1,-2,2,3]) rfl rfl rfl rfl (show [2,4].length=2 from rfl) (show [1,-2,2,3].length=4 from rfl) q1 q2 q1 q2 (by decide) (by decide) hS (by(exact ye)) (by(repeat (with_reducible first|exact Rem.hd|apply Rem.tl))) (by(repeat (with_reducible first|exact Rem.hd|apply Rem.tl))) (by(repeat (with_reducible first|exact Rem.hd|apply Rem.tl))) (by(repeat (with_reducible first|exact Rem.hd|apply Rem.tl))) (by(repeat (with_reducible first|exact Rem.hd|apply Rem.tl))) (by(repeat (with_reducible first|exact Rem.hd|apply Rem.tl))) (by(exact ye))).mono ?_;clear hS;rintro e w ⟨rfl,hS⟩)|((with_reducible apply yh hS);exact yf rfl rfl;exact yb rfl;(repeat (with_reducible first|exact ye|apply yd));rfl;decide +kernel)|((with_reducible apply yG hS);exact yf rfl rfl;exact yb rfl;(repeat (with_reducible first|exact ye|apply yd));exact sz33;decide +kernel;rfl;rfl)|((with_reducible apply yi hS);exact ya;exact yb rfl;exact yb rfl;(repeat (with_reducible first|exact ye|apply yd));rfl;(focus (simp;done));(repeat (with_reducible first|exact Upd.hd|apply Upd.tl));rfl;exact sz33;rfl;clear hS;intro w hS;(try simp only[yp,qS] at hS))|(go_at_call 5;(first|with_reducible refine (P1 _ _ (by((repeat (with_reducible first|exact ye|apply yd));(try assumption))) hS).mono ?_|with_reducible refine (P2 _ _ (by((repeat (with_reducible first|exact ye|apply yd));(try assumption))) hS).mono ?_);clear hS;rintro e w ⟨ad,cap,x,l,k,rfl,hS⟩)|(go_at_call 6;refine (C1 _ _ hS).mono ?_;clear hS;rintro e w ⟨ad1,ad2,c1,c2,x,l,k,rfl,hS⟩)|(go_at_call 9;(first|with_reducible refine (SM1 _ _ _ _ _ _ hS (by(repeat (with_reducible first|exact ye|apply yd))) (by(repeat (with_reducible first|exact ye|apply yd))) Rd.of_own Rd.of_own).mono ?_|with_reducible refine (SM2 _ _ _ _ _ _ hS (by(repeat (with_reducible first|exact ye|apply yd))) (by(repeat (with_reducible first|exact ye|apply yd))) Rd.of_own Rd.of_own).mono ?_);clear hS;rintro e w ⟨rfl,hS⟩)|(go_at_call 10;refine (SC _ _ _ _ _ _ _ _ _ _ hS (by(exact ye)) (by(repeat (with_reducible first|exact ye|apply yd))) (by(repeat (with_reducible first|exact ye|apply yd))) (by(repeat (with_reducible first|exact ye|apply yd))) Rd.of_own Rd.of_own Rd.of_own Rd.of_own).mono ?_;clear hS;rintro e w ⟨rfl,hS⟩));try simp only[qA])
 go_ret
 exact⟨rfl,hS.sb (by(repeat (with_reducible first|exact Sb.nil|(refine Sb.take (by(repeat (first|exact Rem.hd|apply Rem.tl));done) ?_))))⟩
end
end Go.Proofs.YteopodbkhgcpmaaGreatDoor
