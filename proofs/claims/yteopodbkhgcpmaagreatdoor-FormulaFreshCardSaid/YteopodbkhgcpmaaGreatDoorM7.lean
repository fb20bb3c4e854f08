/- A part of the proof: Form5 FormP Ps Rd1. -/
import Derived.Test.YteopodbkhgcpmaaGreatDoorM1
import Derived.Test.YteopodbkhgcpmaaGreatDoorM6
set_option linter.unusedSimpArgs false
set_option linter.unusedVariables false
set_option linter.unusedSectionVars false
namespace Go.Proofs.YteopodbkhgcpmaaGreatDoor
section
set_option maxRecDepth 20000
open Go Go.RowKit Go.SL

theorem InT.form {H:Hp} {t:T} {v:Value} (h:InT H t v):∃ K b,v=.iface K (.pointer (some ⟨b,0,none⟩)):=by
 obtain⟨K,S,cs,_,⟨b,rfl,_⟩,_⟩:=h.head;exact⟨K,b,rfl⟩
theorem notM (a:T) (ha:Uu a) (hsz:size a≤1000000) (va:Value) (H:Hp) (hT:InT H a va) (w0 w:World) (R:List HP) (hS:Sat w0 w (fz H::R)) :
  Calls Tryz.prog 63 #[va] w fun e w'=>∃ v,e=.returned v∧∃ H',Ext H H'∧InT H' (.neg a) v∧Sat w0 w' (fz H'::R):=by
 obtain⟨l1,l2,l3,l4⟩:=Yy a
 obtain⟨Ka,ba,rfl⟩:=hT.form
 have C1:=JU 3 0 (by unfold i64;omega) a ha hsz true _ H hT
 have C2:=JU 3 0 (by unfold i64;omega) a ha hsz false _ H hT
 have b1:=KO (op:=3) (side:=0) (x:=a) (last:=true) (lk:=look a) (n:=2*size a) l1 (by omega) l3 (by omega)
 have b2:=KO (op:=3) (side:=0) (x:=a) (last:=false) (lk:=look a) (n:=2*size a) l1 (by omega) l3 (by omega)
 have e1:(look (.neg a)).1=1+cnt 3 0 a true (look a):=rfl
 have e2:(look (.neg a)).2=1+cnt 3 0 a false (look a):=rfl
 generalize cnt 3 0 a true (look a)=n1 at *
 generalize cnt 3 0 a false (look a)=n2 at *
 have E1:=hid e1
 have E2:=hid e2
 clear e1 e2
 go_enter Tryz.func63,Tryz.ntmps63
 go_wp2_with (first|(go_at_call 84;(first|with_reducible refine (C1 _ _ _ hS (by((repeat (with_reducible exact ye));(try assumption)))).mono ?_|with_reducible refine (C2 _ _ _ hS (by((repeat (with_reducible exact ye));(try assumption)))).mono ?_);clear hS;rintro e w ⟨rfl,hS⟩)|((with_reducible apply yH hS);exact ya;exact yb rfl;exact yw;clear hS;intro NB w hS;(try simp only[qA])))
 go_ret
 rw[← E1.out,← E2.out] at hS
 obtain⟨H',x1,x2,hS⟩:=hS.fzBlk
 exact⟨_,rfl,H',x1,⟨_,hT.ext x1,_,rfl,x2⟩,hS⟩
theorem uh (op n:Int) (a:T) (hsz:size a≤1000000) (va:Value) (H:Hp) (hT:InT H a va) (w0 w:World) (R:List HP) (hS:Sat w0 w (fz H::R)) :
  Calls Tryz.prog 64 #[.int .i64 op,.int .i64 n,va] w fun e w'=>∃ v,e=.returned v∧∃ H',Ext H H'∧InT H' (.qu op n a) v∧Sat w0 w' (fz H'::R):=by
 obtain⟨l1,l2,l3,l4⟩:=Yy a
 obtain⟨Ka,ba,rfl⟩:=hT.form
 have e1:(look (.qu op n a)).1=1+(look a).1:=rfl
 have e2:(look (.qu op n a)).2=1+(look a).1:=rfl
 have E1:=hid e1
 have E2:=hid e2
 clear e1 e2
 go_enter Tryz.func64,Tryz.ntmps64
 go_wp2_with ((first|((with_reducible apply jE hS);rfl;exact yb rfl;assumption;exact ye;clear hS;intro w hS)|((with_reducible apply Kz);exact ya;exact yb rfl;exact Jx;rfl)|((with_reducible apply yH hS);exact ya;exact yb rfl;exact yw;clear hS;intro NB w hS));try simp only[qA])
 go_ret
 rw[show Value.int .i64 (1+(look a).1)=.int .i64 (look (.qu op n a)).1 by rw[E1.out]] at hS
 obtain⟨H',x1,x2,hS⟩:=hS.fzBlk
 exact⟨_,rfl,H',x1,⟨_,hT.ext x1,_,rfl,by rw[E2.out,← E1.out];exact x2⟩,hS⟩
theorem xw (op:Int) (hop:i64 op) (a b:T) (ha:Uu a) (hb:Uu b) (hsz:size a≤1000000) (hsz2:size b≤1000000) (va vb:Value) (H:Hp) (hT:InT H a va) (hT2:InT H b vb) (w0 w:World) (R:List HP) (hS:Sat w0 w (fz H::R)) :
  Calls Tryz.prog 65 #[.int .i64 op,va,vb] w fun e w'=>∃ v,e=.returned v∧∃ H',Ext H H'∧InT H' (.bin op a b) v∧Sat w0 w' (fz H'::R):=by
 obtain⟨l1,l2,l3,l4⟩:=Yy a
 obtain⟨m1,m2,m3,m4⟩:=Yy b
 obtain⟨Ka,ba,rfl⟩:=hT.form
 obtain⟨Kb,bb,rfl⟩:=hT2.form
 have C1:=JU op 0 hop a ha hsz false _ H hT
 have C2:=JU op 1 hop b hb hsz2 true _ H hT2
 have C3:=JU op 1 hop b hb hsz2 false _ H hT2
 have b1:=KO (op:=op) (side:=0) (x:=a) (last:=false) (lk:=look a) (n:=2*size a) l1 (by omega) l3 (by omega)
 have b2:=KO (op:=op) (side:=1) (x:=b) (last:=true) (lk:=look b) (n:=2*size b) m1 (by omega) m3 (by omega)
 have b3:=KO (op:=op) (side:=1) (x:=b) (last:=false) (lk:=look b) (n:=2*size b) m1 (by omega) m3 (by omega)
 have e1:(look (.bin op a b)).1=max (cnt op 0 a false (look a)) (cnt op 1 b true (look b)):=rfl
 have e2:(look (.bin op a b)).2=max (cnt op 0 a false (look a)) (cnt op 1 b false (look b)):=rfl
 generalize cnt op 0 a false (look a)=n1 at *
 generalize cnt op 1 b true (look b)=n2 at *
 generalize cnt op 1 b false (look b)=n3 at *
 have E1:=hid e1
 have E2:=hid e2
 clear e1 e2
 go_enter Tryz.func65,Tryz.ntmps65
 go_wp2_with (first|(go_at_call 84;(first|with_reducible refine (C1 _ _ _ hS (by((repeat (with_reducible exact ye));(try assumption)))).mono ?_|with_reducible refine (C2 _ _ _ hS (by((repeat (with_reducible exact ye));(try assumption)))).mono ?_|with_reducible refine (C3 _ _ _ hS (by((repeat (with_reducible exact ye));(try assumption)))).mono ?_);clear hS;rintro e w ⟨rfl,hS⟩)|((with_reducible apply yH hS);exact ya;exact yb rfl;exact yw;clear hS;intro NB w hS;(try simp only[qA])))
 go_ret
 rw[← E1.out,← E2.out] at hS
 obtain⟨H',x1,x2,hS⟩:=hS.fzBlk
 exact⟨_,rfl,H',x1,⟨_,_,hT.ext x1,hT2.ext x1,_,rfl,x2⟩,hS⟩
theorem iteM (c a b:T) (hsz0:size c≤1000000) (hsz:size a≤1000000) (hsz2:size b≤1000000) (vc va vb:Value) (H:Hp) (hT0:InT H c vc) (hT:InT H a va) (hT2:InT H b vb) (w0 w:World) (R:List HP) (hS:Sat w0 w (fz H::R)) :
  Calls Tryz.prog 66 #[vc,va,vb] w fun e w'=>∃ v,e=.returned v∧∃ H',Ext H H'∧InT H' (.ite c a b) v∧Sat w0 w' (fz H'::R):=by
 obtain⟨k1,k2,k3,k4⟩:=Yy c
 obtain⟨l1,l2,l3,l4⟩:=Yy a
 obtain⟨m1,m2,m3,m4⟩:=Yy b
 obtain⟨Kc,bc,rfl⟩:=hT0.form
 obtain⟨Ka,ba,rfl⟩:=hT.form
 obtain⟨Kb,bb,rfl⟩:=hT2.form
 have e1:(look (.ite c a b)).1=1+max (max (look c).1 (look a).1) (look b).1:=rfl
 have e2:(look (.ite c a b)).2=1+max (max (look c).1 (look a).1) (look b).1:=rfl
 have hmx:0≤max (max (look c).1 (look a).1) (look b).1∧max (max (look c).1 (look a).1) (look b).1≤2000000:=by omega
 have E1:=hid e1
 have E2:=hid e2
 clear e1 e2
 go_enter Tryz.func66,Tryz.ntmps66
 go_wp2_with ((first|((with_reducible apply jE hS);rfl;exact yb rfl;(first|exact hT0|exact hT|exact hT2);exact ye;clear hS;intro w hS)|((with_reducible apply Kz);exact ya;exact yb rfl;exact Jx;rfl)|((with_reducible apply yH hS);exact ya;exact yb rfl;exact yw;clear hS;intro NB w hS));try simp only[qA])
 all_goals
  go_ret
  have hX:(1+if (if (look c).1 < (look a).1 then (look a).1 else (look c).1) < (look b).1 then (look b).1 else if (look c).1 < (look a).1 then (look a).1 else (look c).1)=(look (.ite c a b)).1:=by
   rw[E1.out]
   clear E1 E2 hS hT0 hT hT2
   (repeat' split) <;> omega
  rw[hX] at hS
  obtain⟨H',x1,x2,hS⟩:=hS.fzBlk
  exact⟨_,rfl,H',x1,⟨_,_,_,hT0.ext x1,hT.ext x1,hT2.ext x1,_,rfl,by rw[E2.out,← E1.out];exact x2⟩,hS⟩
end
section
open Go Go.RowKit Go.SL

/-! ### A list as a tree -/
def Ya (op n:Int):Int :=
 if op=1∧(n=0∨n=1)∨op=2∧0≤n∧n < 65536 then 0
 else if op=3∧n=0∨(op=4∨op=5)∧0≤n∧n < 65536 then 1
 else if 6≤op∧op≤10∧n=0 then 2
 else if op=11∧n=0 then 3 else -1
def YG (st:List T) (op n:Int):Option (List T) :=
 if op=1∧(n=0∨n=1) then some (.cst n::st)
 else if op=2∧0≤n∧n < 65536 then some (.var n::st)
 else if op=3∧n=0 then (match st with|a::r=>some (.neg a::r)|_=>none)
 else if (op=4∨op=5)∧0≤n∧n < 65536 then (match st with|a::r=>some (.qu op n a::r)|_=>none)
 else if 6≤op∧op≤10∧n=0 then (match st with|b::a::r=>some (.bin op a b::r)|_=>none)
 else if op=11∧n=0 then (match st with|b::a::c::r=>some (.ite c a b::r)|_=>none)
 else none
def Kn (st:List T):List (Int × Int)→Option (List T)
 | []=>some st
 | x::xs=>match YG st x.1 x.2 with|some st'=>Kn st' xs|none=>none
def okT:T→Prop
 | .cst n=>n=0∨n=1
 | .var v=>0≤v∧v < 65536
 | .neg a=>okT a
 | .qu op v a=>(op=4∨op=5)∧0≤v∧v < 65536∧okT a
 | .bin op a b=>6≤op∧op≤10∧okT a∧okT b
 | .ite c a b=>okT c∧okT a∧okT b
theorem okT.ops {t:T} (h:okT t):Uu t:=by
 cases t <;> first|trivial|skip
 obtain⟨h1,h2,_⟩:=h
 unfold Uu i64;omega
def post:T→List (Int × Int)
 | .cst n=>[(1,n)]
 | .var v=>[(2,v)]
 | .neg a=>post a++[(3,0)]
 | .qu op v a=>post a++[(op,v)]
 | .bin op a b=>post a++post b++[(op,0)]
 | .ite c a b=>post c++post a++post b++[(11,0)]
theorem kg:∀ t:T,(post t).length=size t
 | .cst _=>rfl
 | .var _=>rfl
 | .neg a=>by simp[post,size,kg a]
 | .qu _ _ a=>by simp[post,size,kg a]
 | .bin _ a b=>by simp[post,size,kg a,kg b];omega
 | .ite c a b=>by simp[post,size,kg a,kg b,kg c];omega
theorem gp:∀ t:T,0 < size t:=by intro t;cases t <;> simp[size]
def YT:List T→List (Int × Int)
 | []=>[]
 | t::st=>YT st++post t
theorem Gq {st st':List T} {op n:Int} (h:YG st op n=some st'):YT st'=YT st++[(op,n)]:=by
 unfold YG at h
 split at h
 ·rename_i hc;simp at h;subst h;simp[YT,post,hc.1]
 split at h
 ·rename_i hc;simp at h;subst h;simp[YT,post,hc.1]
 split at h
 ·rename_i hc
  cases st <;> simp at h
  subst h;simp[YT,post,hc.1,hc.2]
 split at h
 ·cases st <;> simp at h
  subst h;simp[YT,post]
 split at h
 ·rename_i hc
  rcases st with _|⟨b,_|⟨a,r⟩⟩ <;> simp at h
  subst h;simp[YT,post,hc.2.2]
 split at h
 ·rename_i hc
  rcases st with _|⟨b,_|⟨a,_|⟨c,r⟩⟩⟩ <;> simp at h
  subst h;simp[YT,post,hc.1,hc.2]
 ·cases h
theorem stepT_ok {st st':List T} {op n:Int} (h:YG st op n=some st') (hk:∀ t∈st,okT t):∀ t∈st',okT t:=by
 unfold YG at h
 split at h
 ·rename_i hc;simp at h;subst h;simpa [okT] using ⟨hc.2,hk⟩
 split at h
 ·rename_i hc;simp at h;subst h;simpa [okT] using ⟨hc.2,hk⟩
 split at h
 ·rename_i hc
  cases st <;> simp at h
  subst h;simpa [okT] using hk
 split at h
 ·rename_i hc
  cases st <;> simp at h
  subst h
  simp at hk
  simpa [okT] using ⟨⟨hc.1,hc.2.1,hc.2.2,hk.1⟩,hk.2⟩
 split at h
 ·rename_i hc
  rcases st with _|⟨b,_|⟨a,r⟩⟩ <;> simp at h
  subst h
  simp at hk
  simpa [okT] using ⟨⟨hc.1,hc.2.1,hk.2.1,hk.1⟩,hk.2.2⟩
 split at h
 ·rename_i hc
  rcases st with _|⟨b,_|⟨a,_|⟨c,r⟩⟩⟩ <;> simp at h
  subst h
  simp at hk
  simpa [okT] using ⟨⟨hk.2.2.1,hk.2.1,hk.1⟩,hk.2.2.2⟩
 ·cases h
theorem YI:∀ (xs ys:List (Int × Int)) (st:List T),Kn st (xs++ys)=(Kn st xs).bind fun st'=>Kn st' ys
 | [],ys,st=>rfl
 | x::xs,ys,st=>by
  simp only[List.cons_append,Kn]
  cases YG st x.1 x.2 with
  | none=>rfl
  | some st'=>simpa using YI xs ys st'
theorem ui:∀ (xs:List (Int × Int)) (st st':List T),Kn st xs=some st'→YT st'=YT st++xs
 | [],st,st',h=>by simp[Kn] at h;subst h;simp
 | x::xs,st,st',h=>by
  simp only[Kn] at h
  cases hs:YG st x.1 x.2 with
  | none=>rw[hs] at h;cases h
  | some s2 =>
   rw[hs] at h
   rw[ui xs s2 st' h,Gq hs]
   simp
theorem Xl:∀ (xs:List (Int × Int)) (st st':List T),Kn st xs=some st'→(∀ t∈st,okT t)→∀ t∈st',okT t
 | [],st,st',h,hk=>by simp[Kn] at h;subst h;exact hk
 | x::xs,st,st',h,hk=>by
  simp only[Kn] at h
  cases hs:YG st x.1 x.2 with
  | none=>rw[hs] at h;cases h
  | some s2 =>
   rw[hs] at h
   exact Xl xs s2 st' h (stepT_ok hs hk)
def jm (fs:List (Int × Int)):Option T :=
 if fs.length > 65536 then none else match Kn [] fs with
  | some [t]=>some t
  | _=>none
def kE (fs:List (Int × Int)):Option T:=(jm fs).bind fun t=>if (look t).1 > 64 then none else some t
theorem UP {fs:List (Int × Int)} {t:T} (h:jm fs=some t):fs.length≤65536∧Kn [] fs=some [t]∧okT t∧fs=post t∧size t≤65536:=by
 unfold jm at h
 split at h
 ·cases h
 ·rename_i hl
  have hr:Kn [] fs=some [t]:=by
   split at h
   ·rename_i u hu;simp at h;subst h;exact hu
   ·cases h
  have hp:=ui fs [] [t] hr
  simp[YT] at hp
  refine ⟨by omega,hr,Xl fs [] [t] hr (by simp) t (by simp),hp.symm,?_⟩
  rw[← kg t,hp];omega
theorem UO {fs:List (Int × Int)} {t:T} (h:kE fs=some t):jm fs=some t∧(look t).1≤64:=by
 unfold kE at h
 cases hq:jm fs with
 | none=>rw[hq] at h;cases h
 | some u =>
  rw[hq] at h
  simp only[Option.bind_some] at h
  split at h
  ·cases h
  ·simp at h;subst h;exact⟨rfl,by omega⟩
def kw (st:List T):Nat:=(st.map size).sum
theorem xH:∀ st:List T,(YT st).length=kw st
 | []=>rfl
 | t::st=>by simp[YT,kw,xH st,kg t];omega
theorem stack_le {xs:List (Int × Int)} {st:List T} (h:Kn [] xs=some st):st.length≤xs.length∧∀ t∈st,size t≤xs.length:=by
 have h1:=congrArg List.length (ui xs [] st h)
 simp only[xH,YT,List.nil_append] at h1
 rw[← h1]
 clear h h1
 induction st with
 | nil=>simp[kw]
 | cons t st ih =>
  have:=gp t
  simp only[kw,List.map_cons,List.sum_cons,List.length_cons,List.mem_cons,forall_eq_or_imp] at ih ⊢
  refine ⟨by omega,by omega,fun u hu=>?_⟩
  have:=ih.2 u hu
  omega

/-! ### A tree's text -/
def YN (op:Int):List UInt8 :=
 if op=6 then [32,38,32] else if op=7 then [32,124,32] else if op=8 then [32,94,32] else if op=9 then [32,45,62,32] else if op=10 then [32,60,45,62,32]
 else if op=4 then [101,120,105,115,116,115,32] else if op=5 then [102,111,114,97,108,108,32] else []
def brT (t:List UInt8 × List UInt8) (br last:Bool):List UInt8:=if br then [40]++t.1++[41] else if last then t.1 else t.2
def W:T→(List UInt8 × List UInt8) × (Int→List UInt8)
 | .cst n=>let s:List UInt8:=if n=1 then [116,114,117,101] else [102,97,108,115,101];((s,s),fun _=>[58,32]++s)
 | .var v=>let s:List UInt8:=[120]++Lib.itoa v;((s,s),fun _=>[58,32]++s)
 | .neg a =>
  let s (last:Bool):List UInt8:=[33]++brT (W a).1 (kO 3 0 a last) last
  ((s true,s false),fun _=>[58,32]++s true)
 | .qu op v a =>
  let s:List UInt8:=YN op++[120]++Lib.itoa v++(W a).2 op
  ((s,s),fun op'=>if op'=op then [44,32,120]++Lib.itoa v++(W a).2 op' else [58,32]++s)
 | .bin op a b =>
  let s (last:Bool):List UInt8:=brT (W a).1 (kO op 0 a false) false++YN op++brT (W b).1 (kO op 1 b last) last
  ((s true,s false),fun _=>[58,32]++s true)
 | .ite c a b =>
  let s:List UInt8:=[105,116,101,40]++(W c).1.1++[44,32]++(W a).1.1++[44,32]++(W b).1.1++[41]
  ((s,s),fun _=>[58,32]++s)
def wr (t:T) (last:Bool):List UInt8:=if last then (W t).1.1 else (W t).1.2
def opd (op side:Int) (x:T) (last:Bool):List UInt8:=if kO op side x last then [40]++wr x true++[41] else wr x last
def kK (op:Int) (t:T):List UInt8:=(W t).2 op
def JW (op:Int):T→Bool
 | .qu o _ _=>decide (o=op)
 | _=>false
theorem brT_eq (t:T) (br last:Bool):brT (W t).1 br last=if br then [40]++wr t true++[41] else wr t last:=by
 cases br <;> cases last <;> rfl
theorem Gz (n:Int) (last:Bool):wr (.cst n) last=if n=1 then [116,114,117,101] else [102,97,108,115,101]:=by cases last <;> rfl
theorem Xu (v:Int) (last:Bool):wr (.var v) last=[120]++Lib.itoa v:=by cases last <;> rfl
theorem uq (a:T) (last:Bool):wr (.neg a) last=[33]++opd 3 0 a last:=by
 cases last <;> simp only[wr,W,brT_eq,opd,if_true,if_false,Bool.false_eq_true]
theorem gE (op v:Int) (a:T) (last:Bool):wr (.qu op v a) last=YN op++[120]++Lib.itoa v++kK op a:=by cases last <;> rfl
theorem uo (op:Int) (a b:T) (last:Bool):wr (.bin op a b) last=opd op 0 a false++YN op++opd op 1 b last:=by
 cases last <;> simp only[wr,W,brT_eq,opd,if_true,if_false,Bool.false_eq_true]
theorem UT (c a b:T) (last:Bool):wr (.ite c a b) last=[105,116,101,40]++wr c true++[44,32]++wr a true++[44,32]++wr b true++[41]:=by cases last <;> rfl
theorem Jj (op v:Int) (a:T):kK op (.qu op v a)=[44,32,120]++Lib.itoa v++kK op a:=by simp[kK,W]
theorem Kr {op:Int} {t:T} (h:JW op t=false):kK op t=[58,32]++wr t true:=by
 cases t with
 | qu o v a =>
  simp only[JW,decide_eq_false_iff_not] at h
  have h2:¬ op=o:=fun e=>h e.symm
  simp[kK,W,wr,h2]
 | _=>rfl
theorem KK:∀ t:T,okT t→size t≤1000000→(wr t true).length≤40*size t∧(wr t false).length≤40*size t∧∀ op,(kK op t).length≤40*size t+2
 | .cst n,h,hs=>by
  simp only[Gz,size,kK,W]
  split <;> simp
 | .var v,h,hs=>by
  have h1:=Lib.itoa_length_le v (by have:=h.1;omega) (by have:=h.2;omega)
  simp only[Xu,size,kK,W]
  simp;omega
 | .neg a,h,hs=>by
  simp only[size] at hs ⊢
  obtain⟨h1,h2,h3⟩:=KK a h (by omega)
  have k1:(opd 3 0 a true).length≤40*size a+2:=by unfold opd;split <;> (try simp only[List.length_append,List.length_cons,List.length_nil]) <;> omega
  have k2:(opd 3 0 a false).length≤40*size a+2:=by unfold opd;split <;> (try simp only[List.length_append,List.length_cons,List.length_nil]) <;> omega
  refine ⟨by rw[uq];simp;omega,by rw[uq];simp;omega,fun op=>?_⟩
  rw[Kr rfl,uq];simp;omega
 | .qu op v a,h,hs=>by
  simp only[size] at hs ⊢
  obtain⟨h1,h2,h3⟩:=KK a h.2.2.2 (by omega)
  have k1:=Lib.itoa_length_le v (by have:=h.2.1;omega) (by have:=h.2.2.1;omega)
  have k2:(YN op).length≤7:=by rcases h.1 with rfl|rfl <;> decide
  have k3:=h3 op
  refine ⟨by rw[gE];simp;omega,by rw[gE];simp;omega,fun op'=>?_⟩
  by_cases e:op'=op
  ·subst e;rw[Jj];simp;omega
  ·rw[Kr (by simp[JW];exact fun x=>e x.symm),gE];simp;omega
 | .bin op a b,h,hs=>by
  simp only[size] at hs ⊢
  obtain⟨h1,h2,h3⟩:=KK a h.2.2.1 (by omega)
  obtain⟨g1,g2,g3⟩:=KK b h.2.2.2 (by omega)
  have k0:(opd op 0 a false).length≤40*size a+2:=by unfold opd;split <;> (try simp only[List.length_append,List.length_cons,List.length_nil]) <;> omega
  have k1:(opd op 1 b true).length≤40*size b+2:=by unfold opd;split <;> (try simp only[List.length_append,List.length_cons,List.length_nil]) <;> omega
  have k2:(opd op 1 b false).length≤40*size b+2:=by unfold opd;split <;> (try simp only[List.length_append,List.length_cons,List.length_nil]) <;> omega
  have k3:(YN op).length≤7:=by unfold YN;(repeat' split) <;> (decide)
  refine ⟨by rw[uo];simp;omega,by rw[uo];simp;omega,fun op'=>?_⟩
  rw[Kr rfl,uo];simp;omega
 | .ite c a b,h,hs=>by
  simp only[size] at hs ⊢
  obtain⟨h1,h2,h3⟩:=KK a h.2.1 (by omega)
  obtain⟨g1,g2,g3⟩:=KK b h.2.2 (by omega)
  obtain⟨f1,f2,f3⟩:=KK c h.1 (by omega)
  refine ⟨by rw[UT];simp;omega,by rw[UT];simp;omega,fun op'=>?_⟩
  rw[Kr rfl,UT];simp;omega

def KJ (fs:List (Int × Int)):List UInt8 × Int:=match kE fs with
 | none=>([],134)
 | some t=>if (wr t true).length > 1048576 then ([],5) else (wr t true,0)
end
section
open Go Go.RowKit Go.SL Go.ClauseP Go.LexP

structure Ps where
 tk:Tk
 at_:Nat
 fin:Nat
 opn:Nat
 nds:Nat
def knd (p:Ps):Int:=(yZ p.tk).1
abbrev Rp:=(Int × Nat) ⊕ Ps
def yM (text:List UInt8) (p:Ps):Rp:=match (yP text p.fin).tk with
 | .bad e=>.inl (e,(yP text p.fin).at_)
 | t=>.inr ⟨t,(yP text p.fin).at_,(yP text p.fin).fin,p.opn,p.nds⟩
def yV (p:Ps):Rp:=if p.opn=64 then .inl (132,p.at_) else .inr { p with opn:=p.opn+1 }
def yC (p:Ps):Rp:=if p.nds=65536 then .inl (8,p.at_) else .inr { p with nds:=p.nds+1 }
def yL (text:List UInt8) (k:Int) (p:Ps):Rp:=if knd p=k then yM text p else .inl (131,p.at_)
def yx (r:Rp) (f:Ps→Rp):Rp:=match r with
 | .inl e=>.inl e
 | .inr p=>f p
def jt:List T→T
 | []=>.cst 0
 | x::rest=>rest.foldl (fun acc y=>.bin 9 y acc) x
def kOf:Nat→Int
 | 1=>8
 | 3=>5
 | 4=>6
 | 5=>4
 | _=>7
def oOf:Nat→Int
 | 1=>10
 | 3=>7
 | 4=>8
 | 5=>6
 | _=>9
inductive Tsk
 | lvl (b:Nat)
 | loop (b:Nat) (x:T)
 | imps (xs:List T)
abbrev Rt:=(Int × Nat) ⊕ (T × Ps)
inductive Vars (text:List UInt8):Ps→List Int→(Int × Nat) ⊕ (List Int × Ps)→Prop
 | adv {p vs e}:yM text p=.inl e→Vars text p vs (.inl e)
 | tok {p vs q}:yM text p=.inr q→(∀ n,q.tk≠.var n)→Vars text p vs (.inl (131,q.at_))
 | open_ {p vs q n e}:yM text p=.inr q→q.tk=.var n→yx (yx (yV q) yC) (yM text)=.inl e→Vars text p vs (.inl e)
 | more {p vs q n q' r}:yM text p=.inr q→q.tk=.var n→yx (yx (yV q) yC) (yM text)=.inr q'→q'.tk=.comma→Vars text q' (vs++[n]) r→Vars text p vs r
 | done {p vs q n q'}:yM text p=.inr q→q.tk=.var n→yx (yx (yV q) yC) (yM text)=.inr q'→q'.tk≠.comma→Vars text p vs (match yL text 12 q' with|.inl e=>.inl e|.inr q''=>.inr (vs++[n],q''))
def quT (op:Int) (vs:List Int) (x:T):T:=vs.foldr (fun v a=>.qu op v a) x
inductive RD (text:List UInt8):Tsk→Ps→Rt→Prop
 | lvlE {b p e}:b=1∨b=3∨b=4∨b=5→RD text (.lvl (b+1)) p (.inl e)→RD text (.lvl b) p (.inl e)
 | lvlK {b p x q r}:b=1∨b=3∨b=4∨b=5→RD text (.lvl (b+1)) p (.inr (x,q))→RD text (.loop b x) q r→RD text (.lvl b) p r
 | loopN {b x q}:knd q≠kOf b→RD text (.loop b x) q (.inr (x,q))
 | loopA {b x q e}:knd q=kOf b→yx (yC q) (yM text)=.inl e→RD text (.loop b x) q (.inl e)
 | loopE {b x q q' e}:knd q=kOf b→yx (yC q) (yM text)=.inr q'→RD text (.lvl (b+1)) q' (.inl e)→RD text (.loop b x) q (.inl e)
 | loopK {b x q q' y q'' r}:knd q=kOf b→yx (yC q) (yM text)=.inr q'→RD text (.lvl (b+1)) q' (.inr (y,q''))→RD text (.loop b (.bin (oOf b) x y)) q'' r→RD text (.loop b x) q r
 | impE {p e}:RD text (.lvl 3) p (.inl e)→RD text (.lvl 2) p (.inl e)
 | impK {p x q r}:RD text (.lvl 3) p (.inr (x,q))→RD text (.imps [x]) q r→RD text (.lvl 2) p r
 | impsN {xs q}:knd q≠7→RD text (.imps xs) q (.inr (jt xs,q))
 | impsA {xs q e}:knd q=7→yx (yC q) (yM text)=.inl e→RD text (.imps xs) q (.inl e)
 | impsE {xs q q' e}:knd q=7→yx (yC q) (yM text)=.inr q'→RD text (.lvl 3) q' (.inl e)→RD text (.imps xs) q (.inl e)
 | impsK {xs q q' y q'' r}:knd q=7→yx (yC q) (yM text)=.inr q'→RD text (.lvl 3) q' (.inr (y,q''))→RD text (.imps (y::xs)) q'' r→RD text (.imps xs) q r
 | notA {p e}:p.tk=.not→yx (yx (yV p) yC) (yM text)=.inl e→RD text (.lvl 6) p (.inl e)
 | notE {p q e}:p.tk=.not→yx (yx (yV p) yC) (yM text)=.inr q→RD text (.lvl 6) q (.inl e)→RD text (.lvl 6) p (.inl e)
 | notK {p q x q'}:p.tk=.not→yx (yx (yV p) yC) (yM text)=.inr q→RD text (.lvl 6) q (.inr (x,q'))→RD text (.lvl 6) p (.inr (.neg x,{ q' with opn:=q'.opn - 1 }))
 | quA {p op e}:p.tk=.quant op→Vars text p [] (.inl e)→RD text (.lvl 6) p (.inl e)
 | quE {p op vs q e}:p.tk=.quant op→Vars text p [] (.inr (vs,q))→RD text (.lvl 1) q (.inl e)→RD text (.lvl 6) p (.inl e)
 | quK {p op vs q x q'}:p.tk=.quant op→Vars text p [] (.inr (vs,q))→RD text (.lvl 1) q (.inr (x,q'))→RD text (.lvl 6) p (.inr (quT op vs x,{ q' with opn:=q'.opn - vs.length }))
 | cst {p n}:p.tk=.const n→RD text (.lvl 6) p (match yx (yC p) (yM text) with|.inl e=>.inl e|.inr q=>.inr (.cst n,q))
 | var {p n}:p.tk=.var n→RD text (.lvl 6) p (match yx (yC p) (yM text) with|.inl e=>.inl e|.inr q=>.inr (.var n,q))
 | opnA {p e}:p.tk=.opn→yx (yV p) (yM text)=.inl e→RD text (.lvl 6) p (.inl e)
 | opnE {p q e}:p.tk=.opn→yx (yV p) (yM text)=.inr q→RD text (.lvl 1) q (.inl e)→RD text (.lvl 6) p (.inl e)
 | opnK {p q x q'}:p.tk=.opn→yx (yV p) (yM text)=.inr q→RD text (.lvl 1) q (.inr (x,q'))→RD text (.lvl 6) p (match yL text 10 q' with|.inl e=>.inl e|.inr q''=>.inr (x,{ q'' with opn:=q''.opn - 1 }))
 | iteA {p e}:p.tk=.ite→yx (yx (yx (yV p) yC) (yM text)) (yL text 9)=.inl e→RD text (.lvl 6) p (.inl e)
 | iteC {p q e}:p.tk=.ite→yx (yx (yx (yV p) yC) (yM text)) (yL text 9)=.inr q→RD text (.lvl 1) q (.inl e)→RD text (.lvl 6) p (.inl e)
 | iteD {p q c q1 e}:p.tk=.ite→yx (yx (yx (yV p) yC) (yM text)) (yL text 9)=.inr q→RD text (.lvl 1) q (.inr (c,q1))→yL text 11 q1=.inl e→RD text (.lvl 6) p (.inl e)
 | iteE {p q c q1 q2 e}:p.tk=.ite→yx (yx (yx (yV p) yC) (yM text)) (yL text 9)=.inr q→RD text (.lvl 1) q (.inr (c,q1))→yL text 11 q1=.inr q2→RD text (.lvl 1) q2 (.inl e)→RD text (.lvl 6) p (.inl e)
 | iteF {p q c q1 q2 a q3 e}:p.tk=.ite→yx (yx (yx (yV p) yC) (yM text)) (yL text 9)=.inr q→RD text (.lvl 1) q (.inr (c,q1))→yL text 11 q1=.inr q2→RD text (.lvl 1) q2 (.inr (a,q3))→yL text 11 q3=.inl e→RD text (.lvl 6) p (.inl e)
 | iteG {p q c q1 q2 a q3 q4 e}:p.tk=.ite→yx (yx (yx (yV p) yC) (yM text)) (yL text 9)=.inr q→RD text (.lvl 1) q (.inr (c,q1))→yL text 11 q1=.inr q2→RD text (.lvl 1) q2 (.inr (a,q3))→yL text 11 q3=.inr q4→RD text (.lvl 1) q4 (.inl e)→RD text (.lvl 6) p (.inl e)
 | iteK {p q c q1 q2 a q3 q4 b q5}:p.tk=.ite→yx (yx (yx (yV p) yC) (yM text)) (yL text 9)=.inr q→RD text (.lvl 1) q (.inr (c,q1))→yL text 11 q1=.inr q2→RD text (.lvl 1) q2 (.inr (a,q3))→yL text 11 q3=.inr q4→RD text (.lvl 1) q4 (.inr (b,q5)) →
   RD text (.lvl 6) p (match yL text 10 q5 with|.inl e=>.inl e|.inr q6=>.inr (.ite c a b,{ q6 with opn:=q6.opn - 1 }))
 | else_ {p}:(∀ t,t∈[p.tk]→t≠.not∧t≠.opn∧t≠.ite)→(∀ n,p.tk≠.const n)→(∀ n,p.tk≠.var n)→(∀ o,p.tk≠.quant o)→RD text (.lvl 6) p (.inl (131,p.at_))
end
section
open Go Go.RowKit Go.SL Go.ClauseP Go.LexP

/-! ### The machine -/
inductive Wt
 | not
 | quant (op n:Int)
 | opn
 | ite (n:Nat)
 | op (o:Int)
structure MS where
 st:List Wt
 out:List (Int × Int)
 opn:Nat
 nds:Nat
def YB (o:Int):Nat:=if o=6 then 5 else if o=8 then 4 else if o=7 then 3 else if o=9 then 2 else 1
def ndW:Wt→List (Int × Int)
 | .not=>[(3,0)]
 | .quant o n=>[(o,n)]
 | .opn=>[]
 | .ite _=>[(11,0)]
 | .op o=>[(o,0)]
def opW:Wt→Nat
 | .not=>1
 | .quant _ _=>1
 | .opn=>1
 | .ite _=>1
 | .op _=>0
def yQ:List Wt→List (Int × Int)→Nat→List Wt × List (Int × Int) × Nat
 | [],o,k=>([],o,k)
 | w::s,o,k=>match w with
  | .opn=>(.opn::s,o,k)
  | .ite n=>(.ite n::s,o,k)
  | w=>yQ s (o++ndW w) (k - opW w)
def Yr (op:Int):List Wt→List (Int × Int)→Nat→List Wt × List (Int × Int) × Nat
 | [],o,k=>([],o,k)
 | w::s,o,k=>match w with
  | .not=>Yr op s (o++[(3,0)]) (k - 1)
  | .op x=>if YB x < YB op∨YB x=YB op∧op=9 then (.op x::s,o,k) else Yr op s (o++[(x,0)]) k
  | w=>(w::s,o,k)
inductive Nx
 | err (e:Int)
 | done (o:List (Int × Int))
 | go (m:MS) (want q:Int)
def YE (m:MS) (w:Wt) (f:MS→Nx):Nx:=if 64≤m.opn then .err 132 else f ⟨w::m.st,m.out,m.opn+1,m.nds⟩
def Yk (m:MS) (f:MS→Nx):Nx:=if 65536≤m.nds then .err 8 else f ⟨m.st,m.out,m.opn,m.nds+1⟩
def Kf (m:MS) (q:Int):List Wt × List (Int × Int) × Nat→Nx
 | (.opn::s,o,k)=>.go ⟨s,o,k - 1,m.nds⟩ 1 q
 | (.ite n::s,o,k)=>if n=2 then .go ⟨s,o++[(11,0)],k - 1,m.nds⟩ 1 q else .err 131
 | _=>.err 131
def KP (m:MS) (q:Int):List Wt × List (Int × Int) × Nat→Nx
 | (.ite n::s,o,k)=>if 2≤n then .err 131 else .go ⟨.ite (n+1)::s,o,k,m.nds⟩ 0 q
 | _=>.err 131
def finM:List Wt × List (Int × Int) × Nat→Nx
 | ([],o,_)=>.done o
 | _=>.err 131
def yB (m:MS) (want q:Int):Tk→Nx
 | .bad e=>.err e
 | .const n=>if want=0 then Yk m fun m=>.go ⟨m.st,m.out++[(1,n)],m.opn,m.nds⟩ 1 q else .err 131
 | .var n=>if want=0 then Yk m fun m=>.go ⟨m.st,m.out++[(2,n)],m.opn,m.nds⟩ 1 q else if want=3 then YE m (.quant q n) fun m=>Yk m fun m=>.go m 4 q else .err 131
 | .quant o=>if want=0 then .go m 3 o else .err 131
 | .opn=>if want=0 then YE m .opn fun m=>.go m 0 q else if want=2 then .go m 0 q else .err 131
 | .ite=>if want=0 then YE m (.ite 0) fun m=>Yk m fun m=>.go m 2 q else .err 131
 | .not=>if want=0 then YE m .not fun m=>Yk m fun m=>.go m 0 q else .err 131
 | .op o=>if want=1 then Yk m fun m=>.go ⟨.op o::(Yr o m.st m.out m.opn).1,(Yr o m.st m.out m.opn).2.1,(Yr o m.st m.out m.opn).2.2,m.nds⟩ 0 q else .err 131
 | .cls=>if want=1 then Kf m q (yQ m.st m.out m.opn) else .err 131
 | .comma=>if want=1 then KP m q (yQ m.st m.out m.opn) else if want=4 then .go m 3 q else .err 131
 | .colon=>if want=4 then .go m 0 q else .err 131
 | .fin=>if want=1 then finM (yQ m.st m.out m.opn) else .err 131
abbrev Ans:=(Int × Nat) ⊕ List (Int × Int)
inductive MRun (text:List UInt8):MS→Int→Int→TokR→Ans→Prop
 | err {m w q t e}:yB m w q t.tk=.err e→MRun text m w q t (.inl (e,t.at_))
 | done {m w q t o}:yB m w q t.tk=.done o→MRun text m w q t (.inr o)
 | go {m w q t m' w' q' r}:yB m w q t.tk=.go m' w' q'→MRun text m' w' q' (yP text t.fin) r→MRun text m w q t r
theorem MRun.det {text:List UInt8} {m:MS} {w q:Int} {t:TokR} {r r':Ans} (h:MRun text m w q t r) (h':MRun text m w q t r'):r=r':=by
 induction h generalizing r' with
 | err h=>cases h' with
  | err h2=>rw[h] at h2;injection h2 with h2;rw[h2]
  | done h2=>rw[h] at h2;cases h2
  | go h2 _=>rw[h] at h2;cases h2
 | done h=>cases h' with
  | err h2=>rw[h] at h2;cases h2
  | done h2=>rw[h] at h2;injection h2 with h2;rw[h2]
  | go h2 _=>rw[h] at h2;cases h2
 | go h _ ih=>cases h' with
  | err h2=>rw[h] at h2;cases h2
  | done h2=>rw[h] at h2;cases h2
  | go h2 h3 =>
   rw[h] at h2
   injection h2 with e1 e2 e3
   subst e1;subst e2;subst e3
   exact ih h3

/-! ### Tokens -/
def YL:Tk→Prop
 | .bad _=>False
 | .const n=>n=0∨n=1
 | .var n=>0≤n∧n < 65536
 | .op o=>6≤o∧o≤10
 | .quant o=>o=4∨o=5
 | _=>True
theorem tokW_ok (w:List UInt8):YL (Kp w)∨∃ e,Kp w=.bad e:=by
 unfold Kp
 split;exact .inl (.inr rfl)
 split;exact .inl (.inl rfl)
 split;exact .inl (.inl rfl)
 split;exact .inl (.inr rfl)
 split;exact .inl trivial
 split
 ·rename_i t _ _ _ _ _
  have:=km 65535 t
  have key:∀ b:Bool,YL (if b=true then Tk.bad 131 else if Yv 65535 t < 0 then Tk.bad 133 else Tk.var (Yv 65535 t))∨∃ e,(if b=true then Tk.bad 131 else if Yv 65535 t < 0 then Tk.bad 133 else Tk.var (Yv 65535 t))=.bad e:=by
   intro b
   cases b
   ·simp only[Bool.false_eq_true,if_false]
    split
    ·exact .inr ⟨_,rfl⟩
    ·exact .inl ⟨by omega,by omega⟩
   ·exact .inr ⟨_,rfl⟩
  exact key _
 ·exact .inr ⟨_,rfl⟩
theorem sign_ok (l:List UInt8) (s:List UInt8 × Tk) (h:kC l=some s):YL s.2:=by
 have hm:=List.mem_of_find?_eq_some h
 simp only[signs11,signs10,List.cons_append,List.nil_append,List.mem_cons,List.not_mem_nil,or_false] at hm
 rcases hm with rfl|rfl|rfl|rfl|rfl|rfl|rfl|rfl|rfl|rfl|rfl|rfl|rfl|rfl|rfl|rfl|rfl|rfl|rfl|rfl|rfl <;> simp[YL]
theorem pieceT_ok (l:List UInt8):YL (Yj l).1∨∃ e,(Yj l).1=.bad e:=by
 unfold Yj
 split
 ·exact .inl trivial
 ·split
  ·exact tokW_ok _
  ·split
   ·dsimp only
    split
    ·exact .inr ⟨_,rfl⟩
    ·rename_i c cs _ _ h
     have:=km 1 ((c::cs).takeWhile Yc)
     exact .inl (by show _∨_;omega)
   ·split
    ·rename_i s hs
     exact .inl (sign_ok _ _ hs)
    ·exact .inr ⟨_,rfl⟩
theorem JB (text:List UInt8) (k:Nat):YL (yP text k).tk∨∃ e,(yP text k).tk=.bad e:=by
 unfold yP
 split
 ·exact .inl trivial
 ·exact pieceT_ok _
theorem Jb (text:List UInt8) (k:Nat) (hk:k≤text.length):Yf text k≤text.length:=by
 have:=jk (text.drop k) false
 rw[List.length_drop] at this
 unfold Yf
 omega
theorem ldP_of (c:UInt8) (h:kD c=true):ldP c=true:=by simp[ldP,h]
theorem tokW_fin (w:List UInt8):Kp w≠.fin:=by
 unfold Kp
 (repeat' split) <;> ((intro h;cases h))
theorem Gf (c:UInt8) (l:List UInt8):(Yj (c::l)).1≠.fin:=by
 unfold Yj
 dsimp only
 split
 ·exact tokW_fin _
 ·split
  ·dsimp only;split <;> (intro h;cases h)
  ·split
   ·rename_i s hs
    have hm:=List.mem_of_find?_eq_some hs
    simp only[signs11,signs10,List.cons_append,List.nil_append,List.mem_cons,List.not_mem_nil,or_false] at hm
    rcases hm with rfl|rfl|rfl|rfl|rfl|rfl|rfl|rfl|rfl|rfl|rfl|rfl|rfl|rfl|rfl|rfl|rfl|rfl|rfl|rfl|rfl <;> (intro h;cases h)
   ·intro h;cases h
theorem xJ (text:List UInt8):Yf text text.length=text.length:=by
 unfold Yf
 rw[List.drop_eq_nil_of_le (Nat.le_refl _)]
 simp[Yu]
theorem nextT_end (text:List UInt8):yP text text.length=⟨.fin,text.length,text.length⟩:=by
 unfold yP;rw[if_pos (xJ text)]
theorem nextT_fin (text:List UInt8) (k:Nat) (hk:k≤text.length) (h:(yP text k).tk=.fin):(yP text k).fin=text.length:=by
 unfold yP at h ⊢
 split
 ·rfl
 ·rename_i hne
  rw[if_neg hne] at h
  exfalso
  have h1:=Jb text k hk
  obtain⟨c,l,hl⟩:∃ c l,text.drop (Yf text k)=c::l:=by
   cases hd:text.drop (Yf text k) with
   | nil=>have:=congrArg List.length hd;simp at this;omega
   | cons c l=>exact⟨c,l,rfl⟩
  dsimp only at h
  rw[hl] at h
  exact Gf c l h
def KG (p:Ps):TokR:=⟨p.tk,p.at_,p.fin⟩
def Ok (text:List UInt8) (p:Ps):Prop:=YL p.tk∧p.opn≤64∧p.nds≤65536∧p.fin≤text.length∧(p.tk=.fin→p.fin=text.length)
end
end Go.Proofs.YteopodbkhgcpmaaGreatDoor
