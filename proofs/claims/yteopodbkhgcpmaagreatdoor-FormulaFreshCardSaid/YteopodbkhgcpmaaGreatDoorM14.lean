/- A part of the proof: Lv2 Lv3 Lv4 Lv5. -/
import Derived.Test.YteopodbkhgcpmaaGreatDoorM1
import Derived.Test.YteopodbkhgcpmaaGreatDoorM8
import Derived.Test.YteopodbkhgcpmaaGreatDoorM13
set_option linter.unusedSimpArgs false
set_option linter.unusedVariables false
set_option linter.unusedSectionVars false
namespace Go.Proofs.YteopodbkhgcpmaaGreatDoor
section
set_option maxRecDepth 20000
open Go Go.RowKit Go.SL Go.ClauseP Go.LexP

theorem chainD5 (text:List UInt8) (hD:LvD text 117) (B:Nat) (k n tat te fin o nd d a c op:Int) (w0 w:World) (R:List HP) (hd:d≠0) (hS:Sat w0 w (blk B 51 (psV text k n tat te fin o nd d a)::R)) :
  Calls Tryz.prog 44 #[.pointer (some ⟨B,0,none⟩),.int .i64 c,.int .i64 op,.func (.func 117) #[.pointer (some ⟨B,0,none⟩)] #[]] w fun e w'=>e=.returned .nilIface∧Sat w0 w' (blk B 51 (psV text k n tat te fin o nd d a)::R):=by
 have GD:=fun w R hS=>hD B k n tat te fin o nd d a w0 w R hd hS
 unfold psV at hS GD
 have hd2:(d == 0)=false:=by simp[hd]
 go_enter Tryz.func44,Tryz.ntmps44
 go_wp2_with (go_at_call 117;refine (GD _ _ hS).mono ?_;clear hS;rintro e w ⟨rfl,hS⟩)
 go_loopw [9] (fun x wr=>x=.nilIface∧Sat w0 wr (blk B 51 [.string ⟨text.toArray⟩,.int .i64 k,.int .i64 n,.int .i64 tat,.int .i64 te,.int .i64 fin,.int .i64 o,.int .i64 nd,.int .i64 d,.int .i64 a]::R)) (fun _ _=>0)
 case atStart=>exact⟨rfl,hS⟩
 case round =>
  clear hS
  obtain⟨rfl,hS⟩:=hrel
  go_wp2_with ((with_reducible apply yh hS);exact ya;exact yb rfl;exact ye;rfl;decide +kernel;(try simp only[qA]))
  go_ret
  exact⟨rfl,hS⟩
theorem Ky (B:Nat) (text:List UInt8) (lo:Nat) (x:Int × Nat) (w0 w:World) (R:List HP) (h:Dead w0 w R B text lo x) :
  Calls Tryz.prog 14 #[.pointer (some ⟨B,0,none⟩)] w fun e w'=>e=.returned (.tuple #[])∧Dead w0 w' R B text lo x:=by
 obtain⟨h0,k,n,tat,te,fin,o,nd,h1,h2,h3,h4,hS⟩:=h
 refine (advD B text k n tat te fin o nd x.1 x.2 h0 w0 w R hS).mono ?_
 rintro e w' ⟨rfl,hS⟩
 exact⟨rfl,h0,k,n,tat,te,fin,o,nd,h1,h2,h3,h4,hS⟩
theorem kS (text:List UInt8) (f:Nat) (hD:LvD text f) (B:Nat) (lo:Nat) (x:Int × Nat) (w0 w:World) (R:List HP) (h:Dead w0 w R B text lo x) :
  Calls Tryz.prog f #[.pointer (some ⟨B,0,none⟩)] w fun e w'=>e=.returned .nilIface∧Dead w0 w' R B text lo x:=by
 obtain⟨h0,k,n,tat,te,fin,o,nd,h1,h2,h3,h4,hS⟩:=h
 refine (hD B k n tat te fin o nd x.1 x.2 w0 w R h0 hS).mono ?_
 rintro e w' ⟨rfl,hS⟩
 exact⟨rfl,h0,k,n,tat,te,fin,o,nd,h1,h2,h3,h4,hS⟩
def chSt (w0:World) (R:List HP) (H:Hp) (B:Nat) (text:List UInt8) (b:Nat) (p:Ps) (xv:Value) (w:World):(Int × Nat) ⊕ (T × Ps × Hp)→Prop
 | .inl x=>IfV xv∧RD text (.lvl b) p (.inl x)∧∃ H',Ext H H'∧Dead w0 w (fz H'::R) B text p.opn x
 | .inr (t,q,H')=>Ext H H'∧InT H' t xv∧PsB text q∧q.opn=p.opn∧meas text q≤meas text p∧p.nds+size t≤q.nds∧okT t∧(∀ r,RD text (.loop b t) q r→RD text (.lvl b) p r)∧Sat w0 w (blk B 51 (alV text q)::fz H'::R)
set_option maxHeartbeats 4000000 in
theorem chainA5 (text:List UInt8) (hl:text.length≤1048576) (n:Nat) (hA:LvA text 117 6 n) (hD:LvD text 117) (B:Nat) (p:Ps) (w0 w:World) (R:List HP) (H:Hp) (hp:PsB text p) (hm:meas text p≤n) (hSig:kY w0) (hbm:YF w0∈R)
  (hS:Sat w0 w (blk B 51 (alV text p)::fz H::R)) :
  Calls Tryz.prog 44 #[.pointer (some ⟨B,0,none⟩),.int .i64 4,.int .i64 6,.func (.func 117) #[.pointer (some ⟨B,0,none⟩)] #[]] w fun e w'=>∃ v,e=.returned v∧∃ r,RD text (.lvl 5) p r∧okR w0 w' R H B text p v r:=by
 have UA:=hA B p w0 w R H hp hm hSig hbm hS
 go_enter Tryz.func44,Tryz.ntmps44
 go_wp2_with (go_at_call 117;refine UA.mono ?_;clear hS UA;rintro e w ⟨v,rfl,r,hrd,hok⟩)
 go_loopw [9] (fun x wr=>∃ s,chSt w0 R H B text 5 p x wr s) (fun _ wr=>Jf text B wr)
 case atStart =>
  rcases r with x|⟨t,q⟩
  ·exact⟨.inl x,hok.1,.lvlE (by decide) hrd,hok.2⟩
  ·obtain⟨h1,h2,h3,h4,h5,H',h6,h7,hS⟩:=hok
   exact⟨.inr (t,q,H'),h6,h7,h1,h2,h3,h4,h5,fun r h=>.lvlK (by decide) hrd h,hS⟩
 case round =>
  clear hok hrd
  obtain⟨s,hs⟩:=hrel
  rcases s with x|⟨t,q,H1⟩
  ·obtain⟨hv,hrd,H1,hx,h0,k,n,tat,te,fin,o,nd,h1,h2,h3,h4,hS⟩:=hs
   have hd2:(x.1 == 0)=false:=by simp[h0]
   unfold psV at hS
   have HX:Hid (x.1=x.1):=hid rfl
   obtain⟨d,a⟩:=x
   dsimp only at *
   go_wp2_with ((with_reducible apply yh hS);exact ya;exact yb rfl;exact ye;rfl;decide +kernel;(try simp only[qA]))
   go_ret
   exact⟨_,rfl,.inl (d,a),hrd,hv,H1,hx,h0,k,n,tat,te,fin,o,nd,h1,h2,h3,h4,hS⟩
  ·obtain⟨hx,hi,hq,ho,hmm,hsz,hok,hR,hS⟩:=hs
   have hM:=kf hS ye
   have hS0:=hS
   unfold alV psV at hS
   by_cases hk:knd q=4
   ·have hkk:((yZ q.tk).1 == 4)=true:=by simpa [knd] using hk
    have MC:=ua B text q hq w0 wr (fz H1::R) hS0
    rcases hmk:yC q with ⟨d,a⟩|q1
    ·rw[hmk] at MC
     have hth:yx (yC q) (yM text)=.inl (d,a):=by rw[hmk];rfl
     clear hmk
     go_wp2_with (first|((with_reducible apply yh hS);(first|with_reducible exact ya|exact yf rfl rfl);exact yb rfl;exact ye;rfl;decide +kernel;(try simp only[qA]))|(go_at_call 75;refine MC.mono ?_;clear MC hS hS0;rintro e w ⟨rfl,hDd⟩)|(go_at_call 14;refine (Ky B text _ _ w0 _ _ hDd).mono ?_;clear hDd;rintro e w ⟨rfl,hDd⟩)|(go_at_call 117;refine (kS text _ hD B _ _ w0 _ _ hDd).mono ?_;clear hDd;rintro e w ⟨rfl,h0,k,n,tat,te,fin,o,nd,h1,h2,h3,h4,hS⟩;have hd2:(d == 0)=false:=(by simpa using h0);unfold psV at hS;dsimp only at hS))
     go_roundw
     case rel=>exact⟨.inl (d,a),.inr hi.form,hR _ (.loopA hk hth),H1,hx,h0,k,n,tat,te,fin,o,nd,by omega,h2,h3,h4,hS⟩
     case measure =>
      have:=Yg (text:=text) h0 hS ye
      omega
    ·have hq1o:q1.opn=q.opn∧q1.nds=q.nds+1∧meas text q1=meas text q∧knd q1=knd q:=by
      unfold yC at hmk
      split at hmk
      ·cases hmk
      ·injection hmk with hmk
       subst hmk
       exact⟨rfl,rfl,rfl,rfl⟩
     obtain⟨o1,o2,o3,o4⟩:=hq1o
     rw[hmk] at MC
     rcases had:yM text q1 with ⟨d,a⟩|q2
     ·have hth:yx (yC q) (yM text)=.inl (d,a):=by rw[hmk];exact had
      have AC:=fun w hq1 hS=>uF B text hl q1 hq1 w0 w hSig (fz H1::R) (List.mem_cons_of_mem _ hbm) hS
      rw[had] at AC
      clear hmk had
      go_wp2_with (first|((with_reducible apply yh hS);(first|with_reducible exact ya|exact yf rfl rfl);exact yb rfl;exact ye;rfl;decide +kernel;(try simp only[qA]))|(go_at_call 75;refine MC.mono ?_;clear MC hS hS0;rintro e w ⟨rfl,hq1,hS⟩)|(go_at_call 14;refine (AC _ hq1 hS).mono ?_;clear AC hS;rintro e w ⟨rfl,hDd⟩)|(go_at_call 117;refine (kS text _ hD B _ _ w0 _ _ hDd).mono ?_;clear hDd;rintro e w ⟨rfl,h0,k,n,tat,te,fin,o,nd,h1,h2,h3,h4,hS⟩;have hd2:(d == 0)=false:=(by simpa using h0);unfold psV at hS;dsimp only at hS))
      go_roundw
      case rel=>exact⟨.inl (d,a),.inr hi.form,hR _ (.loopA hk hth),H1,hx,h0,k,n,tat,te,fin,o,nd,by omega,h2,h3,h4,hS⟩
      case measure =>
       have:=Yg (text:=text) h0 hS ye
       omega
     ·have hth:yx (yC q) (yM text)=.inr q2:=by rw[hmk];exact had
      have AC:=fun w hq1 hS=>uF B text hl q1 hq1 w0 w hSig (fz H1::R) (List.mem_cons_of_mem _ hbm) hS
      rw[had] at AC
      have hms:∀ hq1:PsB text q1,meas text q2 < meas text q1∧q2.opn=q1.opn∧q2.nds=q1.nds:=fun hq1=>KX hq1 (by rw[o4,hk];decide) had
      have UA:=fun w hq2 hm2 hS=>hA B q2 w0 w R H1 hq2 hm2 hSig hbm hS
      clear hmk had
      go_wp2_with (first|((with_reducible apply yh hS);(first|with_reducible exact ya|exact yf rfl rfl);exact yb rfl;exact ye;rfl;decide +kernel;(try simp only[qA]))|(go_at_call 75;refine MC.mono ?_;clear MC hS hS0;rintro e w ⟨rfl,hq1,hS⟩)|(go_at_call 14;refine (AC _ hq1 hS).mono ?_;clear AC hS;rintro e w ⟨rfl,hq2,hS⟩;obtain⟨m1,m2,m3⟩:=hms hq1;clear hms)|(go_at_call 117;refine (UA _ hq2 (by omega) hS).mono ?_;clear UA hS;rintro e w ⟨y,rfl,r3,hrd,hok3⟩;rcases r3 with ⟨d,a⟩|⟨t2,q3⟩;(focus (obtain⟨hy,H3,hx3,h0,k,n,tat,te,fin,o,nd,h1,h2,h3,h4,hS⟩:=hok3));(have hd2:(d == 0)=false:=(by simpa using h0));(unfold psV at hS);(dsimp only at hS);rotate_left 1;(obtain⟨c1,c2,c3,c4,c5,H3,hx3,hi3,hS⟩:=hok3);(unfold alV psV at hS);rotate_left 1)|(go_at_call 65;refine (xw 6 (by unfold i64;omega) t t2 hok.ops c5.ops (by have:=hq.2.1;omega) (by have:=c1.2.1;omega) _ _ H3 (InT.ext hx3 hi) hi3 w0 _ (blk B 51 (alV text q3)::R) (by unfold alV psV;exact hS.sb (by(repeat (with_reducible first|exact Sb.refl|(refine Sb.take (by(repeat (first|exact Rem.hd|apply Rem.tl));done) ?_)))))).mono ?_;clear hS;rintro e w ⟨z,rfl,H4,hx4,hi4,hS⟩))
      ·go_roundw
       case rel=>exact⟨.inl (d,a),.inr hi.form,hR _ (.loopE hk hth hrd),H3,hx.trans hx3,h0,k,n,tat,te,fin,o,nd,by omega,h2,h3,h4,hS⟩
       case measure =>
        have:=Yg (text:=text) h0 hS ye
        omega
      ·have hS4:Sat w0 _ (blk B 51 (alV text q3)::fz H4::R):=hS.sb (by(repeat (with_reducible first|exact Sb.refl|(refine Sb.take (by(repeat (first|exact Rem.hd|apply Rem.tl));done) ?_))))
       go_roundw
       case rel=>exact⟨.inr (.bin 6 t t2,q3,H4),(hx.trans hx3).trans hx4,hi4,c1,by omega,by omega,by simp only[size];omega,⟨by decide,by decide,hok,c5⟩,fun r h=>hR r (.loopK hk hth hrd h),hS4⟩
       case measure =>
        have:=kf hS4 ye
        omega
   ·have hkk:((yZ q.tk).1 == 4)=false:=by simpa [knd] using hk
    go_wp2_with ((with_reducible apply yh hS);(first|with_reducible exact ya|exact yf rfl rfl);exact yb rfl;exact ye;rfl;decide +kernel;(try simp only[qA]))
    go_ret
    exact⟨_,rfl,.inr (t,q),hR _ (.loopN hk),hq,ho,hmm,hsz,hok,H1,hx,hi,hS0⟩
end
section
set_option maxRecDepth 20000
open Go Go.RowKit Go.SL Go.ClauseP Go.LexP

theorem chainD4 (text:List UInt8) (hD:LvD text 107) (B:Nat) (k n tat te fin o nd d a c op:Int) (w0 w:World) (R:List HP) (hd:d≠0) (hS:Sat w0 w (blk B 51 (psV text k n tat te fin o nd d a)::R)) :
  Calls Tryz.prog 44 #[.pointer (some ⟨B,0,none⟩),.int .i64 c,.int .i64 op,.func (.func 107) #[.pointer (some ⟨B,0,none⟩)] #[]] w fun e w'=>e=.returned .nilIface∧Sat w0 w' (blk B 51 (psV text k n tat te fin o nd d a)::R):=by
 have GD:=fun w R hS=>hD B k n tat te fin o nd d a w0 w R hd hS
 unfold psV at hS GD
 have hd2:(d == 0)=false:=by simp[hd]
 go_enter Tryz.func44,Tryz.ntmps44
 go_wp2_with (go_at_call 107;refine (GD _ _ hS).mono ?_;clear hS;rintro e w ⟨rfl,hS⟩)
 go_loopw [9] (fun x wr=>x=.nilIface∧Sat w0 wr (blk B 51 [.string ⟨text.toArray⟩,.int .i64 k,.int .i64 n,.int .i64 tat,.int .i64 te,.int .i64 fin,.int .i64 o,.int .i64 nd,.int .i64 d,.int .i64 a]::R)) (fun _ _=>0)
 case atStart=>exact⟨rfl,hS⟩
 case round =>
  clear hS
  obtain⟨rfl,hS⟩:=hrel
  go_wp2_with ((with_reducible apply yh hS);exact ya;exact yb rfl;exact ye;rfl;decide +kernel;(try simp only[qA]))
  go_ret
  exact⟨rfl,hS⟩
set_option maxHeartbeats 4000000 in
theorem chainA4 (text:List UInt8) (hl:text.length≤1048576) (n:Nat) (hA:LvA text 107 5 n) (hD:LvD text 107) (B:Nat) (p:Ps) (w0 w:World) (R:List HP) (H:Hp) (hp:PsB text p) (hm:meas text p≤n) (hSig:kY w0) (hbm:YF w0∈R)
  (hS:Sat w0 w (blk B 51 (alV text p)::fz H::R)) :
  Calls Tryz.prog 44 #[.pointer (some ⟨B,0,none⟩),.int .i64 6,.int .i64 8,.func (.func 107) #[.pointer (some ⟨B,0,none⟩)] #[]] w fun e w'=>∃ v,e=.returned v∧∃ r,RD text (.lvl 4) p r∧okR w0 w' R H B text p v r:=by
 have UA:=hA B p w0 w R H hp hm hSig hbm hS
 go_enter Tryz.func44,Tryz.ntmps44
 go_wp2_with (go_at_call 107;refine UA.mono ?_;clear hS UA;rintro e w ⟨v,rfl,r,hrd,hok⟩)
 go_loopw [9] (fun x wr=>∃ s,chSt w0 R H B text 4 p x wr s) (fun _ wr=>Jf text B wr)
 case atStart =>
  rcases r with x|⟨t,q⟩
  ·exact⟨.inl x,hok.1,.lvlE (by decide) hrd,hok.2⟩
  ·obtain⟨h1,h2,h3,h4,h5,H',h6,h7,hS⟩:=hok
   exact⟨.inr (t,q,H'),h6,h7,h1,h2,h3,h4,h5,fun r h=>.lvlK (by decide) hrd h,hS⟩
 case round =>
  clear hok hrd
  obtain⟨s,hs⟩:=hrel
  rcases s with x|⟨t,q,H1⟩
  ·obtain⟨hv,hrd,H1,hx,h0,k,n,tat,te,fin,o,nd,h1,h2,h3,h4,hS⟩:=hs
   have hd2:(x.1 == 0)=false:=by simp[h0]
   unfold psV at hS
   have HX:Hid (x.1=x.1):=hid rfl
   obtain⟨d,a⟩:=x
   dsimp only at *
   go_wp2_with ((with_reducible apply yh hS);exact ya;exact yb rfl;exact ye;rfl;decide +kernel;(try simp only[qA]))
   go_ret
   exact⟨_,rfl,.inl (d,a),hrd,hv,H1,hx,h0,k,n,tat,te,fin,o,nd,h1,h2,h3,h4,hS⟩
  ·obtain⟨hx,hi,hq,ho,hmm,hsz,hok,hR,hS⟩:=hs
   have hM:=kf hS ye
   have hS0:=hS
   unfold alV psV at hS
   by_cases hk:knd q=6
   ·have hkk:((yZ q.tk).1 == 6)=true:=by simpa [knd] using hk
    have MC:=ua B text q hq w0 wr (fz H1::R) hS0
    rcases hmk:yC q with ⟨d,a⟩|q1
    ·rw[hmk] at MC
     have hth:yx (yC q) (yM text)=.inl (d,a):=by rw[hmk];rfl
     clear hmk
     go_wp2_with (first|((with_reducible apply yh hS);(first|with_reducible exact ya|exact yf rfl rfl);exact yb rfl;exact ye;rfl;decide +kernel;(try simp only[qA]))|(go_at_call 75;refine MC.mono ?_;clear MC hS hS0;rintro e w ⟨rfl,hDd⟩)|(go_at_call 14;refine (Ky B text _ _ w0 _ _ hDd).mono ?_;clear hDd;rintro e w ⟨rfl,hDd⟩)|(go_at_call 107;refine (kS text _ hD B _ _ w0 _ _ hDd).mono ?_;clear hDd;rintro e w ⟨rfl,h0,k,n,tat,te,fin,o,nd,h1,h2,h3,h4,hS⟩;have hd2:(d == 0)=false:=(by simpa using h0);unfold psV at hS;dsimp only at hS))
     go_roundw
     case rel=>exact⟨.inl (d,a),.inr hi.form,hR _ (.loopA hk hth),H1,hx,h0,k,n,tat,te,fin,o,nd,by omega,h2,h3,h4,hS⟩
     case measure =>
      have:=Yg (text:=text) h0 hS ye
      omega
    ·have hq1o:q1.opn=q.opn∧q1.nds=q.nds+1∧meas text q1=meas text q∧knd q1=knd q:=by
      unfold yC at hmk
      split at hmk
      ·cases hmk
      ·injection hmk with hmk
       subst hmk
       exact⟨rfl,rfl,rfl,rfl⟩
     obtain⟨o1,o2,o3,o4⟩:=hq1o
     rw[hmk] at MC
     rcases had:yM text q1 with ⟨d,a⟩|q2
     ·have hth:yx (yC q) (yM text)=.inl (d,a):=by rw[hmk];exact had
      have AC:=fun w hq1 hS=>uF B text hl q1 hq1 w0 w hSig (fz H1::R) (List.mem_cons_of_mem _ hbm) hS
      rw[had] at AC
      clear hmk had
      go_wp2_with (first|((with_reducible apply yh hS);(first|with_reducible exact ya|exact yf rfl rfl);exact yb rfl;exact ye;rfl;decide +kernel;(try simp only[qA]))|(go_at_call 75;refine MC.mono ?_;clear MC hS hS0;rintro e w ⟨rfl,hq1,hS⟩)|(go_at_call 14;refine (AC _ hq1 hS).mono ?_;clear AC hS;rintro e w ⟨rfl,hDd⟩)|(go_at_call 107;refine (kS text _ hD B _ _ w0 _ _ hDd).mono ?_;clear hDd;rintro e w ⟨rfl,h0,k,n,tat,te,fin,o,nd,h1,h2,h3,h4,hS⟩;have hd2:(d == 0)=false:=(by simpa using h0);unfold psV at hS;dsimp only at hS))
      go_roundw
      case rel=>exact⟨.inl (d,a),.inr hi.form,hR _ (.loopA hk hth),H1,hx,h0,k,n,tat,te,fin,o,nd,by omega,h2,h3,h4,hS⟩
      case measure =>
       have:=Yg (text:=text) h0 hS ye
       omega
     ·have hth:yx (yC q) (yM text)=.inr q2:=by rw[hmk];exact had
      have AC:=fun w hq1 hS=>uF B text hl q1 hq1 w0 w hSig (fz H1::R) (List.mem_cons_of_mem _ hbm) hS
      rw[had] at AC
      have hms:∀ hq1:PsB text q1,meas text q2 < meas text q1∧q2.opn=q1.opn∧q2.nds=q1.nds:=fun hq1=>KX hq1 (by rw[o4,hk];decide) had
      have UA:=fun w hq2 hm2 hS=>hA B q2 w0 w R H1 hq2 hm2 hSig hbm hS
      clear hmk had
      go_wp2_with (first|((with_reducible apply yh hS);(first|with_reducible exact ya|exact yf rfl rfl);exact yb rfl;exact ye;rfl;decide +kernel;(try simp only[qA]))|(go_at_call 75;refine MC.mono ?_;clear MC hS hS0;rintro e w ⟨rfl,hq1,hS⟩)|(go_at_call 14;refine (AC _ hq1 hS).mono ?_;clear AC hS;rintro e w ⟨rfl,hq2,hS⟩;obtain⟨m1,m2,m3⟩:=hms hq1;clear hms)|(go_at_call 107;refine (UA _ hq2 (by omega) hS).mono ?_;clear UA hS;rintro e w ⟨y,rfl,r3,hrd,hok3⟩;rcases r3 with ⟨d,a⟩|⟨t2,q3⟩;(focus (obtain⟨hy,H3,hx3,h0,k,n,tat,te,fin,o,nd,h1,h2,h3,h4,hS⟩:=hok3));(have hd2:(d == 0)=false:=(by simpa using h0));(unfold psV at hS);(dsimp only at hS);rotate_left 1;(obtain⟨c1,c2,c3,c4,c5,H3,hx3,hi3,hS⟩:=hok3);(unfold alV psV at hS);rotate_left 1)|(go_at_call 65;refine (xw 8 (by unfold i64;omega) t t2 hok.ops c5.ops (by have:=hq.2.1;omega) (by have:=c1.2.1;omega) _ _ H3 (InT.ext hx3 hi) hi3 w0 _ (blk B 51 (alV text q3)::R) (by unfold alV psV;exact hS.sb (by(repeat (with_reducible first|exact Sb.refl|(refine Sb.take (by(repeat (first|exact Rem.hd|apply Rem.tl));done) ?_)))))).mono ?_;clear hS;rintro e w ⟨z,rfl,H4,hx4,hi4,hS⟩))
      ·go_roundw
       case rel=>exact⟨.inl (d,a),.inr hi.form,hR _ (.loopE hk hth hrd),H3,hx.trans hx3,h0,k,n,tat,te,fin,o,nd,by omega,h2,h3,h4,hS⟩
       case measure =>
        have:=Yg (text:=text) h0 hS ye
        omega
      ·have hS4:Sat w0 _ (blk B 51 (alV text q3)::fz H4::R):=hS.sb (by(repeat (with_reducible first|exact Sb.refl|(refine Sb.take (by(repeat (first|exact Rem.hd|apply Rem.tl));done) ?_))))
       go_roundw
       case rel=>exact⟨.inr (.bin 8 t t2,q3,H4),(hx.trans hx3).trans hx4,hi4,c1,by omega,by omega,by simp only[size];omega,⟨by decide,by decide,hok,c5⟩,fun r h=>hR r (.loopK hk hth hrd h),hS4⟩
       case measure =>
        have:=kf hS4 ye
        omega
   ·have hkk:((yZ q.tk).1 == 6)=false:=by simpa [knd] using hk
    go_wp2_with ((with_reducible apply yh hS);(first|with_reducible exact ya|exact yf rfl rfl);exact yb rfl;exact ye;rfl;decide +kernel;(try simp only[qA]))
    go_ret
    exact⟨_,rfl,.inr (t,q),hR _ (.loopN hk),hq,ho,hmm,hsz,hok,H1,hx,hi,hS0⟩
theorem chainD3 (text:List UInt8) (hD:LvD text 96) (B:Nat) (k n tat te fin o nd d a c op:Int) (w0 w:World) (R:List HP) (hd:d≠0) (hS:Sat w0 w (blk B 51 (psV text k n tat te fin o nd d a)::R)) :
  Calls Tryz.prog 44 #[.pointer (some ⟨B,0,none⟩),.int .i64 c,.int .i64 op,.func (.func 96) #[.pointer (some ⟨B,0,none⟩)] #[]] w fun e w'=>e=.returned .nilIface∧Sat w0 w' (blk B 51 (psV text k n tat te fin o nd d a)::R):=by
 have GD:=fun w R hS=>hD B k n tat te fin o nd d a w0 w R hd hS
 unfold psV at hS GD
 have hd2:(d == 0)=false:=by simp[hd]
 go_enter Tryz.func44,Tryz.ntmps44
 go_wp2_with (go_at_call 96;refine (GD _ _ hS).mono ?_;clear hS;rintro e w ⟨rfl,hS⟩)
 go_loopw [9] (fun x wr=>x=.nilIface∧Sat w0 wr (blk B 51 [.string ⟨text.toArray⟩,.int .i64 k,.int .i64 n,.int .i64 tat,.int .i64 te,.int .i64 fin,.int .i64 o,.int .i64 nd,.int .i64 d,.int .i64 a]::R)) (fun _ _=>0)
 case atStart=>exact⟨rfl,hS⟩
 case round =>
  clear hS
  obtain⟨rfl,hS⟩:=hrel
  go_wp2_with ((with_reducible apply yh hS);exact ya;exact yb rfl;exact ye;rfl;decide +kernel;(try simp only[qA]))
  go_ret
  exact⟨rfl,hS⟩
set_option maxHeartbeats 4000000 in
theorem chainA3 (text:List UInt8) (hl:text.length≤1048576) (n:Nat) (hA:LvA text 96 4 n) (hD:LvD text 96) (B:Nat) (p:Ps) (w0 w:World) (R:List HP) (H:Hp) (hp:PsB text p) (hm:meas text p≤n) (hSig:kY w0) (hbm:YF w0∈R)
  (hS:Sat w0 w (blk B 51 (alV text p)::fz H::R)) :
  Calls Tryz.prog 44 #[.pointer (some ⟨B,0,none⟩),.int .i64 5,.int .i64 7,.func (.func 96) #[.pointer (some ⟨B,0,none⟩)] #[]] w fun e w'=>∃ v,e=.returned v∧∃ r,RD text (.lvl 3) p r∧okR w0 w' R H B text p v r:=by
 have UA:=hA B p w0 w R H hp hm hSig hbm hS
 go_enter Tryz.func44,Tryz.ntmps44
 go_wp2_with (go_at_call 96;refine UA.mono ?_;clear hS UA;rintro e w ⟨v,rfl,r,hrd,hok⟩)
 go_loopw [9] (fun x wr=>∃ s,chSt w0 R H B text 3 p x wr s) (fun _ wr=>Jf text B wr)
 case atStart =>
  rcases r with x|⟨t,q⟩
  ·exact⟨.inl x,hok.1,.lvlE (by decide) hrd,hok.2⟩
  ·obtain⟨h1,h2,h3,h4,h5,H',h6,h7,hS⟩:=hok
   exact⟨.inr (t,q,H'),h6,h7,h1,h2,h3,h4,h5,fun r h=>.lvlK (by decide) hrd h,hS⟩
 case round =>
  clear hok hrd
  obtain⟨s,hs⟩:=hrel
  rcases s with x|⟨t,q,H1⟩
  ·obtain⟨hv,hrd,H1,hx,h0,k,n,tat,te,fin,o,nd,h1,h2,h3,h4,hS⟩:=hs
   have hd2:(x.1 == 0)=false:=by simp[h0]
   unfold psV at hS
   have HX:Hid (x.1=x.1):=hid rfl
   obtain⟨d,a⟩:=x
   dsimp only at *
   go_wp2_with ((with_reducible apply yh hS);exact ya;exact yb rfl;exact ye;rfl;decide +kernel;(try simp only[qA]))
   go_ret
   exact⟨_,rfl,.inl (d,a),hrd,hv,H1,hx,h0,k,n,tat,te,fin,o,nd,h1,h2,h3,h4,hS⟩
  ·obtain⟨hx,hi,hq,ho,hmm,hsz,hok,hR,hS⟩:=hs
   have hM:=kf hS ye
   have hS0:=hS
   unfold alV psV at hS
   by_cases hk:knd q=5
   ·have hkk:((yZ q.tk).1 == 5)=true:=by simpa [knd] using hk
    have MC:=ua B text q hq w0 wr (fz H1::R) hS0
    rcases hmk:yC q with ⟨d,a⟩|q1
    ·rw[hmk] at MC
     have hth:yx (yC q) (yM text)=.inl (d,a):=by rw[hmk];rfl
     clear hmk
     go_wp2_with (first|((with_reducible apply yh hS);(first|with_reducible exact ya|exact yf rfl rfl);exact yb rfl;exact ye;rfl;decide +kernel;(try simp only[qA]))|(go_at_call 75;refine MC.mono ?_;clear MC hS hS0;rintro e w ⟨rfl,hDd⟩)|(go_at_call 14;refine (Ky B text _ _ w0 _ _ hDd).mono ?_;clear hDd;rintro e w ⟨rfl,hDd⟩)|(go_at_call 96;refine (kS text _ hD B _ _ w0 _ _ hDd).mono ?_;clear hDd;rintro e w ⟨rfl,h0,k,n,tat,te,fin,o,nd,h1,h2,h3,h4,hS⟩;have hd2:(d == 0)=false:=(by simpa using h0);unfold psV at hS;dsimp only at hS))
     go_roundw
     case rel=>exact⟨.inl (d,a),.inr hi.form,hR _ (.loopA hk hth),H1,hx,h0,k,n,tat,te,fin,o,nd,by omega,h2,h3,h4,hS⟩
     case measure =>
      have:=Yg (text:=text) h0 hS ye
      omega
    ·have hq1o:q1.opn=q.opn∧q1.nds=q.nds+1∧meas text q1=meas text q∧knd q1=knd q:=by
      unfold yC at hmk
      split at hmk
      ·cases hmk
      ·injection hmk with hmk
       subst hmk
       exact⟨rfl,rfl,rfl,rfl⟩
     obtain⟨o1,o2,o3,o4⟩:=hq1o
     rw[hmk] at MC
     rcases had:yM text q1 with ⟨d,a⟩|q2
     ·have hth:yx (yC q) (yM text)=.inl (d,a):=by rw[hmk];exact had
      have AC:=fun w hq1 hS=>uF B text hl q1 hq1 w0 w hSig (fz H1::R) (List.mem_cons_of_mem _ hbm) hS
      rw[had] at AC
      clear hmk had
      go_wp2_with (first|((with_reducible apply yh hS);(first|with_reducible exact ya|exact yf rfl rfl);exact yb rfl;exact ye;rfl;decide +kernel;(try simp only[qA]))|(go_at_call 75;refine MC.mono ?_;clear MC hS hS0;rintro e w ⟨rfl,hq1,hS⟩)|(go_at_call 14;refine (AC _ hq1 hS).mono ?_;clear AC hS;rintro e w ⟨rfl,hDd⟩)|(go_at_call 96;refine (kS text _ hD B _ _ w0 _ _ hDd).mono ?_;clear hDd;rintro e w ⟨rfl,h0,k,n,tat,te,fin,o,nd,h1,h2,h3,h4,hS⟩;have hd2:(d == 0)=false:=(by simpa using h0);unfold psV at hS;dsimp only at hS))
      go_roundw
      case rel=>exact⟨.inl (d,a),.inr hi.form,hR _ (.loopA hk hth),H1,hx,h0,k,n,tat,te,fin,o,nd,by omega,h2,h3,h4,hS⟩
      case measure =>
       have:=Yg (text:=text) h0 hS ye
       omega
     ·have hth:yx (yC q) (yM text)=.inr q2:=by rw[hmk];exact had
      have AC:=fun w hq1 hS=>uF B text hl q1 hq1 w0 w hSig (fz H1::R) (List.mem_cons_of_mem _ hbm) hS
      rw[had] at AC
      have hms:∀ hq1:PsB text q1,meas text q2 < meas text q1∧q2.opn=q1.opn∧q2.nds=q1.nds:=fun hq1=>KX hq1 (by rw[o4,hk];decide) had
      have UA:=fun w hq2 hm2 hS=>hA B q2 w0 w R H1 hq2 hm2 hSig hbm hS
      clear hmk had
      go_wp2_with (first|((with_reducible apply yh hS);(first|with_reducible exact ya|exact yf rfl rfl);exact yb rfl;exact ye;rfl;decide +kernel;(try simp only[qA]))|(go_at_call 75;refine MC.mono ?_;clear MC hS hS0;rintro e w ⟨rfl,hq1,hS⟩)|(go_at_call 14;refine (AC _ hq1 hS).mono ?_;clear AC hS;rintro e w ⟨rfl,hq2,hS⟩;obtain⟨m1,m2,m3⟩:=hms hq1;clear hms)|(go_at_call 96;refine (UA _ hq2 (by omega) hS).mono ?_;clear UA hS;rintro e w ⟨y,rfl,r3,hrd,hok3⟩;rcases r3 with ⟨d,a⟩|⟨t2,q3⟩;(focus (obtain⟨hy,H3,hx3,h0,k,n,tat,te,fin,o,nd,h1,h2,h3,h4,hS⟩:=hok3));(have hd2:(d == 0)=false:=(by simpa using h0));(unfold psV at hS);(dsimp only at hS);rotate_left 1;(obtain⟨c1,c2,c3,c4,c5,H3,hx3,hi3,hS⟩:=hok3);(unfold alV psV at hS);rotate_left 1)|(go_at_call 65;refine (xw 7 (by unfold i64;omega) t t2 hok.ops c5.ops (by have:=hq.2.1;omega) (by have:=c1.2.1;omega) _ _ H3 (InT.ext hx3 hi) hi3 w0 _ (blk B 51 (alV text q3)::R) (by unfold alV psV;exact hS.sb (by(repeat (with_reducible first|exact Sb.refl|(refine Sb.take (by(repeat (first|exact Rem.hd|apply Rem.tl));done) ?_)))))).mono ?_;clear hS;rintro e w ⟨z,rfl,H4,hx4,hi4,hS⟩))
      ·go_roundw
       case rel=>exact⟨.inl (d,a),.inr hi.form,hR _ (.loopE hk hth hrd),H3,hx.trans hx3,h0,k,n,tat,te,fin,o,nd,by omega,h2,h3,h4,hS⟩
       case measure =>
        have:=Yg (text:=text) h0 hS ye
        omega
      ·have hS4:Sat w0 _ (blk B 51 (alV text q3)::fz H4::R):=hS.sb (by(repeat (with_reducible first|exact Sb.refl|(refine Sb.take (by(repeat (first|exact Rem.hd|apply Rem.tl));done) ?_))))
       go_roundw
       case rel=>exact⟨.inr (.bin 7 t t2,q3,H4),(hx.trans hx3).trans hx4,hi4,c1,by omega,by omega,by simp only[size];omega,⟨by decide,by decide,hok,c5⟩,fun r h=>hR r (.loopK hk hth hrd h),hS4⟩
       case measure =>
        have:=kf hS4 ye
        omega
   ·have hkk:((yZ q.tk).1 == 5)=false:=by simpa [knd] using hk
    go_wp2_with ((with_reducible apply yh hS);(first|with_reducible exact ya|exact yf rfl rfl);exact yb rfl;exact ye;rfl;decide +kernel;(try simp only[qA]))
    go_ret
    exact⟨_,rfl,.inr (t,q),hR _ (.loopN hk),hq,ho,hmm,hsz,hok,H1,hx,hi,hS0⟩
theorem chainD1 (text:List UInt8) (hD:LvD text 45) (B:Nat) (k n tat te fin o nd d a c op:Int) (w0 w:World) (R:List HP) (hd:d≠0) (hS:Sat w0 w (blk B 51 (psV text k n tat te fin o nd d a)::R)) :
  Calls Tryz.prog 44 #[.pointer (some ⟨B,0,none⟩),.int .i64 c,.int .i64 op,.func (.func 45) #[.pointer (some ⟨B,0,none⟩)] #[]] w fun e w'=>e=.returned .nilIface∧Sat w0 w' (blk B 51 (psV text k n tat te fin o nd d a)::R):=by
 have GD:=fun w R hS=>hD B k n tat te fin o nd d a w0 w R hd hS
 unfold psV at hS GD
 have hd2:(d == 0)=false:=by simp[hd]
 go_enter Tryz.func44,Tryz.ntmps44
 go_wp2_with (go_at_call 45;refine (GD _ _ hS).mono ?_;clear hS;rintro e w ⟨rfl,hS⟩)
 go_loopw [9] (fun x wr=>x=.nilIface∧Sat w0 wr (blk B 51 [.string ⟨text.toArray⟩,.int .i64 k,.int .i64 n,.int .i64 tat,.int .i64 te,.int .i64 fin,.int .i64 o,.int .i64 nd,.int .i64 d,.int .i64 a]::R)) (fun _ _=>0)
 case atStart=>exact⟨rfl,hS⟩
 case round =>
  clear hS
  obtain⟨rfl,hS⟩:=hrel
  go_wp2_with ((with_reducible apply yh hS);exact ya;exact yb rfl;exact ye;rfl;decide +kernel;(try simp only[qA]))
  go_ret
  exact⟨rfl,hS⟩
set_option maxHeartbeats 4000000 in
theorem chainA1 (text:List UInt8) (hl:text.length≤1048576) (n:Nat) (hA:LvA text 45 2 n) (hD:LvD text 45) (B:Nat) (p:Ps) (w0 w:World) (R:List HP) (H:Hp) (hp:PsB text p) (hm:meas text p≤n) (hSig:kY w0) (hbm:YF w0∈R)
  (hS:Sat w0 w (blk B 51 (alV text p)::fz H::R)) :
  Calls Tryz.prog 44 #[.pointer (some ⟨B,0,none⟩),.int .i64 8,.int .i64 10,.func (.func 45) #[.pointer (some ⟨B,0,none⟩)] #[]] w fun e w'=>∃ v,e=.returned v∧∃ r,RD text (.lvl 1) p r∧okR w0 w' R H B text p v r:=by
 have UA:=hA B p w0 w R H hp hm hSig hbm hS
 go_enter Tryz.func44,Tryz.ntmps44
 go_wp2_with (go_at_call 45;refine UA.mono ?_;clear hS UA;rintro e w ⟨v,rfl,r,hrd,hok⟩)
 go_loopw [9] (fun x wr=>∃ s,chSt w0 R H B text 1 p x wr s) (fun _ wr=>Jf text B wr)
 case atStart =>
  rcases r with x|⟨t,q⟩
  ·exact⟨.inl x,hok.1,.lvlE (by decide) hrd,hok.2⟩
  ·obtain⟨h1,h2,h3,h4,h5,H',h6,h7,hS⟩:=hok
   exact⟨.inr (t,q,H'),h6,h7,h1,h2,h3,h4,h5,fun r h=>.lvlK (by decide) hrd h,hS⟩
 case round =>
  clear hok hrd
  obtain⟨s,hs⟩:=hrel
  rcases s with x|⟨t,q,H1⟩
  ·obtain⟨hv,hrd,H1,hx,h0,k,n,tat,te,fin,o,nd,h1,h2,h3,h4,hS⟩:=hs
   have hd2:(x.1 == 0)=false:=by simp[h0]
   unfold psV at hS
   have HX:Hid (x.1=x.1):=hid rfl
   obtain⟨d,a⟩:=x
   dsimp only at *
   go_wp2_with ((with_reducible apply yh hS);exact ya;exact yb rfl;exact ye;rfl;decide +kernel;(try simp only[qA]))
   go_ret
   exact⟨_,rfl,.inl (d,a),hrd,hv,H1,hx,h0,k,n,tat,te,fin,o,nd,h1,h2,h3,h4,hS⟩
  ·obtain⟨hx,hi,hq,ho,hmm,hsz,hok,hR,hS⟩:=hs
   have hM:=kf hS ye
   have hS0:=hS
   unfold alV psV at hS
   by_cases hk:knd q=8
   ·have hkk:((yZ q.tk).1 == 8)=true:=by simpa [knd] using hk
    have MC:=ua B text q hq w0 wr (fz H1::R) hS0
    rcases hmk:yC q with ⟨d,a⟩|q1
    ·rw[hmk] at MC
     have hth:yx (yC q) (yM text)=.inl (d,a):=by rw[hmk];rfl
     clear hmk
     go_wp2_with (first|((with_reducible apply yh hS);(first|with_reducible exact ya|exact yf rfl rfl);exact yb rfl;exact ye;rfl;decide +kernel;(try simp only[qA]))|(go_at_call 75;refine MC.mono ?_;clear MC hS hS0;rintro e w ⟨rfl,hDd⟩)|(go_at_call 14;refine (Ky B text _ _ w0 _ _ hDd).mono ?_;clear hDd;rintro e w ⟨rfl,hDd⟩)|(go_at_call 45;refine (kS text _ hD B _ _ w0 _ _ hDd).mono ?_;clear hDd;rintro e w ⟨rfl,h0,k,n,tat,te,fin,o,nd,h1,h2,h3,h4,hS⟩;have hd2:(d == 0)=false:=(by simpa using h0);unfold psV at hS;dsimp only at hS))
     go_roundw
     case rel=>exact⟨.inl (d,a),.inr hi.form,hR _ (.loopA hk hth),H1,hx,h0,k,n,tat,te,fin,o,nd,by omega,h2,h3,h4,hS⟩
     case measure =>
      have:=Yg (text:=text) h0 hS ye
      omega
    ·have hq1o:q1.opn=q.opn∧q1.nds=q.nds+1∧meas text q1=meas text q∧knd q1=knd q:=by
      unfold yC at hmk
      split at hmk
      ·cases hmk
      ·injection hmk with hmk
       subst hmk
       exact⟨rfl,rfl,rfl,rfl⟩
     obtain⟨o1,o2,o3,o4⟩:=hq1o
     rw[hmk] at MC
     rcases had:yM text q1 with ⟨d,a⟩|q2
     ·have hth:yx (yC q) (yM text)=.inl (d,a):=by rw[hmk];exact had
      have AC:=fun w hq1 hS=>uF B text hl q1 hq1 w0 w hSig (fz H1::R) (List.mem_cons_of_mem _ hbm) hS
      rw[had] at AC
      clear hmk had
      go_wp2_with (first|((with_reducible apply yh hS);(first|with_reducible exact ya|exact yf rfl rfl);exact yb rfl;exact ye;rfl;decide +kernel;(try simp only[qA]))|(go_at_call 75;refine MC.mono ?_;clear MC hS hS0;rintro e w ⟨rfl,hq1,hS⟩)|(go_at_call 14;refine (AC _ hq1 hS).mono ?_;clear AC hS;rintro e w ⟨rfl,hDd⟩)|(go_at_call 45;refine (kS text _ hD B _ _ w0 _ _ hDd).mono ?_;clear hDd;rintro e w ⟨rfl,h0,k,n,tat,te,fin,o,nd,h1,h2,h3,h4,hS⟩;have hd2:(d == 0)=false:=(by simpa using h0);unfold psV at hS;dsimp only at hS))
      go_roundw
      case rel=>exact⟨.inl (d,a),.inr hi.form,hR _ (.loopA hk hth),H1,hx,h0,k,n,tat,te,fin,o,nd,by omega,h2,h3,h4,hS⟩
      case measure =>
       have:=Yg (text:=text) h0 hS ye
       omega
     ·have hth:yx (yC q) (yM text)=.inr q2:=by rw[hmk];exact had
      have AC:=fun w hq1 hS=>uF B text hl q1 hq1 w0 w hSig (fz H1::R) (List.mem_cons_of_mem _ hbm) hS
      rw[had] at AC
      have hms:∀ hq1:PsB text q1,meas text q2 < meas text q1∧q2.opn=q1.opn∧q2.nds=q1.nds:=fun hq1=>KX hq1 (by rw[o4,hk];decide) had
      have UA:=fun w hq2 hm2 hS=>hA B q2 w0 w R H1 hq2 hm2 hSig hbm hS
      clear hmk had
      go_wp2_with (first|((with_reducible apply yh hS);(first|with_reducible exact ya|exact yf rfl rfl);exact yb rfl;exact ye;rfl;decide +kernel;(try simp only[qA]))|(go_at_call 75;refine MC.mono ?_;clear MC hS hS0;rintro e w ⟨rfl,hq1,hS⟩)|(go_at_call 14;refine (AC _ hq1 hS).mono ?_;clear AC hS;rintro e w ⟨rfl,hq2,hS⟩;obtain⟨m1,m2,m3⟩:=hms hq1;clear hms)|(go_at_call 45;refine (UA _ hq2 (by omega) hS).mono ?_;clear UA hS;rintro e w ⟨y,rfl,r3,hrd,hok3⟩;rcases r3 with ⟨d,a⟩|⟨t2,q3⟩;(focus (obtain⟨hy,H3,hx3,h0,k,n,tat,te,fin,o,nd,h1,h2,h3,h4,hS⟩:=hok3));(have hd2:(d == 0)=false:=(by simpa using h0));(unfold psV at hS);(dsimp only at hS);rotate_left 1;(obtain⟨c1,c2,c3,c4,c5,H3,hx3,hi3,hS⟩:=hok3);(unfold alV psV at hS);rotate_left 1)|(go_at_call 65;refine (xw 10 (by unfold i64;omega) t t2 hok.ops c5.ops (by have:=hq.2.1;omega) (by have:=c1.2.1;omega) _ _ H3 (InT.ext hx3 hi) hi3 w0 _ (blk B 51 (alV text q3)::R) (by unfold alV psV;exact hS.sb (by(repeat (with_reducible first|exact Sb.refl|(refine Sb.take (by(repeat (first|exact Rem.hd|apply Rem.tl));done) ?_)))))).mono ?_;clear hS;rintro e w ⟨z,rfl,H4,hx4,hi4,hS⟩))
      ·go_roundw
       case rel=>exact⟨.inl (d,a),.inr hi.form,hR _ (.loopE hk hth hrd),H3,hx.trans hx3,h0,k,n,tat,te,fin,o,nd,by omega,h2,h3,h4,hS⟩
       case measure =>
        have:=Yg (text:=text) h0 hS ye
        omega
      ·have hS4:Sat w0 _ (blk B 51 (alV text q3)::fz H4::R):=hS.sb (by(repeat (with_reducible first|exact Sb.refl|(refine Sb.take (by(repeat (first|exact Rem.hd|apply Rem.tl));done) ?_))))
       go_roundw
       case rel=>exact⟨.inr (.bin 10 t t2,q3,H4),(hx.trans hx3).trans hx4,hi4,c1,by omega,by omega,by simp only[size];omega,⟨by decide,by decide,hok,c5⟩,fun r h=>hR r (.loopK hk hth hrd h),hS4⟩
       case measure =>
        have:=kf hS4 ye
        omega
   ·have hkk:((yZ q.tk).1 == 8)=false:=by simpa [knd] using hk
    go_wp2_with ((with_reducible apply yh hS);(first|with_reducible exact ya|exact yf rfl rfl);exact yb rfl;exact ye;rfl;decide +kernel;(try simp only[qA]))
    go_ret
    exact⟨_,rfl,.inr (t,q),hR _ (.loopN hk),hq,ho,hmm,hsz,hok,H1,hx,hi,hS0⟩
end
section
set_option maxRecDepth 20000
open Go Go.RowKit Go.SL Go.ClauseP Go.LexP

theorem andD (text:List UInt8) (hD:LvD text 117):LvD text 107:=by
 intro B k n tat te fin o nd d a w0 w R hd hS
 have CD:=chainD5 text hD B k n tat te fin o nd d a 4 6 w0 w R hd hS
 go_enter Tryz.func107,Tryz.ntmps107
 go_wp2_with (go_at_call 44;refine CD.mono ?_;clear hS CD;rintro e w ⟨rfl,hS⟩)
 go_ret
 exact⟨rfl,hS⟩
theorem andA (text:List UInt8) (hl:text.length≤1048576) (n:Nat) (hA:LvA text 117 6 n) (hD:LvD text 117):LvA text 107 5 n:=by
 intro B p w0 w R H hp hm hSig hbm hS
 have CA:=chainA5 text hl n hA hD B p w0 w R H hp hm hSig hbm hS
 go_enter Tryz.func107,Tryz.ntmps107
 go_wp2_with (go_at_call 44;refine CA.mono ?_;clear hS CA;rintro e w ⟨v,rfl,r,hrd,hok⟩)
 go_ret
 exact⟨_,rfl,r,hrd,hok⟩
theorem xorD (text:List UInt8) (hD:LvD text 107):LvD text 96:=by
 intro B k n tat te fin o nd d a w0 w R hd hS
 have CD:=chainD4 text hD B k n tat te fin o nd d a 6 8 w0 w R hd hS
 go_enter Tryz.func96,Tryz.ntmps96
 go_wp2_with (go_at_call 44;refine CD.mono ?_;clear hS CD;rintro e w ⟨rfl,hS⟩)
 go_ret
 exact⟨rfl,hS⟩
theorem xorA (text:List UInt8) (hl:text.length≤1048576) (n:Nat) (hA:LvA text 107 5 n) (hD:LvD text 107):LvA text 96 4 n:=by
 intro B p w0 w R H hp hm hSig hbm hS
 have CA:=chainA4 text hl n hA hD B p w0 w R H hp hm hSig hbm hS
 go_enter Tryz.func96,Tryz.ntmps96
 go_wp2_with (go_at_call 44;refine CA.mono ?_;clear hS CA;rintro e w ⟨v,rfl,r,hrd,hok⟩)
 go_ret
 exact⟨_,rfl,r,hrd,hok⟩
theorem orD (text:List UInt8) (hD:LvD text 96):LvD text 76:=by
 intro B k n tat te fin o nd d a w0 w R hd hS
 have CD:=chainD3 text hD B k n tat te fin o nd d a 5 7 w0 w R hd hS
 go_enter Tryz.func76,Tryz.ntmps76
 go_wp2_with (go_at_call 44;refine CD.mono ?_;clear hS CD;rintro e w ⟨rfl,hS⟩)
 go_ret
 exact⟨rfl,hS⟩
theorem orA (text:List UInt8) (hl:text.length≤1048576) (n:Nat) (hA:LvA text 96 4 n) (hD:LvD text 96):LvA text 76 3 n:=by
 intro B p w0 w R H hp hm hSig hbm hS
 have CA:=chainA3 text hl n hA hD B p w0 w R H hp hm hSig hbm hS
 go_enter Tryz.func76,Tryz.ntmps76
 go_wp2_with (go_at_call 44;refine CA.mono ?_;clear hS CA;rintro e w ⟨v,rfl,r,hrd,hok⟩)
 go_ret
 exact⟨_,rfl,r,hrd,hok⟩
theorem formulaD (text:List UInt8) (hD:LvD text 45):LvD text 15:=by
 intro B k n tat te fin o nd d a w0 w R hd hS
 have CD:=chainD1 text hD B k n tat te fin o nd d a 8 10 w0 w R hd hS
 go_enter Tryz.func15,Tryz.ntmps15
 go_wp2_with (go_at_call 44;refine CD.mono ?_;clear hS CD;rintro e w ⟨rfl,hS⟩)
 go_ret
 exact⟨rfl,hS⟩
theorem formulaA (text:List UInt8) (hl:text.length≤1048576) (n:Nat) (hA:LvA text 45 2 n) (hD:LvD text 45):LvA text 15 1 n:=by
 intro B p w0 w R H hp hm hSig hbm hS
 have CA:=chainA1 text hl n hA hD B p w0 w R H hp hm hSig hbm hS
 go_enter Tryz.func15,Tryz.ntmps15
 go_wp2_with (go_at_call 44;refine CA.mono ?_;clear hS CA;rintro e w ⟨v,rfl,r,hrd,hok⟩)
 go_ret
 exact⟨_,rfl,r,hrd,hok⟩
end
section
set_option maxRecDepth 20000
open Go Go.RowKit Go.SL Go.ClauseP Go.LexP

theorem impD (text:List UInt8) (hD:LvD text 76):LvD text 45:=by
 intro B k n tat te fin o nd d a w0 w R hd hS
 have GD:=fun w R hS=>hD B k n tat te fin o nd d a w0 w R hd hS
 unfold psV at hS GD
 have hd2:(d == 0)=false:=by simp[hd]
 have hd3:(d != 0)=true:=by simp[hd]
 go_enter Tryz.func45,Tryz.ntmps45
 go_wp2_with (first|((with_reducible apply yA hS);exact ya;exact E137;exact yb rfl;exact yN rfl;rfl;decide;clear hS;intro NB w hS;(try simp only[qA]))|(go_at_call 76;refine (GD _ _ hS).mono ?_;clear hS;rintro e w ⟨rfl,hS⟩))
 go_loopw [3] (fun _ wr=>Sat w0 wr (blk B 51 [.string ⟨text.toArray⟩,.int .i64 k,.int .i64 n,.int .i64 tat,.int .i64 te,.int .i64 fin,.int .i64 o,.int .i64 nd,.int .i64 d,.int .i64 a]::R)) (fun _ _=>0)
 case atStart=>exact hS.sb (by(repeat (with_reducible first|exact Sb.refl|(refine Sb.take (by(repeat (first|exact Rem.hd|apply Rem.tl));done) ?_)|apply Sb.skip)))
 case round =>
  clear hS
  have hS:=hrel
  clear hrel
  go_wp2_with ((with_reducible apply yh hS);exact ya;exact yb rfl;exact ye;rfl;decide +kernel;(try simp only[qA]))
  go_ret
  exact⟨rfl,hS⟩
theorem Vs.at_ {H:Hp}:∀ {xs:List T} {vs:List Value} (m:Nat) (x:T),Vs H xs vs→xs[m]?=some x→∃ v,vs[xs.length - 1 - m]?=some v∧InT H x v
 | [],_,m,x,_,hx=>by simp at hx
 | y::ys,_,0,x,⟨vs',v,e,k,k'⟩,hx=>by
  simp at hx
  subst hx
  subst e
  refine ⟨v,?_,k'⟩
  have:=k.len
  rw[List.getElem?_append_right (by simp;omega)]
  simp[this]
 | y::ys,_,m+1,x,⟨vs',v,e,k,k'⟩,hx=>by
  subst e
  have hx2:ys[m]?=some x:=by simpa using hx
  obtain⟨v2,h1,h2⟩:=Vs.at_ m x k hx2
  refine ⟨v2,?_,h2⟩
  have hm:=(List.getElem?_eq_some_iff.1 hx2).1
  have:=k.len
  rw[List.getElem?_append_left (by simp only[List.length_cons];omega)]
  simp only[List.length_cons]
  rw[← h1]
  congr 1
  omega
def imSt (w0:World) (R:List HP) (H:Hp) (B:Nat) (text:List UInt8) (p:Ps) (ad:Option Addr) (m cap:Nat) (vs:List Value) (w:World):(Int × Nat) ⊕ (List T × Ps × Hp)→Prop
 | .inl x=>RD text (.lvl 2) p (.inl x)∧∃ H',Ext H H'∧Dead w0 w (fz H'::own 53 1 ad m cap vs::R) B text p.opn x
 | .inr (xs,q,H')=>Ext H H'∧Vs H' xs vs∧xs≠[]∧PsB text q∧q.opn=p.opn∧meas text q≤meas text p∧p.nds+kw xs+(xs.length - 1)≤q.nds∧(∀ x∈xs,okT x)∧(∀ r,RD text (.imps xs) q r→RD text (.lvl 2) p r) ∧
   Sat w0 w (blk B 51 (alV text q)::fz H'::own 53 1 ad m cap vs::R)
theorem xK:∀ xs:List T,xs.length≤kw xs
 | []=>by simp[kw]
 | x::xs=>by
  have:=xK xs
  have h:=gp x
  simp only[kw,List.map_cons,List.sum_cons,List.length_cons] at this ⊢
  omega
theorem uE:∀ {xs:List T} {y:T},y∈xs→size y≤kw xs
 | x::xs,y,h=>by
  simp only[kw,List.map_cons,List.sum_cons]
  rcases List.mem_cons.1 h with rfl|h
  ·omega
  ·have:=uE h
   unfold kw at this
   omega
theorem impT_snoc (x y:T) (rest:List T):jt (x::(rest++[y]))=.bin 9 y (jt (x::rest)):=by simp[jt,List.foldl_append]
theorem impT_take {xs:List T} {k:Nat} {y:T} (h:xs[k+1]?=some y):jt (xs.take (k+2))=.bin 9 y (jt (xs.take (k+1))):=by
 cases xs with
 | nil=>simp at h
 | cons x rest =>
  have h2:rest[k]?=some y:=by simpa using h
  obtain⟨hk,hy⟩:=List.getElem?_eq_some_iff.1 h2
  rw[List.take_succ_cons,List.take_succ_cons,List.take_succ_eq_append_getElem hk,hy]
  exact impT_snoc _ _ _
theorem xI:∀ (rest:List T) (x:T),size (jt (x::rest))=kw (x::rest)+rest.length
 | [],x=>by simp[jt,kw]
 | y::rest,x=>by
  have:=xI rest (.bin 9 y x)
  simp only[jt,List.foldl_cons] at this ⊢
  rw[this]
  simp only[kw,List.map_cons,List.sum_cons,size,List.length_cons]
  omega
theorem XX:∀ (rest:List T) (x:T),(∀ y∈x::rest,okT y)→okT (jt (x::rest))
 | [],x,h=>h x (.head _)
 | y::rest,x,h=>by
  have:=XX rest (.bin 9 y x) (fun z hz=>by
   rcases List.mem_cons.1 hz with rfl|hz
   ·exact⟨by decide,by decide,h y (.tail _ (.head _)),h x (.head _)⟩
   ·exact h z (.tail _ (.tail _ hz)))
  simpa only [jt,List.foldl_cons] using this
theorem Gr (xs:List T) (k:Nat):kw (xs.take k)≤kw xs:=by
 have h:xs=xs.take k++xs.drop k:=(List.take_append_drop k xs).symm
 have h2:kw xs=kw (xs.take k)+kw (xs.drop k):=by conv=>lhs;rw[h]
                                                 simp only[kw,List.map_append,List.sum_append]
 omega
theorem GK {xs:List T} {k m:Nat} (hk:k < xs.length) (hs:kw xs+(xs.length - 1)≤m) (ho:∀ x∈xs,okT x):size (jt (xs.take (k+1)))≤m∧okT (jt (xs.take (k+1))):=by
 cases xs with
 | nil=>simp at hk
 | cons x rest =>
  have h1:=Gr (x::rest) (k+1)
  rw[List.take_succ_cons] at h1 ⊢
  have h2:(rest.take k).length≤rest.length:=by simp[List.length_take];omega
  simp only[List.length_cons] at hs
  refine ⟨by rw[xI];omega,XX _ _ fun y hy=>ho y ?_⟩
  rcases List.mem_cons.1 hy with rfl|hy
  ·exact .head _
  ·exact .tail _ (List.mem_of_mem_take hy)
def pst (text:List UInt8) (p:Ps) (H':Hp) (v:Value) (k n tat te fin o nd d a:Int):Rt→Prop
 | .inl x=>x=(d,a.toNat)∧(x.2:Int)=a∧d≠0∧p.opn≤o∧o≤65∧0≤nd∧nd≤65537
 | .inr (t,q)=>alV text q=psV text k n tat te fin o nd d a∧PsB text q∧q.opn=p.opn∧meas text q≤meas text p∧p.nds+size t≤q.nds∧okT t∧InT H' t v
theorem IfV.cell {v:Value} (h:IfV v):v.oneCell'=true:=by
 rcases h with rfl|⟨K,b,rfl⟩ <;> rfl
theorem xD {w0 w:World} {R:List HP} {H:Hp} {B:Nat} {text:List UInt8} {p:Ps} {v:Value} {r:Rt} (h:okR w0 w R H B text p v r) :
  ∃ (k n tat te fin o nd d a:Int) (H':Hp),Ext H H'∧pst text p H' v k n tat te fin o nd d a r∧v.oneCell'=true∧Sat w0 w (blk B 51 [.string ⟨text.toArray⟩,.int .i64 k,.int .i64 n,.int .i64 tat,.int .i64 te,.int .i64 fin,.int .i64 o,.int .i64 nd,.int .i64 d,.int .i64 a]::fz H'::R):=by
 rcases r with ⟨d,a⟩|⟨t,q⟩
 ·obtain⟨hv,H1,hx,h0,k,n,tat,te,fin,o,nd,h1,h2,h3,h4,hS⟩:=h
  exact⟨k,n,tat,te,fin,o,nd,d,a,H1,hx,⟨by simp,rfl,h0,h1,h2,h3,h4⟩,hv.cell,hS⟩
 ·obtain⟨h1,h2,h3,h4,h5,H1,h6,h7,hS⟩:=h
  exact⟨_,_,_,_,_,_,_,_,_,H1,h6,⟨rfl,h1,h2,h3,h4,h5,h7⟩,IfV.cell (.inr h7.form),hS⟩
set_option maxHeartbeats 8000000 in
theorem impA (text:List UInt8) (hl:text.length≤1048576) (n:Nat) (hA:LvA text 76 3 n) (hD:LvD text 76):LvA text 45 2 n:=by
 intro B p w0 w R H hp hm hSig hbm hS
 have UA:=hA B p w0 w R H hp hm hSig hbm hS
 go_enter Tryz.func45,Tryz.ntmps45
 go_wp2_with (first|(go_at_call 76;refine UA.mono ?_;clear hS UA;rintro e w ⟨v,rfl,r,hrd,hok⟩;obtain⟨k,n,tat,te,fin,o,nd,d,a,H1,hx,hps,hoc,hS⟩:=xD hok;clear hok)|((with_reducible apply yA hS);exact ya;exact E137;exact yb rfl;exact yN hoc;rfl;decide;clear hS;intro B3 w hS;(try simp only[qA])))
 have hS1:=hS.turn (B:=own 53 1 (some ⟨B3,0,none⟩) 1 1 [v]) fun g h=>⟨rfl,.inr ⟨B3,[v],rfl,Nat.le_refl _,by unfold maxLen;omega,rfl,rfl,h⟩⟩
 have hS2:Sat w0 w (blk B 51 [.string ⟨text.toArray⟩,.int .i64 k,.int .i64 n,.int .i64 tat,.int .i64 te,.int .i64 fin,.int .i64 o,.int .i64 nd,.int .i64 d,.int .i64 a]::fz H1::own 53 1 (some ⟨B3,0,none⟩) 1 1 [v]::R):=hS1.sb (by(repeat (with_reducible first|exact Sb.refl|(refine Sb.take (by(repeat (first|exact Rem.hd|apply Rem.tl));done) ?_))))
 clear hS hS1
 go_loopw [3] (fun l wr=>∃ ad m cap vs s,l=.slice ad m cap∧imSt w0 R H B text p ad m cap vs wr s) (fun _ wr=>Jf text B wr)
 case atStart =>
  refine ⟨some ⟨B3,0,none⟩,1,1,[v],?_⟩
  rcases r with x|⟨t,q⟩
  ·obtain⟨rfl,ha,h0,h1,h2,h3,h4⟩:=hps
   exact⟨.inl _,rfl,.impE hrd,H1,hx,h0,k,n,tat,te,fin,o,nd,h1,h2,h3,h4,by dsimp only at ha ⊢;rw[ha];exact hS2⟩
  ·obtain⟨e1,h1,h2,h3,h4,h5,h6⟩:=hps
   refine ⟨.inr ([t],q,H1),rfl,hx,⟨[],v,rfl,rfl,h6⟩,by simp,h1,h2,h3,by simp[kw];omega,by simpa using h5,fun r h=>.impK hrd h,?_⟩
   rw[e1]
   exact hS2
 case round =>
  clear hS2 hrd hps
  obtain⟨ad,m,cap,vs,s,rfl,hs⟩:=hrel
  rcases s with x|⟨xs,q,H1⟩
  ·obtain⟨hrd,H1,hx,h0,k,n,tat,te,fin,o,nd,h1,h2,h3,h4,hS⟩:=hs
   obtain⟨d,a⟩:=x
   dsimp only at *
   have hd2:(d == 0)=false:=by simp[h0]
   have hd3:(d != 0)=true:=by simp[h0]
   unfold psV at hS
   go_wp2_with ((with_reducible apply yh hS);exact ya;exact yb rfl;exact ye;rfl;decide +kernel;(try simp only[qA]))
   go_ret
   exact⟨_,rfl,.inl (d,a),hrd,.inl rfl,H1,hx,h0,k,n,tat,te,fin,o,nd,h1,h2,h3,h4,by dsimp only;unfold psV;exact hS.sb (by(repeat (with_reducible first|exact Sb.refl|(refine Sb.take (by(repeat (first|exact Rem.hd|apply Rem.tl));done) ?_)|apply Sb.skip)))⟩
  ·obtain⟨hx,hvs,hne,hq,ho,hmm,hsz,hok,hR,hS⟩:=hs
   have hM:=kf hS ye
   have hS0:=hS
   have hln:vs.length=m*1:=hS.ownLen (yd (yd ye))
   have hxl:=hvs.len
   have hml:m≤65536:=by
    have h1:=xK xs
    have h2:=hq.2.1
    omega
   have HLN:=hid hln
   have HXL:=hid hxl
   clear hln hxl
   unfold alV psV at hS
   by_cases hk:knd q=7
   ·have hkk:((yZ q.tk).1 == 7)=true:=by simpa [knd] using hk
    have MC:=ua B text q hq w0 wr (fz H1::own 53 1 ad m cap vs::R) hS0
    rcases hmk:yC q with ⟨d,a⟩|q1
    ·rw[hmk] at MC
     have hth:yx (yC q) (yM text)=.inl (d,a):=by rw[hmk];rfl
     clear hmk
     go_wp2_with ((first|((with_reducible apply yh hS);(first|with_reducible exact ya|exact yf rfl rfl);exact yb rfl;exact ye;rfl;decide +kernel)|((with_reducible apply yA hS);exact ya;exact E137;exact yb rfl;exact yN rfl;rfl;decide;clear hS;intro NB w hS)|((with_reducible apply yD hS);exact ya;exact yb rfl;exact yb rfl;exact E137;(repeat (with_reducible first|exact Rem.hd|apply Rem.tl));(repeat (with_reducible apply Rem.tl));rfl;rfl;(omega);(omega);clear hS;intro AD CAP w hS;(try simp only[Nat.zero_add,List.nil_append] at hS))|(go_at_call 75;refine MC.mono ?_;clear MC hS hS0;rintro e w ⟨rfl,hDd⟩)|(go_at_call 14;refine (Ky B text _ _ w0 _ _ hDd).mono ?_;clear hDd;rintro e w ⟨rfl,hDd⟩)|(go_at_call 76;refine (kS text _ hD B _ _ w0 _ _ hDd).mono ?_;clear hDd;rintro e w ⟨rfl,h0,k,n,tat,te,fin,o,nd,h1,h2,h3,h4,hS⟩;have hd2:(d == 0)=false:=(by simpa using h0);unfold psV at hS;dsimp only at hS));try simp only[qA])
     have hS4:Sat w0 w (blk B 51 (psV text k n tat te fin o nd d a)::fz H1::own 53 1 AD (m+1) CAP (vs++[.nilIface])::R):=by unfold psV;exact hS.sb (by(repeat (with_reducible first|exact Sb.refl|(refine Sb.take (by(repeat (first|exact Rem.hd|apply Rem.tl));done) ?_))))
     go_roundw
     case rel=>exact⟨AD,m+1,CAP,_,.inl (d,a),rfl,hR _ (.impsA hk hth),H1,hx,h0,k,n,tat,te,fin,o,nd,by omega,h2,h3,h4,hS4⟩
     case measure =>
      have:=Yg (text:=text) h0 hS4 ye
      omega
    ·have hq1o:q1.opn=q.opn∧q1.nds=q.nds+1∧meas text q1=meas text q∧knd q1=knd q:=by
      unfold yC at hmk
      split at hmk
      ·cases hmk
      ·injection hmk with hmk
       subst hmk
       exact⟨rfl,rfl,rfl,rfl⟩
     obtain⟨o1,o2,o3,o4⟩:=hq1o
     rw[hmk] at MC
     rcases had:yM text q1 with ⟨d,a⟩|q2
     ·have hth:yx (yC q) (yM text)=.inl (d,a):=by rw[hmk];exact had
      have AC:=fun w hq1 hS=>uF B text hl q1 hq1 w0 w hSig (fz H1::own 53 1 ad m cap vs::R) (List.mem_cons_of_mem _ (List.mem_cons_of_mem _ hbm)) hS
      rw[had] at AC
      clear hmk had
      go_wp2_with ((first|((with_reducible apply yh hS);(first|with_reducible exact ya|exact yf rfl rfl);exact yb rfl;exact ye;rfl;decide +kernel)|((with_reducible apply yA hS);exact ya;exact E137;exact yb rfl;exact yN rfl;rfl;decide;clear hS;intro NB w hS)|((with_reducible apply yD hS);exact ya;exact yb rfl;exact yb rfl;exact E137;(repeat (with_reducible first|exact Rem.hd|apply Rem.tl));(repeat (with_reducible apply Rem.tl));rfl;rfl;(omega);(omega);clear hS;intro AD CAP w hS;(try simp only[Nat.zero_add,List.nil_append] at hS))|(go_at_call 75;refine MC.mono ?_;clear MC hS hS0;rintro e w ⟨rfl,hq1,hS⟩)|(go_at_call 14;refine (AC _ hq1 hS).mono ?_;clear AC hS;rintro e w ⟨rfl,hDd⟩)|(go_at_call 76;refine (kS text _ hD B _ _ w0 _ _ hDd).mono ?_;clear hDd;rintro e w ⟨rfl,h0,k,n,tat,te,fin,o,nd,h1,h2,h3,h4,hS⟩;have hd2:(d == 0)=false:=(by simpa using h0);unfold psV at hS;dsimp only at hS));try simp only[qA])
      have hS4:Sat w0 w (blk B 51 (psV text k n tat te fin o nd d a)::fz H1::own 53 1 AD (m+1) CAP (vs++[.nilIface])::R):=by unfold psV;exact hS.sb (by(repeat (with_reducible first|exact Sb.refl|(refine Sb.take (by(repeat (first|exact Rem.hd|apply Rem.tl));done) ?_))))
      go_roundw
      case rel=>exact⟨AD,m+1,CAP,_,.inl (d,a),rfl,hR _ (.impsA hk hth),H1,hx,h0,k,n,tat,te,fin,o,nd,by omega,h2,h3,h4,hS4⟩
      case measure =>
       have:=Yg (text:=text) h0 hS4 ye
       omega
     ·have hth:yx (yC q) (yM text)=.inr q2:=by rw[hmk];exact had
      have AC:=fun w hq1 hS=>uF B text hl q1 hq1 w0 w hSig (fz H1::own 53 1 ad m cap vs::R) (List.mem_cons_of_mem _ (List.mem_cons_of_mem _ hbm)) hS
      rw[had] at AC
      have hms:∀ hq1:PsB text q1,meas text q2 < meas text q1∧q2.opn=q1.opn∧q2.nds=q1.nds:=fun hq1=>KX hq1 (by rw[o4,hk];decide) had
      have UA:=fun w hq2 hm2 hS=>hA B q2 w0 w (own 53 1 ad m cap vs::R) H1 hq2 hm2 hSig (List.mem_cons_of_mem _ hbm) hS
      clear hmk had
      go_wp2_with ((first|((with_reducible apply yh hS);(first|with_reducible exact ya|exact yf rfl rfl);exact yb rfl;exact ye;rfl;decide +kernel)|(go_at_call 75;refine MC.mono ?_;clear MC hS hS0;rintro e w ⟨rfl,hq1,hS⟩)|(go_at_call 14;refine (AC _ hq1 hS).mono ?_;clear AC hS;rintro e w ⟨rfl,hq2,hS⟩;obtain⟨m1,m2,m3⟩:=hms hq1;clear hms)|(go_at_call 76;refine (UA _ hq2 (by omega) hS).mono ?_;clear UA hS;rintro e w ⟨y,rfl,r3,hrd,hok3⟩;(obtain⟨k,n,tat,te,fin,o,nd,d,a,H3,hx3,hps,hoc,hS⟩:=xD hok3);clear hok3)|((with_reducible apply yA hS);exact ya;exact E137;exact yb rfl;exact yN hoc;rfl;decide;clear hS;intro B3 w hS)|((with_reducible apply yD hS);exact ya;exact yb rfl;exact yb rfl;exact E137;(repeat (with_reducible first|exact Rem.hd|apply Rem.tl));(repeat (with_reducible apply Rem.tl));rfl;(simp only[List.all_cons,List.all_nil,hoc,Bool.and_true]);omega;omega;clear hS;intro AD CAP w hS));try simp only[qA])
      have hS4:Sat w0 w (blk B 51 (psV text k n tat te fin o nd d a)::fz H3::own 53 1 AD (m+1) CAP (vs++[y])::R):=by unfold psV;exact hS.sb (by(repeat (with_reducible first|exact Sb.refl|(refine Sb.take (by(repeat (first|exact Rem.hd|apply Rem.tl));done) ?_))))
      clear hS
      rcases r3 with x|⟨t2,q3⟩
      ·obtain⟨rfl,ha,h0,h1,h2,h3,h4⟩:=hps
       go_roundw
       case rel=>exact⟨AD,m+1,CAP,_,.inl _,rfl,hR _ (.impsE hk hth hrd),H3,hx.trans hx3,h0,k,n,tat,te,fin,o,nd,by omega,h2,h3,h4,by dsimp only at ha ⊢;rw[ha];exact hS4⟩
       case measure =>
        have:=Yg (text:=text) h0 hS4 ye
        omega
      ·obtain⟨e1,c1,c2,c3,c4,c5,hi3⟩:=hps
       rw[← e1] at hS4
       go_roundw
       case rel=>exact⟨AD,m+1,CAP,_,.inr (t2::xs,q3,H3),rfl,hx.trans hx3,⟨vs,y,rfl,hvs.ext hx3,hi3⟩,by simp,c1,by omega,by omega,by
        have:0 < xs.length:=List.length_pos_iff.2 hne
        simp only[kw,List.map_cons,List.sum_cons,List.length_cons] at hsz ⊢
        omega,fun z hz=>(by rcases List.mem_cons.1 hz with rfl|hz;exact c5;exact hok z hz),fun r h=>hR r (.impsK hk hth hrd h),hS4⟩
       case measure =>
        have:=kf hS4 ye
        omega
   ·have hkk:((yZ q.tk).1 == 7)=false:=by simpa [knd] using hk
    have h0l:0 < xs.length:=List.length_pos_iff.2 hne
    have hmx:m=xs.length:=by have:=HLN.out;have:=HXL.out;omega
    obtain⟨x0,hx0⟩:∃ x0,xs[0]?=some x0:=⟨_,List.getElem?_eq_getElem h0l⟩
    obtain⟨v0,hv0,hi0⟩:=hvs.at_ 0 x0 hx0
    rw[← hmx,Nat.sub_zero] at hv0
    have h0m:0 < m:=by omega
    have HMX:=hid hmx
    clear hmx
    have hone:v0.oneCell'=true:=IfV.cell (.inr hi0.form)
    go_wp2_with ((first|((with_reducible apply yh hS);(first|with_reducible exact ya|exact yf rfl rfl);exact yb rfl;exact ye;rfl;decide +kernel)|((with_reducible apply yn);exact ya;exact yb rfl;exact yb rfl;exact E137;(omega);(omega);(exact hS.ownNN (by(repeat (with_reducible first|exact ye|apply yd))) (by omega));(simp only[qN];rfl))|((with_reducible apply yF);exact ya;exact yb rfl;(exact(hS.ownCell (by(repeat (with_reducible first|exact ye|apply yd))) (by(assumption))).1);decide +kernel));try simp only[qA])
    go_loopw [4,5] (fun x i wi=>∃ k:Nat,∃ H',k < m∧Ext H1 H'∧InT H' (jt (xs.take (k+1))) x∧((k+1=m∧i=.int .i64 (-1))∨∃ j:Nat,k+2+j=m∧i=.int .i64 j)∧Sat w0 wi (blk B 51 (alV text q)::fz H'::own 53 1 ad m cap vs::R)) (fun _ i _=>(intOf i+1).toNat)
    case atStart =>
     refine ⟨0,H1,h0m,Ext.refl _,?_,?_,hS0⟩
     ·cases xs with
      | nil=>exact(hne rfl).elim
      | cons x rest =>
       simp only[List.getElem?_cons_zero,Option.some.injEq] at hx0
       subst hx0
       exact hi0
     ·by_cases h1:m=1
      ·exact .inl ⟨by omega,by subst h1;rfl⟩
      ·exact .inr ⟨m - 2,by omega,congrArg (Value.int .i64) (by omega)⟩
    case round =>
     clear hS hS0
     obtain⟨k,H2,hk1,hx2,hiT,hj,hS⟩:=hrel
     have hS0:=hS
     unfold alV psV at hS
     rcases hj with ⟨hk2,rfl⟩|⟨j,hk2,rfl⟩
     ·have HK2:=hid hk2
      clear hk2
      go_wp2_with ((with_reducible apply yh hS);exact yf rfl rfl;exact yg;(repeat (with_reducible apply yd));rfl;decide +kernel;(try simp only[qA]))
      go_ret
      have hkm:=HK2.out
      have hall:xs.take (k+1)=xs:=List.take_of_length_le (by have:=HMX.out;omega)
      have hbd:=GK (xs:=xs) (k:=k) (m:=q.nds - p.nds) (by have:=HMX.out;omega) (by omega) hok
      rw[hall] at hbd hiT
      exact⟨_,rfl,.inr (jt xs,q),hR _ (.impsN hk),hq,ho,hmm,by have:=hbd.1;omega,hbd.2,H2,hx.trans hx2,hiT,hS0.sb (by(repeat (with_reducible first|exact Sb.refl|(refine Sb.take (by(repeat (first|exact Rem.hd|apply Rem.tl));done) ?_)|apply Sb.skip)))⟩
     ·obtain⟨y,hy⟩:∃ y,xs[k+1]?=some y:=⟨_,List.getElem?_eq_getElem (by have:=HMX.out;omega)⟩
      obtain⟨vy,hvy,hiy⟩:=hvs.at_ (k+1) y hy
      have hjx:xs.length - 1 - (k+1)=j:=by have:=HMX.out;omega
      rw[hjx] at hvy
      have hjm:j < m:=by omega
      have hbd:=GK (xs:=xs) (k:=k) (m:=q.nds - p.nds) (by have:=HMX.out;omega) (by omega) hok
      have hby:=impT_take hy
      have hys:size y≤q.nds:=by
       have h1:y∈xs:=List.mem_of_getElem? hy
       have h2:=uE h1
       omega
      have hoy:=hok y (List.mem_of_getElem? hy)
      have JM:=fun w hS=>xw 9 (by unfold i64;omega) y (jt (xs.take (k+1))) hoy.ops hbd.2.ops (by have:=hq.2.1;omega) (by have:=hq.2.1;have:=hbd.1;omega) vy _ H2 (hiy.ext hx2) hiT w0 w (blk B 51 (alV text q)::own 53 1 ad m cap vs::R) hS
      have HK2:=hid hk2
      have HBY:=hid hby
      clear hk2 hby hjx hy
      go_wp2_with ((first|((with_reducible apply yn);exact ya;exact yb rfl;exact yb rfl;exact E137;(omega);(omega);(exact hS.ownNN (by(repeat (with_reducible first|exact ye|apply yd))) (by omega));(simp only[qN];rfl))|((with_reducible apply yF);exact ya;exact yb rfl;(exact(hS.ownCell (by(repeat (with_reducible first|exact ye|apply yd))) (by(assumption))).1);decide +kernel)|(go_at_call 65;refine (JM _ (by unfold alV psV;exact hS.sb (by(repeat (with_reducible first|exact Sb.refl|(refine Sb.take (by(repeat (first|exact Rem.hd|apply Rem.tl));done) ?_)))))).mono ?_;clear hS JM;rintro e w ⟨z,rfl,H4,hx4,hi4,hS⟩));try simp only[qA])
      go_roundw
      case rel =>
       refine ⟨k+1,H4,by have:=HK2.out;omega,hx2.trans hx4,by rw[HBY.out];exact hi4,?_,hS.sb (by(repeat (with_reducible first|exact Sb.refl|(refine Sb.take (by(repeat (first|exact Rem.hd|apply Rem.tl));done) ?_))))⟩
       have:=HK2.out
       rcases j with _|j
       ·exact .inl ⟨by omega,rfl⟩
       ·exact .inr ⟨j,by omega,congrArg (Value.int .i64) (by omega)⟩
      case measure=>(simp[intOf]) <;> omega
end
end Go.Proofs.YteopodbkhgcpmaaGreatDoor
