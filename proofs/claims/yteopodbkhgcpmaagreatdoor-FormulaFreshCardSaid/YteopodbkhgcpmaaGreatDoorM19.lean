/- A part of the proof: Form7 Bld2 Form8. -/
import Derived.Test.YteopodbkhgcpmaaGreatDoorM1
import Derived.Test.YteopodbkhgcpmaaGreatDoorM2
import Derived.Test.YteopodbkhgcpmaaGreatDoorM3
import Derived.Test.YteopodbkhgcpmaaGreatDoorM7
import Derived.Test.YteopodbkhgcpmaaGreatDoorM8
import Derived.Test.YteopodbkhgcpmaaGreatDoorM10
import Derived.Test.YteopodbkhgcpmaaGreatDoorM18
set_option linter.unusedSimpArgs false
set_option linter.unusedVariables false
set_option linter.unusedSectionVars false
namespace Go.Proofs.YteopodbkhgcpmaaGreatDoor
section
set_option maxRecDepth 20000
open Go Go.RowKit Go.SL

theorem Sat.fzB {w0 w:World} {R:List HP} {b e:Nat} {cs:List Value} {H:Hp} (hS:Sat w0 w (blk b e cs::fz H::R)):∃ H',Ext H H'∧H' b=some (.cells cs.toArray e (0,0))∧Sat w0 w (fz H'::R):=hS.fzBlk
def Xy (fs:List (Int × Int)) (w0:World) (Hs:List HP) (v:Value) (w':World):Prop :=
 (v=.nilIface∧kE fs=none∧Sat w0 w' Hs)∨∃ t H,kE fs=some t∧InT H t v∧Sat w0 w' (fz H::Hs)
structure TR (fs:List (Int × Int)) (w0:World) (Hs:List HP) (k m:Nat) (ad:Option Addr) (cap:Nat) (st:List T) (vs:List Value) (H:Hp) (w:World):Prop where
 hti:TI fs k st
 hvs:Vs H st vs
 hm:m=st.length
 hk:k≤fs.length
 sat:Sat w0 w (own 53 1 ad m cap vs::fz H::Hs)

theorem treeBig (fs:List (Int × Int)) (hl:¬ fs.length≤65536) (hl2:fs.length≤9223372036854775807) (ad:Option Addr) (cap:Nat) (w0 w:World) (Hs:List HP) (hS:Sat w0 w Hs) :
  Calls Tryz.prog 38 #[.slice ad fs.length cap] w fun e w'=>∃ v,e=.returned v∧Xy fs w0 Hs v w':=by
 have h1:(fs.length:Int) > 65536:=by omega
 have HT:=hid (show kE fs=none by simp[kE,jm];omega)
 go_enter Tryz.func38,Tryz.ntmps38
 go_wp2
 go_ret
 exact⟨_,rfl,.inl ⟨rfl,HT.out,hS⟩⟩

set_option maxHeartbeats 4000000 in
theorem treeM (fs:List (Int × Int)) (hl:fs.length≤65536) (ad:Option Addr) (cap:Nat) (w0 w:World) (Hs:List HP) (hS:Sat w0 w Hs) {A:HP} (hA:A∈Hs) (hr:Rd A ad (Fs fs)) :
  Calls Tryz.prog 38 #[.slice ad fs.length cap] w fun e w'=>∃ v,e=.returned v∧Xy fs w0 Hs v w':=by
 have n1:¬ (fs.length:Int) > 65536:=by omega
 go_enter Tryz.func38,Tryz.ntmps38
 go_wp2
 go_loopw [3,15] (fun s i wr=>∃ (k m:Nat) (ad':Option Addr) (cap':Nat) (st:List T) (vs:List Value) (H:Hp),s=.slice ad' m cap'∧i=.int .i64 k∧TR fs w0 Hs k m ad' cap' st vs H wr) (fun _ i _=>fs.length - (intOf i).toNat)
 case atStart=>exact⟨0,0,none,0,[],[],_,rfl,rfl,TI.zero fs,rfl,rfl,Nat.zero_le _,(hS.fzNil).ownNil _ _⟩
 case round =>
  clear hS
  obtain⟨k,m,AD0,CAP0,st,vs,H,rfl,rfl,hR⟩:=hrel
  obtain⟨ti,hvs,hm,hk,hS⟩:=hR
  obtain⟨hb1,hb2⟩:=ti.bnd hl
  have hmb:m≤65536:=by omega
  have hmc:=(hS.ownCap ye).1
  by_cases hlt:k < fs.length
  ·obtain⟨⟨op,n⟩,hx⟩:∃ x,fs[k]?=some x:=⟨_,List.getElem?_eq_getElem hlt⟩
   have hfd:=Xw hx
   have hne:∃ aa,ad=some aa∧aa.spot=none:=Sat.rdAd2 hr hS (.tail _ (.tail _ hA)) (by rw[kJ];omega)
   have AR:=arity op n
   have HX:=hid hx
   rcases gv st op n with ⟨hs,hbad⟩|⟨rfl,ha,hs⟩|⟨rfl,ha,hs⟩|⟨a,r,rfl,rfl,ha,hs⟩|⟨a,r,rfl,hop,ha,hs⟩|⟨a,b,r,rfl,hop,ha,hs⟩|⟨c,a,b,r,rfl,rfl,ha,hs⟩
   ·have HN:=hid (show kE fs=none by rw[kE,ti.bad hx hs];rfl)
    clear hx hs
    generalize Ya op n=ar at *
    rw[← hm] at hbad
    rcases hbad with hb|⟨hb,hb'⟩
    all_goals
     go_wp2_with ((first|((with_reducible apply yn);exact ya;exact yb rfl;exact yb rfl;exact E23;(omega);(omega);(assumption);(simp only[qN];rfl))|((with_reducible apply yO hS);exact ya;exact yb rfl;assumption;(((repeat (with_reducible apply yd)));(try assumption));assumption;rfl;exact sz44;decide +kernel;decide)|((with_reducible apply yk hS);exact ya;exact z44;clear hS;intro NB w hS)|((with_reducible apply yi hS);exact ya;exact yb rfl;exact yb rfl;exact ye;rfl;(focus (simp;done));exact Upd.hd;rfl;exact sz44;rfl;clear hS;intro w hS;(try simp only[yp,qS] at hS))|((with_reducible apply yG hS);exact ya;exact yb rfl;exact ye;exact sz44;decide +kernel;rfl;rfl)|(go_at_call 62;refine (AR _ _ _ hS).mono ?_;clear hS;rintro e w ⟨rfl,hS⟩));try simp only[qA])
     go_ret
     exact⟨_,rfl,.inl ⟨rfl,HN.out,hS.drop.drop.drop⟩⟩
   ·have ti':=ti.step hx hs
    have hn:st.length=m:=hm.symm
    have hys:vs.take (m*1)=vs:=by rw[Nat.mul_one,List.take_of_length_le (by rw[hvs.len];omega)]
    have HM:=hid hm
    clear hx hs hm
    rw[ha] at AR
    go_wp2_with ((first|((with_reducible apply yn);exact ya;exact yb rfl;exact yb rfl;exact E23;(omega);(omega);(assumption);(simp only[qN];rfl))|((with_reducible apply yO hS);exact ya;exact yb rfl;assumption;(((repeat (with_reducible apply yd)));(try assumption));assumption;rfl;exact sz44;decide +kernel;decide)|((with_reducible apply yk hS);exact ya;exact z44;clear hS;intro NB w hS)|((with_reducible apply yi hS);exact ya;exact yb rfl;exact yb rfl;exact ye;rfl;(focus (simp;done));exact Upd.hd;rfl;exact sz44;rfl;clear hS;intro w hS;(try simp only[yp,qS] at hS))|((with_reducible apply yG hS);exact ya;exact yb rfl;exact ye;exact sz44;decide +kernel;rfl;rfl)|((with_reducible apply yh hS);exact ya;exact yb rfl;exact ye;rfl;decide +kernel)|(go_at_call 62;refine (AR _ _ _ hS).mono ?_;clear hS;rintro e w ⟨rfl,hS⟩)|((with_reducible apply Yn);exact ya;exact yb rfl;exact yb rfl;exact E137;(omega);(omega);(simp only[qN];rfl);(rfl);(rfl))|((with_reducible apply ko);exact ya;exact yb rfl;exact yb rfl;exact E137;(omega);(omega);(simp only[qN];rfl))|((with_reducible apply yH hS);exact ya;exact yb rfl;exact yw;clear hS;intro NB2 w hS)|((with_reducible apply yA hS);exact ya;exact E137;exact yb rfl;exact yN rfl;rfl;decide;clear hS;intro NB3 w hS)|((with_reducible apply kn hS);exact ya;exact yb rfl;exact yb rfl;exact E137;(repeat (with_reducible first|exact Rem.hd|apply Rem.tl));(repeat (with_reducible apply Rem.tl));(omega);(assumption);rfl;rfl;(omega);(omega);clear hS;intro AD CAP w hS));try simp only[qA])
    obtain⟨H',x1,x2,hS⟩:=Sat.fzB (hS.sb (L:=blk NB2 108 [.int .i64 0,.int .i64 0,.int .i64 n]::fz H::own 53 1 AD (m+1) CAP (vs++[.iface 104 (.pointer (some ⟨NB2,0,none⟩))])::Hs) (by(repeat (with_reducible first|exact Sb.refl|(refine Sb.take (by(repeat (first|exact Rem.hd|apply Rem.tl));done) ?_)|apply Sb.skip))))
    go_roundw
    case rel=>exact⟨k+1,m+1,AD,CAP,_,_,H',rfl,by go_num,ti',⟨vs,_,rfl,hvs.ext x1,⟨NB2,rfl,x2⟩⟩,by rw[HM.out];rfl,by omega,hS.front (Rem.tl Rem.hd)⟩
    case measure=>simp[intOf];omega
   ·have ti':=ti.step hx hs
    have hn:st.length=m:=hm.symm
    have hys:vs.take (m*1)=vs:=by rw[Nat.mul_one,List.take_of_length_le (by rw[hvs.len];omega)]
    have HM:=hid hm
    clear hx hs hm
    rw[ha] at AR
    go_wp2_with ((first|((with_reducible apply yn);exact ya;exact yb rfl;exact yb rfl;exact E23;(omega);(omega);(assumption);(simp only[qN];rfl))|((with_reducible apply yO hS);exact ya;exact yb rfl;assumption;(((repeat (with_reducible apply yd)));(try assumption));assumption;rfl;exact sz44;decide +kernel;decide)|((with_reducible apply yk hS);exact ya;exact z44;clear hS;intro NB w hS)|((with_reducible apply yi hS);exact ya;exact yb rfl;exact yb rfl;exact ye;rfl;(focus (simp;done));exact Upd.hd;rfl;exact sz44;rfl;clear hS;intro w hS;(try simp only[yp,qS] at hS))|((with_reducible apply yG hS);exact ya;exact yb rfl;exact ye;exact sz44;decide +kernel;rfl;rfl)|((with_reducible apply yh hS);exact ya;exact yb rfl;exact ye;rfl;decide +kernel)|(go_at_call 62;refine (AR _ _ _ hS).mono ?_;clear hS;rintro e w ⟨rfl,hS⟩)|((with_reducible apply Yn);exact ya;exact yb rfl;exact yb rfl;exact E137;(omega);(omega);(simp only[qN];rfl);(rfl);(rfl))|((with_reducible apply ko);exact ya;exact yb rfl;exact yb rfl;exact E137;(omega);(omega);(simp only[qN];rfl))|((with_reducible apply yH hS);exact ya;exact yb rfl;exact yw;clear hS;intro NB2 w hS)|((with_reducible apply yA hS);exact ya;exact E137;exact yb rfl;exact yN rfl;rfl;decide;clear hS;intro NB3 w hS)|((with_reducible apply kn hS);exact ya;exact yb rfl;exact yb rfl;exact E137;(repeat (with_reducible first|exact Rem.hd|apply Rem.tl));(repeat (with_reducible apply Rem.tl));(omega);(assumption);rfl;rfl;(omega);(omega);clear hS;intro AD CAP w hS));try simp only[qA])
    obtain⟨H',x1,x2,hS⟩:=Sat.fzB (hS.sb (L:=blk NB2 111 [.int .i64 0,.int .i64 0,.int .i64 n]::fz H::own 53 1 AD (m+1) CAP (vs++[.iface 109 (.pointer (some ⟨NB2,0,none⟩))])::Hs) (by(repeat (with_reducible first|exact Sb.refl|(refine Sb.take (by(repeat (first|exact Rem.hd|apply Rem.tl));done) ?_)|apply Sb.skip))))
    go_roundw
    case rel=>exact⟨k+1,m+1,AD,CAP,_,_,H',rfl,by go_num,ti',⟨vs,_,rfl,hvs.ext x1,⟨NB2,rfl,x2⟩⟩,by rw[HM.out];rfl,by omega,hS.front (Rem.tl Rem.hd)⟩
    case measure=>simp[intOf];omega
   ·have ti':=ti.step hx hs
    obtain⟨vs',va,rfl,hvr,hva⟩:=hvs
    obtain⟨m',hm'⟩:∃ m',m'=r.length:=⟨_,rfl⟩
    obtain rfl:m=m'+1:=by rw[hm,hm'];rfl
    have hys:(vs'++[va]).take (m'*1)=vs':=by rw[Nat.mul_one,List.take_append_of_le_length (by rw[hvr.len];omega),List.take_of_length_le (by rw[hvr.len];omega)]
    have hrd:Rd (own 53 1 AD0 (m'+1) CAP0 (vs'++[va])) (sub AD0 m' CAP0 1) [va]:=by
     have h1:=(Rd.of_own (e:=53) (size:=1) (ad:=AD0) (n:=m'+1) (cap:=CAP0) (xs:=vs'++[va])).sub (cap:=CAP0) (size:=1) m' 1 (by omega)
     have e1:((vs'++[va]).drop (m'*1)).take 1=[va]:=by rw[Nat.mul_one,List.drop_append_of_le_length (by rw[hvr.len];omega),List.drop_of_length_le (by rw[hvr.len];omega)];rfl
     rwa [e1] at h1
    obtain⟨ka,sa⟩:=hb2 a (by simp)
    have NM:=notM a ka.ops (by omega) va H hva
    have HM:=hid hm'
    clear hx hs hm hm'
    rw[ha] at AR
    go_wp2_with ((first|((with_reducible apply yn);exact ya;exact yb rfl;(first|exact yb rfl|exact yg);(with_reducible first|exact E23|exact E137);(omega);(omega);(first|exact Sat.rdAd2 (by assumption) hS (by((repeat (with_reducible first|exact ye|apply yd)));try assumption) (by(simp;done))|assumption);(simp only[qN];rfl))|((with_reducible apply yO hS);exact ya;exact yb rfl;assumption;(((repeat (with_reducible first|exact ye|apply yd)));(try assumption));assumption;rfl;exact sz44;decide +kernel;decide)|((with_reducible apply yF);exact ya;exact yb rfl;(exact Sat.rdCell2 (by assumption) hS (by((repeat (with_reducible first|exact ye|apply yd)));try assumption) (by(rfl)));decide +kernel)|((with_reducible apply yk hS);exact ya;exact z44;clear hS;intro NB w hS)|((with_reducible apply yi hS);exact ya;exact yb rfl;exact yb rfl;exact ye;rfl;(focus (simp;done));exact Upd.hd;rfl;exact sz44;rfl;clear hS;intro w hS;(try simp only[yp,qS] at hS))|((with_reducible apply yG hS);exact ya;exact yb rfl;exact ye;exact sz44;decide +kernel;rfl;rfl)|((with_reducible apply yh hS);exact ya;exact yb rfl;exact ye;rfl;decide +kernel)|(go_at_call 62;refine (AR _ _ _ hS).mono ?_;clear hS;rintro e w ⟨rfl,hS⟩)|((with_reducible apply Yn);exact ya;exact yb rfl;exact yb rfl;exact E137;(omega);(omega);(simp only[qN];rfl);(rfl);(rfl))|((with_reducible apply ko);exact ya;exact yb rfl;exact yb rfl;exact E137;(omega);(omega);(simp only[qN];rfl))|(go_at_call 63;refine (NM _ _ _ (hS.front (R:=blk NB 44 [.int .i64 3,.int .i64 n]::own 53 1 AD0 (m'+1) CAP0 (vs'++[va])::Hs) (Rem.tl (Rem.tl Rem.hd)))).mono ?_;clear hS NM;rintro e w ⟨v,rfl,H',x1,x2,hS⟩;obtain⟨Kv,bv,rfl⟩:=x2.form)|((with_reducible apply yA hS);exact ya;exact E137;exact yb rfl;exact yN rfl;rfl;decide;clear hS;intro NB3 w hS)|((with_reducible apply kn hS);exact ya;exact yb rfl;exact yb rfl;exact E137;(repeat (with_reducible first|exact Rem.hd|apply Rem.tl));(repeat (with_reducible apply Rem.tl));(omega);(assumption);rfl;rfl;(omega);(omega);clear hS;intro AD CAP w hS));try simp only[qA])
    go_roundw
    case rel=>exact⟨k+1,m'+1,AD,CAP,_,_,H',rfl,by go_num,ti',⟨vs',_,rfl,hvr.ext x1,x2⟩,by rw[HM.out];rfl,by omega,hS.sb (by(repeat (with_reducible first|exact Sb.refl|(refine Sb.take (by(repeat (first|exact Rem.hd|apply Rem.tl));done) ?_)|apply Sb.skip)))⟩
    case measure=>simp[intOf];omega
   ·have ti':=ti.step hx hs
    obtain⟨vs',va,rfl,hvr,hva⟩:=hvs
    obtain⟨m',hm'⟩:∃ m',m'=r.length:=⟨_,rfl⟩
    obtain rfl:m=m'+1:=by rw[hm,hm'];rfl
    have hys:(vs'++[va]).take (m'*1)=vs':=by rw[Nat.mul_one,List.take_append_of_le_length (by rw[hvr.len];omega),List.take_of_length_le (by rw[hvr.len];omega)]
    have hrd:Rd (own 53 1 AD0 (m'+1) CAP0 (vs'++[va])) (sub AD0 m' CAP0 1) [va]:=by
     have h1:=(Rd.of_own (e:=53) (size:=1) (ad:=AD0) (n:=m'+1) (cap:=CAP0) (xs:=vs'++[va])).sub (cap:=CAP0) (size:=1) m' 1 (by omega)
     have e1:((vs'++[va]).drop (m'*1)).take 1=[va]:=by rw[Nat.mul_one,List.drop_append_of_le_length (by rw[hvr.len];omega),List.drop_of_length_le (by rw[hvr.len];omega)];rfl
     rwa [e1] at h1
    obtain⟨ka,sa⟩:=hb2 a (by simp)
    have HM:=hid hm'
    clear hx hs hm hm'
    rw[ha] at AR
    rcases hop with rfl|rfl
    ·have QM:=uh 4 n a (by omega) va H hva
     go_wp2_with ((first|((with_reducible apply Cont.intro);(exact Or.inl (by kernel_rfl));intro hR hC)|((first|((with_reducible apply dP 0 hC hR);(simp only[qL];rfl);decide +kernel;exact iQ;exact ya)|((with_reducible apply dP 2 hC hR);(simp only[qL];rfl);decide +kernel;exact iQ;exact ya));(intro w;first|(exact yz rfl (by(exact yg)) (by assumption) (by with_reducible exact fo44_0))|(go_simp;done)|(go_simp;rw[yo (by omega) (by omega)])|(go_simp;with_reducible rfl)|(go_simp;rfl));(clear hR hC;intro hR hC))|((first|((with_reducible apply dP 4 hC hR);(simp only[qL];rfl);decide +kernel;exact iQ;exact ya)|((with_reducible apply dP 8 hC hR);(simp only[qL];rfl);decide +kernel;exact iQ;exact ya));(intro w;first|(go_simp;done)|(go_simp;rw[yo (by omega) (by omega)])|(go_simp;with_reducible rfl)|(go_simp;rfl));(clear hR hC;intro hR hC))|(((with_reducible apply dP 5 hC hR);(simp only[qL];rfl);decide +kernel;exact iQ;exact ya);(intro w;first|(with_reducible exact yu E23 rfl (by(exact yg)) (by(exact yg)) (by(omega)) (by(omega)) (by(assumption)) (by(rfl)))|(with_reducible exact yu E137 rfl (by(exact yb rfl)) (by(exact yg)) (by(omega)) (by(omega)) (by(exact Sat.rdAd2 (by assumption) hS (by((repeat (with_reducible first|exact ye|apply yd)));try assumption) (by(simp;done)))) (by(simp only[qN];rfl)))|(go_simp;done)|(go_simp;rw[yo (by omega) (by omega)])|(go_simp;with_reducible rfl));(clear hR hC;intro hR hC))|((first|((with_reducible apply dR 1 hC hR);(simp only[qL];rfl);decide +kernel;exact iQ;exact ya)|((with_reducible apply dR 3 hC hR);(simp only[qL];rfl);decide +kernel;exact iQ;exact ya)|((with_reducible apply dR 6 hC hR);(simp only[qL];rfl);decide +kernel;exact iQ;exact ya));(intro w hS;(apply yj rfl (by(exact yb rfl)));first|exact yc (by decide +kernel) (hS.cell (by(exact ye)) rfl)|exact yc (by decide +kernel) ((hS.ownCell (by(repeat (with_reducible apply yd))) (by(rfl))).1)|exact yc (by decide +kernel) (Sat.rdCell2 (by assumption) hS (by((repeat (with_reducible first|exact ye|apply yd)));try assumption) (by(rfl)))|exact yc (by decide +kernel) (hS.baseCell (by((repeat (with_reducible apply yd)));try assumption) (by assumption))|exact yc (by decide +kernel) (fzC (by assumption) hS (by((repeat (with_reducible apply yd)));try assumption))|exact yl hS (by assumption) (by((repeat (with_reducible apply yd)));try assumption) (by assumption) (by rfl) (by with_reducible exact sz44) (by decide +kernel) (by decide)|exact hS.loadWhole (by(repeat (with_reducible apply yd))) (by kernel_rfl) (by kernel_rfl));(clear hR hC;intro hR hC))|((with_reducible apply yq (i:=7));(simp only[qL];rfl);decide +kernel;exact hC;clear hR hC)|((with_reducible apply ym);decide +kernel;clear hR hC)|(refine yt 20 9 hS (by kernel_rfl) [7] rfl ?_;clear hS;intro w hS hR hC)|((with_reducible apply yn);exact ya;exact yb rfl;exact yb rfl;exact E23;(omega);(omega);(assumption);(simp only[qN];rfl))|((with_reducible apply yO hS);exact ya;exact yb rfl;assumption;(((repeat (with_reducible apply yd)));(try assumption));assumption;rfl;exact sz44;decide +kernel;decide)|((with_reducible apply yk hS);exact ya;exact z44;clear hS;intro NB w hS)|((with_reducible apply yi hS);exact ya;exact yb rfl;exact yb rfl;exact ye;rfl;(focus (simp;done));exact Upd.hd;rfl;exact sz44;rfl;clear hS;intro w hS;(try simp only[yp,qS] at hS))|((with_reducible apply yG hS);exact ya;exact yb rfl;exact ye;exact sz44;decide +kernel;rfl;rfl)|((with_reducible apply yh hS);exact ya;exact yb rfl;exact ye;rfl;decide +kernel)|(go_at_call 62;refine (AR _ _ _ hS).mono ?_;clear hS;rintro e w ⟨rfl,hS⟩)|((with_reducible apply Yn);exact ya;exact yb rfl;exact yb rfl;exact E137;(omega);(omega);(simp only[qN];rfl);(rfl);(rfl))|((with_reducible apply ko);exact ya;exact yb rfl;exact yb rfl;exact E137;(omega);(omega);(simp only[qN];rfl))|(go_at_call 64;refine (QM _ _ _ (hS.front (R:=blk NB 44 [.int .i64 4,.int .i64 n]::own 53 1 AD0 (m'+1) CAP0 (vs'++[va])::Hs) (Rem.tl (Rem.tl Rem.hd)))).mono ?_;clear hS QM;rintro e w ⟨v,rfl,H',x1,x2,hS⟩;obtain⟨Kv,bv,rfl⟩:=x2.form)|((with_reducible apply yA hS);exact ya;exact E137;exact yb rfl;exact yN rfl;rfl;decide;clear hS;intro NB3 w hS)|((with_reducible apply kn hS);exact ya;exact yb rfl;exact yb rfl;exact E137;(repeat (with_reducible first|exact Rem.hd|apply Rem.tl));(repeat (with_reducible apply Rem.tl));(omega);(assumption);rfl;rfl;(omega);(omega);clear hS;intro AD CAP w hS));try simp only[qA])
     go_roundw
     case rel=>exact⟨k+1,m'+1,AD,CAP,_,_,H',rfl,by go_num,ti',⟨vs',_,rfl,hvr.ext x1,x2⟩,by rw[HM.out];rfl,by omega,hS.sb (by(repeat (with_reducible first|exact Sb.refl|(refine Sb.take (by(repeat (first|exact Rem.hd|apply Rem.tl));done) ?_)|apply Sb.skip)))⟩
     case measure=>simp[intOf];omega
    ·have QM:=uh 5 n a (by omega) va H hva
     go_wp2_with ((first|((with_reducible apply Cont.intro);(exact Or.inl (by kernel_rfl));intro hR hC)|((first|((with_reducible apply dP 0 hC hR);(simp only[qL];rfl);decide +kernel;exact iQ;exact ya)|((with_reducible apply dP 2 hC hR);(simp only[qL];rfl);decide +kernel;exact iQ;exact ya));(intro w;first|(exact yz rfl (by(exact yg)) (by assumption) (by with_reducible exact fo44_0))|(go_simp;done)|(go_simp;rw[yo (by omega) (by omega)])|(go_simp;with_reducible rfl)|(go_simp;rfl));(clear hR hC;intro hR hC))|((first|((with_reducible apply dP 4 hC hR);(simp only[qL];rfl);decide +kernel;exact iQ;exact ya)|((with_reducible apply dP 8 hC hR);(simp only[qL];rfl);decide +kernel;exact iQ;exact ya));(intro w;first|(go_simp;done)|(go_simp;rw[yo (by omega) (by omega)])|(go_simp;with_reducible rfl)|(go_simp;rfl));(clear hR hC;intro hR hC))|(((with_reducible apply dP 5 hC hR);(simp only[qL];rfl);decide +kernel;exact iQ;exact ya);(intro w;first|(with_reducible exact yu E23 rfl (by(exact yg)) (by(exact yg)) (by(omega)) (by(omega)) (by(assumption)) (by(rfl)))|(with_reducible exact yu E137 rfl (by(exact yb rfl)) (by(exact yg)) (by(omega)) (by(omega)) (by(exact Sat.rdAd2 (by assumption) hS (by((repeat (with_reducible first|exact ye|apply yd)));try assumption) (by(simp;done)))) (by(simp only[qN];rfl)))|(go_simp;done)|(go_simp;rw[yo (by omega) (by omega)])|(go_simp;with_reducible rfl));(clear hR hC;intro hR hC))|((first|((with_reducible apply dR 1 hC hR);(simp only[qL];rfl);decide +kernel;exact iQ;exact ya)|((with_reducible apply dR 3 hC hR);(simp only[qL];rfl);decide +kernel;exact iQ;exact ya)|((with_reducible apply dR 6 hC hR);(simp only[qL];rfl);decide +kernel;exact iQ;exact ya));(intro w hS;(apply yj rfl (by(exact yb rfl)));first|exact yc (by decide +kernel) (hS.cell (by(exact ye)) rfl)|exact yc (by decide +kernel) ((hS.ownCell (by(repeat (with_reducible apply yd))) (by(rfl))).1)|exact yc (by decide +kernel) (Sat.rdCell2 (by assumption) hS (by((repeat (with_reducible first|exact ye|apply yd)));try assumption) (by(rfl)))|exact yc (by decide +kernel) (hS.baseCell (by((repeat (with_reducible apply yd)));try assumption) (by assumption))|exact yc (by decide +kernel) (fzC (by assumption) hS (by((repeat (with_reducible apply yd)));try assumption))|exact yl hS (by assumption) (by((repeat (with_reducible apply yd)));try assumption) (by assumption) (by rfl) (by with_reducible exact sz44) (by decide +kernel) (by decide)|exact hS.loadWhole (by(repeat (with_reducible apply yd))) (by kernel_rfl) (by kernel_rfl));(clear hR hC;intro hR hC))|((with_reducible apply yq (i:=7));(simp only[qL];rfl);decide +kernel;exact hC;clear hR hC)|((with_reducible apply ym);decide +kernel;clear hR hC)|(refine yt 20 9 hS (by kernel_rfl) [7] rfl ?_;clear hS;intro w hS hR hC)|((with_reducible apply yn);exact ya;exact yb rfl;exact yb rfl;exact E23;(omega);(omega);(assumption);(simp only[qN];rfl))|((with_reducible apply yO hS);exact ya;exact yb rfl;assumption;(((repeat (with_reducible apply yd)));(try assumption));assumption;rfl;exact sz44;decide +kernel;decide)|((with_reducible apply yk hS);exact ya;exact z44;clear hS;intro NB w hS)|((with_reducible apply yi hS);exact ya;exact yb rfl;exact yb rfl;exact ye;rfl;(focus (simp;done));exact Upd.hd;rfl;exact sz44;rfl;clear hS;intro w hS;(try simp only[yp,qS] at hS))|((with_reducible apply yG hS);exact ya;exact yb rfl;exact ye;exact sz44;decide +kernel;rfl;rfl)|((with_reducible apply yh hS);exact ya;exact yb rfl;exact ye;rfl;decide +kernel)|(go_at_call 62;refine (AR _ _ _ hS).mono ?_;clear hS;rintro e w ⟨rfl,hS⟩)|((with_reducible apply Yn);exact ya;exact yb rfl;exact yb rfl;exact E137;(omega);(omega);(simp only[qN];rfl);(rfl);(rfl))|((with_reducible apply ko);exact ya;exact yb rfl;exact yb rfl;exact E137;(omega);(omega);(simp only[qN];rfl))|(go_at_call 64;refine (QM _ _ _ (hS.front (R:=blk NB 44 [.int .i64 5,.int .i64 n]::own 53 1 AD0 (m'+1) CAP0 (vs'++[va])::Hs) (Rem.tl (Rem.tl Rem.hd)))).mono ?_;clear hS QM;rintro e w ⟨v,rfl,H',x1,x2,hS⟩;obtain⟨Kv,bv,rfl⟩:=x2.form)|((with_reducible apply yA hS);exact ya;exact E137;exact yb rfl;exact yN rfl;rfl;decide;clear hS;intro NB3 w hS)|((with_reducible apply kn hS);exact ya;exact yb rfl;exact yb rfl;exact E137;(repeat (with_reducible first|exact Rem.hd|apply Rem.tl));(repeat (with_reducible apply Rem.tl));(omega);(assumption);rfl;rfl;(omega);(omega);clear hS;intro AD CAP w hS));try simp only[qA])
     go_roundw
     case rel=>exact⟨k+1,m'+1,AD,CAP,_,_,H',rfl,by go_num,ti',⟨vs',_,rfl,hvr.ext x1,x2⟩,by rw[HM.out];rfl,by omega,hS.sb (by(repeat (with_reducible first|exact Sb.refl|(refine Sb.take (by(repeat (first|exact Rem.hd|apply Rem.tl));done) ?_)|apply Sb.skip)))⟩
     case measure=>simp[intOf];omega
   ·have ti':=ti.step hx hs
    obtain⟨vs1,vb,rfl,⟨vs',va,rfl,hvr,hva⟩,hvb⟩:=hvs
    obtain⟨m',hm'⟩:∃ m',m'=r.length:=⟨_,rfl⟩
    obtain rfl:m=m'+2:=by rw[hm,hm'];rfl
    have hlv:vs'.length=m':=by rw[hvr.len,hm']
    have hys:(vs'++[va]++[vb]).take (m'*1)=vs':=by rw[Nat.mul_one,List.append_assoc,List.take_append_of_le_length (by omega),List.take_of_length_le (by omega)]
    have hrd:Rd (own 53 1 AD0 (m'+2) CAP0 (vs'++[va]++[vb])) (sub AD0 m' CAP0 1) [va,vb]:=by
     have h1:=(Rd.of_own (e:=53) (size:=1) (ad:=AD0) (n:=m'+2) (cap:=CAP0) (xs:=vs'++[va]++[vb])).sub (cap:=CAP0) (size:=1) m' 2 (by omega)
     have e1:((vs'++[va]++[vb]).drop (m'*1)).take 2=[va,vb]:=by rw[Nat.mul_one,List.append_assoc,List.drop_append_of_le_length (by omega),List.drop_of_length_le (by omega)];rfl
     rwa [e1] at h1
    obtain⟨ka,sa⟩:=hb2 a (by simp)
    obtain⟨kb,sb⟩:=hb2 b (by simp)
    have g1:(op == 1)=false:=by simp;omega
    have g2:(op == 2)=false:=by simp;omega
    have g3:(op == 3)=false:=by simp;omega
    have JM:=xw op (by unfold i64;omega) a b ka.ops kb.ops (by omega) (by omega) va vb H hva hvb
    have HM:=hid hm'
    clear hx hs hm hm' hlv hop
    rw[ha] at AR
    go_wp2_with ((first|((with_reducible apply Cont.intro);(exact Or.inl (by kernel_rfl));intro hR hC)|(((with_reducible apply dP 0 hC hR);(simp only[qL];rfl);decide +kernel;exact iQ;exact ya);(intro w;first|(exact yz rfl (by(exact yg)) (by assumption) (by with_reducible exact fo44_0))|(go_simp;done)|(go_simp;rw[yo (by omega) (by omega)])|(go_simp;with_reducible rfl)|(go_simp;rfl));(clear hR hC;intro hR hC))|((first|((with_reducible apply dP 2 hC hR);(simp only[qL];rfl);decide +kernel;exact iQ;exact ya)|((with_reducible apply dP 5 hC hR);(simp only[qL];rfl);decide +kernel;exact iQ;exact ya)|((with_reducible apply dP 9 hC hR);(simp only[qL];rfl);decide +kernel;exact iQ;exact ya));(intro w;first|(go_simp;done)|(go_simp;rw[yo (by omega) (by omega)])|(go_simp;with_reducible rfl)|(go_simp;rfl));(clear hR hC;intro hR hC))|((first|((with_reducible apply dP 3 hC hR);(simp only[qL];rfl);decide +kernel;exact iQ;exact ya)|((with_reducible apply dP 6 hC hR);(simp only[qL];rfl);decide +kernel;exact iQ;exact ya));(intro w;first|(with_reducible exact yu E23 rfl (by(exact yg)) (by(exact yg)) (by(omega)) (by(omega)) (by(assumption)) (by(rfl)))|(with_reducible exact yu E137 rfl (by(exact yb rfl)) (by(exact yg)) (by(omega)) (by(omega)) (by(exact Sat.rdAd2 (by assumption) hS (by((repeat (with_reducible first|exact ye|apply yd)));try assumption) (by(simp;done)))) (by(simp only[qN];rfl)))|(go_simp;done)|(go_simp;rw[yo (by omega) (by omega)])|(go_simp;with_reducible rfl));(clear hR hC;intro hR hC))|((first|((with_reducible apply dR 1 hC hR);(simp only[qL];rfl);decide +kernel;exact iQ;exact ya)|((with_reducible apply dR 4 hC hR);(simp only[qL];rfl);decide +kernel;exact iQ;exact ya)|((with_reducible apply dR 7 hC hR);(simp only[qL];rfl);decide +kernel;exact iQ;exact ya));(intro w hS;(apply yj rfl (by(exact yb rfl)));first|exact yc (by decide +kernel) (hS.cell (by(repeat (with_reducible first|exact ye|apply yd))) rfl)|exact yc (by decide +kernel) ((hS.ownCell (by(repeat (with_reducible apply yd))) (by(rfl))).1)|exact yc (by decide +kernel) (Sat.rdCell2 (by assumption) hS (by((repeat (with_reducible first|exact ye|apply yd)));try assumption) (by(rfl)))|exact yc (by decide +kernel) (hS.baseCell (by((repeat (with_reducible apply yd)));try assumption) (by assumption))|exact yc (by decide +kernel) (fzC (by assumption) hS (by((repeat (with_reducible apply yd)));try assumption))|exact yl hS (by assumption) (by((repeat (with_reducible apply yd)));try assumption) (by assumption) (by rfl) (by with_reducible exact sz44) (by decide +kernel) (by decide)|exact hS.loadWhole (by(repeat (with_reducible apply yd))) (by kernel_rfl) (by kernel_rfl));(clear hR hC;intro hR hC))|((with_reducible apply yq (i:=8));(simp only[qL];rfl);decide +kernel;exact hC;clear hR hC)|((with_reducible apply ym);decide +kernel;clear hR hC)|(refine yt 22 10 hS (by kernel_rfl) [8] rfl ?_;clear hS;intro w hS hR hC)|((with_reducible apply yn);exact ya;exact yb rfl;exact yb rfl;exact E23;(omega);(omega);(assumption);(simp only[qN];rfl))|((with_reducible apply yO hS);exact ya;exact yb rfl;assumption;(((repeat (with_reducible apply yd)));(try assumption));assumption;rfl;exact sz44;decide +kernel;decide)|((with_reducible apply yk hS);exact ya;exact z44;clear hS;intro NB w hS)|((with_reducible apply yi hS);exact ya;exact yb rfl;exact yb rfl;exact ye;rfl;(focus (simp;done));exact Upd.hd;rfl;exact sz44;rfl;clear hS;intro w hS;(try simp only[yp,qS] at hS))|((with_reducible apply yG hS);exact ya;exact yb rfl;exact ye;exact sz44;decide +kernel;rfl;rfl)|((with_reducible apply yh hS);exact ya;exact yb rfl;exact ye;rfl;decide +kernel)|(go_at_call 62;refine (AR _ _ _ hS).mono ?_;clear hS;rintro e w ⟨rfl,hS⟩)|((with_reducible apply Yn);exact ya;exact yb rfl;exact yb rfl;exact E137;(omega);(omega);(simp only[qN];rfl);(rfl);(rfl))|((with_reducible apply ko);exact ya;exact yb rfl;exact yb rfl;exact E137;(omega);(omega);(simp only[qN];rfl))|(go_at_call 65;refine (JM _ _ _ (hS.front (R:=blk NB 44 [.int .i64 op,.int .i64 n]::own 53 1 AD0 (m'+2) CAP0 (vs'++[va]++[vb])::Hs) (Rem.tl (Rem.tl Rem.hd)))).mono ?_;clear hS JM;rintro e w ⟨v,rfl,H',x1,x2,hS⟩;obtain⟨Kv,bv,rfl⟩:=x2.form)|((with_reducible apply yA hS);exact ya;exact E137;exact yb rfl;exact yN rfl;rfl;decide;clear hS;intro NB3 w hS)|((with_reducible apply kn hS);exact ya;exact yb rfl;exact yb rfl;exact E137;(repeat (with_reducible first|exact Rem.hd|apply Rem.tl));(repeat (with_reducible apply Rem.tl));(omega);(assumption);rfl;rfl;(omega);(omega);clear hS;intro AD CAP w hS));try simp only[qA])
    go_roundw
    case rel=>exact⟨k+1,m'+1,AD,CAP,_,_,H',rfl,by go_num,ti',⟨vs',_,rfl,hvr.ext x1,x2⟩,by rw[HM.out];rfl,by omega,hS.sb (by(repeat (with_reducible first|exact Sb.refl|(refine Sb.take (by(repeat (first|exact Rem.hd|apply Rem.tl));done) ?_)|apply Sb.skip)))⟩
    case measure=>simp[intOf];omega
   ·have ti':=ti.step hx hs
    obtain⟨vs2,vb,rfl,⟨vs1,va,rfl,⟨vs',vc,rfl,hvr,hvc⟩,hva⟩,hvb⟩:=hvs
    obtain⟨m',hm'⟩:∃ m',m'=r.length:=⟨_,rfl⟩
    obtain rfl:m=m'+3:=by rw[hm,hm'];rfl
    have hlv:vs'.length=m':=by rw[hvr.len,hm']
    have hys:(vs'++[vc]++[va]++[vb]).take (m'*1)=vs':=by rw[Nat.mul_one,List.append_assoc,List.append_assoc,List.take_append_of_le_length (by omega),List.take_of_length_le (by omega)]
    have hrd:Rd (own 53 1 AD0 (m'+3) CAP0 (vs'++[vc]++[va]++[vb])) (sub AD0 m' CAP0 1) [vc,va,vb]:=by
     have h1:=(Rd.of_own (e:=53) (size:=1) (ad:=AD0) (n:=m'+3) (cap:=CAP0) (xs:=vs'++[vc]++[va]++[vb])).sub (cap:=CAP0) (size:=1) m' 3 (by omega)
     have e1:((vs'++[vc]++[va]++[vb]).drop (m'*1)).take 3=[vc,va,vb]:=by rw[Nat.mul_one,List.append_assoc,List.append_assoc,List.drop_append_of_le_length (by omega),List.drop_of_length_le (by omega)];rfl
     rwa [e1] at h1
    obtain⟨kc,sc⟩:=hb2 c (by simp)
    obtain⟨ka,sa⟩:=hb2 a (by simp)
    obtain⟨kb,sb⟩:=hb2 b (by simp)
    have IM:=iteM c a b (by omega) (by omega) (by omega) vc va vb H hvc hva hvb
    have HM:=hid hm'
    clear hx hs hm hm' hlv
    rw[ha] at AR
    go_wp2_with ((first|((with_reducible apply Cont.intro);(exact Or.inl (by kernel_rfl));intro hR hC)|((first|((with_reducible apply dP 0 hC hR);(simp only[qL];rfl);decide +kernel;exact iQ;exact ya)|((with_reducible apply dP 3 hC hR);(simp only[qL];rfl);decide +kernel;exact iQ;exact ya)|((with_reducible apply dP 6 hC hR);(simp only[qL];rfl);decide +kernel;exact iQ;exact ya)|((with_reducible apply dP 10 hC hR);(simp only[qL];rfl);decide +kernel;exact iQ;exact ya));(intro w;first|(go_simp;done)|(go_simp;rw[yo (by omega) (by omega)])|(go_simp;with_reducible rfl)|(go_simp;rfl));(clear hR hC;intro hR hC))|((first|((with_reducible apply dP 1 hC hR);(simp only[qL];rfl);decide +kernel;exact iQ;exact ya)|((with_reducible apply dP 4 hC hR);(simp only[qL];rfl);decide +kernel;exact iQ;exact ya)|((with_reducible apply dP 7 hC hR);(simp only[qL];rfl);decide +kernel;exact iQ;exact ya));(intro w;first|(with_reducible exact yu E23 rfl (by(exact yg)) (by(exact yg)) (by(omega)) (by(omega)) (by(assumption)) (by(rfl)))|(with_reducible exact yu E137 rfl (by(exact yb rfl)) (by(exact yg)) (by(omega)) (by(omega)) (by(exact Sat.rdAd2 (by assumption) hS (by((repeat (with_reducible first|exact ye|apply yd)));try assumption) (by(simp;done)))) (by(simp only[qN];rfl)))|(go_simp;done)|(go_simp;rw[yo (by omega) (by omega)])|(go_simp;with_reducible rfl));(clear hR hC;intro hR hC))|((first|((with_reducible apply dR 2 hC hR);(simp only[qL];rfl);decide +kernel;exact iQ;exact ya)|((with_reducible apply dR 5 hC hR);(simp only[qL];rfl);decide +kernel;exact iQ;exact ya)|((with_reducible apply dR 8 hC hR);(simp only[qL];rfl);decide +kernel;exact iQ;exact ya));(intro w hS;(apply yj rfl (by(exact yb rfl)));first|exact yc (by decide +kernel) (hS.cell (by(repeat (with_reducible first|exact ye|apply yd))) rfl)|exact yc (by decide +kernel) ((hS.ownCell (by(repeat (with_reducible apply yd))) (by(rfl))).1)|exact yc (by decide +kernel) (Sat.rdCell2 (by assumption) hS (by((repeat (with_reducible first|exact ye|apply yd)));try assumption) (by(rfl)))|exact yc (by decide +kernel) (hS.baseCell (by((repeat (with_reducible apply yd)));try assumption) (by assumption))|exact yc (by decide +kernel) (fzC (by assumption) hS (by((repeat (with_reducible apply yd)));try assumption))|exact yl hS (by assumption) (by((repeat (with_reducible apply yd)));try assumption) (by assumption) (by rfl) (by with_reducible exact sz44) (by decide +kernel) (by decide)|exact hS.loadWhole (by(repeat (with_reducible apply yd))) (by kernel_rfl) (by kernel_rfl));(clear hR hC;intro hR hC))|((with_reducible apply yq (i:=9));(simp only[qL];rfl);decide +kernel;exact hC;clear hR hC)|((with_reducible apply ym);decide +kernel;clear hR hC)|(refine yt 12 11 hS (by kernel_rfl) [9] rfl ?_;clear hS;intro w hS hR hC)|((with_reducible apply yn);exact ya;exact yb rfl;exact yb rfl;exact E23;(omega);(omega);(assumption);(simp only[qN];rfl))|((with_reducible apply yO hS);exact ya;exact yb rfl;assumption;(((repeat (with_reducible apply yd)));(try assumption));assumption;rfl;exact sz44;decide +kernel;decide)|((with_reducible apply yk hS);exact ya;exact z44;clear hS;intro NB w hS)|((with_reducible apply yi hS);exact ya;exact yb rfl;exact yb rfl;exact ye;rfl;(focus (simp;done));exact Upd.hd;rfl;exact sz44;rfl;clear hS;intro w hS;(try simp only[yp,qS] at hS))|((with_reducible apply yG hS);exact ya;exact yb rfl;exact ye;exact sz44;decide +kernel;rfl;rfl)|((with_reducible apply yh hS);exact ya;exact yb rfl;exact ye;rfl;decide +kernel)|(go_at_call 62;refine (AR _ _ _ hS).mono ?_;clear hS;rintro e w ⟨rfl,hS⟩)|((with_reducible apply Yn);exact ya;exact yb rfl;exact yb rfl;exact E137;(omega);(omega);(simp only[qN];rfl);(rfl);(rfl))|((with_reducible apply ko);exact ya;exact yb rfl;exact yb rfl;exact E137;(omega);(omega);(simp only[qN];rfl))|(go_at_call 66;refine (IM _ _ _ (hS.front (R:=blk NB 44 [.int .i64 11,.int .i64 n]::own 53 1 AD0 (m'+3) CAP0 (vs'++[vc]++[va]++[vb])::Hs) (Rem.tl (Rem.tl Rem.hd)))).mono ?_;clear hS IM;rintro e w ⟨v,rfl,H',x1,x2,hS⟩;obtain⟨Kv,bv,rfl⟩:=x2.form)|((with_reducible apply yA hS);exact ya;exact E137;exact yb rfl;exact yN rfl;rfl;decide;clear hS;intro NB3 w hS)|((with_reducible apply kn hS);exact ya;exact yb rfl;exact yb rfl;exact E137;(repeat (with_reducible first|exact Rem.hd|apply Rem.tl));(repeat (with_reducible apply Rem.tl));(omega);(assumption);rfl;rfl;(omega);(omega);clear hS;intro AD CAP w hS));try simp only[qA])
    go_roundw
    case rel=>exact⟨k+1,m'+1,AD,CAP,_,_,H',rfl,by go_num,ti',⟨vs',_,rfl,hvr.ext x1,x2⟩,by rw[HM.out];rfl,by omega,hS.sb (by(repeat (with_reducible first|exact Sb.refl|(refine Sb.take (by(repeat (first|exact Rem.hd|apply Rem.tl));done) ?_)|apply Sb.skip)))⟩
    case measure=>simp[intOf];omega
  ·have hk2:k=fs.length:=by omega
   subst hk2
   have hbt:∀ t,st=[t]→size t≤65536:=fun t e=>(hb2 t (by simp[e])).2
   rcases ti.done hl with ⟨t,rfl,hq⟩|⟨hne,hq⟩
   ·obtain⟨vs',va,rfl,rfl,hva⟩:=hvs
    obtain⟨l1,l2,l3,l4⟩:=Yy t
    have hst:=hbt t rfl
    obtain rfl:m=1:=by rw[hm];rfl
    simp only[List.nil_append] at hS
    by_cases hd:(look t).1 > 64
    ·have HN:=hid (show kE fs=none by rw[kE,hq];simp[hd])
     clear hq ti hm
     go_wp2_with ((first|((with_reducible apply yn);exact yf rfl rfl;exact yb rfl;exact yg;exact E137;(omega);(omega);(exact hS.ownNN (by(exact ye)) (by omega));(simp only[qN];rfl))|((with_reducible apply yF);exact yf rfl rfl;exact yb rfl;(exact(hS.ownCell (by(exact ye)) (by(rfl))).1);decide +kernel)|((with_reducible apply jE hS);rfl;exact yb rfl;exact hva;(repeat (with_reducible first|exact ye|apply yd));clear hS;intro w hS)|((with_reducible apply Kz);exact yf rfl rfl;exact yb rfl;exact Jx;rfl));try simp only[qA])
     go_ret
     exact⟨_,rfl,.inl ⟨rfl,HN.out,hS.drop.drop⟩⟩
    ·have HN:=hid (show kE fs=some t by rw[kE,hq];simp[hd])
     obtain⟨Kv,bv,rfl⟩:=hva.form
     clear hq ti hm
     go_wp2_with ((first|((with_reducible apply yn);(first|with_reducible exact ya|exact yf rfl rfl);exact yb rfl;exact yg;exact E137;(omega);(omega);(exact hS.ownNN (by(exact ye)) (by omega));(simp only[qN];rfl))|((with_reducible apply yF);(first|with_reducible exact ya|exact yf rfl rfl);exact yb rfl;(exact(hS.ownCell (by(exact ye)) (by(rfl))).1);decide +kernel)|((with_reducible apply jE hS);rfl;exact yb rfl;exact hva;(repeat (with_reducible first|exact ye|apply yd));clear hS;intro w hS)|((with_reducible apply Kz);exact yf rfl rfl;exact yb rfl;exact Jx;rfl));try simp only[qA])
     go_ret
     exact⟨_,rfl,.inr ⟨t,H,HN.out,hva,hS.drop⟩⟩
   ·have HN:=hid (show kE fs=none by rw[kE,hq];rfl)
    have hm1:¬ (m:Int)=1:=by omega
    have hm2:((m:Int) == 1)=false:=by simp;omega
    clear hq ti hne hm
    go_wp2
    go_ret
    exact⟨_,rfl,.inl ⟨rfl,HN.out,hS.drop.drop⟩⟩
end
section
set_option maxRecDepth 20000
open Go Go.RowKit Go.SL

theorem bldByte (b:Nat) (l:List UInt8) (c:UInt8) (w0 w:World) (Hs Hs':List HP) (hS:Sat w0 w Hs) (u:Upd Hs (bld b l) (bld b (l++[c])) Hs') (hl:l.length+1≤140737488355328) :
  Calls Tryz.prog 70 #[.pointer (some ⟨b,0,none⟩),.int .u8 c.toNat] w fun e w'=>e=.returned .nilIface∧Sat w0 w' Hs':=by
 obtain⟨R,r1,r2⟩:=u.rem
 obtain⟨p,ad,cap,hp,hS⟩:=JD (Hs:=Hs) (hS.front r1)
 go_enter Tryz.func70,Tryz.ntmps70
 go_wp2_with ((first|(go_at_call 85;refine (xo b p hp _ _ _ _ hS).mono ?_;clear hS;rintro e w ⟨rfl,hS⟩)|((with_reducible apply yh hS);exact ya;exact yb rfl;exact ye;rfl;decide +kernel)|((with_reducible apply yy hS);exact ya;exact yb rfl;exact yb rfl;(repeat (with_reducible first|exact ye|apply yd));rfl;(focus (simp;done));(repeat (with_reducible first|exact Upd.hd|apply Upd.tl));rfl;decide +kernel;clear hS;intro w hS;(try simp only[qS] at hS))|((with_reducible apply yA hS);exact ya;exact E92;exact yb rfl;exact yN rfl;rfl;decide;clear hS;intro NB w hS)|((with_reducible apply yD hS);exact ya;exact yb rfl;exact yb rfl;exact E92;(repeat (with_reducible first|exact Rem.hd|apply Rem.tl));(repeat (with_reducible apply Rem.tl));rfl;rfl;(omega);(omega);clear hS;intro AD CAP w hS;(try simp only[Nat.zero_add,List.nil_append] at hS)));try simp only[qA])
 go_ret
 have hb:Bs l++[Value.int .u8 c.toNat]=Bs (l++[c]):=by rw[xh];rfl
 rw[hb] at hS
 exact⟨rfl,Sat.put (JK (ad:=AD) (cap:=CAP) (.inr rfl) (by simp) (hS.front (Rem.tl Rem.hd))) r2⟩
theorem Ug (b:Bool) (w0 w:World) (Hs:List HP) (hS:Sat w0 w Hs) :
  Calls Tryz.prog 68 #[.bool b] w fun e w'=>e=.returned (.string ⟨(if b then [116,114,117,101] else [102,97,108,115,101]:List UInt8).toArray⟩)∧Sat w0 w' Hs:=by
 cases b
 all_goals
  go_enter Tryz.func68,Tryz.ntmps68
  go_wp2
  go_ret
  exact⟨rfl,hS⟩
theorem kz (b:Nat) (l s:List UInt8) (w0 w:World) (R:List HP) (hS:Sat w0 w (bld b l::R)) (hl:l.length+s.length≤140737488355328) :
  Calls Tryz.prog 67 #[.pointer (some ⟨b,0,none⟩),.string ⟨s.toArray⟩] w fun e w'=>e=.returned (.tuple #[.int .i64 s.length,.nilIface])∧Sat w0 w' (bld b (l++s)::R) :=
 (bldWrite b l ⟨s.toArray⟩ w0 w (bld b l::R) _ hS Upd.hd (by simpa [ByteArray.size] using hl)).mono fun e w' ⟨h1,h2⟩=>⟨by simpa [ByteArray.size] using h1,by simpa using h2⟩
theorem Jw (b:Nat) (l:List UInt8) (c:UInt8) (n:Int) (hn:n=c.toNat) (w0 w:World) (R:List HP) (hS:Sat w0 w (bld b l::R)) (hl:l.length+1≤140737488355328) :
  Calls Tryz.prog 70 #[.pointer (some ⟨b,0,none⟩),.int .u8 n] w fun e w'=>e=.returned .nilIface∧Sat w0 w' (bld b (l++[c])::R):=by
 subst hn
 exact bldByte b l c w0 w _ _ hS Upd.hd hl
end
section
set_option maxRecDepth 20000
open Go Go.RowKit Go.SL

/-! ### A value is one tree -/
theorem At.inj {H:Hp} {v:Value} {K K' S S':TypeId} {cs cs':List Value} (h:At H v K S cs) (h':At H v K' S' cs'):K=K'∧S=S'∧cs=cs':=by
 obtain⟨b,rfl,h1⟩:=h
 obtain⟨b',e,h2⟩:=h'
 simp only[Value.iface.injEq,Value.pointer.injEq,Option.some.injEq,Addr.mk.injEq] at e
 obtain⟨rfl,rfl,_⟩:=e
 rw[h1] at h2
 simp at h2
 exact⟨rfl,h2.2,h2.1⟩
theorem InT.inj {H:Hp}:∀ {u u':T} {v:Value},InT H u v→InT H u' v→u=u'
 | .cst n,u',v,h,h'=>by
  cases u' with
  | cst m=>have:=(At.inj h h').2.2;simp at this;rw[this]
  | var m=>exact absurd (At.inj h h').1 (by decide)
  | neg a=>obtain⟨_,_,h'⟩:=h';exact absurd (At.inj h h').1 (by decide)
  | qu o m a=>obtain⟨_,_,h'⟩:=h';exact absurd (At.inj h h').1 (by decide)
  | bin o a b=>obtain⟨_,_,_,_,h'⟩:=h';exact absurd (At.inj h h').1 (by decide)
  | ite c a b=>obtain⟨_,_,_,_,_,_,h'⟩:=h';exact absurd (At.inj h h').1 (by decide)
 | .var n,u',v,h,h'=>by
  cases u' with
  | cst m=>exact absurd (At.inj h h').1 (by decide)
  | var m=>have:=(At.inj h h').2.2;simp at this;rw[this]
  | neg a=>obtain⟨_,_,h'⟩:=h';exact absurd (At.inj h h').1 (by decide)
  | qu o m a=>obtain⟨_,_,h'⟩:=h';exact absurd (At.inj h h').1 (by decide)
  | bin o a b=>obtain⟨_,_,_,_,h'⟩:=h';exact absurd (At.inj h h').1 (by decide)
  | ite c a b=>obtain⟨_,_,_,_,_,_,h'⟩:=h';exact absurd (At.inj h h').1 (by decide)
 | .neg a,u',v,⟨va,k,h⟩,h'=>by
  cases u' with
  | cst m=>exact absurd (At.inj h h').1 (by decide)
  | var m=>exact absurd (At.inj h h').1 (by decide)
  | neg a'=>obtain⟨_,k',h'⟩:=h';have:=(At.inj h h').2.2;simp at this;obtain⟨_,_,rfl⟩:=this;rw[InT.inj k k']
  | qu o m a=>obtain⟨_,_,h'⟩:=h';exact absurd (At.inj h h').1 (by decide)
  | bin o a b=>obtain⟨_,_,_,_,h'⟩:=h';exact absurd (At.inj h h').1 (by decide)
  | ite c a b=>obtain⟨_,_,_,_,_,_,h'⟩:=h';exact absurd (At.inj h h').1 (by decide)
 | .qu o m a,u',v,⟨va,k,h⟩,h'=>by
  cases u' with
  | cst m=>exact absurd (At.inj h h').1 (by decide)
  | var m=>exact absurd (At.inj h h').1 (by decide)
  | neg a'=>obtain⟨_,_,h'⟩:=h';exact absurd (At.inj h h').1 (by decide)
  | qu o' m' a'=>obtain⟨_,k',h'⟩:=h';have:=(At.inj h h').2.2;simp at this;obtain⟨_,_,rfl,rfl,rfl⟩:=this;rw[InT.inj k k']
  | bin o a b=>obtain⟨_,_,_,_,h'⟩:=h';exact absurd (At.inj h h').1 (by decide)
  | ite c a b=>obtain⟨_,_,_,_,_,_,h'⟩:=h';exact absurd (At.inj h h').1 (by decide)
 | .bin o a b,u',v,⟨va,vb,k1,k2,h⟩,h'=>by
  cases u' with
  | cst m=>exact absurd (At.inj h h').1 (by decide)
  | var m=>exact absurd (At.inj h h').1 (by decide)
  | neg a'=>obtain⟨_,_,h'⟩:=h';exact absurd (At.inj h h').1 (by decide)
  | qu o m a=>obtain⟨_,_,h'⟩:=h';exact absurd (At.inj h h').1 (by decide)
  | bin o' a' b'=>obtain⟨_,_,k1',k2',h'⟩:=h';have:=(At.inj h h').2.2;simp at this;obtain⟨_,_,rfl,rfl,rfl⟩:=this;rw[InT.inj k1 k1',InT.inj k2 k2']
  | ite c a b=>obtain⟨_,_,_,_,_,_,h'⟩:=h';exact absurd (At.inj h h').1 (by decide)
 | .ite c a b,u',v,⟨vc,va,vb,k0,k1,k2,h⟩,h'=>by
  cases u' with
  | cst m=>exact absurd (At.inj h h').1 (by decide)
  | var m=>exact absurd (At.inj h h').1 (by decide)
  | neg a'=>obtain⟨_,_,h'⟩:=h';exact absurd (At.inj h h').1 (by decide)
  | qu o m a=>obtain⟨_,_,h'⟩:=h';exact absurd (At.inj h h').1 (by decide)
  | bin o' a' b'=>obtain⟨_,_,_,_,h'⟩:=h';exact absurd (At.inj h h').1 (by decide)
  | ite c' a' b'=>obtain⟨_,_,_,k0',k1',k2',h'⟩:=h';have:=(At.inj h h').2.2;simp at this;obtain⟨_,_,rfl,rfl,rfl⟩:=this;rw[InT.inj k0 k0',InT.inj k1 k1',InT.inj k2 k2']
open Classical in
noncomputable def szOf (H:Hp) (v:Value):Nat:=if h:∃ u,InT H u v then size (Classical.choose h) else 0
theorem szOf_eq {H:Hp} {v:Value} {u:T} (h:InT H u v):szOf H v=size u:=by
 have hx:∃ u,InT H u v:=⟨u,h⟩
 unfold szOf
 rw[dif_pos hx,InT.inj (Classical.choose_spec hx) h]
theorem InT.notQu {H:Hp} {u:T} {v:Value} (h:InT H u v) (hq:∀ o m a,u≠.qu o m a):∃ K b,v=.iface K (.pointer (some ⟨b,0,none⟩))∧K≠115:=by
 cases u with
 | cst n=>obtain⟨b,rfl,_⟩:=h;exact⟨_,_,rfl,by decide⟩
 | var n=>obtain⟨b,rfl,_⟩:=h;exact⟨_,_,rfl,by decide⟩
 | neg a=>obtain⟨_,_,b,rfl,_⟩:=h;exact⟨_,_,rfl,by decide⟩
 | qu o m a=>exact absurd rfl (hq o m a)
 | bin o a b=>obtain⟨_,_,_,_,b,rfl,_⟩:=h;exact⟨_,_,rfl,by decide⟩
 | ite c a b=>obtain⟨_,_,_,_,_,_,b,rfl,_⟩:=h;exact⟨_,_,rfl,by decide⟩

theorem spelled (op:Int) (h1:4≤op) (h2:op≤10) (w0 w:World) (Hs:List HP) (hS:Sat w0 w Hs) :
  Calls Tryz.prog 72 #[.int .i64 op] w fun e w'=>e=.returned (.string ⟨(YN op).toArray⟩)∧Sat w0 w' Hs:=by
 have h3:op=4∨op=5∨op=6∨op=7∨op=8∨op=9∨op=10:=by omega
 rcases h3 with rfl|rfl|rfl|rfl|rfl|rfl|rfl
 all_goals
  go_enter Tryz.func72,Tryz.ntmps72
  go_wp2
  go_ret
  exact⟨rfl,hS⟩

def WC (t:T):Prop:=∀ (b:Nat) (l:List UInt8) (v:Value) (H:Hp) (last:Bool) (w0 w:World) (R:List HP),InT H t v→Sat w0 w (bld b l::R)→fz H∈R→YF w0∈R→Tab w0→l.length+50*size t≤1000000000 →
 Calls Tryz.prog 39 #[.pointer (some ⟨b,0,none⟩),v,.bool last] w fun e w'=>e=.returned (.tuple #[])∧Sat w0 w' (bld b (l++wr t last)::R)

set_option maxHeartbeats 2000000 in
theorem Ut (op side:Int) (hop:i64 op) (t:T) (ht:okT t) (hsz:size t≤1000000) (hW:WC t) (b:Nat) (l:List UInt8) (v:Value) (H:Hp) (last:Bool) (w0 w:World) (R:List HP) (hT:InT H t v) (hS:Sat w0 w (bld b l::R)) (hf:fz H∈R) (hb:YF w0∈R) (htb:Tab w0) (hl:l.length+50*size t+20≤1000000000) :
  Calls Tryz.prog 71 #[.pointer (some ⟨b,0,none⟩),.int .i64 op,.int .i64 side,v,.bool last] w fun e w'=>e=.returned (.tuple #[])∧Sat w0 w' (bld b (l++opd op side t last)::R):=by
 have BR:=xm op side hop t ht.ops last v H hT
 have hx:(opd op side t last)=if kO op side t last then [40]++wr t true++[41] else wr t last:=rfl
 obtain⟨h1,h2,h3⟩:=KK t ht hsz
 obtain⟨X,hX⟩:∃ X,X=opd op side t last:=⟨_,rfl⟩
 rw[← hX] at hx ⊢
 clear hX
 cases hb0:kO op side t last with
 | false =>
  rw[hb0] at BR hx
  have HX:=hid (show X=wr t last from hx)
  have W1:=hW b l v H last
  clear hx hb0
  obtain⟨K,bv,rfl⟩:=hT.form
  go_enter Tryz.func71,Tryz.ntmps71
  go_wp2_with (first|(go_at_call 88;refine (BR _ _ _ hS (.tail _ hf)).mono ?_;clear hS BR;rintro e w ⟨rfl,hS⟩)|(go_at_call 39;refine (W1 _ _ R hT hS hf hb htb (by omega)).mono ?_;clear hS W1;rintro e w ⟨rfl,hS⟩))
  refine bodyPost_ret (results_none rfl _ _ _) rfl ?_
  exact⟨rfl,by rw[HX.out];exact hS⟩
 | true =>
  rw[hb0] at BR hx
  have HX:=hid (show X=[40]++wr t true++[41] from hx)
  have W1:=hW b (l++[40]) v H true
  clear hx hb0
  obtain⟨K,bv,rfl⟩:=hT.form
  have h40:Value.int .u8 40=.int .u8 (40:UInt8).toNat:=rfl
  go_enter Tryz.func71,Tryz.ntmps71
  go_wp2_with (first|(go_at_call 88;refine (BR _ _ _ hS (.tail _ hf)).mono ?_;clear hS BR;rintro e w ⟨rfl,hS⟩)|(go_at_call 39;refine (W1 _ _ R hT hS hf hb htb (by simp;omega)).mono ?_;clear hS W1;rintro e w ⟨rfl,hS⟩)|(go_at_call 70;(first|with_reducible refine (Jw b _ 40 40 rfl _ _ _ hS (by simp;omega)).mono ?_|with_reducible refine (Jw b _ 41 41 rfl _ _ _ hS (by simp;omega)).mono ?_);clear hS;rintro e w ⟨rfl,hS⟩))
  go_end0
  exact⟨rfl,by rw[HX.out];simpa using hS⟩

set_option maxHeartbeats 2000000 in
theorem ur (t:T) (ht:okT t) (hsz:size t≤1000000) (hq:(∃ n,t=.cst n)∨(∃ n,t=.var n)∨(∃ a,t=.neg a∧WC a)):WC t:=by
 intro b l v H last w0 w R hT hS hf hb htb hl
 rcases hq with ⟨n,rfl⟩|⟨n,rfl⟩|⟨a,rfl,ih⟩
 ·have HX0:=Gz n last
  obtain⟨X,hX⟩:∃ X,X=wr (.cst n) last:=⟨_,rfl⟩
  rw[← hX] at HX0 ⊢
  clear hX
  obtain⟨bv,rfl,hbv⟩:=hT
  have c2:celH H bv 2=some (.int .i64 n):=by simp[celH,hbv]
  simp only[size] at hl
  rcases ht with rfl|rfl
  ·have HX:=hid (show X=[102,97,108,115,101] from HX0)
   clear HX0 hbv hsz
   go_enter Tryz.func39,Tryz.ntmps39
   go_wp2_with ((first|((with_reducible apply Ye);exact ya;exact yb rfl;(with_reducible exact Tryz.underlying104))|((with_reducible apply YO hS);exact ya;exact yb rfl;assumption;(((repeat (with_reducible apply yd)));(try assumption));decide +kernel)|(go_at_call 68;refine (Ug false _ _ _ hS).mono ?_;clear hS;rintro e w ⟨rfl,hS⟩)|(go_at_call 67;refine (kz b _ _ _ _ _ hS (by simp;omega)).mono ?_;clear hS;rintro e w ⟨rfl,hS⟩));try simp only[qA])
   go_end0
   exact⟨rfl,by rw[HX.out];simpa using hS⟩
  ·have HX:=hid (show X=[116,114,117,101] from HX0)
   clear HX0 hbv hsz
   go_enter Tryz.func39,Tryz.ntmps39
   go_wp2_with ((first|((with_reducible apply Ye);exact ya;exact yb rfl;(with_reducible exact Tryz.underlying104))|((with_reducible apply YO hS);exact ya;exact yb rfl;assumption;(((repeat (with_reducible apply yd)));(try assumption));decide +kernel)|(go_at_call 68;refine (Ug true _ _ _ hS).mono ?_;clear hS;rintro e w ⟨rfl,hS⟩)|(go_at_call 67;refine (kz b _ _ _ _ _ hS (by simp;omega)).mono ?_;clear hS;rintro e w ⟨rfl,hS⟩));try simp only[qA])
   go_end0
   exact⟨rfl,by rw[HX.out];simpa using hS⟩
 ·have HX:=hid (Xu n last)
  obtain⟨X,hX⟩:∃ X,X=wr (.var n) last:=⟨_,rfl⟩
  rw[← hX] at HX ⊢
  clear hX
  obtain⟨bv,rfl,hbv⟩:=hT
  have c2:celH H bv 2=some (.int .i64 n):=by simp[celH,hbv]
  simp only[size] at hl
  have h1:=ht.1
  have h2:=ht.2
  have hil:=Lib.itoa_length_le n (by omega) (by omega)
  clear hbv hsz ht
  go_enter Tryz.func39,Tryz.ntmps39
  go_wp2_with ((first|((with_reducible apply Ye);exact ya;exact yb rfl;(with_reducible exact Tryz.underlying109))|((with_reducible apply Yh);exact ya;exact yb rfl;(decide);exact Tryz.underlying104;kernel_rfl)|((with_reducible apply YO hS);exact ya;exact yb rfl;assumption;(((repeat (with_reducible apply yd)));(try assumption));decide +kernel)|((with_reducible apply uV);exact ya;exact yg;exact yb rfl;(simp only[List.length_append,List.length_cons,List.length_nil];omega))|(go_at_call 69;refine (itoaC _ (by omega) (by omega) _ _ _ hS (by((repeat (with_reducible apply yd));(try assumption))) htb).mono ?_;clear hS;rintro e w ⟨rfl,hS⟩)|(go_at_call 67;refine (kz b _ _ _ _ _ hS (by simp;omega)).mono ?_;clear hS;rintro e w ⟨rfl,hS⟩));try simp only[qA])
  go_end0
  exact⟨rfl,by rw[HX.out];simpa using hS⟩
 ·have HX:=hid (uq a last)
  obtain⟨X,hX⟩:∃ X,X=wr (.neg a) last:=⟨_,rfl⟩
  rw[← hX] at HX ⊢
  clear hX
  obtain⟨va,hva,bv,rfl,hbv⟩:=hT
  have c2:celH H bv 2=some va:=by simp[celH,hbv]
  simp only[size] at hl hsz
  have OM:=Ut 3 0 (by unfold i64;omega) a ht (by omega) ih b (l++[33]) va H last
  obtain⟨Ka,ba,rfl⟩:=hva.form
  clear hbv ht ih
  go_enter Tryz.func39,Tryz.ntmps39
  go_wp2_with ((first|((with_reducible apply Ye);exact ya;exact yb rfl;(with_reducible exact Tryz.underlying112))|((with_reducible apply Yh);exact ya;exact yb rfl;(decide);(with_reducible first|exact Tryz.underlying104|exact Tryz.underlying109);kernel_rfl)|((with_reducible apply YO hS);exact ya;exact yb rfl;assumption;(((repeat (with_reducible apply yd)));(try assumption));decide +kernel)|(go_at_call 70;refine (Jw b _ 33 33 rfl _ _ _ hS (by simp;omega)).mono ?_;clear hS;rintro e w ⟨rfl,hS⟩)|(go_at_call 71;refine (OM _ _ R hva hS hf hb htb (by simp;omega)).mono ?_;clear hS OM;rintro e w ⟨rfl,hS⟩));try simp only[qA])
  go_end0
  exact⟨rfl,by rw[HX.out];simpa using hS⟩
end
end Go.Proofs.YteopodbkhgcpmaaGreatDoor
