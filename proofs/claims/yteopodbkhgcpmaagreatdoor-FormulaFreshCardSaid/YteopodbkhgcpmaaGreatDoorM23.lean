/- A part of the proof: Cl6. -/
import Derived.Test.YteopodbkhgcpmaaGreatDoorM1
import Derived.Test.YteopodbkhgcpmaaGreatDoorM3
import Derived.Test.YteopodbkhgcpmaaGreatDoorM4
import Derived.Test.YteopodbkhgcpmaaGreatDoorM21
set_option linter.unusedSimpArgs false
set_option linter.unusedVariables false
set_option linter.unusedSectionVars false
namespace Go.Proofs.YteopodbkhgcpmaaGreatDoor
section
set_option maxRecDepth 20000
open Go Go.RowKit Go.SL Go.ClauseP Go.LinesP

theorem LineAt.rd {H:Hp} {v:Value} {ws:List Wd} (h:LineAt H v ws):∃ g cap,v=.slice (some ⟨g,0,none⟩) ws.length cap∧Rd (fz H) (some ⟨g,0,none⟩) (Ws ws):=by
 obtain⟨g,cap,e,hc⟩:=h
 refine ⟨g,cap,e,Rd.of_fz fun j v hv=>?_⟩
 rw[Nat.zero_add]
 have key:∀ (ws:List Wd) (YF:Nat),(∀ (j:Nat) x,ws[j]?=some x→celH H g ((YF+j)*2+0)=some (.string ⟨x.1.toArray⟩)∧celH H g ((YF+j)*2+1)=some (.int .i64 (x.2:Int))) →
   ∀ (j:Nat) v,(Ws ws)[j]?=some v→celH H g (YF*2+j)=some v:=by
  intro ws
  induction ws with
  | nil=>intro b _ j v h;simp[Ws] at h
  | cons x xs ih =>
   intro b hh j v h
   match j with
   | 0=>have:=(hh 0 x rfl).1;simp[Ws] at h;rw[← h];simpa using this
   | 1=>have:=(hh 0 x rfl).2;simp[Ws] at h;rw[← h];simpa using this
   | j+2 =>
    have:=ih (b+1) (fun j x hx=>by have:=hh (j+1) x (by simpa using hx);rwa [show b+1+j=b+(j+1) by omega]) j v (by simpa [Ws] using h)
    rwa [show b*2+(j+2)=(b+1)*2+j by omega]
 have:=key ws 0 (fun j x hx=>by rw[Nat.zero_add];exact hc j x hx) j v hv
 simpa using this
theorem Ws_len (ws:List Wd):(Ws ws).length=ws.length*2:=by
 induction ws with
 | nil=>rfl
 | cons a b ih=>simp[Ws,ih];omega
theorem Ws_pair (ws:List Wd) (j:Nat) (x:Wd) (hx:ws[j]?=some x):((Ws ws).drop (j*2)).take 2=[.string ⟨x.1.toArray⟩,.int .i64 (x.2:Int)]:=by
 obtain⟨a,b⟩:=uQ ws j x hx
 rw[Nat.add_zero] at a
 obtain⟨ha,ha2⟩:=List.getElem?_eq_some_iff.1 a
 obtain⟨hb,hb2⟩:=List.getElem?_eq_some_iff.1 b
 have hd:(Ws ws).drop (j*2)=(Ws ws)[j*2]'ha::(Ws ws)[j*2+1]'hb::(Ws ws).drop (j*2+2):=by
  rw[List.drop_eq_getElem_cons ha,List.drop_eq_getElem_cons hb]
 rw[hd]
 rw[ha2,hb2]
 rfl
theorem uH (l:List Int) (x:Int):Is (l++[x])=Is l++[.int .i64 x]:=by simp[Is]
def Ud (bc:Nat) (vars:Int) (es ls:List Int):HP:=fun h=>∃ (ad1 ad2:Option Addr) (c1 c2:Nat),sep (blk bc 33 [.int .i64 vars,.slice ad1 es.length c1,.slice ad2 ls.length c2]) (sep (own 3 1 ad1 es.length c1 (Is es)) (own 3 1 ad2 ls.length c2 (Is ls))) h
theorem kT {w0 w:World} {R:List HP} {bc:Nat} {vars:Int} {es ls:List Int} (hS:Sat w0 w (Ud bc vars es ls::R)) :
  ∃ (ad1 ad2:Option Addr) (c1 c2:Nat),Sat w0 w (blk bc 33 [.int .i64 vars,.slice ad1 es.length c1,.slice ad2 ls.length c2]::own 3 1 ad1 es.length c1 (Is es)::own 3 1 ad2 ls.length c2 (Is ls)::R):=by
 obtain⟨ad1,hS⟩:=hS.ex
 obtain⟨ad2,hS⟩:=hS.ex
 obtain⟨c1,hS⟩:=hS.ex
 obtain⟨c2,hS⟩:=hS.ex
 have h1:=hS.split
 have h2:=(h1.front (Rem.tl Rem.hd)).split
 exact⟨ad1,ad2,c1,c2,(h2.front (Rem.tl (Rem.tl Rem.hd)))⟩
theorem kh {w0 w:World} {R:List HP} {bc:Nat} {vars:Int} {es ls:List Int} {ad1 ad2:Option Addr} {c1 c2 n1 n2:Nat} (h1:n1=es.length) (h2:n2=ls.length)
  (hS:Sat w0 w (blk bc 33 [.int .i64 vars,.slice ad1 n1 c1,.slice ad2 n2 c2]::own 3 1 ad1 n1 c1 (Is es)::own 3 1 ad2 n2 c2 (Is ls)::R)):Sat w0 w (Ud bc vars es ls::R):=by
 subst h1;subst h2
 have g2:=(hS.front (Rem.tl (Rem.tl Rem.hd))).front (Rem.tl (Rem.tl Rem.hd))
 have g3:=g2.join
 have g4:=(g3.front (Rem.tl Rem.hd)).join
 exact g4.turn fun g h=>⟨ad1,ad2,c1,c2,h⟩
def bodyQ (bc:Nat) (vars:Int) (w0:World) (R:List HP) (r:(List Int × List Int) ⊕ (Int × Nat)) (e:Ending) (w':World):Prop :=
 match r with
 | .inl (es,ls)=>e=.returned (.tuple #[.int .i64 0,.int .i64 0])∧Sat w0 w' (Ud bc vars es ls::R)
 | .inr (x,at_)=>e=.returned (.tuple #[.int .i64 x,.int .i64 (at_:Int)])∧Sat w0 w' R
section
variable {vars count:Int} {w:Wd} {ws:List Wd} {es ls:List Int}
theorem JQ (h:(es.length:Int)=count):YH vars count (w::ws) es ls=.inr (135,w.2):=by rw[YH,if_pos h]
theorem JS (h:¬ (es.length:Int)=count) (h2:jc w.1=none):YH vars count (w::ws) es ls=.inr (133,w.2):=by rw[YH,if_neg h,h2]
theorem uY {n:Int} (h:¬ (es.length:Int)=count) (h2:jc w.1=some n) (h3:vars < n∨n < -vars):YH vars count (w::ws) es ls=.inr (3,w.2):=by rw[YH,if_neg h,h2];simp only;rw[if_pos h3]
theorem JT (h:¬ (es.length:Int)=count) (h2:jc w.1=some 0) (h3:¬ (vars < 0∨(0:Int) < -vars)):YH vars count (w::ws) es ls=YH vars count ws (es++[(ls.length:Int)]) ls:=by rw[YH,if_neg h,h2];simp only;rw[if_neg h3];exact if_pos trivial
theorem JR {n:Int} (h:¬ (es.length:Int)=count) (h2:jc w.1=some n) (h3:¬ (vars < n∨n < -vars)) (h4:¬ n=0) (h5:(ls.length:Int)=1048576):YH vars count (w::ws) es ls=.inr (8,w.2):=by rw[YH,if_neg h,h2];simp only;rw[if_neg h3,if_neg h4,if_pos h5]
theorem uZ {n:Int} (h:¬ (es.length:Int)=count) (h2:jc w.1=some n) (h3:¬ (vars < n∨n < -vars)) (h4:¬ n=0) (h5:¬ (ls.length:Int)=1048576):YH vars count (w::ws) es ls=YH vars count ws es (ls++[n]):=by rw[YH,if_neg h,h2];simp only;rw[if_neg h3,if_neg h4,if_neg h5]
end
set_option maxHeartbeats 4000000 in
theorem clausesC (bc:Nat) (vars count:Int) (hv0:0≤vars) (hv1:vars≤65536) (hc0:0≤count) (hc1:count≤65536) (ls:List (List Wd)) (hok:∀ l∈ls,∀ w∈l,w.2+w.1.length≤1048576) (hn:ls.length≤1048577) (hn2:∀ l∈ls,l.length≤1048576)
  (vs:List Value) (H:Hp) (hla:ky H vs ls) (w0 w:World) (R:List HP) {A:HP} {ad:Option Addr} {cap:Nat} (hR:Rd A ad vs) (hA:A∈R) (hF:fz H∈R) (hS:Sat w0 w (Ud bc vars [] []::R)) :
  Calls Tryz.prog 22 #[.slice ad ls.length cap,.pointer (some ⟨bc,0,none⟩),.int .i64 count] w (bodyQ bc vars w0 R (YH vars count ls.flatten [] [])):=by
 obtain⟨r,hr⟩:∃ r,r=YH vars count ls.flatten [] []:=⟨_,rfl⟩
 rw[← hr]
 have HR:=hid hr
 have hvl:=hla.1
 clear hr
 go_enter Tryz.func22,Tryz.ntmps22
 go_wp2
 go_loopw [16] (fun i wr=>∃ (j:Nat) (es lits:List Int),i=.int .i64 j∧j≤ls.length∧(es.length:Int)≤count∧lits.length≤1048576∧Hid (r=YH vars count (ls.drop j).flatten es lits)∧Sat w0 wr (Ud bc vars es lits::R)) (fun i _=>ls.length - (intOf i).toNat)
 case atStart=>exact⟨0,[],[],rfl,Nat.zero_le _,by simp;omega,by simp,HR,hS⟩
 case round =>
  clear hS HR
  obtain⟨j,es,lits,rfl,hj,hel,hll,HR,hS⟩:=hrel
  by_cases hlt:j < ls.length
  ·obtain⟨l,hl⟩:∃ l,ls[j]?=some l:=⟨_,List.getElem?_eq_getElem hlt⟩
   obtain⟨v,hv⟩:∃ v,vs[j]?=some v:=⟨_,List.getElem?_eq_getElem (by omega)⟩
   obtain⟨g,capl,rfl,hRl⟩:=(hla.2 j v l hv hl).rd
   have hlen:=hn2 l (List.mem_of_getElem? hl)
   have hlo:=hid (hok l (List.mem_of_getElem? hl))
   have hdr:(ls.drop j).flatten=l++(ls.drop (j+1)).flatten:=by
    rw[List.drop_eq_getElem_cons hlt,List.flatten_cons]
    congr 1
    simpa [List.getElem?_eq_getElem hlt] using hl
   have HR2:=hid (show r=YH vars count (l.drop 0++(ls.drop (j+1)).flatten) es lits by rw[HR.out,hdr];rfl)
   have hWl:=Ws_len l
   clear hl hdr HR
   go_wp2_with ((first|((with_reducible apply yn);exact ya;exact yb rfl;exact yb rfl;exact E59;(omega);(omega);(exact Sat.rdAd2 (by assumption) hS (by((repeat (with_reducible apply yd)));try assumption) (by omega));(simp only[qN];rfl))|((with_reducible apply yF);exact ya;exact yb rfl;(exact Sat.rdCell2 (by assumption) hS (by((repeat (with_reducible apply yd)));try assumption) (by(assumption)));decide +kernel));try simp only[qA])
   go_loopw [22] (fun i wr=>∃ (k:Nat) (es lits:List Int),i=.int .i64 k∧k≤l.length∧(es.length:Int)≤count∧lits.length≤1048576∧Hid (r=YH vars count (l.drop k++(ls.drop (j+1)).flatten) es lits)∧Sat w0 wr (Ud bc vars es lits::R)) (fun i _=>l.length - (intOf i).toNat)
   case atStart=>exact⟨0,es,lits,rfl,Nat.zero_le _,hel,hll,HR2,hS⟩
   case round =>
    clear hS HR2 hel hll es lits
    obtain⟨k,es,lits,rfl,hk,hel,hll,HR,hS⟩:=hrel
    by_cases hlk:k < l.length
    ·obtain⟨wk,hwk⟩:∃ wk,l[k]?=some wk:=⟨_,List.getElem?_eq_getElem hlk⟩
     have hk2:=Ws_pair l k wk hwk
     have hko:=hlo.out wk (List.mem_of_getElem? hwk)
     have hdk:l.drop k=wk::l.drop (k+1):=by
      rw[List.drop_eq_getElem_cons hlk]
      congr 1
      simpa [List.getElem?_eq_getElem hlk] using hwk
     have HX:=hid (show r=YH vars count (wk::(l.drop (k+1)++(ls.drop (j+1)).flatten)) es lits by rw[HR.out,hdk,List.cons_append])
     clear hwk hdk HR
     obtain⟨ad1,ad2,c1,c2,hS⟩:=kT hS
     have LC:=literalC wk.1 (by omega) w0
     by_cases hce:(es.length:Int)=count
     ·have HE:=hid (HX.out.trans (JQ hce))
      have hcb:((es.length:Int) == count)=true:=by simp[hce]
      clear HX hce
      go_wp2_with ((first|(((with_reducible apply dP 0 hC hR);(simp only[qL];rfl);decide +kernel;exact iQ;exact ya);(intro w;first|(exact yz rfl (by(exact yg)) (by assumption) (by with_reducible exact fo33_0))|(go_simp;done)|(go_simp;rw[yo (by omega) (by omega)])|(go_simp;with_reducible rfl)|(go_simp;rfl));(clear hR hC;intro hR hC))|((first|((with_reducible apply dP 2 hC hR);(simp only[qL];rfl);decide +kernel;exact iQ;exact ya)|((with_reducible apply dP 3 hC hR);(simp only[qL];rfl);decide +kernel;exact iQ;exact ya));(intro w;first|(go_simp;done)|(go_simp;rw[yo (by omega) (by omega)])|(go_simp;with_reducible rfl)|(go_simp;rfl));(clear hR hC;intro hR hC))|(((with_reducible apply dR 1 hC hR);(simp only[qL];rfl);decide +kernel;exact iQ;exact ya);(intro w hS;(apply yj rfl (by(exact yb rfl)));first|exact yc (by decide +kernel) (hS.cell (by(exact ye)) rfl)|exact yc (by decide +kernel) ((hS.ownCell (by(repeat (with_reducible apply yd))) (by(rfl))).1)|exact yc (by decide +kernel) (Sat.rdCell2 (by assumption) hS (by((repeat (with_reducible apply yd)));try assumption) (by(rfl)))|exact yc (by decide +kernel) (hS.baseCell (by((repeat (with_reducible apply yd)));try assumption) (by assumption))|exact yc (by decide +kernel) (fzC (by assumption) hS (by((repeat (with_reducible apply yd)));try assumption))|exact yl hS (by assumption) (by((repeat (with_reducible apply yd)));try assumption) (by assumption) (by rfl) (by with_reducible exact sz33) (by decide +kernel) (by decide)|exact hS.loadWhole (by(repeat (with_reducible apply yd))) (by kernel_rfl) (by kernel_rfl));(clear hR hC;intro hR hC))|((with_reducible apply ym);decide +kernel;clear hR hC)|(refine yt 8 4 hS (by kernel_rfl) [] rfl ?_;clear hS;intro w hS hR hC)|((with_reducible apply yk hS);exact ya;exact z130;clear hS;intro NB w hS)|((with_reducible apply yn);exact ya;exact yb rfl;exact yb rfl;exact E63;(omega);(omega);(exact Sat.rdAd2 (by assumption) hS (by((repeat (with_reducible apply yd)));try assumption) (by omega));(simp only[qN];rfl))|((with_reducible apply yO hS);exact ya;exact yb rfl;assumption;(((repeat (with_reducible apply yd)));(try assumption));assumption;rfl;exact sz130;decide +kernel;decide)|((with_reducible apply yh hS);exact ya;exact yb rfl;(repeat (with_reducible first|exact ye|apply yd));rfl;decide +kernel)|((with_reducible apply yi hS);exact ya;exact yb rfl;exact yb rfl;exact ye;rfl;(focus (simp;done));exact Upd.hd;rfl;exact sz130;rfl;clear hS;intro w hS;(try simp only[yp,qS] at hS)));try simp only[qA])
      go_ret2
      rw[HE.out]
      exact⟨rfl,hS.sb (by(repeat (with_reducible first|exact Sb.refl|apply Sb.skip)))⟩
     ·have hcb:((es.length:Int) == count)=false:=by simp[hce]
      have HCE:=hid hce
      have hec:(es.length:Int)≤65536:=by omega
      clear hce
      cases hlit:jc wk.1 with
      | none =>
       rw[hlit] at LC
       have HE:=hid (HX.out.trans (JS HCE.out hlit))
       clear HX hlit
       go_wp2_with ((first|(((with_reducible apply dP 0 hC hR);(simp only[qL];rfl);decide +kernel;exact iQ;exact ya);(intro w;first|(exact yz rfl (by(exact yg)) (by assumption) (by with_reducible exact fo33_0))|(go_simp;done)|(go_simp;rw[yo (by omega) (by omega)])|(go_simp;with_reducible rfl)|(go_simp;rfl));(clear hR hC;intro hR hC))|((first|((with_reducible apply dP 2 hC hR);(simp only[qL];rfl);decide +kernel;exact iQ;exact ya)|((with_reducible apply dP 3 hC hR);(simp only[qL];rfl);decide +kernel;exact iQ;exact ya));(intro w;first|(go_simp;done)|(go_simp;rw[yo (by omega) (by omega)])|(go_simp;with_reducible rfl)|(go_simp;rfl));(clear hR hC;intro hR hC))|(((with_reducible apply dR 1 hC hR);(simp only[qL];rfl);decide +kernel;exact iQ;exact ya);(intro w hS;(apply yj rfl (by(exact yb rfl)));first|exact yc (by decide +kernel) (hS.cell (by(exact ye)) rfl)|exact yc (by decide +kernel) ((hS.ownCell (by(repeat (with_reducible apply yd))) (by(rfl))).1)|exact yc (by decide +kernel) (Sat.rdCell2 (by assumption) hS (by((repeat (with_reducible apply yd)));try assumption) (by(rfl)))|exact yc (by decide +kernel) (hS.baseCell (by((repeat (with_reducible apply yd)));try assumption) (by assumption))|exact yc (by decide +kernel) (fzC (by assumption) hS (by((repeat (with_reducible apply yd)));try assumption))|exact yl hS (by assumption) (by((repeat (with_reducible apply yd)));try assumption) (by assumption) (by rfl) (by with_reducible exact sz33) (by decide +kernel) (by decide)|exact hS.loadWhole (by(repeat (with_reducible apply yd))) (by kernel_rfl) (by kernel_rfl));(clear hR hC;intro hR hC))|((with_reducible apply ym);decide +kernel;clear hR hC)|(refine yt 11 4 hS (by kernel_rfl) [] rfl ?_;clear hS;intro w hS hR hC)|((with_reducible apply yk hS);exact ya;exact z130;clear hS;intro NB w hS)|((with_reducible apply yn);exact ya;exact yb rfl;exact yb rfl;exact E63;(omega);(omega);(exact Sat.rdAd2 (by assumption) hS (by((repeat (with_reducible apply yd)));try assumption) (by omega));(simp only[qN];rfl))|((with_reducible apply yO hS);exact ya;exact yb rfl;assumption;(((repeat (with_reducible apply yd)));(try assumption));assumption;rfl;exact sz130;decide +kernel;decide)|((with_reducible apply yh hS);exact ya;exact yb rfl;(repeat (with_reducible first|exact ye|apply yd));rfl;decide +kernel)|((with_reducible apply yi hS);exact ya;exact yb rfl;exact yb rfl;exact ye;rfl;(focus (simp;done));exact Upd.hd;rfl;exact sz130;rfl;clear hS;intro w hS;(try simp only[yp,qS] at hS))|(go_at_call 54;refine (LC _ _ hS).mono ?_;clear hS;rintro e w ⟨rfl,hS⟩));try simp only[qA])
       go_ret2
       rw[HE.out]
       exact⟨rfl,hS.sb (by(repeat (with_reducible first|exact Sb.refl|apply Sb.skip)))⟩
      | some n =>
       rw[hlit] at LC
       obtain⟨n1,n2⟩:=GP hlit
       have HL:=hid hlit
       clear hlit
       simp only[jC] at LC
       by_cases hlev:vars < n∨n < -vars
       ·have HE:=hid (HX.out.trans (uY HCE.out HL.out hlev))
        have hmx:max n (-n) > vars:=by omega
        clear HX hlev
        go_wp2_with ((first|(((with_reducible apply dP 0 hC hR);(simp only[qL];rfl);decide +kernel;exact iQ;exact ya);(intro w;first|(exact yz rfl (by(exact yg)) (by assumption) (by with_reducible exact fo33_0))|(go_simp;done)|(go_simp;rw[yo (by omega) (by omega)])|(go_simp;with_reducible rfl)|(go_simp;rfl));(clear hR hC;intro hR hC))|((first|((with_reducible apply dP 2 hC hR);(simp only[qL];rfl);decide +kernel;exact iQ;exact ya)|((with_reducible apply dP 3 hC hR);(simp only[qL];rfl);decide +kernel;exact iQ;exact ya));(intro w;first|(go_simp;done)|(go_simp;rw[yo (by omega) (by omega)])|(go_simp;with_reducible rfl)|(go_simp;rfl));(clear hR hC;intro hR hC))|(((with_reducible apply dR 1 hC hR);(simp only[qL];rfl);decide +kernel;exact iQ;exact ya);(intro w hS;(apply yj rfl (by(exact yb rfl)));first|exact yc (by decide +kernel) (hS.cell (by(exact ye)) rfl)|exact yc (by decide +kernel) ((hS.ownCell (by(repeat (with_reducible apply yd))) (by(rfl))).1)|exact yc (by decide +kernel) (Sat.rdCell2 (by assumption) hS (by((repeat (with_reducible apply yd)));try assumption) (by(rfl)))|exact yc (by decide +kernel) (hS.baseCell (by((repeat (with_reducible apply yd)));try assumption) (by assumption))|exact yc (by decide +kernel) (fzC (by assumption) hS (by((repeat (with_reducible apply yd)));try assumption))|exact yl hS (by assumption) (by((repeat (with_reducible apply yd)));try assumption) (by assumption) (by rfl) (by with_reducible exact sz33) (by decide +kernel) (by decide)|exact hS.loadWhole (by(repeat (with_reducible apply yd))) (by kernel_rfl) (by kernel_rfl));(clear hR hC;intro hR hC))|((with_reducible apply ym);decide +kernel;clear hR hC)|(refine yt 13 4 hS (by kernel_rfl) [] rfl ?_;clear hS;intro w hS hR hC)|((with_reducible apply yk hS);exact ya;exact z130;clear hS;intro NB w hS)|((with_reducible apply yn);exact ya;exact yb rfl;exact yb rfl;exact E63;(omega);(omega);(exact Sat.rdAd2 (by assumption) hS (by((repeat (with_reducible apply yd)));try assumption) (by omega));(simp only[qN];rfl))|((with_reducible apply yO hS);exact ya;exact yb rfl;assumption;(((repeat (with_reducible apply yd)));(try assumption));assumption;rfl;exact sz130;decide +kernel;decide)|((with_reducible apply yh hS);exact ya;exact yb rfl;(repeat (with_reducible first|exact ye|apply yd));rfl;decide +kernel)|((with_reducible apply yi hS);exact ya;exact yb rfl;exact yb rfl;exact ye;rfl;(focus (simp;done));exact Upd.hd;rfl;exact sz130;rfl;clear hS;intro w hS;(try simp only[yp,qS] at hS))|(go_at_call 54;refine (LC _ _ hS).mono ?_;clear hS;rintro e w ⟨rfl,hS⟩));try simp only[qA])
        go_ret2
        rw[HE.out]
        exact⟨rfl,hS.sb (by(repeat (with_reducible first|exact Sb.refl|apply Sb.skip)))⟩
       ·have HLV:=hid hlev
        have hmx:max n (-n)≤vars:=by omega
        clear hlev
        by_cases hz:n=0
        ·subst hz
         have HE:=hid (HX.out.trans (JT HCE.out HL.out HLV.out))
         clear HX
         go_wp2_with ((first|((with_reducible apply Cont.intro);(first|(focus (apply Or.inr;apply (Sat.sb hS);(repeat (with_reducible first|exact Sb.refl|(refine Sb.take (by(repeat (first|exact Rem.hd|apply Rem.tl));done) ?_)|apply Sb.skip));done))|(exact Or.inl (by kernel_rfl)));intro hR hC)|((first|((with_reducible apply dP 0 hC hR);(simp only[qL];rfl);decide +kernel;exact iQ;exact ya)|((with_reducible apply dP 1 hC hR);(simp only[qL];rfl);decide +kernel;exact iQ;exact ya)|((with_reducible apply dP 2 hC hR);(simp only[qL];rfl);decide +kernel;exact iQ;exact ya)|((with_reducible apply dP 5 hC hR);(simp only[qL];rfl);decide +kernel;exact iQ;exact ya)|((with_reducible apply dP 6 hC hR);(simp only[qL];rfl);decide +kernel;exact iQ;exact ya)|((with_reducible apply dP 9 hC hR);(simp only[qL];rfl);decide +kernel;exact iQ;exact ya)|((with_reducible apply dP 12 hC hR);(simp only[qL];rfl);decide +kernel;exact iQ;exact ya));(intro w;first|(go_simp;done)|(go_simp;rw[yo (by omega) (by omega)])|(go_simp;with_reducible rfl)|(go_simp;rfl));(clear hR hC;intro hR hC))|((first|((with_reducible apply dP 3 hC hR);(simp only[qL];rfl);decide +kernel;exact iQ;exact ya)|((with_reducible apply dP 7 hC hR);(simp only[qL];rfl);decide +kernel;exact iQ;exact ya)|((with_reducible apply dP 13 hC hR);(simp only[qL];rfl);decide +kernel;exact iQ;exact ya));(intro w;first|(exact yz rfl (by(exact yg)) (by assumption) (by with_reducible exact fo33_0))|(go_simp;done)|(go_simp;rw[yo (by omega) (by omega)])|(go_simp;with_reducible rfl)|(go_simp;rfl));(clear hR hC;intro hR hC))|((first|((with_reducible apply dR 4 hC hR);(simp only[qL];rfl);decide +kernel;exact iQ;exact ya)|((with_reducible apply dR 8 hC hR);(simp only[qL];rfl);decide +kernel;exact iQ;exact ya));(intro w hS;(apply yj rfl (by(exact yb rfl)));first|exact yc (by decide +kernel) (hS.cell (by(repeat (with_reducible first|exact ye|apply yd))) rfl)|exact yc (by decide +kernel) ((hS.ownCell (by(repeat (with_reducible apply yd))) (by(rfl))).1)|exact yc (by decide +kernel) (Sat.rdCell2 (by assumption) hS (by((repeat (with_reducible apply yd)));try assumption) (by(rfl)))|exact yc (by decide +kernel) (hS.baseCell (by((repeat (with_reducible apply yd)));try assumption) (by assumption))|exact yc (by decide +kernel) (fzC (by assumption) hS (by((repeat (with_reducible apply yd)));try assumption))|exact yl hS (by assumption) (by((repeat (with_reducible apply yd)));try assumption) (by assumption) (by rfl) (by with_reducible exact sz33) (by decide +kernel) (by decide)|exact hS.loadWhole (by(repeat (with_reducible apply yd))) (by kernel_rfl) (by kernel_rfl));(clear hR hC;intro hR hC))|((with_reducible apply yq (i:=10));(simp only[qL];rfl);decide +kernel;exact hC;clear hR hC)|((with_reducible apply yq (i:=11));(simp only[qL];rfl);decide +kernel;exact hC;clear hR hC)|((with_reducible apply yq (i:=14));(simp only[qL];rfl);decide +kernel;exact hC;clear hR hC)|((with_reducible apply ym);decide +kernel;clear hR hC)|(refine yt 15 15 hS (by kernel_rfl) [11] rfl ?_;clear hS;intro w hS hR hC)|((with_reducible apply yk hS);exact ya;exact z130;clear hS;intro NB w hS)|((with_reducible apply yn);exact ya;exact yb rfl;exact yb rfl;exact E63;(omega);(omega);(exact Sat.rdAd2 (by assumption) hS (by((repeat (with_reducible apply yd)));try assumption) (by omega));(simp only[qN];rfl))|((with_reducible apply yO hS);exact ya;exact yb rfl;assumption;(((repeat (with_reducible apply yd)));(try assumption));assumption;rfl;exact sz130;decide +kernel;decide)|((with_reducible apply yh hS);exact ya;exact yb rfl;(repeat (with_reducible first|exact ye|apply yd));rfl;decide +kernel)|((with_reducible apply yy hS);exact ya;exact yb rfl;exact yb rfl;(repeat (with_reducible first|exact ye|apply yd));rfl;(focus (simp;done));(repeat (with_reducible first|exact Upd.hd|apply Upd.tl));rfl;decide +kernel;clear hS;intro w hS;(try simp only[qS] at hS))|((with_reducible apply yi hS);exact ya;exact yb rfl;exact yb rfl;exact ye;rfl;(focus (simp;done));exact Upd.hd;rfl;exact sz130;rfl;clear hS;intro w hS;(try simp only[yp,qS] at hS))|(go_at_call 54;refine (LC _ _ hS).mono ?_;clear hS;rintro e w ⟨rfl,hS⟩)|((with_reducible apply yA hS);exact ya;exact E31;exact yb rfl;exact yN rfl;rfl;decide;clear hS;intro NB w hS)|((with_reducible apply yD hS);exact ya;exact yb rfl;exact yb rfl;exact E31;(repeat (with_reducible first|exact Rem.hd|apply Rem.tl));(repeat (with_reducible apply Rem.tl));rfl;rfl;(omega);(omega);clear hS;intro AD CAP w hS;(try simp only[Nat.zero_add,List.nil_append] at hS)));try simp only[qA])
         have hS2:Sat w0 w (blk bc 33 [.int .i64 vars,.slice AD (es.length+1) CAP,.slice ad2 lits.length c2]::own 3 1 AD (es.length+1) CAP (Is (es++[(lits.length:Int)]))::own 3 1 ad2 lits.length c2 (Is lits)::R):=by
          rw[uH]
          exact hS.sb (by(repeat (with_reducible first|exact Sb.refl|(refine Sb.take (by(repeat (first|exact Rem.hd|apply Rem.tl));done) ?_)|apply Sb.skip)))
         have hS3:=kh (es:=es++[(lits.length:Int)]) (ls:=lits) (by simp) rfl hS2
         have hel2:((es++[(lits.length:Int)]).length:Int)≤count:=by rw[List.length_append];simp only[List.length_cons,List.length_nil];have:=HCE.out;omega
         clear hS hS2
         go_roundw
         case rel=>exact⟨k+1,es++[(lits.length:Int)],lits,by go_num,by omega,hel2,hll,HE,hS3⟩
         case measure=>simp[intOf];omega
        ·have hzb:(n == 0)=false:=by simp[hz]
         have HZ:=hid hz
         clear hz
         by_cases hfull:(lits.length:Int)=1048576
         ·have HE:=hid (HX.out.trans (JR HCE.out HL.out HLV.out HZ.out hfull))
          have hfb:((lits.length:Int) == 1048576)=true:=by simp[hfull]
          clear HX hfull
          go_wp2_with ((first|(((with_reducible apply dP 0 hC hR);(simp only[qL];rfl);decide +kernel;exact iQ;exact ya);(intro w;first|(exact yz rfl (by(exact yg)) (by assumption) (by with_reducible exact fo33_0))|(go_simp;done)|(go_simp;rw[yo (by omega) (by omega)])|(go_simp;with_reducible rfl)|(go_simp;rfl));(clear hR hC;intro hR hC))|((first|((with_reducible apply dP 2 hC hR);(simp only[qL];rfl);decide +kernel;exact iQ;exact ya)|((with_reducible apply dP 3 hC hR);(simp only[qL];rfl);decide +kernel;exact iQ;exact ya));(intro w;first|(go_simp;done)|(go_simp;rw[yo (by omega) (by omega)])|(go_simp;with_reducible rfl)|(go_simp;rfl));(clear hR hC;intro hR hC))|(((with_reducible apply dR 1 hC hR);(simp only[qL];rfl);decide +kernel;exact iQ;exact ya);(intro w hS;(apply yj rfl (by(exact yb rfl)));first|exact yc (by decide +kernel) (hS.cell (by(exact ye)) rfl)|exact yc (by decide +kernel) ((hS.ownCell (by(repeat (with_reducible apply yd))) (by(rfl))).1)|exact yc (by decide +kernel) (Sat.rdCell2 (by assumption) hS (by((repeat (with_reducible apply yd)));try assumption) (by(rfl)))|exact yc (by decide +kernel) (hS.baseCell (by((repeat (with_reducible apply yd)));try assumption) (by assumption))|exact yc (by decide +kernel) (fzC (by assumption) hS (by((repeat (with_reducible apply yd)));try assumption))|exact yl hS (by assumption) (by((repeat (with_reducible apply yd)));try assumption) (by assumption) (by rfl) (by with_reducible exact sz33) (by decide +kernel) (by decide)|exact hS.loadWhole (by(repeat (with_reducible apply yd))) (by kernel_rfl) (by kernel_rfl));(clear hR hC;intro hR hC))|((with_reducible apply ym);decide +kernel;clear hR hC)|(refine yt 17 4 hS (by kernel_rfl) [] rfl ?_;clear hS;intro w hS hR hC)|((with_reducible apply yk hS);exact ya;exact z130;clear hS;intro NB w hS)|((with_reducible apply yn);exact ya;exact yb rfl;exact yb rfl;exact E63;(omega);(omega);(exact Sat.rdAd2 (by assumption) hS (by((repeat (with_reducible apply yd)));try assumption) (by omega));(simp only[qN];rfl))|((with_reducible apply yO hS);exact ya;exact yb rfl;assumption;(((repeat (with_reducible apply yd)));(try assumption));assumption;rfl;exact sz130;decide +kernel;decide)|((with_reducible apply yh hS);exact ya;exact yb rfl;(repeat (with_reducible first|exact ye|apply yd));rfl;decide +kernel)|((with_reducible apply yi hS);exact ya;exact yb rfl;exact yb rfl;exact ye;rfl;(focus (simp;done));exact Upd.hd;rfl;exact sz130;rfl;clear hS;intro w hS;(try simp only[yp,qS] at hS))|(go_at_call 54;refine (LC _ _ hS).mono ?_;clear hS;rintro e w ⟨rfl,hS⟩));try simp only[qA])
          go_ret2
          rw[HE.out]
          exact⟨rfl,hS.sb (by(repeat (with_reducible first|exact Sb.refl|apply Sb.skip)))⟩
         ·have HE:=hid (HX.out.trans (uZ HCE.out HL.out HLV.out HZ.out hfull))
          have hfb:((lits.length:Int) == 1048576)=false:=by simp[hfull]
          have hl2:lits.length < 1048576:=by omega
          clear HX hfull
          go_wp2_with ((first|((with_reducible apply yk hS);exact ya;exact z130;clear hS;intro NB w hS)|((with_reducible apply yn);exact ya;exact yb rfl;exact yb rfl;exact E63;(omega);(omega);(exact Sat.rdAd2 (by assumption) hS (by((repeat (with_reducible apply yd)));try assumption) (by omega));(simp only[qN];rfl))|((with_reducible apply yO hS);exact ya;exact yb rfl;assumption;(((repeat (with_reducible apply yd)));(try assumption));assumption;rfl;exact sz130;decide +kernel;decide)|((with_reducible apply yh hS);exact ya;exact yb rfl;(repeat (with_reducible first|exact ye|apply yd));rfl;decide +kernel)|((with_reducible apply yy hS);exact ya;exact yb rfl;exact yb rfl;(repeat (with_reducible first|exact ye|apply yd));rfl;(focus (simp;done));(repeat (with_reducible first|exact Upd.hd|apply Upd.tl));rfl;decide +kernel;clear hS;intro w hS;(try simp only[qS] at hS))|((with_reducible apply yi hS);exact ya;exact yb rfl;exact yb rfl;exact ye;rfl;(focus (simp;done));exact Upd.hd;rfl;exact sz130;rfl;clear hS;intro w hS;(try simp only[yp,qS] at hS))|(go_at_call 54;refine (LC _ _ hS).mono ?_;clear hS;rintro e w ⟨rfl,hS⟩)|((with_reducible apply yA hS);exact ya;exact E31;exact yb rfl;exact yN rfl;rfl;decide;clear hS;intro NB w hS)|((with_reducible apply yD hS);exact ya;exact yb rfl;exact yb rfl;exact E31;(repeat (with_reducible first|exact Rem.hd|apply Rem.tl));(repeat (with_reducible apply Rem.tl));rfl;rfl;(omega);(omega);clear hS;intro AD CAP w hS;(try simp only[Nat.zero_add,List.nil_append] at hS)));try simp only[qA])
          have hS2:Sat w0 w (blk bc 33 [.int .i64 vars,.slice ad1 es.length c1,.slice AD (lits.length+1) CAP]::own 3 1 ad1 es.length c1 (Is es)::own 3 1 AD (lits.length+1) CAP (Is (lits++[n]))::R):=by
           rw[uH]
           exact hS.sb (by(repeat (with_reducible first|exact Sb.refl|(refine Sb.take (by(repeat (first|exact Rem.hd|apply Rem.tl));done) ?_)|apply Sb.skip)))
          have hS3:=kh (es:=es) (ls:=lits++[n]) rfl (by simp) hS2
          have hll2:(lits++[n]).length≤1048576:=by rw[List.length_append];simp only[List.length_cons,List.length_nil];omega
          clear hS hS2
          go_roundw
          case rel=>exact⟨k+1,es,lits++[n],by go_num,by omega,hel,hll2,HE,hS3⟩
          case measure=>simp[intOf];omega
    ·have hdn:l.drop k=[]:=List.drop_of_length_le (by omega)
     have HE:=hid (show r=YH vars count (ls.drop (j+1)).flatten es lits by rw[HR.out,hdn];rfl)
     clear hdn HR
     go_wp2
     go_roundw
     case rel=>exact⟨j+1,es,lits,by go_num,by omega,hel,hll,HE,hS⟩
     case measure=>simp[intOf];omega
  ·have hdn:(ls.drop j).flatten=[]:=by rw[List.drop_of_length_le (by omega)];rfl
   have HE:=hid (show r=.inl (es,lits) by rw[HR.out,hdn];rfl)
   clear hdn HR
   go_wp2
   go_ret2
   rw[HE.out]
   exact⟨rfl,hS⟩
end
end Go.Proofs.YteopodbkhgcpmaaGreatDoor
