/- A part of the proof: Cl5. -/
import Derived.Test.YteopodbkhgcpmaaGreatDoorM1
import Derived.Test.YteopodbkhgcpmaaGreatDoorM4
import Derived.Test.YteopodbkhgcpmaaGreatDoorM21
set_option linter.unusedSimpArgs false
set_option linter.unusedVariables false
set_option linter.unusedSectionVars false
namespace Go.Proofs.YteopodbkhgcpmaaGreatDoor
section
set_option maxRecDepth 20000
open Go Go.RowKit Go.SL Go.ClauseP Go.LinesP

def jH:(Int × Int) ⊕ (Int × Nat)→Value
 | .inl (v,c)=>.tuple #[.int .i64 v,.int .i64 c,.int .i64 0,.int .i64 0]
 | .inr (e,at_)=>.tuple #[.int .i64 0,.int .i64 0,.int .i64 e,.int .i64 (at_:Int)]
def WdOk (w:Wd):Prop:=w.2+w.1.length≤1048576
def h4 (v c:Int):List Wd→(Int × Int) ⊕ (Int × Nat)
 | []=>.inl (v,c)
 | w4::_=>.inr (135,w4.2)
def h3 (b:Nat) (v:Int):List Wd→(Int × Int) ⊕ (Int × Nat)
 | []=>.inr (135,b)
 | w3::l=>match Yb w3 with
  | .inr e=>.inr (e,w3.2)
  | .inl c=>h4 v c l
def h2 (b:Nat):List Wd→(Int × Int) ⊕ (Int × Nat)
 | []=>.inr (135,b)
 | w2::l=>match Yb w2 with
  | .inr e=>.inr (e,w2.2)
  | .inl v=>h3 b v l
def h1 (b:Nat):List Wd→(Int × Int) ⊕ (Int × Nat)
 | []=>.inr (135,b)
 | w1::l=>if w1.1≠[99,110,102] then .inr (135,w1.2) else h2 b l
def h0 (b:Nat):List Wd→(Int × Int) ⊕ (Int × Nat)
 | []=>.inr (135,b)
 | w0::l=>if w0.1≠[112] then .inr (135,w0.2) else h1 b l
theorem xT (b:Nat) (l:List Wd):jG b l=h0 b l:=by
 cases l with
 | nil=>rfl
 | cons w0 l =>
  simp only[jG,h0]
  split
  ·rfl
  ·cases l with
   | nil=>rfl
   | cons w1 l =>
    simp only[h1]
    split
    ·rfl
    ·cases l with
     | nil=>rfl
     | cons w2 l =>
      simp only[h2]
      cases Yb w2 with
      | inr e=>rfl
      | inl v =>
       cases l with
       | nil=>rfl
       | cons w3 l =>
        simp only[h3]
        cases Yb w3 with
        | inr e=>rfl
        | inl c=>cases l <;> rfl
theorem Ws_two (ws:List Wd) (j:Nat) (x:Wd) (hx:ws[j]?=some x):((Ws ws).drop (j*2)).take 2=[.string ⟨x.1.toArray⟩,.int .i64 (x.2:Int)]:=by
 obtain⟨a,b⟩:=uQ ws j x hx
 rw[Nat.add_zero] at a
 obtain⟨ha,ha2⟩:=List.getElem?_eq_some_iff.1 a
 obtain⟨hb,hb2⟩:=List.getElem?_eq_some_iff.1 b
 have hd:(Ws ws).drop (j*2)=(Ws ws)[j*2]'ha::(Ws ws)[j*2+1]'hb::(Ws ws).drop (j*2+2):=by
  rw[List.drop_eq_getElem_cons ha,List.drop_eq_getElem_cons hb]
 rw[hd]
 rw[ha2,hb2]
 rfl
def YA (b:Nat) (n0 n1:Int) (l:List Wd):Nat→(Int × Int) ⊕ (Int × Nat)
 | 0=>h0 b l
 | 1=>h1 b (l.drop 1)
 | 2=>h2 b (l.drop 2)
 | 3=>h3 b n0 (l.drop 3)
 | _=>h4 n0 n1 (l.drop 4)
set_option maxHeartbeats 4000000 in
theorem headC (ws:List Wd) (hne:ws≠[]) (hok:∀ w∈ws,WdOk w) (hn:ws.length≤1048576) (w0 w:World) (Hs:List HP) (hS:Sat w0 w Hs) {A:HP} {ad:Option Addr} {cap:Nat} (hR:Rd A ad (Ws ws)) (hm:A∈Hs) :
  Calls Tryz.prog 21 #[.slice ad ws.length cap] w fun e w'=>e=.returned (jH (jG (YY ws) ws))∧Sat w0 w' Hs:=by
 rw[xT]
 obtain⟨r,hr⟩:∃ r,r=h0 (YY ws) ws:=⟨_,rfl⟩
 rw[← hr]
 have hwl:(Ws ws).length=ws.length*2:=by
  clear hR hr hn hok hne
  induction ws with
  | nil=>rfl
  | cons a b ih=>simp[Ws,ih];omega
 have hlp:0 < ws.length:=List.length_pos_iff.2 hne
 obtain⟨wl,hwl2⟩:∃ wl,ws[ws.length - 1]?=some wl:=⟨_,List.getElem?_eq_getElem (by omega)⟩
 obtain⟨l1,l2⟩:=uQ ws _ wl hwl2
 have hWn:=fun(j:Nat) (x:Wd) (hx:ws[j]?=some x)=>Ws_two ws j x hx
 have hlast:=hWn _ _ hwl2
 have hbe:YY ws=wl.2+wl.1.length:=by
  unfold YY
  rw[List.getLast?_eq_getElem?,hwl2]
 have hwo:wl.2+wl.1.length≤1048576:=hok wl (List.mem_of_getElem? hwl2)
 rw[hbe] at hr
 clear hbe
 have HR:=hid hr
 clear hr
 have I0:∀ w,(Instr.index 131 (.agg #[.int .i64 65536,.int .i64 65536]) (.int .i64 0)).run Tryz.prog w=.ok (.int .i64 65536) w:=fun _=>by kernel_rfl
 have I1:∀ w,(Instr.index 131 (.agg #[.int .i64 65536,.int .i64 65536]) (.int .i64 1)).run Tryz.prog w=.ok (.int .i64 65536) w:=fun _=>by kernel_rfl
 go_enter Tryz.func21,Tryz.ntmps21
 (have tok_B6:True:=trivial;have tok_B8:True:=trivial;go_wp2_with ((first|(have tokk:=tok_B6;(clear tokk tok_B6);((with_reducible apply yk hS);exact ya;exact z130;clear hS;intro B6 w hS;(try simp only[qA])))|(have tokk:=tok_B8;(clear tokk tok_B8);((with_reducible apply yk hS);exact ya;exact z131;clear hS;intro B8 w hS;(try simp only[qA])))|((with_reducible apply yn);exact ya;exact yb rfl;exact yb rfl;exact E63;(omega);(omega);(exact Sat.rdAd2 (by assumption) hS (by((repeat (with_reducible apply yd)));try assumption) (by omega));(simp only[qN];rfl))|((with_reducible apply yO hS);exact ya;exact yb rfl;assumption;(((repeat (with_reducible apply yd)));(try assumption));assumption;rfl;exact sz130;decide +kernel;decide)|((with_reducible apply yh hS);exact ya;exact yb rfl;exact ye;rfl;decide +kernel)|((with_reducible apply yi hS);exact ya;exact yb rfl;exact yb rfl;exact ye;rfl;(focus (simp;done));exact Upd.hd;rfl;(with_reducible first|exact sz130|exact sz131);rfl;clear hS;intro w hS;(try simp only[yp,qS] at hS)));try simp only[qA]))
 go_loopw [26] (fun i wr=>∃ (k:Nat) (z n0 n1:Int),i=.int .i64 z∧z=k∧k≤4∧Hid (r=YA (wl.2+wl.1.length) n0 n1 ws k)∧Sat w0 wr (blk B8 131 [.int .i64 n0,.int .i64 n1]::Hs)) (fun i _=>4 - (intOf i).toNat)
 case atStart=>exact⟨0,0,0,0,rfl,rfl,by omega,HR,hS.sb (by(repeat (with_reducible first|exact Sb.refl|(refine Sb.take (by(repeat (first|exact Rem.hd|apply Rem.tl));done) ?_)|apply Sb.skip)))⟩
 case round =>
  clear hS HR
  obtain⟨k,z,n0,n1,rfl,hz,hk,HR,hS⟩:=hrel
  by_cases hlt:k < ws.length
  ·obtain⟨wk,hwk⟩:∃ wk,ws[k]?=some wk:=⟨_,List.getElem?_eq_getElem hlt⟩
   have hk2:=hWn _ _ hwk
   have hko:=hok wk (List.mem_of_getElem? hwk)
   unfold WdOk at hko
   have hdr:ws.drop k=wk::ws.drop (k+1):=by
    rw[List.drop_eq_getElem_cons hlt]
    congr 1
    simpa [List.getElem?_eq_getElem hlt] using hwk
   have HDR:=hid hdr
   have hk9:=(uQ ws k wk hwk).2
   clear hdr hwk hWn hok
   have hge:decide (z ≥ (ws.length:Int))=false:=by simp;omega
   have hlti:z < (ws.length:Int):=by omega
   rcases (show k=0∨k=1∨k=2∨k=3∨k=4 by omega) with rfl|rfl|rfl|rfl|rfl
   ·obtain rfl:z=0:=hz
    simp only[Nat.reduceMul] at hk2
    by_cases hp0:wk.1=[112]
    ·have hp:(wk.1 == [112])=true:=by simp[hp0]
     have HR2:Hid (r=YA (wl.2+wl.1.length) n0 n1 ws 1):=hid (by
      rw[HR.out]
      simp only[YA]
      have hd:ws=wk::ws.drop 1:=HDR.out
      conv=>lhs;rw[hd]
      simp only[h0]
      rw[if_neg (by simp[hp0])])
     clear hp0
     go_wp2_with ((first|((with_reducible apply yk hS);exact ya;exact z130;clear hS;intro NB w hS)|((with_reducible apply yn);exact ya;exact yb rfl;exact yb rfl;exact E63;(omega);(omega);(exact Sat.rdAd2 (by assumption) hS (by((repeat (with_reducible apply yd)));try assumption) (by omega));(rfl))|((with_reducible apply yO hS);(first|with_reducible exact ya|exact yf rfl rfl);exact yb rfl;assumption;(((repeat (with_reducible apply yd)));(try assumption));assumption;rfl;exact sz130;decide +kernel;decide)|((with_reducible apply yh hS);exact yf rfl rfl;exact yb rfl;exact ye;rfl;decide +kernel)|((with_reducible apply yi hS);exact ya;exact yb rfl;exact yb rfl;exact ye;rfl;(focus (simp;done));exact Upd.hd;rfl;exact sz130;rfl;clear hS;intro w hS;(try simp only[yp,qS] at hS)));try simp only[qA])
     go_roundw
     case rel=>exact⟨1,1,n0,n1,rfl,rfl,by omega,HR2,hS.sb (by(repeat (with_reducible first|exact Sb.refl|(refine Sb.take (by(repeat (first|exact Rem.hd|apply Rem.tl));done) ?_)|apply Sb.skip)))⟩
     case measure=>simp[intOf]
    ·have hp:(wk.1 == [112])=false:=by simp[hp0]
     have HR2:Hid (r=.inr (135,wk.2)):=hid (by
      rw[HR.out]
      simp only[YA]
      have hd:ws=wk::ws.drop 1:=HDR.out
      rw[hd]
      simp only[h0]
      rw[if_pos hp0])
     clear hp0
     go_wp2_with ((first|(((with_reducible apply dP 0 hC hR);(simp only[qL];rfl);decide +kernel;exact iQ;exact ya);(intro w;first|(exact yz rfl (by(exact yg)) (by assumption) (by with_reducible exact fo130_1))|(go_simp;done)|(go_simp;rw[yo (by omega) (by omega)])|(go_simp;with_reducible rfl)|(go_simp;rfl));(clear hR hC;intro hR hC))|((first|((with_reducible apply dP 2 hC hR);(simp only[qL];rfl);decide +kernel;exact iQ;exact ya)|((with_reducible apply dP 3 hC hR);(simp only[qL];rfl);decide +kernel;exact iQ;exact ya)|((with_reducible apply dP 4 hC hR);(simp only[qL];rfl);decide +kernel;exact iQ;exact ya)|((with_reducible apply dP 5 hC hR);(simp only[qL];rfl);decide +kernel;exact iQ;exact ya));(intro w;first|(go_simp;done)|(go_simp;rw[yo (by omega) (by omega)])|(go_simp;with_reducible rfl)|(go_simp;rfl));(clear hR hC;intro hR hC))|(((with_reducible apply dR 1 hC hR);(simp only[qL];rfl);decide +kernel;exact iQ;exact ya);(intro w hS;(apply yj rfl (by(exact yb rfl)));first|exact yc (by decide +kernel) (hS.cell (by(exact ye)) rfl)|exact yc (by decide +kernel) ((hS.ownCell (by(repeat (with_reducible apply yd))) (by(rfl))).1)|exact yc (by decide +kernel) (Sat.rdCell2 (by assumption) hS (by((repeat (with_reducible apply yd)));try assumption) (by(rfl)))|exact yc (by decide +kernel) (hS.baseCell (by((repeat (with_reducible apply yd)));try assumption) (by assumption))|exact yc (by decide +kernel) (fzC (by assumption) hS (by((repeat (with_reducible apply yd)));try assumption))|exact yl hS (by assumption) (by((repeat (with_reducible apply yd)));try assumption) (by assumption) (by rfl) (by with_reducible exact sz131) (by decide +kernel) (by decide)|exact hS.loadWhole (by(repeat (with_reducible apply yd))) (by kernel_rfl) (by kernel_rfl));(clear hR hC;intro hR hC))|((with_reducible apply ym);decide +kernel;clear hR hC)|(refine yt 12 6 hS (by kernel_rfl) [] rfl ?_;clear hS;intro w hS hR hC)|((with_reducible apply yk hS);exact ya;exact z130;clear hS;intro NB w hS)|((with_reducible apply yn);exact ya;exact yb rfl;exact yb rfl;exact E63;(omega);(omega);(exact Sat.rdAd2 (by assumption) hS (by((repeat (with_reducible apply yd)));try assumption) (by omega));(rfl))|((with_reducible apply yO hS);(first|with_reducible exact ya|exact yf rfl rfl);exact yb rfl;assumption;(((repeat (with_reducible apply yd)));(try assumption));assumption;rfl;exact sz130;decide +kernel;decide)|((with_reducible apply yh hS);exact yf rfl rfl;exact yb rfl;exact ye;rfl;decide +kernel)|((with_reducible apply yi hS);exact ya;exact yb rfl;exact yb rfl;exact ye;rfl;(focus (simp;done));exact Upd.hd;rfl;exact sz130;rfl;clear hS;intro w hS;(try simp only[yp,qS] at hS)));try simp only[qA])
     refine bodyPost_ret (v:=.tuple #[.int .i64 0,.int .i64 0,.int .i64 135,.int .i64 (wk.2:Int)]) (by simp[results,Tryz.results21,go_sem]) rfl ⟨?_,hS.sb (by(repeat (with_reducible first|exact Sb.refl|apply Sb.skip)))⟩
     rw[HR2.out]
     rfl
   ·obtain rfl:z=1:=hz
    simp only[Nat.reduceMul] at hk2
    by_cases hp0:wk.1=[99,110,102]
    ·have hp:(wk.1 == [99,110,102])=true:=by simp[hp0]
     have HR2:Hid (r=YA (wl.2+wl.1.length) n0 n1 ws 2):=hid (by
      rw[HR.out]
      simp only[YA]
      rw[HDR.out]
      skip
      simp only[h1]
      rw[if_neg (by simp[hp0])])
     clear hp0
     go_wp2_with ((first|((with_reducible apply yk hS);exact ya;exact z130;clear hS;intro NB w hS)|((with_reducible apply yn);exact ya;exact yb rfl;exact yb rfl;exact E63;(omega);(omega);(exact Sat.rdAd2 (by assumption) hS (by((repeat (with_reducible apply yd)));try assumption) (by omega));(rfl))|((with_reducible apply yO hS);(first|with_reducible exact ya|exact yf rfl rfl);exact yb rfl;assumption;(((repeat (with_reducible apply yd)));(try assumption));assumption;rfl;exact sz130;decide +kernel;decide)|((with_reducible apply yh hS);exact yf rfl rfl;exact yb rfl;exact ye;rfl;decide +kernel)|((with_reducible apply yi hS);exact ya;exact yb rfl;exact yb rfl;exact ye;rfl;(focus (simp;done));exact Upd.hd;rfl;exact sz130;rfl;clear hS;intro w hS;(try simp only[yp,qS] at hS)));try simp only[qA])
     go_roundw
     case rel=>exact⟨2,2,n0,n1,rfl,rfl,by omega,HR2,hS.sb (by(repeat (with_reducible first|exact Sb.refl|(refine Sb.take (by(repeat (first|exact Rem.hd|apply Rem.tl));done) ?_)|apply Sb.skip)))⟩
     case measure=>simp[intOf]
    ·have hp:(wk.1 == [99,110,102])=false:=by simp[hp0]
     have HR2:Hid (r=.inr (135,wk.2)):=hid (by
      rw[HR.out]
      simp only[YA]
      rw[HDR.out]
      skip
      simp only[h1]
      rw[if_pos hp0])
     clear hp0
     go_wp2_with ((first|(((with_reducible apply dP 0 hC hR);(simp only[qL];rfl);decide +kernel;exact iQ;exact ya);(intro w;first|(exact yz rfl (by(exact yg)) (by assumption) (by with_reducible exact fo130_1))|(go_simp;done)|(go_simp;rw[yo (by omega) (by omega)])|(go_simp;with_reducible rfl)|(go_simp;rfl));(clear hR hC;intro hR hC))|((first|((with_reducible apply dP 2 hC hR);(simp only[qL];rfl);decide +kernel;exact iQ;exact ya)|((with_reducible apply dP 3 hC hR);(simp only[qL];rfl);decide +kernel;exact iQ;exact ya)|((with_reducible apply dP 4 hC hR);(simp only[qL];rfl);decide +kernel;exact iQ;exact ya)|((with_reducible apply dP 5 hC hR);(simp only[qL];rfl);decide +kernel;exact iQ;exact ya));(intro w;first|(go_simp;done)|(go_simp;rw[yo (by omega) (by omega)])|(go_simp;with_reducible rfl)|(go_simp;rfl));(clear hR hC;intro hR hC))|(((with_reducible apply dR 1 hC hR);(simp only[qL];rfl);decide +kernel;exact iQ;exact ya);(intro w hS;(apply yj rfl (by(exact yb rfl)));first|exact yc (by decide +kernel) (hS.cell (by(exact ye)) rfl)|exact yc (by decide +kernel) ((hS.ownCell (by(repeat (with_reducible apply yd))) (by(rfl))).1)|exact yc (by decide +kernel) (Sat.rdCell2 (by assumption) hS (by((repeat (with_reducible apply yd)));try assumption) (by(rfl)))|exact yc (by decide +kernel) (hS.baseCell (by((repeat (with_reducible apply yd)));try assumption) (by assumption))|exact yc (by decide +kernel) (fzC (by assumption) hS (by((repeat (with_reducible apply yd)));try assumption))|exact yl hS (by assumption) (by((repeat (with_reducible apply yd)));try assumption) (by assumption) (by rfl) (by with_reducible exact sz131) (by decide +kernel) (by decide)|exact hS.loadWhole (by(repeat (with_reducible apply yd))) (by kernel_rfl) (by kernel_rfl));(clear hR hC;intro hR hC))|((with_reducible apply ym);decide +kernel;clear hR hC)|(refine yt 12 6 hS (by kernel_rfl) [] rfl ?_;clear hS;intro w hS hR hC)|((with_reducible apply yk hS);exact ya;exact z130;clear hS;intro NB w hS)|((with_reducible apply yn);exact ya;exact yb rfl;exact yb rfl;exact E63;(omega);(omega);(exact Sat.rdAd2 (by assumption) hS (by((repeat (with_reducible apply yd)));try assumption) (by omega));(rfl))|((with_reducible apply yO hS);(first|with_reducible exact ya|exact yf rfl rfl);exact yb rfl;assumption;(((repeat (with_reducible apply yd)));(try assumption));assumption;rfl;exact sz130;decide +kernel;decide)|((with_reducible apply yh hS);exact yf rfl rfl;exact yb rfl;exact ye;rfl;decide +kernel)|((with_reducible apply yi hS);exact ya;exact yb rfl;exact yb rfl;exact ye;rfl;(focus (simp;done));exact Upd.hd;rfl;exact sz130;rfl;clear hS;intro w hS;(try simp only[yp,qS] at hS)));try simp only[qA])
     refine bodyPost_ret (v:=.tuple #[.int .i64 0,.int .i64 0,.int .i64 135,.int .i64 (wk.2:Int)]) (by simp[results,Tryz.results21,go_sem]) rfl ⟨?_,hS.sb (by(repeat (with_reducible first|exact Sb.refl|apply Sb.skip)))⟩
     rw[HR2.out]
     rfl
   ·obtain rfl:z=2:=hz
    simp only[Nat.reduceMul] at hk2
    have DC:=KZ 2147483647 (by omega) wk.1 (by omega) w0
    have HN:=km 2147483647 wk.1
    have HX:Hid (r=match Yb wk with|.inr e=>.inr (e,wk.2)|.inl v=>YA (wl.2+wl.1.length) v n1 ws 3):=hid (by
     rw[HR.out]
     simp only[YA]
     rw[HDR.out]
     simp only[h2]
     try (cases Yb wk <;> rfl))
    unfold Yb at HX
    generalize Yv 2147483647 wk.1=m at *
    by_cases hm0:m < 0
    ·have HR2:Hid (r=.inr (133,wk.2)):=hid (by rw[HX.out,if_pos hm0])
     clear HX
     go_wp2_with ((first|(((with_reducible apply dP 0 hC hR);(simp only[qL];rfl);decide +kernel;exact iQ;exact ya);(intro w;first|(exact yz rfl (by(exact yg)) (by assumption) (by with_reducible exact fo130_1))|(go_simp;done)|(go_simp;rw[yo (by omega) (by omega)])|(go_simp;with_reducible rfl)|(go_simp;rfl));(clear hR hC;intro hR hC))|((first|((with_reducible apply dP 2 hC hR);(simp only[qL];rfl);decide +kernel;exact iQ;exact ya)|((with_reducible apply dP 3 hC hR);(simp only[qL];rfl);decide +kernel;exact iQ;exact ya)|((with_reducible apply dP 4 hC hR);(simp only[qL];rfl);decide +kernel;exact iQ;exact ya)|((with_reducible apply dP 5 hC hR);(simp only[qL];rfl);decide +kernel;exact iQ;exact ya));(intro w;first|(go_simp;done)|(go_simp;rw[yo (by omega) (by omega)])|(go_simp;with_reducible rfl)|(go_simp;rfl));(clear hR hC;intro hR hC))|(((with_reducible apply dR 1 hC hR);(simp only[qL];rfl);decide +kernel;exact iQ;exact ya);(intro w hS;(apply yj rfl (by(exact yb rfl)));first|exact yc (by decide +kernel) (hS.cell (by(exact ye)) rfl)|exact yc (by decide +kernel) ((hS.ownCell (by(repeat (with_reducible apply yd))) (by(rfl))).1)|exact yc (by decide +kernel) (Sat.rdCell2 (by assumption) hS (by((repeat (with_reducible apply yd)));try assumption) (by(rfl)))|exact yc (by decide +kernel) (hS.baseCell (by((repeat (with_reducible apply yd)));try assumption) (by assumption))|exact yc (by decide +kernel) (fzC (by assumption) hS (by((repeat (with_reducible apply yd)));try assumption))|exact yl hS (by assumption) (by((repeat (with_reducible apply yd)));try assumption) (by assumption) (by rfl) (by with_reducible exact sz131) (by decide +kernel) (by decide)|exact hS.loadWhole (by(repeat (with_reducible apply yd))) (by kernel_rfl) (by kernel_rfl));(clear hR hC;intro hR hC))|((with_reducible apply ym);decide +kernel;clear hR hC)|(refine yt 17 6 hS (by kernel_rfl) [] rfl ?_;clear hS;intro w hS hR hC)|((with_reducible apply yk hS);exact ya;exact z130;clear hS;intro NB w hS)|((with_reducible apply yn);exact ya;exact yb rfl;exact yb rfl;exact E63;(omega);(omega);(exact Sat.rdAd2 (by assumption) hS (by((repeat (with_reducible apply yd)));try assumption) (by omega));(rfl))|((with_reducible apply yO hS);exact ya;exact yb rfl;assumption;(((repeat (with_reducible apply yd)));(try assumption));assumption;rfl;exact sz130;decide +kernel;decide)|((with_reducible apply yh hS);exact ya;exact yb rfl;exact ye;rfl;decide +kernel)|((with_reducible apply yi hS);exact ya;exact yb rfl;exact yb rfl;exact ye;rfl;(focus (simp;done));exact Upd.hd;rfl;exact sz130;rfl;clear hS;intro w hS;(try simp only[yp,qS] at hS))|(go_at_call 53;refine (DC _ _ hS).mono ?_;clear hS;rintro e w ⟨rfl,hS⟩));try simp only[qA])
     refine bodyPost_ret (v:=.tuple #[.int .i64 0,.int .i64 0,.int .i64 133,.int .i64 (wk.2:Int)]) (by simp[results,Tryz.results21,go_sem]) rfl ⟨?_,hS.sb (by(repeat (with_reducible first|exact Sb.refl|apply Sb.skip)))⟩
     rw[HR2.out]
     rfl
    ·by_cases hm1:65536 < m
     ·have HR2:Hid (r=.inr (8,wk.2)):=hid (by rw[HX.out,if_neg hm0,if_pos hm1])
      have hm2:0≤m:=by omega
      clear HX hm0
      go_wp2_with ((first|(((with_reducible apply dP 0 hC hR);(simp only[qL];rfl);decide +kernel;exact iQ;exact ya);(intro w;first|(exact yz rfl (by(exact yg)) (by assumption) (by with_reducible exact fo130_1))|(go_simp;done)|(go_simp;rw[yo (by omega) (by omega)])|(go_simp;with_reducible rfl)|(go_simp;rfl));(clear hR hC;intro hR hC))|((first|((with_reducible apply dP 2 hC hR);(simp only[qL];rfl);decide +kernel;exact iQ;exact ya)|((with_reducible apply dP 3 hC hR);(simp only[qL];rfl);decide +kernel;exact iQ;exact ya)|((with_reducible apply dP 4 hC hR);(simp only[qL];rfl);decide +kernel;exact iQ;exact ya)|((with_reducible apply dP 5 hC hR);(simp only[qL];rfl);decide +kernel;exact iQ;exact ya));(intro w;first|(go_simp;done)|(go_simp;rw[yo (by omega) (by omega)])|(go_simp;with_reducible rfl)|(go_simp;rfl));(clear hR hC;intro hR hC))|(((with_reducible apply dR 1 hC hR);(simp only[qL];rfl);decide +kernel;exact iQ;exact ya);(intro w hS;(apply yj rfl (by(exact yb rfl)));first|exact yc (by decide +kernel) (hS.cell (by(exact ye)) rfl)|exact yc (by decide +kernel) ((hS.ownCell (by(repeat (with_reducible apply yd))) (by(rfl))).1)|exact yc (by decide +kernel) (Sat.rdCell2 (by assumption) hS (by((repeat (with_reducible apply yd)));try assumption) (by(rfl)))|exact yc (by decide +kernel) (hS.baseCell (by((repeat (with_reducible apply yd)));try assumption) (by assumption))|exact yc (by decide +kernel) (fzC (by assumption) hS (by((repeat (with_reducible apply yd)));try assumption))|exact yl hS (by assumption) (by((repeat (with_reducible apply yd)));try assumption) (by assumption) (by rfl) (by with_reducible exact sz131) (by decide +kernel) (by decide)|exact hS.loadWhole (by(repeat (with_reducible apply yd))) (by kernel_rfl) (by kernel_rfl));(clear hR hC;intro hR hC))|((with_reducible apply ym);decide +kernel;clear hR hC)|(refine yt 19 6 hS (by kernel_rfl) [] rfl ?_;clear hS;intro w hS hR hC)|((with_reducible apply yk hS);exact ya;exact z130;clear hS;intro NB w hS)|((with_reducible apply yn);exact ya;exact yb rfl;exact yb rfl;exact E63;(omega);(omega);(exact Sat.rdAd2 (by assumption) hS (by((repeat (with_reducible apply yd)));try assumption) (by omega));(rfl))|((with_reducible apply yO hS);exact ya;exact yb rfl;assumption;(((repeat (with_reducible apply yd)));(try assumption));assumption;rfl;exact sz130;decide +kernel;decide)|((with_reducible apply yh hS);exact ya;exact yb rfl;exact ye;rfl;decide +kernel)|((with_reducible apply yi hS);exact ya;exact yb rfl;exact yb rfl;exact ye;rfl;(focus (simp;done));exact Upd.hd;rfl;exact sz130;rfl;clear hS;intro w hS;(try simp only[yp,qS] at hS))|(go_at_call 53;refine (DC _ _ hS).mono ?_;clear hS;rintro e w ⟨rfl,hS⟩));try simp only[qA])
      refine bodyPost_ret (v:=.tuple #[.int .i64 0,.int .i64 0,.int .i64 8,.int .i64 (wk.2:Int)]) (by simp[results,Tryz.results21,go_sem]) rfl ⟨?_,hS.sb (by(repeat (with_reducible first|exact Sb.refl|apply Sb.skip)))⟩
      rw[HR2.out]
      rfl
     ·have HR2:Hid (r=YA (wl.2+wl.1.length) m n1 ws 3):=hid (by rw[HX.out,if_neg hm0,if_neg hm1])
      have hm2:0≤m:=by omega
      have hm3:m≤65536:=by omega
      clear HX hm0 hm1
      go_wp2_with ((first|((with_reducible apply yk hS);exact ya;exact z130;clear hS;intro NB w hS)|((with_reducible apply yn);exact ya;exact yb rfl;exact yb rfl;exact E63;(omega);(omega);(exact Sat.rdAd2 (by assumption) hS (by((repeat (with_reducible apply yd)));try assumption) (by omega));(rfl))|((with_reducible apply yO hS);exact ya;exact yb rfl;assumption;(((repeat (with_reducible apply yd)));(try assumption));assumption;rfl;exact sz130;decide +kernel;decide)|((with_reducible apply yh hS);exact ya;exact yb rfl;exact ye;rfl;decide +kernel)|((with_reducible apply yy hS);exact ya;exact yb rfl;exact yb rfl;(repeat (with_reducible first|exact ye|apply yd));rfl;(focus (simp;done));(repeat (with_reducible first|exact Upd.hd|apply Upd.tl));rfl;decide +kernel;clear hS;intro w hS;(try simp only[qS] at hS))|((with_reducible apply yi hS);exact ya;exact yb rfl;exact yb rfl;exact ye;rfl;(focus (simp;done));exact Upd.hd;rfl;exact sz130;rfl;clear hS;intro w hS;(try simp only[yp,qS] at hS))|(go_at_call 53;refine (DC _ _ hS).mono ?_;clear hS;rintro e w ⟨rfl,hS⟩));try simp only[qA])
      go_roundw
      case rel=>exact⟨3,3,m,n1,rfl,rfl,by omega,HR2,hS.sb (by(repeat (with_reducible first|exact Sb.refl|(refine Sb.take (by(repeat (first|exact Rem.hd|apply Rem.tl));done) ?_)|apply Sb.skip)))⟩
      case measure=>simp[intOf]
   ·obtain rfl:z=3:=hz
    simp only[Nat.reduceMul] at hk2
    have DC:=KZ 2147483647 (by omega) wk.1 (by omega) w0
    have HN:=km 2147483647 wk.1
    have HX:Hid (r=match Yb wk with|.inr e=>.inr (e,wk.2)|.inl v=>YA (wl.2+wl.1.length) n0 v ws 4):=hid (by
     rw[HR.out]
     simp only[YA]
     rw[HDR.out]
     simp only[h3]
     try (cases Yb wk <;> rfl))
    unfold Yb at HX
    generalize Yv 2147483647 wk.1=m at *
    by_cases hm0:m < 0
    ·have HR2:Hid (r=.inr (133,wk.2)):=hid (by rw[HX.out,if_pos hm0])
     clear HX
     go_wp2_with ((first|(((with_reducible apply dP 0 hC hR);(simp only[qL];rfl);decide +kernel;exact iQ;exact ya);(intro w;first|(exact yz rfl (by(exact yg)) (by assumption) (by with_reducible exact fo130_1))|(go_simp;done)|(go_simp;rw[yo (by omega) (by omega)])|(go_simp;with_reducible rfl)|(go_simp;rfl));(clear hR hC;intro hR hC))|((first|((with_reducible apply dP 2 hC hR);(simp only[qL];rfl);decide +kernel;exact iQ;exact ya)|((with_reducible apply dP 3 hC hR);(simp only[qL];rfl);decide +kernel;exact iQ;exact ya)|((with_reducible apply dP 4 hC hR);(simp only[qL];rfl);decide +kernel;exact iQ;exact ya)|((with_reducible apply dP 5 hC hR);(simp only[qL];rfl);decide +kernel;exact iQ;exact ya));(intro w;first|(go_simp;done)|(go_simp;rw[yo (by omega) (by omega)])|(go_simp;with_reducible rfl)|(go_simp;rfl));(clear hR hC;intro hR hC))|(((with_reducible apply dR 1 hC hR);(simp only[qL];rfl);decide +kernel;exact iQ;exact ya);(intro w hS;(apply yj rfl (by(exact yb rfl)));first|exact yc (by decide +kernel) (hS.cell (by(exact ye)) rfl)|exact yc (by decide +kernel) ((hS.ownCell (by(repeat (with_reducible apply yd))) (by(rfl))).1)|exact yc (by decide +kernel) (Sat.rdCell2 (by assumption) hS (by((repeat (with_reducible apply yd)));try assumption) (by(rfl)))|exact yc (by decide +kernel) (hS.baseCell (by((repeat (with_reducible apply yd)));try assumption) (by assumption))|exact yc (by decide +kernel) (fzC (by assumption) hS (by((repeat (with_reducible apply yd)));try assumption))|exact yl hS (by assumption) (by((repeat (with_reducible apply yd)));try assumption) (by assumption) (by rfl) (by with_reducible exact sz131) (by decide +kernel) (by decide)|exact hS.loadWhole (by(repeat (with_reducible apply yd))) (by kernel_rfl) (by kernel_rfl));(clear hR hC;intro hR hC))|((with_reducible apply ym);decide +kernel;clear hR hC)|(refine yt 17 6 hS (by kernel_rfl) [] rfl ?_;clear hS;intro w hS hR hC)|((with_reducible apply yk hS);exact ya;exact z130;clear hS;intro NB w hS)|((with_reducible apply yn);exact ya;exact yb rfl;exact yb rfl;exact E63;(omega);(omega);(exact Sat.rdAd2 (by assumption) hS (by((repeat (with_reducible apply yd)));try assumption) (by omega));(rfl))|((with_reducible apply yO hS);exact ya;exact yb rfl;assumption;(((repeat (with_reducible apply yd)));(try assumption));assumption;rfl;exact sz130;decide +kernel;decide)|((with_reducible apply yh hS);exact ya;exact yb rfl;exact ye;rfl;decide +kernel)|((with_reducible apply yi hS);exact ya;exact yb rfl;exact yb rfl;exact ye;rfl;(focus (simp;done));exact Upd.hd;rfl;exact sz130;rfl;clear hS;intro w hS;(try simp only[yp,qS] at hS))|(go_at_call 53;refine (DC _ _ hS).mono ?_;clear hS;rintro e w ⟨rfl,hS⟩));try simp only[qA])
     refine bodyPost_ret (v:=.tuple #[.int .i64 0,.int .i64 0,.int .i64 133,.int .i64 (wk.2:Int)]) (by simp[results,Tryz.results21,go_sem]) rfl ⟨?_,hS.sb (by(repeat (with_reducible first|exact Sb.refl|apply Sb.skip)))⟩
     rw[HR2.out]
     rfl
    ·by_cases hm1:65536 < m
     ·have HR2:Hid (r=.inr (8,wk.2)):=hid (by rw[HX.out,if_neg hm0,if_pos hm1])
      have hm2:0≤m:=by omega
      clear HX hm0
      go_wp2_with ((first|(((with_reducible apply dP 0 hC hR);(simp only[qL];rfl);decide +kernel;exact iQ;exact ya);(intro w;first|(exact yz rfl (by(exact yg)) (by assumption) (by with_reducible exact fo130_1))|(go_simp;done)|(go_simp;rw[yo (by omega) (by omega)])|(go_simp;with_reducible rfl)|(go_simp;rfl));(clear hR hC;intro hR hC))|((first|((with_reducible apply dP 2 hC hR);(simp only[qL];rfl);decide +kernel;exact iQ;exact ya)|((with_reducible apply dP 3 hC hR);(simp only[qL];rfl);decide +kernel;exact iQ;exact ya)|((with_reducible apply dP 4 hC hR);(simp only[qL];rfl);decide +kernel;exact iQ;exact ya)|((with_reducible apply dP 5 hC hR);(simp only[qL];rfl);decide +kernel;exact iQ;exact ya));(intro w;first|(go_simp;done)|(go_simp;rw[yo (by omega) (by omega)])|(go_simp;with_reducible rfl)|(go_simp;rfl));(clear hR hC;intro hR hC))|(((with_reducible apply dR 1 hC hR);(simp only[qL];rfl);decide +kernel;exact iQ;exact ya);(intro w hS;(apply yj rfl (by(exact yb rfl)));first|exact yc (by decide +kernel) (hS.cell (by(exact ye)) rfl)|exact yc (by decide +kernel) ((hS.ownCell (by(repeat (with_reducible apply yd))) (by(rfl))).1)|exact yc (by decide +kernel) (Sat.rdCell2 (by assumption) hS (by((repeat (with_reducible apply yd)));try assumption) (by(rfl)))|exact yc (by decide +kernel) (hS.baseCell (by((repeat (with_reducible apply yd)));try assumption) (by assumption))|exact yc (by decide +kernel) (fzC (by assumption) hS (by((repeat (with_reducible apply yd)));try assumption))|exact yl hS (by assumption) (by((repeat (with_reducible apply yd)));try assumption) (by assumption) (by rfl) (by with_reducible exact sz131) (by decide +kernel) (by decide)|exact hS.loadWhole (by(repeat (with_reducible apply yd))) (by kernel_rfl) (by kernel_rfl));(clear hR hC;intro hR hC))|((with_reducible apply ym);decide +kernel;clear hR hC)|(refine yt 19 6 hS (by kernel_rfl) [] rfl ?_;clear hS;intro w hS hR hC)|((with_reducible apply yk hS);exact ya;exact z130;clear hS;intro NB w hS)|((with_reducible apply yn);exact ya;exact yb rfl;exact yb rfl;exact E63;(omega);(omega);(exact Sat.rdAd2 (by assumption) hS (by((repeat (with_reducible apply yd)));try assumption) (by omega));(rfl))|((with_reducible apply yO hS);exact ya;exact yb rfl;assumption;(((repeat (with_reducible apply yd)));(try assumption));assumption;rfl;exact sz130;decide +kernel;decide)|((with_reducible apply yh hS);exact ya;exact yb rfl;exact ye;rfl;decide +kernel)|((with_reducible apply yi hS);exact ya;exact yb rfl;exact yb rfl;exact ye;rfl;(focus (simp;done));exact Upd.hd;rfl;exact sz130;rfl;clear hS;intro w hS;(try simp only[yp,qS] at hS))|(go_at_call 53;refine (DC _ _ hS).mono ?_;clear hS;rintro e w ⟨rfl,hS⟩));try simp only[qA])
      refine bodyPost_ret (v:=.tuple #[.int .i64 0,.int .i64 0,.int .i64 8,.int .i64 (wk.2:Int)]) (by simp[results,Tryz.results21,go_sem]) rfl ⟨?_,hS.sb (by(repeat (with_reducible first|exact Sb.refl|apply Sb.skip)))⟩
      rw[HR2.out]
      rfl
     ·have HR2:Hid (r=YA (wl.2+wl.1.length) n0 m ws 4):=hid (by rw[HX.out,if_neg hm0,if_neg hm1])
      have hm2:0≤m:=by omega
      have hm3:m≤65536:=by omega
      clear HX hm0 hm1
      go_wp2_with ((first|((with_reducible apply yk hS);exact ya;exact z130;clear hS;intro NB w hS)|((with_reducible apply yn);exact ya;exact yb rfl;exact yb rfl;exact E63;(omega);(omega);(exact Sat.rdAd2 (by assumption) hS (by((repeat (with_reducible apply yd)));try assumption) (by omega));(rfl))|((with_reducible apply yO hS);exact ya;exact yb rfl;assumption;(((repeat (with_reducible apply yd)));(try assumption));assumption;rfl;exact sz130;decide +kernel;decide)|((with_reducible apply yh hS);exact ya;exact yb rfl;exact ye;rfl;decide +kernel)|((with_reducible apply yy hS);exact ya;exact yb rfl;exact yb rfl;(repeat (with_reducible first|exact ye|apply yd));rfl;(focus (simp;done));(repeat (with_reducible first|exact Upd.hd|apply Upd.tl));rfl;decide +kernel;clear hS;intro w hS;(try simp only[qS] at hS))|((with_reducible apply yi hS);exact ya;exact yb rfl;exact yb rfl;exact ye;rfl;(focus (simp;done));exact Upd.hd;rfl;exact sz130;rfl;clear hS;intro w hS;(try simp only[yp,qS] at hS))|(go_at_call 53;refine (DC _ _ hS).mono ?_;clear hS;rintro e w ⟨rfl,hS⟩));try simp only[qA])
      go_roundw
      case rel=>exact⟨4,4,n0,m,rfl,rfl,by omega,HR2,hS.sb (by(repeat (with_reducible first|exact Sb.refl|(refine Sb.take (by(repeat (first|exact Rem.hd|apply Rem.tl));done) ?_)|apply Sb.skip)))⟩
      case measure=>simp[intOf]
   ·obtain rfl:z=4:=hz
    simp only[Nat.reduceMul,Nat.reduceAdd] at hk2 hk9
    have HR2:Hid (r=.inr (135,wk.2)):=hid (by
     rw[HR.out]
     simp only[YA]
     rw[HDR.out]
     rfl)
    go_wp2_with ((first|((first|((with_reducible apply dP 0 hC hR);(simp only[qL];rfl);decide +kernel;exact iQ;exact ya)|((with_reducible apply dP 4 hC hR);(simp only[qL];rfl);decide +kernel;exact iQ;exact ya)|((with_reducible apply dP 5 hC hR);(simp only[qL];rfl);decide +kernel;exact iQ;exact ya)|((with_reducible apply dP 6 hC hR);(simp only[qL];rfl);decide +kernel;exact iQ;exact ya)|((with_reducible apply dP 7 hC hR);(simp only[qL];rfl);decide +kernel;exact iQ;exact ya));(intro w;first|(go_simp;done)|(go_simp;rw[yo (by omega) (by omega)])|(go_simp;with_reducible rfl)|(go_simp;rfl));(clear hR hC;intro hR hC))|(((with_reducible apply dP 1 hC hR);(simp only[qL];rfl);decide +kernel;exact iQ;exact ya);(intro w;first|(with_reducible exact yu E63 rfl (by(exact yb rfl)) (by(exact yg)) (by(omega)) (by(omega)) (by(exact Sat.rdAd2 (by assumption) hS (by((repeat (with_reducible apply yd)));try assumption) (by omega))) (by(rfl)))|(go_simp;done)|(go_simp;rw[yo (by omega) (by omega)])|(go_simp;with_reducible rfl));(clear hR hC;intro hR hC))|(((with_reducible apply dP 2 hC hR);(simp only[qL];rfl);decide +kernel;exact iQ;exact ya);(intro w;first|(exact yz rfl (by(exact yb rfl)) (by assumption) (by with_reducible exact fo130_1))|(go_simp;done)|(go_simp;rw[yo (by omega) (by omega)])|(go_simp;with_reducible rfl)|(go_simp;rfl));(clear hR hC;intro hR hC))|(((with_reducible apply dR 3 hC hR);(simp only[qL];rfl);decide +kernel;exact iQ;exact ya);(intro w hS;(apply yj rfl (by(exact yb rfl)));first|exact yc (by decide +kernel) (hS.cell (by(repeat (with_reducible apply yd))) rfl)|exact yc (by decide +kernel) ((hS.ownCell (by(repeat (with_reducible apply yd))) (by(assumption))).1)|exact yc (by decide +kernel) (Sat.rdCell2 (by assumption) hS (by((repeat (with_reducible apply yd)));try assumption) (by(assumption)))|exact yc (by decide +kernel) (hS.baseCell (by((repeat (with_reducible apply yd)));try assumption) (by assumption))|exact yc (by decide +kernel) (fzC (by assumption) hS (by((repeat (with_reducible apply yd)));try assumption))|exact yl hS (by assumption) (by((repeat (with_reducible apply yd)));try assumption) (by assumption) (by rfl) (by with_reducible exact sz131) (by decide +kernel) (by decide)|exact hS.loadWhole (by(repeat (with_reducible apply yd))) (by kernel_rfl) (by kernel_rfl));(clear hR hC;intro hR hC))|((with_reducible apply ym);decide +kernel;clear hR hC)|(refine yt 23 8 hS (by kernel_rfl) [] rfl ?_;clear hS;intro w hS hR hC));try simp only[qA])
    refine bodyPost_ret (v:=.tuple #[.int .i64 0,.int .i64 0,.int .i64 135,.int .i64 (wk.2:Int)]) (by simp[results,Tryz.results21,go_sem]) rfl ⟨?_,hS.sb (by(repeat (with_reducible first|exact Sb.refl|apply Sb.skip)))⟩
    rw[HR2.out]
    rfl
  ·have hdn:ws.drop k=[]:=List.drop_of_length_le (by omega)
   have hge:z ≥ (ws.length:Int):=by omega
   rcases (show k=0∨k=1∨k=2∨k=3∨k=4 by omega) with rfl|rfl|rfl|rfl|rfl
   ·omega
   ·obtain rfl:z=1:=hz
    have HR2:Hid (r=.inr (135,wl.2+wl.1.length)):=hid (by
     rw[HR.out]
     simp only[YA]
     rw[hdn]
     rfl)
    clear hdn
    go_wp2_with ((with_reducible apply yk hS);exact yf rfl rfl;exact z63;clear hS;intro NB w hS;(try simp only[qA]))
    refine bodyPost_ret (v:=.tuple #[.int .i64 0,.int .i64 0,.int .i64 135,.int .i64 ((wl.2:Int)+(wl.1.length:Int))]) (by simp[results,Tryz.results21,go_sem]) rfl ⟨?_,hS.sb (by(repeat (with_reducible first|exact Sb.refl|apply Sb.skip)))⟩
    rw[HR2.out]
    simp[jH]
   ·obtain rfl:z=2:=hz
    have HR2:Hid (r=.inr (135,wl.2+wl.1.length)):=hid (by
     rw[HR.out]
     simp only[YA]
     rw[hdn]
     rfl)
    clear hdn
    go_wp2_with ((with_reducible apply yk hS);exact yf rfl rfl;exact z63;clear hS;intro NB w hS;(try simp only[qA]))
    refine bodyPost_ret (v:=.tuple #[.int .i64 0,.int .i64 0,.int .i64 135,.int .i64 ((wl.2:Int)+(wl.1.length:Int))]) (by simp[results,Tryz.results21,go_sem]) rfl ⟨?_,hS.sb (by(repeat (with_reducible first|exact Sb.refl|apply Sb.skip)))⟩
    rw[HR2.out]
    simp[jH]
   ·obtain rfl:z=3:=hz
    have HR2:Hid (r=.inr (135,wl.2+wl.1.length)):=hid (by
     rw[HR.out]
     simp only[YA]
     rw[hdn]
     rfl)
    clear hdn
    go_wp2_with ((with_reducible apply yk hS);exact yf rfl rfl;exact z63;clear hS;intro NB w hS;(try simp only[qA]))
    refine bodyPost_ret (v:=.tuple #[.int .i64 0,.int .i64 0,.int .i64 135,.int .i64 ((wl.2:Int)+(wl.1.length:Int))]) (by simp[results,Tryz.results21,go_sem]) rfl ⟨?_,hS.sb (by(repeat (with_reducible first|exact Sb.refl|apply Sb.skip)))⟩
    rw[HR2.out]
    simp[jH]
   ·obtain rfl:z=4:=hz
    have hle:(ws.length:Int)≤4:=by omega
    have HR2:Hid (r=.inl (n0,n1)):=hid (by
     rw[HR.out]
     simp only[YA]
     rw[hdn]
     rfl)
    clear hdn
    go_wp2_with ((first|((first|((with_reducible apply dP 0 hC hR);(simp only[qL];rfl);decide +kernel;exact iQ;exact ya)|((with_reducible apply dP 2 hC hR);(simp only[qL];rfl);decide +kernel;exact iQ;exact ya));(intro w;first|(with_reducible exact yu E63 rfl (by(exact yg)) (by(exact yg)) (by(omega)) (by(omega)) (by(assumption)) (by(rfl)))|(go_simp;done)|(go_simp;rw[yo (by omega) (by omega)])|(go_simp;with_reducible rfl));(clear hR hC;intro hR hC))|((first|((with_reducible apply dP 4 hC hR);(simp only[qL];rfl);decide +kernel;exact iQ;exact ya)|((with_reducible apply dP 5 hC hR);(simp only[qL];rfl);decide +kernel;exact iQ;exact ya)|((with_reducible apply dP 6 hC hR);(simp only[qL];rfl);decide +kernel;exact iQ;exact ya)|((with_reducible apply dP 7 hC hR);(simp only[qL];rfl);decide +kernel;exact iQ;exact ya));(intro w;first|(go_simp;done)|(go_simp;rw[yo (by omega) (by omega)])|(go_simp;with_reducible rfl)|(go_simp;rfl));(clear hR hC;intro hR hC))|((first|((with_reducible apply dR 1 hC hR);(simp only[qL];rfl);decide +kernel;exact iQ;exact ya)|((with_reducible apply dR 3 hC hR);(simp only[qL];rfl);decide +kernel;exact iQ;exact ya));(intro w hS;(apply yj rfl (by(exact yb rfl)));first|exact yc (by decide +kernel) (hS.cell (by(exact ye)) rfl)|exact yc (by decide +kernel) ((hS.ownCell (by(repeat (with_reducible apply yd))) (by(rfl))).1)|exact yc (by decide +kernel) (Sat.rdCell2 (by assumption) hS (by((repeat (with_reducible apply yd)));try assumption) (by(rfl)))|exact yc (by decide +kernel) (hS.baseCell (by((repeat (with_reducible apply yd)));try assumption) (by assumption))|exact yc (by decide +kernel) (fzC (by assumption) hS (by((repeat (with_reducible apply yd)));try assumption))|exact yl hS (by assumption) (by((repeat (with_reducible apply yd)));try assumption) (by assumption) (by rfl) (by with_reducible exact sz131) (by decide +kernel) (by decide)|exact hS.loadWhole (by(repeat (with_reducible apply yd))) (by kernel_rfl) (by kernel_rfl));(clear hR hC;intro hR hC))|((with_reducible apply ym);decide +kernel;clear hR hC)|(refine yt 24 8 hS (by kernel_rfl) [] rfl ?_;clear hS;intro w hS hR hC));try simp only[qA])
    refine bodyPost_ret (v:=.tuple #[.int .i64 n0,.int .i64 n1,.int .i64 0,.int .i64 0]) (by simp[results,Tryz.results21,go_sem]) rfl ⟨?_,hS.sb (by(repeat (with_reducible first|exact Sb.refl|apply Sb.skip)))⟩
    rw[HR2.out]
    rfl
end
end Go.Proofs.YteopodbkhgcpmaaGreatDoor
