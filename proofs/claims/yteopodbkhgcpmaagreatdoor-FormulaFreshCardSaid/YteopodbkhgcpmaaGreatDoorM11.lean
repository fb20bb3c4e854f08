/- A part of the proof: Rx5 Rx6. -/
import Derived.Test.YteopodbkhgcpmaaGreatDoorM1
import Derived.Test.YteopodbkhgcpmaaGreatDoorM10
set_option linter.unusedSimpArgs false
set_option linter.unusedVariables false
set_option linter.unusedSectionVars false
namespace Go.Proofs.YteopodbkhgcpmaaGreatDoor
section
set_option maxRecDepth 20000
open Go Go.RowKit Go.SL Go.ClauseP Go.LexP
-- ACT2

set_option maxHeartbeats 8000000 in
theorem operatorR (B:Nat) (op:Int) (hop:i64 op) (st:List Wt) (out:List (Int × Int)) (opn nds:Nat) (hm:MOk ⟨st,out,opn,nds⟩) (w0 w:World) (R:List HP) (h:MSt w0 w R B ⟨st,out,opn,nds⟩) :
  Calls Tryz.prog 27 #[.pointer (some ⟨B,0,none⟩),.int .i64 op] w fun e w'=>e=.returned (.int .i64 (if 65536≤nds then 8 else 0)) ∧
   (¬ 65536≤nds→MSt w0 w' R B ⟨.op op::(Yr op st out opn).1,(Yr op st out opn).2.1,(Yr op st out opn).2.2,nds+1⟩∧MOk ⟨(Yr op st out opn).1,(Yr op st out opn).2.1,(Yr op st out opn).2.2,nds+1⟩)∧(65536≤nds→MSt w0 w' R B ⟨st,out,opn,nds⟩):=by
 have MK:=fun w h=>jW B st out opn nds hm.2.2.2.2 w0 w R h
 by_cases hlim:65536≤nds
 ·simp only[if_pos hlim] at MK ⊢
  go_enter Tryz.func27,Tryz.ntmps27
  go_wp2_with (go_at_call 24;refine (MK _ h).mono ?_;clear h;rintro e w ⟨rfl,h⟩)
  go_ret
  exact⟨rfl,fun h2=>absurd hlim h2,fun _=>h⟩
 ·simp only[if_neg hlim] at MK ⊢
  obtain⟨rs,hrs⟩:∃ rs,rs=Yr op st out opn:=⟨_,rfl⟩
  rw[← hrs]
  have HRS:=hid hrs
  have hm2:MOk ⟨st,out,opn,nds+1⟩:=⟨hm.1,hm.2.1,hm.2.2.1,hm.2.2.2.1,by have:=hm.2.2.2.2;show nds+1≤65536;have:nds≤65536:=hm.2.2.2.2;omega⟩
  have TM:=fun m' hm' w h=>topM B m' hm' w0 w R h
  have BR:=fun o w Hs hS=>bindsR o w0 w Hs hS
  have HLIM:=hid hlim
  unfold i64 at hop
  obtain⟨bo,hbo⟩:∃ bo:Nat,bo=YB op:=⟨_,rfl⟩
  have HBO:=hid hbo
  have hbo5:(bo:Int)≤5:=by have:=Kq op;omega
  have BO:=BR op
  rw[← hbo] at BO
  clear hrs hm hlim hbo
  go_enter Tryz.func27,Tryz.ntmps27
  go_wp2_with (go_at_call 24;refine (MK _ h).mono ?_;clear h MK;rintro e w ⟨rfl,h⟩)
  go_loopw [6] (fun _ wr=>∃ S o k,Hid (rs=Yr op S o k)∧MOk ⟨S,o,k,nds+1⟩∧MSt w0 wr R B ⟨S,o,k,nds+1⟩) (fun _ wr=>stM B wr)
  case atStart=>exact⟨st,out,opn,HRS,hm2,h⟩
  case round =>
   clear h hm2 HRS
   obtain⟨S,o,k,HR,hm,h⟩:=hrel
   have hme:=h.meas
   have HME:=hid hme
   clear hme
   have T1:=fun w h=>TM ⟨S,o,k,nds+1⟩ hm.2.1 w h
   clear TM
   cases S with
   | nil =>
    have HR2:=hid (show rs=([],o,k) by rw[HR.out];rfl)
    simp only[kd] at T1
    clear HR
    go_upto_region 9 with (go_at_call 31;refine (T1 _ h).mono ?_;clear h;rintro e w ⟨rfl,h⟩)
    generalize ([]:List Wt)=SS at *
    obtain⟨ad1,c1,ad2,c2,hS⟩:=h
    dsimp only at hS
    have hl2:=hm.2.1
    dsimp only at hl2
    generalize hl':(SS).length=l at *
    have HL:=hid hl'
    clear hl'
    ((with_reducible apply wp_region_list);(simp only[List.toList_toArray]);(repeat (first|((with_reducible apply yh hS);exact ya;exact yb rfl;exact ye;rfl;decide +kernel;(try simp only[qA]))|((with_reducible apply yA hS);exact ya;exact E68;exact yb rfl;exact yw;rfl;decide;clear hS;intro NB w hS;(try simp only[qA]))|((with_reducible apply yD hS);exact ya;exact yb rfl;exact yb rfl;exact E68;(repeat (with_reducible first|exact Rem.hd|apply Rem.tl));(repeat (with_reducible apply Rem.tl));rfl;rfl;(omega);(omega);clear hS;intro AD CAP w hS;(try simp only[Nat.zero_add,List.nil_append] at hS);(try simp only[qA]))|((with_reducible apply yy hS);exact ya;exact yb rfl;exact yb rfl;(repeat (with_reducible first|exact ye|apply yd));rfl;(focus (simp;done));(repeat (with_reducible first|exact Upd.hd|apply Upd.tl));rfl;decide +kernel;clear hS;intro w hS;(try simp only[qS] at hS);(try simp only[qA]))|((with_reducible apply kZ);exact ya;(go_simp;with_reducible rfl);(try simp only[qA]))));(refine jy ?_))
    go_wp2_with ((with_reducible apply yh hS);exact yf rfl rfl;exact yg;(repeat (with_reducible apply yd));rfl;decide +kernel;(try simp only[qA]))
    go_ret
    refine ⟨rfl,fun _=>?_,fun hh=>absurd hh HLIM.out⟩
    rw[HR2.out]
    refine ⟨⟨AD,CAP,ad2,c2,?_⟩,hm⟩
    dsimp only[List.length_cons,stC,wtN]
    rw[HL.out]
    exact hS.sb (by(repeat (with_reducible first|exact Sb.refl|(refine Sb.take (by(repeat (first|exact Rem.hd|apply Rem.tl));done) ?_))))
   | cons x S =>
    cases x with
    | opn =>
     have HR2:=hid (show rs=(.opn::S,o,k) by rw[HR.out];rfl)
     simp only[kd,wtN] at T1
     clear HR
     go_upto_region 9 with (go_at_call 31;refine (T1 _ h).mono ?_;clear h;rintro e w ⟨rfl,h⟩)
     generalize (.opn::S:List Wt)=SS at *
     obtain⟨ad1,c1,ad2,c2,hS⟩:=h
     dsimp only at hS
     have hl2:=hm.2.1
     dsimp only at hl2
     generalize hl':(SS).length=l at *
     have HL:=hid hl'
     clear hl'
     ((with_reducible apply wp_region_list);(simp only[List.toList_toArray]);(repeat (first|((with_reducible apply yh hS);exact ya;exact yb rfl;exact ye;rfl;decide +kernel;(try simp only[qA]))|((with_reducible apply yA hS);exact ya;exact E68;exact yb rfl;exact yw;rfl;decide;clear hS;intro NB w hS;(try simp only[qA]))|((with_reducible apply yD hS);exact ya;exact yb rfl;exact yb rfl;exact E68;(repeat (with_reducible first|exact Rem.hd|apply Rem.tl));(repeat (with_reducible apply Rem.tl));rfl;rfl;(omega);(omega);clear hS;intro AD CAP w hS;(try simp only[Nat.zero_add,List.nil_append] at hS);(try simp only[qA]))|((with_reducible apply yy hS);exact ya;exact yb rfl;exact yb rfl;(repeat (with_reducible first|exact ye|apply yd));rfl;(focus (simp;done));(repeat (with_reducible first|exact Upd.hd|apply Upd.tl));rfl;decide +kernel;clear hS;intro w hS;(try simp only[qS] at hS);(try simp only[qA]))|((with_reducible apply kZ);exact ya;(go_simp;with_reducible rfl);(try simp only[qA]))));(refine jy ?_))
     go_wp2_with ((with_reducible apply yh hS);exact yf rfl rfl;exact yg;(repeat (with_reducible apply yd));rfl;decide +kernel;(try simp only[qA]))
     go_ret
     refine ⟨rfl,fun _=>?_,fun hh=>absurd hh HLIM.out⟩
     rw[HR2.out]
     refine ⟨⟨AD,CAP,ad2,c2,?_⟩,hm⟩
     dsimp only[List.length_cons,stC,wtN]
     rw[HL.out]
     exact hS.sb (by(repeat (with_reducible first|exact Sb.refl|(refine Sb.take (by(repeat (first|exact Rem.hd|apply Rem.tl));done) ?_))))
    | ite n =>
     have HR2:=hid (show rs=(.ite n::S,o,k) by rw[HR.out];rfl)
     simp only[kd,wtN] at T1
     clear HR
     go_upto_region 9 with (go_at_call 31;refine (T1 _ h).mono ?_;clear h;rintro e w ⟨rfl,h⟩)
     generalize (.ite n::S:List Wt)=SS at *
     obtain⟨ad1,c1,ad2,c2,hS⟩:=h
     dsimp only at hS
     have hl2:=hm.2.1
     dsimp only at hl2
     generalize hl':(SS).length=l at *
     have HL:=hid hl'
     clear hl'
     ((with_reducible apply wp_region_list);(simp only[List.toList_toArray]);(repeat (first|((with_reducible apply yh hS);exact ya;exact yb rfl;exact ye;rfl;decide +kernel;(try simp only[qA]))|((with_reducible apply yA hS);exact ya;exact E68;exact yb rfl;exact yw;rfl;decide;clear hS;intro NB w hS;(try simp only[qA]))|((with_reducible apply yD hS);exact ya;exact yb rfl;exact yb rfl;exact E68;(repeat (with_reducible first|exact Rem.hd|apply Rem.tl));(repeat (with_reducible apply Rem.tl));rfl;rfl;(omega);(omega);clear hS;intro AD CAP w hS;(try simp only[Nat.zero_add,List.nil_append] at hS);(try simp only[qA]))|((with_reducible apply yy hS);exact ya;exact yb rfl;exact yb rfl;(repeat (with_reducible first|exact ye|apply yd));rfl;(focus (simp;done));(repeat (with_reducible first|exact Upd.hd|apply Upd.tl));rfl;decide +kernel;clear hS;intro w hS;(try simp only[qS] at hS);(try simp only[qA]))|((with_reducible apply kZ);exact ya;(go_simp;with_reducible rfl);(try simp only[qA]))));(refine jy ?_))
     go_wp2_with ((with_reducible apply yh hS);exact yf rfl rfl;exact yg;(repeat (with_reducible apply yd));rfl;decide +kernel;(try simp only[qA]))
     go_ret
     refine ⟨rfl,fun _=>?_,fun hh=>absurd hh HLIM.out⟩
     rw[HR2.out]
     refine ⟨⟨AD,CAP,ad2,c2,?_⟩,hm⟩
     dsimp only[List.length_cons,stC,wtN]
     rw[HL.out]
     exact hS.sb (by(repeat (with_reducible first|exact Sb.refl|(refine Sb.take (by(repeat (first|exact Rem.hd|apply Rem.tl));done) ?_))))
    | quant a b =>
     have HR2:=hid (show rs=(.quant a b::S,o,k) by rw[HR.out];rfl)
     simp only[kd,wtN] at T1
     clear HR
     go_upto_region 9 with (go_at_call 31;refine (T1 _ h).mono ?_;clear h;rintro e w ⟨rfl,h⟩)
     generalize (.quant a b::S:List Wt)=SS at *
     obtain⟨ad1,c1,ad2,c2,hS⟩:=h
     dsimp only at hS
     have hl2:=hm.2.1
     dsimp only at hl2
     generalize hl':(SS).length=l at *
     have HL:=hid hl'
     clear hl'
     ((with_reducible apply wp_region_list);(simp only[List.toList_toArray]);(repeat (first|((with_reducible apply yh hS);exact ya;exact yb rfl;exact ye;rfl;decide +kernel;(try simp only[qA]))|((with_reducible apply yA hS);exact ya;exact E68;exact yb rfl;exact yw;rfl;decide;clear hS;intro NB w hS;(try simp only[qA]))|((with_reducible apply yD hS);exact ya;exact yb rfl;exact yb rfl;exact E68;(repeat (with_reducible first|exact Rem.hd|apply Rem.tl));(repeat (with_reducible apply Rem.tl));rfl;rfl;(omega);(omega);clear hS;intro AD CAP w hS;(try simp only[Nat.zero_add,List.nil_append] at hS);(try simp only[qA]))|((with_reducible apply yy hS);exact ya;exact yb rfl;exact yb rfl;(repeat (with_reducible first|exact ye|apply yd));rfl;(focus (simp;done));(repeat (with_reducible first|exact Upd.hd|apply Upd.tl));rfl;decide +kernel;clear hS;intro w hS;(try simp only[qS] at hS);(try simp only[qA]))|((with_reducible apply kZ);exact ya;(go_simp;with_reducible rfl);(try simp only[qA]))));(refine jy ?_))
     go_wp2_with ((with_reducible apply yh hS);exact yf rfl rfl;exact yg;(repeat (with_reducible apply yd));rfl;decide +kernel;(try simp only[qA]))
     go_ret
     refine ⟨rfl,fun _=>?_,fun hh=>absurd hh HLIM.out⟩
     rw[HR2.out]
     refine ⟨⟨AD,CAP,ad2,c2,?_⟩,hm⟩
     dsimp only[List.length_cons,stC,wtN]
     rw[HL.out]
     exact hS.sb (by(repeat (with_reducible first|exact Sb.refl|(refine Sb.take (by(repeat (first|exact Rem.hd|apply Rem.tl));done) ?_))))
    | not =>
     have HR2:=hid (show rs=Yr op S (o++ndW .not) (k - opW .not) by rw[HR.out];rfl)
     obtain⟨s1,s2⟩:=hm.settle
     have SM:=fun w h=>Ja B .not S o k (nds+1) (by intro h;cases h) s1 hm.2.2.2.1 (by have:=hm.2.1;simp at this;omega) (by have:=hm.2.2.1;simp at this;omega) w0 w R h
     simp only[kd,wtN] at T1
     clear HR
     go_wp2_with (first|(go_at_call 31;refine (T1 _ h).mono ?_;clear h;rintro e w ⟨rfl,h⟩)|(go_at_call 59;refine (SM _ h).mono ?_;clear h;rintro e w ⟨rfl,h⟩))
     go_roundw
     case rel=>exact⟨S,_,_,HR2,s2,h⟩
     case measure=>rw[h.meas,HME.out];simp
    | op a =>
     simp only[kd,wtN] at T1
     obtain⟨ba,hba⟩:∃ ba:Nat,ba=YB a:=⟨_,rfl⟩
     have HBA:=hid hba
     have hba5:(ba:Int)≤5:=by have:=Kq a;omega
     have BA:=BR a
     rw[← hba] at BA
     clear hba
     have hll:=hm.2.1
     simp only[List.length_cons] at hll
     obtain⟨V0,V1,V2,V3,V4⟩:=kB (a:=.int .i64 5) (b:=.int .i64 a) (c:=.int .i64 0) (YV S)
     have hop':∀ {w:World},MSt w0 w R B ⟨.op a::S,o,k,nds+1⟩→∃ ad1 c1 ad2 c2,(∃ aa,ad1=some aa∧aa.spot=none)∧Sat w0 w (blk B 70 [.slice ad1 (S.length+1) c1,.slice ad2 o.length c2,.int .i64 k,.int .i64 ((nds+1:Nat):Int)]::own 78 3 ad1 (S.length+1) c1 (stC S++[.int .i64 5,.int .i64 a,.int .i64 0])::own 44 2 ad2 o.length c2 (Fs o)::R):=fun h=>by
      obtain⟨ad1,c1,ad2,c2,hS⟩:=h
      simp only[List.length_cons,stC,wtN] at hS
      exact⟨ad1,c1,ad2,c2,hS.ownNN (yd ye) (by omega),hS⟩
     have hli:(S.length:Int)≤200000:=by omega
     have SH:∀ {w:World} {ad1 ad2:Option Addr} {c1 c2:Nat},Sat w0 w (blk B 70 [.slice ad1 (S.length+1) c1,.slice ad2 o.length c2,.int .i64 k,.int .i64 ((nds+1:Nat):Int)]::own 78 3 ad1 (S.length+1) c1 (stC S++[.int .i64 5,.int .i64 a,.int .i64 0])::own 44 2 ad2 o.length c2 (Fs o)::R)→MSt w0 w R B ⟨.op a::S,o,k,nds+1⟩:=fun hS=>⟨_,_,_,_,hS⟩
     obtain⟨s1,s2⟩:=hm.settle
     have SM:=fun w h=>Ja B (.op a) S o k (nds+1) (by intro h;cases h) s1 hm.2.2.2.1 (by have:=hm.2.1;simp at this;omega) (by have:=hm.2.2.1;simp at this;omega) w0 w R h
     by_cases hbrk:ba < bo∨(ba=bo∧op=9)
     ·have HR2:=hid (show rs=(.op a::S,o,k) by
       rw[HR.out,Yr,← HBA.out,← HBO.out,if_pos hbrk])
      have hcase:(ba < bo)∨(decide (ba < bo)=false∧((ba:Int) == (bo:Int))=true∧(ba == bo)=true∧(op == 9)=true):=by
       rcases hbrk with h1|⟨h1,h2⟩
       ·exact .inl (by omega)
       ·exact .inr ⟨by simp;omega,by simp;omega,by simp;omega,by simpa using h2⟩
      clear hbrk HR SM SH s1 s2
      rcases hcase with h1|⟨h1,h2,h22,h3⟩
      all_goals
       go_upto_region 6 with (go_at_call 31;refine (T1 _ h).mono ?_;clear h;rintro e w ⟨rfl,h⟩)
       obtain⟨ad1,c1,ad2,c2,NNA,hS⟩:=hop' h
       clear h
       generalize hl':S.length=l at *
       have HL:=hid hl'
       clear hl'
       clear V0 V2 V3 V4 hop' BR
       go_upto_region 7 with ((first|((with_reducible apply Cont.intro);(focus (apply Or.inr;apply (Sat.sb hS);(repeat (with_reducible exact Sb.refl));done));intro hR hC)|((first|((with_reducible apply dP 0 hC hR);(simp only[qL];rfl);decide +kernel;exact iQ;exact ya)|((with_reducible apply dP 1 hC hR);(simp only[qL];rfl);decide +kernel;exact iQ;exact ya)|((with_reducible apply dP 4 hC hR);(simp only[qL];rfl);decide +kernel;exact iQ;exact ya)|((with_reducible apply dP 5 hC hR);(simp only[qL];rfl);decide +kernel;exact iQ;exact ya)|((with_reducible apply dP 8 hC hR);(simp only[qL];rfl);decide +kernel;exact iQ;exact ya)|((with_reducible apply dP 9 hC hR);(simp only[qL];rfl);decide +kernel;exact iQ;exact ya)|((with_reducible apply dP 14 hC hR);(simp only[qL];rfl);decide +kernel;exact iQ;exact ya));(intro w;first|(go_simp;done)|(go_simp;rw[yo (by omega) (by omega)])|(go_simp;with_reducible rfl)|(go_simp;rfl));(clear hR hC;intro hR hC))|((first|((with_reducible apply dP 2 hC hR);(simp only[qL];rfl);decide +kernel;exact iQ;exact ya)|((with_reducible apply dP 6 hC hR);(simp only[qL];rfl);decide +kernel;exact iQ;exact ya)|((with_reducible apply dP 11 hC hR);(simp only[qL];rfl);decide +kernel;exact iQ;exact ya));(intro w;first|(exact yz rfl (by(exact yb rfl)) (by assumption) (by with_reducible exact fo78_1))|(go_simp;done)|(go_simp;rw[yo (by omega) (by omega)])|(go_simp;with_reducible rfl)|(go_simp;rfl));(clear hR hC;intro hR hC))|(((with_reducible apply dP 10 hC hR);(simp only[qL];rfl);decide +kernel;exact iQ;exact ya);(intro w;first|(with_reducible exact yu E23 rfl (by(exact yg)) (by(exact yg)) (by(omega)) (by(omega)) (by(assumption)) (by(rfl)))|(with_reducible exact yu E68 rfl (by(exact yb rfl)) (by(exact yb rfl)) (by(omega)) (by(omega)) (by(exact hS.ownNN (by(repeat (with_reducible first|exact ye|apply yd))) (by omega))) (by(simp only[qN];rfl)))|(go_simp;done)|(go_simp;rw[yo (by omega) (by omega)])|(go_simp;with_reducible rfl));(clear hR hC;intro hR hC))|((first|((with_reducible apply dR 3 hC hR);(simp only[qL];rfl);decide +kernel;exact iQ;exact ya)|((with_reducible apply dR 7 hC hR);(simp only[qL];rfl);decide +kernel;exact iQ;exact ya)|((with_reducible apply dR 12 hC hR);(simp only[qL];rfl);decide +kernel;exact iQ;exact ya));(intro w hS;(apply yj rfl (by(exact yb rfl)));first|exact yc (by decide +kernel) (hS.cell (by(repeat (with_reducible first|exact ye|apply yd))) rfl)|exact yc (by decide +kernel) ((hS.ownCell (by(repeat (with_reducible first|exact ye|apply yd))) (by(assumption))).1)|exact yc (by decide +kernel) (Sat.rdCell2 (by assumption) hS (by((repeat (with_reducible apply yd)));try assumption) (by(rfl)))|exact yc (by decide +kernel) (hS.baseCell (by((repeat (with_reducible apply yd)));try assumption) (by assumption))|exact yc (by decide +kernel) (fzC (by assumption) hS (by((repeat (with_reducible apply yd)));try assumption))|exact yl hS (by assumption) (by((repeat (with_reducible apply yd)));try assumption) (by assumption) (by rfl) (by with_reducible exact sz78) (by decide +kernel) (by decide)|exact hS.loadWhole (by(repeat (with_reducible apply yd))) (by kernel_rfl) (by kernel_rfl));(clear hR hC;intro hR hC))|((with_reducible apply yq (i:=13));(simp only[qL];rfl);decide +kernel;exact hC;clear hR hC)|((with_reducible apply ym);decide +kernel;clear hR hC)|(refine yt 6 15 hS (by kernel_rfl) [] rfl ?_;clear hS;intro w hS hR hC)|(go_at_call 58;refine (BA _ _ hS).mono ?_;clear hS;rintro e w ⟨rfl,hS⟩));try simp only[qA])
       clear BA V1
       go_upto_region 9 with (go_at_call 58;refine (BO _ _ hS).mono ?_;clear hS;rintro e w ⟨rfl,hS⟩)
       clear BO
       ((with_reducible apply wp_region_list);(simp only[List.toList_toArray]);(repeat (first|((with_reducible apply yh hS);exact ya;exact yb rfl;exact ye;rfl;decide +kernel;(try simp only[qA]))|((with_reducible apply yA hS);exact ya;exact E68;exact yb rfl;exact yw;rfl;decide;clear hS;intro NB w hS;(try simp only[qA]))|((with_reducible apply yD hS);exact ya;exact yb rfl;exact yb rfl;exact E68;(repeat (with_reducible first|exact Rem.hd|apply Rem.tl));(repeat (with_reducible apply Rem.tl));rfl;rfl;(omega);(omega);clear hS;intro AD CAP w hS;(try simp only[Nat.zero_add,List.nil_append] at hS);(try simp only[qA]))|((with_reducible apply yy hS);exact ya;exact yb rfl;exact yb rfl;(repeat (with_reducible first|exact ye|apply yd));rfl;(focus (simp;done));(repeat (with_reducible first|exact Upd.hd|apply Upd.tl));rfl;decide +kernel;clear hS;intro w hS;(try simp only[qS] at hS);(try simp only[qA]))|((with_reducible apply kZ);exact ya;(go_simp;with_reducible rfl);(try simp only[qA]))));(refine jy ?_))
       go_wp2_with ((with_reducible apply yh hS);exact yf rfl rfl;exact yg;(repeat (with_reducible apply yd));rfl;decide +kernel;(try simp only[qA]))
       go_ret
       refine ⟨rfl,fun _=>?_,fun hh=>absurd hh HLIM.out⟩
       rw[HR2.out]
       refine ⟨⟨AD,CAP,ad2,c2,?_⟩,hm⟩
       dsimp only[List.length_cons,stC,wtN]
       rw[HL.out]
       exact hS.sb (by(repeat (with_reducible first|exact Sb.refl|(refine Sb.take (by(repeat (first|exact Rem.hd|apply Rem.tl));done) ?_))))
     ·have HR2:=hid (show rs=Yr op S (o++ndW (.op a)) (k - opW (.op a)) by
       rw[HR.out,Yr,← HBA.out,← HBO.out,if_neg hbrk];rfl)
      have hge:decide (ba < bo)=false:=by simp;omega
      have hcase:(((ba:Int) == (bo:Int))=false∧(ba == bo)=false)∨(((ba:Int) == (bo:Int))=true∧(ba == bo)=true∧(op == 9)=false):=by
       by_cases h1:ba=bo
       ·exact .inr ⟨by simp;omega,by simp;omega,by simp;intro h2;exact hbrk (.inr ⟨h1,h2⟩)⟩
       ·exact .inl ⟨by simp;omega,by simp;omega⟩
      clear hbrk HR
      rcases hcase with ⟨h1,h11⟩|⟨h1,h11,h3⟩
      all_goals
       go_upto_region 6 with (go_at_call 31;refine (T1 _ h).mono ?_;clear h;rintro e w ⟨rfl,h⟩)
       obtain⟨ad1,c1,ad2,c2,NNA,hS⟩:=hop' h
       clear h
       clear V0 V2 V3 V4 hop' BR
       go_upto_region 7 with ((first|((with_reducible apply Cont.intro);(focus (apply Or.inr;apply (Sat.sb hS);(repeat (with_reducible exact Sb.refl));done));intro hR hC)|((first|((with_reducible apply dP 0 hC hR);(simp only[qL];rfl);decide +kernel;exact iQ;exact ya)|((with_reducible apply dP 1 hC hR);(simp only[qL];rfl);decide +kernel;exact iQ;exact ya)|((with_reducible apply dP 4 hC hR);(simp only[qL];rfl);decide +kernel;exact iQ;exact ya)|((with_reducible apply dP 5 hC hR);(simp only[qL];rfl);decide +kernel;exact iQ;exact ya)|((with_reducible apply dP 8 hC hR);(simp only[qL];rfl);decide +kernel;exact iQ;exact ya)|((with_reducible apply dP 9 hC hR);(simp only[qL];rfl);decide +kernel;exact iQ;exact ya)|((with_reducible apply dP 14 hC hR);(simp only[qL];rfl);decide +kernel;exact iQ;exact ya));(intro w;first|(go_simp;done)|(go_simp;rw[yo (by omega) (by omega)])|(go_simp;with_reducible rfl)|(go_simp;rfl));(clear hR hC;intro hR hC))|((first|((with_reducible apply dP 2 hC hR);(simp only[qL];rfl);decide +kernel;exact iQ;exact ya)|((with_reducible apply dP 6 hC hR);(simp only[qL];rfl);decide +kernel;exact iQ;exact ya)|((with_reducible apply dP 11 hC hR);(simp only[qL];rfl);decide +kernel;exact iQ;exact ya));(intro w;first|(exact yz rfl (by(exact yb rfl)) (by assumption) (by with_reducible exact fo78_1))|(go_simp;done)|(go_simp;rw[yo (by omega) (by omega)])|(go_simp;with_reducible rfl)|(go_simp;rfl));(clear hR hC;intro hR hC))|(((with_reducible apply dP 10 hC hR);(simp only[qL];rfl);decide +kernel;exact iQ;exact ya);(intro w;first|(with_reducible exact yu E23 rfl (by(exact yg)) (by(exact yg)) (by(omega)) (by(omega)) (by(assumption)) (by(rfl)))|(with_reducible exact yu E68 rfl (by(exact yb rfl)) (by(exact yb rfl)) (by(omega)) (by(omega)) (by(exact hS.ownNN (by(repeat (with_reducible first|exact ye|apply yd))) (by omega))) (by(simp only[qN];rfl)))|(go_simp;done)|(go_simp;rw[yo (by omega) (by omega)])|(go_simp;with_reducible rfl));(clear hR hC;intro hR hC))|((first|((with_reducible apply dR 3 hC hR);(simp only[qL];rfl);decide +kernel;exact iQ;exact ya)|((with_reducible apply dR 7 hC hR);(simp only[qL];rfl);decide +kernel;exact iQ;exact ya)|((with_reducible apply dR 12 hC hR);(simp only[qL];rfl);decide +kernel;exact iQ;exact ya));(intro w hS;(apply yj rfl (by(exact yb rfl)));first|exact yc (by decide +kernel) (hS.cell (by(repeat (with_reducible first|exact ye|apply yd))) rfl)|exact yc (by decide +kernel) ((hS.ownCell (by(repeat (with_reducible first|exact ye|apply yd))) (by(assumption))).1)|exact yc (by decide +kernel) (Sat.rdCell2 (by assumption) hS (by((repeat (with_reducible apply yd)));try assumption) (by(rfl)))|exact yc (by decide +kernel) (hS.baseCell (by((repeat (with_reducible apply yd)));try assumption) (by assumption))|exact yc (by decide +kernel) (fzC (by assumption) hS (by((repeat (with_reducible apply yd)));try assumption))|exact yl hS (by assumption) (by((repeat (with_reducible apply yd)));try assumption) (by assumption) (by rfl) (by with_reducible exact sz78) (by decide +kernel) (by decide)|exact hS.loadWhole (by(repeat (with_reducible apply yd))) (by kernel_rfl) (by kernel_rfl));(clear hR hC;intro hR hC))|((with_reducible apply yq (i:=13));(simp only[qL];rfl);decide +kernel;exact hC;clear hR hC)|((with_reducible apply ym);decide +kernel;clear hR hC)|(refine yt 6 15 hS (by kernel_rfl) [] rfl ?_;clear hS;intro w hS hR hC)|(go_at_call 58;refine (BA _ _ hS).mono ?_;clear hS;rintro e w ⟨rfl,hS⟩));try simp only[qA])
       clear BA V1
       go_upto_region 8 with (go_at_call 58;refine (BO _ _ hS).mono ?_;clear hS;rintro e w ⟨rfl,hS⟩)
       clear BO
       have h:=SH hS
       clear hS
       go_wp2_with (go_at_call 59;refine (SM _ h).mono ?_;clear h;rintro e w ⟨rfl,h⟩)
       go_roundw
       case rel=>exact⟨S,_,_,HR2,s2,h⟩
       case measure=>rw[h.meas,HME.out];simp
end
section
set_option maxRecDepth 20000
open Go Go.RowKit Go.SL Go.ClauseP Go.LexP
-- ACT2

theorem Kl:∀ (S:List Wt) (o:List (Int × Int)) (k:Nat),(yQ S o k).1=[]∨(∃ S',(yQ S o k).1=.opn::S')∨∃ n S',(yQ S o k).1=.ite n::S'
 | [],o,k=>.inl rfl
 | w::s,o,k=>by
  cases w with
  | opn=>exact .inr (.inl ⟨s,rfl⟩)
  | ite n=>exact .inr (.inr ⟨n,s,rfl⟩)
  | not=>exact Kl s _ _
  | quant a b=>exact Kl s _ _
  | op a=>exact Kl s _ _
def kF (nds:Nat):List Wt × List (Int × Int) × Nat→Int × MS
 | (.opn::s,o,k)=>(0,⟨s,o,k - 1,nds⟩)
 | (.ite n::s,o,k)=>if n=2 then (0,⟨s,o++[(11,0)],k - 1,nds⟩) else (131,⟨[],[],0,0⟩)
 | _=>(131,⟨[],[],0,0⟩)
set_option maxHeartbeats 8000000 in
theorem closesR (B:Nat) (st:List Wt) (out:List (Int × Int)) (opn nds:Nat) (hm:MOk ⟨st,out,opn,nds⟩) (w0 w:World) (R:List HP) (h:MSt w0 w R B ⟨st,out,opn,nds⟩) :
  Calls Tryz.prog 28 #[.pointer (some ⟨B,0,none⟩)] w fun e w'=>e=.returned (.int .i64 (kF nds (yQ st out opn)).1) ∧
   ((kF nds (yQ st out opn)).1=0→MSt w0 w' R B (kF nds (yQ st out opn)).2∧MOk (kF nds (yQ st out opn)).2)∧((kF nds (yQ st out opn)).1=131→∃ m',MSt w0 w' R B m'):=by
 have IR:=fun w h=>gW B ⟨st,out,opn,nds⟩ hm w0 w R h
 have hsh:=Kl st out opn
 dsimp only at IR
 generalize hrs:yQ st out opn=rs at *
 obtain⟨S1,o1,k1⟩:=rs
 clear hrs hm
 dsimp only at IR hsh
 rcases hsh with rfl|⟨S,rfl⟩|⟨n,S,rfl⟩
 ·go_enter Tryz.func28,Tryz.ntmps28
  go_upto_region 2 with (go_at_call 30;refine (IR _ h).mono ?_;clear h IR;rintro e w ⟨rfl,hm,h⟩)
  obtain⟨ad1,c1,ad2,c2,hS⟩:=h
  simp only[List.length_nil] at hS
  have T0:=fun w hS=>top0 B ad1 c1 (.slice ad2 o1.length c2) k1 nds w0 w (own 78 3 ad1 0 c1 (stC [])::own 44 2 ad2 o1.length c2 (Fs o1)::R) hS
  go_wp2_with ((first|((with_reducible apply Cont.intro);(focus (apply Or.inr;apply (Sat.sb hS);(repeat (with_reducible exact Sb.refl));done));intro hR hC)|((first|((with_reducible apply dP 0 hC hR);(simp only[qL];rfl);decide +kernel;exact iQ;exact ya)|((with_reducible apply dP 2 hC hR);(simp only[qL];rfl);decide +kernel;exact iQ;exact ya)|((with_reducible apply dP 3 hC hR);(simp only[qL];rfl);decide +kernel;exact iQ;exact ya)|((with_reducible apply dP 18 hC hR);(simp only[qL];rfl);decide +kernel;exact iQ;exact ya));(intro w;first|(go_simp;done)|(go_simp;rw[yo (by omega) (by omega)])|(go_simp;with_reducible rfl)|(go_simp;rfl));(clear hR hC;intro hR hC))|((first|((with_reducible apply dS 4 hC hR);(simp only[qL];rfl);decide +kernel;exact iQ;(exact yr rfl rfl))|((with_reducible apply dS 5 hC hR);(simp only[qL];rfl);decide +kernel;exact iQ;(exact yr rfl rfl))|((with_reducible apply dS 6 hC hR);(simp only[qL];rfl);decide +kernel;exact iQ;(exact yr rfl rfl))|((with_reducible apply dS 7 hC hR);(simp only[qL];rfl);decide +kernel;exact iQ;(exact yr rfl rfl))|((with_reducible apply dS 8 hC hR);(simp only[qL];rfl);decide +kernel;exact iQ;(exact yr rfl rfl))|((with_reducible apply dS 9 hC hR);(simp only[qL];rfl);decide +kernel;exact iQ;(exact yr rfl rfl))|((with_reducible apply dS 10 hC hR);(simp only[qL];rfl);decide +kernel;exact iQ;(exact yr rfl rfl))|((with_reducible apply dS 11 hC hR);(simp only[qL];rfl);decide +kernel;exact iQ;(exact yr rfl rfl))|((with_reducible apply dS 12 hC hR);(simp only[qL];rfl);decide +kernel;exact iQ;(exact yr rfl rfl))|((with_reducible apply dS 13 hC hR);(simp only[qL];rfl);decide +kernel;exact iQ;(exact yr rfl rfl))|((with_reducible apply dS 14 hC hR);(simp only[qL];rfl);decide +kernel;exact iQ;(exact yr rfl rfl))|((with_reducible apply dS 15 hC hR);(simp only[qL];rfl);decide +kernel;exact iQ;(exact yr rfl rfl))|((with_reducible apply dS 16 hC hR);(simp only[qL];rfl);decide +kernel;exact iQ;(exact yr rfl rfl))|((with_reducible apply dS 17 hC hR);(simp only[qL];rfl);decide +kernel;exact iQ;(exact yr rfl rfl)));(clear hR hC;intro hR hC))|((with_reducible apply yq (i:=1));(simp only[qL];rfl);decide +kernel;exact hC;clear hR hC)|((with_reducible apply ym);decide +kernel;clear hR hC)|(refine yt 6 19 hS (by kernel_rfl) [] rfl ?_;clear hS;intro w hS hR hC)|(go_at_call 31;refine (T0 _ hS).mono ?_;clear hS;rintro e w ⟨rfl,hS⟩));try simp only[qA])
  go_ret
  exact⟨rfl,fun h=>by have h:(131:Int)=0:=h;exact absurd h (by decide),fun _=>⟨⟨[],o1,k1,nds⟩,ad1,c1,ad2,c2,hS⟩⟩
 ·go_enter Tryz.func28,Tryz.ntmps28
  go_upto_region 2 with (go_at_call 30;refine (IR _ h).mono ?_;clear h IR;rintro e w ⟨rfl,hm,h⟩)
  obtain⟨ad1,c1,ad2,c2,hS⟩:=h
  simp only[List.length_cons,stC,wtN] at hS
  have hl:=hm.2.1
  have ho:k1=1+(S.map opW).sum:=hm.1
  have ho2:k1≤64:=hm.2.2.2.1
  simp only[List.length_cons] at hl
  obtain⟨V0,V1,V2,V3,V4⟩:=kB (a:=.int .i64 3) (b:=.int .i64 0) (c:=.int .i64 0) (YV S)
  have hcap:=(hS.ownCap (yd ye)).1
  have T1:=fun w hS=>top1 B ad1 S.length c1 (by omega) (.slice ad2 o1.length c2) k1 nds 3 0 0 (stC S) (YV S) w0 w (own 44 2 ad2 o1.length c2 (Fs o1)::R) hS
  have HM:=hid hm
  have HV4:=hid V4
  have HO:=hid ho
  clear V4 V0 V1 V2 V3 ho hm
  generalize hl':S.length=l at *
  have HL:=hid hl'
  clear hl'
  have hli:(l:Int)≤200000:=by omega
  have hli0:(0:Int)≤(l:Int):=by omega
  have hlc:(l:Int)≤(c1:Int):=by omega
  have hk1:1≤(k1:Int):=by have:=HO.out;omega
  have hk2:(k1:Int)≤64:=by omega
  go_wp2_with ((first|((with_reducible apply Cont.intro);(exact Or.inl (by kernel_rfl));intro hR hC)|((first|((with_reducible apply dP 0 hC hR);(simp only[qL];rfl);decide +kernel;exact iQ;exact ya)|((with_reducible apply dP 1 hC hR);(simp only[qL];rfl);decide +kernel;exact iQ;exact ya)|((with_reducible apply dP 2 hC hR);(simp only[qL];rfl);decide +kernel;exact iQ;exact ya)|((with_reducible apply dP 5 hC hR);(simp only[qL];rfl);decide +kernel;exact iQ;exact ya)|((with_reducible apply dP 6 hC hR);(simp only[qL];rfl);decide +kernel;exact iQ;exact ya)|((with_reducible apply dP 9 hC hR);(simp only[qL];rfl);decide +kernel;exact iQ;exact ya)|((with_reducible apply dP 10 hC hR);(simp only[qL];rfl);decide +kernel;exact iQ;exact ya)|((with_reducible apply dP 11 hC hR);(simp only[qL];rfl);decide +kernel;exact iQ;exact ya)|((with_reducible apply dP 12 hC hR);(simp only[qL];rfl);decide +kernel;exact iQ;exact ya));(intro w;first|(go_simp;done)|(go_simp;rw[yo (by omega) (by omega)])|(go_simp;with_reducible rfl)|(go_simp;rfl));(clear hR hC;intro hR hC))|((first|((with_reducible apply dP 3 hC hR);(simp only[qL];rfl);decide +kernel;exact iQ;exact ya)|((with_reducible apply dP 7 hC hR);(simp only[qL];rfl);decide +kernel;exact iQ;exact ya)|((with_reducible apply dP 13 hC hR);(simp only[qL];rfl);decide +kernel;exact iQ;exact ya));(intro w;first|(exact yz rfl (by(exact yg)) (by assumption) (by with_reducible exact fo78_2))|(go_simp;done)|(go_simp;rw[yo (by omega) (by omega)])|(go_simp;with_reducible rfl)|(go_simp;rfl));(clear hR hC;intro hR hC))|((first|((with_reducible apply dR 4 hC hR);(simp only[qL];rfl);decide +kernel;exact iQ;exact ya)|((with_reducible apply dR 8 hC hR);(simp only[qL];rfl);decide +kernel;exact iQ;exact ya));(intro w hS;(apply yj rfl (by(exact yb rfl)));first|exact yc (by decide +kernel) (hS.cell (by(exact ye)) rfl)|exact yc (by decide +kernel) ((hS.ownCell (by(repeat (with_reducible apply yd))) (by(rfl))).1)|exact yc (by decide +kernel) (Sat.rdCell2 (by assumption) hS (by((repeat (with_reducible apply yd)));try assumption) (by(rfl)))|exact yc (by decide +kernel) (hS.baseCell (by((repeat (with_reducible apply yd)));try assumption) (by assumption))|exact yc (by decide +kernel) (fzC (by assumption) hS (by((repeat (with_reducible apply yd)));try assumption))|exact yl hS (by assumption) (by((repeat (with_reducible apply yd)));try assumption) (by assumption) (by rfl) (by with_reducible exact sz78) (by decide +kernel) (by decide)|exact hS.loadWhole (by(repeat (with_reducible apply yd))) (by kernel_rfl) (by kernel_rfl));(clear hR hC;intro hR hC))|((with_reducible apply yq (i:=14));(simp only[qL];rfl);decide +kernel;exact hC;clear hR hC)|((with_reducible apply ym);decide +kernel;clear hR hC)|(refine yt 3 15 hS (by kernel_rfl) [14] rfl ?_;clear hS;intro w hS hR hC)|((with_reducible apply yh hS);exact ya;exact yb rfl;exact ye;rfl;decide +kernel)|((with_reducible apply yy hS);exact ya;exact yb rfl;exact yb rfl;exact ye;rfl;(focus (simp;done));exact Upd.hd;rfl;decide +kernel;clear hS;intro w hS;(try simp only[qS] at hS))|(go_at_call 31;refine (T1 _ hS).mono ?_;clear hS;rintro e w ⟨rfl,hS⟩));try simp only[qA])
  go_ret
  have hS2:=hS.sb (L:=own 78 3 ad1 (l+1) c1 (stC S++[.int .i64 3,.int .i64 0,.int .i64 0])::blk B 70 [.slice ad1 l c1,.slice ad2 o1.length c2,.int .i64 (k1 - 1),.int .i64 nds]::own 44 2 ad2 o1.length c2 (Fs o1)::R) (by(repeat (with_reducible first|exact Sb.refl|(refine Sb.take (by(repeat (first|exact Rem.hd|apply Rem.tl));done) ?_))))
  have hS3:=hS2.ownShrink (k:=l) (by omega)
  rw[HV4.out] at hS3
  obtain⟨m1,m2,m3,m4,m5⟩:=HM.out
  simp only[List.length_cons] at m2 m3
  refine ⟨rfl,fun _=>⟨⟨ad1,c1,ad2,c2,?_⟩,?_,?_,?_,?_,m5⟩,fun h=>by have h:(0:Int)=131:=h;exact absurd h (by decide)⟩
  ·dsimp only[kF]
   rw[HL.out,show ((k1 - 1:Nat):Int)=(k1:Int) - 1 by omega]
   exact hS3.sb (by(repeat (with_reducible first|exact Sb.refl|(refine Sb.take (by(repeat (first|exact Rem.hd|apply Rem.tl));done) ?_))))
  ·show k1 - 1=(S.map opW).sum
   have:=HO.out;omega
  ·show S.length≤200000;omega
  ·show o1.length+S.length≤400000;omega
  ·show k1 - 1≤64;omega
 ·go_enter Tryz.func28,Tryz.ntmps28
  go_upto_region 2 with (go_at_call 30;refine (IR _ h).mono ?_;clear h IR;rintro e w ⟨rfl,hm,h⟩)
  obtain⟨ad1,c1,ad2,c2,hS⟩:=h
  simp only[List.length_cons,stC,wtN] at hS
  have hl:=hm.2.1
  simp only[List.length_cons] at hl
  obtain⟨V0,V1,V2,V3,V4⟩:=kB (a:=.int .i64 4) (b:=.int .i64 0) (c:=.int .i64 n) (YV S)
  have T1:=fun w hS=>top1 B ad1 S.length c1 (by omega) (.slice ad2 o1.length c2) k1 nds 4 0 n (stC S) (YV S) w0 w (own 44 2 ad2 o1.length c2 (Fs o1)::R) hS
  have SH:∀ w,Sat w0 w (blk B 70 [.slice ad1 (S.length+1) c1,.slice ad2 o1.length c2,.int .i64 k1,.int .i64 nds]::own 78 3 ad1 (S.length+1) c1 (stC S++[.int .i64 4,.int .i64 0,.int .i64 n])::own 44 2 ad2 o1.length c2 (Fs o1)::R)→MSt w0 w R B ⟨.ite n::S,o1,k1,nds⟩:=fun w hS=>⟨_,_,_,_,hS⟩
  have hli:(S.length:Int)≤200000:=by omega
  have NNA:=hS.ownNN (yd ye) (by omega)
  obtain⟨s1,s2⟩:=hm.settle
  have SM:=fun w h=>Ja B (.ite n) S o1 k1 nds (by intro h;cases h) s1 hm.2.2.2.1 (by omega) (by have:=hm.2.2.1;simp at this;omega) w0 w R h
  clear V0 V1 V3 V4
  by_cases hn:n=2
  ·have hn2:((n:Int) == 2)=true:=by simp;omega
   have HNN:=hid hn
   clear hn
   go_upto_region 7 with ((first|((with_reducible apply Cont.intro);(focus (apply Or.inr;apply (Sat.sb hS);(repeat (with_reducible exact Sb.refl));done));intro hR hC)|((first|((with_reducible apply dP 0 hC hR);(simp only[qL];rfl);decide +kernel;exact iQ;exact ya)|((with_reducible apply dP 2 hC hR);(simp only[qL];rfl);decide +kernel;exact iQ;exact ya)|((with_reducible apply dP 3 hC hR);(simp only[qL];rfl);decide +kernel;exact iQ;exact ya)|((with_reducible apply dP 4 hC hR);(simp only[qL];rfl);decide +kernel;exact iQ;exact yf rfl rfl)|((with_reducible apply dP 5 hC hR);(simp only[qL];rfl);decide +kernel;exact iQ;exact yf rfl rfl)|((with_reducible apply dP 8 hC hR);(simp only[qL];rfl);decide +kernel;exact iQ;exact yf rfl rfl)|((with_reducible apply dP 9 hC hR);(simp only[qL];rfl);decide +kernel;exact iQ;exact yf rfl rfl)|((with_reducible apply dP 12 hC hR);(simp only[qL];rfl);decide +kernel;exact iQ;exact yf rfl rfl)|((with_reducible apply dP 13 hC hR);(simp only[qL];rfl);decide +kernel;exact iQ;exact yf rfl rfl)|((with_reducible apply dP 17 hC hR);(simp only[qL];rfl);decide +kernel;exact iQ;exact yf rfl rfl)|((with_reducible apply dP 18 hC hR);(simp only[qL];rfl);decide +kernel;exact iQ;exact ya));(intro w;first|(go_simp;done)|(go_simp;rw[yo (by omega) (by omega)])|(go_simp;with_reducible rfl)|(go_simp;rfl));(clear hR hC;intro hR hC))|((first|((with_reducible apply dP 6 hC hR);(simp only[qL];rfl);decide +kernel;exact iQ;exact yf rfl rfl)|((with_reducible apply dP 10 hC hR);(simp only[qL];rfl);decide +kernel;exact iQ;exact yf rfl rfl)|((with_reducible apply dP 15 hC hR);(simp only[qL];rfl);decide +kernel;exact iQ;exact yf rfl rfl));(intro w;first|(exact yz rfl (by(exact yb rfl)) (by assumption) (by with_reducible exact fo78_2))|(go_simp;done)|(go_simp;rw[yo (by omega) (by omega)])|(go_simp;with_reducible rfl)|(go_simp;rfl));(clear hR hC;intro hR hC))|(((with_reducible apply dP 14 hC hR);(simp only[qL];rfl);decide +kernel;exact iQ;exact yf rfl rfl);(intro w;first|(with_reducible exact yu E23 rfl (by(exact yg)) (by(exact yg)) (by(omega)) (by(omega)) (by(assumption)) (by(rfl)))|(with_reducible exact yu E68 rfl (by(exact yb rfl)) (by(exact yb rfl)) (by(omega)) (by(omega)) (by(exact hS.ownNN (by(repeat (with_reducible first|exact ye|apply yd))) (by omega))) (by(simp only[qN];rfl)))|(go_simp;done)|(go_simp;rw[yo (by omega) (by omega)])|(go_simp;with_reducible rfl));(clear hR hC;intro hR hC))|((first|((with_reducible apply dR 7 hC hR);(simp only[qL];rfl);decide +kernel;exact iQ;exact yf rfl rfl)|((with_reducible apply dR 11 hC hR);(simp only[qL];rfl);decide +kernel;exact iQ;exact yf rfl rfl)|((with_reducible apply dR 16 hC hR);(simp only[qL];rfl);decide +kernel;exact iQ;exact yf rfl rfl));(intro w hS;(apply yj rfl (by(exact yb rfl)));first|exact yc (by decide +kernel) (hS.cell (by(repeat (with_reducible first|exact ye|apply yd))) rfl)|exact yc (by decide +kernel) ((hS.ownCell (by(repeat (with_reducible first|exact ye|apply yd))) (by(assumption))).1)|exact yc (by decide +kernel) (Sat.rdCell2 (by assumption) hS (by((repeat (with_reducible apply yd)));try assumption) (by(rfl)))|exact yc (by decide +kernel) (hS.baseCell (by((repeat (with_reducible apply yd)));try assumption) (by assumption))|exact yc (by decide +kernel) (fzC (by assumption) hS (by((repeat (with_reducible apply yd)));try assumption))|exact yl hS (by assumption) (by((repeat (with_reducible apply yd)));try assumption) (by assumption) (by rfl) (by with_reducible exact sz78) (by decide +kernel) (by decide)|exact hS.loadWhole (by(repeat (with_reducible apply yd))) (by kernel_rfl) (by kernel_rfl));(clear hR hC;intro hR hC))|((with_reducible apply yq (i:=1));(simp only[qL];rfl);decide +kernel;exact hC;clear hR hC)|((with_reducible apply ym);decide +kernel;clear hR hC)|(refine yt 6 19 hS (by kernel_rfl) [] rfl ?_;clear hS;intro w hS hR hC)|(go_at_call 31;refine (T1 _ hS).mono ?_;clear hS;rintro e w ⟨rfl,hS⟩));try simp only[qA])
   have h:=SH _ hS
   clear hS SH T1 V2
   go_wp2_with (go_at_call 59;refine (SM _ h).mono ?_;clear h;rintro e w ⟨rfl,h⟩)
   go_ret
   have e:kF nds (.ite n::S,o1,k1)=(0,⟨S,o1++[(11,0)],k1 - 1,nds⟩):=by simp only[kF];rw[if_pos HNN.out]
   rw[e]
   exact⟨rfl,fun _=>⟨h,s2⟩,fun h=>by have h:(0:Int)=131:=h;exact absurd h (by decide)⟩
  ·have hn2:((n:Int) == 2)=false:=by simp;omega
   have HNN:=hid hn
   clear hn
   go_wp2_with ((first|((with_reducible apply Cont.intro);(focus (apply Or.inr;apply (Sat.sb hS);(repeat (with_reducible exact Sb.refl));done));intro hR hC)|((first|((with_reducible apply dP 0 hC hR);(simp only[qL];rfl);decide +kernel;exact iQ;exact ya)|((with_reducible apply dP 2 hC hR);(simp only[qL];rfl);decide +kernel;exact iQ;exact ya)|((with_reducible apply dP 3 hC hR);(simp only[qL];rfl);decide +kernel;exact iQ;exact ya)|((with_reducible apply dP 4 hC hR);(simp only[qL];rfl);decide +kernel;exact iQ;exact yf rfl rfl)|((with_reducible apply dP 5 hC hR);(simp only[qL];rfl);decide +kernel;exact iQ;exact yf rfl rfl)|((with_reducible apply dP 8 hC hR);(simp only[qL];rfl);decide +kernel;exact iQ;exact yf rfl rfl)|((with_reducible apply dP 9 hC hR);(simp only[qL];rfl);decide +kernel;exact iQ;exact yf rfl rfl)|((with_reducible apply dP 12 hC hR);(simp only[qL];rfl);decide +kernel;exact iQ;exact yf rfl rfl)|((with_reducible apply dP 13 hC hR);(simp only[qL];rfl);decide +kernel;exact iQ;exact yf rfl rfl)|((with_reducible apply dP 17 hC hR);(simp only[qL];rfl);decide +kernel;exact iQ;exact yf rfl rfl)|((with_reducible apply dP 18 hC hR);(simp only[qL];rfl);decide +kernel;exact iQ;exact ya));(intro w;first|(go_simp;done)|(go_simp;rw[yo (by omega) (by omega)])|(go_simp;with_reducible rfl)|(go_simp;rfl));(clear hR hC;intro hR hC))|((first|((with_reducible apply dP 6 hC hR);(simp only[qL];rfl);decide +kernel;exact iQ;exact yf rfl rfl)|((with_reducible apply dP 10 hC hR);(simp only[qL];rfl);decide +kernel;exact iQ;exact yf rfl rfl)|((with_reducible apply dP 15 hC hR);(simp only[qL];rfl);decide +kernel;exact iQ;exact yf rfl rfl));(intro w;first|(exact yz rfl (by(exact yb rfl)) (by assumption) (by with_reducible exact fo78_2))|(go_simp;done)|(go_simp;rw[yo (by omega) (by omega)])|(go_simp;with_reducible rfl)|(go_simp;rfl));(clear hR hC;intro hR hC))|(((with_reducible apply dP 14 hC hR);(simp only[qL];rfl);decide +kernel;exact iQ;exact yf rfl rfl);(intro w;first|(with_reducible exact yu E23 rfl (by(exact yg)) (by(exact yg)) (by(omega)) (by(omega)) (by(assumption)) (by(rfl)))|(with_reducible exact yu E68 rfl (by(exact yb rfl)) (by(exact yb rfl)) (by(omega)) (by(omega)) (by(exact hS.ownNN (by(repeat (with_reducible first|exact ye|apply yd))) (by omega))) (by(simp only[qN];rfl)))|(go_simp;done)|(go_simp;rw[yo (by omega) (by omega)])|(go_simp;with_reducible rfl));(clear hR hC;intro hR hC))|((first|((with_reducible apply dR 7 hC hR);(simp only[qL];rfl);decide +kernel;exact iQ;exact yf rfl rfl)|((with_reducible apply dR 11 hC hR);(simp only[qL];rfl);decide +kernel;exact iQ;exact yf rfl rfl)|((with_reducible apply dR 16 hC hR);(simp only[qL];rfl);decide +kernel;exact iQ;exact yf rfl rfl));(intro w hS;(apply yj rfl (by(exact yb rfl)));first|exact yc (by decide +kernel) (hS.cell (by(repeat (with_reducible first|exact ye|apply yd))) rfl)|exact yc (by decide +kernel) ((hS.ownCell (by(repeat (with_reducible first|exact ye|apply yd))) (by(assumption))).1)|exact yc (by decide +kernel) (Sat.rdCell2 (by assumption) hS (by((repeat (with_reducible apply yd)));try assumption) (by(rfl)))|exact yc (by decide +kernel) (hS.baseCell (by((repeat (with_reducible apply yd)));try assumption) (by assumption))|exact yc (by decide +kernel) (fzC (by assumption) hS (by((repeat (with_reducible apply yd)));try assumption))|exact yl hS (by assumption) (by((repeat (with_reducible apply yd)));try assumption) (by assumption) (by rfl) (by with_reducible exact sz78) (by decide +kernel) (by decide)|exact hS.loadWhole (by(repeat (with_reducible apply yd))) (by kernel_rfl) (by kernel_rfl));(clear hR hC;intro hR hC))|((with_reducible apply yq (i:=1));(simp only[qL];rfl);decide +kernel;exact hC;clear hR hC)|((with_reducible apply ym);decide +kernel;clear hR hC)|(refine yt 6 19 hS (by kernel_rfl) [] rfl ?_;clear hS;intro w hS hR hC)|(go_at_call 31;refine (T1 _ hS).mono ?_;clear hS;rintro e w ⟨rfl,hS⟩));try simp only[qA])
   have h:=SH _ hS
   go_ret
   have e:kF nds (.ite n::S,o1,k1)=(131,⟨[],[],0,0⟩):=by simp only[kF];rw[if_neg HNN.out]
   rw[e]
   exact⟨rfl,fun h=>by have h:(131:Int)=0:=h;exact absurd h (by decide),fun _=>⟨_,h⟩⟩
end
end Go.Proofs.YteopodbkhgcpmaaGreatDoor
