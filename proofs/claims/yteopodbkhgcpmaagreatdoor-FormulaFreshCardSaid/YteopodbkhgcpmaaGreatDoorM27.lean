/- A part of the proof: Cl10 Cls Frs Par Apart. -/
import Derived.Test.YteopodbkhgcpmaaGreatDoorM1
import Derived.Test.YteopodbkhgcpmaaGreatDoorM2
import Derived.Test.YteopodbkhgcpmaaGreatDoorM3
import Derived.Test.YteopodbkhgcpmaaGreatDoorM24
import Derived.Test.YteopodbkhgcpmaaGreatDoorM26
set_option linter.unusedSimpArgs false
set_option linter.unusedVariables false
set_option linter.unusedSectionVars false
namespace Go.Proofs.YteopodbkhgcpmaaGreatDoor
section
set_option maxRecDepth 20000
open Go Go.RowKit Go.SL Go.ClauseP Go.LinesP

theorem wrongR (text:List UInt8) (hl:text.length≤1048576) (x:Int) (k:Nat) (hk:k≤text.length) (w0 w:World) (Hs:List HP) (hS:Sat w0 w Hs) :
  Calls Tryz.prog 35 #[.string ⟨text.toArray⟩,.int .i64 x,.int .i64 k] w fun e w'=>e=.returned (.tuple #[.agg #[.int .i64 0,.slice none 0 0,.slice none 0 0],.agg #[.int .i64 x,.int .i64 ((Yt text k).1:Int),.int .i64 ((Yt text k).2:Int)]])∧Sat w0 w' Hs:=by
 have SC:=spotR text k hk hl w0
 go_enter Tryz.func35,Tryz.ntmps35
 (have tok_B6:True:=trivial;go_wp2_with ((first|((with_reducible apply Cont.intro);(first|(focus (apply Or.inr;apply (Sat.sb hS);(repeat (with_reducible first|exact Sb.refl|(refine Sb.take (by(repeat (first|exact Rem.hd|apply Rem.tl));done) ?_)|apply Sb.skip));done))|(exact Or.inl (by kernel_rfl)));intro hR hC)|((first|((with_reducible apply dP 0 hC hR);(simp only[qL];rfl);decide +kernel;exact iQ;exact ya)|((with_reducible apply dP 1 hC hR);(simp only[qL];rfl);decide +kernel;exact iQ;exact ya)|((with_reducible apply dP 3 hC hR);(simp only[qL];rfl);decide +kernel;exact iQ;exact ya));(intro w;first|(go_simp;done)|(go_simp;rw[yo (by omega) (by omega)])|(go_simp;with_reducible rfl)|(go_simp;rfl));(clear hR hC;intro hR hC))|(((with_reducible apply dR 2 hC hR);(simp only[qL];rfl);decide +kernel;exact iQ;exact ya);(intro w hS;(apply yj rfl (by(exact yb rfl)));first|exact yc (by decide +kernel) (hS.cell (by(repeat (with_reducible apply yd))) rfl)|exact yc (by decide +kernel) ((hS.ownCell (by(repeat (with_reducible apply yd))) (by(rfl))).1)|exact yc (by decide +kernel) (Sat.rdCell2 (by assumption) hS (by((repeat (with_reducible apply yd)));try assumption) (by(rfl)))|exact yc (by decide +kernel) (hS.baseCell (by((repeat (with_reducible apply yd)));try assumption) (by assumption))|exact yc (by decide +kernel) (fzC (by assumption) hS (by((repeat (with_reducible apply yd)));try assumption))|exact yl hS (by assumption) (by((repeat (with_reducible apply yd)));try assumption) (by assumption) (by rfl) (by with_reducible exact sz86) (by decide +kernel) (by decide)|exact hS.loadWhole (by(exact ye)) (by kernel_rfl) (by kernel_rfl));(clear hR hC;intro hR hC))|((with_reducible apply yq (i:=4));(simp only[qL];rfl);decide +kernel;exact hC;clear hR hC)|((with_reducible apply yq (i:=5));(simp only[qL];rfl);decide +kernel;exact hC;clear hR hC)|((with_reducible apply ym);decide +kernel;clear hR hC)|(refine KB (blk B6 33 [.int .i64 0,.slice none 0 0,.slice none 0 0]) 2 6 hS (by(repeat (with_reducible first|exact Rem.hd|apply Rem.tl));done) (by kernel_rfl) [5] rfl ?_;clear hS;intro w hS hR hC)|(have tokk:=tok_B6;(clear tokk tok_B6);((with_reducible apply yk hS);exact ya;exact z33;clear hS;intro B6 w hS;(try simp only[qA])))|((with_reducible apply yk hS);exact ya;(with_reducible first|exact z26|exact z28);clear hS;intro NB w hS)|(go_at_call 32;refine (SC _ _ hS).mono ?_;clear hS;rintro e w ⟨rfl,hS⟩)|((with_reducible apply yi hS);exact ya;exact yb rfl;exact yb rfl;(repeat (with_reducible first|exact ye|apply yd));rfl;(focus (simp;done));(repeat (with_reducible first|exact Upd.hd|apply Upd.tl));rfl;(with_reducible first|exact sz26|exact sz28|exact sz33);rfl;clear hS;intro w hS;(try simp only[yp,qS] at hS)));try simp only[qA]))
 refine bodyPost_ret (yK rfl rfl rfl (hS.loadWhole (by(repeat (with_reducible first|exact ye|apply yd))) (by kernel_rfl) (by kernel_rfl)) (hS.loadWhole (by(repeat (with_reducible first|exact ye|apply yd))) (by kernel_rfl) (by kernel_rfl))) rfl ?_
 exact⟨rfl,hS.sb (by(repeat (with_reducible first|exact Sb.refl|apply Sb.skip)))⟩
theorem headR0 (text:List UInt8) (hl:text.length≤1048576) (w0 w:World) (Hs:List HP) (hS:Sat w0 w Hs) (ad:Option Addr) (cap:Nat) :
  Calls Tryz.prog 34 #[.string ⟨text.toArray⟩,.slice ad 0 cap] w fun e w'=>e=.returned (.tuple #[.int .i64 0,.int .i64 0,.int .i64 135,.int .i64 (text.length:Int)])∧Sat w0 w' Hs:=by
 go_enter Tryz.func34,Tryz.ntmps34
 go_wp2
 refine bodyPost_ret (v:=.tuple #[.int .i64 0,.int .i64 0,.int .i64 135,.int .i64 (text.length:Int)]) (by simp[results,Tryz.results34,go_sem]) rfl ⟨rfl,hS⟩
theorem gi:∀ (ls:List (List UInt8)) (n off:Nat),(kt n off ls).length≤yS ls
 | [],n,off=>by simp[kt]
 | l::ls,n,off=>by
  have h:=gi ls (n+1) (off+l.length)
  have h2:=(Jd l.length l off (Nat.le_refl _)).1
  have ht:yS (l::ls)=l.length+yS ls:=by simp[yS]
  simp only[kt,List.length_append]
  split
  ·simp;omega
  ·simp only[yT,List.length_map];omega
def Uj (es:List Int):Int:=es.getLast?.getD 0
theorem Uk (es:List Int) (x:Int):Uj (es++[x])=x:=by simp[Uj]
set_option maxHeartbeats 8000000 in
theorem parseR (text:List UInt8) (ht:text.length≤140737488351232) (w0 w:World) (R:List HP) (hS:Sat w0 w R) :
  Calls Tryz.prog 8 #[.string ⟨text.toArray⟩] w (cnfQ w0 R (Jr text)):=by
 by_cases hlong:1048576 < text.length
 ·have hr:Jr text=.inr (5,0,0):=if_pos hlong
  rw[hr]
  have hli:(1048576:Int) < (text.length:Int):=by omega
  clear hr hlong
  go_enter Tryz.func8,Tryz.ntmps8
  go_wp2_with ((first|((with_reducible apply yk hS);exact ya;(with_reducible first|exact z28|exact z33);clear hS;intro NB w hS)|((with_reducible apply yi hS);exact ya;exact yb rfl;exact yb rfl;(repeat (with_reducible first|exact ye|apply yd));rfl;(focus (simp;done));(repeat (with_reducible first|exact Upd.hd|apply Upd.tl));rfl;(with_reducible first|exact sz28|exact sz33);rfl;clear hS;intro w hS;(try simp only[yp,qS] at hS)));try simp only[qA])
  refine bodyPost_ret (yK rfl rfl rfl (hS.loadWhole (by(repeat (with_reducible first|exact ye|apply yd))) (by kernel_rfl) (by kernel_rfl)) (hS.loadWhole (by(exact ye)) (by kernel_rfl) (by kernel_rfl))) rfl ?_
  exact⟨rfl,hS.sb (by(repeat (with_reducible first|exact Sb.refl|apply Sb.skip)))⟩
 ·have hl:text.length≤1048576:=by omega
  have PI:=piecesR text hl w0
  obtain⟨r,hr⟩:∃ r,r=Jr text:=⟨_,rfl⟩
  rw[← hr]
  rw[Jr,if_neg hlong] at hr
  have hin:=JX (yJ text) 0
  rw[jO,Nat.zero_add] at hin
  have hfst:=xF (yJ text) 0 0
  have hpw:=uf (yJ text) 0 0
  have hpl:(kt 0 0 (yJ text)).length≤1048577:=by
   have:=gi (yJ text) 0 0
   rw[jO] at this
   omega
  have hli:(text.length:Int)≤1048576:=by omega
  have WR:=fun x k hk=>wrongR text hl x k hk w0
  clear hlong
  generalize yU 0 (yJ text)=items at *
  generalize kt 0 0 (yJ text)=ps at *
  cases items with
  | nil =>
   have HR:=hid hr
   have HZ:=headR0 text hl w0
   have W0:=WR 135 text.length (Nat.le_refl _)
   clear hr hin hpl WR
   try simp only[List.length_nil] at PI
   go_enter Tryz.func8,Tryz.ntmps8
   go_wp2_with ((first|((with_reducible apply yk hS);exact ya;(with_reducible first|exact z28|exact z33);clear hS;intro NB w hS)|((with_reducible apply yi hS);exact ya;exact yb rfl;exact yb rfl;(repeat (with_reducible first|exact ye|apply yd));rfl;(focus (simp;done));(repeat (with_reducible first|exact Upd.hd|apply Upd.tl));rfl;(with_reducible first|exact sz28|exact sz33);rfl;clear hS;intro w hS;(try simp only[yp,qS] at hS))|(go_at_call 33;refine (PI _ _ hS).mono ?_;clear hS;rintro e w ⟨v,rfl,ad,cap,rfl,hS⟩)|(go_at_call 34;refine (HZ _ _ hS _ _).mono ?_;clear hS;rintro e w ⟨rfl,hS⟩)|(go_at_call 35;refine (W0 _ _ hS).mono ?_;clear hS;rintro e w ⟨rfl,hS⟩));try simp only[qA])
   refine bodyPost_ret (yK rfl rfl rfl (hS.loadWhole (by(repeat (with_reducible first|exact ye|apply yd))) (by kernel_rfl) (by kernel_rfl)) (hS.loadWhole (by(repeat (with_reducible first|exact ye|apply yd))) (by kernel_rfl) (by kernel_rfl))) rfl ?_
   rw[HR.out]
   exact⟨rfl,hS.sb (by(repeat (with_reducible first|exact Sb.refl|apply Sb.skip)))⟩
  | cons l ls =>
   obtain⟨m,Rs,hps,hRm,hRw⟩:=hfst
   obtain⟨hne,hlen,hwo⟩:=hin l (.head _)
   have hpk:∀ p∈ps,p.2.1+p.1.length≤text.length:=fun p hp=>by
    have h1:um p∈(l::ls).flatten:=by rw[← hpw];exact List.mem_map_of_mem hp
    obtain⟨l',hl',hw'⟩:=List.mem_flatten.1 h1
    exact(hin l' hl').2.2 _ hw'
   have hbh:YY l≤text.length:=by
    unfold YY
    cases hg:l.getLast? with
    | none=>simp
    | some w=>exact hwo w (List.mem_of_getLast? hg)
   subst hps
   have HC:=fun w Hs (hS:Sat w0 w Hs) (ad:Option Addr) (cap:Nat) (h:own 86 3 ad (yT m l++Rs).length cap (Pcs (yT m l++Rs))∈Hs)=>headR text l m Rs hne hRm (fun w hw=>by have:=hwo w hw;unfold WdOk;omega) hpl w0 w Hs hS (Rd.of_own) h (cap:=cap)
   have hPl:=GC (yT m l++Rs)
   have hdrop:l.length=4→((yT m l++Rs).drop 4).map um=ls.flatten:=fun h4=>by
    rw[List.drop_append_of_le_length (by simp[yT,h4]),List.map_append,hRw]
    rw[List.drop_of_length_le (by simp[yT,h4])]
    rfl
   have hll:l.length≤(yT m l++Rs).length:=by simp[yT]
   generalize yT m l++Rs=ps at *
   obtain⟨np,hnp⟩:∃ np,np=ps.length:=⟨_,rfl⟩
   rw[← hnp] at PI HC hpl hPl hll
   have HNP:=hid hnp
   have HPK:=hid hpk
   clear hin hRm hRw hpw hnp hpk
   simp only[cnfP] at hr
   cases hh:jG (YY l) l with
   | inr xk =>
    obtain⟨x,k⟩:=xk
    obtain⟨hx,hk⟩:=XQ _ _ _ _ hh
    have hkl:k≤text.length:=by
     rcases hk with rfl|⟨w,hw,rfl⟩
     ·exact hbh
     ·have:=hwo w hw;omega
    have hx0:(x != 0)=true:=by simp;omega
    rw[hh] at hr HC
    have HR:=hid hr
    clear hr hh hk hx hdrop
    simp only[jH] at HC
    have W0:=WR x k hkl
    clear WR
    go_enter Tryz.func8,Tryz.ntmps8
    go_wp2_with ((first|((with_reducible apply yk hS);exact ya;(with_reducible first|exact z28|exact z33);clear hS;intro NB w hS)|((with_reducible apply yi hS);exact ya;exact yb rfl;exact yb rfl;(repeat (with_reducible first|exact ye|apply yd));rfl;(focus (simp;done));(repeat (with_reducible first|exact Upd.hd|apply Upd.tl));rfl;(with_reducible first|exact sz28|exact sz33);rfl;clear hS;intro w hS;(try simp only[yp,qS] at hS))|(go_at_call 33;refine (PI _ _ hS).mono ?_;clear hS;rintro e w ⟨v,rfl,ad,cap,rfl,hS⟩)|(go_at_call 34;refine (HC _ _ hS _ _ (by(exact ye))).mono ?_;clear hS;rintro e w ⟨rfl,hS⟩)|(go_at_call 35;refine (W0 _ _ hS).mono ?_;clear hS;rintro e w ⟨rfl,hS⟩));try simp only[qA])
    refine bodyPost_ret (yK rfl rfl rfl (hS.loadWhole (by(repeat (with_reducible first|exact ye|apply yd))) (by kernel_rfl) (by kernel_rfl)) (hS.loadWhole (by(repeat (with_reducible first|exact ye|apply yd))) (by kernel_rfl) (by kernel_rfl))) rfl ?_
    rw[HR.out]
    exact⟨rfl,hS.sb (by(repeat (with_reducible first|exact Sb.refl|apply Sb.skip)))⟩
   | inl vc =>
    obtain⟨v,c⟩:=vc
    obtain⟨⟨hv0,hv1⟩,⟨hc0,hc1⟩,hl4⟩:=GJ _ _ _ _ hh
    have HDR:=hid (hdrop hl4)
    have h4n:4≤np:=by omega
    clear hl4 hdrop
    rw[hh] at hr HC
    simp only[jH] at HC
    simp only at hr
    clear hh hwo
    obtain⟨b,hb⟩:∃ b,b=YH v c ls.flatten [] []:=⟨_,rfl⟩
    rw[← hb] at hr
    have HB:=hid hb
    have HR:=hid hr
    clear hb hr
    go_enter Tryz.func8,Tryz.ntmps8
    (have tok_B2:True:=trivial;have tok_B3:True:=trivial;have tok_B9:True:=trivial;go_wp2_with (first|(have tokk:=tok_B2;(clear tokk tok_B2);((with_reducible apply yk hS);exact ya;exact z33;clear hS;intro B2 w hS;(try simp only[qA])))|(have tokk:=tok_B3;(clear tokk tok_B3);((with_reducible apply yk hS);exact ya;exact z28;clear hS;intro B3 w hS;(try simp only[qA])))|(have tokk:=tok_B9;(clear tokk tok_B9);((with_reducible apply yk hS);exact ya;exact z33;clear hS;intro B9 w hS;(try simp only[qA])))|((with_reducible apply yi hS);exact ya;exact yb rfl;exact yb rfl;exact ye;rfl;(focus (simp;done));exact Upd.hd;rfl;exact sz33;rfl;clear hS;intro w hS;(try simp only[yp,qS] at hS);(try simp only[qA]))|(go_at_call 33;refine (PI _ _ hS).mono ?_;clear hS;rintro e w ⟨v,rfl,ad,cap,rfl,hS⟩)|(go_at_call 34;refine (HC _ _ hS _ _ (by(exact ye))).mono ?_;clear hS;rintro e w ⟨rfl,hS⟩)))
    have hS2:=((hS.ownNil 3 1).ownNil 3 1).sb (L:=blk B9 33 [.int .i64 v,.slice none 0 0,.slice none 0 0]::own 3 1 none 0 0 []::own 3 1 none 0 0 []::own 86 3 ad np cap (Pcs ps)::blk B3 28 [.int .i64 0,.int .i64 0,.int .i64 0]::blk B2 33 [.int .i64 0,.slice none 0 0,.slice none 0 0]::R) (by(repeat (with_reducible first|exact Sb.refl|(refine Sb.take (by(repeat (first|exact Rem.hd|apply Rem.tl));done) ?_))))
    have hS3:=kh (es:=[]) (ls:=[]) rfl rfl hS2
    clear hS2 hS
    go_loopw [10,11] (fun ov iv wr=>∃ (i:Nat) (op:Bool) (es lits:List Int),iv=.int .i64 i∧ov=.bool op∧4≤i∧i≤np∧(es.length:Int)≤c∧lits.length≤1048576∧Hid (op=decide (Uj es < (lits.length:Int)))∧Hid (Uj es≤(lits.length:Int))∧Hid (b=YH v c ((ps.drop i).map um) es lits) ∧
     Sat w0 wr (Ud B9 v es lits::own 86 3 ad np cap (Pcs ps)::blk B3 28 [.int .i64 0,.int .i64 0,.int .i64 0]::blk B2 33 [.int .i64 0,.slice none 0 0,.slice none 0 0]::R)) (fun _ iv _=>np - (intOf iv).toNat)
    case atStart=>exact⟨4,false,[],[],rfl,rfl,by omega,h4n,by simpa using hc0,by simp,hid (by simp[Uj]),hid (by simp[Uj]),hid (by rw[HDR.out];exact HB.out),hS3⟩
    case round =>
     clear hS3 HB HDR
     obtain⟨i,op,es,lits,rfl,rfl,hi4,hin,hel,hll2,HO,HLE,HBi,hS⟩:=hrel
     by_cases hlt:i < np
     ·obtain⟨pk,hpk⟩:∃ pk,ps[i]?=some pk:=⟨_,List.getElem?_eq_getElem (by rw[← HNP.out];exact hlt)⟩
      obtain⟨hk0,hk1,hk2,hk3⟩:=jo ps i pk hpk
      rw[Nat.add_zero] at hk0
      have hko:=HPK.out pk (List.mem_of_getElem? hpk)
      have hdk:(ps.drop i).map um=um pk::(ps.drop (i+1)).map um:=by
       rw[List.drop_eq_getElem_cons (by rw[← HNP.out];exact hlt),List.map_cons]
       congr 2
       exact(List.getElem?_eq_some_iff.1 hpk).2
      have HX:=hid (show b=YH v c (um pk::(ps.drop (i+1)).map um) es lits by rw[HBi.out,hdk])
      clear hpk hdk HBi
      obtain⟨ad1,ad2,c1,c2,hS⟩:=kT hS
      have LC:=literalR pk.1 (by omega) w0
      have hkt:pk.2.1≤text.length:=by omega
      by_cases hce:(es.length:Int)=c
      ·have HE:=hid (HX.out.trans (JQ hce))
       have hcb:((es.length:Int) == c)=true:=by simp[hce]
       have W0:=WR 135 pk.2.1 hkt
       clear HX hce
       go_wp2_with ((first|((with_reducible apply yn);exact ya;exact yb rfl;exact yb rfl;exact E81;(omega);(omega);(exact hS.ownNN (by(repeat (with_reducible first|exact ye|apply yd))) (by omega));(simp only[qN];rfl))|((with_reducible apply yR);exact ya;exact yb rfl;(exact hS.ownNN (by(repeat (with_reducible first|exact ye|apply yd))) (by omega));(with_reducible exact fo86_1))|((with_reducible apply yF);exact ya;exact yb rfl;(exact(hS.ownCell (by(repeat (with_reducible first|exact ye|apply yd))) (by(assumption))).1);decide +kernel)|((with_reducible apply yh hS);exact ya;exact yb rfl;exact ye;rfl;decide +kernel)|((with_reducible apply yi hS);exact ya;exact yb rfl;exact yb rfl;(repeat (with_reducible first|exact ye|apply yd));rfl;(focus (simp;done));(repeat (with_reducible first|exact Upd.hd|apply Upd.tl));rfl;(with_reducible first|exact sz28|exact sz33);rfl;clear hS;intro w hS;(try simp only[yp,qS] at hS))|(go_at_call 35;refine (W0 _ _ hS).mono ?_;clear hS;rintro e w ⟨rfl,hS⟩));try simp only[qA])
       refine bodyPost_ret (yK rfl rfl rfl (hS.loadWhole (by(repeat (with_reducible first|exact ye|apply yd))) (by kernel_rfl) (by kernel_rfl)) (hS.loadWhole (by(repeat (with_reducible first|exact ye|apply yd))) (by kernel_rfl) (by kernel_rfl))) rfl ?_
       rw[HR.out,HE.out]
       exact⟨rfl,hS.sb (by(repeat (with_reducible first|exact Sb.refl|apply Sb.skip)))⟩
      ·have hcb:((es.length:Int) == c)=false:=by simp[hce]
       have HCE:=hid hce
       have hec:(es.length:Int)≤65536:=by omega
       clear hce
       cases hlit:jc pk.1 with
       | none =>
        rw[hlit] at LC
        have HE:=hid (HX.out.trans (JS HCE.out hlit))
        have W0:=WR 133 pk.2.1 hkt
        clear HX hlit
        go_wp2_with ((first|((with_reducible apply yn);exact ya;exact yb rfl;exact yb rfl;exact E81;(omega);(omega);(exact hS.ownNN (by(repeat (with_reducible first|exact ye|apply yd))) (by omega));(simp only[qN];rfl))|((with_reducible apply yR);exact ya;exact yb rfl;(exact hS.ownNN (by(repeat (with_reducible first|exact ye|apply yd))) (by omega));(with_reducible first|exact fo86_0|exact fo86_1))|((with_reducible apply yF);exact ya;exact yb rfl;(exact(hS.ownCell (by(repeat (with_reducible first|exact ye|apply yd))) (by(assumption))).1);decide +kernel)|((with_reducible apply yh hS);exact ya;exact yb rfl;exact ye;rfl;decide +kernel)|((with_reducible apply yi hS);exact ya;exact yb rfl;exact yb rfl;(repeat (with_reducible first|exact ye|apply yd));rfl;(focus (simp;done));(repeat (with_reducible first|exact Upd.hd|apply Upd.tl));rfl;(with_reducible first|exact sz28|exact sz33);rfl;clear hS;intro w hS;(try simp only[yp,qS] at hS))|(go_at_call 36;refine (LC _ _ hS).mono ?_;clear hS;rintro e w ⟨rfl,hS⟩)|(go_at_call 35;refine (W0 _ _ hS).mono ?_;clear hS;rintro e w ⟨rfl,hS⟩));try simp only[qA])
        refine bodyPost_ret (yK rfl rfl rfl (hS.loadWhole (by(repeat (with_reducible first|exact ye|apply yd))) (by kernel_rfl) (by kernel_rfl)) (hS.loadWhole (by(repeat (with_reducible first|exact ye|apply yd))) (by kernel_rfl) (by kernel_rfl))) rfl ?_
        rw[HR.out,HE.out]
        exact⟨rfl,hS.sb (by(repeat (with_reducible first|exact Sb.refl|apply Sb.skip)))⟩
       | some n =>
        rw[hlit] at LC
        obtain⟨n1,n2⟩:=GP hlit
        have HL:=hid (show jc (um pk).1=some n from hlit)
        clear hlit
        simp only[jC] at LC
        by_cases hlev:v < n∨n < -v
        ·have HE:=hid (HX.out.trans (uY HCE.out HL.out hlev))
         have W0:=WR 3 pk.2.1 hkt
         clear HX
         by_cases hgt:v < n
         ·clear hlev
          go_wp2_with ((first|((with_reducible apply yn);exact ya;exact yb rfl;exact yb rfl;exact E81;(omega);(omega);(exact hS.ownNN (by(repeat (with_reducible first|exact ye|apply yd))) (by omega));(simp only[qN];rfl))|((with_reducible apply yR);exact ya;exact yb rfl;(exact hS.ownNN (by(repeat (with_reducible first|exact ye|apply yd))) (by omega));(with_reducible first|exact fo86_0|exact fo86_1))|((with_reducible apply yF);exact ya;exact yb rfl;(exact(hS.ownCell (by(repeat (with_reducible first|exact ye|apply yd))) (by(assumption))).1);decide +kernel)|((with_reducible apply yh hS);exact ya;exact yb rfl;exact ye;rfl;decide +kernel)|((with_reducible apply yi hS);exact ya;exact yb rfl;exact yb rfl;(repeat (with_reducible first|exact ye|apply yd));rfl;(focus (simp;done));(repeat (with_reducible first|exact Upd.hd|apply Upd.tl));rfl;(with_reducible first|exact sz28|exact sz33);rfl;clear hS;intro w hS;(try simp only[yp,qS] at hS))|(go_at_call 36;refine (LC _ _ hS).mono ?_;clear hS;rintro e w ⟨rfl,hS⟩)|(go_at_call 35;refine (W0 _ _ hS).mono ?_;clear hS;rintro e w ⟨rfl,hS⟩));try simp only[qA])
          refine bodyPost_ret (yK rfl rfl rfl (hS.loadWhole (by(repeat (with_reducible first|exact ye|apply yd))) (by kernel_rfl) (by kernel_rfl)) (hS.loadWhole (by(repeat (with_reducible first|exact ye|apply yd))) (by kernel_rfl) (by kernel_rfl))) rfl ?_
          rw[HR.out,HE.out]
          exact⟨rfl,hS.sb (by(repeat (with_reducible first|exact Sb.refl|apply Sb.skip)))⟩
         ·have hgt2:decide (n > v)=false:=decide_eq_false (by omega)
          have hlt2:n < -v:=by omega
          clear hlev hgt
          go_wp2_with ((first|((with_reducible apply yn);exact ya;exact yb rfl;exact yb rfl;exact E81;(omega);(omega);(exact hS.ownNN (by(repeat (with_reducible first|exact ye|apply yd))) (by omega));(simp only[qN];rfl))|((with_reducible apply yR);exact ya;exact yb rfl;(exact hS.ownNN (by(repeat (with_reducible first|exact ye|apply yd))) (by omega));(with_reducible first|exact fo86_0|exact fo86_1))|((with_reducible apply yF);exact ya;exact yb rfl;(exact(hS.ownCell (by(repeat (with_reducible first|exact ye|apply yd))) (by(assumption))).1);decide +kernel)|((with_reducible apply yh hS);exact ya;exact yb rfl;exact ye;rfl;decide +kernel)|((with_reducible apply yi hS);exact ya;exact yb rfl;exact yb rfl;(repeat (with_reducible first|exact ye|apply yd));rfl;(focus (simp;done));(repeat (with_reducible first|exact Upd.hd|apply Upd.tl));rfl;(with_reducible first|exact sz28|exact sz33);rfl;clear hS;intro w hS;(try simp only[yp,qS] at hS))|(go_at_call 36;refine (LC _ _ hS).mono ?_;clear hS;rintro e w ⟨rfl,hS⟩)|(go_at_call 35;refine (W0 _ _ hS).mono ?_;clear hS;rintro e w ⟨rfl,hS⟩));try simp only[qA])
          refine bodyPost_ret (yK rfl rfl rfl (hS.loadWhole (by(repeat (with_reducible first|exact ye|apply yd))) (by kernel_rfl) (by kernel_rfl)) (hS.loadWhole (by(repeat (with_reducible first|exact ye|apply yd))) (by kernel_rfl) (by kernel_rfl))) rfl ?_
          rw[HR.out,HE.out]
          exact⟨rfl,hS.sb (by(repeat (with_reducible first|exact Sb.refl|apply Sb.skip)))⟩
        ·have HLV:=hid hlev
         have hgt2:decide (n > v)=false:=decide_eq_false (by omega)
         have hlt2:decide (n < -v)=false:=decide_eq_false (by omega)
         clear hlev
         by_cases hz:n=0
         ·subst hz
          have HE:=hid (HX.out.trans (JT HCE.out HL.out HLV.out))
          clear HX
          go_wp2_with ((first|((with_reducible apply yn);exact ya;exact yb rfl;exact yb rfl;exact E81;(omega);(omega);(exact hS.ownNN (by(repeat (with_reducible first|exact ye|apply yd))) (by omega));(simp only[qN];rfl))|((with_reducible apply yR);exact ya;exact yb rfl;(exact hS.ownNN (by(repeat (with_reducible first|exact ye|apply yd))) (by omega));(with_reducible exact fo86_0))|((with_reducible apply yF);exact ya;exact yb rfl;(exact(hS.ownCell (by(repeat (with_reducible first|exact ye|apply yd))) (by(assumption))).1);decide +kernel)|((with_reducible apply yh hS);exact ya;exact yb rfl;exact ye;rfl;decide +kernel)|((with_reducible apply yy hS);exact ya;exact yb rfl;exact yb rfl;(repeat (with_reducible first|exact ye|apply yd));rfl;(focus (simp;done));(repeat (with_reducible first|exact Upd.hd|apply Upd.tl));rfl;decide +kernel;clear hS;intro w hS;(try simp only[qS] at hS))|(go_at_call 36;refine (LC _ _ hS).mono ?_;clear hS;rintro e w ⟨rfl,hS⟩)|((with_reducible apply yA hS);exact ya;exact E31;exact yb rfl;exact yN rfl;rfl;decide;clear hS;intro NB w hS)|((with_reducible apply yD hS);exact ya;exact yb rfl;exact yb rfl;exact E31;(repeat (with_reducible first|exact Rem.hd|apply Rem.tl));(repeat (with_reducible apply Rem.tl));rfl;rfl;(omega);(omega);clear hS;intro AD CAP w hS;(try simp only[Nat.zero_add,List.nil_append] at hS)));try simp only[qA])
          have hS2:Sat w0 w (blk B9 33 [.int .i64 v,.slice AD (es.length+1) CAP,.slice ad2 lits.length c2]::own 3 1 AD (es.length+1) CAP (Is (es++[(lits.length:Int)]))::own 3 1 ad2 lits.length c2 (Is lits)::own 86 3 ad np cap (Pcs ps)::blk B3 28 [.int .i64 0,.int .i64 0,.int .i64 0]::blk B2 33 [.int .i64 0,.slice none 0 0,.slice none 0 0]::R):=by
           rw[uH]
           exact hS.sb (by(repeat (with_reducible first|exact Sb.refl|(refine Sb.take (by(repeat (first|exact Rem.hd|apply Rem.tl));done) ?_))))
          have hS3:=kh (es:=es++[(lits.length:Int)]) (ls:=lits) (by simp) rfl hS2
          have hel2:((es++[(lits.length:Int)]).length:Int)≤c:=by rw[List.length_append];simp only[List.length_cons,List.length_nil];have:=HCE.out;omega
          clear hS hS2
          go_roundw
          case rel=>exact⟨i+1,false,es++[(lits.length:Int)],lits,by go_num,rfl,by omega,by omega,hel2,hll2,hid (by rw[Uk];simp),hid (by rw[Uk];omega),HE,hS3⟩
          case measure=>simp[intOf];omega
         ·have hzb:(n == 0)=false:=by simp[hz]
          have hzb2:(n != 0)=true:=by simp[hz]
          have HZ:=hid hz
          clear hz
          by_cases hfull:(lits.length:Int)=1048576
          ·have HE:=hid (HX.out.trans (JR HCE.out HL.out HLV.out HZ.out hfull))
           have hfb:((lits.length:Int) == 1048576)=true:=by simp[hfull]
           have W0:=WR 8 pk.2.1 hkt
           clear HX hfull
           go_wp2_with ((first|((with_reducible apply yn);exact ya;exact yb rfl;exact yb rfl;exact E81;(omega);(omega);(exact hS.ownNN (by(repeat (with_reducible first|exact ye|apply yd))) (by omega));(simp only[qN];rfl))|((with_reducible apply yR);exact ya;exact yb rfl;(exact hS.ownNN (by(repeat (with_reducible first|exact ye|apply yd))) (by omega));(with_reducible first|exact fo86_0|exact fo86_1))|((with_reducible apply yF);exact ya;exact yb rfl;(exact(hS.ownCell (by(repeat (with_reducible first|exact ye|apply yd))) (by(assumption))).1);decide +kernel)|((with_reducible apply yh hS);exact ya;exact yb rfl;exact ye;rfl;decide +kernel)|((with_reducible apply yi hS);exact ya;exact yb rfl;exact yb rfl;(repeat (with_reducible first|exact ye|apply yd));rfl;(focus (simp;done));(repeat (with_reducible first|exact Upd.hd|apply Upd.tl));rfl;(with_reducible first|exact sz28|exact sz33);rfl;clear hS;intro w hS;(try simp only[yp,qS] at hS))|(go_at_call 36;refine (LC _ _ hS).mono ?_;clear hS;rintro e w ⟨rfl,hS⟩)|(go_at_call 35;refine (W0 _ _ hS).mono ?_;clear hS;rintro e w ⟨rfl,hS⟩));try simp only[qA])
           refine bodyPost_ret (yK rfl rfl rfl (hS.loadWhole (by(repeat (with_reducible first|exact ye|apply yd))) (by kernel_rfl) (by kernel_rfl)) (hS.loadWhole (by(repeat (with_reducible first|exact ye|apply yd))) (by kernel_rfl) (by kernel_rfl))) rfl ?_
           rw[HR.out,HE.out]
           exact⟨rfl,hS.sb (by(repeat (with_reducible first|exact Sb.refl|apply Sb.skip)))⟩
          ·have HE:=hid (HX.out.trans (uZ HCE.out HL.out HLV.out HZ.out hfull))
           have hfb:((lits.length:Int) == 1048576)=false:=by simp[hfull]
           have hl2:lits.length < 1048576:=by omega
           clear HX hfull
           go_wp2_with ((first|((with_reducible apply yn);exact ya;exact yb rfl;exact yb rfl;exact E81;(omega);(omega);(exact hS.ownNN (by(repeat (with_reducible first|exact ye|apply yd))) (by omega));(simp only[qN];rfl))|((with_reducible apply yR);exact ya;exact yb rfl;(exact hS.ownNN (by(repeat (with_reducible first|exact ye|apply yd))) (by omega));(with_reducible exact fo86_0))|((with_reducible apply yF);exact ya;exact yb rfl;(exact(hS.ownCell (by(repeat (with_reducible first|exact ye|apply yd))) (by(assumption))).1);decide +kernel)|((with_reducible apply yh hS);exact ya;exact yb rfl;exact ye;rfl;decide +kernel)|((with_reducible apply yy hS);exact ya;exact yb rfl;exact yb rfl;(repeat (with_reducible first|exact ye|apply yd));rfl;(focus (simp;done));(repeat (with_reducible first|exact Upd.hd|apply Upd.tl));rfl;decide +kernel;clear hS;intro w hS;(try simp only[qS] at hS))|(go_at_call 36;refine (LC _ _ hS).mono ?_;clear hS;rintro e w ⟨rfl,hS⟩)|((with_reducible apply yA hS);exact ya;exact E31;exact yb rfl;exact yN rfl;rfl;decide;clear hS;intro NB w hS)|((with_reducible apply yD hS);exact ya;exact yb rfl;exact yb rfl;exact E31;(repeat (with_reducible first|exact Rem.hd|apply Rem.tl));(repeat (with_reducible apply Rem.tl));rfl;rfl;(omega);(omega);clear hS;intro AD CAP w hS;(try simp only[Nat.zero_add,List.nil_append] at hS)));try simp only[qA])
           have hS2:Sat w0 w (blk B9 33 [.int .i64 v,.slice ad1 es.length c1,.slice AD (lits.length+1) CAP]::own 3 1 ad1 es.length c1 (Is es)::own 3 1 AD (lits.length+1) CAP (Is (lits++[n]))::own 86 3 ad np cap (Pcs ps)::blk B3 28 [.int .i64 0,.int .i64 0,.int .i64 0]::blk B2 33 [.int .i64 0,.slice none 0 0,.slice none 0 0]::R):=by
            rw[uH]
            exact hS.sb (by(repeat (with_reducible first|exact Sb.refl|(refine Sb.take (by(repeat (first|exact Rem.hd|apply Rem.tl));done) ?_))))
           have hS3:=kh (es:=es) (ls:=lits++[n]) rfl (by simp) hS2
           have hll3:(lits++[n]).length≤1048576:=by rw[List.length_append];simp only[List.length_cons,List.length_nil];omega
           have hln:((lits++[n]).length:Int)=(lits.length:Int)+1:=by simp
           have HLN:=hid hln
           clear hS hS2 hln
           go_roundw
           case rel=>exact⟨i+1,true,es,lits++[n],by go_num,rfl,by omega,by omega,hel,hll3,hid (by rw[HLN.out];exact(decide_eq_true (by have:=HLE.out;omega)).symm),hid (by rw[HLN.out];have:=HLE.out;omega),HE,hS3⟩
           case measure=>simp[intOf];omega
     ·have hdn:(ps.drop i).map um=[]:=by rw[List.drop_of_length_le (by rw[← HNP.out];omega)];rfl
      have HE:=hid (show b=.inl (es,lits) by rw[HBi.out,hdn];rfl)
      clear hdn HBi
      have hr2:=HR.out
      rw[HE.out] at hr2
      simp only at hr2
      have hgd:es.getLast?.getD 0=Uj es:=rfl
      rw[hgd] at hr2
      clear hgd
      obtain⟨ad1,ad2,c1,c2,hS⟩:=kT hS
      have W0:=WR 135 text.length (Nat.le_refl _)
      cases op with
      | true =>
       rw[if_pos (.inr (of_decide_eq_true HO.out.symm))] at hr2
       have HR2:=hid hr2
       clear hr2
       go_wp2_with (first|((with_reducible apply yi hS);exact ya;exact yb rfl;exact yb rfl;(repeat (with_reducible first|exact ye|apply yd));rfl;(focus (simp;done));(repeat (with_reducible first|exact Upd.hd|apply Upd.tl));rfl;(with_reducible first|exact sz28|exact sz33);rfl;clear hS;intro w hS;(try simp only[yp,qS] at hS);(try simp only[qA]))|(go_at_call 35;refine (W0 _ _ hS).mono ?_;clear hS;rintro e w ⟨rfl,hS⟩))
       refine bodyPost_ret (yK rfl rfl rfl (hS.loadWhole (by(repeat (with_reducible first|exact ye|apply yd))) (by kernel_rfl) (by kernel_rfl)) (hS.loadWhole (by(repeat (with_reducible first|exact ye|apply yd))) (by kernel_rfl) (by kernel_rfl))) rfl ?_
       rw[HR2.out]
       exact⟨rfl,hS.sb (by(repeat (with_reducible first|exact Sb.refl|apply Sb.skip)))⟩
      | false =>
       have hno:=of_decide_eq_false HO.out.symm
       by_cases hec:(es.length:Int) < c
       ·rw[if_pos (.inl hec)] at hr2
        have HR2:=hid hr2
        clear hr2 hno
        go_wp2_with ((first|((with_reducible apply yh hS);exact yf rfl rfl;exact yb rfl;exact ye;rfl;decide +kernel)|((with_reducible apply yi hS);exact ya;exact yb rfl;exact yb rfl;(repeat (with_reducible first|exact ye|apply yd));rfl;(focus (simp;done));(repeat (with_reducible first|exact Upd.hd|apply Upd.tl));rfl;(with_reducible first|exact sz28|exact sz33);rfl;clear hS;intro w hS;(try simp only[yp,qS] at hS))|(go_at_call 35;refine (W0 _ _ hS).mono ?_;clear hS;rintro e w ⟨rfl,hS⟩));try simp only[qA])
        refine bodyPost_ret (yK rfl rfl rfl (hS.loadWhole (by(repeat (with_reducible first|exact ye|apply yd))) (by kernel_rfl) (by kernel_rfl)) (hS.loadWhole (by(repeat (with_reducible first|exact ye|apply yd))) (by kernel_rfl) (by kernel_rfl))) rfl ?_
        rw[HR2.out]
        exact⟨rfl,hS.sb (by(repeat (with_reducible first|exact Sb.refl|apply Sb.skip)))⟩
       ·rw[if_neg (by rintro (h|h);exact hec h;exact hno h)] at hr2
        have HR2:=hid hr2
        have hec2:decide ((es.length:Int) < c)=false:=decide_eq_false hec
        clear hr2 hno hec
        go_wp2_with ((first|((with_reducible apply yh hS);(first|with_reducible exact ya|exact yf rfl rfl);exact yb rfl;exact ye;rfl;decide +kernel)|((with_reducible apply yG hS);exact ya;exact yb rfl;exact ye;exact sz33;decide +kernel;rfl;rfl)|((with_reducible apply yi hS);exact ya;exact yb rfl;exact yb rfl;(repeat (with_reducible first|exact ye|apply yd));rfl;(focus (simp;done));(repeat (with_reducible first|exact Upd.hd|apply Upd.tl));rfl;(with_reducible first|exact sz28|exact sz33);rfl;clear hS;intro w hS;(try simp only[yp,qS] at hS)));try simp only[qA])
        refine bodyPost_ret (yK rfl rfl rfl (hS.loadWhole (by(repeat (with_reducible first|exact ye|apply yd))) (by kernel_rfl) (by kernel_rfl)) (hS.loadWhole (by(repeat (with_reducible first|exact ye|apply yd))) (by kernel_rfl) (by kernel_rfl))) rfl ?_
        rw[HR2.out]
        exact⟨ad1,ad2,c1,c2,rfl,hS.sb (by(repeat (with_reducible first|exact Sb.refl|(refine Sb.take (by(repeat (first|exact Rem.hd|apply Rem.tl));done) ?_)|apply Sb.skip)))⟩
end
section
set_option maxRecDepth 20000
open Go Go.RowKit Go.SL Go.ClauseP Go.LinesP

theorem sameCnfE (v:Int) (es ls:List Int) (he:es.length≤maxLen) (hl:ls.length≤maxLen) (w0 w:World) (Hs:List HP) (hS:Sat w0 w Hs) {A1 A2 A3 A4:HP} (h1:A1∈Hs) (h2:A2∈Hs) (h3:A3∈Hs) (h4:A4∈Hs)
  {ad1 ad2 ad3 ad4:Option Addr} {c1 c2 c3 c4:Nat} (r1:Rd A1 ad1 (Is es)) (r2:Rd A2 ad2 (Is ls)) (r3:Rd A3 ad3 (Is es)) (r4:Rd A4 ad4 (Is ls)) :
  Calls Tryz.prog 10 #[.agg #[.int .i64 v,.slice ad1 es.length c1,.slice ad2 ls.length c2],.agg #[.int .i64 v,.slice ad3 es.length c3,.slice ad4 ls.length c4]] w fun e w'=>e=.returned (.bool true)∧Sat w0 w' Hs:=by
 go_enter Tryz.func10,Tryz.ntmps10
 go_wp2_with ((first|((with_reducible apply yH hS);exact ya;exact yb rfl;exact yw;clear hS;intro NB w hS)|((with_reducible apply yh hS);(first|with_reducible exact ya|exact yf rfl rfl);exact yb rfl;(repeat (with_reducible first|exact ye|apply yd));rfl;decide +kernel)|(go_at_call 37;(first|with_reducible refine (gm es es _ _ _ hS (by((repeat (with_reducible apply yd));(try assumption))) (by((repeat (with_reducible apply yd));(try assumption))) r1 r3 he he).mono ?_|with_reducible refine (gm ls ls _ _ _ hS (by((repeat (with_reducible apply yd));(try assumption))) (by((repeat (with_reducible apply yd));(try assumption))) r2 r4 hl hl).mono ?_);clear hS;rintro e w ⟨rfl,hS⟩;(try simp only[decide_true])));try simp only[qA])
 go_ret
 exact⟨rfl,hS.drop.drop⟩
end
section
set_option maxRecDepth 20000
open Go Go.ClauseP Go.LinesP

theorem uX (v c:Int):∀ (ws:List Wd) (es ls es' ls':List Int),YH v c ws es ls=.inl (es',ls')→(es.length:Int)≤c→(ls.length:Int)≤1048576→(es'.length:Int)≤c∧(ls'.length:Int)≤1048576
 | [],es,ls,es',ls',h,h1,h2=>by
  simp only[YH,Sum.inl.injEq,Prod.mk.injEq] at h
  obtain⟨rfl,rfl⟩:=h
  exact⟨h1,h2⟩
 | w::ws,es,ls,es',ls',h,h1,h2=>by
  rw[YH] at h
  split at h
  ·cases h
  ·rename_i hc
   split at h
   ·cases h
   ·split at h
    ·cases h
    ·split at h
     ·exact uX v c ws _ ls es' ls' h (by simp only[List.length_append,List.length_cons,List.length_nil];omega) h2
     ·split at h
      ·cases h
      ·rename_i hf
       exact uX v c ws es _ es' ls' h h1 (by simp only[List.length_append,List.length_cons,List.length_nil];omega)
theorem num_bd {w:Wd} {n:Int} (h:Yb w=.inl n):0≤n∧n≤65536:=by
 unfold Yb at h
 split at h
 ·cases h
 ·split at h
  ·cases h
  ·have:=Sum.inl.inj h;omega
theorem head_bd {k:Nat}:∀ {l:List Wd} {v c:Int},jG k l=.inl (v,c)→0≤c∧c≤65536:=by
 intro l v c h
 unfold jG at h
 repeat' split at h
 all_goals (first|(cases h;done)|skip)
 rename_i h3 _
 have:=Sum.inl.inj h
 simp only[Prod.mk.injEq] at this
 obtain⟨rfl,rfl⟩:=this
 exact num_bd h3
theorem res_len {text:List UInt8} {c:CnfV} (h:Jr text=.inl c):c.ends.length≤65536∧c.lits.length≤1048576:=by
 unfold Jr at h
 split at h
 ·cases h
 ·split at h
  ·rename_i c' hc
   cases h
   unfold cnfP at hc
   split at hc
   ·cases hc
   ·split at hc
    ·cases hc
    ·rename_i hh
     split at hc
     ·cases hc
     ·rename_i hb
      split at hc
      ·cases hc
      ·have hb1:=head_bd hh
       have:=uX _ _ _ _ _ _ _ hb (by simpa using hb1.1) (by simp)
       cases hc
       simp only
       omega
  ·cases h
def gV:List UInt8:=[112,32,99,110,102,32,51,32,50,10,49,32,45,50,32,48,32,50,32,51,32,48,10]
theorem XP:yU 0 (yJ gV)=[[([112],0),([99,110,102],2),([51],6),([50],8)],[([49],10),([45,50],12),([48],15),([50],17),([51],19),([48],21)]]:=by decide +kernel
theorem fresh_is:Jr gV=.inl ⟨3,[2,4],[1,-2,2,3]⟩:=by
 rw[Jr,if_neg (by decide),XP]
 rfl
end
end Go.Proofs.YteopodbkhgcpmaaGreatDoor
namespace Go.SL
section
open Go Go.RowKit
section
variable {P:Program} {ops:Array Oper} {Q:Exit→Act→World→Prop} {rest:List Oper} {a:Act} {w w0:World} {Hs R R1 R2:List HP} {e:TypeId} {size n cap n0 cap0:Nat} {ad ad0:Option Addr} {xs ys:List Value}

theorem jM {t ty:TypeId} {bytes:Nat} (E:ElemTy P t e size bytes) (hS:Sat w0 w (own e size ad n cap xs::R)) {sa:Addr} {m c:Nat} {news:List Value} (hl:news.length=m*size) (hm0:0 < m)
  (hnews:∀ (j:Nat) u,news[j]?=some u→w.cell? (sa.add j)=some u) (h1:∀ u∈news,u.oneCell'=true) (h63:n+m≤maxLen) (hb:(n+m)*bytes≤140737488355328) :
  ∃ ad' cap' w',(Builtin.append_ #[t,t] ty #[.slice ad n cap,.slice (some sa) m c]).run P w=.ok (.slice ad' (n+m) cap') w' ∧
   ((ad'=ad∧cap'=cap∧Sat w0 w' (own e size ad (n+m) cap (xs++news)::R))∨Sat w0 w' (own e size ad' (n+m) cap' (xs++news)::own e size ad n cap xs::R)):=by
 obtain⟨i,z,hi,hz,hsz,hby,hzs⟩:=E.parts
 have hlen:=hS.ownLen ye
 obtain⟨hnc,hcm⟩:=hS.ownCap ye
 rcases hS.ownAd ye with ⟨rfl,rfl,rfl,rfl⟩|⟨g,rfl⟩
 ·obtain⟨v',w',hr,ho,hg,_⟩:=run_append_own (P:=P) w w.heap.size t ty e i z size bytes E.ht hi hz hsz hby hzs E.pos (.slice none 0 0) 0 [] (World.ownsRow_nil _ _ _ _) sa m c news hl hnews h1 h63 hb (Nat.le_refl _)
  obtain⟨ad',cap',rfl,hS'⟩:=(hS.ownNil e size).newOwn (by simpa [Value.ownBlock] using hg) ho
  exact⟨ad',cap',w',hr,.inr hS'⟩
 ·by_cases hroom:n+m≤cap
  ·obtain⟨k,hk,hw⟩:=hS.get ye
   obtain⟨_,hk⟩:=hk
   rcases hk with ⟨h0,_⟩|⟨g',cur,hgg,_,_,hcl,hcur,hblk⟩
   ·cases h0
   ·have hge:g=g':=by simpa using hgg
    subst hge
    have hh:w.heap[g]?=some (.cells cur.toArray e (0,0)):=hw g _ (by rw[hblk g];simp)
    have hfit:n*i.size+news.length≤cur.toArray.size:=by
     rw[hl,hsz,← Nat.add_mul,List.size_toArray,hcl];exact Nat.mul_le_mul_right _ hroom
    have hr:=run_append_room (P:=P) w t ty e i E.ht hi g n cap cur.toArray hh sa m c news (by rw[hsz];exact hl) hnews h1 hroom hfit
    refine ⟨_,_,_,hr,.inl ⟨rfl,rfl,Ux hl hroom hS rfl rfl rfl (by simp) fun cur2 hc2 ht2 hh2=>?_⟩⟩
    have:cur2=cur:=by rw[hh] at hh2;simpa using hh2.symm
    subst this
    refine ⟨?_,fun c hc=>kX _ _ _ _ hc⟩
    have:=setRow_heap w g cur2.toArray (cur2.take (n*size)++news++cur2.drop (n*size+news.length)).toArray e (0,0) hh
    simpa [hsz] using this
  ·have holds:∀ (j:Nat) u,xs[j]?=some u→w.cell? ((⟨g,0,none⟩:Addr).add j)=some u:=fun j u h=>by
    have:=(hS.ownCell ye h).1
    simpa [adr] using this
   obtain⟨v',w',hr,ho,hg⟩:=run_append_arg_grows (P:=P) w t ty e i z size bytes E.ht hi hz hsz hby hzs E.pos ⟨g,0,none⟩ n cap xs hlen holds sa m c news hl hnews (by omega) h63 hb
   obtain⟨ad',cap',rfl,hS'⟩:=(hS.ownNil e size).newOwn hg ho
   exact⟨ad',cap',w',hr,.inr hS'⟩
def parB (e:TypeId) (size:Nat) (ad0:Option Addr) (n0 cap0:Nat) (xs:List Value) (ad:Option Addr) (n cap:Nat) (ys:List Value):Bool→HP
 | true=>fun h=>(ad=ad0∧cap=cap0∧xs.length=n0*size∧n0≤n)∧own e size ad n cap (xs++ys) h
 | false=>sep (own e size ad n cap (xs++ys)) (own e size ad0 n0 cap0 xs)
def par (e:TypeId) (size:Nat) (ad0:Option Addr) (n0 cap0:Nat) (xs:List Value) (ad:Option Addr) (n cap:Nat) (ys:List Value):HP:=fun h=>∃ b:Bool,parB e size ad0 n0 cap0 xs ad n cap ys b h
theorem par_open (hS:Sat w0 w (par e size ad0 n0 cap0 xs ad n cap ys::R)):(ad=ad0∧cap=cap0∧xs.length=n0*size∧n0≤n∧Sat w0 w (own e size ad n cap (xs++ys)::R))∨Sat w0 w (own e size ad n cap (xs++ys)::own e size ad0 n0 cap0 xs::R):=by
 obtain⟨b,hS⟩:=hS.ex
 cases b with
 | true =>
  obtain⟨k,hk,_⟩:=hS.get ye
  exact .inl ⟨hk.1.1,hk.1.2.1,hk.1.2.2.1,hk.1.2.2.2,hS.turn fun g h=>h.2⟩
 | false=>exact .inr (Sat.split hS)
theorem Gc (hxl:xs.length=n0*size) (hn:n0≤n) (hS:Sat w0 w (own e size ad0 n cap0 (xs++ys)::R)):Sat w0 w (par e size ad0 n0 cap0 xs ad0 n cap0 ys::R) :=
 hS.turn fun g h=>⟨true,⟨rfl,rfl,hxl,hn⟩,h⟩
theorem ud (hS:Sat w0 w (own e size ad n cap (xs++ys)::own e size ad0 n0 cap0 xs::R)):Sat w0 w (par e size ad0 n0 cap0 xs ad n cap ys::R) :=
 hS.join.turn fun g h=>⟨false,h⟩
theorem par_rd:Rd (par e size ad0 n0 cap0 xs ad n cap ys) ad (xs++ys):=by
 intro w h hA hw j v hv
 obtain⟨b,hb⟩:=hA
 cases b with
 | true=>exact Rd.of_own (e:=e) (size:=size) (n:=n) (cap:=cap) w h hb.2 hw j v hv
 | false =>
  obtain⟨g,k,hd,hor,hg,hk⟩:=hb
  exact Rd.of_own (e:=e) (size:=size) (n:=n) (cap:=cap) w g hg (fun b o ho=>hw b o (by rw[hor,ho];rfl)) j v hv
theorem GZ:Rd (par e size ad0 n0 cap0 xs ad n cap ys) ad0 xs:=by
 intro w h hA hw j v hv
 obtain⟨b,hb⟩:=hA
 cases b with
 | true =>
  obtain⟨⟨rfl,rfl,_⟩,hb⟩:=hb
  exact(Rd.pre (ys:=ys) (Rd.of_own (e:=e) (size:=size) (n:=n) (cap:=cap))) w h hb hw j v hv
 | false =>
  obtain⟨g,k,hd,hor,hg,hk⟩:=hb
  exact Rd.of_own (e:=e) (size:=size) (n:=n0) (cap:=cap0) w k hk (fun b o ho=>hw b o (by
   rw[hor]
   rcases hd b with h0|h0
   ·rw[h0,ho];rfl
   ·rw[h0] at ho;cases ho)) j v hv
theorem Gb {t ty:TypeId} {bytes:Nat} (E:ElemTy P t e size bytes) (hS:Sat w0 w (par e size ad0 n0 cap0 xs ad n cap ys::R)) {sa:Addr} {m c:Nat} {news:List Value} (hl:news.length=m*size) (hm0:0 < m)
  (hnews:∀ (j:Nat) u,news[j]?=some u→w.cell? (sa.add j)=some u) (h1:∀ u∈news,u.oneCell'=true) (h63:n+m≤maxLen) (hb:(n+m)*bytes≤140737488355328) :
  ∃ ad' cap' w',(Builtin.append_ #[t,t] ty #[.slice ad n cap,.slice (some sa) m c]).run P w=.ok (.slice ad' (n+m) cap') w'∧Sat w0 w' (par e size ad0 n0 cap0 xs ad' (n+m) cap' (ys++news)::R):=by
 rcases par_open hS with ⟨e1,e2,hxl,hn,hS1⟩|hS1
 ·subst e1
  subst e2
  obtain⟨ad',cap',w',hr,h⟩:=jM (P:=P) (ty:=ty) (c:=c) E hS1 hl hm0 hnews h1 h63 hb
  refine ⟨ad',cap',w',hr,?_⟩
  rcases h with ⟨rfl,rfl,hS'⟩|hS'
  ·exact Gc hxl (by omega) (by rw[← List.append_assoc];exact hS')
  ·refine ud ?_
   rw[← List.append_assoc]
   have h2:=(hS'.front (Rem.tl Rem.hd)).ownShrink hn
   rw[← hxl,List.take_left] at h2
   exact h2.front (Rem.tl Rem.hd)
 ·obtain⟨ad',cap',w',hr,h⟩:=jM (P:=P) (ty:=ty) (c:=c) E hS1 hl hm0 hnews h1 h63 hb
  refine ⟨ad',cap',w',hr,?_⟩
  rcases h with ⟨rfl,rfl,hS'⟩|hS'
  ·exact ud (by rw[← List.append_assoc];exact hS')
  ·exact ud (by rw[← List.append_assoc];exact(hS'.front (Rem.tl Rem.hd)).drop)
theorem uu {dst:Option Tmp} {s x:Operand} {t ty:TypeId} {pos:String} {after:Array Edge} {gd:Option (Nat × Bool)} {bytes:Nat} (hS:Sat w0 w Hs)
  (hw:Region.wanted ⟨dst,.call { callee:=.builtin .append,args:=#[s,x],argTypes:=#[t,t] },ty,pos,after,gd⟩ (yielded ops a.tmps)=true)
  (hs:a.eval s=.slice ad n cap) {nb m c:Nat} (hx:a.eval x=.slice (some ⟨nb,0,none⟩) m c) (E:ElemTy P t e size bytes) (r1:Rem Hs (par e size ad0 n0 cap0 xs ad n cap ys) R1) {news:List Value} (r2:Rem R1 (blk nb e news) R2)
  (hl:news.length=m*size) (hm0:0 < m) (h1:news.all (·.oneCell')=true) (hb:(n+m)*bytes≤140737488355328) (h63:n+m≤9223372036854775807)
  (K:∀ ad' cap' w',Sat w0 w' (par e size ad0 n0 cap0 xs ad' (n+m) cap' (ys++news)::R2)→wpList P ops Q rest (a.put dst (.slice ad' (n+m) cap')) w') :
  wpList P ops Q (⟨dst,.call { callee:=.builtin .append,args:=#[s,x],argTypes:=#[t,t] },ty,pos,after,gd⟩::rest) a w:=by
 have hS1:=hS.front r1
 obtain⟨ad',cap',w',hr,hS'⟩:=Gb (P:=P) (ty:=ty) (c:=c) E hS1 (sa:=⟨nb,0,none⟩) hl hm0 (fun j u hj=>by
  have:=hS1.rdCell (A:=blk nb e news) (.tail _ (by exact(Rem.mem r2))) Rd.of_blk hj
  simpa [adr] using this) (fun u hu=>by simpa using List.all_eq_true.1 h1 u hu) h63 hb
 refine yW hw (KS rfl (by rw[hs,hx];exact hr)) (K ad' cap' w' ?_)
 have hS2:Sat w0 w' (blk nb e news::par e size ad0 n0 cap0 xs ad' (n+m) cap' (ys++news)::R2):=hS'.front (Rem.tl r2)
 exact hS2.drop
theorem Kj {A:HP}:∀ {L:List HP} {i:Nat},L[i]?=some A→∀ {R:List HP},Sat w0 w (Ym L::R)→Sat w0 w (A::Ym (L.eraseIdx i)::R)
 | [],i,h,R,hS=>by simp at h
 | B::L,0,h,R,hS=>by
  simp at h
  subst h
  exact hS.split
 | B::L,i+1,h,R,hS=>by
  have h1:Sat w0 w (B::Ym L::R):=hS.split
  have h2:Sat w0 w (Ym L::B::R):=h1.front (Rem.tl Rem.hd)
  have h3:=Kj (L:=L) (i:=i) (by simpa using h) h2
  have h4:Sat w0 w (B::A::Ym (L.eraseIdx i)::R):=h3.front (Rem.tl (Rem.tl Rem.hd))
  have h5:Sat w0 w (Ym (L.eraseIdx i)::B::A::R):=h4.front (Rem.tl (Rem.tl Rem.hd))
  have h6:Sat w0 w (B::Ym (L.eraseIdx i)::A::R):=h5.front (Rem.tl Rem.hd)
  exact(h6.join).front (Rem.tl Rem.hd)
theorem KF {A:HP}:∀ {L:List HP} {i:Nat},i < L.length→∀ {R:List HP},Sat w0 w (A::Ym (L.eraseIdx i)::R)→Sat w0 w (Ym (L.set i A)::R)
 | [],i,h,R,hS=>by simp at h
 | B::L,0,h,R,hS=>hS.join
 | B::L,i+1,h,R,hS=>by
  have h1:Sat w0 w (sep B (Ym (L.eraseIdx i))::A::R):=hS.front (Rem.tl Rem.hd)
  have h2:=h1.split
  have h3:Sat w0 w (A::B::Ym (L.eraseIdx i)::R):=h2.front (Rem.tl (Rem.tl Rem.hd))
  have h4:Sat w0 w (Ym (L.eraseIdx i)::A::B::R):=h3.front (Rem.tl (Rem.tl Rem.hd))
  have h5:Sat w0 w (A::Ym (L.eraseIdx i)::B::R):=h4.front (Rem.tl Rem.hd)
  have h6:=KF (L:=L) (i:=i) (by simpa using h) h5
  exact(h6.front (Rem.tl Rem.hd)).join
end
end
end Go.SL
namespace Go.Proofs.YteopodbkhgcpmaaGreatDoor
section
set_option maxRecDepth 20000
open Go Go.RowKit Go.SL

structure It where
 ad:Option Addr
 cap:Nat
 xs:List Int
def itV (t:It):Value:=.slice t.ad t.xs.length t.cap
def itO (t:It):HP:=own 3 1 t.ad t.xs.length t.cap (Is t.xs)
def mkI (i n:Nat):List Int:=(List.range n).map fun k:Nat=>10000000*((i:Int)+1)+(k:Int)
def enI (i n:Nat):List Int:=(List.range n).map fun k:Nat=>-1000*((i:Int)+1) - (k:Int)
theorem kj (i n:Nat):(mkI i n).length=n:=by simp[mkI]
theorem enI_len (i n:Nat):(enI i n).length=n:=by simp[enI]
theorem xX {i n k:Nat} (h:k < n):(mkI i n)[k]?=some (10000000*((i:Int)+1)+k):=by simp[mkI,h]
theorem enI_at {i n k:Nat} (h:k < n):(enI i n)[k]?=some (-1000*((i:Int)+1) - k):=by simp[enI,h]
theorem enI_snoc (i n:Nat):enI i n++[-1000*((i:Int)+1) - n]=enI i (n+1):=by simp[enI,List.range_succ]
def ovI (i k:Nat) (xs:List Int):List Int:=(mkI i k)++xs.drop k
theorem ovI_zero (i:Nat) (xs:List Int):ovI i 0 xs=xs:=by simp[ovI,mkI]
theorem ovI_len {i k:Nat} {xs:List Int} (h:k≤xs.length):(ovI i k xs).length=xs.length:=by simp[ovI,kj];omega
theorem ovI_all {i k:Nat} {xs:List Int} (h:k=xs.length):ovI i k xs=mkI i xs.length:=by subst h;simp[ovI]
theorem ovI_set {i k:Nat} {xs:List Int} (h:k < xs.length):(ovI i k xs).set k (10000000*((i:Int)+1)+k)=ovI i (k+1) xs:=by
 apply List.ext_getElem?
 intro j
 unfold ovI
 rcases Nat.lt_trichotomy j k with hj|hj|hj
 ·rw[List.getElem?_set_ne (by omega),List.getElem?_append_left (by rw[kj];omega),List.getElem?_append_left (by rw[kj];omega),xX hj,xX (by omega)]
 ·subst hj
  rw[List.getElem?_set_self (by simp[kj];omega),List.getElem?_append_left (by rw[kj];omega),xX (by omega)]
 ·rw[List.getElem?_set_ne (by omega),List.getElem?_append_right (by rw[kj];omega),List.getElem?_append_right (by rw[kj];omega),kj,kj,List.getElem?_drop,List.getElem?_drop]
  congr 1
  omega
def ovL (k:Nat) (its:List It):List It:=its.mapIdx fun j t=>if j < k then { t with xs:=mkI j t.xs.length } else t
theorem ovL_zero (its:List It):ovL 0 its=its:=by
 apply List.ext_getElem?
 intro j
 simp[ovL,List.getElem?_mapIdx]
theorem Uv {k j:Nat} {its:List It} {t:It} (h:its[j]?=some t):(ovL k its)[j]?=some (if j < k then { t with xs:=mkI j t.xs.length } else t):=by
 simp[ovL,List.getElem?_mapIdx,h]
theorem ovL_step {k:Nat} {its:List It} {t:It} (h:its[k]?=some t):(ovL k its).set k { t with xs:=mkI k t.xs.length }=ovL (k+1) its:=by
 have hk:=(List.getElem?_eq_some_iff.1 h).1
 apply List.ext_getElem?
 intro j
 by_cases hj:k=j
 ·subst hj
  rw[List.getElem?_set_self (by simpa [ovL] using hk),Uv h,if_pos (by omega)]
 ·rw[List.getElem?_set_ne hj]
  cases hx:its[j]? with
  | none=>simp[ovL,List.getElem?_mapIdx,hx]
  | some u =>
   rw[Uv hx,Uv hx]
   by_cases h1:j < k
   ·rw[if_pos h1,if_pos (by omega)]
   ·rw[if_neg h1,if_neg (by omega)]
/-! ### What has grown -/
def prO (j:Nat) (t:It) (g:Option Addr × Nat) (q:Nat):HP:=par 3 1 t.ad t.xs.length t.cap (Is (mkI j t.xs.length)) g.1 (t.xs.length+q) g.2 (Is (enI j q))
def prV (t:It) (g:Option Addr × Nat) (q:Nat):Value:=.slice g.1 (t.xs.length+q) g.2
def prL (its:List It) (gs:List (Option Addr × Nat)) (qf:Nat→Nat):List HP:=(its.zip gs).mapIdx fun j p=>prO j p.1 p.2 (qf j)
def prW (its:List It) (gs:List (Option Addr × Nat)) (qf:Nat→Nat):List Value:=(its.zip gs).mapIdx fun j p=>prV p.1 p.2 (qf j)
def YC (i q:Nat):Nat→Nat:=fun j=>if j < i then q+1 else q
theorem xN (q:Nat):YC 0 q=fun _=>q:=by funext j;simp[YC]
section
variable {its:List It} {gs:List (Option Addr × Nat)} {qf:Nat→Nat} {i q:Nat} {t:It} {g g':Option Addr × Nat}
theorem UU (ht:its[i]?=some t) (hg:gs[i]?=some g):(its.zip gs)[i]?=some (t,g):=by rw[List.getElem?_zip_eq_some];exact⟨ht,hg⟩
theorem Gg (ht:its[i]?=some t) (hg:gs[i]?=some g):(prL its gs qf)[i]?=some (prO i t g (qf i)):=by simp[prL,List.getElem?_mapIdx,UU ht hg]
theorem Gh (ht:its[i]?=some t) (hg:gs[i]?=some g):(prW its gs qf)[i]?=some (prV t g (qf i)):=by simp[prW,List.getElem?_mapIdx,UU ht hg]
theorem Xg (h:gs.length=its.length):(prL its gs qf).length=its.length:=by simp[prL,h]
theorem prW_len (h:gs.length=its.length):(prW its gs qf).length=its.length:=by simp[prW,h]
theorem Xh {β:Type} (F:Nat→It→(Option Addr × Nat)→Nat→β) (ht:its[i]?=some t) (hg:gs[i]?=some g):((its.zip gs).mapIdx fun j p=>F j p.1 p.2 (YC i q j)).set i (F i t g' (q+1))=(its.zip (gs.set i g')).mapIdx fun j p=>F j p.1 p.2 (YC (i+1) q j):=by
 have hil:=(List.getElem?_eq_some_iff.1 ht).1
 have hgl:=(List.getElem?_eq_some_iff.1 hg).1
 apply List.ext_getElem?
 intro j
 by_cases hj:i=j
 ·subst hj
  rw[List.getElem?_set_self (by simp;omega),List.getElem?_mapIdx,UU ht (List.getElem?_set_self hgl)]
  simp[YC]
 ·rw[List.getElem?_set_ne hj,List.getElem?_mapIdx,List.getElem?_mapIdx]
  have e:(its.zip (gs.set i g'))[j]?=(its.zip gs)[j]?:=by
   cases h1:its[j]? with
   | none=>rw[List.getElem?_eq_none (by have:=List.getElem?_eq_none_iff.1 h1;simp;omega),List.getElem?_eq_none (by have:=List.getElem?_eq_none_iff.1 h1;simp;omega)]
   | some u =>
    cases h2:gs[j]? with
    | none=>rw[List.getElem?_eq_none (by have:=List.getElem?_eq_none_iff.1 h2;simp;omega),List.getElem?_eq_none (by have:=List.getElem?_eq_none_iff.1 h2;simp;omega)]
    | some v=>rw[UU h1 h2,UU h1 (by rw[List.getElem?_set_ne hj];exact h2)]
  rw[e]
  have:YC (i+1) q j=YC i q j:=by
   unfold YC
   by_cases h1:j < i
   ·rw[if_pos h1,if_pos (by omega)]
   ·rw[if_neg h1,if_neg (by omega)]
  rw[this]
end
theorem uj:∀ {L L':List HP},L.length=L'.length→(∀ (i:Nat) (A B:HP),L[i]?=some A→L'[i]?=some B→∀ h,A h→B h)→∀ h,Ym L h→Ym L' h
 | [],[],_,_,h,H=>H
 | A::L,B::L',hl,hi,h,H=>by
  obtain⟨g,k,h1,h2,h3,h4⟩:=H
  exact⟨g,k,h1,h2,hi 0 A B rfl rfl g h3,uj (by simpa using hl) (fun i A' B' ha hb=>hi (i+1) A' B' (by simpa using ha) (by simpa using hb)) k h4⟩
theorem pr_start (its:List It):∀ h,Ym ((ovL its.length its).map itO) h→Ym (prL its (its.map fun t=>(t.ad,t.cap)) (fun _=>0)) h:=by
 refine uj (by simp[prL,ovL]) fun i A B ha hb h H=>?_
 obtain⟨u,hu,rfl⟩:∃ u,(ovL its.length its)[i]?=some u∧itO u=A:=by simpa [List.getElem?_map] using ha
 have hi:i < its.length:=by have:=(List.getElem?_eq_some_iff.1 hu).1;simpa [ovL] using this
 obtain⟨t,ht⟩:∃ t,its[i]?=some t:=⟨_,List.getElem?_eq_getElem hi⟩
 rw[Uv ht,if_pos hi] at hu
 rw[Gg ht (g:=(t.ad,t.cap)) (by simp[ht])] at hb
 simp only[Option.some.injEq] at hu hb
 subst hu
 subst hb
 simp only[itO,kj] at H
 exact⟨true,⟨rfl,rfl,by rw[kx,kj];omega,by omega⟩,by simpa [enI,Is] using H⟩
theorem prW_start (its:List It):its.map itV=prW its (its.map fun t=>(t.ad,t.cap)) (fun _=>0):=by
 apply List.ext_getElem?
 intro i
 cases ht:its[i]? with
 | none=>rw[List.getElem?_eq_none (by have:=List.getElem?_eq_none_iff.1 ht;simpa using this),List.getElem?_eq_none (by have:=List.getElem?_eq_none_iff.1 ht;simpa [prW] using this)]
 | some t=>rw[Gh ht (g:=(t.ad,t.cap)) (by simp[ht]),List.getElem?_map,ht];rfl
theorem gB {its:List It} {gs:List (Option Addr × Nat)} {q:Nat} {β:Type} (F:Nat→It→(Option Addr × Nat)→Nat→β):((its.zip gs).mapIdx fun j p=>F j p.1 p.2 (YC its.length q j))=(its.zip gs).mapIdx fun j p=>F j p.1 p.2 (q+1):=by
 apply List.ext_getElem?
 intro j
 rw[List.getElem?_mapIdx,List.getElem?_mapIdx]
 cases h:(its.zip gs)[j]? with
 | none=>rfl
 | some p =>
  have hj:=(List.getElem?_eq_some_iff.1 h).1
  simp at hj
  simp[YC,show j < its.length by omega]
end
end Go.Proofs.YteopodbkhgcpmaaGreatDoor
