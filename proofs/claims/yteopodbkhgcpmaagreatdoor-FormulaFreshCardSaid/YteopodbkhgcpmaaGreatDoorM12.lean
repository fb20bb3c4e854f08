/- A part of the proof: Rx7 Rx8 Rd3. -/
import Derived.Test.YteopodbkhgcpmaaGreatDoorM1
import Derived.Test.YteopodbkhgcpmaaGreatDoorM10
import Derived.Test.YteopodbkhgcpmaaGreatDoorM11
set_option linter.unusedSimpArgs false
set_option linter.unusedVariables false
set_option linter.unusedSectionVars false
namespace Go.Proofs.YteopodbkhgcpmaaGreatDoor
section
set_option maxRecDepth 20000
open Go Go.RowKit Go.SL Go.ClauseP Go.LexP
-- ACT2

theorem set_top {xs:List Value} {l:Nat} {a b c v:Value} (h:xs.length=l*3):(xs++[a,b,c]).set (l*3+2) v=xs++[a,b,v]:=by
 rw[List.set_append_right _ _ (by omega),h]
 simp
def kP (nds:Nat):List Wt × List (Int × Int) × Nat→Int × MS
 | (.ite n::s,o,k)=>if 2≤n then (131,⟨[],[],0,0⟩) else (0,⟨.ite (n+1)::s,o,k,nds⟩)
 | _=>(131,⟨[],[],0,0⟩)
set_option maxHeartbeats 8000000 in
theorem commaR (B:Nat) (st:List Wt) (out:List (Int × Int)) (opn nds:Nat) (hm:MOk ⟨st,out,opn,nds⟩) (w0 w:World) (R:List HP) (h:MSt w0 w R B ⟨st,out,opn,nds⟩) :
  Calls Tryz.prog 29 #[.pointer (some ⟨B,0,none⟩)] w fun e w'=>e=.returned (.int .i64 (kP nds (yQ st out opn)).1) ∧
   ((kP nds (yQ st out opn)).1=0→MSt w0 w' R B (kP nds (yQ st out opn)).2∧MOk (kP nds (yQ st out opn)).2)∧((kP nds (yQ st out opn)).1=131→∃ m',MSt w0 w' R B m'):=by
 have IR:=fun w h=>gW B ⟨st,out,opn,nds⟩ hm w0 w R h
 have hsh:=Kl st out opn
 dsimp only at IR
 generalize hrs:yQ st out opn=rs at *
 obtain⟨S1,o1,k1⟩:=rs
 clear hrs hm
 dsimp only at IR hsh
 rcases hsh with rfl|⟨S,rfl⟩|⟨n,S,rfl⟩
 ·go_enter Tryz.func29,Tryz.ntmps29
  go_upto_region 2 with (go_at_call 30;refine (IR _ h).mono ?_;clear h IR;rintro e w ⟨rfl,hm,h⟩)
  obtain⟨ad1,c1,ad2,c2,hS⟩:=h
  simp only[List.length_nil] at hS
  have T0:=fun w hS=>top0 B ad1 c1 (.slice ad2 o1.length c2) k1 nds w0 w (own 78 3 ad1 0 c1 (stC [])::own 44 2 ad2 o1.length c2 (Fs o1)::R) hS
  go_wp2_with ((first|((with_reducible apply Cont.intro);(focus (apply Or.inr;apply (Sat.sb hS);(repeat (with_reducible exact Sb.refl));done));intro hR hC)|((first|((with_reducible apply dP 0 hC hR);(simp only[qL];rfl);decide +kernel;exact iQ;exact ya)|((with_reducible apply dP 2 hC hR);(simp only[qL];rfl);decide +kernel;exact iQ;exact ya)|((with_reducible apply dP 3 hC hR);(simp only[qL];rfl);decide +kernel;exact iQ;exact ya)|((with_reducible apply dP 18 hC hR);(simp only[qL];rfl);decide +kernel;exact iQ;exact ya));(intro w;first|(go_simp;done)|(go_simp;rw[yo (by omega) (by omega)])|(go_simp;with_reducible rfl)|(go_simp;rfl));(clear hR hC;intro hR hC))|((first|((with_reducible apply dS 4 hC hR);(simp only[qL];rfl);decide +kernel;exact iQ;(exact yr rfl rfl))|((with_reducible apply dS 5 hC hR);(simp only[qL];rfl);decide +kernel;exact iQ;(exact yr rfl rfl))|((with_reducible apply dS 6 hC hR);(simp only[qL];rfl);decide +kernel;exact iQ;(exact yr rfl rfl))|((with_reducible apply dS 7 hC hR);(simp only[qL];rfl);decide +kernel;exact iQ;(exact yr rfl rfl))|((with_reducible apply dS 8 hC hR);(simp only[qL];rfl);decide +kernel;exact iQ;(exact yr rfl rfl))|((with_reducible apply dS 9 hC hR);(simp only[qL];rfl);decide +kernel;exact iQ;(exact yr rfl rfl))|((with_reducible apply dS 10 hC hR);(simp only[qL];rfl);decide +kernel;exact iQ;(exact yr rfl rfl))|((with_reducible apply dS 11 hC hR);(simp only[qL];rfl);decide +kernel;exact iQ;(exact yr rfl rfl))|((with_reducible apply dS 12 hC hR);(simp only[qL];rfl);decide +kernel;exact iQ;(exact yr rfl rfl))|((with_reducible apply dS 13 hC hR);(simp only[qL];rfl);decide +kernel;exact iQ;(exact yr rfl rfl))|((with_reducible apply dS 14 hC hR);(simp only[qL];rfl);decide +kernel;exact iQ;(exact yr rfl rfl))|((with_reducible apply dS 15 hC hR);(simp only[qL];rfl);decide +kernel;exact iQ;(exact yr rfl rfl))|((with_reducible apply dS 16 hC hR);(simp only[qL];rfl);decide +kernel;exact iQ;(exact yr rfl rfl))|((with_reducible apply dS 17 hC hR);(simp only[qL];rfl);decide +kernel;exact iQ;(exact yr rfl rfl)));(clear hR hC;intro hR hC))|((with_reducible apply yq (i:=1));(simp only[qL];rfl);decide +kernel;exact hC;clear hR hC)|((with_reducible apply ym);decide +kernel;clear hR hC)|(refine yt 2 19 hS (by kernel_rfl) [] rfl ?_;clear hS;intro w hS hR hC)|(go_at_call 31;refine (T0 _ hS).mono ?_;clear hS;rintro e w ⟨rfl,hS⟩));try simp only[qA])
  go_ret
  exact⟨rfl,fun h=>by have h:(131:Int)=0:=h;exact absurd h (by decide),fun _=>⟨⟨[],o1,k1,nds⟩,ad1,c1,ad2,c2,hS⟩⟩
 ·go_enter Tryz.func29,Tryz.ntmps29
  go_upto_region 2 with (go_at_call 30;refine (IR _ h).mono ?_;clear h IR;rintro e w ⟨rfl,hm,h⟩)
  obtain⟨ad1,c1,ad2,c2,hS⟩:=h
  simp only[List.length_cons,stC,wtN] at hS
  have hl:=hm.2.1
  simp only[List.length_cons] at hl
  have T1:=fun w hS=>top1 B ad1 S.length c1 (by omega) (.slice ad2 o1.length c2) k1 nds 3 0 0 (stC S) (YV S) w0 w (own 44 2 ad2 o1.length c2 (Fs o1)::R) hS
  go_wp2_with ((first|((with_reducible apply Cont.intro);(focus (apply Or.inr;apply (Sat.sb hS);(repeat (with_reducible exact Sb.refl));done));intro hR hC)|((first|((with_reducible apply dP 0 hC hR);(simp only[qL];rfl);decide +kernel;exact iQ;exact ya)|((with_reducible apply dP 2 hC hR);(simp only[qL];rfl);decide +kernel;exact iQ;exact ya)|((with_reducible apply dP 3 hC hR);(simp only[qL];rfl);decide +kernel;exact iQ;exact ya)|((with_reducible apply dP 18 hC hR);(simp only[qL];rfl);decide +kernel;exact iQ;exact ya));(intro w;first|(go_simp;done)|(go_simp;rw[yo (by omega) (by omega)])|(go_simp;with_reducible rfl)|(go_simp;rfl));(clear hR hC;intro hR hC))|((first|((with_reducible apply dS 4 hC hR);(simp only[qL];rfl);decide +kernel;exact iQ;(exact yr rfl rfl))|((with_reducible apply dS 5 hC hR);(simp only[qL];rfl);decide +kernel;exact iQ;(exact yr rfl rfl))|((with_reducible apply dS 6 hC hR);(simp only[qL];rfl);decide +kernel;exact iQ;(exact yr rfl rfl))|((with_reducible apply dS 7 hC hR);(simp only[qL];rfl);decide +kernel;exact iQ;(exact yr rfl rfl))|((with_reducible apply dS 8 hC hR);(simp only[qL];rfl);decide +kernel;exact iQ;(exact yr rfl rfl))|((with_reducible apply dS 9 hC hR);(simp only[qL];rfl);decide +kernel;exact iQ;(exact yr rfl rfl))|((with_reducible apply dS 10 hC hR);(simp only[qL];rfl);decide +kernel;exact iQ;(exact yr rfl rfl))|((with_reducible apply dS 11 hC hR);(simp only[qL];rfl);decide +kernel;exact iQ;(exact yr rfl rfl))|((with_reducible apply dS 12 hC hR);(simp only[qL];rfl);decide +kernel;exact iQ;(exact yr rfl rfl))|((with_reducible apply dS 13 hC hR);(simp only[qL];rfl);decide +kernel;exact iQ;(exact yr rfl rfl))|((with_reducible apply dS 14 hC hR);(simp only[qL];rfl);decide +kernel;exact iQ;(exact yr rfl rfl))|((with_reducible apply dS 15 hC hR);(simp only[qL];rfl);decide +kernel;exact iQ;(exact yr rfl rfl))|((with_reducible apply dS 16 hC hR);(simp only[qL];rfl);decide +kernel;exact iQ;(exact yr rfl rfl))|((with_reducible apply dS 17 hC hR);(simp only[qL];rfl);decide +kernel;exact iQ;(exact yr rfl rfl)));(clear hR hC;intro hR hC))|((with_reducible apply yq (i:=1));(simp only[qL];rfl);decide +kernel;exact hC;clear hR hC)|((with_reducible apply ym);decide +kernel;clear hR hC)|(refine yt 2 19 hS (by kernel_rfl) [] rfl ?_;clear hS;intro w hS hR hC)|(go_at_call 31;refine (T1 _ hS).mono ?_;clear hS;rintro e w ⟨rfl,hS⟩));try simp only[qA])
  go_ret
  exact⟨rfl,fun h=>by have h:(131:Int)=0:=h;exact absurd h (by decide),fun _=>⟨⟨.opn::S,o1,k1,nds⟩,ad1,c1,ad2,c2,hS⟩⟩
 ·go_enter Tryz.func29,Tryz.ntmps29
  go_upto_region 2 with (go_at_call 30;refine (IR _ h).mono ?_;clear h IR;rintro e w ⟨rfl,hm,h⟩)
  obtain⟨ad1,c1,ad2,c2,hS⟩:=h
  simp only[List.length_cons,stC,wtN] at hS
  have hl:=hm.2.1
  simp only[List.length_cons] at hl
  obtain⟨V0,V1,V2,V3,V4⟩:=kB (a:=.int .i64 4) (b:=.int .i64 0) (c:=.int .i64 n) (YV S)
  have T1:=fun w hS=>top1 B ad1 S.length c1 (by omega) (.slice ad2 o1.length c2) k1 nds 4 0 n (stC S) (YV S) w0 w (own 44 2 ad2 o1.length c2 (Fs o1)::R) hS
  have hli:(S.length:Int)≤200000:=by omega
  have NNA:=hS.ownNN (yd ye) (by omega)
  have HM:=hid hm
  have hset:=set_top (a:=.int .i64 4) (b:=.int .i64 0) (c:=.int .i64 n) (v:=.int .i64 ((n:Int)+1)) (YV S)
  have HSET:=hid hset
  have hlen:(stC S++([.int .i64 4,.int .i64 0,.int .i64 (n:Int)]:List Value)).length=S.length*3+3:=by simp[YV]
  clear V0 V1 V3 V4 hm hset
  by_cases hn:2≤n
  ·have hn2:(2:Int)≤(n:Int):=by omega
   have hn3:decide ((n:Int) ≥ 2)=true:=by simp;omega
   have HNN:=hid hn
   clear hn hlen
   go_wp2_with ((first|((with_reducible apply Cont.intro);(focus (apply Or.inr;apply (Sat.sb hS);(repeat (with_reducible exact Sb.refl));done));intro hR hC)|((first|((with_reducible apply dP 0 hC hR);(simp only[qL];rfl);decide +kernel;exact iQ;exact ya)|((with_reducible apply dP 2 hC hR);(simp only[qL];rfl);decide +kernel;exact iQ;exact ya)|((with_reducible apply dP 3 hC hR);(simp only[qL];rfl);decide +kernel;exact iQ;exact ya)|((with_reducible apply dP 4 hC hR);(simp only[qL];rfl);decide +kernel;exact iQ;exact yf rfl rfl)|((with_reducible apply dP 5 hC hR);(simp only[qL];rfl);decide +kernel;exact iQ;exact yf rfl rfl)|((with_reducible apply dP 8 hC hR);(simp only[qL];rfl);decide +kernel;exact iQ;exact yf rfl rfl)|((with_reducible apply dP 9 hC hR);(simp only[qL];rfl);decide +kernel;exact iQ;exact yf rfl rfl)|((with_reducible apply dP 12 hC hR);(simp only[qL];rfl);decide +kernel;exact iQ;exact yf rfl rfl)|((with_reducible apply dP 13 hC hR);(simp only[qL];rfl);decide +kernel;exact iQ;exact yf rfl rfl)|((with_reducible apply dP 17 hC hR);(simp only[qL];rfl);decide +kernel;exact iQ;exact yf rfl rfl)|((with_reducible apply dP 18 hC hR);(simp only[qL];rfl);decide +kernel;exact iQ;exact ya));(intro w;first|(go_simp;done)|(go_simp;rw[yo (by omega) (by omega)])|(go_simp;with_reducible rfl)|(go_simp;rfl));(clear hR hC;intro hR hC))|((first|((with_reducible apply dP 6 hC hR);(simp only[qL];rfl);decide +kernel;exact iQ;exact yf rfl rfl)|((with_reducible apply dP 10 hC hR);(simp only[qL];rfl);decide +kernel;exact iQ;exact yf rfl rfl)|((with_reducible apply dP 15 hC hR);(simp only[qL];rfl);decide +kernel;exact iQ;exact yf rfl rfl));(intro w;first|(exact yz rfl (by(exact yb rfl)) (by assumption) (by with_reducible exact fo78_2))|(go_simp;done)|(go_simp;rw[yo (by omega) (by omega)])|(go_simp;with_reducible rfl)|(go_simp;rfl));(clear hR hC;intro hR hC))|(((with_reducible apply dP 14 hC hR);(simp only[qL];rfl);decide +kernel;exact iQ;exact yf rfl rfl);(intro w;first|(with_reducible exact yu E23 rfl (by(exact yg)) (by(exact yg)) (by(omega)) (by(omega)) (by(assumption)) (by(rfl)))|(with_reducible exact yu E68 rfl (by(exact yb rfl)) (by(exact yb rfl)) (by(omega)) (by(omega)) (by(exact hS.ownNN (by(repeat (with_reducible first|exact ye|apply yd))) (by omega))) (by(simp only[qN];rfl)))|(go_simp;done)|(go_simp;rw[yo (by omega) (by omega)])|(go_simp;with_reducible rfl));(clear hR hC;intro hR hC))|((first|((with_reducible apply dR 7 hC hR);(simp only[qL];rfl);decide +kernel;exact iQ;exact yf rfl rfl)|((with_reducible apply dR 11 hC hR);(simp only[qL];rfl);decide +kernel;exact iQ;exact yf rfl rfl)|((with_reducible apply dR 16 hC hR);(simp only[qL];rfl);decide +kernel;exact iQ;exact yf rfl rfl));(intro w hS;(apply yj rfl (by(exact yb rfl)));first|exact yc (by decide +kernel) (hS.cell (by(repeat (with_reducible first|exact ye|apply yd))) rfl)|exact yc (by decide +kernel) ((hS.ownCell (by(repeat (with_reducible first|exact ye|apply yd))) (by(assumption))).1)|exact yc (by decide +kernel) (Sat.rdCell2 (by assumption) hS (by((repeat (with_reducible apply yd)));try assumption) (by(rfl)))|exact yc (by decide +kernel) (hS.baseCell (by((repeat (with_reducible apply yd)));try assumption) (by assumption))|exact yc (by decide +kernel) (fzC (by assumption) hS (by((repeat (with_reducible apply yd)));try assumption))|exact yl hS (by assumption) (by((repeat (with_reducible apply yd)));try assumption) (by assumption) (by rfl) (by with_reducible exact sz78) (by decide +kernel) (by decide)|exact hS.loadWhole (by(repeat (with_reducible apply yd))) (by kernel_rfl) (by kernel_rfl));(clear hR hC;intro hR hC))|((with_reducible apply yq (i:=1));(simp only[qL];rfl);decide +kernel;exact hC;clear hR hC)|((with_reducible apply ym);decide +kernel;clear hR hC)|(refine yt 2 19 hS (by kernel_rfl) [] rfl ?_;clear hS;intro w hS hR hC)|(go_at_call 31;refine (T1 _ hS).mono ?_;clear hS;rintro e w ⟨rfl,hS⟩));try simp only[qA])
   go_ret
   have e:kP nds (.ite n::S,o1,k1)=(131,⟨[],[],0,0⟩):=by simp only[kP];rw[if_pos HNN.out]
   rw[e]
   exact⟨rfl,fun h=>by have h:(131:Int)=0:=h;exact absurd h (by decide),fun _=>⟨⟨.ite n::S,o1,k1,nds⟩,ad1,c1,ad2,c2,hS⟩⟩
  ·have hn3:decide ((n:Int) ≥ 2)=false:=by simp;omega
   have hn4:(n:Int)≤1:=by omega
   have HNN:=hid hn
   have HLEN:=hid hlen
   clear hn hlen
   go_upto_region 4 with ((first|((with_reducible apply Cont.intro);(focus (apply Or.inr;apply (Sat.sb hS);(repeat (with_reducible exact Sb.refl));done));intro hR hC)|((first|((with_reducible apply dP 0 hC hR);(simp only[qL];rfl);decide +kernel;exact iQ;exact ya)|((with_reducible apply dP 2 hC hR);(simp only[qL];rfl);decide +kernel;exact iQ;exact ya)|((with_reducible apply dP 3 hC hR);(simp only[qL];rfl);decide +kernel;exact iQ;exact ya)|((with_reducible apply dP 4 hC hR);(simp only[qL];rfl);decide +kernel;exact iQ;exact yf rfl rfl)|((with_reducible apply dP 5 hC hR);(simp only[qL];rfl);decide +kernel;exact iQ;exact yf rfl rfl)|((with_reducible apply dP 8 hC hR);(simp only[qL];rfl);decide +kernel;exact iQ;exact yf rfl rfl)|((with_reducible apply dP 9 hC hR);(simp only[qL];rfl);decide +kernel;exact iQ;exact yf rfl rfl)|((with_reducible apply dP 12 hC hR);(simp only[qL];rfl);decide +kernel;exact iQ;exact yf rfl rfl)|((with_reducible apply dP 13 hC hR);(simp only[qL];rfl);decide +kernel;exact iQ;exact yf rfl rfl)|((with_reducible apply dP 17 hC hR);(simp only[qL];rfl);decide +kernel;exact iQ;exact yf rfl rfl)|((with_reducible apply dP 18 hC hR);(simp only[qL];rfl);decide +kernel;exact iQ;exact ya));(intro w;first|(go_simp;done)|(go_simp;rw[yo (by omega) (by omega)])|(go_simp;with_reducible rfl)|(go_simp;rfl));(clear hR hC;intro hR hC))|((first|((with_reducible apply dP 6 hC hR);(simp only[qL];rfl);decide +kernel;exact iQ;exact yf rfl rfl)|((with_reducible apply dP 10 hC hR);(simp only[qL];rfl);decide +kernel;exact iQ;exact yf rfl rfl)|((with_reducible apply dP 15 hC hR);(simp only[qL];rfl);decide +kernel;exact iQ;exact yf rfl rfl));(intro w;first|(exact yz rfl (by(exact yb rfl)) (by assumption) (by with_reducible exact fo78_2))|(go_simp;done)|(go_simp;rw[yo (by omega) (by omega)])|(go_simp;with_reducible rfl)|(go_simp;rfl));(clear hR hC;intro hR hC))|(((with_reducible apply dP 14 hC hR);(simp only[qL];rfl);decide +kernel;exact iQ;exact yf rfl rfl);(intro w;first|(with_reducible exact yu E23 rfl (by(exact yg)) (by(exact yg)) (by(omega)) (by(omega)) (by(assumption)) (by(rfl)))|(with_reducible exact yu E68 rfl (by(exact yb rfl)) (by(exact yb rfl)) (by(omega)) (by(omega)) (by(exact hS.ownNN (by(repeat (with_reducible first|exact ye|apply yd))) (by omega))) (by(simp only[qN];rfl)))|(go_simp;done)|(go_simp;rw[yo (by omega) (by omega)])|(go_simp;with_reducible rfl));(clear hR hC;intro hR hC))|((first|((with_reducible apply dR 7 hC hR);(simp only[qL];rfl);decide +kernel;exact iQ;exact yf rfl rfl)|((with_reducible apply dR 11 hC hR);(simp only[qL];rfl);decide +kernel;exact iQ;exact yf rfl rfl)|((with_reducible apply dR 16 hC hR);(simp only[qL];rfl);decide +kernel;exact iQ;exact yf rfl rfl));(intro w hS;(apply yj rfl (by(exact yb rfl)));first|exact yc (by decide +kernel) (hS.cell (by(repeat (with_reducible first|exact ye|apply yd))) rfl)|exact yc (by decide +kernel) ((hS.ownCell (by(repeat (with_reducible first|exact ye|apply yd))) (by(assumption))).1)|exact yc (by decide +kernel) (Sat.rdCell2 (by assumption) hS (by((repeat (with_reducible apply yd)));try assumption) (by(rfl)))|exact yc (by decide +kernel) (hS.baseCell (by((repeat (with_reducible apply yd)));try assumption) (by assumption))|exact yc (by decide +kernel) (fzC (by assumption) hS (by((repeat (with_reducible apply yd)));try assumption))|exact yl hS (by assumption) (by((repeat (with_reducible apply yd)));try assumption) (by assumption) (by rfl) (by with_reducible exact sz78) (by decide +kernel) (by decide)|exact hS.loadWhole (by(repeat (with_reducible apply yd))) (by kernel_rfl) (by kernel_rfl));(clear hR hC;intro hR hC))|((with_reducible apply yq (i:=1));(simp only[qL];rfl);decide +kernel;exact hC;clear hR hC)|((with_reducible apply ym);decide +kernel;clear hR hC)|(refine yt 2 19 hS (by kernel_rfl) [] rfl ?_;clear hS;intro w hS hR hC)|(go_at_call 31;refine (T1 _ hS).mono ?_;clear hS;rintro e w ⟨rfl,hS⟩));try simp only[qA])
   clear T1
   generalize hcs:(stC S++([.int .i64 4,.int .i64 0,.int .i64 (n:Int)]:List Value))=cs at *
   have hcl:cs.length=S.length*3+3:=HLEN.out
   have hcl2:S.length*3+2 < cs.length:=by omega
   clear hcl hcs
   go_wp2_with ((first|((with_reducible apply Cont.intro);(exact Or.inl (by kernel_rfl));intro hR hC)|((first|((with_reducible apply dP 0 hC hR);(simp only[qL];rfl);decide +kernel;exact iQ;exact ya)|((with_reducible apply dP 1 hC hR);(simp only[qL];rfl);decide +kernel;exact iQ;exact ya)|((with_reducible apply dP 4 hC hR);(simp only[qL];rfl);decide +kernel;exact iQ;exact ya)|((with_reducible apply dP 5 hC hR);(simp only[qL];rfl);decide +kernel;exact iQ;exact ya)|((with_reducible apply dP 8 hC hR);(simp only[qL];rfl);decide +kernel;exact iQ;exact ya)|((with_reducible apply dP 9 hC hR);(simp only[qL];rfl);decide +kernel;exact iQ;exact ya));(intro w;first|(go_simp;done)|(go_simp;rw[yo (by omega) (by omega)])|(go_simp;with_reducible rfl)|(go_simp;rfl));(clear hR hC;intro hR hC))|((first|((with_reducible apply dP 2 hC hR);(simp only[qL];rfl);decide +kernel;exact iQ;exact ya)|((with_reducible apply dP 6 hC hR);(simp only[qL];rfl);decide +kernel;exact iQ;exact ya)|((with_reducible apply dP 11 hC hR);(simp only[qL];rfl);decide +kernel;exact iQ;exact ya)|((with_reducible apply dP 15 hC hR);(simp only[qL];rfl);decide +kernel;exact iQ;exact ya));(intro w;first|(exact yz rfl (by(exact yb rfl)) (by assumption) (by with_reducible exact fo78_2))|(go_simp;done)|(go_simp;rw[yo (by omega) (by omega)])|(go_simp;with_reducible rfl)|(go_simp;rfl));(clear hR hC;intro hR hC))|((first|((with_reducible apply dP 10 hC hR);(simp only[qL];rfl);decide +kernel;exact iQ;exact ya)|((with_reducible apply dP 14 hC hR);(simp only[qL];rfl);decide +kernel;exact iQ;exact ya));(intro w;first|(with_reducible exact yu E23 rfl (by(exact yg)) (by(exact yg)) (by(omega)) (by(omega)) (by(assumption)) (by(rfl)))|(with_reducible exact yu E68 rfl (by(exact yb rfl)) (by(exact yb rfl)) (by(omega)) (by(omega)) (by(exact hS.ownNN (by(repeat (with_reducible first|exact ye|apply yd))) (by omega))) (by(simp only[qN];rfl)))|(go_simp;done)|(go_simp;rw[yo (by omega) (by omega)])|(go_simp;with_reducible rfl));(clear hR hC;intro hR hC))|(((with_reducible apply dP 13 hC hR);(simp only[qL];rfl);decide +kernel;exact iQ;exact ya);(intro w;first|(exact Yd rfl (by(exact yg)) (by(exact yg)) (by(omega)))|(go_simp;done)|(go_simp;rw[yo (by omega) (by omega)])|(go_simp;with_reducible rfl)|(go_simp;rfl));(clear hR hC;intro hR hC))|((first|((with_reducible apply dR 3 hC hR);(simp only[qL];rfl);decide +kernel;exact iQ;exact ya)|((with_reducible apply dR 7 hC hR);(simp only[qL];rfl);decide +kernel;exact iQ;exact ya)|((with_reducible apply dR 12 hC hR);(simp only[qL];rfl);decide +kernel;exact iQ;exact ya));(intro w hS;(apply yj rfl (by(exact yb rfl)));first|exact yc (by decide +kernel) (hS.cell (by(repeat (with_reducible first|exact ye|apply yd))) rfl)|exact yc (by decide +kernel) ((hS.ownCell (by(repeat (with_reducible first|exact ye|apply yd))) (by(assumption))).1)|exact yc (by decide +kernel) (Sat.rdCell2 (by assumption) hS (by((repeat (with_reducible apply yd)));try assumption) (by(rfl)))|exact yc (by decide +kernel) (hS.baseCell (by((repeat (with_reducible apply yd)));try assumption) (by assumption))|exact yc (by decide +kernel) (fzC (by assumption) hS (by((repeat (with_reducible apply yd)));try assumption))|exact yl hS (by assumption) (by((repeat (with_reducible apply yd)));try assumption) (by assumption) (by rfl) (by with_reducible exact sz78) (by decide +kernel) (by decide)|exact hS.loadWhole (by(repeat (with_reducible apply yd))) (by kernel_rfl) (by kernel_rfl));(clear hR hC;intro hR hC))|((with_reducible apply yq (i:=16));(simp only[qL];rfl);decide +kernel;exact hC;clear hR hC)|((with_reducible apply ym);decide +kernel;clear hR hC)|(refine yt 4 17 hS (by kernel_rfl) [16] rfl ?_;clear hS;intro w hS hR hC)|((with_reducible apply jr hS);exact ya;exact yb rfl;exact yb rfl;(repeat (with_reducible first|exact ye|apply yd));exact hcl2;(repeat (with_reducible first|exact Upd.hd|apply Upd.tl));rfl;decide +kernel;clear hS;intro w hS));try simp only[qA])
   go_ret
   have e:kP nds (.ite n::S,o1,k1)=(0,⟨.ite (n+1)::S,o1,k1,nds⟩):=by simp only[kP];rw[if_neg HNN.out]
   rw[e]
   obtain⟨m1,m2,m3,m4,m5⟩:=HM.out
   refine ⟨rfl,fun _=>⟨⟨ad1,c1,ad2,c2,?_⟩,m1,m2,m3,m4,m5⟩,fun h=>by have h:(0:Int)=131:=h;exact absurd h (by decide)⟩
   simp only[List.length_cons,stC,wtN]
   rw[show ((n+1:Nat):Int)=(n:Int)+1 by omega,← HSET.out]
   exact hS
end
section
set_option maxRecDepth 20000
open Go Go.RowKit Go.SL Go.ClauseP Go.LexP
-- ACT2

def YQ (tk:Tk) (m:MS):Int × MS:=match tk with
 | .opn=>if 64≤m.opn then (132,m) else (0,⟨.opn::m.st,m.out,m.opn+1,m.nds⟩)
 | .ite=>if 64≤m.opn then (132,m) else if 65536≤m.nds then (8,m) else (0,⟨.ite 0::m.st,m.out,m.opn+1,m.nds+1⟩)
 | .not=>if 64≤m.opn then (132,m) else if 65536≤m.nds then (8,m) else (0,⟨.not::m.st,m.out,m.opn+1,m.nds+1⟩)
 | _=>(131,m)
theorem MSt.sb {w0 w:World} {R R':List HP} {B:Nat} {m:MS} (h:MSt w0 w R B m) (s:∀ A A2 A3,Sb (A::A2::A3::R) (A::A2::A3::R')):MSt w0 w R' B m:=by
 obtain⟨ad1,c1,ad2,c2,hS⟩:=h
 exact⟨ad1,c1,ad2,c2,hS.sb (s _ _ _)⟩
def prefQ (w0:World) (R:List HP) (B:Nat) (P:Int × MS) (e:Ending) (w':World):Prop:=e=.returned (.int .i64 P.1)∧∃ m',MSt w0 w' R B m'∧(P.1=0→m'=P.2)
set_option maxHeartbeats 4000000 in
theorem prefOpn (B:Nat) (a b c:Int) (m:MS) (hm:MOk m) (w0 w:World) (R:List HP) (h:MSt w0 w R B m) :
  Calls Tryz.prog 25 #[.pointer (some ⟨B,0,none⟩),.agg #[.int .i64 8,.int .i64 a,.int .i64 b,.int .i64 c]] w (prefQ w0 R B (YQ .opn m)):=by
 obtain⟨st,out,opn,nds⟩:=m
 have OP:=fun w R h=>Xe B .opn st out opn nds hm.2.2.2.1 hm.2.1 w0 w R h
 simp only[wtN] at OP
 by_cases h64:64≤opn
 ·simp only[if_pos h64] at OP
  have hp:YQ .opn ⟨st,out,opn,nds⟩=(132,⟨st,out,opn,nds⟩):=by simp only[YQ];rw[if_pos h64]
  rw[hp]
  clear hp hm h64
  obtain⟨ad1,c1,ad2,c2,hS⟩:=h
  go_enter Tryz.func25,Tryz.ntmps25
  go_wp2_with ((first|((with_reducible apply yH hS);exact ya;exact yb rfl;exact yw;clear hS;intro WB w hS)|((with_reducible apply yk hS);exact ya;exact z78;clear hS;intro NB4 w hS)|((with_reducible apply yi hS);exact ya;exact yb rfl;exact yb rfl;exact ye;rfl;(focus (simp;done));exact Upd.hd;rfl;exact sz78;rfl;clear hS;intro w hS;(try simp only[yp,qS] at hS))|((with_reducible apply yh hS);exact ya;exact yb rfl;(repeat (with_reducible first|exact ye|apply yd));rfl;decide +kernel)|(go_at_call 26;refine (OP _ (blk NB4 78 [.int .i64 1,.int .i64 0,.int .i64 0]::blk WB 72 [.int .i64 8,.int .i64 a,.int .i64 b,.int .i64 c]::R) ⟨ad1,c1,ad2,c2,hS.sb (by(repeat (with_reducible first|exact Sb.refl|(refine Sb.take (by(repeat (first|exact Rem.hd|apply Rem.tl));done) ?_))))⟩).mono ?_;clear hS OP;rintro e w ⟨rfl,h⟩));try simp only[qA])
  go_ret
  exact⟨rfl,_,h.sb (fun A A2 A3=>by (repeat (with_reducible first|exact Sb.refl|(refine Sb.take (by(repeat (first|exact Rem.hd|apply Rem.tl));done) ?_)|apply Sb.skip))),fun h=>by have h:(132:Int)=0:=h;exact absurd h (by decide)⟩
 ·simp only[if_neg h64] at OP
  have hp:YQ .opn ⟨st,out,opn,nds⟩=(0,⟨.opn::st,out,opn+1,nds⟩):=by simp only[YQ];rw[if_neg h64]
  rw[hp]
  clear hp hm h64
  obtain⟨ad1,c1,ad2,c2,hS⟩:=h
  go_enter Tryz.func25,Tryz.ntmps25
  go_wp2_with ((first|((with_reducible apply yH hS);exact ya;exact yb rfl;exact yw;clear hS;intro WB w hS)|((with_reducible apply yk hS);exact ya;exact z78;clear hS;intro NB4 w hS)|((with_reducible apply yi hS);exact ya;exact yb rfl;exact yb rfl;exact ye;rfl;(focus (simp;done));exact Upd.hd;rfl;exact sz78;rfl;clear hS;intro w hS;(try simp only[yp,qS] at hS))|((with_reducible apply yh hS);exact ya;exact yb rfl;(repeat (with_reducible first|exact ye|apply yd));rfl;decide +kernel)|(go_at_call 26;refine (OP _ (blk NB4 78 [.int .i64 1,.int .i64 0,.int .i64 0]::blk WB 72 [.int .i64 8,.int .i64 a,.int .i64 b,.int .i64 c]::R) ⟨ad1,c1,ad2,c2,hS.sb (by(repeat (with_reducible first|exact Sb.refl|(refine Sb.take (by(repeat (first|exact Rem.hd|apply Rem.tl));done) ?_))))⟩).mono ?_;clear hS OP;rintro e w ⟨rfl,h⟩));try simp only[qA])
  go_ret
  exact⟨rfl,_,h.sb (fun A A2 A3=>by (repeat (with_reducible first|exact Sb.refl|(refine Sb.take (by(repeat (first|exact Rem.hd|apply Rem.tl));done) ?_)|apply Sb.skip))),fun _=>rfl⟩
set_option maxHeartbeats 4000000 in
theorem prefIte (B:Nat) (a b c:Int) (m:MS) (hm:MOk m) (w0 w:World) (R:List HP) (h:MSt w0 w R B m) :
  Calls Tryz.prog 25 #[.pointer (some ⟨B,0,none⟩),.agg #[.int .i64 6,.int .i64 a,.int .i64 b,.int .i64 c]] w (prefQ w0 R B (YQ .ite m)):=by
 obtain⟨st,out,opn,nds⟩:=m
 have OP:=fun w R h=>Xe B (.ite 0) st out opn nds hm.2.2.2.1 hm.2.1 w0 w R h
 simp only[wtN] at OP
 by_cases h64:64≤opn
 ·simp only[if_pos h64] at OP
  have hp:YQ .ite ⟨st,out,opn,nds⟩=(132,⟨st,out,opn,nds⟩):=by simp only[YQ];rw[if_pos h64]
  rw[hp]
  clear hp hm h64
  obtain⟨ad1,c1,ad2,c2,hS⟩:=h
  go_enter Tryz.func25,Tryz.ntmps25
  go_wp2_with ((first|((with_reducible apply yH hS);exact ya;exact yb rfl;exact yw;clear hS;intro WB w hS)|((with_reducible apply yk hS);exact ya;exact z78;clear hS;intro NB4 w hS)|((with_reducible apply yi hS);exact ya;exact yb rfl;exact yb rfl;exact ye;rfl;(focus (simp;done));exact Upd.hd;rfl;exact sz78;rfl;clear hS;intro w hS;(try simp only[yp,qS] at hS))|((with_reducible apply yh hS);exact ya;exact yb rfl;(repeat (with_reducible first|exact ye|apply yd));rfl;decide +kernel)|((with_reducible apply yG hS);exact ya;exact yb rfl;exact ye;exact sz78;decide +kernel;rfl;rfl)|((with_reducible apply yy hS);exact ya;exact yb rfl;exact yg;exact ye;rfl;(focus (simp;done));exact Upd.hd;rfl;decide +kernel;clear hS;intro w hS;(try simp only[qS] at hS))|(go_at_call 26;refine (OP _ (blk NB4 78 [.int .i64 4,.int .i64 0,.int .i64 0]::blk WB 72 [.int .i64 6,.int .i64 a,.int .i64 b,.int .i64 c]::R) ⟨ad1,c1,ad2,c2,hS.sb (by(repeat (with_reducible first|exact Sb.refl|(refine Sb.take (by(repeat (first|exact Rem.hd|apply Rem.tl));done) ?_))))⟩).mono ?_;clear hS OP;rintro e w ⟨rfl,h⟩));try simp only[qA])
  go_ret
  exact⟨rfl,_,h.sb (fun A A2 A3=>by (repeat (with_reducible first|exact Sb.refl|(refine Sb.take (by(repeat (first|exact Rem.hd|apply Rem.tl));done) ?_)|apply Sb.skip))),fun h=>by have h:(132:Int)=0:=h;exact absurd h (by decide)⟩
 ·simp only[if_neg h64] at OP
  have MK:=fun w R h=>jW B ((.ite 0)::st) out (opn+1) nds hm.2.2.2.2 w0 w R h
  by_cases h6:65536≤nds
  ·simp only[if_pos h6] at MK
   have hp:YQ .ite ⟨st,out,opn,nds⟩=(8,⟨st,out,opn,nds⟩):=by simp only[YQ];rw[if_neg h64,if_pos h6]
   rw[hp]
   clear hp hm h64 h6
   obtain⟨ad1,c1,ad2,c2,hS⟩:=h
   go_enter Tryz.func25,Tryz.ntmps25
   go_wp2_with ((first|((with_reducible apply yH hS);exact ya;exact yb rfl;exact yw;clear hS;intro WB w hS)|((with_reducible apply yk hS);exact ya;exact z78;clear hS;intro NB4 w hS)|((with_reducible apply yi hS);exact ya;exact yb rfl;exact yb rfl;exact ye;rfl;(focus (simp;done));exact Upd.hd;rfl;exact sz78;rfl;clear hS;intro w hS;(try simp only[yp,qS] at hS))|((with_reducible apply yh hS);exact ya;exact yb rfl;(repeat (with_reducible first|exact ye|apply yd));rfl;decide +kernel)|((with_reducible apply yG hS);exact ya;exact yb rfl;exact ye;exact sz78;decide +kernel;rfl;rfl)|((with_reducible apply yy hS);exact ya;exact yb rfl;exact yg;exact ye;rfl;(focus (simp;done));exact Upd.hd;rfl;decide +kernel;clear hS;intro w hS;(try simp only[qS] at hS))|(go_at_call 26;refine (OP _ (blk NB4 78 [.int .i64 4,.int .i64 0,.int .i64 0]::blk WB 72 [.int .i64 6,.int .i64 a,.int .i64 b,.int .i64 c]::R) ⟨ad1,c1,ad2,c2,hS.sb (by(repeat (with_reducible first|exact Sb.refl|(refine Sb.take (by(repeat (first|exact Rem.hd|apply Rem.tl));done) ?_))))⟩).mono ?_;clear hS OP;rintro e w ⟨rfl,h⟩)|(go_at_call 24;refine (MK _ _ h).mono ?_;clear h MK;rintro e w ⟨rfl,h⟩));try simp only[qA])
   go_ret
   exact⟨rfl,_,h.sb (fun A A2 A3=>by (repeat (with_reducible first|exact Sb.refl|(refine Sb.take (by(repeat (first|exact Rem.hd|apply Rem.tl));done) ?_)|apply Sb.skip))),fun h=>by have h:(8:Int)=0:=h;exact absurd h (by decide)⟩
  ·simp only[if_neg h6] at MK
   have hp:YQ .ite ⟨st,out,opn,nds⟩=(0,⟨(.ite 0)::st,out,opn+1,nds+1⟩):=by simp only[YQ];rw[if_neg h64,if_neg h6]
   rw[hp]
   clear hp hm h64 h6
   obtain⟨ad1,c1,ad2,c2,hS⟩:=h
   go_enter Tryz.func25,Tryz.ntmps25
   go_wp2_with ((first|((with_reducible apply yH hS);exact ya;exact yb rfl;exact yw;clear hS;intro WB w hS)|((with_reducible apply yk hS);exact ya;exact z78;clear hS;intro NB4 w hS)|((with_reducible apply yi hS);exact ya;exact yb rfl;exact yb rfl;exact ye;rfl;(focus (simp;done));exact Upd.hd;rfl;exact sz78;rfl;clear hS;intro w hS;(try simp only[yp,qS] at hS))|((with_reducible apply yh hS);exact ya;exact yb rfl;(repeat (with_reducible first|exact ye|apply yd));rfl;decide +kernel)|((with_reducible apply yG hS);exact ya;exact yb rfl;exact ye;exact sz78;decide +kernel;rfl;rfl)|((with_reducible apply yy hS);exact ya;exact yb rfl;exact yg;exact ye;rfl;(focus (simp;done));exact Upd.hd;rfl;decide +kernel;clear hS;intro w hS;(try simp only[qS] at hS))|(go_at_call 26;refine (OP _ (blk NB4 78 [.int .i64 4,.int .i64 0,.int .i64 0]::blk WB 72 [.int .i64 6,.int .i64 a,.int .i64 b,.int .i64 c]::R) ⟨ad1,c1,ad2,c2,hS.sb (by(repeat (with_reducible first|exact Sb.refl|(refine Sb.take (by(repeat (first|exact Rem.hd|apply Rem.tl));done) ?_))))⟩).mono ?_;clear hS OP;rintro e w ⟨rfl,h⟩)|(go_at_call 24;refine (MK _ _ h).mono ?_;clear h MK;rintro e w ⟨rfl,h⟩));try simp only[qA])
   go_ret
   exact⟨rfl,_,h.sb (fun A A2 A3=>by (repeat (with_reducible first|exact Sb.refl|(refine Sb.take (by(repeat (first|exact Rem.hd|apply Rem.tl));done) ?_)|apply Sb.skip))),fun _=>rfl⟩
set_option maxHeartbeats 4000000 in
theorem prefNot (B:Nat) (a b c:Int) (m:MS) (hm:MOk m) (w0 w:World) (R:List HP) (h:MSt w0 w R B m) :
  Calls Tryz.prog 25 #[.pointer (some ⟨B,0,none⟩),.agg #[.int .i64 4,.int .i64 a,.int .i64 b,.int .i64 c]] w (prefQ w0 R B (YQ .not m)):=by
 obtain⟨st,out,opn,nds⟩:=m
 have OP:=fun w R h=>Xe B .not st out opn nds hm.2.2.2.1 hm.2.1 w0 w R h
 simp only[wtN] at OP
 by_cases h64:64≤opn
 ·simp only[if_pos h64] at OP
  have hp:YQ .not ⟨st,out,opn,nds⟩=(132,⟨st,out,opn,nds⟩):=by simp only[YQ];rw[if_pos h64]
  rw[hp]
  clear hp hm h64
  obtain⟨ad1,c1,ad2,c2,hS⟩:=h
  go_enter Tryz.func25,Tryz.ntmps25
  go_wp2_with ((first|((with_reducible apply yH hS);exact ya;exact yb rfl;exact yw;clear hS;intro WB w hS)|((with_reducible apply yk hS);exact ya;exact z78;clear hS;intro NB4 w hS)|((with_reducible apply yi hS);exact ya;exact yb rfl;exact yb rfl;exact ye;rfl;(focus (simp;done));exact Upd.hd;rfl;exact sz78;rfl;clear hS;intro w hS;(try simp only[yp,qS] at hS))|((with_reducible apply yh hS);exact ya;exact yb rfl;(repeat (with_reducible first|exact ye|apply yd));rfl;decide +kernel)|((with_reducible apply yG hS);exact ya;exact yb rfl;exact ye;exact sz78;decide +kernel;rfl;rfl)|(go_at_call 26;refine (OP _ (blk NB4 78 [.int .i64 1,.int .i64 0,.int .i64 0]::blk WB 72 [.int .i64 4,.int .i64 a,.int .i64 b,.int .i64 c]::R) ⟨ad1,c1,ad2,c2,hS.sb (by(repeat (with_reducible first|exact Sb.refl|(refine Sb.take (by(repeat (first|exact Rem.hd|apply Rem.tl));done) ?_))))⟩).mono ?_;clear hS OP;rintro e w ⟨rfl,h⟩));try simp only[qA])
  go_ret
  exact⟨rfl,_,h.sb (fun A A2 A3=>by (repeat (with_reducible first|exact Sb.refl|(refine Sb.take (by(repeat (first|exact Rem.hd|apply Rem.tl));done) ?_)|apply Sb.skip))),fun h=>by have h:(132:Int)=0:=h;exact absurd h (by decide)⟩
 ·simp only[if_neg h64] at OP
  have MK:=fun w R h=>jW B (.not::st) out (opn+1) nds hm.2.2.2.2 w0 w R h
  by_cases h6:65536≤nds
  ·simp only[if_pos h6] at MK
   have hp:YQ .not ⟨st,out,opn,nds⟩=(8,⟨st,out,opn,nds⟩):=by simp only[YQ];rw[if_neg h64,if_pos h6]
   rw[hp]
   clear hp hm h64 h6
   obtain⟨ad1,c1,ad2,c2,hS⟩:=h
   go_enter Tryz.func25,Tryz.ntmps25
   go_wp2_with ((first|((with_reducible apply yH hS);exact ya;exact yb rfl;exact yw;clear hS;intro WB w hS)|((with_reducible apply yk hS);exact ya;exact z78;clear hS;intro NB4 w hS)|((with_reducible apply yi hS);exact ya;exact yb rfl;exact yb rfl;exact ye;rfl;(focus (simp;done));exact Upd.hd;rfl;exact sz78;rfl;clear hS;intro w hS;(try simp only[yp,qS] at hS))|((with_reducible apply yh hS);exact ya;exact yb rfl;(repeat (with_reducible first|exact ye|apply yd));rfl;decide +kernel)|((with_reducible apply yG hS);exact ya;exact yb rfl;exact ye;exact sz78;decide +kernel;rfl;rfl)|(go_at_call 26;refine (OP _ (blk NB4 78 [.int .i64 1,.int .i64 0,.int .i64 0]::blk WB 72 [.int .i64 4,.int .i64 a,.int .i64 b,.int .i64 c]::R) ⟨ad1,c1,ad2,c2,hS.sb (by(repeat (with_reducible first|exact Sb.refl|(refine Sb.take (by(repeat (first|exact Rem.hd|apply Rem.tl));done) ?_))))⟩).mono ?_;clear hS OP;rintro e w ⟨rfl,h⟩)|(go_at_call 24;refine (MK _ _ h).mono ?_;clear h MK;rintro e w ⟨rfl,h⟩));try simp only[qA])
   go_ret
   exact⟨rfl,_,h.sb (fun A A2 A3=>by (repeat (with_reducible first|exact Sb.refl|(refine Sb.take (by(repeat (first|exact Rem.hd|apply Rem.tl));done) ?_)|apply Sb.skip))),fun h=>by have h:(8:Int)=0:=h;exact absurd h (by decide)⟩
  ·simp only[if_neg h6] at MK
   have hp:YQ .not ⟨st,out,opn,nds⟩=(0,⟨.not::st,out,opn+1,nds+1⟩):=by simp only[YQ];rw[if_neg h64,if_neg h6]
   rw[hp]
   clear hp hm h64 h6
   obtain⟨ad1,c1,ad2,c2,hS⟩:=h
   go_enter Tryz.func25,Tryz.ntmps25
   go_wp2_with ((first|((with_reducible apply yH hS);exact ya;exact yb rfl;exact yw;clear hS;intro WB w hS)|((with_reducible apply yk hS);exact ya;exact z78;clear hS;intro NB4 w hS)|((with_reducible apply yi hS);exact ya;exact yb rfl;exact yb rfl;exact ye;rfl;(focus (simp;done));exact Upd.hd;rfl;exact sz78;rfl;clear hS;intro w hS;(try simp only[yp,qS] at hS))|((with_reducible apply yh hS);exact ya;exact yb rfl;(repeat (with_reducible first|exact ye|apply yd));rfl;decide +kernel)|((with_reducible apply yG hS);exact ya;exact yb rfl;exact ye;exact sz78;decide +kernel;rfl;rfl)|(go_at_call 26;refine (OP _ (blk NB4 78 [.int .i64 1,.int .i64 0,.int .i64 0]::blk WB 72 [.int .i64 4,.int .i64 a,.int .i64 b,.int .i64 c]::R) ⟨ad1,c1,ad2,c2,hS.sb (by(repeat (with_reducible first|exact Sb.refl|(refine Sb.take (by(repeat (first|exact Rem.hd|apply Rem.tl));done) ?_))))⟩).mono ?_;clear hS OP;rintro e w ⟨rfl,h⟩)|(go_at_call 24;refine (MK _ _ h).mono ?_;clear h MK;rintro e w ⟨rfl,h⟩));try simp only[qA])
   go_ret
   exact⟨rfl,_,h.sb (fun A A2 A3=>by (repeat (with_reducible first|exact Sb.refl|(refine Sb.take (by(repeat (first|exact Rem.hd|apply Rem.tl));done) ?_)|apply Sb.skip))),fun _=>rfl⟩
theorem prefElse (B:Nat) (k a b c:Int) (h8:k≠8) (h6:k≠6) (h4:k≠4) (m:MS) (w0 w:World) (R:List HP) (h:MSt w0 w R B m) :
  Calls Tryz.prog 25 #[.pointer (some ⟨B,0,none⟩),.agg #[.int .i64 k,.int .i64 a,.int .i64 b,.int .i64 c]] w (prefQ w0 R B (131,m)):=by
 have e8:(k == 8)=false:=beq_eq_false_iff_ne.2 h8
 have e6:(k == 6)=false:=beq_eq_false_iff_ne.2 h6
 have e4:(k == 4)=false:=beq_eq_false_iff_ne.2 h4
 obtain⟨ad1,c1,ad2,c2,hS⟩:=h
 clear h8 h6 h4
 go_enter Tryz.func25,Tryz.ntmps25
 go_wp2_with ((first|((with_reducible apply yH hS);exact ya;exact yb rfl;exact yw;clear hS;intro WB w hS)|((with_reducible apply yk hS);exact ya;exact z78;clear hS;intro NB4 w hS)|((with_reducible apply yi hS);exact ya;exact yb rfl;exact yb rfl;exact ye;rfl;(focus (simp;done));exact Upd.hd;rfl;exact sz78;rfl;clear hS;intro w hS;(try simp only[yp,qS] at hS))|((with_reducible apply yh hS);exact ya;exact yb rfl;(repeat (with_reducible first|exact ye|apply yd));rfl;decide +kernel));try simp only[qA])
 go_ret
 exact⟨rfl,m,⟨ad1,c1,ad2,c2,hS.sb (by(repeat (with_reducible first|exact Sb.refl|(refine Sb.take (by(repeat (first|exact Rem.hd|apply Rem.tl));done) ?_)|apply Sb.skip)))⟩,fun h=>by have h:(131:Int)=0:=h;exact absurd h (by decide)⟩
end
section
open Go Go.RowKit Go.SL Go.ClauseP Go.LexP

def LawR (text:List UInt8) (b:Nat) (m:MS) (w q:Int) (p:Ps) (o:List (Int × Int)) (S:List Wt):Rt→Prop
 | .inl e=>MRun text m w q (KG p) (.inl e)
 | .inr (x,p')=>Ok text p'∧p'.opn=p.opn∧∃ pend o' q',o'++nd pend=post x∧Good b p'.tk pend∧∀ r,MRun text ⟨pend++S,o++o',p'.opn+cn pend,p'.nds⟩ 1 q' (KG p') r→MRun text m w q (KG p) r
theorem LawR.comp {text:List UInt8} {b:Nat} {m m2:MS} {w q w2 q2:Int} {p p2:Ps} {o:List (Int × Int)} {S:List Wt} {r:Rt} (h:LawR text b m2 w2 q2 p2 o S r) (ho:p2.opn=p.opn) (hc:∀ r,MRun text m2 w2 q2 (KG p2) r→MRun text m w q (KG p) r) :
  LawR text b m w q p o S r:=by
 rcases r with e|⟨x,p'⟩
 ·exact hc _ h
 ·obtain⟨h1,h2,pend,o',q',h3,h4,h5⟩:=h
  exact⟨h1,h2.trans ho,pend,o',q',h3,h4,fun r hr=>hc _ (h5 r hr)⟩
def Mot (text:List UInt8):Tsk→Ps→Rt→Prop
 | .lvl b,p,r=>Ok text p→∀ S o q,Stops b S→LawR text b ⟨S,o,p.opn,p.nds⟩ 0 q p o S r
 | .loop b x,p,r=>Ok text p→b=1∨b=3∨b=4∨b=5→∀ S o q pend o',Stops b S→o'++nd pend=post x→Good' b p.tk pend→LawR text b ⟨pend++S,o++o',p.opn+cn pend,p.nds⟩ 1 q p o S r
 | .imps xs,p,r=>∀ x rest,xs=x::rest→Ok text p→∀ S o q pend o',Stops 2 S→o'++nd pend=post x→Good 3 p.tk pend →
   LawR text 2 ⟨pend++(List.replicate rest.length (.op 9)++S),o++YT rest++o',p.opn+cn pend,p.nds⟩ 1 q p o S r
theorem uI {b:Nat} (hb:b=1∨b=3∨b=4∨b=5):YB (oOf b)=b:=by rcases hb with rfl|rfl|rfl|rfl <;> rfl
theorem oOf_ne {b:Nat} (hb:b=1∨b=3∨b=4∨b=5):oOf b≠9:=by rcases hb with rfl|rfl|rfl|rfl <;> decide
theorem JZ {text:List UInt8} {b:Nat} {p:Ps} {S pend:List Wt} {o o':List (Int × Int)} {x:T} (q:Int) (hp:Ok text p) (hb:b=1∨b=3∨b=4∨b=5) (hS:Stops b S) (hx:o'++nd pend=post x) (hG:Good' b p.tk pend) (hk:knd p=kOf b) :
  jp text ⟨pend++S,o++o',p.opn+cn pend,p.nds⟩ 1 q p (fun p'=>⟨.op (oOf b)::S,o++post x,p.opn,p'.nds⟩) 0 q 0 1 (yx (yC p) (yM text)):=by
 have ht:p.tk=.op (oOf b):=(knd_op hp.1 hb).1 hk
 have e:=uI hb
 have h1:Yr (oOf b) (pend++S) (o++o') (p.opn+cn pend)=(S,o++post x,p.opn):=by
  rw[jY (oOf b) b (by omega) pend S (o++o') p.opn (fun w hw=>(hG.2 _ ht).2 w hw |>.imp id fun⟨y,e1,e2⟩=>⟨y,e1,e2,fun e3=>absurd e3 (oOf_ne hb)⟩),List.append_assoc,hx]
  exact xE (by rw[e];exact hS) _ _
 have h:=ju (text:=text) (m:=⟨pend++S,o++o',p.opn+cn pend,p.nds⟩) (w:=1) (q:=q) (w':=0) (q':=q) (p:=p) (g:=fun m=>⟨.op (oOf b)::(Yr (oOf b) m.st m.out m.opn).1,(Yr (oOf b) m.st m.out m.opn).2.1,(Yr (oOf b) m.st m.out m.opn).2.2,m.nds⟩) hp rfl (by rw[ht];rfl)
 simpa only [h1] using h
theorem oper_reps {S:List Wt} (h:Stops 2 S) (o:List (Int × Int)) (k:Nat):∀ n:Nat,Yr 9 (List.replicate n (.op 9)++S) o k=(List.replicate n (.op 9)++S,o,k)
 | 0=>xE (op:=9) h o k
 | n+1=>by
  rw[List.replicate_succ,List.cons_append,Yr]
  rw[if_pos (.inr ⟨rfl,rfl⟩)]
theorem ne9 {y:Int} (h:3≤YB y):YB y≠YB 9:=by
 have:YB 9=2:=rfl
 omega
theorem JV {text:List UInt8} {p:Ps} {S pend:List Wt} {o o':List (Int × Int)} {x:T} {rest:List T} (q:Int) (hp:Ok text p) (hS:Stops 2 S) (hx:o'++nd pend=post x) (hG:Good 3 p.tk pend) (hk:knd p=7) :
  jp text ⟨pend++(List.replicate rest.length (.op 9)++S),o++YT rest++o',p.opn+cn pend,p.nds⟩ 1 q p (fun p'=>⟨List.replicate (x::rest).length (.op 9)++S,o++YT (x::rest),p.opn,p'.nds⟩) 0 q 0 1 (yx (yC p) (yM text)):=by
 have ht:p.tk=.op 9:=(GM hp.1).1 hk
 have h1:Yr 9 (pend++(List.replicate rest.length (.op 9)++S)) (o++YT rest++o') (p.opn+cn pend)=(List.replicate rest.length (.op 9)++S,o++YT (x::rest),p.opn):=by
  rw[jY 9 3 (by decide) pend _ _ p.opn (fun w hw=>(hG.2 _ ht).2 w hw |>.imp id fun⟨y,e1,e2⟩=>⟨y,e1,e2,fun _=>ne9 e2⟩),List.append_assoc,hx,List.append_assoc]
  exact oper_reps hS _ _ _
 have h:=ju (text:=text) (m:=⟨pend++(List.replicate rest.length (.op 9)++S),o++YT rest++o',p.opn+cn pend,p.nds⟩) (w:=1) (q:=q) (w':=0) (q':=q) (p:=p) (g:=fun m=>⟨.op 9::(Yr 9 m.st m.out m.opn).1,(Yr 9 m.st m.out m.opn).2.1,(Yr 9 m.st m.out m.opn).2.2,m.nds⟩) hp rfl (by rw[ht];rfl)
 simpa only [h1,List.length_cons,List.replicate_succ,List.cons_append] using h
theorem xG:∀ (rest:List T) (x:T),post (jt (x::rest))=YT rest++post x++List.replicate rest.length (9,0)
 | [],x=>by simp[jt,YT]
 | y::rest,x=>by
  have:=xG rest (.bin 9 y x)
  simp only[jt,List.foldl_cons] at this ⊢
  rw[this]
  simp[YT,post,List.replicate_succ]
theorem nd_reps (n:Nat):nd (List.replicate n (.op 9))=List.replicate n (9,0):=by
 induction n with
 | zero=>rfl
 | succ n ih=>simp only[List.replicate_succ,nd,List.flatMap_cons] at ih ⊢;rw[ih];rfl
theorem cn_reps (n:Nat):cn (List.replicate n (.op 9))=0:=by
 induction n with
 | zero=>rfl
 | succ n ih=>simp only[List.replicate_succ,cn,List.map_cons,List.sum_cons] at ih ⊢;rw[ih];rfl
theorem Ok.less {text:List UInt8} {p:Ps} (h:Ok text p) (k:Nat):Ok text { p with opn:=p.opn - k }:=⟨h.1,by dsimp only;have:=h.2.1;omega,h.2.2⟩
theorem Good.nil {b:Nat} {tk:Tk} (h:∀ k,tk=.op k→YB k < b):Good b tk []:=⟨fun w hw=>(nomatch hw),fun k hk=>⟨h k hk,fun w hw=>(nomatch hw)⟩⟩
theorem bnd6 (k:Int):YB k < 6:=by have:=Kq k;omega
theorem Good.noop {tk:Tk} {pend:List Wt} (h:Good 1 tk pend) (k:Int):tk≠.op k:=fun e=>by have h1:=(h.2 k e).1;have:=Kq k;omega

/-! ### A quantifier's variables -/
def GE (text:List UInt8) (p:Ps) (vs:List Int) (S:List Wt) (o:List (Int × Int)) (op:Int):(Int × Nat) ⊕ (List Int × Ps)→Prop
 | .inl e=>MRun text ⟨S,o,p.opn,p.nds⟩ 3 op (yP text p.fin) (.inl e)
 | .inr (vs',q)=>∃ ns,ns≠[]∧vs'=vs++ns∧Ok text q∧q.opn=p.opn+ns.length∧∀ r,MRun text ⟨ns.reverse.map (Wt.quant op)++S,o,q.opn,q.nds⟩ 0 op (KG q) r→MRun text ⟨S,o,p.opn,p.nds⟩ 3 op (yP text p.fin) r
theorem US {text:List UInt8} {p:Ps} {vs:List Int} {r:(Int × Nat) ⊕ (List Int × Ps)} (h:Vars text p vs r):∀ (S:List Wt) (o:List (Int × Int)) (op:Int),p.fin≤text.length→p.opn≤64→p.nds≤65536→GE text p vs S o op r:=by
 induction h with
 | adv ha=>intro S o op _ _ _;exact jR ha _ _ _
 | @tok p vs q ha hn =>
  intro S o op hf ho hk
  obtain⟨h1,h2,h3,h4⟩:=UV ha
  unfold GE
  rw[← h1]
  refine KI ?_
  obtain⟨tk,at_,fin,opn,nds⟩:=q
  dsimp only at hn h4 ⊢
  cases tk <;> first|rfl|exact(hn _ rfl).elim|exact(h4 _ rfl).elim
 | @open_ p vs q n e ha ht hb =>
  intro S o op hf ho hk
  obtain⟨h1,h2,h3,h4⟩:=UV ha
  have hq:=jD hf ho hk ha
  have hs:=Ke (text:=text) (m:=⟨S,o,p.opn,p.nds⟩) (w:=3) (q:=op) (x:=.quant op n) (w':=4) (q':=op) hq (by dsimp only;omega) (by dsimp only;omega) (by rw[ht];rfl)
  rw[hb] at hs
  unfold GE
  rw[← h1]
  exact hs
 | @more p vs q n q' r ha ht hb hc _ ih =>
  intro S o op hf ho hk
  obtain⟨h1,h2,h3,h4⟩:=UV ha
  have hq:=jD hf ho hk ha
  have hs:=Ke (text:=text) (m:=⟨S,o,p.opn,p.nds⟩) (w:=3) (q:=op) (x:=.quant op n) (w':=4) (q':=op) hq (by dsimp only;omega) (by dsimp only;omega) (by rw[ht];rfl)
  rw[hb] at hs
  obtain⟨k1,k2,k3,k4⟩:=hs
  have hgo:∀ r,MRun text ⟨.quant op n::S,o,q'.opn,q'.nds⟩ 3 op (yP text q'.fin) r→MRun text ⟨S,o,p.opn,p.nds⟩ 3 op (yP text p.fin) r:=by
   intro r hr
   rw[← h1]
   refine k4 r ?_
   exact .go (t:=KG q') (m':=⟨.quant op n::S,o,q'.opn,q'.nds⟩) (w':=3) (q':=op) (by show yB _ _ _ q'.tk=_;rw[hc];rfl) hr
  have ih2:=ih (.quant op n::S) o op k1.2.2.2.1 k1.2.1 k1.2.2.1
  rcases r with e|⟨vs',q2⟩
  ·exact hgo _ ih2
  ·obtain⟨ns,e0,e1,e2,e3,e4⟩:=ih2
   refine ⟨n::ns,by simp,by rw[e1];simp,e2,by rw[e3,k2,h2];simp;omega,fun r hr=>hgo r (e4 r ?_)⟩
   simpa using hr
 | @done p vs q n q' ha ht hb hc =>
  intro S o op hf ho hk
  obtain⟨h1,h2,h3,h4⟩:=UV ha
  have hq:=jD hf ho hk ha
  have hs:=Ke (text:=text) (m:=⟨S,o,p.opn,p.nds⟩) (w:=3) (q:=op) (x:=.quant op n) (w':=4) (q':=op) hq (by dsimp only;omega) (by dsimp only;omega) (by rw[ht];rfl)
  rw[hb] at hs
  obtain⟨k1,k2,k3,k4⟩:=hs
  have hn:=jd (text:=text) (m:=⟨.quant op n::S,o,q'.opn,q'.nds⟩) (m':=⟨.quant op n::S,o,q'.opn,q'.nds⟩) (w:=4) (q:=op) (w':=0) (q':=op) (k:=12) k1
   (fun h=>by rw[(xx k1.1).1 h];rfl)
   (fun h=>by
    have h':q'.tk≠.colon:=fun e=>h ((xx k1.1).2 e)
    have h5:=k1.1
    obtain⟨tk,at_,fin,opn,nds⟩:=q'
    dsimp only at h' hc h5 ⊢
    cases tk <;> first|rfl|exact(h' rfl).elim|exact(hc rfl).elim|exact h5.elim)
  cases hnd:yL text 12 q' with
  | inl e =>
   rw[hnd] at hn
   unfold GE
   rw[← h1]
   exact k4 _ hn
  | inr q2 =>
   rw[hnd] at hn
   obtain⟨g1,g2,g3,g4⟩:=hn
   refine ⟨[n],by simp,rfl,g1,by simp;omega,fun r hr=>?_⟩
   rw[← h1]
   refine k4 r (g4 r ?_)
   have e1:q2.opn=q'.opn:=g2
   have e2:q2.nds=q'.nds:=g3
   rw[← e1,← e2]
   simpa using hr
theorem gj (op:Int):∀ (ns:List Int) (x:T),post (quT op ns x)=post x++nd (ns.reverse.map (Wt.quant op))
 | [],x=>by simp[quT,nd]
 | n::ns,x=>by
  have:=gj op ns x
  simp only[quT,List.foldr_cons] at this ⊢
  rw[post,this]
  simp[ub,nd,ndW]
theorem cn_quants (op:Int) (ns:List Int):cn (ns.map (Wt.quant op))=ns.length:=by
 induction ns with
 | nil=>rfl
 | cons n ns ih=>simp only[List.map_cons,cn,List.sum_cons,List.length_cons] at ih ⊢;rw[ih];simp[opW];omega
end
end Go.Proofs.YteopodbkhgcpmaaGreatDoor
