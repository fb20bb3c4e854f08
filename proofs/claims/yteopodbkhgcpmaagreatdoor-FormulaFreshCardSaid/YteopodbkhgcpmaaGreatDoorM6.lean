/- A part of the proof: Lx5 Lx6 Map Form1 Fz Form2 Form3 Form4. -/
import Derived.Test.YteopodbkhgcpmaaGreatDoorM1
import Derived.Test.YteopodbkhgcpmaaGreatDoorM2
import Derived.Test.YteopodbkhgcpmaaGreatDoorM3
import Derived.Test.YteopodbkhgcpmaaGreatDoorM5
import Derived.Maps.Own
import Derived.Maps.OwnSet
set_option linter.unusedSimpArgs false
set_option linter.unusedVariables false
set_option linter.unusedSectionVars false
namespace Go.Proofs.YteopodbkhgcpmaaGreatDoor
section
set_option maxRecDepth 20000
open Go Go.RowKit Go.SL Go.ClauseP Go.LexP

set_option maxHeartbeats 2000000 in
theorem pieceSign (text:List UInt8) (hl:text.length≤1048576) (k:Nat) (c:UInt8) (hc:text[k]?=some c) (hw:kD c=false) (hg:Yc c=false) (w0 w:World) (hSig:kY w0) (Hs:List HP) (hbm:YF w0∈Hs) (hS:Sat w0 w Hs) :
  Calls Tryz.prog 74 #[.string ⟨text.toArray⟩,.int .i64 k] w fun e w'=>e=.returned (.tuple #[xg (match kC (text.drop k) with|some s=>s.2|none=>.bad 130) 0,.int .i64 ((k+(match kC (text.drop k) with|some s=>s.1.length|none=>1):Nat))])∧Sat w0 w' Hs:=by
 have hlt:=(List.getElem?_eq_some_iff.1 hc).1
 obtain⟨hpk,hck⟩:=YD text k c hc
 obtain⟨tk,htk⟩:∃ tk,tk=(match kC (text.drop k) with|some s=>s.2|none=>.bad 130:Tk):=⟨_,rfl⟩
 obtain⟨n,hn⟩:∃ n,n=(match kC (text.drop k) with|some s=>s.1.length|none=>1:Nat):=⟨_,rfl⟩
 rw[← htk,← hn]
 have HT:Hid (∀ s,kC (text.drop k)=some s→tk=s.2∧n=s.1.length):=hid fun s h=>by rw[htk,hn,h];exact⟨rfl,rfl⟩
 have HU:Hid (kC (text.drop k)=none→tk=.bad 130∧n=1):=hid fun h=>by rw[htk,hn,h];exact⟨rfl,rfl⟩
 clear htk hn
 have LC:=Jz c w0
 have DC:=Ue c w0
 rw[hw] at LC
 rw[hg] at DC
 have hex:(⟨text.toArray⟩:ByteArray).extract k text.length=⟨(text.drop k).toArray⟩:=by
  apply ByteArray.ext
  simp only[ByteArray.data_extract,List.extract_toArray,List.extract_eq_take_drop]
  rw[List.take_of_length_le (by rw[List.length_drop];omega)]
 have HEX:=hid hex
 have hkl:(k:Int)≤(text.length:Int):=by omega
 have PC:=fun(x:List UInt8) w=>Tryz.strings_HasPrefix ((⟨text.toArray⟩:ByteArray).extract k text.length) ⟨x.toArray⟩ w
 simp only[show ∀ x:List UInt8,Lib.hasPrefix ((⟨text.toArray⟩:ByteArray).extract k text.length).data.toList (⟨x.toArray⟩:ByteArray).data.toList=x.isPrefixOf (text.drop k) from fun x=>by rw[hex];rfl] at PC
 obtain⟨ad,cap,hcell,hR,hsp⟩:=hSig
 have NNA:=hS.rdAd hbm hR (by decide)
 clear hex hc hw hg
 go_enter Tryz.func74,Tryz.ntmps74
 (have tok_B4:True:=trivial;go_wp2_with (first|(have tokk:=tok_B4;(clear tokk tok_B4);((with_reducible apply yk hS);exact ya;exact z49;clear hS;intro B4 w hS;(try simp only[qA])))|(go_at_call 90;refine (LC _ _ hS).mono ?_;clear hS;rintro e w ⟨rfl,hS⟩)|(go_at_call 82;refine (DC _ _ hS).mono ?_;clear hS;rintro e w ⟨rfl,hS⟩)|((with_reducible apply KN hS);exact ya;rfl;(((repeat (with_reducible apply yd)));(try assumption));assumption;decide +kernel;(try simp only[qA]))))
 go_loopw [51] (fun i wr=>∃ j:Nat,i=.int .i64 j∧j≤11∧Hid (∀ i y,i < j→signs11[i]?=some y→y.1.isPrefixOf (text.drop k)=false)∧Sat w0 wr (blk B4 49 [.int .i64 0,.int .i64 0,.int .i64 0,.int .i64 0]::Hs)) (fun i _=>11 - (intOf i).toNat)
 case atStart=>exact⟨0,rfl,by omega,hid (fun i y h=>by omega),hS⟩
 case round =>
  clear hS
  obtain⟨j,rfl,hj,HN,hS⟩:=hrel
  by_cases hlj:j < 11
  ·obtain⟨x,hx⟩:∃ x,signs11[j]?=some x:=⟨_,List.getElem?_eq_getElem hlj⟩
   have hV:=sgV_at signs11 j x hx
   obtain⟨x1,x2,x3⟩:=gn x (List.mem_of_getElem? hx)
   have P1:=PC x.1
   cases hp:x.1.isPrefixOf (text.drop k) with
   | true =>
    rw[hp] at P1
    obtain⟨rfl,rfl⟩:=HT.out x (sign_at _ j x hx HN.out hp)
    have HX:=hid x1
    clear HN hp hx x1 HT HU
    (have tok_B5:True:=trivial;go_wp2_with ((first|(have tokk:=tok_B5;(clear tokk tok_B5);((with_reducible apply yk hS);exact ya;exact z162;clear hS;intro B5 w hS;(try simp only[qA])))|((with_reducible apply yn);exact ya;exact yb rfl;exact yb rfl;exact E161;(omega);(omega);(assumption);(simp only[qN];rfl))|((with_reducible apply yO hS);exact ya;exact yb rfl;assumption;(((repeat (with_reducible apply yd)));(try assumption));assumption;rfl;exact sz162;decide +kernel;decide)|((with_reducible apply yi hS);exact ya;exact yb rfl;exact yb rfl;exact ye;rfl;(focus (simp;done));exact Upd.hd;rfl;exact sz162;rfl;clear hS;intro w hS;(try simp only[yp,qS] at hS)));try simp only[qA]))
    go_wp2_with ((first|((with_reducible apply Cont.intro);(focus (apply Or.inr;apply (Sat.sb hS);(repeat (with_reducible exact Sb.refl));done));intro hR hC)|((first|((with_reducible apply dP 0 hC hR);(simp only[qL];rfl);decide +kernel;exact iQ;exact ya)|((with_reducible apply dP 1 hC hR);(simp only[qL];rfl);decide +kernel;exact iQ;exact ya)|((with_reducible apply dP 2 hC hR);(simp only[qL];rfl);decide +kernel;exact iQ;exact ya));(intro w;first|(go_simp;done)|(go_simp;rw[yo (by omega) (by omega)])|(go_simp;with_reducible rfl)|(go_simp;rfl));(clear hR hC;intro hR hC))|(((with_reducible apply dP 3 hC hR);(simp only[qL];rfl);decide +kernel;exact iQ;exact ya);(intro w;first|(exact yz rfl (by(exact yg)) (by assumption) (by with_reducible exact fo49_0))|(go_simp;done)|(go_simp;rw[yo (by omega) (by omega)])|(go_simp;with_reducible rfl)|(go_simp;rfl));(clear hR hC;intro hR hC))|(((with_reducible apply dR 4 hC hR);(simp only[qL];rfl);decide +kernel;exact iQ;exact ya);(intro w hS;(apply yj rfl (by(exact yb rfl)));first|exact yc (by decide +kernel) (hS.cell (by(exact ye)) rfl)|exact yc (by decide +kernel) ((hS.ownCell (by(repeat (with_reducible apply yd))) (by(rfl))).1)|exact yc (by decide +kernel) (Sat.rdCell2 (by assumption) hS (by((repeat (with_reducible apply yd)));try assumption) (by(rfl)))|exact yc (by decide +kernel) (hS.baseCell (by((repeat (with_reducible apply yd)));try assumption) (by assumption))|exact yc (by decide +kernel) (fzC (by assumption) hS (by((repeat (with_reducible apply yd)));try assumption))|exact yl hS (by assumption) (by((repeat (with_reducible apply yd)));try assumption) (by assumption) (by rfl) (by with_reducible exact sz49) (by decide +kernel) (by decide)|exact hS.loadWhole (by(repeat (with_reducible apply yd))) (by kernel_rfl) (by kernel_rfl));(clear hR hC;intro hR hC))|((with_reducible apply yq (i:=5));(simp only[qL];rfl);decide +kernel;exact hC;clear hR hC)|((with_reducible apply ym);decide +kernel;clear hR hC)|(refine yt 14 6 hS (by kernel_rfl) [] rfl ?_;clear hS;intro w hS hR hC)|(go_at_call 93;refine (P1 _).mono ?_;rintro e w' ⟨rfl,rfl⟩));try simp only[qA])
    go_wp2_with ((first|((with_reducible apply Cont.intro);(focus (apply Or.inr;apply (Sat.sb hS);(repeat (with_reducible first|exact Sb.refl|(refine Sb.take (by(repeat (first|exact Rem.hd|apply Rem.tl));done) ?_)|apply Sb.skip));done));intro hR hC)|((first|((with_reducible apply dP 0 hC hR);(simp only[qL];rfl);decide +kernel;exact iQ;exact ya)|((with_reducible apply dP 4 hC hR);(simp only[qL];rfl);decide +kernel;exact iQ;exact ya));(intro w;first|(exact yz rfl (by(exact yg)) (by assumption) (by with_reducible exact fo49_0))|(go_simp;done)|(go_simp;rw[yo (by omega) (by omega)])|(go_simp;with_reducible rfl)|(go_simp;rfl));(clear hR hC;intro hR hC))|((first|((with_reducible apply dP 2 hC hR);(simp only[qL];rfl);decide +kernel;exact iQ;exact ya)|((with_reducible apply dP 3 hC hR);(simp only[qL];rfl);decide +kernel;exact iQ;exact ya)|((with_reducible apply dP 6 hC hR);(simp only[qL];rfl);decide +kernel;exact iQ;exact ya)|((with_reducible apply dP 9 hC hR);(simp only[qL];rfl);decide +kernel;exact iQ;exact ya));(intro w;first|(go_simp;done)|(go_simp;rw[yo (by omega) (by omega)])|(go_simp;with_reducible rfl)|(go_simp;rfl));(clear hR hC;intro hR hC))|(((with_reducible apply dP 7 hC hR);(simp only[qL];rfl);decide +kernel;exact iQ;exact ya);(intro w;first|(exact Yd rfl (by(exact yg)) (by(exact yg)) (by(omega)))|(go_simp;done)|(go_simp;rw[yo (by omega) (by omega)])|(go_simp;with_reducible rfl)|(go_simp;rfl));(clear hR hC;intro hR hC))|((first|((with_reducible apply dR 1 hC hR);(simp only[qL];rfl);decide +kernel;exact iQ;exact ya)|((with_reducible apply dR 5 hC hR);(simp only[qL];rfl);decide +kernel;exact iQ;exact ya));(intro w hS;(apply yj rfl (by(exact yb rfl)));first|exact yc (by decide +kernel) (hS.cell (by(exact ye)) rfl)|exact yc (by decide +kernel) ((hS.ownCell (by(repeat (with_reducible apply yd))) (by(rfl))).1)|exact yc (by decide +kernel) (Sat.rdCell2 (by assumption) hS (by((repeat (with_reducible apply yd)));try assumption) (by(rfl)))|exact yc (by decide +kernel) (hS.baseCell (by((repeat (with_reducible apply yd)));try assumption) (by assumption))|exact yc (by decide +kernel) (fzC (by assumption) hS (by((repeat (with_reducible apply yd)));try assumption))|exact yl hS (by assumption) (by((repeat (with_reducible apply yd)));try assumption) (by assumption) (by rfl) (by with_reducible exact sz49) (by decide +kernel) (by decide)|exact hS.loadWhole (by(repeat (with_reducible apply yd))) (by kernel_rfl) (by kernel_rfl));(clear hR hC;intro hR hC))|((with_reducible apply yq (i:=8));(simp only[qL];rfl);decide +kernel;exact hC;clear hR hC)|((with_reducible apply ym);decide +kernel;clear hR hC)|(refine KB (blk B4 49 [.int .i64 0,.int .i64 0,.int .i64 0,.int .i64 0]) 15 10 hS (by(repeat (with_reducible first|exact Rem.hd|apply Rem.tl));done) (by kernel_rfl) [] rfl ?_;clear hS;intro w hS hR hC)|((with_reducible apply yi hS);exact ya;exact yb rfl;exact yb rfl;(repeat (with_reducible first|exact ye|apply yd));rfl;(focus (simp;done));(repeat (with_reducible first|exact Upd.hd|apply Upd.tl));rfl;exact sz49;rfl;clear hS;intro w hS;(try simp only[yp,qS] at hS)));try simp only[qA])
    refine bodyPost_ret (Ys rfl rfl rfl (hS.loadWhole (b:=B4) (t:=49) (by(repeat (with_reducible first|exact ye|apply yd))) (by kernel_rfl) (by kernel_rfl))) rfl ?_
    refine ⟨?_,hS.sb (by(repeat (with_reducible first|exact Sb.refl|apply Sb.skip)))⟩
    unfold xg
    rw[HX.out]
    rfl
   | false =>
    rw[hp] at P1
    have HN2:Hid (∀ i y,i < j+1→signs11[i]?=some y→y.1.isPrefixOf (text.drop k)=false):=hid fun i y h h2=>by
     by_cases hij:i < j
     ·exact HN.out i y hij h2
     ·obtain rfl:i=j:=by omega
      rw[hx] at h2
      cases h2
      exact hp
    clear HN hp hx x1
    (have tok_B5:True:=trivial;go_wp2_with ((first|(have tokk:=tok_B5;(clear tokk tok_B5);((with_reducible apply yk hS);exact ya;exact z162;clear hS;intro B5 w hS;(try simp only[qA])))|((with_reducible apply yn);exact ya;exact yb rfl;exact yb rfl;exact E161;(omega);(omega);(assumption);(simp only[qN];rfl))|((with_reducible apply yO hS);exact ya;exact yb rfl;assumption;(((repeat (with_reducible apply yd)));(try assumption));assumption;rfl;exact sz162;decide +kernel;decide)|((with_reducible apply yi hS);exact ya;exact yb rfl;exact yb rfl;exact ye;rfl;(focus (simp;done));exact Upd.hd;rfl;exact sz162;rfl;clear hS;intro w hS;(try simp only[yp,qS] at hS)));try simp only[qA]))
    go_wp2_with ((first|((with_reducible apply Cont.intro);(focus (apply Or.inr;apply (Sat.sb hS);(repeat (with_reducible exact Sb.refl));done));intro hR hC)|((first|((with_reducible apply dP 0 hC hR);(simp only[qL];rfl);decide +kernel;exact iQ;exact ya)|((with_reducible apply dP 1 hC hR);(simp only[qL];rfl);decide +kernel;exact iQ;exact ya)|((with_reducible apply dP 2 hC hR);(simp only[qL];rfl);decide +kernel;exact iQ;exact ya));(intro w;first|(go_simp;done)|(go_simp;rw[yo (by omega) (by omega)])|(go_simp;with_reducible rfl)|(go_simp;rfl));(clear hR hC;intro hR hC))|(((with_reducible apply dP 3 hC hR);(simp only[qL];rfl);decide +kernel;exact iQ;exact ya);(intro w;first|(exact yz rfl (by(exact yg)) (by assumption) (by with_reducible exact fo49_0))|(go_simp;done)|(go_simp;rw[yo (by omega) (by omega)])|(go_simp;with_reducible rfl)|(go_simp;rfl));(clear hR hC;intro hR hC))|(((with_reducible apply dR 4 hC hR);(simp only[qL];rfl);decide +kernel;exact iQ;exact ya);(intro w hS;(apply yj rfl (by(exact yb rfl)));first|exact yc (by decide +kernel) (hS.cell (by(exact ye)) rfl)|exact yc (by decide +kernel) ((hS.ownCell (by(repeat (with_reducible apply yd))) (by(rfl))).1)|exact yc (by decide +kernel) (Sat.rdCell2 (by assumption) hS (by((repeat (with_reducible apply yd)));try assumption) (by(rfl)))|exact yc (by decide +kernel) (hS.baseCell (by((repeat (with_reducible apply yd)));try assumption) (by assumption))|exact yc (by decide +kernel) (fzC (by assumption) hS (by((repeat (with_reducible apply yd)));try assumption))|exact yl hS (by assumption) (by((repeat (with_reducible apply yd)));try assumption) (by assumption) (by rfl) (by with_reducible exact sz49) (by decide +kernel) (by decide)|exact hS.loadWhole (by(repeat (with_reducible apply yd))) (by kernel_rfl) (by kernel_rfl));(clear hR hC;intro hR hC))|((with_reducible apply yq (i:=5));(simp only[qL];rfl);decide +kernel;exact hC;clear hR hC)|((with_reducible apply ym);decide +kernel;clear hR hC)|(refine yt 14 6 hS (by kernel_rfl) [] rfl ?_;clear hS;intro w hS hR hC)|(go_at_call 93;refine (P1 _).mono ?_;rintro e w' ⟨rfl,rfl⟩));try simp only[qA])
    go_roundw
    case rel=>exact⟨j+1,by go_num,by omega,HN2,hS.sb (by(repeat (with_reducible first|exact Sb.refl|(refine Sb.take (by(repeat (first|exact Rem.hd|apply Rem.tl));done) ?_)|apply Sb.skip)))⟩
    case measure=>simp[intOf];omega
  ·obtain rfl:j=11:=by omega
   have hsn:=sign_none _ HN.out
   have RC:=runesC w0
   have hd0:(Utf8.decode ((⟨text.toArray⟩:ByteArray).extract k text.length) 0).1=Yo (text.drop k):=by rw[HEX.out];rfl
   have hpos:0 < ((⟨text.toArray⟩:ByteArray).extract k text.length).size:=by rw[HEX.out,Gm,List.length_drop];omega
   rcases rune_case (text.drop k) with ⟨i,s,f1,f2,f3,f4⟩|⟨f1,f2⟩
   ·rw[← hsn] at f2
    obtain⟨rfl,rfl⟩:=HT.out s f2
    have RL:=fun w=>Tryz.utf8_RuneLen (Yo (text.drop k):Int) w
    simp only[f3] at RL
    rw[← hd0] at f1
    simp only[← hd0] at RL
    have HF:=hid f1
    clear f1 f2 f3 hsn HN HT HU hd0
    go_wp2_with ((with_reducible apply xl hS);exact ya;exact yb rfl;exact Tryz.underlying9;clear hS;intro B7 w hS;(try simp only[qA]))
    go_loopw [13] (fun i wr=>Sat w0 wr (pt B7 (.stringIter ((⟨text.toArray⟩:ByteArray).extract k text.length) 0)::blk B4 49 [.int .i64 0,.int .i64 0,.int .i64 0,.int .i64 0]::Hs)) (fun _ _=>0)
    case atStart=>exact hS
    case round =>
    clear hS
    have hS:=hrel
    clear hrel
    (have tok_B5:True:=trivial;go_wp2_with ((first|(have tokk:=tok_B5;(clear tokk tok_B5);((with_reducible apply yk hS);exact ya;exact z49;clear hS;intro B5 w hS;(try simp only[qA])))|((with_reducible apply XH hS);exact ya;exact yb rfl;exact ye;(assumption);exact Upd.hd;clear hS;intro w hS)|(go_at_call 94;refine (RC _ _ hS).mono ?_;clear hS;rintro e w ⟨mb,rfl,hS⟩)|((with_reducible apply YX hS);(case hw=>(with_reducible exact ya));(case hm=>(exact yb rfl));(case hx=>(exact yb rfl));(case K0=>exact KR);(case hmem=>(((exact ye));(try assumption)));(case hf=>exact HF.out);(case hz=>exact KL);(case hv=>(simp only[if_true,if_false,Bool.false_eq_true,Option.map_some,Option.map_none,Option.getD_some,Option.getD_none,Option.isSome_some,Option.isSome_none];rfl)))|((with_reducible apply yi hS);exact ya;exact yb rfl;exact yb rfl;exact ye;rfl;(focus (simp;done));exact Upd.hd;rfl;exact sz49;rfl;clear hS;intro w hS;(try simp only[yp,qS] at hS)));try simp only[qA]))
    go_wp2_with ((first|((with_reducible apply Cont.intro);(focus (apply Or.inr;apply (Sat.sb hS);(repeat (with_reducible first|exact Sb.refl|(refine Sb.take (by(repeat (first|exact Rem.hd|apply Rem.tl));done) ?_)|apply Sb.skip));done));intro hR hC)|((first|((with_reducible apply dP 1 hC hR);(simp only[qL];rfl);decide +kernel;exact iQ;exact ya)|((with_reducible apply dP 2 hC hR);(simp only[qL];rfl);decide +kernel;exact iQ;exact ya)|((with_reducible apply dP 6 hC hR);(simp only[qL];rfl);decide +kernel;exact iQ;exact ya));(intro w;first|(go_simp;done)|(go_simp;rw[yo (by omega) (by omega)])|(go_simp;with_reducible rfl)|(go_simp;rfl));(clear hR hC;intro hR hC))|(((with_reducible apply dP 4 hC hR);(simp only[qL];rfl);decide +kernel;exact iQ;exact ya);(intro w;first|(exact Yd rfl (by(exact yg)) (by(exact yg)) (by(omega)))|(go_simp;done)|(go_simp;rw[yo (by omega) (by omega)])|(go_simp;with_reducible rfl)|(go_simp;rfl));(clear hR hC;intro hR hC))|(((with_reducible apply dR 0 hC hR);(simp only[qL];rfl);decide +kernel;exact iQ;exact ya);(intro w hS;(apply yj rfl (by(exact yb rfl)));first|exact yc (by decide +kernel) (hS.cell (by(repeat (with_reducible apply yd))) rfl)|exact yc (by decide +kernel) ((hS.ownCell (by(repeat (with_reducible apply yd))) (by(rfl))).1)|exact yc (by decide +kernel) (Sat.rdCell2 (by assumption) hS (by((repeat (with_reducible apply yd)));try assumption) (by(rfl)))|exact yc (by decide +kernel) (hS.baseCell (by((repeat (with_reducible apply yd)));try assumption) (by assumption))|exact yc (by decide +kernel) (fzC (by assumption) hS (by((repeat (with_reducible apply yd)));try assumption))|exact yl hS (by assumption) (by((repeat (with_reducible apply yd)));try assumption) (by assumption) (by rfl) (by with_reducible exact sz49) (by decide +kernel) (by decide)|exact hS.loadWhole (by(exact ye)) (by kernel_rfl) (by kernel_rfl));(clear hR hC;intro hR hC))|((with_reducible apply yq (i:=3));(simp only[qL];rfl);decide +kernel;exact hC;clear hR hC)|((with_reducible apply yq (i:=5));(simp only[qL];rfl);decide +kernel;exact hC;clear hR hC)|((with_reducible apply ym);decide +kernel;clear hR hC)|(refine KB (blk B4 49 [.int .i64 0,.int .i64 0,.int .i64 0,.int .i64 0]) 22 7 hS (by(repeat (with_reducible first|exact Rem.hd|apply Rem.tl));done) (by kernel_rfl) [5] rfl ?_;clear hS;intro w hS hR hC)|((with_reducible apply yi hS);exact ya;exact yb rfl;exact yb rfl;(repeat (with_reducible first|exact ye|apply yd));rfl;(focus (simp;done));(repeat (with_reducible first|exact Upd.hd|apply Upd.tl));rfl;exact sz49;rfl;clear hS;intro w hS;(try simp only[yp,qS] at hS))|(go_at_call 95;refine (RL _).mono ?_;rintro e w' ⟨rfl,rfl⟩));try simp only[qA])
    refine bodyPost_ret (Ys rfl rfl rfl (hS.loadWhole (b:=B4) (t:=49) (by(repeat (with_reducible first|exact ye|apply yd))) (by kernel_rfl) (by kernel_rfl))) rfl ?_
    exact⟨rfl,hS.sb (by(repeat (with_reducible first|exact Sb.refl|apply Sb.skip)))⟩
   ·rw[← hsn] at f2
    obtain⟨rfl,rfl⟩:=HU.out f2
    rw[← hd0] at f1
    have HF:=hid f1
    clear f1 f2 hsn HN HT HU hd0
    go_wp2_with ((with_reducible apply xl hS);exact ya;exact yb rfl;exact Tryz.underlying9;clear hS;intro B7 w hS;(try simp only[qA]))
    go_loopw [13] (fun i wr=>Sat w0 wr (pt B7 (.stringIter ((⟨text.toArray⟩:ByteArray).extract k text.length) 0)::blk B4 49 [.int .i64 0,.int .i64 0,.int .i64 0,.int .i64 0]::Hs)) (fun _ _=>0)
    case atStart=>exact hS
    case round =>
    clear hS
    have hS:=hrel
    clear hrel
    (have tok_B5:True:=trivial;go_wp2_with ((first|(have tokk:=tok_B5;(clear tokk tok_B5);((with_reducible apply yk hS);exact ya;exact z49;clear hS;intro B5 w hS;(try simp only[qA])))|((with_reducible apply XH hS);exact ya;exact yb rfl;exact ye;(assumption);exact Upd.hd;clear hS;intro w hS)|(go_at_call 94;refine (RC _ _ hS).mono ?_;clear hS;rintro e w ⟨mb,rfl,hS⟩)|((with_reducible apply YX hS);(case hw=>(with_reducible exact ya));(case hm=>(exact yb rfl));(case hx=>(exact yb rfl));(case K0=>exact KR);(case hmem=>(((exact ye));(try assumption)));(case hf=>exact HF.out);(case hz=>exact KL);(case hv=>(simp only[if_true,if_false,Bool.false_eq_true,Option.map_some,Option.map_none,Option.getD_some,Option.getD_none,Option.isSome_some,Option.isSome_none];rfl)))|((with_reducible apply yi hS);exact ya;exact yb rfl;exact yb rfl;(repeat (with_reducible first|exact ye|apply yd));rfl;(focus (simp;done));(repeat (with_reducible first|exact Upd.hd|apply Upd.tl));rfl;exact sz49;rfl;clear hS;intro w hS;(try simp only[yp,qS] at hS)));try simp only[qA]))
    refine bodyPost_ret (Ys rfl rfl rfl (hS.loadWhole (b:=B4) (t:=49) (by(repeat (with_reducible first|exact ye|apply yd))) (by kernel_rfl) (by kernel_rfl))) rfl ?_
    exact⟨rfl,hS.sb (by(repeat (with_reducible first|exact Sb.refl|apply Sb.skip)))⟩
end
section
set_option maxRecDepth 20000
open Go Go.RowKit Go.SL Go.ClauseP Go.LexP

theorem pieceC (text:List UInt8) (hl:text.length≤1048576) (k:Nat) (hk:k < text.length) (w0 w:World) (hSig:kY w0) (Hs:List HP) (hbm:YF w0∈Hs) (hS:Sat w0 w Hs) :
  Calls Tryz.prog 74 #[.string ⟨text.toArray⟩,.int .i64 k] w fun e w'=>e=.returned (.tuple #[xg (Yj (text.drop k)).1 0,.int .i64 ((k+(Yj (text.drop k)).2:Nat))])∧Sat w0 w' Hs:=by
 obtain⟨c,hc⟩:∃ c,text[k]?=some c:=⟨_,List.getElem?_eq_getElem hk⟩
 have hd:text.drop k=c::text.drop (k+1):=by
  rw[List.drop_eq_getElem_cons hk]
  congr 1
  simpa [List.getElem?_eq_getElem hk] using hc
 cases h1:kD c with
 | true =>
  have h:=pieceWord text hl k c hc h1 w0 w Hs hS
  have e:Yj (text.drop k)=(Kp ((text.drop k).takeWhile ldP),((text.drop k).takeWhile ldP).length):=by
   unfold Yj
   rw[hd]
   simp only[h1,if_true]
  rw[e]
  exact h
 | false =>
  cases h2:Yc c with
  | true =>
   have h:=pieceNum text hl k c hc h1 h2 w0 w Hs hS
   have e:Yj (text.drop k)=((if Yv 1 ((text.drop k).takeWhile Yc) < 0 then .bad 133 else .const (Yv 1 ((text.drop k).takeWhile Yc))),((text.drop k).takeWhile Yc).length):=by
    unfold Yj
    rw[hd]
    simp only[h1,h2,if_true,Bool.false_eq_true,if_false]
   rw[e]
   exact h
  | false =>
   have h:=pieceSign text hl k c hc h1 h2 w0 w hSig Hs hbm hS
   have e:Yj (text.drop k)=((match kC (text.drop k) with|some s=>s.2|none=>.bad 130),(match kC (text.drop k) with|some s=>s.1.length|none=>1)):=by
    unfold Yj
    rw[hd]
    simp only[h1,h2,Bool.false_eq_true,if_false]
    cases kC (c::text.drop (k+1)) <;> rfl
   rw[e]
   exact h
theorem signT_len (l:List UInt8) (s:List UInt8 × Tk) (h:kC l=some s):0 < s.1.length∧s.1.length≤l.length:=by
 unfold kC at h
 have h3:∀ s∈signs11++signs10,0 < s.1.length:=by decide
 have h5:=List.find?_some h
 have h4:s.1 <+: l:=List.isPrefixOf_iff_prefix.1 h5
 exact⟨h3 s (List.mem_of_find?_eq_some h),h4.length_le⟩
theorem Uy (l:List UInt8) (h:l≠[]):0 < (Yj l).2∧(Yj l).2≤l.length:=by
 cases l with
 | nil=>exact(h rfl).elim
 | cons c cs =>
  have hw:=fun p=>(List.takeWhile_sublist p (l:=c::cs)).length_le
  unfold Yj
  dsimp only
  split
  ·rename_i h1
   refine ⟨?_,hw _⟩
   rw[List.takeWhile_cons,show ldP c=true by simp[ldP,h1]]
   simp
  ·split
   ·rename_i h1 h2
    refine ⟨?_,hw _⟩
    rw[List.takeWhile_cons,h2]
    simp
   ·split
    ·rename_i s hs
     exact signT_len _ s hs
    ·simp
theorem je (text:List UInt8) (k:Nat) (hk:k≤text.length):k≤(yP text k).fin∧(yP text k).fin≤text.length∧(yP text k).at_≤text.length:=by
 obtain⟨h1,h2⟩:=UK text k hk
 unfold yP
 split
 ·exact⟨by dsimp only;omega,by dsimp only;omega,by dsimp only;omega⟩
 ·rename_i h
  have:=Uy (text.drop (Yf text k)) (by
   intro e
   have:=congrArg List.length e
   rw[List.length_drop] at this
   simp at this
   omega)
  rw[List.length_drop] at this
  exact⟨by dsimp only;omega,by dsimp only;omega,by dsimp only;omega⟩
set_option maxHeartbeats 1000000 in
theorem nextC (text:List UInt8) (hl:text.length≤1048576) (k:Nat) (hk:k≤text.length) (w0 w:World) (hSig:kY w0) (Hs:List HP) (hbm:YF w0∈Hs) (hS:Sat w0 w Hs) :
  Calls Tryz.prog 42 #[.string ⟨text.toArray⟩,.int .i64 k] w fun e w'=>e=.returned (.tuple #[xg (yP text k).tk (yP text k).at_,.int .i64 (yP text k).fin])∧Sat w0 w' Hs:=by
 have SC:=skipC text hl k hk w0
 obtain⟨_,hq⟩:=UK text k hk
 by_cases hend:Yf text k=text.length
 ·have e:yP text k=⟨.fin,text.length,text.length⟩:=by unfold yP;rw[if_pos hend]
  rw[e]
  simp only[hend] at SC
  clear e hq hend
  go_enter Tryz.func42,Tryz.ntmps42
  go_wp2_with ((first|((with_reducible apply yk hS);exact ya;exact z49;clear hS;intro NB w hS)|(go_at_call 73;refine (SC _ _ hS).mono ?_;clear hS;rintro e w ⟨rfl,hS⟩)|((with_reducible apply yi hS);exact ya;exact yb rfl;exact yb rfl;exact ye;rfl;(focus (simp;done));exact Upd.hd;rfl;exact sz49;rfl;clear hS;intro w hS;(try simp only[yp,qS] at hS)));try simp only[qA])
  refine bodyPost_ret (Ys rfl rfl rfl (hS.loadWhole (by(exact ye)) (by kernel_rfl) (by kernel_rfl))) rfl ?_
  exact⟨rfl,hS.sb (by(repeat (with_reducible first|exact Sb.refl|apply Sb.skip)))⟩
 ·have e:yP text k=⟨(Yj (text.drop (Yf text k))).1,Yf text k,Yf text k+(Yj (text.drop (Yf text k))).2⟩:=by unfold yP;rw[if_neg hend]
  have PC:=fun w Hs=>pieceC text hl (Yf text k) (by omega) w0 w hSig Hs
  rw[e]
  clear e
  generalize (Yj (text.drop (Yf text k))).1=tk at *
  generalize Yf text k+(Yj (text.drop (Yf text k))).2=n at *
  generalize Yf text k=q at *
  have hne:((q:Int) == (text.length:Int))=false:=by simp;omega
  go_enter Tryz.func42,Tryz.ntmps42
  (have tok_B4:True:=trivial;have tok_B6:True:=trivial;go_wp2_with ((first|(have tokk:=tok_B4;(clear tokk tok_B4);((with_reducible apply yk hS);exact ya;exact z49;clear hS;intro B4 w hS;(try simp only[qA])))|(have tokk:=tok_B6;(clear tokk tok_B6);((with_reducible apply yk hS);exact ya;exact z49;clear hS;intro B6 w hS;(try simp only[qA])))|(go_at_call 73;refine (SC _ _ hS).mono ?_;clear hS;rintro e w ⟨rfl,hS⟩)|(go_at_call 74;refine (PC _ _ (by((repeat (with_reducible apply yd)));try assumption) hS).mono ?_;clear hS;rintro e w ⟨rfl,hS⟩)|((with_reducible apply yG hS);exact ya;exact yb rfl;exact ye;exact sz49;decide +kernel;rfl;rfl)|((with_reducible apply yy hS);exact ya;exact yb rfl;exact yb rfl;(repeat (with_reducible first|exact ye|apply yd));rfl;(focus (simp;done));(repeat (with_reducible first|exact Upd.hd|apply Upd.tl));rfl;decide +kernel;clear hS;intro w hS;(try simp only[qS] at hS))|((with_reducible apply yi hS);exact ya;exact yb rfl;exact yb rfl;(repeat (with_reducible first|exact ye|apply yd));rfl;(focus (simp;done));(repeat (with_reducible first|exact Upd.hd|apply Upd.tl));rfl;exact sz49;rfl;clear hS;intro w hS;(try simp only[yp,qS] at hS)));try simp only[qA]))
  refine bodyPost_ret (Ys rfl rfl rfl (hS.loadWhole (b:=B4) (t:=49) (by(repeat (with_reducible first|exact ye|apply yd))) (by kernel_rfl) (by kernel_rfl))) rfl ?_
  exact⟨rfl,hS.sb (by(repeat (with_reducible first|exact Sb.refl|apply Sb.skip)))⟩
end
end Go.Proofs.YteopodbkhgcpmaaGreatDoor
namespace Go.SL
section
open Go Go.RowKit
open Go.WideElems (Fit rg)
open Go.Maps (Keyed)
open Go.ChangeShapes Go.WideShapes Go.MapKept

section
variable {P:Program} {ops:Array Oper} {Q:Exit→Act→World→Prop} {rest:List Oper} {a:Act} {w w0:World} {Hs:List HP} {k e:TypeId} {R:Value→Option (DataW Unit × List MemPlace)} {b n:Nat} {D:DataW Unit}

def mp (P:Program) (k:TypeId) (R:Value→Option (DataW Unit × List MemPlace)) (b n:Nat) (D:DataW Unit):HP:=fun h =>
 ∃ es clock,pt b (.map es clock) h∧Fit P k R es clock∧es.size≤n∧D=.map ((es.toList.map (rg P k R)).foldr DataW.insert [])
theorem Sat.mapOwns (hS:Sat w0 w Hs) (hm:mp P k R b n D∈Hs):w.ownsMap P k R b n D:=by
 obtain⟨h,⟨es,clock,hp,F,hs,hD⟩,hw⟩:=hS.get hm
 exact⟨es,clock,hw b _ (by rw[hp b];simp),F,hs,hD⟩
theorem Sat.mapTurn {w':World} {n':Nat} {D':DataW Unit} {Hs':List HP} (hS:Sat w0 w Hs) (u:Upd Hs (mp P k R b n D) (mp P k R b n' D') Hs') (ho:w'.ownsMap P k R b n' D') (hg:w.grownBy w' (some b)):Sat w0 w' Hs':=by
 refine hS.stepU u hg.os hg.tape hg.output hg.size fun g hA hw=>?_
 obtain⟨es,clock,hp,_⟩:=hA
 obtain⟨es',clock',hb',F',hs',hD'⟩:=ho
 refine ⟨fun c=>if c=b then some (.map es' clock') else none,⟨es',clock',fun c=>rfl,F',hs',hD'⟩,fun c o hc=>?_,fun c hc=>.inl ?_,fun c hlt hcn=>?_⟩
 ·by_cases hcb:c=b
  ·simp[hcb] at hc;subst hc;rw[hcb];exact hb'
  ·simp[hcb] at hc
 ·by_cases hcb:c=b
  ·rw[hp c,if_pos hcb];simp
  ·simp[hcb] at hc
 ·by_cases hcb:c=b
  ·rw[hp c,if_pos hcb] at hcn;cases hcn
  ·exact hg.block c hlt (fun he=>hcb (by cases he;rfl))
theorem UG {o:Oper} {t:TypeId} (ho:o.op=.makeMap t none) {ρ:Operand→Value}:(execOp ρ o).run P w=.ok (.value (.map (some w.heap.size))) (w.alloc (.map #[] 0)):=by
 simp[execOp,ho,Instr.makeMap,newObj,Sem.run]
theorem XG (P':Program) (k:TypeId) (R:Value→Option (DataW Unit × List MemPlace)) {dst:Option Tmp} {t:TypeId} {ty:TypeId} {pos:String} {after:Array Edge} {gd:Option (Nat × Bool)} (hS:Sat w0 w Hs)
  (hw:Region.wanted ⟨dst,.makeMap t none,ty,pos,after,gd⟩ (yielded ops a.tmps)=true)
  (K:∀ b w',Sat w0 w' (mp P' k R b 0 (.map [])::Hs)→wpList P ops Q rest (a.put dst (.map (some b))) w'):wpList P ops Q (⟨dst,.makeMap t none,ty,pos,after,gd⟩::rest) a w:=by
 refine yW hw (UG rfl) (K _ _ ((hS.alloc (.map #[] 0)).turn fun g hg=>?_))
 obtain⟨es,clock,hb,F,hs,hD⟩:=World.ownsMap_made w P' k R
 rw[(MapKept.heap_alloc w _).1] at hb
 have:es=#[]∧clock=0:=by
  injection hb with h1
  injection h1 with h2 h3
  exact⟨h2.symm,h3.symm⟩
 obtain⟨rfl,rfl⟩:=this
 exact⟨_,_,hg,F,hs,hD⟩
theorem xe {o:Oper} {t:TypeId} {m x y:Operand} (ho:o.op=.mapUpdate t m x y∨o.op=.insert t m x y) {ρ:Operand→Value} {w':World} {mv xv yv:Value} (hm:ρ m=mv) (hx:ρ x=xv) (hy:ρ y=yv)
  (hr:(Instr.mapUpdate t mv xv yv).run P w=.ok () w'):(execOp ρ o).run P w=.ok .skip w':=by
 subst hm;subst hx;subst hy
 rcases ho with ho|ho <;> simp[execOp,ho,hr]
theorem gK {o:Oper} {t:TypeId} {m x y:Operand} (hS:Sat w0 w Hs) (ho:o.op=.mapUpdate t m x y∨o.op=.insert t m x y)
  (hw:Region.wanted o (yielded ops a.tmps)=true) (hm:a.eval m=.map (some b)) {key val:Value} (hx:a.eval x=key) (hy:a.eval y=val) (ht:P.underlying t=some (.map k e)) (K0:Keyed P k) (hmem:mp P k R b n D∈Hs) {kl:Lit} (hkey:keyOf P k key=some kl)
  {d:DataW Unit} {ps:List MemPlace} (hv:R val=some (d,ps)) (hn:n < maxLen) {D':DataW Unit} (hD:D.put kl d=D') {Hs':List HP} (u:Upd Hs (mp P k R b n D) (mp P k R b (n+1) D') Hs')
  (K:∀ w',Sat w0 w' Hs'→wpList P ops Q rest (a.put o.dst undef) w'):wpList P ops Q (o::rest) a w:=by
 subst hD
 obtain⟨w',hr,ho',hg⟩:=(hS.mapOwns hmem).update K0 ht hn hkey hv
 exact KY hw (xe ho hm hx hy hr) (K w' (hS.mapTurn u ho' hg))
theorem xd {o:Oper} {t:TypeId} {m x:Operand} {ok:Bool} (ho:o.op=.lookup t m x ok) {ρ:Operand→Value} {mv xv v:Value} (hm:ρ m=mv) (hx:ρ x=xv) (hr:(Instr.lookup t mv xv ok).run P w=.ok v w) :
  (execOp ρ o).run P w=.ok (.value v) w:=by
 subst hm;subst hx
 simp[execOp,ho,hr]
theorem gJ {dst:Option Tmp} {t:TypeId} {m x:Operand} {ty:TypeId} {pos:String} {after:Array Edge} {gd:Option (Nat × Bool)} (hS:Sat w0 w Hs)
  (hw:Region.wanted ⟨dst,.lookup t m x false,ty,pos,after,gd⟩ (yielded ops a.tmps)=true) (hm:a.eval m=.map (some b)) {key:Value} (hx:a.eval x=key) (ht:P.underlying t=some (.map k e)) (K0:Keyed P k) (hmem:mp P k R b n D∈Hs) {kl:Lit} (hkey:keyOf P k key=some kl)
  {z:Value} (hz:∀ w,(zeroValue e).run P w=.ok z w) {zd:DataW Unit} {zp:List MemPlace} (hzd:R z=some (zd,zp))
  (K:∀ v ps,R v=some (D.atKey kl zd,ps)→wpList P ops Q rest (a.put dst v) w):wpList P ops Q (⟨dst,.lookup t m x false,ty,pos,after,gd⟩::rest) a w:=by
 obtain⟨v,ps,hr,hv⟩:=(hS.mapOwns hmem).lookup K0 ht (hz w) hzd hkey
 exact yW hw (xd rfl hm hx hr) (K v ps hv)
end
end
end Go.SL
namespace Go.Proofs.YteopodbkhgcpmaaGreatDoor
section
set_option maxRecDepth 20000
open Go Go.RowKit Go.SL

def ke (op:Int):Int:=if op=6 then 5 else if op=7 then 3 else if op=8 then 4 else if op=9 then 2 else if op=10 then 1 else 0
def tightD:DataW Unit:=.map [(.int .i64 6,.lit (.int .i64 5)),(.int .i64 7,.lit (.int .i64 3)),(.int .i64 8,.lit (.int .i64 4)),(.int .i64 9,.lit (.int .i64 2)),(.int .i64 10,.lit (.int .i64 1))]
theorem tightD_at (op:Int):tightD.atKey (.int .i64 op) (.lit (.int .i64 0))=.lit (.int .i64 (ke op)):=by
 by_cases h6:op=6
 ·subst h6;rfl
 by_cases h7:op=7
 ·subst h7;rfl
 by_cases h8:op=8
 ·subst h8;rfl
 by_cases h9:op=9
 ·subst h9;rfl
 by_cases h10:op=10
 ·subst h10;rfl
 ·have e:∀ c:Int,op≠c→Lit.sameKey (.int .i64 c) (.int .i64 op)=false:=fun c hc=>by simp[Lit.sameKey,hc,Ne.symm hc];first|done|omega
  simp[tightD,DataW.atKey,ke,h6,h7,h8,h9,h10,e 6 h6,e 7 h7,e 8 h8,e 9 h9,e 10 h10]
theorem zeroInt (w:World):(zeroValue 3).run Tryz.prog w=.ok (.int .i64 0) w:=by
 obtain⟨i,hi,hz⟩:∃ i,Tryz.prog.info? 3=some i∧i.zero=some (.int .i64 0):=by
  have h:(Tryz.prog.info? 3).bind (·.zero)=some (.int .i64 0):=by kernel_rfl
  cases hi:Tryz.prog.info? 3 with
  | none=>rw[hi] at h;cases h
  | some i=>rw[hi] at h;exact⟨i,rfl,h⟩
 simp[zeroValue,typeInfo,hi,hz]
theorem tight (op:Int) (h0:-9223372036854775808≤op) (h1:op≤9223372036854775807) (w0 w:World) (Hs:List HP) (hS:Sat w0 w Hs) :
  Calls Tryz.prog 103 #[.int .i64 op] w fun e w'=>e=.returned (.int .i64 (ke op))∧Sat w0 w' Hs:=by
 have hwf:(Lit.int .i64 op).wf=true:=by simp[Lit.wf,IntKind.min,IntKind.max,IntKind.signed,IntKind.bits];omega
 go_enter Tryz.func103,Tryz.ntmps103
 go_wp2_with ((first|((with_reducible apply (XG Tryz.prog 3 (plainElem Tryz.prog 3) hS));rfl;clear hS;intro MB w hS)|((with_reducible apply gK hS);exact Or.inr rfl;exact ya;exact yb rfl;exact yg;exact yg;exact Tryz.underlying184;exact(Maps.int_keyed Tryz.underlying3);exact ye;exact(Maps.keyOf_int_mk Tryz.underlying3 (by decide));exact(plainElem_int Tryz.underlying3 (by decide));(unfold maxLen;omega);rfl;exact Upd.hd;clear hS;intro w hS)|((with_reducible apply gJ hS);exact ya;exact yb rfl;exact yb rfl;exact Tryz.underlying184;exact(Maps.int_keyed Tryz.underlying3);exact ye;exact(Maps.keyOf_int_mk Tryz.underlying3 hwf);exact zeroInt;exact(plainElem_int Tryz.underlying3 (by decide));intro LV LP hlk));try simp only[qA])
 go_ret
 obtain⟨c,rfl,hc,_⟩:=plainElem_int_inv Tryz.underlying3 hlk
 have hd:=tightD_at op
 simp only[Prod.mk.injEq] at hc
 have hc1:tightD.atKey (.int .i64 op) (.lit (.int .i64 0))=.lit (.int .i64 c):=hc.1
 rw[hd] at hc1
 have:ke op=c:=by simpa using hc1
 exact⟨by rw[this];rfl,hS.drop⟩
end
end Go.Proofs.YteopodbkhgcpmaaGreatDoor
namespace Go.SL
section
open Go Go.RowKit

abbrev Hp:=Nat→Option Obj
def fz (H:Hp):HP:=fun h=>∀ b,h b=H b
def Ext (H H':Hp):Prop:=∀ b o,H b=some o→H' b=some o
theorem Ext.refl (H:Hp):Ext H H:=fun _ _ h=>h
theorem Ext.trans {H H' H'':Hp} (h:Ext H H') (h':Ext H' H''):Ext H H'':=fun b o hb=>h' b o (h b o hb)
def celH (H:Hp) (b off:Nat):Option Value:=match H b with|some (.cells cs _ _)=>cs[off]?|_=>none
theorem celH.ext {H H':Hp} (h:Ext H H') {b off:Nat} {v:Value} (hv:celH H b off=some v):celH H' b off=some v:=by
 unfold celH at *
 cases hb:H b with
 | none=>rw[hb] at hv;cases hv
 | some o=>rw[hb] at hv;rw[h b o hb];exact hv

section
variable {P:Program} {ops:Array Oper} {Q:Exit→Act→World→Prop} {rest:List Oper} {a:Act} {w w0:World} {Hs R:List HP} {H:Hp}
theorem Sat.fzCell (hS:Sat w0 w Hs) (hm:fz H∈Hs) {b off:Nat} {v:Value} (hv:celH H b off=some v):w.cell? ⟨b,off,none⟩=some v:=by
 obtain⟨h,hA,hw⟩:=hS.get hm
 unfold celH at hv
 cases hb:H b with
 | none=>rw[hb] at hv;cases hv
 | some o =>
  rw[hb] at hv
  have:=hw b o (by rw[hA b];exact hb)
  unfold World.cell?
  rw[this]
  cases o <;> simp_all
theorem Sat.fzBlk {b e:Nat} {cs:List Value} (hS:Sat w0 w (blk b e cs::fz H::R)):∃ H',Ext H H'∧H' b=some (.cells cs.toArray e (0,0))∧Sat w0 w (fz H'::R):=by
 refine ⟨fun c=>if c=b then some (.cells cs.toArray e (0,0)) else H c,?_,by simp,?_⟩
 ·obtain⟨h,⟨g,k,d,e1,hA,g2,k2,d2,e2,hF,_⟩,hw⟩:=hS.heap
  intro c o hc
  by_cases hcb:c=b
  ·subst hcb
   have h1:g c=some (.cells cs.toArray e (0,0)):=by rw[hA c];simp
   rcases d c with h2|h2
   ·rw[h1] at h2;cases h2
   ·rw[e2 c,hF c,hc] at h2;simp at h2
  ·simp[hcb,hc]
 ·refine (hS.join).turn fun h ⟨g,k,d,e1,hA,hF⟩ c=>?_
  rw[e1 c]
  have h1:=hA c
  by_cases hcb:c=b
  ·rw[h1];simp[hcb]
  ·rw[h1];simp[hcb,hF c]
theorem Sat.fzNil (hS:Sat w0 w R):Sat w0 w (fz (fun _=>none)::R):=hS.emp fun _=>rfl
theorem Sat.fzOwn {e size:Nat} {ad:Option Addr} {n cap:Nat} {xs:List Value} (hS:Sat w0 w (own e size ad n cap xs::fz H::R)) :
  ∃ H',Ext H H'∧(∀ (j:Nat) v,xs[j]?=some v→∃ g,ad=some ⟨g,0,none⟩∧celH H' g j=some v)∧Sat w0 w (fz H'::R):=by
 obtain⟨h,⟨g,k,d,e1,⟨hl,hA⟩,hK⟩,hw⟩:=hS.heap
 rcases hA with ⟨rfl,rfl,rfl,h0⟩|⟨b,cur,rfl,hnc,hcm,hcl,hcur,hblk⟩
 ·refine ⟨H,Ext.refl _,fun j v hv=>?_,hS.drop⟩
  have:xs=[]:=by simpa using hl
  subst this
  simp at hv
 ·have hS2:Sat w0 w (blk b e cur::fz H::R):=⟨hS.os,hS.tape,hS.output,hS.size,h,⟨g,k,d,e1,hblk,hK⟩,hw⟩
  obtain⟨H',x1,x2,x3⟩:=hS2.fzBlk
  refine ⟨H',x1,fun j v hv=>⟨b,rfl,?_⟩,x3⟩
  simp only[celH,x2]
  rw[← hcur,List.getElem?_take] at hv
  split at hv
  ·simpa using hv
  ·cases hv
theorem Rd.of_fz {b off:Nat} {cs:List Value} (h:∀ (j:Nat) v,cs[j]?=some v→celH H b (off+j)=some v):Rd (fz H) (some ⟨b,off,none⟩) cs:=by
 intro w hp hA hw j v hv
 refine ⟨⟨_,rfl,rfl⟩,?_⟩
 have h1:=h j v hv
 simp only[adr,Option.getD_some,KM]
 unfold celH at h1
 cases hb:H b with
 | none=>rw[hb] at h1;cases h1
 | some o =>
  rw[hb] at h1
  have:=hw b o (by rw[hA b];exact hb)
  unfold World.cell?
  simp only[this]
  cases o <;> simp_all
theorem YO {dst:Option Tmp} {t:TypeId} {x:Operand} {ty:TypeId} {pos:String} {after:Array Edge} {gd:Option (Nat × Bool)} (hS:Sat w0 w Hs)
  (hw:Region.wanted ⟨dst,.load t x,ty,pos,after,gd⟩ (yielded ops a.tmps)=true) {b off:Nat} (hx:a.eval x=.pointer (some ⟨b,off,none⟩)) {H:Hp} {v:Value} (hv:celH H b off=some v) (hm:fz H∈Hs) (ht:kW P t=true)
  (K:wpList P ops Q rest (a.put dst v) w):wpList P ops Q (⟨dst,.load t x,ty,pos,after,gd⟩::rest) a w :=
 yW hw (yj rfl hx (yc ht (hS.fzCell hm hv))) K
end
end
end Go.SL
namespace Go.Proofs.YteopodbkhgcpmaaGreatDoor
section
set_option maxRecDepth 20000
open Go Go.RowKit Go.SL

def Up (P:Program) (T:TypeId) (name:String):Option (List (TypeId × Nat × Bool) × Option (FuncId × Bool)) :=
 (P.info? T).bind fun i=>(i.methods.find? (·.name == name)).map fun m=>(m.path.toList.map fun s=>(s.struct,s.index,s.deref),m.func)
theorem Xp {P:Program} {w:World} {T S ft:TypeId} {name:String} {f:FuncId} {gs:Array Field} (h:Up P T name=some ([(S,0,true)],some (f,false))) (hf:Yi P S 0=some 0)
  (hft:∃ fs x,P.underlying S=some (.struct fs)∧fs[0]?=some x∧x.type=ft) (hd:P.underlying ft=some (.struct gs)) {b:Nat} {vs:List Value} (hn:Yp P ft=some vs.length) (ha:Ju P ft=true)
  (hc:∀ (j:Nat) v,vs[j]?=some v→w.cell? ⟨b,j,none⟩=some v) (n:Nat) :
  (method (n+1) T (.pointer (some ⟨b,0,none⟩)) name).run P w=.ok (f,.agg vs.toArray) w:=by
 unfold Up at h
 cases hi:P.info? T with
 | none=>rw[hi] at h;cases h
 | some i =>
  rw[hi] at h
  simp only[Option.bind_some] at h
  cases hm:i.methods.find? (·.name == name) with
  | none=>rw[hm] at h;cases h
  | some m =>
   rw[hm] at h
   simp only[Option.map_some,Option.some.injEq,Prod.mk.injEq] at h
   obtain⟨hp,hfn⟩:=h
   obtain⟨s,hs,e1,e2,e3⟩:∃ s:FieldStep,m.path.toList=[s]∧s.struct=S∧s.index=0∧s.deref=true:=by
    cases hpl:m.path.toList with
    | nil=>rw[hpl] at hp;simp at hp
    | cons s r =>
     cases r with
     | nil=>rw[hpl] at hp;simp at hp;exact⟨s,rfl,hp.1,hp.2.1,hp.2.2⟩
     | cons s2 r2=>rw[hpl] at hp;simp at hp
   obtain⟨fs,x,hu,hx,hxt⟩:=hft
   have hl:(loadVar ft ⟨b,0,none⟩).run P w=.ok (.agg vs.toArray) w:=kU ha hn fun j v hj=>by rw[KM,Nat.zero_add];exact hc j v hj
   unfold Yi at hf
   rw[hu] at hf
   simp only[hx,Option.bind_some] at hf
   cases hix:P.info? x.type with
   | none=>rw[hix] at hf;cases hf
   | some ix =>
    rw[hix] at hf
    simp only[Option.bind_some] at hf
    split at hf
    ·cases hf
    ·rename_i hsz
     simp only[Option.some.injEq] at hf
     subst hxt
     simp[method,typeInfo,hi,hm,hs,follow,e1,e2,e3,run_underlying hu,hx,Place.get,asAddr,fieldPlace,sizeOf,hix,hsz,hf,hfn,receiverAt,run_underlying hd,Addr.add,hl]

theorem UF {P:Program} {w:World} {o:Oper} {x:Operand} {name:String} {ts:Array TypeId} (ho:o.op=.call { callee:=.invoke x name,args:=#[],argTypes:=ts }) {ρ:Operand→Value} {T:TypeId} {v recv:Value} (hx:ρ x=.iface T v) {f:FuncId} {fn:Func}
  (hm : ∀ n, (method (n + 1) T v name).run P w = .ok (f, recv) w) (hfn : P.funcs[f]? = some fn) (hname : (fn.name == "runtime.NumGoroutine") = false) (hbody : fn.body.isNone = false) : (execOp ρ o).run P w = .ok (.enter f #[recv]) w := by
 have hm':(method (P.types.size+Made.depth) T v name).run P w=.ok (f,recv) w:=by
  obtain⟨n,hn⟩:∃ n,P.types.size+Made.depth=n+1:=⟨P.types.size+Made.depth - 1,by unfold Made.depth;omega⟩
  rw[hn];exact hm n
 have hb:fn.body≠none:=fun h=>by rw[h] at hbody;simp at hbody
 have hnm : ¬ fn.name = "runtime.NumGoroutine" := by simpa using hname
 simp[execOp,ho,resolve,invoke,callMethod,hx,hm',callFunc,hfn,hnm,hb]
theorem XF {P:Program} {ops:Array Oper} {Q:Exit→Act→World→Prop} {rest:List Oper} {a:Act} {w w0:World} {Hs:List HP} {dst:Option Tmp} {x:Operand} {name:String} {ts:Array TypeId} {ty:TypeId} {pos:String} {after:Array Edge} {gd:Option (Nat × Bool)}
  (hw:Region.wanted ⟨dst,.call { callee:=.invoke x name,args:=#[],argTypes:=ts },ty,pos,after,gd⟩ (yielded ops a.tmps)=true) {T:TypeId} {v recv:Value} (hx:a.eval x=.iface T v) {f:FuncId} {fn:Func}
  (hm : ∀ n, (method (n + 1) T v name).run P w = .ok (f, recv) w) (hfn : P.funcs[f]? = some fn) (hname : (fn.name == "runtime.NumGoroutine") = false) (hbody : fn.body.isNone = false) {r : Value}
  (hC:Calls P f #[recv] w fun e w'=>e=.returned r∧Sat w0 w' Hs) (K:∀ w',Sat w0 w' Hs→wpList P ops Q rest (a.put dst r) w'):wpList P ops Q (⟨dst,.call { callee:=.invoke x name,args:=#[],argTypes:=ts },ty,pos,after,gd⟩::rest) a w:=by
 have hr:=UF (P:=P) (w:=w) (o:=⟨dst,.call { callee:=.invoke x name,args:=#[],argTypes:=ts },ty,pos,after,gd⟩) rfl hx hm hfn hname hbody
 simp only[wpList,hw,if_true,Oper.wp,hr,Oper.upon]
 exact .inl (hC.mono fun e w' ⟨he,hS'⟩=>by subst he;exact K w' hS')

theorem lookShape (l i:Int) (w0 w:World) (Hs:List HP) (hS:Sat w0 w Hs):Calls Tryz.prog 145 #[.agg #[.int .i64 l,.int .i64 i]] w fun e w'=>e=.returned (.agg #[.int .i64 l,.int .i64 i])∧Sat w0 w' Hs:=by
 go_enter Tryz.func145,Tryz.ntmps145
 go_wp2_with ((first|((with_reducible apply yH hS);exact ya;exact yb rfl;exact yw;clear hS;intro NB1 w hS)|((with_reducible apply yk hS);exact ya;exact z106;clear hS;intro NB2 w hS)|((with_reducible apply yG hS);exact ya;exact yb rfl;(repeat (with_reducible first|exact ye|apply yd));exact sz106;decide +kernel;rfl;rfl)|((with_reducible apply yi hS);exact ya;exact yb rfl;exact yb rfl;exact ye;rfl;(focus (simp;done));exact Upd.hd;rfl;exact sz106;rfl;clear hS;intro w hS;(try simp only[yp,qS] at hS)));try simp only[qA])
 refine bodyPost_ret (yI rfl rfl (hS.loadWhole (by(exact ye)) (by kernel_rfl) (by kernel_rfl))) rfl ?_
 exact⟨rfl,hS.drop.drop⟩
end
section
set_option maxRecDepth 20000
open Go Go.RowKit Go.SL

inductive T
 | cst (n:Int)|var (v:Int)|neg (a:T)|qu (op v:Int) (a:T)|bin (op:Int) (a b:T)|ite (c a b:T)
def kO (op side:Int) (x:T) (last:Bool):Bool :=
 match x with
 | .qu _ _ _=>!last
 | .bin o _ _=>if op=3 then true else if op=9∧side=0 then decide (ke o≤ke op) else if op=9 then decide (ke o < ke op) else if side=0 then decide (ke o < ke op) else decide (ke o≤ke op)
 | _=>false
def cnt (op side:Int) (x:T) (last:Bool) (lk:Int × Int):Int:=if kO op side x last then 1+lk.1 else if last then lk.1 else lk.2
def look:T→Int × Int
 | .cst _=>(0,0)
 | .var _=>(0,0)
 | .neg a=>(1+cnt 3 0 a true (look a),1+cnt 3 0 a false (look a))
 | .qu _ _ a=>(1+(look a).1,1+(look a).1)
 | .bin op a b=>(max (cnt op 0 a false (look a)) (cnt op 1 b true (look b)),max (cnt op 0 a false (look a)) (cnt op 1 b false (look b)))
 | .ite c a b=>(1+max (max (look c).1 (look a).1) (look b).1,1+max (max (look c).1 (look a).1) (look b).1)
def size:T→Nat
 | .cst _=>1
 | .var _=>1
 | .neg a=>size a+1
 | .qu _ _ a=>size a+1
 | .bin _ a b=>size a+size b+1
 | .ite c a b=>size c+size a+size b+1
theorem KO {op side:Int} {x:T} {last:Bool} {lk:Int × Int} {n:Int} (h0:0≤lk.1) (h1:lk.1≤n) (h2:0≤lk.2) (h3:lk.2≤n):0≤cnt op side x last lk∧cnt op side x last lk≤n+1:=by
 unfold cnt;split
 ·omega
 ·split <;> omega
theorem Yy:∀ t:T,0≤(look t).1∧(look t).1≤2*size t∧0≤(look t).2∧(look t).2≤2*size t
 | .cst _=>by simp[look,size]
 | .var _=>by simp[look,size]
 | .neg a=>by
  have h:=Yy a
  have h1:=KO (op:=3) (side:=0) (x:=a) (last:=true) (lk:=look a) (n:=2*size a) h.1 h.2.1 h.2.2.1 h.2.2.2
  have h2:=KO (op:=3) (side:=0) (x:=a) (last:=false) (lk:=look a) (n:=2*size a) h.1 h.2.1 h.2.2.1 h.2.2.2
  simp only[look,size];omega
 | .qu _ _ a=>by have h:=Yy a;simp only[look,size];omega
 | .bin op a b=>by
  have h:=Yy a
  have h':=Yy b
  have h1:=KO (op:=op) (side:=0) (x:=a) (last:=false) (lk:=look a) (n:=2*size a) h.1 h.2.1 h.2.2.1 h.2.2.2
  have h2:=KO (op:=op) (side:=1) (x:=b) (last:=true) (lk:=look b) (n:=2*size b) h'.1 h'.2.1 h'.2.2.1 h'.2.2.2
  have h3:=KO (op:=op) (side:=1) (x:=b) (last:=false) (lk:=look b) (n:=2*size b) h'.1 h'.2.1 h'.2.2.1 h'.2.2.2
  simp only[look,size];omega
 | .ite c a b=>by have h:=Yy a;have h':=Yy b;have h'':=Yy c;simp only[look,size];omega

def At (H:Hp) (v:Value) (K S:TypeId) (cs:List Value):Prop:=∃ b,v=.iface K (.pointer (some ⟨b,0,none⟩))∧H b=some (.cells cs.toArray S (0,0))
theorem At.ext {H H':Hp} (h:Ext H H') {v:Value} {K S:TypeId} {cs:List Value} (ha:At H v K S cs):At H' v K S cs:=by
 obtain⟨b,h1,h2⟩:=ha;exact⟨b,h1,h _ _ h2⟩
def InT (H:Hp):T→Value→Prop
 | .cst n,v=>At H v 104 108 [.int .i64 0,.int .i64 0,.int .i64 n]
 | .var n,v=>At H v 109 111 [.int .i64 0,.int .i64 0,.int .i64 n]
 | .neg a,v=>∃ va,InT H a va∧At H v 112 114 [.int .i64 (look (.neg a)).1,.int .i64 (look (.neg a)).2,va]
 | .qu op n a,v=>∃ va,InT H a va∧At H v 115 117 [.int .i64 (look (.qu op n a)).1,.int .i64 (look (.qu op n a)).2,.int .i64 op,.int .i64 n,va]
 | .bin op a b,v=>∃ va vb,InT H a va∧InT H b vb∧At H v 118 120 [.int .i64 (look (.bin op a b)).1,.int .i64 (look (.bin op a b)).2,.int .i64 op,va,vb]
 | .ite c a b,v=>∃ vc va vb,InT H c vc∧InT H a va∧InT H b vb∧At H v 121 123 [.int .i64 (look (.ite c a b)).1,.int .i64 (look (.ite c a b)).2,vc,va,vb]
theorem InT.ext {H H':Hp} (h:Ext H H'):∀ {t:T} {v:Value},InT H t v→InT H' t v
 | .cst _,_,k=>At.ext h k
 | .var _,_,k=>At.ext h k
 | .neg _,_,⟨va,k,k'⟩=>⟨va,InT.ext h k,k'.ext h⟩
 | .qu _ _ _,_,⟨va,k,k'⟩=>⟨va,InT.ext h k,k'.ext h⟩
 | .bin _ _ _,_,⟨va,vb,k1,k2,k'⟩=>⟨va,vb,InT.ext h k1,InT.ext h k2,k'.ext h⟩
 | .ite _ _ _,_,⟨vc,va,vb,k1,k2,k3,k'⟩=>⟨vc,va,vb,InT.ext h k1,InT.ext h k2,InT.ext h k3,k'.ext h⟩

def gF (K S : TypeId) : Prop := Up Tryz.prog K "strata/formula.look" = some ([(S, 0, true)], some (145, false)) ∧ Yi Tryz.prog S 0 = some 0 ∧ ∃ fs x, Tryz.prog.underlying S = some (.struct fs) ∧ fs[0]? = some x ∧ x.type = 106
theorem kCst:gF 104 108:=⟨by kernel_rfl,by kernel_rfl,_,_,Tryz.underlying108,rfl,rfl⟩
theorem kVar:gF 109 111:=⟨by kernel_rfl,by kernel_rfl,_,_,Tryz.underlying111,rfl,rfl⟩
theorem kNeg:gF 112 114:=⟨by kernel_rfl,by kernel_rfl,_,_,Tryz.underlying114,rfl,rfl⟩
theorem kQu:gF 115 117:=⟨by kernel_rfl,by kernel_rfl,_,_,Tryz.underlying117,rfl,rfl⟩
theorem kBin:gF 118 120:=⟨by kernel_rfl,by kernel_rfl,_,_,Tryz.underlying120,rfl,rfl⟩
theorem kIte:gF 121 123:=⟨by kernel_rfl,by kernel_rfl,_,_,Tryz.underlying123,rfl,rfl⟩
theorem InT.head {H:Hp} {t:T} {v:Value} (h:InT H t v):∃ K S cs,gF K S∧At H v K S cs∧cs[0]?=some (.int .i64 (look t).1)∧cs[1]?=some (.int .i64 (look t).2):=by
 cases t with
 | cst n=>exact⟨_,_,_,kCst,h,rfl,rfl⟩
 | var n=>exact⟨_,_,_,kVar,h,rfl,rfl⟩
 | neg a=>obtain⟨_,_,h⟩:=h;exact⟨_,_,_,kNeg,h,rfl,rfl⟩
 | qu op n a=>obtain⟨_,_,h⟩:=h;exact⟨_,_,_,kQu,h,rfl,rfl⟩
 | bin op a b=>obtain⟨_,_,_,_,h⟩:=h;exact⟨_,_,_,kBin,h,rfl,rfl⟩
 | ite c a b=>obtain⟨_,_,_,_,_,_,h⟩:=h;exact⟨_,_,_,kIte,h,rfl,rfl⟩
theorem jE {ops:Array Oper} {Q:Exit→Act→World→Prop} {rest:List Oper} {a:Act} {w w0:World} {Hs:List HP} {dst:Option Tmp} {x:Operand} {ts:Array TypeId} {ty:TypeId} {pos:String} {after:Array Edge} {gd:Option (Nat × Bool)} (hS:Sat w0 w Hs)
  (hw : Region.wanted ⟨dst, .call { callee := .invoke x "strata/formula.look", args := #[], argTypes := ts }, ty, pos, after, gd⟩ (yielded ops a.tmps) = true) {v : Value} (hx : a.eval x = v) {H : Hp} {t : T} (hT : InT H t v) (hm : fz H ∈ Hs)
  (K:∀ w',Sat w0 w' Hs→wpList Tryz.prog ops Q rest (a.put dst (.agg #[.int .i64 (look t).1,.int .i64 (look t).2])) w') :
  wpList Tryz.prog ops Q (⟨dst, .call { callee := .invoke x "strata/formula.look", args := #[], argTypes := ts }, ty, pos, after, gd⟩ :: rest) a w := by
 obtain⟨Kd,S,cs,hk,⟨b,rfl,hb⟩,e0,e1⟩:=hT.head
 have c0:w.cell? ⟨b,0,none⟩=some (.int .i64 (look t).1):=hS.fzCell hm (by simpa [celH,hb] using e0)
 have c1:w.cell? ⟨b,1,none⟩=some (.int .i64 (look t).2):=hS.fzCell hm (by simpa [celH,hb] using e1)
 refine XF hw hx (recv:=.agg #[.int .i64 (look t).1,.int .i64 (look t).2]) (fun n=>Xp hk.1 hk.2.1 hk.2.2 Tryz.underlying106 (vs:=[.int .i64 (look t).1,.int .i64 (look t).2]) (by kernel_rfl) (by kernel_rfl) (fun j u hj=>?_) n)
  Tryz.func145 (by kernel_rfl) (by kernel_rfl) (lookShape _ _ w0 w Hs hS) K
 match j,hj with
 | 0,hj=>simp at hj;subst hj;exact c0
 | 1,hj=>simp at hj;subst hj;exact c1
end
section
set_option maxRecDepth 20000
open Go Go.RowKit Go.SL

def i64 (n:Int):Prop:=-9223372036854775808≤n∧n≤9223372036854775807
def Uu:T→Prop
 | .bin op _ _=>i64 op
 | _=>True
set_option maxHeartbeats 1000000 in
theorem xm (op side:Int) (hop:i64 op) (t:T) (ht:Uu t) (last:Bool) (v:Value) (H:Hp) (hT:InT H t v) (w0 w:World) (Hs:List HP) (hS:Sat w0 w Hs) (hm:fz H∈Hs) :
  Calls Tryz.prog 88 #[.int .i64 op,.int .i64 side,v,.bool last] w fun e w'=>e=.returned (.bool (kO op side t last))∧Sat w0 w' Hs:=by
 unfold i64 at hop
 cases t with
 | cst n =>
  obtain⟨b,rfl,hb⟩:=hT
  go_enter Tryz.func88,Tryz.ntmps88
  go_wp2_with ((with_reducible apply Yh);exact ya;exact yb rfl;(decide);(with_reducible first|exact Tryz.underlying115|exact Tryz.underlying118);kernel_rfl;(try simp only[qA]))
  go_ret
  exact⟨rfl,hS⟩
 | var n =>
  obtain⟨b,rfl,hb⟩:=hT
  go_enter Tryz.func88,Tryz.ntmps88
  go_wp2_with ((with_reducible apply Yh);exact ya;exact yb rfl;(decide);(with_reducible first|exact Tryz.underlying115|exact Tryz.underlying118);kernel_rfl;(try simp only[qA]))
  go_ret
  exact⟨rfl,hS⟩
 | neg n =>
  obtain⟨_,_,b,rfl,hb⟩:=hT
  go_enter Tryz.func88,Tryz.ntmps88
  go_wp2_with ((with_reducible apply Yh);exact ya;exact yb rfl;(decide);(with_reducible first|exact Tryz.underlying115|exact Tryz.underlying118);kernel_rfl;(try simp only[qA]))
  go_ret
  exact⟨rfl,hS⟩
 | ite _ _ _ =>
  obtain⟨_,_,_,_,_,_,b,rfl,hb⟩:=hT
  go_enter Tryz.func88,Tryz.ntmps88
  go_wp2_with ((with_reducible apply Yh);exact ya;exact yb rfl;(decide);(with_reducible first|exact Tryz.underlying115|exact Tryz.underlying118);kernel_rfl;(try simp only[qA]))
  go_ret
  exact⟨rfl,hS⟩
 | qu o n a =>
  obtain⟨_,_,b,rfl,hb⟩:=hT
  go_enter Tryz.func88,Tryz.ntmps88
  go_wp2_with ((with_reducible apply Ye);exact ya;exact yb rfl;exact Tryz.underlying115;(try simp only[qA]))
  go_ret
  exact⟨rfl,hS⟩
 | bin o x y =>
  obtain⟨va,vb,_,_,b,rfl,hb⟩:=hT
  have ho:i64 o:=ht
  unfold i64 at ho
  have c2:celH H b 2=some (.int .i64 o):=by simp[celH,hb]
  clear hb
  obtain⟨t1,ht1⟩:∃ t1,t1=ke o:=⟨_,rfl⟩
  obtain⟨t2,ht2⟩:∃ t2,t2=ke op:=⟨_,rfl⟩
  have TO:=tight o ho.1 ho.2
  have TP:=tight op hop.1 hop.2
  rw[← ht1] at TO
  rw[← ht2] at TP
  have hbp:kO op side (.bin o x y) last=if op=3 then true else if op=9∧side=0 then decide (t1≤t2) else if op=9 then decide (t1 < t2) else if side=0 then decide (t1 < t2) else decide (t1≤t2):=by simp only[kO,ht1,ht2]
  obtain⟨B0,hB0⟩:∃ B0,B0=kO op side (.bin o x y) last:=⟨_,rfl⟩
  rw[← hB0] at hbp ⊢
  have HB:=hid hbp
  clear hbp hB0 ht1 ht2
  go_enter Tryz.func88,Tryz.ntmps88
  go_wp2_with ((first|((with_reducible apply Ye);exact ya;exact yb rfl;(with_reducible exact Tryz.underlying118))|((with_reducible apply Yh);exact ya;exact yb rfl;(decide);exact Tryz.underlying115;kernel_rfl)|((with_reducible apply YO hS);exact ya;exact yb rfl;assumption;(((repeat (with_reducible apply yd)));(try assumption));decide +kernel)|(go_at_call 103;(first|with_reducible refine (TO _ _ _ hS).mono ?_|with_reducible refine (TP _ _ _ hS).mono ?_);clear hS;rintro e w ⟨rfl,hS⟩));try simp only[qA])
  all_goals (go_ret;refine ⟨?_,hS⟩;have hb:=HB.out;clear HB TO TP c2 hS hop ho ht hm;subst hb;simp_all)

theorem JU (op side:Int) (hop:i64 op) (t:T) (ht:Uu t) (hsz:size t≤1000000) (last:Bool) (v:Value) (H:Hp) (hT:InT H t v) (w0 w:World) (Hs:List HP) (hS:Sat w0 w Hs) (hm:fz H∈Hs) :
  Calls Tryz.prog 84 #[.int .i64 op,.int .i64 side,v,.bool last] w fun e w'=>e=.returned (.int .i64 (cnt op side t last (look t)))∧Sat w0 w' Hs:=by
 obtain⟨l1,l2,l3,l4⟩:=Yy t
 have BR:=xm op side hop t ht last v H hT
 have hc:cnt op side t last (look t)=if kO op side t last then 1+(look t).1 else if last then (look t).1 else (look t).2:=rfl
 rw[hc]
 clear hc
 generalize kO op side t last=b0 at *
 cases b0 <;> cases last
 all_goals
  simp only[if_true,if_false,Bool.false_eq_true]
  go_enter Tryz.func84,Tryz.ntmps84
  go_wp2_with ((first|(go_at_call 88;refine (BR _ _ _ hS hm).mono ?_;clear hS;rintro e w ⟨rfl,hS⟩)|((with_reducible apply jE hS);rfl;exact yb rfl;assumption;assumption;clear hS;intro w hS)|((with_reducible apply Kz);exact ya;exact yb rfl;(with_reducible first|exact Jx|exact fc106_1);rfl));try simp only[qA])
  go_ret
  exact⟨rfl,hS⟩
end
end Go.Proofs.YteopodbkhgcpmaaGreatDoor
