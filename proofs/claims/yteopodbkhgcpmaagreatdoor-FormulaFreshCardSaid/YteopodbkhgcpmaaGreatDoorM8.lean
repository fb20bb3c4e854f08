/- A part of the proof: Rx2 Act2 FormT. -/
import Derived.Test.YteopodbkhgcpmaaGreatDoorM1
import Derived.Test.YteopodbkhgcpmaaGreatDoorM2
import Derived.Test.YteopodbkhgcpmaaGreatDoorM5
import Derived.Test.YteopodbkhgcpmaaGreatDoorM7
set_option linter.unusedSimpArgs false
set_option linter.unusedVariables false
set_option linter.unusedSectionVars false
namespace Go.Proofs.YteopodbkhgcpmaaGreatDoor
section
set_option maxRecDepth 20000
open Go Go.RowKit Go.SL Go.ClauseP Go.LexP

def sgR:List (List UInt8 × Tk)→List Value
 | []=>[]
 | x::xs=>.string ⟨x.1.toArray⟩::.int .i64 (Yq x.2).1::.int .i64 (Yq x.2).2::sgR xs
theorem sgR_at:∀ (xs:List (List UInt8 × Tk)) (j:Nat) (x:List UInt8 × Tk),xs[j]?=some x→(sgR xs)[j*3]?=some (.string ⟨x.1.toArray⟩)∧(sgR xs)[j*3+1]?=some (.int .i64 (Yq x.2).1)∧(sgR xs)[j*3+2]?=some (.int .i64 (Yq x.2).2)
 | [],j,x,h=>by simp at h
 | y::xs,0,x,h=>by simp at h;subst h;exact⟨rfl,rfl,rfl⟩
 | y::xs,j+1,x,h=>by
  have h2:=sgR_at xs j x (by simpa using h)
  rw[show (j+1)*3=j*3+1+1+1 by omega]
  exact h2
def SigR (w0:World):Prop:=∃ ad cap,w0.cell? ⟨0,0,none⟩=some (.slice ad 21 cap)∧Rd (YF w0) ad (sgR (signs11++signs10))∧∃ aa,ad=some aa∧aa.spot=none
theorem KQ {p:UInt8→Bool}:∀ {l:List UInt8} {x:UInt8},x∈l.takeWhile p→p x=true
 | c::l,x,h=>by
  rw[List.takeWhile_cons] at h
  split at h
  ·rename_i hc
   rcases List.mem_cons.1 h with rfl|h
   ·exact hc
   ·exact KQ h
  ·cases h
theorem numM1 {c:UInt8} {l:List UInt8} (h:Yc c=true):Yv 1 ((c::l).takeWhile Yc)=if ((c::l).takeWhile Yc).length=1∧c.toNat≤49 then (c.toNat:Int) - 48 else -1:=by
 have hc:=uJ h
 rw[List.takeWhile_cons,h]
 simp only[if_true]
 cases ht:l.takeWhile Yc with
 | nil =>
  simp only[List.length_cons,List.length_nil]
  rw[jf (by simp) (by simp) (by simp[h])]
  have hv:Ko 0 [c]=c.toNat - 48:=by simp[Ko]
  rw[hv]
  by_cases h1:c.toNat≤49
  ·rw[if_neg (by omega),if_pos (by simp;exact h1)];omega
  ·rw[if_pos (by omega),if_neg (by rintro⟨_,h2⟩;exact h1 h2)]
 | cons d ds =>
  rw[if_neg (by rintro⟨h2,_⟩;simp at h2)]
  have hall:(c::d::ds).all Yc=true:=by
   have hd:∀ x∈d::ds,Yc x=true:=by
    intro x hx;rw[← ht] at hx;exact KQ hx
   simp only[List.all_cons,h,Bool.true_and]
   have h1:=hd d (by simp)
   have h2:ds.all Yc=true:=List.all_eq_true.2 fun x hx=>hd x (by simp[hx])
   rw[h1,h2];rfl
  by_cases h48:c.toNat=48
  ·exact jX (by simp) (by simp;exact UInt8.toNat_inj.1 h48)
  ·rw[jf (by simp) (by rintro⟨_,h2⟩;simp at h2;exact h48 (by rw[h2];rfl)) hall,if_pos]
   rw[Jc,Jc]
   have:=gD ds (10*(10*0+(c.toNat - 48))+(d.toNat - 48))
   omega
theorem Gn {text:List UInt8} {j:Nat} (h:text[j]?=some 35):Yf text j=j+Yu true (text.drop j):=by
 have hlt:=(List.getElem?_eq_some_iff.1 h).1
 have hd:text.drop j=35::text.drop (j+1):=by
  rw[List.drop_eq_getElem_cons hlt,(List.getElem?_eq_some_iff.1 h).2]
 rw[Yf,hd];simp[Yu,kN]
theorem gU {a b c d:Bool} (h:((a=true∨b=true)∨c=true)∨d=true):a=true∨(a=false∧b=true)∨(a=false∧b=false∧c=true)∨(a=false∧b=false∧c=false∧d=true):=by
 cases a <;> cases b <;> cases c <;> cases d <;> simp_all
theorem signs_len:∀ x∈signs11++signs10,1≤x.1.length∧x.1.length≤3:=by decide
theorem signAt (l:List UInt8) (j:Nat) (x:List UInt8 × Tk) (hx:(signs11++signs10)[j]?=some x) (hn:∀ i y,i < j→(signs11++signs10)[i]?=some y→y.1.isPrefixOf l=false) (hp:x.1.isPrefixOf l=true):kC l=some x:=by
 unfold kC
 obtain⟨hlt,he⟩:=List.getElem?_eq_some_iff.1 hx
 rw[List.find?_eq_some_iff_getElem]
 refine ⟨hp,j,hlt,he,fun i hi=>?_⟩
 rw[hn i _ hi (List.getElem?_eq_getElem (by omega))]
 rfl
theorem signNone (l:List UInt8) (hn:∀ i y,i < 21→(signs11++signs10)[i]?=some y→y.1.isPrefixOf l=false):kC l=none:=by
 unfold kC
 rw[List.find?_eq_none]
 intro x hx
 obtain⟨i,hlt,he⟩:=List.getElem_of_mem hx
 rw[hn i x hlt (by rw[List.getElem?_eq_getElem hlt,he])]
 simp
theorem pfx (text:List UInt8) (j:Nat) (x:List UInt8) (h:j+x.length≤text.length):(((⟨text.toArray⟩:ByteArray).extract j ((j:Int)+(x.length:Int)).toNat).toList == x)=x.isPrefixOf (text.drop j):=by
 rw[ByteArray.toList_eq,show ((j:Int)+(x.length:Int)).toNat=j+x.length by omega]
 have hd:((⟨text.toArray⟩:ByteArray).extract j (j+x.length)).data.toList=(text.drop j).take x.length:=by
  simp[ByteArray.data_extract,List.extract_toArray,List.extract_eq_take_drop]
 rw[hd,Bool.eq_iff_iff,beq_iff_eq,List.isPrefixOf_iff_prefix,List.prefix_iff_eq_take]
 exact⟨fun h=>h.symm,fun h=>h.symm⟩
theorem Kt {text:List UInt8} {j:Nat} {c:UInt8} (h:text[j]?=some c):text.drop j=c::text.drop (j+1):=by
 have hlt:=(List.getElem?_eq_some_iff.1 h).1
 rw[List.drop_eq_getElem_cons hlt,(List.getElem?_eq_some_iff.1 h).2]
set_option maxHeartbeats 8000000 in
theorem nextR (text:List UInt8) (hl:text.length≤1048576) (k:Nat) (hk:k≤text.length) (w0 w:World) (hSig:SigR w0) (Hs:List HP) (hbm:YF w0∈Hs) (hS:Sat w0 w Hs) :
  Calls Tryz.prog 23 #[.string ⟨text.toArray⟩,.int .i64 k] w fun e w'=>e=.returned (tokFV (yP text k).tk (yP text k).at_ (yP text k).fin)∧Sat w0 w' Hs:=by
 obtain⟨R,hR⟩:∃ R:Nat,R=Yf text k:=⟨_,rfl⟩
 obtain⟨t,ht⟩:∃ t:TokR,t=yP text k:=⟨_,rfl⟩
 rw[← ht]
 unfold yP at ht
 rw[← hR] at ht
 have HT:=hid ht
 have HR:=hid hR
 clear ht hR
 have hli:(text.length:Int)≤1048576:=by omega
 go_enter Tryz.func23,Tryz.ntmps23
 go_wp2_with ((with_reducible apply yk hS);exact ya;exact z72;clear hS;intro RB w hS;(try simp only[qA]))
 go_loopw [1] (fun i wr=>∃ j:Nat,i=.int .i64 j∧j≤text.length∧Hid (R=Yf text j)∧Sat w0 wr (blk RB 72 [.int .i64 0,.int .i64 0,.int .i64 0,.int .i64 0]::Hs)) (fun i _=>text.length - (intOf i).toNat)
 case atStart=>exact⟨k,rfl,hk,HR,hS⟩
 case round =>
  clear hS HR
  obtain⟨j,rfl,hj,HJ,hS⟩:=hrel
  by_cases hlt:j < text.length
  ·obtain⟨c,hc⟩:∃ c,text[j]?=some c:=⟨_,List.getElem?_eq_getElem hlt⟩
   obtain⟨hpj,hcj⟩:=YD text j c hc
   have hd:=Kt hc
   have HD:=hid hd
   have e1:=YW c 32 32 rfl
   have e2:=YW c 9 9 rfl
   have e3:=YW c 10 10 rfl
   have e4:=YW c 13 13 rfl
   have e5:=YW c 35 35 rfl
   by_cases h35:c=35
   ·subst h35
    have HJ2:=hid (HJ.out.trans (Gn hc))
    have hlt2:(j:Int) < text.length:=by omega
    have HC:=hid hc
    clear hc hd e1 e2 e3 e4 e5 HJ HD
    go_wp2_with ((with_reducible apply yh hS);exact yf rfl rfl;exact yg;(repeat (with_reducible apply yd));rfl;decide +kernel;(try simp only[qA]))
    go_loopw [1] (fun i wr=>∃ m:Nat,i=.int .i64 m∧j≤m∧m≤text.length∧(m=j∨j < m)∧Hid (R=m+Yu true (text.drop m))∧Sat w0 wr (blk RB 72 [.int .i64 0,.int .i64 0,.int .i64 0,.int .i64 0]::Hs)) (fun i _=>text.length - (intOf i).toNat)
    case atStart=>exact⟨j,rfl,Nat.le_refl _,by omega,.inl rfl,HJ2,hS⟩
    case round =>
     clear hS HJ2
     obtain⟨m,rfl,hm1,hm2,hm3,HM,hS⟩:=hrel
     by_cases hml:m < text.length
     ·obtain⟨d,hdm⟩:∃ d,text[m]?=some d:=⟨_,List.getElem?_eq_getElem hml⟩
      obtain⟨hpm,hcm⟩:=YD text m d hdm
      have hdd:=Kt hdm
      have e10:=u8_ne d 10 10 rfl
      by_cases h10:d=10
      ·subst h10
       have HM2:=hid (show R=Yf text m by rw[HM.out,Yf,hdd];simp[Yu,kN])
       rw[if_pos rfl] at e10
       have hjm:j < m:=by
        rcases hm3 with rfl|h
        ·have h1:=HC.out
         rw[hdm] at h1
         cases h1
        ·exact h
       clear hdm hdd hm3
       go_wp2_with ((with_reducible apply yh hS);exact yf rfl rfl;exact yg;(repeat (with_reducible apply yd));rfl;decide +kernel;(try simp only[qA]))
       go_roundw
       case rel=>exact⟨m,rfl,hm2,HM2,hS⟩
       case measure=>simp[intOf];omega
      ·rw[if_neg h10] at e10
       have HM2:=hid (show R=m+1+Yu true (text.drop (m+1)) by rw[HM.out,hdd];simp[Yu,h10];omega)
       clear hdm hdd h10
       go_wp2_with ((with_reducible apply yh hS);exact yf rfl rfl;exact yg;(repeat (with_reducible apply yd));rfl;decide +kernel;(try simp only[qA]))
       go_roundw
       case rel=>exact⟨m+1,by go_num,by omega,by omega,.inr (by omega),HM2,hS⟩
       case measure=>simp[intOf];omega
     ·obtain rfl:m=text.length:=by omega
      have HM2:=hid (show R=Yf text text.length by rw[HM.out,xJ,List.drop_length];rfl)
      have hjm:j < text.length:=hlt
      go_wp2_with ((with_reducible apply yh hS);exact yf rfl rfl;exact yg;(repeat (with_reducible apply yd));rfl;decide +kernel;(try simp only[qA]))
      go_roundw
      case rel=>exact⟨text.length,rfl,Nat.le_refl _,HM2,hS⟩
      case measure=>simp[intOf];omega
   ·have e35:(c == 35)=false:=by simp[h35]
    rw[e35] at e5
    cases hb:kN c with
    | true =>
     have HJ2:=hid (show R=Yf text (j+1) by rw[HJ.out,Yf,HD.out,Yu,if_pos hb,Yf];omega)
     have hb2:=hb
     clear hb hd hc HJ HD h35 e35
     simp only[kN,Bool.or_eq_true] at hb2
     have hcases:(c == 32)=true∨((c == 32)=false∧(c == 9)=true)∨((c == 32)=false∧(c == 9)=false∧(c == 10)=true)∨((c == 32)=false∧(c == 9)=false∧(c == 10)=false∧(c == 13)=true):=by
      exact gU hb2
     clear hb2
     rcases hcases with h1|⟨h1,h2⟩|⟨h1,h2,h3⟩|⟨h1,h2,h3,h4⟩
     all_goals
      (rw[h1] at e1);(try rw[h2] at e2);(try rw[h3] at e3);(try rw[h4] at e4)
      (try clear h1);(try clear h2);(try clear h3);(try clear h4)
      go_wp2_with ((with_reducible apply yh hS);exact yf rfl rfl;exact yg;(repeat (with_reducible apply yd));rfl;decide +kernel;(try simp only[qA]))
      go_roundw
      case rel=>exact⟨j+1,by go_num,by omega,HJ2,hS⟩
      case measure=>simp[intOf];omega
    | false =>
     have hb2:=hb
     simp only[kN,Bool.or_eq_false_iff] at hb2
     obtain⟨⟨⟨b1,b2⟩,b3⟩,b4⟩:=hb2
     rw[b1] at e1
     rw[b2] at e2
     rw[b3] at e3
     rw[b4] at e4
     have hRj:R=j:=by rw[HJ.out,Yf,HD.out,Yu,if_neg (by rw[hb];simp),if_neg h35];rfl
     have ht2:=HT.out
     rw[hRj,if_neg (by omega)] at ht2
     have HT2:=hid ht2
     have HC:=hid hc
     have hge:decide ((j:Int) ≥ (text.length:Int))=false:=by simp;omega
     have hlt2:(j:Int) < text.length:=by omega
     have LC:=xV c w0
     have DC:=jF c w0
     clear b1 b2 b3 b4 hb h35 e35 hRj ht2 HT HJ hd hc
     cases hw:kD c with
     | true =>
      have HNE:Hid (¬ (text.drop j).takeWhile ldP=[]):=hid (by rw[HD.out,List.takeWhile_cons,ldP_of c hw];simp)
      have hp:Yj (text.drop j)=(Kp ((text.drop j).takeWhile ldP),((text.drop j).takeWhile ldP).length):=by
       rw[HD.out];unfold Yj;dsimp only;rw[if_pos hw]
      have ht3:=HT2.out
      rw[hp] at ht3
      have HT3:=hid ht3
      rw[hw] at LC
      clear ht3 hp hw HT2
      go_wp2_with (go_at_call 55;refine (LC _ _ hS).mono ?_;clear hS;rintro e w ⟨rfl,hS⟩)
      go_loopw [5] (fun i wr=>∃ m:Nat,i=.int .i64 m∧j≤m∧m≤text.length∧Hid (Yw ldP text j=Yw ldP text m)∧Sat w0 wr (blk RB 72 [.int .i64 0,.int .i64 0,.int .i64 0,.int .i64 0]::Hs)) (fun i _=>text.length - (intOf i).toNat)
      case atStart=>exact⟨j,rfl,Nat.le_refl _,hj,hid rfl,hS⟩
      case round =>
       clear hS
       obtain⟨m,rfl,hm1,hm2,HM,hS⟩:=hrel
       by_cases hgo:∃ d,text[m]?=some d∧ldP d=true
       ·obtain⟨d,hdm,hld⟩:=hgo
        have hml:m < text.length:=(List.getElem?_eq_some_iff.1 hdm).1
        obtain⟨hpm,hcm⟩:=YD text m d hdm
        have HM2:=hid (show Yw ldP text j=Yw ldP text (m+1) by
         rw[HM.out,Yw,Yw,Kt hdm,List.takeWhile_cons,hld];simp;omega)
        have LD:=xV d w0
        have DD:=jF d w0
        have hml2:(m:Int) < text.length:=by omega
        clear hdm
        cases hlt2:kD d with
        | true =>
         rw[hlt2] at LD
         clear hlt2 hld
         go_wp2_with (go_at_call 55;refine (LD _ _ hS).mono ?_;clear hS;rintro e w ⟨rfl,hS⟩)
         go_roundw
         case rel=>exact⟨m+1,by go_num,by omega,by omega,HM2,hS⟩
         case measure=>simp[intOf];omega
        | false =>
         have hdg:Yc d=true:=by simpa [ldP,hlt2] using hld
         rw[hlt2] at LD
         rw[hdg] at DD
         clear hlt2 hld hdg
         go_wp2_with (first|(go_at_call 55;refine (LD _ _ hS).mono ?_;clear hS;rintro e w ⟨rfl,hS⟩)|(go_at_call 56;refine (DD _ _ hS).mono ?_;clear hS;rintro e w ⟨rfl,hS⟩))
         go_roundw
         case rel=>exact⟨m+1,by go_num,by omega,by omega,HM2,hS⟩
         case measure=>simp[intOf];omega
       ·have hrm:Yw ldP text j=m:=by
         rw[HM.out,Yw]
         cases hdm:text[m]? with
         | none=>rw[List.drop_eq_nil_of_le (by simpa using hdm)];rfl
         | some d =>
          rw[Kt hdm,List.takeWhile_cons,if_neg (fun h=>hgo ⟨d,hdm,h⟩)];rfl
        have hex:=gQ text ldP j (by omega)
        rw[hrm] at hex
        have hlen:j+((text.drop j).takeWhile ldP).length=m:=hrm
        have WR:=wordR ((text.drop j).takeWhile ldP) (by
         exact HNE.out) (by omega) (fun c hc=>KQ hc) j (by omega) w0
        rw[← hex] at WR
        have ht4:=HT3.out
        have HT4:=hid ht4
        have HLEN:=hid hlen
        have hmj:(j:Int)≤m:=by omega
        have hml:(m:Int)≤text.length:=by omega
        cases hdm:text[m]? with
        | none =>
         have hm3:m=text.length:=by have:text.length≤m:=by simpa using hdm
                                    omega
         subst hm3
         have HLL:=hid (show (j:Int)+(((text.drop j).takeWhile ldP).length:Int)=(text.length:Int) by omega)
         simp only[HLL.out] at WR
         generalize Kp ((text.drop j).takeWhile ldP)=tk at *
         clear hdm hgo hrm hex hlen ht4 HT3
         go_wp2_with (first|((with_reducible apply yi hS);exact ya;exact yb rfl;exact yb rfl;exact ye;rfl;(focus (simp;done));exact Upd.hd;rfl;exact sz72;rfl;clear hS;intro w hS;(try simp only[yp,qS] at hS);(try simp only[qA]))|(go_at_call 57;refine (WR _ _ hS).mono ?_;clear hS;rintro e w ⟨rfl,hS⟩))
         refine bodyPost_ret (yI rfl rfl (hS.loadWhole (by(exact ye)) (by kernel_rfl) (by kernel_rfl))) rfl ?_
         refine ⟨?_,hS.sb (by(repeat (with_reducible first|exact Sb.refl|apply Sb.skip)))⟩
         rw[HT4.out]
         dsimp only
         rw[HLEN.out]
         rfl
        | some d =>
         obtain⟨hpm,hcm⟩:=YD text m d hdm
         have hld:ldP d=false:=by
          cases h:ldP d with
          | false=>rfl
          | true=>exact absurd ⟨d,hdm,h⟩ hgo
         have hml3:(m:Int) < text.length:=by have:=(List.getElem?_eq_some_iff.1 hdm).1;omega
         have LD:=xV d w0
         have DD:=jF d w0
         have hl1:kD d=false:=by
          cases h:kD d with
          | false=>rfl
          | true=>simp[ldP,h] at hld
         have hl2:Yc d=false:=by
          cases h:Yc d with
          | false=>rfl
          | true=>simp[ldP,h] at hld
         rw[hl1] at LD
         rw[hl2] at DD
         have HLL:=hid (show (j:Int)+(((text.drop j).takeWhile ldP).length:Int)=(m:Int) by omega)
         simp only[HLL.out] at WR
         generalize Kp ((text.drop j).takeWhile ldP)=tk at *
         clear hdm hgo hrm hex hlen ht4 HT3 hl1 hl2 hld
         go_wp2_with (first|((with_reducible apply yi hS);exact ya;exact yb rfl;exact yb rfl;exact ye;rfl;(focus (simp;done));exact Upd.hd;rfl;exact sz72;rfl;clear hS;intro w hS;(try simp only[yp,qS] at hS);(try simp only[qA]))|(go_at_call 55;refine (LD _ _ hS).mono ?_;clear hS;rintro e w ⟨rfl,hS⟩)|(go_at_call 56;refine (DD _ _ hS).mono ?_;clear hS;rintro e w ⟨rfl,hS⟩)|(go_at_call 57;refine (WR _ _ hS).mono ?_;clear hS;rintro e w ⟨rfl,hS⟩))
         refine bodyPost_ret (yI rfl rfl (hS.loadWhole (by(exact ye)) (by kernel_rfl) (by kernel_rfl))) rfl ?_
         refine ⟨?_,hS.sb (by(repeat (with_reducible first|exact Sb.refl|apply Sb.skip)))⟩
         rw[HT4.out]
         dsimp only
         rw[HLEN.out]
         rfl
     | false =>
      rw[hw] at LC
      cases hg:Yc c with
      | true =>
       have hp:Yj (text.drop j)=((if Yv 1 ((text.drop j).takeWhile Yc) < 0 then .bad 133 else .const (Yv 1 ((text.drop j).takeWhile Yc))),((text.drop j).takeWhile Yc).length):=by
        rw[HD.out];unfold Yj;dsimp only;rw[if_neg (by rw[hw];simp),if_pos hg]
       have hnm:Yv 1 ((text.drop j).takeWhile Yc)=if ((text.drop j).takeWhile Yc).length=1∧c.toNat≤49 then (c.toNat:Int) - 48 else -1:=by rw[HD.out];exact numM1 hg
       have hdb:=uJ hg
       have ht3:=HT2.out
       rw[hp] at ht3
       rw[hg] at DC
       have HT3:=hid ht3
       have HNM:=hid hnm
       clear ht3 hp hw hg HT2 hnm
       go_wp2_with (first|(go_at_call 55;refine (LC _ _ hS).mono ?_;clear hS;rintro e w ⟨rfl,hS⟩)|(go_at_call 56;refine (DC _ _ hS).mono ?_;clear hS;rintro e w ⟨rfl,hS⟩))
       go_loopw [5] (fun i wr=>∃ m:Nat,i=.int .i64 m∧j≤m∧m≤text.length∧Hid (Yw Yc text j=Yw Yc text m)∧Sat w0 wr (blk RB 72 [.int .i64 0,.int .i64 0,.int .i64 0,.int .i64 0]::Hs)) (fun i _=>text.length - (intOf i).toNat)
       case atStart=>exact⟨j,rfl,Nat.le_refl _,hj,hid rfl,hS⟩
       case round =>
        clear hS
        obtain⟨m,rfl,hm1,hm2,HM,hS⟩:=hrel
        by_cases hgo:∃ d,text[m]?=some d∧Yc d=true
        ·obtain⟨d,hdm,hld⟩:=hgo
         have hml:m < text.length:=(List.getElem?_eq_some_iff.1 hdm).1
         obtain⟨hpm,hcm⟩:=YD text m d hdm
         have HM2:=hid (show Yw Yc text j=Yw Yc text (m+1) by
          rw[HM.out,Yw,Yw,Kt hdm,List.takeWhile_cons,hld];simp;omega)
         have DD:=jF d w0
         have hml2:(m:Int) < text.length:=by omega
         rw[hld] at DD
         clear hdm hld
         go_wp2_with (go_at_call 56;refine (DD _ _ hS).mono ?_;clear hS;rintro e w ⟨rfl,hS⟩)
         go_roundw
         case rel=>exact⟨m+1,by go_num,by omega,by omega,HM2,hS⟩
         case measure=>simp[intOf];omega
        ·have hrm:Yw Yc text j=m:=by
          rw[HM.out,Yw]
          cases hdm:text[m]? with
          | none=>rw[List.drop_eq_nil_of_le (by simpa using hdm)];rfl
          | some d =>
           rw[Kt hdm,List.takeWhile_cons,if_neg (fun h=>hgo ⟨d,hdm,h⟩)];rfl
         have hlen:j+((text.drop j).takeWhile Yc).length=m:=hrm
         have hmj:(j:Int)≤m:=by omega
         have hml:(m:Int)≤text.length:=by omega
         have ht4:=HT3.out
         have hnm:=HNM.out
         generalize Yv 1 ((text.drop j).takeWhile Yc)=nm at *
         generalize hL:((text.drop j).takeWhile Yc).length=L at *
         have hcnd:(m=text.length∨∃ d,text[m]?=some d∧Yc d=false∧m < text.length):=by
          cases hdm:text[m]? with
          | none=>exact .inl (by have:text.length≤m:=by simpa using hdm
                                 omega)
          | some d =>
           refine .inr ⟨d,rfl,?_,(List.getElem?_eq_some_iff.1 hdm).1⟩
           cases h:Yc d with
           | false=>rfl
           | true=>exact absurd ⟨d,hdm,h⟩ hgo
         have hnu:((c.toNat:Int) - 48+256) % 256=(c.toNat:Int) - 48:=by omega
         have hnn:0≤(c.toNat:Int) - 48∧(c.toNat:Int) - 48≤9:=by omega
         by_cases hone:L=1∧c.toNat≤49
         ·obtain⟨hL1,hc49⟩:=hone
          rw[if_pos ⟨hL1,hc49⟩] at hnm
          rw[if_neg (by omega),hL1,hnm] at ht4
          have hb1:((m:Int) == (j:Int)+1)=true:=by simp;omega
          have hb2:decide ((c.toNat:Int)≤49)=true:=by simp;omega
          have hb3:(c.toNat:Int)≤49:=by omega
          have HT4:=hid ht4
          have HRES:=hid (show ((j+1:Nat):Int)=(m:Int) by omega)
          clear hL hlen hrm ht4 hgo HT3 HNM hL1 hnu hnm
          rcases hcnd with rfl|⟨d,hdm,hld,hml4⟩
          ·go_wp2_with ((with_reducible apply yi hS);exact ya;exact yb rfl;exact yb rfl;exact ye;rfl;(focus (simp;done));exact Upd.hd;rfl;exact sz72;rfl;clear hS;intro w hS;(try simp only[yp,qS] at hS);(try simp only[qA]))
           refine bodyPost_ret (yI rfl rfl (hS.loadWhole (by(exact ye)) (by kernel_rfl) (by kernel_rfl))) rfl ?_
           refine ⟨?_,hS.sb (by(repeat (with_reducible first|exact Sb.refl|apply Sb.skip)))⟩
           rw[HT4.out]
           dsimp only
           rw[HRES.out]
           rfl
          ·obtain⟨hpm,hcm⟩:=YD text m d hdm
           have DD:=jF d w0
           rw[hld] at DD
           clear hdm hld
           have hml5:(m:Int) < text.length:=by omega
           go_wp2_with (first|((with_reducible apply yi hS);exact ya;exact yb rfl;exact yb rfl;exact ye;rfl;(focus (simp;done));exact Upd.hd;rfl;exact sz72;rfl;clear hS;intro w hS;(try simp only[yp,qS] at hS);(try simp only[qA]))|(go_at_call 56;refine (DD _ _ hS).mono ?_;clear hS;rintro e w ⟨rfl,hS⟩))
           refine bodyPost_ret (yI rfl rfl (hS.loadWhole (by(exact ye)) (by kernel_rfl) (by kernel_rfl))) rfl ?_
           refine ⟨?_,hS.sb (by(repeat (with_reducible first|exact Sb.refl|apply Sb.skip)))⟩
           rw[HT4.out]
           dsimp only
           rw[HRES.out]
           rfl
         ·rw[if_neg hone] at hnm
          rw[if_pos (by omega)] at ht4
          have HT4:=hid ht4
          have HRES:=hid (show ((j+L:Nat):Int)=(m:Int) by omega)
          have hb:((m:Int) == (j:Int)+1)=false∨(((m:Int) == (j:Int)+1)=true∧decide ((c.toNat:Int)≤49)=false):=by
           by_cases h1:L=1
           ·refine .inr ⟨by simp;omega,?_⟩
            rw[decide_eq_false_iff_not]
            intro h2
            exact hone ⟨h1,by omega⟩
           ·exact .inl (by simp;omega)
          clear hL hlen hrm ht4 hgo HT3 HNM hnu hnm hone
          rcases hb with hb1|⟨hb1,hb2⟩
          all_goals
           rcases hcnd with rfl|⟨d,hdm,hld,hml4⟩
           ·go_wp2_with ((with_reducible apply yi hS);exact ya;exact yb rfl;exact yb rfl;exact ye;rfl;(focus (simp;done));exact Upd.hd;rfl;exact sz72;rfl;clear hS;intro w hS;(try simp only[yp,qS] at hS);(try simp only[qA]))
            refine bodyPost_ret (yI rfl rfl (hS.loadWhole (by(exact ye)) (by kernel_rfl) (by kernel_rfl))) rfl ?_
            refine ⟨?_,hS.sb (by(repeat (with_reducible first|exact Sb.refl|apply Sb.skip)))⟩
            rw[HT4.out]
            dsimp only
            rw[HRES.out]
            rfl
           ·obtain⟨hpm,hcm⟩:=YD text m d hdm
            have DD:=jF d w0
            rw[hld] at DD
            clear hdm hld
            have hml5:(m:Int) < text.length:=by omega
            go_wp2_with (first|((with_reducible apply yi hS);exact ya;exact yb rfl;exact yb rfl;exact ye;rfl;(focus (simp;done));exact Upd.hd;rfl;exact sz72;rfl;clear hS;intro w hS;(try simp only[yp,qS] at hS);(try simp only[qA]))|(go_at_call 56;refine (DD _ _ hS).mono ?_;clear hS;rintro e w ⟨rfl,hS⟩))
            refine bodyPost_ret (yI rfl rfl (hS.loadWhole (by(exact ye)) (by kernel_rfl) (by kernel_rfl))) rfl ?_
            refine ⟨?_,hS.sb (by(repeat (with_reducible first|exact Sb.refl|apply Sb.skip)))⟩
            rw[HT4.out]
            dsimp only
            rw[HRES.out]
            rfl
      | false =>
       have hp:Yj (text.drop j)=(match kC (text.drop j) with|some s=>(s.2,s.1.length)|none=>(.bad 130,1)):=by
        rw[HD.out];unfold Yj;dsimp only;rw[if_neg (by rw[hw];simp),if_neg (by rw[hg];simp)];rfl
       have ht3:=HT2.out
       rw[hp] at ht3
       rw[hg] at DC
       have HT3:=hid ht3
       obtain⟨ad,cap,hcell,hRd,hsp⟩:=hSig
       have NNA:=hS.rdAd (yd hbm) hRd (by decide)
       clear ht3 hp hw hg HT2
       go_wp2_with (first|(go_at_call 55;refine (LC _ _ hS).mono ?_;clear hS;rintro e w ⟨rfl,hS⟩)|(go_at_call 56;refine (DC _ _ hS).mono ?_;clear hS;rintro e w ⟨rfl,hS⟩))
       go_loopw [6] (fun i wr=>∃ q:Nat,i=.int .i64 q∧q≤21∧Hid (∀ i y,i < q→(signs11++signs10)[i]?=some y→y.1.isPrefixOf (text.drop j)=false)∧Sat w0 wr (blk RB 72 [.int .i64 0,.int .i64 0,.int .i64 0,.int .i64 0]::Hs)) (fun i _=>21 - (intOf i).toNat)
       case atStart=>exact⟨0,rfl,by omega,hid (fun i y h=>by omega),hS⟩
       case round =>
        clear hS
        obtain⟨q,rfl,hq,HN,hS⟩:=hrel
        by_cases hlq:q < 21
        ·obtain⟨x,hx⟩:∃ x,(signs11++signs10)[q]?=some x:=⟨_,List.getElem?_eq_getElem hlq⟩
         obtain⟨V0,V1,V2⟩:=sgR_at _ q x hx
         have hxl:=signs_len x (List.mem_of_getElem? hx)
         have hqi:(q:Int) < 21:=by omega
         have hn1:(0:Int)≤(x.1.length:Int):=by omega
         have hn2:(x.1.length:Int)≤3:=by omega
         have hn3:(j:Int)≤(j:Int)+(x.1.length:Int):=by omega
         have hn4:(0:Int)≤(j:Int)+(x.1.length:Int):=by omega
         have hjl:(j:Int)≤1048576:=by omega
         go_wp2_with ((first|((with_reducible apply KN hS);exact ya;rfl;(((repeat (with_reducible apply yd)));(try assumption));assumption;decide +kernel)|((with_reducible apply yn);exact ya;exact yb rfl;exact yb rfl;exact E133;(omega);(omega);(assumption);(simp only[qN];rfl))|((with_reducible apply yR);exact ya;exact yb rfl;(assumption);(with_reducible exact fo134_0))|((with_reducible apply yF);exact ya;exact yb rfl;(exact Sat.rdCell2 (by assumption) hS (by((repeat (with_reducible apply yd)));try assumption) (by(assumption)));decide +kernel));try simp only[qA])
         have hnp:x.1.isPrefixOf (text.drop j)=false→Hid (∀ i y,i < q+1→(signs11++signs10)[i]?=some y→y.1.isPrefixOf (text.drop j)=false):=fun hp=>hid fun i y h h2=>by
          by_cases hij:i < q
          ·exact HN.out i y hij h2
          ·obtain rfl:i=q:=by omega
           rw[hx] at h2
           cases h2
           exact hp
         by_cases hfit:j+x.1.length≤text.length
         ·have hfi:(j:Int)+(x.1.length:Int)≤(text.length:Int):=by omega
          have hfd:decide ((j:Int)+(x.1.length:Int)≤(text.length:Int))=true:=by simp;omega
          have hpx:=pfx text j x.1 hfit
          cases hp:x.1.isPrefixOf (text.drop j) with
          | true =>
           rw[hp] at hpx
           have hsg:=signAt _ q x hx HN.out hp
           have ht4:=HT3.out
           rw[hsg] at ht4
           have HT4:=hid ht4
           clear ht4 hsg HT3 hx HN hnp hp hfit
           go_wp2_with ((first|((first|((with_reducible apply dP 0 hC hR);(simp only[qL];rfl);decide +kernel;exact iQ;exact ya)|((with_reducible apply dP 1 hC hR);(simp only[qL];rfl);decide +kernel;exact iQ;exact ya)|((with_reducible apply dP 3 hC hR);(simp only[qL];rfl);decide +kernel;exact iQ;exact ya)|((with_reducible apply dP 4 hC hR);(simp only[qL];rfl);decide +kernel;exact iQ;exact ya)|((with_reducible apply dP 5 hC hR);(simp only[qL];rfl);decide +kernel;exact iQ;exact ya)|((with_reducible apply dP 6 hC hR);(simp only[qL];rfl);decide +kernel;exact iQ;exact ya)|((with_reducible apply dP 7 hC hR);(simp only[qL];rfl);decide +kernel;exact iQ;exact yf rfl rfl)|((with_reducible apply dP 8 hC hR);(simp only[qL];rfl);decide +kernel;exact iQ;exact yf rfl rfl)|((with_reducible apply dP 9 hC hR);(simp only[qL];rfl);decide +kernel;exact iQ;exact yf rfl rfl)|((with_reducible apply dP 10 hC hR);(simp only[qL];rfl);decide +kernel;exact iQ;exact yf rfl rfl)|((with_reducible apply dP 12 hC hR);(simp only[qL];rfl);decide +kernel;exact iQ;exact yf rfl rfl)|((with_reducible apply dP 14 hC hR);(simp only[qL];rfl);decide +kernel;exact iQ;exact yf rfl rfl)|((with_reducible apply dP 18 hC hR);(simp only[qL];rfl);decide +kernel;exact iQ;exact yf rfl rfl)|((with_reducible apply dP 19 hC hR);(simp only[qL];rfl);decide +kernel;exact iQ;exact ya));(intro w;first|(go_simp;done)|(go_simp;rw[yo (by omega) (by omega)])|(go_simp;with_reducible rfl)|(go_simp;rfl));(clear hR hC;intro hR hC))|((first|((with_reducible apply dP 2 hC hR);(simp only[qL];rfl);decide +kernel;exact iQ;exact ya)|((with_reducible apply dP 11 hC hR);(simp only[qL];rfl);decide +kernel;exact iQ;exact yf rfl rfl));(intro w;first|(exact Yd rfl (by(exact yg)) (by(exact yg)) (by(omega)))|(go_simp;done)|(go_simp;rw[yo (by omega) (by omega)])|(go_simp;with_reducible rfl)|(go_simp;rfl));(clear hR hC;intro hR hC))|(((with_reducible apply dP 15 hC hR);(simp only[qL];rfl);decide +kernel;exact iQ;exact yf rfl rfl);(intro w;first|(with_reducible exact yu E133 rfl (by(exact yb rfl)) (by(exact yb rfl)) (by(omega)) (by(omega)) (by(assumption)) (by(simp only[qN];rfl)))|(go_simp;done)|(go_simp;rw[yo (by omega) (by omega)])|(go_simp;with_reducible rfl));(clear hR hC;intro hR hC))|(((with_reducible apply dP 16 hC hR);(simp only[qL];rfl);decide +kernel;exact iQ;exact yf rfl rfl);(intro w;first|(exact yz rfl (by(exact yb rfl)) (by assumption) (by with_reducible exact fo134_0))|(go_simp;done)|(go_simp;rw[yo (by omega) (by omega)])|(go_simp;with_reducible rfl)|(go_simp;rfl));(clear hR hC;intro hR hC))|((first|((with_reducible apply dR 13 hC hR);(simp only[qL];rfl);decide +kernel;exact iQ;exact yf rfl rfl)|((with_reducible apply dR 17 hC hR);(simp only[qL];rfl);decide +kernel;exact iQ;exact yf rfl rfl));(intro w hS;(apply yj rfl (by first|(exact yb rfl)|rfl));first|exact yc (by decide +kernel) (hS.cell (by(repeat (with_reducible first|exact ye|apply yd))) rfl)|exact yc (by decide +kernel) ((hS.ownCell (by(repeat (with_reducible apply yd))) (by(assumption))).1)|exact yc (by decide +kernel) (Sat.rdCell2 (by assumption) hS (by((repeat (with_reducible apply yd)));try assumption) (by(assumption)))|exact yc (by decide +kernel) (hS.baseCell (by((repeat (with_reducible apply yd)));try assumption) (by assumption))|exact yc (by decide +kernel) (fzC (by assumption) hS (by((repeat (with_reducible apply yd)));try assumption))|exact yl hS (by assumption) (by((repeat (with_reducible apply yd)));try assumption) (by assumption) (by rfl) (by with_reducible exact sz72) (by decide +kernel) (by decide)|exact hS.loadWhole (by(repeat (with_reducible apply yd))) (by kernel_rfl) (by kernel_rfl));(clear hR hC;intro hR hC))|((with_reducible apply ym);decide +kernel;clear hR hC)|(refine yt 23 20 hS (by kernel_rfl) [] rfl ?_;clear hS;intro w hS hR hC));try simp only[qA])
           go_wp2_with ((first|((with_reducible apply Cont.intro);(focus (apply Or.inr;apply (Sat.sb hS);(repeat (with_reducible first|exact Sb.refl|apply Sb.skip));done));intro hR hC)|((first|((with_reducible apply dP 1 hC hR);(simp only[qL];rfl);decide +kernel;exact iQ;exact ya)|((with_reducible apply dP 6 hC hR);(simp only[qL];rfl);decide +kernel;exact iQ;exact ya)|((with_reducible apply dP 10 hC hR);(simp only[qL];rfl);decide +kernel;exact iQ;exact ya)|((with_reducible apply dP 11 hC hR);(simp only[qL];rfl);decide +kernel;exact iQ;exact ya)|((with_reducible apply dP 12 hC hR);(simp only[qL];rfl);decide +kernel;exact iQ;exact ya)|((with_reducible apply dP 14 hC hR);(simp only[qL];rfl);decide +kernel;exact iQ;exact ya));(intro w;first|(go_simp;done)|(go_simp;rw[yo (by omega) (by omega)])|(go_simp;with_reducible rfl)|(go_simp;rfl));(clear hR hC;intro hR hC))|((first|((with_reducible apply dP 2 hC hR);(simp only[qL];rfl);decide +kernel;exact iQ;exact ya)|((with_reducible apply dP 7 hC hR);(simp only[qL];rfl);decide +kernel;exact iQ;exact ya));(intro w;first|(with_reducible exact yu E133 rfl (by(exact yb rfl)) (by(exact yb rfl)) (by(omega)) (by(omega)) (by(assumption)) (by(simp only[qN];rfl)))|(go_simp;done)|(go_simp;rw[yo (by omega) (by omega)])|(go_simp;with_reducible rfl));(clear hR hC;intro hR hC))|((first|((with_reducible apply dP 3 hC hR);(simp only[qL];rfl);decide +kernel;exact iQ;exact ya)|((with_reducible apply dP 8 hC hR);(simp only[qL];rfl);decide +kernel;exact iQ;exact ya));(intro w;first|(exact yz rfl (by(exact yb rfl)) (by assumption) (by with_reducible first|exact fo134_1|exact fo134_2))|(go_simp;done)|(go_simp;rw[yo (by omega) (by omega)])|(go_simp;with_reducible rfl)|(go_simp;rfl));(clear hR hC;intro hR hC))|(((with_reducible apply dP 13 hC hR);(simp only[qL];rfl);decide +kernel;exact iQ;exact ya);(intro w;first|(exact Yd rfl (by(exact yg)) (by(exact yg)) (by(omega)))|(go_simp;done)|(go_simp;rw[yo (by omega) (by omega)])|(go_simp;with_reducible rfl)|(go_simp;rfl));(clear hR hC;intro hR hC))|((first|((with_reducible apply dR 0 hC hR);(simp only[qL];rfl);decide +kernel;exact iQ;exact ya)|((with_reducible apply dR 4 hC hR);(simp only[qL];rfl);decide +kernel;exact iQ;exact ya)|((with_reducible apply dR 5 hC hR);(simp only[qL];rfl);decide +kernel;exact iQ;exact ya)|((with_reducible apply dR 9 hC hR);(simp only[qL];rfl);decide +kernel;exact iQ;exact ya));(intro w hS;(apply yj rfl (by first|(exact yb rfl)|rfl));first|exact yc (by decide +kernel) (hS.cell (by(repeat (with_reducible apply yd))) rfl)|exact yc (by decide +kernel) ((hS.ownCell (by(repeat (with_reducible apply yd))) (by(assumption))).1)|exact yc (by decide +kernel) (Sat.rdCell2 (by assumption) hS (by((repeat (with_reducible apply yd)));try assumption) (by(assumption)))|exact yc (by decide +kernel) (hS.baseCell (by((repeat (with_reducible apply yd)));try assumption) (by assumption))|exact yc (by decide +kernel) (fzC (by assumption) hS (by((repeat (with_reducible apply yd)));try assumption))|exact yl hS (by assumption) (by((repeat (with_reducible apply yd)));try assumption) (by assumption) (by rfl) (by with_reducible exact sz72) (by decide +kernel) (by decide)|exact hS.loadWhole (by(repeat (with_reducible apply yd))) (by kernel_rfl) (by kernel_rfl));(clear hR hC;intro hR hC))|((with_reducible apply yq (i:=15));(simp only[qL];rfl);decide +kernel;exact hC;clear hR hC)|((with_reducible apply ym);decide +kernel;clear hR hC)|(refine KB (blk RB 72 [.int .i64 0,.int .i64 0,.int .i64 0,.int .i64 0]) 24 16 hS (by(repeat (with_reducible first|exact Rem.hd|apply Rem.tl));done) (by kernel_rfl) [] rfl ?_;clear hS;intro w hS hR hC)|((with_reducible apply yi hS);exact ya;exact yb rfl;exact yb rfl;exact ye;rfl;(focus (simp;done));exact Upd.hd;rfl;exact sz72;rfl;clear hS;intro w hS;(try simp only[yp,qS] at hS)));try simp only[qA])
           refine bodyPost_ret (yI rfl rfl (hS.loadWhole (by(exact ye)) (by kernel_rfl) (by kernel_rfl))) rfl ?_
           refine ⟨?_,hS.sb (by(repeat (with_reducible first|exact Sb.refl|apply Sb.skip)))⟩
           rw[HT4.out]
           rfl
          | false =>
           have HN2:=hnp hp
           rw[hp] at hpx
           clear hx HN hnp hp hfit
           go_wp2_with ((first|((first|((with_reducible apply dP 0 hC hR);(simp only[qL];rfl);decide +kernel;exact iQ;exact ya)|((with_reducible apply dP 1 hC hR);(simp only[qL];rfl);decide +kernel;exact iQ;exact ya)|((with_reducible apply dP 3 hC hR);(simp only[qL];rfl);decide +kernel;exact iQ;exact ya)|((with_reducible apply dP 4 hC hR);(simp only[qL];rfl);decide +kernel;exact iQ;exact ya)|((with_reducible apply dP 5 hC hR);(simp only[qL];rfl);decide +kernel;exact iQ;exact ya)|((with_reducible apply dP 6 hC hR);(simp only[qL];rfl);decide +kernel;exact iQ;exact ya)|((with_reducible apply dP 7 hC hR);(simp only[qL];rfl);decide +kernel;exact iQ;exact yf rfl rfl)|((with_reducible apply dP 8 hC hR);(simp only[qL];rfl);decide +kernel;exact iQ;exact yf rfl rfl)|((with_reducible apply dP 9 hC hR);(simp only[qL];rfl);decide +kernel;exact iQ;exact yf rfl rfl)|((with_reducible apply dP 10 hC hR);(simp only[qL];rfl);decide +kernel;exact iQ;exact yf rfl rfl)|((with_reducible apply dP 12 hC hR);(simp only[qL];rfl);decide +kernel;exact iQ;exact yf rfl rfl)|((with_reducible apply dP 14 hC hR);(simp only[qL];rfl);decide +kernel;exact iQ;exact yf rfl rfl)|((with_reducible apply dP 18 hC hR);(simp only[qL];rfl);decide +kernel;exact iQ;exact yf rfl rfl)|((with_reducible apply dP 19 hC hR);(simp only[qL];rfl);decide +kernel;exact iQ;exact ya));(intro w;first|(go_simp;done)|(go_simp;rw[yo (by omega) (by omega)])|(go_simp;with_reducible rfl)|(go_simp;rfl));(clear hR hC;intro hR hC))|((first|((with_reducible apply dP 2 hC hR);(simp only[qL];rfl);decide +kernel;exact iQ;exact ya)|((with_reducible apply dP 11 hC hR);(simp only[qL];rfl);decide +kernel;exact iQ;exact yf rfl rfl));(intro w;first|(exact Yd rfl (by(exact yg)) (by(exact yg)) (by(omega)))|(go_simp;done)|(go_simp;rw[yo (by omega) (by omega)])|(go_simp;with_reducible rfl)|(go_simp;rfl));(clear hR hC;intro hR hC))|(((with_reducible apply dP 15 hC hR);(simp only[qL];rfl);decide +kernel;exact iQ;exact yf rfl rfl);(intro w;first|(with_reducible exact yu E133 rfl (by(exact yb rfl)) (by(exact yb rfl)) (by(omega)) (by(omega)) (by(assumption)) (by(simp only[qN];rfl)))|(go_simp;done)|(go_simp;rw[yo (by omega) (by omega)])|(go_simp;with_reducible rfl));(clear hR hC;intro hR hC))|(((with_reducible apply dP 16 hC hR);(simp only[qL];rfl);decide +kernel;exact iQ;exact yf rfl rfl);(intro w;first|(exact yz rfl (by(exact yb rfl)) (by assumption) (by with_reducible exact fo134_0))|(go_simp;done)|(go_simp;rw[yo (by omega) (by omega)])|(go_simp;with_reducible rfl)|(go_simp;rfl));(clear hR hC;intro hR hC))|((first|((with_reducible apply dR 13 hC hR);(simp only[qL];rfl);decide +kernel;exact iQ;exact yf rfl rfl)|((with_reducible apply dR 17 hC hR);(simp only[qL];rfl);decide +kernel;exact iQ;exact yf rfl rfl));(intro w hS;(apply yj rfl (by first|(exact yb rfl)|rfl));first|exact yc (by decide +kernel) (hS.cell (by(repeat (with_reducible first|exact ye|apply yd))) rfl)|exact yc (by decide +kernel) ((hS.ownCell (by(repeat (with_reducible apply yd))) (by(assumption))).1)|exact yc (by decide +kernel) (Sat.rdCell2 (by assumption) hS (by((repeat (with_reducible apply yd)));try assumption) (by(assumption)))|exact yc (by decide +kernel) (hS.baseCell (by((repeat (with_reducible apply yd)));try assumption) (by assumption))|exact yc (by decide +kernel) (fzC (by assumption) hS (by((repeat (with_reducible apply yd)));try assumption))|exact yl hS (by assumption) (by((repeat (with_reducible apply yd)));try assumption) (by assumption) (by rfl) (by with_reducible exact sz72) (by decide +kernel) (by decide)|exact hS.loadWhole (by(repeat (with_reducible apply yd))) (by kernel_rfl) (by kernel_rfl));(clear hR hC;intro hR hC))|((with_reducible apply ym);decide +kernel;clear hR hC)|(refine yt 23 20 hS (by kernel_rfl) [] rfl ?_;clear hS;intro w hS hR hC));try simp only[qA])
           go_roundw
           case rel=>exact⟨q+1,by go_num,by omega,HN2,hS⟩
           case measure=>simp[intOf];omega
         ·have hp:x.1.isPrefixOf (text.drop j)=false:=by
           cases h:x.1.isPrefixOf (text.drop j) with
           | false=>rfl
           | true =>
            have:=(List.isPrefixOf_iff_prefix.1 h).length_le
            rw[List.length_drop] at this
            omega
          have HN2:=hnp hp
          have hfd:decide ((j:Int)+(x.1.length:Int)≤(text.length:Int))=false:=by simp;omega
          clear hx HN hnp hp hfit
          go_wp2_with ((first|((first|((with_reducible apply dP 0 hC hR);(simp only[qL];rfl);decide +kernel;exact iQ;exact ya)|((with_reducible apply dP 1 hC hR);(simp only[qL];rfl);decide +kernel;exact iQ;exact ya)|((with_reducible apply dP 3 hC hR);(simp only[qL];rfl);decide +kernel;exact iQ;exact ya)|((with_reducible apply dP 4 hC hR);(simp only[qL];rfl);decide +kernel;exact iQ;exact ya)|((with_reducible apply dP 5 hC hR);(simp only[qL];rfl);decide +kernel;exact iQ;exact ya)|((with_reducible apply dP 6 hC hR);(simp only[qL];rfl);decide +kernel;exact iQ;exact ya)|((with_reducible apply dP 19 hC hR);(simp only[qL];rfl);decide +kernel;exact iQ;exact ya));(intro w;first|(go_simp;done)|(go_simp;rw[yo (by omega) (by omega)])|(go_simp;with_reducible rfl)|(go_simp;rfl));(clear hR hC;intro hR hC))|(((with_reducible apply dP 2 hC hR);(simp only[qL];rfl);decide +kernel;exact iQ;exact ya);(intro w;first|(exact Yd rfl (by(exact yg)) (by(exact yg)) (by(omega)))|(go_simp;done)|(go_simp;rw[yo (by omega) (by omega)])|(go_simp;with_reducible rfl)|(go_simp;rfl));(clear hR hC;intro hR hC))|((first|((with_reducible apply dS 7 hC hR);(simp only[qL];rfl);decide +kernel;exact iQ;(exact yr rfl rfl))|((with_reducible apply dS 8 hC hR);(simp only[qL];rfl);decide +kernel;exact iQ;(exact yr rfl rfl))|((with_reducible apply dS 9 hC hR);(simp only[qL];rfl);decide +kernel;exact iQ;(exact yr rfl rfl))|((with_reducible apply dS 10 hC hR);(simp only[qL];rfl);decide +kernel;exact iQ;(exact yr rfl rfl))|((with_reducible apply dS 11 hC hR);(simp only[qL];rfl);decide +kernel;exact iQ;(exact yr rfl rfl))|((with_reducible apply dS 12 hC hR);(simp only[qL];rfl);decide +kernel;exact iQ;(exact yr rfl rfl))|((with_reducible apply dS 13 hC hR);(simp only[qL];rfl);decide +kernel;exact iQ;(exact yr rfl rfl))|((with_reducible apply dS 14 hC hR);(simp only[qL];rfl);decide +kernel;exact iQ;(exact yr rfl rfl))|((with_reducible apply dS 15 hC hR);(simp only[qL];rfl);decide +kernel;exact iQ;(exact yr rfl rfl))|((with_reducible apply dS 16 hC hR);(simp only[qL];rfl);decide +kernel;exact iQ;(exact yr rfl rfl))|((with_reducible apply dS 17 hC hR);(simp only[qL];rfl);decide +kernel;exact iQ;(exact yr rfl rfl))|((with_reducible apply dS 18 hC hR);(simp only[qL];rfl);decide +kernel;exact iQ;(exact yr rfl rfl)));(clear hR hC;intro hR hC))|((with_reducible apply ym);decide +kernel;clear hR hC)|(refine yt 23 20 hS (by kernel_rfl) [] rfl ?_;clear hS;intro w hS hR hC));try simp only[qA])
          go_roundw
          case rel=>exact⟨q+1,by go_num,by omega,HN2,hS⟩
          case measure=>simp[intOf];omega
        ·obtain rfl:q=21:=by omega
         have hsg:=signNone _ HN.out
         have ht4:=HT3.out
         rw[hsg] at ht4
         have HT4:=hid ht4
         have hjl:(j:Int)≤1048576:=by omega
         clear ht4 hsg HT3 HN
         go_wp2_with ((first|((with_reducible apply KN hS);exact ya;rfl;(((repeat (with_reducible apply yd)));(try assumption));assumption;decide +kernel)|((with_reducible apply yi hS);exact ya;exact yb rfl;exact yb rfl;exact ye;rfl;(focus (simp;done));exact Upd.hd;rfl;exact sz72;rfl;clear hS;intro w hS;(try simp only[yp,qS] at hS)));try simp only[qA])
         refine bodyPost_ret (yI rfl rfl (hS.loadWhole (by(exact ye)) (by kernel_rfl) (by kernel_rfl))) rfl ?_
         refine ⟨?_,hS.sb (by(repeat (with_reducible first|exact Sb.refl|apply Sb.skip)))⟩
         rw[HT4.out]
         rfl
  ·obtain rfl:j=text.length:=by omega
   have hRl:R=text.length:=by rw[HJ.out,Yf,List.drop_length];rfl
   have ht2:=HT.out
   rw[if_pos hRl] at ht2
   have HT2:=hid ht2
   clear ht2 hRl HJ
   go_wp2_with ((with_reducible apply yi hS);exact ya;exact yb rfl;exact yb rfl;exact ye;rfl;(focus (simp;done));exact Upd.hd;rfl;exact sz72;rfl;clear hS;intro w hS;(try simp only[yp,qS] at hS);(try simp only[qA]))
   refine bodyPost_ret (yI rfl rfl (hS.loadWhole (by(exact ye)) (by kernel_rfl) (by kernel_rfl))) rfl ?_
   rw[HT2.out]
   exact⟨rfl,hS.sb (by(repeat (with_reducible first|exact Sb.refl|apply Sb.skip)))⟩
end
end Go.Proofs.YteopodbkhgcpmaaGreatDoor
namespace Go.SL
section
open Go Go.RowKit
theorem Ks {P:Program} {ops:Array Oper} {Q:Exit→Act→World→Prop} {md:Region.Mode} {S:World→Prop} {js:List Nat} {i i2:Nat} {oi oi2:Oper} {fuel:Nat} {listed:Array Bool} {a:Act} {w:World} (hi:ops[i]?=some oi) (hi2:ops[i2]?=some oi2) (hr:Region.ready md ops listed=[i,i2]) (hc:Closed md ops listed)
  (h:wpList P ops (Exit.then (Cont P md ops Q S js fuel (listed.setIfInBounds i true)) Q) [oi] a w) (h':wpList P ops (Exit.then (Cont P md ops Q S js fuel (listed.setIfInBounds i2 true)) Q) [oi2] a w):Yx P md ops Q S js (fuel+1) listed a w:=by
 refine ⟨fun h0=>(by rw[hr] at h0;cases h0),fun j hj=>?_⟩
 have hmem:=hj
 rw[hr] at hj
 have hj2:j=i∨j=i2:=by simpa using hj
 rcases hj2 with rfl|rfl
 ·refine wpOp_mono (K:=Cont P md ops Q S js fuel (listed.setIfInBounds j true)) (fun a' w' h''=>⟨h''.1,h''.2 (hc.set hmem)⟩) ?_
  unfold wpOp
  simp only[hi]
  simp only[wpList] at h
  split
  ·rename_i hw
   rw[if_pos hw] at h
   rcases h with h1|⟨h1,h2⟩
   ·left
    unfold Oper.wp at *
    generalize (execOp a.eval oi).run P w=r at *
    cases r with
    | ok n w'=>cases n <;> simp only[Oper.upon] at h1 ⊢ <;> first|exact h1|exact Calls.mono h1 (fun e w'' he=>by cases e <;> first|exact he|(obtain⟨a0,w0,h0⟩:=he;exact⟨a0,w0,h0⟩))|exact Rows.mono h1 (fun _ _ he=>he)
    | halt x w'=>cases x <;> simp only[Oper.upon] at h1 ⊢ <;> exact h1
   ·right
    obtain⟨a0,w0,h0⟩:=h2
    exact⟨h1,a0,w0,h0⟩
  ·rename_i hw
   rw[if_neg hw] at h
   exact h
 ·refine wpOp_mono (K:=Cont P md ops Q S js fuel (listed.setIfInBounds j true)) (fun a' w' h''=>⟨h''.1,h''.2 (hc.set hmem)⟩) ?_
  unfold wpOp
  simp only[hi2]
  simp only[wpList] at h'
  split
  ·rename_i hw
   rw[if_pos hw] at h'
   rcases h' with h1|⟨h1,h2⟩
   ·left
    unfold Oper.wp at *
    generalize (execOp a.eval oi2).run P w=r at *
    cases r with
    | ok n w'=>cases n <;> simp only[Oper.upon] at h1 ⊢ <;> first|exact h1|exact Calls.mono h1 (fun e w'' he=>by cases e <;> first|exact he|(obtain⟨a0,w0,h0⟩:=he;exact⟨a0,w0,h0⟩))|exact Rows.mono h1 (fun _ _ he=>he)
    | halt x w'=>cases x <;> simp only[Oper.upon] at h1 ⊢ <;> exact h1
   ·right
    obtain⟨a0,w0,h0⟩:=h2
    exact⟨h1,a0,w0,h0⟩
  ·rename_i hw
   rw[if_neg hw] at h'
   exact h'
end
end Go.SL
namespace Go.Proofs.YteopodbkhgcpmaaGreatDoor
section
open Go Go.RowKit Go.SL

theorem gv (st:List T) (op n:Int) :
  (YG st op n=none∧(Ya op n < 0∨(¬ Ya op n < 0∧Ya op n > (st.length:Int)))) ∨
  (op=1∧Ya op n=0∧YG st op n=some (.cst n::st)) ∨
  (op=2∧Ya op n=0∧YG st op n=some (.var n::st)) ∨
  (∃ a r,st=a::r∧op=3∧Ya op n=1∧YG st op n=some (.neg a::r)) ∨
  (∃ a r,st=a::r∧(op=4∨op=5)∧Ya op n=1∧YG st op n=some (.qu op n a::r)) ∨
  (∃ a b r,st=b::a::r∧(6≤op∧op≤10)∧Ya op n=2∧YG st op n=some (.bin op a b::r)) ∨
  (∃ c a b r,st=b::a::c::r∧op=11∧Ya op n=3∧YG st op n=some (.ite c a b::r)):=by
 by_cases c1:op=1∧(n=0∨n=1)
 ·refine .inr (.inl ⟨c1.1,?_,?_⟩)
  ·unfold Ya;rw[if_pos (.inl c1)]
  ·unfold YG;rw[if_pos c1]
 by_cases c2:op=2∧0≤n∧n < 65536
 ·refine .inr (.inr (.inl ⟨c2.1,?_,?_⟩))
  ·unfold Ya;rw[if_pos (.inr c2)]
  ·unfold YG;rw[if_neg c1,if_pos c2]
 have e0:¬ (op=1∧(n=0∨n=1)∨op=2∧0≤n∧n < 65536):=by rintro (h|h);exact c1 h;exact c2 h
 by_cases c3:op=3∧n=0
 ·have ea:Ya op n=1:=by unfold Ya;rw[if_neg e0,if_pos (.inl c3)]
  have es:YG st op n=(match st with|a::r=>some (.neg a::r)|_=>none):=by unfold YG;rw[if_neg c1,if_neg c2,if_pos c3] <;> rfl
  cases st with
  | nil=>exact .inl ⟨es,.inr ⟨by omega,by simp[ea]⟩⟩
  | cons a r=>exact .inr (.inr (.inr (.inl ⟨a,r,rfl,c3.1,ea,es⟩)))
 by_cases c4:(op=4∨op=5)∧0≤n∧n < 65536
 ·have ea:Ya op n=1:=by unfold Ya;rw[if_neg e0,if_pos (.inr c4)]
  have es:YG st op n=(match st with|a::r=>some (.qu op n a::r)|_=>none):=by unfold YG;rw[if_neg c1,if_neg c2,if_neg c3,if_pos c4] <;> rfl
  cases st with
  | nil=>exact .inl ⟨es,.inr ⟨by omega,by simp[ea]⟩⟩
  | cons a r=>exact .inr (.inr (.inr (.inr (.inl ⟨a,r,rfl,c4.1,ea,es⟩))))
 have e1:¬ (op=3∧n=0∨(op=4∨op=5)∧0≤n∧n < 65536):=by rintro (h|h);exact c3 h;exact c4 h
 by_cases c5:6≤op∧op≤10∧n=0
 ·have ea:Ya op n=2:=by unfold Ya;rw[if_neg e0,if_neg e1,if_pos c5]
  have es:YG st op n=(match st with|b::a::r=>some (.bin op a b::r)|_=>none):=by unfold YG;rw[if_neg c1,if_neg c2,if_neg c3,if_neg c4,if_pos c5] <;> rfl
  rcases st with _|⟨b,_|⟨a,r⟩⟩
  ·exact .inl ⟨es,.inr ⟨by omega,by simp[ea]⟩⟩
  ·exact .inl ⟨es,.inr ⟨by omega,by simp[ea]⟩⟩
  ·exact .inr (.inr (.inr (.inr (.inr (.inl ⟨a,b,r,rfl,⟨c5.1,c5.2.1⟩,ea,es⟩)))))
 by_cases c6:op=11∧n=0
 ·have ea:Ya op n=3:=by unfold Ya;rw[if_neg e0,if_neg e1,if_neg c5,if_pos c6]
  have es:YG st op n=(match st with|b::a::c::r=>some (.ite c a b::r)|_=>none):=by unfold YG;rw[if_neg c1,if_neg c2,if_neg c3,if_neg c4,if_neg c5,if_pos c6] <;> rfl
  rcases st with _|⟨b,_|⟨a,_|⟨c,r⟩⟩⟩
  ·exact .inl ⟨es,.inr ⟨by omega,by simp[ea]⟩⟩
  ·exact .inl ⟨es,.inr ⟨by omega,by simp[ea]⟩⟩
  ·exact .inl ⟨es,.inr ⟨by omega,by simp[ea]⟩⟩
  ·exact .inr (.inr (.inr (.inr (.inr (.inr ⟨c,a,b,r,rfl,c6.1,ea,es⟩)))))
 ·refine .inl ⟨?_,.inl ?_⟩
  ·unfold YG;rw[if_neg c1,if_neg c2,if_neg c3,if_neg c4,if_neg c5,if_neg c6]
  ·unfold Ya;rw[if_neg e0,if_neg e1,if_neg c5,if_neg c6];omega

def Fs:List (Int × Int)→List Value
 | []=>[]
 | x::xs=>.int .i64 x.1::.int .i64 x.2::Fs xs
theorem kJ:∀ fs:List (Int × Int),(Fs fs).length=fs.length*2
 | []=>rfl
 | x::xs=>by simp[Fs,kJ xs];omega
theorem GA:∀ (fs:List (Int × Int)) (k:Nat),(Fs fs).drop (k*2)=Fs (fs.drop k)
 | [],k=>by simp[Fs]
 | x::xs,0=>by simp
 | x::xs,k+1=>by
  have:(k+1)*2=k*2+1+1:=by omega
  rw[this]
  simp only[Fs,List.drop_succ_cons,GA xs k]
theorem Xw {fs:List (Int × Int)} {k:Nat} {op n:Int} (h:fs[k]?=some (op,n)):((Fs fs).drop (k*2)).take 2=[.int .i64 op,.int .i64 n]:=by
 rw[GA]
 have hk:=(List.getElem?_eq_some_iff.1 h).1
 rw[List.drop_eq_getElem_cons hk]
 have:fs[k]=(op,n):=(List.getElem?_eq_some_iff.1 h).2
 rw[this]
 rfl
def Vs (H:Hp):List T→List Value→Prop
 | [],vs=>vs=[]
 | t::st,vs=>∃ vs' v,vs=vs'++[v]∧Vs H st vs'∧InT H t v
theorem Vs.ext {H H':Hp} (h:Ext H H'):∀ {st:List T} {vs:List Value},Vs H st vs→Vs H' st vs
 | [],_,k=>k
 | _::_,_,⟨vs',v,e,k,k'⟩=>⟨vs',v,e,k.ext h,k'.ext h⟩
theorem Vs.len {H:Hp}:∀ {st:List T} {vs:List Value},Vs H st vs→vs.length=st.length
 | [],_,k=>by simp only[Vs] at k;subst k;rfl
 | _::_,_,⟨vs',v,e,k,k'⟩=>by subst e;simp[k.len]
def TI (fs:List (Int × Int)) (k:Nat) (st:List T):Prop:=Kn [] (fs.take k)=some st
theorem TI.zero (fs:List (Int × Int)):TI fs 0 []:=rfl
theorem TI.step {fs:List (Int × Int)} {k:Nat} {st st':List T} {op n:Int} (h:TI fs k st) (hx:fs[k]?=some (op,n)) (hs:YG st op n=some st'):TI fs (k+1) st':=by
 unfold TI at *
 have hk:=(List.getElem?_eq_some_iff.1 hx).1
 rw[List.take_succ_eq_append_getElem hk,YI,h]
 have:fs[k]=(op,n):=(List.getElem?_eq_some_iff.1 hx).2
 simp[this,Kn,hs]
theorem TI.bad {fs:List (Int × Int)} {k:Nat} {st:List T} {op n:Int} (h:TI fs k st) (hx:fs[k]?=some (op,n)) (hs:YG st op n=none):jm fs=none:=by
 unfold TI at *
 have hk:=(List.getElem?_eq_some_iff.1 hx).1
 have he:fs[k]=(op,n):=(List.getElem?_eq_some_iff.1 hx).2
 have hr:Kn [] fs=none:=by
  conv=>lhs;rw[← List.take_append_drop k fs]
  rw[YI,h,List.drop_eq_getElem_cons hk,he]
  simp[Kn,hs]
 unfold jm
 split
 ·rfl
 ·rw[hr]
theorem TI.done {fs:List (Int × Int)} {st:List T} (h:TI fs fs.length st) (hl:fs.length≤65536):(∃ t,st=[t]∧jm fs=some t)∨(st.length≠1∧jm fs=none):=by
 unfold TI at h
 rw[List.take_length] at h
 unfold jm
 rw[if_neg (by omega),h]
 rcases st with _|⟨a,_|⟨b,r⟩⟩
 ·exact .inr ⟨by simp,rfl⟩
 ·exact .inl ⟨a,rfl,rfl⟩
 ·exact .inr ⟨by simp,rfl⟩
theorem TI.bnd {fs:List (Int × Int)} {k:Nat} {st:List T} (h:TI fs k st) (hl:fs.length≤65536):st.length≤65536∧∀ t∈st,okT t∧size t≤65536:=by
 unfold TI at h
 have h1:=stack_le h
 have h2:=Xl _ _ _ h (by simp)
 have h3:(fs.take k).length≤65536:=by rw[List.length_take];omega
 exact⟨by omega,fun t ht=>⟨h2 t ht,by have:=h1.2 t ht;omega⟩⟩
end
end Go.Proofs.YteopodbkhgcpmaaGreatDoor
