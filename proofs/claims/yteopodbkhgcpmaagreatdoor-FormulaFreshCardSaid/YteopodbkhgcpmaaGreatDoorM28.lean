/- A part of the proof: Apart2 ApartN StN ApartN2. -/
import Derived.Test.YteopodbkhgcpmaaGreatDoorM1
import Derived.Test.YteopodbkhgcpmaaGreatDoorM2
import Derived.Test.YteopodbkhgcpmaaGreatDoorM3
import Derived.Test.YteopodbkhgcpmaaGreatDoorM8
import Derived.Test.YteopodbkhgcpmaaGreatDoorM10
import Derived.Test.YteopodbkhgcpmaaGreatDoorM20
import Derived.Test.YteopodbkhgcpmaaGreatDoorM27
set_option linter.unusedSimpArgs false
set_option linter.unusedVariables false
set_option linter.unusedSectionVars false
namespace Go.Proofs.YteopodbkhgcpmaaGreatDoor
section
set_option maxRecDepth 20000
open Go Go.RowKit Go.SL

set_option maxHeartbeats 4000000 in
theorem gY (its:List It) (hlen:its.length≤6) (hx:∀ t∈its,t.xs.length≤1000000000) (adA:Option Addr) (capA:Nat) (w0 w:World) (Hs:List HP) {A:HP} (hA:A∈Hs) (hr:Rd A adA (its.map itV)) (hS:Sat w0 w (Ym (its.map itO)::Hs)) :
  Calls Tryz.prog 12 #[.slice adA its.length capA] w fun e w'=>e=.returned (.bool true)∧Sat w0 w' Hs:=by
 replace hS:=hS.ownNil 31 1
 have hvl:(its.map itV).length=its.length:=by simp
 go_enter Tryz.func12,Tryz.ntmps12
 go_wp2
 go_loopw [4,3] (fun iv mv wr=>∃ (k:Nat) (adM:Option Addr) (capM:Nat),iv=.int .i64 k∧mv=.slice adM k capM∧k≤its.length∧Sat w0 wr (own 31 1 adM k capM ((its.take k).map itV)::Ym ((ovL k its).map itO)::Hs)) (fun iv _ _=>its.length - (intOf iv).toNat)
 case atStart=>exact⟨0,none,0,rfl,rfl,Nat.zero_le _,by rw[ovL_zero];exact hS⟩
 case round =>
  clear hS
  obtain⟨k,adM,capM,rfl,rfl,hk,hS⟩:=hrel
  by_cases hlt:k < its.length
  ·obtain⟨t,ht⟩:∃ t,its[k]?=some t:=⟨_,List.getElem?_eq_getElem hlt⟩
   have htl:=hx t (List.mem_of_getElem? ht)
   have hcell:(its.map itV)[k]?=some (.slice t.ad t.xs.length t.cap):=by simp[ht,itV]
   have hkt:(k:Int) < (its.length:Int):=by omega
   have hne:∃ aa,adA=some aa∧aa.spot=none:=Sat.rdAd2 hr hS (.tail _ (.tail _ hA)) (by omega)
   have htake:((ovL k its).map itO)[k]?=some (itO t):=by rw[List.getElem?_map,Uv ht];simp
   have hS2:=Kj htake (hS.front (Rem.tl Rem.hd))
   clear hS
   have hS:Sat w0 wr (own 3 1 t.ad t.xs.length t.cap (Is (ovI k 0 t.xs))::Ym (((ovL k its).map itO).eraseIdx k)::own 31 1 adM k capM ((its.take k).map itV)::Hs):=by rw[ovI_zero];exact hS2
   clear hS2
   have HT:=hid ht
   have HTK:=hid (show (its.take k).map itV++[Value.slice t.ad t.xs.length t.cap]=(its.take (k+1)).map itV by rw[List.take_add_one,ht,List.map_append];rfl)
   clear ht htake
   generalize hX:((ovL k its).map itO).eraseIdx k=X at *
   have HX:=hid hX
   clear hX
   go_wp2
   go_loopw [5] (fun jv wr=>∃ j:Nat,jv=.int .i64 j∧j≤t.xs.length∧Sat w0 wr (own 3 1 t.ad t.xs.length t.cap (Is (ovI k j t.xs))::Ym X::own 31 1 adM k capM ((its.take k).map itV)::Hs)) (fun jv _=>t.xs.length - (intOf jv).toNat)
   case atStart=>exact⟨0,rfl,Nat.zero_le _,hS⟩
   case round =>
    clear hS
    obtain⟨j,rfl,hj,hS⟩:=hrel
    by_cases hjl:j < t.xs.length
    ·have hjt:(j:Int) < (t.xs.length:Int):=by omega
     have hol:(Is (ovI k j t.xs)).length=t.xs.length:=by rw[kx,ovI_len hj]
     have hst:=hid (ovI_set (i:=k) hjl)
     go_wp2_with ((first|((with_reducible apply yn);exact ya;exact yb rfl;exact yb rfl;(with_reducible first|exact E31|exact E41);(omega);(omega);(first|exact hS.ownNN (by(repeat (with_reducible first|exact ye|apply yd))) (by omega)|exact Sat.rdAd2 (by assumption) hS (by((repeat (with_reducible apply yd)));try assumption) (by omega));(simp only[qN];rfl))|((with_reducible apply yF);exact ya;exact yb rfl;(exact Sat.rdCell2 (by assumption) hS (by((repeat (with_reducible apply yd)));try assumption) (by(assumption)));decide +kernel)|((with_reducible apply jr hS);exact ya;exact yb rfl;exact yb rfl;exact ye;(omega);exact Upd.hd;rfl;decide +kernel;clear hS;intro w hS));try simp only[qA])
     have e:(Is (ovI k j t.xs)).set j (Value.int .i64 (10000000*((k:Int)+1)+j))=Is (ovI k (j+1) t.xs):=by rw[← hst.out];simp[Is,List.map_set]
     rw[e] at hS
     go_roundw
     case rel=>exact⟨j+1,by go_num,by omega,hS⟩
     case measure=>simp[intOf];omega
    ·have hjl2:¬ (j:Int) < (t.xs.length:Int):=by omega
     have HJ:=hid (show ovI k j t.xs=mkI k t.xs.length from ovI_all (by omega))
     go_wp2_with ((first|((with_reducible apply yn);exact ya;exact yb rfl;exact yb rfl;exact E41;(omega);(omega);(exact Sat.rdAd2 (by assumption) hS (by((repeat (with_reducible apply yd)));try assumption) (by omega));(simp only[qN];rfl))|((with_reducible apply yF);exact ya;exact yb rfl;(exact Sat.rdCell2 (by assumption) hS (by((repeat (with_reducible apply yd)));try assumption) (by(assumption)));decide +kernel)|((with_reducible apply yA hS);exact ya;exact E41;exact yb rfl;exact yN rfl;rfl;decide;clear hS;intro NB w hS)|((with_reducible apply yD hS);exact ya;exact yb rfl;exact yb rfl;exact E41;(repeat (with_reducible first|exact Rem.hd|apply Rem.tl));(repeat (with_reducible apply Rem.tl));rfl;rfl;(omega);(omega);clear hS;intro AD CAP w hS;(try simp only[Nat.zero_add,List.nil_append] at hS)));try simp only[qA])
     rw[HTK.out,HJ.out] at hS
     have hT2:own 3 1 t.ad t.xs.length t.cap (Is (mkI k t.xs.length))=itO { t with xs:=mkI k t.xs.length }:=by simp[itO,kj]
     rw[hT2] at hS
     have hS2:=hS.front (Rem.tl Rem.hd)
     have hS3:Sat w0 w (itO { t with xs:=mkI k t.xs.length }::Ym (((ovL k its).map itO).eraseIdx k)::own 31 1 AD (k+1) CAP ((its.take (k+1)).map itV)::Hs):=by rw[HX.out];exact(hS2.front (Rem.tl (Rem.tl Rem.hd))).front (Rem.tl Rem.hd)
     have hS4:=KF (by simpa [ovL] using hlt) hS3
     have hL:((ovL k its).map itO).set k (itO { t with xs:=mkI k t.xs.length })=(ovL (k+1) its).map itO:=by rw[← ovL_step HT.out,List.map_set]
     rw[hL] at hS4
     clear hS hS2 hS3
     go_roundw
     case rel=>exact⟨k+1,AD,CAP,by go_num,rfl,by omega,hS4.front (Rem.tl Rem.hd)⟩
     case measure=>simp[intOf];omega
  ·obtain rfl:k=its.length:=by omega
   rw[List.take_length,prW_start] at hS
   replace hS:=(hS.front (Rem.tl Rem.hd)).turn (pr_start its)
   have hg0:(its.map fun t=>(t.ad,t.cap)).length=its.length:=by simp
   generalize (its.map fun t=>(t.ad,t.cap))=gs0 at *
   have hkn:¬ (its.length:Int) < (its.length:Int):=by omega
   go_wp2
   go_loopw [6] (fun qv wr=>∃ (q:Nat) (gs:List (Option Addr × Nat)),qv=.int .i64 q∧q≤70∧gs.length=its.length∧Sat w0 wr (Ym (prL its gs (fun _=>q))::own 31 1 adM its.length capM (prW its gs (fun _=>q))::Hs)) (fun qv _=>70 - (intOf qv).toNat)
   case atStart=>exact⟨0,gs0,rfl,by omega,hg0,hS⟩
   case round =>
    clear hS hg0
    obtain⟨q,gs0,rfl,hq,hg0,hS⟩:=hrel
    by_cases hqt:q < 70
    ·have hqi:(q:Int) < 70:=by omega
     rw[← xN q] at hS
     go_wp2
     go_loopw [7] (fun iv wr=>∃ (i:Nat) (gs:List (Option Addr × Nat)),iv=.int .i64 i∧i≤its.length∧gs.length=its.length∧Sat w0 wr (Ym (prL its gs (YC i q))::own 31 1 adM its.length capM (prW its gs (YC i q))::Hs)) (fun iv _=>its.length - (intOf iv).toNat)
     case atStart=>exact⟨0,gs0,rfl,Nat.zero_le _,hg0,hS⟩
     case round =>
      clear hS hg0 gs0
      obtain⟨i,gs,rfl,hi,hgl,hS⟩:=hrel
      by_cases hlt:i < its.length
      ·obtain⟨t,ht⟩:∃ t,its[i]?=some t:=⟨_,List.getElem?_eq_getElem hlt⟩
       obtain⟨g,hg⟩:∃ g,gs[i]?=some g:=⟨_,List.getElem?_eq_getElem (by omega)⟩
       have htl:=hx t (List.mem_of_getElem? ht)
       have hit:(i:Int) < (its.length:Int):=by omega
       have hqi2:YC i q i=q:=by simp[YC]
       have hcell:(prW its gs (YC i q))[i]?=some (.slice g.1 (t.xs.length+q) g.2):=by rw[Gh ht hg,hqi2];rfl
       have htake:=Gg (qf:=YC i q) ht hg
       rw[hqi2] at htake
       have hS2:=Kj htake hS
       have hwl:=prW_len (qf:=YC i q) hgl
       have HL:=hid (Xh (q:=q) (g':=g) prO ht hg)
       have HST:=hid (fun g'=>And.intro (Xh (q:=q) (g':=g') prO ht hg) (Xh (q:=q) (g':=g') (fun _=>prV) ht hg))
       have HLL:=hid (Xg (qf:=YC i q) hgl)
       generalize hX:(prL its gs (YC i q)).eraseIdx i=X at *
       have HX:=hid hX
       obtain⟨ga,gc⟩:=g
       clear hS htake hX ht hg
       have hS:Sat w0 wr (par 3 1 t.ad t.xs.length t.cap (Is (mkI i t.xs.length)) ga (t.xs.length+q) gc (Is (enI i q))::Ym X::own 31 1 adM its.length capM (prW its gs (YC i q))::Hs):=hS2
       clear hS2
       dsimp only at hcell
       go_wp2_with ((first|((with_reducible apply yn);exact ya;exact yb rfl;exact yb rfl;exact E41;(omega);(omega);(exact hS.ownNN (by(repeat (with_reducible first|exact ye|apply yd))) (by omega));(simp only[qN];rfl))|((with_reducible apply yF);exact ya;exact yb rfl;(exact(hS.ownCell (by(repeat (with_reducible first|exact ye|apply yd))) (by(assumption))).1);decide +kernel)|((with_reducible apply yA hS);exact ya;exact E31;exact yb rfl;exact yN rfl;rfl;decide;clear hS;intro NB w hS)|((with_reducible apply uu hS);exact ya;exact yb rfl;exact yb rfl;exact E31;(repeat (with_reducible first|exact Rem.hd|apply Rem.tl));(repeat (with_reducible apply Rem.tl));rfl;decide;rfl;(omega);(omega);clear hS;intro AD CAP w hS)|((with_reducible apply jr hS);exact ya;exact yb rfl;exact yb rfl;(repeat (with_reducible first|exact ye|apply yd));(omega);(repeat (with_reducible first|exact Upd.hd|apply Upd.tl));rfl;decide +kernel;clear hS;intro w hS));try simp only[qA])
       have e1:Is (enI i q)++[Value.int .i64 (-1000*((i:Int)+1) - q)]=Is (enI i (q+1)):=by rw[← enI_snoc];simp[Is]
       rw[e1] at hS
       have hS3:Sat w0 w (prO i t (AD,CAP) (q+1)::Ym ((prL its gs (YC i q)).eraseIdx i)::own 31 1 adM its.length capM ((prW its gs (YC i q)).set i (.slice AD (t.xs.length+q+1) CAP))::Hs):=by rw[HX.out];exact hS
       have hS4:=KF (by rw[HLL.out];exact hlt) hS3
       obtain⟨h1,h2⟩:=HST.out (AD,CAP)
       have h3:(prL its gs (YC i q)).set i (prO i t (AD,CAP) (q+1))=prL its (gs.set i (AD,CAP)) (YC (i+1) q):=h1
       have h4:(prW its gs (YC i q)).set i (Value.slice AD (t.xs.length+q+1) CAP)=prW its (gs.set i (AD,CAP)) (YC (i+1) q):=h2
       rw[h3,h4] at hS4
       clear hS hS3 h1 h2 h3 h4
       go_roundw
       case rel=>exact⟨i+1,gs.set i (AD,CAP),by go_num,by omega,by simp[hgl],hS4⟩
       case measure=>simp[intOf];omega
      ·obtain rfl:i=its.length:=by omega
       have h1:prL its gs (YC its.length q)=prL its gs (fun _=>q+1):=gB prO
       have h2:prW its gs (YC its.length q)=prW its gs (fun _=>q+1):=gB (fun _=>prV)
       rw[h1,h2] at hS
       clear h1 h2
       go_wp2
       go_roundw
       case rel=>exact⟨q+1,gs,by go_num,by omega,hgl,hS⟩
       case measure=>simp[intOf];omega
    ·obtain rfl:q=70:=by omega
     have hqi:¬ ((70:Nat):Int) < 70:=by omega
     have hgl:=hg0
     go_wp2
     go_loopw [8] (fun iv wr=>∃ i:Nat,iv=.int .i64 i∧i≤its.length∧Sat w0 wr (Ym (prL its gs0 (fun _=>70))::own 31 1 adM its.length capM (prW its gs0 (fun _=>70))::Hs)) (fun iv _=>its.length - (intOf iv).toNat)
     case atStart=>exact⟨0,rfl,Nat.zero_le _,hS⟩
     case round =>
      clear hS
      obtain⟨i,rfl,hi,hS⟩:=hrel
      by_cases hlt:i < its.length
      ·obtain⟨t,ht⟩:∃ t,its[i]?=some t:=⟨_,List.getElem?_eq_getElem hlt⟩
       obtain⟨g,hg⟩:∃ g,gs0[i]?=some g:=⟨_,List.getElem?_eq_getElem (by omega)⟩
       have htl:=hx t (List.mem_of_getElem? ht)
       have hit:(i:Int) < (its.length:Int):=by omega
       have hneA:∃ aa,adA=some aa∧aa.spot=none:=Sat.rdAd2 hr hS (.tail _ (.tail _ hA)) (by omega)
       have hcA:(its.map itV)[i]?=some (.slice t.ad t.xs.length t.cap):=by simp[ht,itV]
       have hcW:(prW its gs0 (fun _=>70))[i]?=some (.slice g.1 (t.xs.length+70) g.2):=by rw[Gh ht hg];rfl
       have htake:=Gg (qf:=fun _=>70) ht hg
       have hwl:=prW_len (qf:=fun _=>70) hgl
       have hneW:∃ aa,adM=some aa∧aa.spot=none:=hS.ownNN (.tail _ (.head _)) (by omega)
       have hRW:Rd (own 31 1 adM its.length capM (prW its gs0 (fun _=>70))) adM (prW its gs0 (fun _=>70)):=Rd.of_own
       have hS2:=Kj htake hS
       have HLL:=hid (show Sat w0 wr (Ym (prL its gs0 (fun _=>70))::own 31 1 adM its.length capM (prW its gs0 (fun _=>70))::Hs) from hS)
       clear hS
       have hS:Sat w0 wr (par 3 1 t.ad t.xs.length t.cap (Is (mkI i t.xs.length)) g.1 (t.xs.length+70) g.2 (Is (enI i 70))::Ym ((prL its gs0 (fun _=>70)).eraseIdx i)::own 31 1 adM its.length capM (prW its gs0 (fun _=>70))::Hs):=hS2
       have hback:∀ w,Sat w0 w (par 3 1 t.ad t.xs.length t.cap (Is (mkI i t.xs.length)) g.1 (t.xs.length+70) g.2 (Is (enI i 70))::Ym ((prL its gs0 (fun _=>70)).eraseIdx i)::own 31 1 adM its.length capM (prW its gs0 (fun _=>70))::Hs)→Sat w0 w (Ym (prL its gs0 (fun _=>70))::own 31 1 adM its.length capM (prW its gs0 (fun _=>70))::Hs):=fun w h=>by
        have h2:=KF (A:=prO i t g 70) (L:=prL its gs0 (fun _=>70)) (i:=i) (by rw[Xg hgl];exact hlt) h
        have h3:(prL its gs0 (fun _=>70)).set i (prO i t g 70)=prL its gs0 (fun _=>70):=by
         apply List.ext_getElem?
         intro j
         by_cases hj:i=j
         ·subst hj;rw[List.getElem?_set_self (by rw[Xg hgl];exact hlt),htake]
         ·rw[List.getElem?_set_ne hj]
        rwa [h3] at h2
       have HB:=hid hback
       have hR0:Rd (par 3 1 t.ad t.xs.length t.cap (Is (mkI i t.xs.length)) g.1 (t.xs.length+70) g.2 (Is (enI i 70))) t.ad (Is (mkI i t.xs.length)):=GZ
       have hR1:Rd (par 3 1 t.ad t.xs.length t.cap (Is (mkI i t.xs.length)) g.1 (t.xs.length+70) g.2 (Is (enI i 70))) g.1 (Is (mkI i t.xs.length)++Is (enI i 70)):=par_rd
       have hl0:(Is (mkI i t.xs.length)).length=t.xs.length:=by rw[kx,kj]
       have hl1:(Is (mkI i t.xs.length)++Is (enI i 70)).length=t.xs.length+70:=by rw[List.length_append,kx,kx,kj,enI_len]
       have hne1:∃ aa,g.1=some aa∧aa.spot=none:=Sat.rdAd2 hR1 hS (.head _) (by omega)
       generalize (prL its gs0 (fun _=>70)).eraseIdx i=X at *
       generalize prW its gs0 (fun _=>70)=W at *
       generalize prL its gs0 (fun _=>70)=L at *
       obtain⟨ga,gc⟩:=g
       dsimp only at hcW hne1 hR1
       clear hback htake HLL hS2 ht hg
       go_wp2_with ((first|((with_reducible apply yn);exact ya;exact yb rfl;exact yb rfl;exact E41;(omega);(omega);(exact Sat.rdAd2 (by assumption) hS (by((repeat (with_reducible apply yd)));try assumption) (by omega));(simp only[qN];rfl))|((with_reducible apply yF);exact ya;exact yb rfl;(exact Sat.rdCell2 (by assumption) hS (by((repeat (with_reducible apply yd)));try assumption) (by(assumption)));decide +kernel));try simp only[qA])
       go_loopw [10] (fun jv wr=>∃ j:Nat,jv=.int .i64 j∧j≤t.xs.length∧Sat w0 wr (par 3 1 t.ad t.xs.length t.cap (Is (mkI i t.xs.length)) ga (t.xs.length+70) gc (Is (enI i 70))::Ym X::own 31 1 adM its.length capM W::Hs)) (fun jv _=>t.xs.length - (intOf jv).toNat)
       case atStart=>exact⟨0,rfl,Nat.zero_le _,hS⟩
       case round =>
        clear hS
        obtain⟨j,rfl,hj,hS⟩:=hrel
        by_cases hjl:j < t.xs.length
        ·have hjt:(j:Int) < (t.xs.length:Int):=by omega
         have hc0:(Is (mkI i t.xs.length))[j]?=some (.int .i64 (10000000*((i:Int)+1)+j)):=us (xX hjl)
         have hc1:(Is (mkI i t.xs.length)++Is (enI i 70))[j]?=some (.int .i64 (10000000*((i:Int)+1)+j)):=by rw[List.getElem?_append_left (by omega)];exact hc0
         have hne0:∃ aa,t.ad=some aa∧aa.spot=none:=Sat.rdAd2 hR0 hS (.head _) (by omega)
         go_wp2_with ((first|((first|((with_reducible apply dP 0 hC hR);(simp only[qL];rfl);decide +kernel;exact iQ;exact ya)|((with_reducible apply dP 1 hC hR);(simp only[qL];rfl);decide +kernel;exact iQ;exact ya)|((with_reducible apply dP 4 hC hR);(simp only[qL];rfl);decide +kernel;exact iQ;exact ya)|((with_reducible apply dP 7 hC hR);(simp only[qL];rfl);decide +kernel;exact iQ;exact ya)|((with_reducible apply dP 9 hC hR);(simp only[qL];rfl);decide +kernel;exact iQ;exact ya)|((with_reducible apply dP 10 hC hR);(simp only[qL];rfl);decide +kernel;exact iQ;exact ya)|((with_reducible apply dP 12 hC hR);(simp only[qL];rfl);decide +kernel;exact iQ;exact ya)|((with_reducible apply dP 13 hC hR);(simp only[qL];rfl);decide +kernel;exact iQ;exact ya)|((with_reducible apply dP 14 hC hR);(simp only[qL];rfl);decide +kernel;exact iQ;exact yf rfl rfl)|((with_reducible apply dP 15 hC hR);(simp only[qL];rfl);decide +kernel;exact iQ;exact yf rfl rfl)|((with_reducible apply dP 18 hC hR);(simp only[qL];rfl);decide +kernel;exact iQ;exact yf rfl rfl)|((with_reducible apply dP 21 hC hR);(simp only[qL];rfl);decide +kernel;exact iQ;exact yf rfl rfl)|((with_reducible apply dP 22 hC hR);(simp only[qL];rfl);decide +kernel;exact iQ;exact yf rfl rfl)|((with_reducible apply dP 25 hC hR);(simp only[qL];rfl);decide +kernel;exact iQ;exact yf rfl rfl)|((with_reducible apply dP 28 hC hR);(simp only[qL];rfl);decide +kernel;exact iQ;exact yf rfl rfl)|((with_reducible apply dP 29 hC hR);(simp only[qL];rfl);decide +kernel;exact iQ;exact ya));(intro w;first|(go_simp;done)|(go_simp;rw[yo (by omega) (by omega)])|(go_simp;with_reducible rfl)|(go_simp;rfl));(clear hR hC;intro hR hC))|((first|((with_reducible apply dP 2 hC hR);(simp only[qL];rfl);decide +kernel;exact iQ;exact ya)|((with_reducible apply dP 5 hC hR);(simp only[qL];rfl);decide +kernel;exact iQ;exact ya)|((with_reducible apply dP 16 hC hR);(simp only[qL];rfl);decide +kernel;exact iQ;exact yf rfl rfl)|((with_reducible apply dP 19 hC hR);(simp only[qL];rfl);decide +kernel;exact iQ;exact yf rfl rfl)|((with_reducible apply dP 23 hC hR);(simp only[qL];rfl);decide +kernel;exact iQ;exact yf rfl rfl)|((with_reducible apply dP 26 hC hR);(simp only[qL];rfl);decide +kernel;exact iQ;exact yf rfl rfl));(intro w;first|(with_reducible exact yu E31 rfl (by(first|exact yb rfl|exact yg)) (by(first|exact yb rfl|exact yg)) (by(omega)) (by(omega)) (by(exact Sat.rdAd2 (by assumption) hS (by((exact ye));try assumption) (by omega))) (by(simp only[qN];rfl)))|(with_reducible exact yu E41 rfl (by(exact yb rfl)) (by(exact yb rfl)) (by(omega)) (by(omega)) (by(first|exact hS.ownNN (by(repeat (with_reducible first|exact ye|apply yd))) (by omega)|exact Sat.rdAd2 (by assumption) hS (by((repeat (with_reducible apply yd)));try assumption) (by omega))) (by(simp only[qN];rfl)))|(go_simp;done)|(go_simp;rw[yo (by omega) (by omega)])|(go_simp;with_reducible rfl));(clear hR hC;intro hR hC))|((first|((with_reducible apply dP 8 hC hR);(simp only[qL];rfl);decide +kernel;exact iQ;exact ya)|((with_reducible apply dP 11 hC hR);(simp only[qL];rfl);decide +kernel;exact iQ;exact ya));(intro w;first|(exact Yd rfl (by(exact yg)) (by(exact yg)) (by(omega)))|(go_simp;done)|(go_simp;rw[yo (by omega) (by omega)])|(go_simp;with_reducible rfl)|(go_simp;rfl));(clear hR hC;intro hR hC))|((first|((with_reducible apply dR 3 hC hR);(simp only[qL];rfl);decide +kernel;exact iQ;exact ya)|((with_reducible apply dR 6 hC hR);(simp only[qL];rfl);decide +kernel;exact iQ;exact ya)|((with_reducible apply dR 17 hC hR);(simp only[qL];rfl);decide +kernel;exact iQ;exact yf rfl rfl)|((with_reducible apply dR 20 hC hR);(simp only[qL];rfl);decide +kernel;exact iQ;exact yf rfl rfl)|((with_reducible apply dR 24 hC hR);(simp only[qL];rfl);decide +kernel;exact iQ;exact yf rfl rfl)|((with_reducible apply dR 27 hC hR);(simp only[qL];rfl);decide +kernel;exact iQ;exact yf rfl rfl));(intro w hS;(apply yj rfl (by(exact yb rfl)));first|exact yc (by decide +kernel) (hS.cell (by(repeat (with_reducible apply yd))) rfl)|exact yc (by decide +kernel) ((hS.ownCell (by(repeat (with_reducible first|exact ye|apply yd))) (by(assumption))).1)|exact yc (by decide +kernel) (Sat.rdCell2 (by assumption) hS (by((repeat (with_reducible first|exact ye|apply yd)));try assumption) (by(assumption)))|exact yc (by decide +kernel) (hS.baseCell (by((repeat (with_reducible apply yd)));try assumption) (by assumption))|exact yc (by decide +kernel) (fzC (by assumption) hS (by((repeat (with_reducible apply yd)));try assumption))|exact yl hS (by assumption) (by((repeat (with_reducible apply yd)));try assumption) (by assumption) (by rfl) (by fail) (by decide +kernel) (by decide)|exact hS.loadWhole (by(repeat (with_reducible apply yd))) (by kernel_rfl) (by kernel_rfl));(clear hR hC;intro hR hC))|((with_reducible apply ym);decide +kernel;clear hR hC)|(refine yt 24 30 hS (by kernel_rfl) [] rfl ?_;clear hS;intro w hS hR hC));try simp only[qA])
         go_roundw
         case rel=>exact⟨j+1,by go_num,by omega,hS⟩
         case measure=>simp[intOf];omega
        ·have hjt:¬ (j:Int) < (t.xs.length:Int):=by omega
         go_wp2
         go_loopw [11] (fun pv wr=>∃ p:Nat,pv=.int .i64 p∧p≤70∧Sat w0 wr (par 3 1 t.ad t.xs.length t.cap (Is (mkI i t.xs.length)) ga (t.xs.length+70) gc (Is (enI i 70))::Ym X::own 31 1 adM its.length capM W::Hs)) (fun pv _=>70 - (intOf pv).toNat)
         case atStart=>exact⟨0,rfl,Nat.zero_le _,hS⟩
         case round =>
          clear hS
          obtain⟨p,rfl,hp,hS⟩:=hrel
          by_cases hpl:p < 70
          ·have hpt:(p:Int) < 70:=by omega
           have hpp:((t.xs.length:Int)+(p:Int)).toNat=t.xs.length+p:=by omega
           have hc1:(Is (mkI i t.xs.length)++Is (enI i 70))[t.xs.length+p]?=some (.int .i64 (-1000*((i:Int)+1) - p)):=by
            rw[List.getElem?_append_right (by omega),hl0,Nat.add_sub_cancel_left]
            exact us (enI_at hpl)
           go_wp2_with ((first|((with_reducible apply yn);exact ya;exact yb rfl;exact yb rfl;(with_reducible first|exact E31|exact E41);(omega);(omega);(first|exact hS.ownNN (by(repeat (with_reducible first|exact ye|apply yd))) (by omega)|exact Sat.rdAd2 (by assumption) hS (by((exact ye));try assumption) (by omega));(simp only[qN];rfl))|((with_reducible apply yF);exact ya;exact yb rfl;(first|exact(hS.ownCell (by(repeat (with_reducible first|exact ye|apply yd))) (by(assumption))).1|exact Sat.rdCell2 (by assumption) hS (by((exact ye));try assumption) (by(assumption)));decide +kernel));try simp only[qA])
           go_roundw
           case rel=>exact⟨p+1,by go_num,by omega,hS⟩
           case measure=>simp[intOf];omega
          ·have hpt:¬ (p:Int) < 70:=by omega
           go_wp2
           go_roundw
           case rel=>exact⟨i+1,by go_num,by omega,HB.out _ hS⟩
           case measure=>simp[intOf];omega
      ·have hin:¬ (i:Int) < (its.length:Int):=by omega
       go_wp2
       go_ret
       exact⟨rfl,hS.drop.drop⟩
end
section
set_option maxRecDepth 20000
open Go Go.RowKit Go.SL

structure Nt where
 ad:Option Addr
 cap:Nat
 xs:List (Int × Int)
def ntV (t:Nt):Value:=.slice t.ad t.xs.length t.cap
def ntO (t:Nt):HP:=own 44 2 t.ad t.xs.length t.cap (Fs t.xs)
def mkN (i n:Nat):List (Int × Int):=(List.range n).map fun k:Nat=>(1000000*((i:Int)+1)+(k:Int),-(k:Int))
def enN (i n:Nat):List (Int × Int):=(List.range n).map fun k:Nat=>(-1000*((i:Int)+1) - (k:Int),5)
theorem YP (i n:Nat):(mkN i n).length=n:=by simp[mkN]
theorem enN_len (i n:Nat):(enN i n).length=n:=by simp[enN]
theorem xY {i n k:Nat} (h:k < n):(mkN i n)[k]?=some (1000000*((i:Int)+1)+k,-(k:Int)):=by simp[mkN,h]
theorem enN_at {i n k:Nat} (h:k < n):(enN i n)[k]?=some (-1000*((i:Int)+1) - k,5):=by simp[enN,h]
theorem enN_snoc (i n:Nat):enN i n++[(-1000*((i:Int)+1) - n,5)]=enN i (n+1):=by simp[enN,List.range_succ]
def ovN (i k:Nat) (xs:List (Int × Int)):List (Int × Int):=(mkN i k)++xs.drop k
theorem ovN_zero (i:Nat) (xs:List (Int × Int)):ovN i 0 xs=xs:=by simp[ovN,mkN]
theorem ovN_len {i k:Nat} {xs:List (Int × Int)} (h:k≤xs.length):(ovN i k xs).length=xs.length:=by simp[ovN,YP];omega
theorem ovN_all {i k:Nat} {xs:List (Int × Int)} (h:k=xs.length):ovN i k xs=mkN i xs.length:=by subst h;simp[ovN]
theorem ovN_set {i k:Nat} {xs:List (Int × Int)} (h:k < xs.length):(ovN i k xs).set k (1000000*((i:Int)+1)+k,-(k:Int))=ovN i (k+1) xs:=by
 apply List.ext_getElem?
 intro j
 unfold ovN
 rcases Nat.lt_trichotomy j k with hj|hj|hj
 ·rw[List.getElem?_set_ne (by omega),List.getElem?_append_left (by rw[YP];omega),List.getElem?_append_left (by rw[YP];omega),xY hj,xY (by omega)]
 ·subst hj
  rw[List.getElem?_set_self (by simp[YP];omega),List.getElem?_append_left (by rw[YP];omega),xY (by omega)]
 ·rw[List.getElem?_set_ne (by omega),List.getElem?_append_right (by rw[YP];omega),List.getElem?_append_right (by rw[YP];omega),YP,YP,List.getElem?_drop,List.getElem?_drop]
  congr 1
  omega
def ovM (k:Nat) (its:List Nt):List Nt:=its.mapIdx fun j t=>if j < k then { t with xs:=mkN j t.xs.length } else t
theorem ovM_zero (its:List Nt):ovM 0 its=its:=by
 apply List.ext_getElem?
 intro j
 simp[ovM,List.getElem?_mapIdx]
theorem Uw {k j:Nat} {its:List Nt} {t:Nt} (h:its[j]?=some t):(ovM k its)[j]?=some (if j < k then { t with xs:=mkN j t.xs.length } else t):=by
 simp[ovM,List.getElem?_mapIdx,h]
theorem ovM_step {k:Nat} {its:List Nt} {t:Nt} (h:its[k]?=some t):(ovM k its).set k { t with xs:=mkN k t.xs.length }=ovM (k+1) its:=by
 have hk:=(List.getElem?_eq_some_iff.1 h).1
 apply List.ext_getElem?
 intro j
 by_cases hj:k=j
 ·subst hj
  rw[List.getElem?_set_self (by simpa [ovM] using hk),Uw h,if_pos (by omega)]
 ·rw[List.getElem?_set_ne hj]
  cases hx:its[j]? with
  | none=>simp[ovM,List.getElem?_mapIdx,hx]
  | some u =>
   rw[Uw hx,Uw hx]
   by_cases h1:j < k
   ·rw[if_pos h1,if_pos (by omega)]
   ·rw[if_neg h1,if_neg (by omega)]
/-! ### What has grown -/
def qrO (j:Nat) (t:Nt) (g:Option Addr × Nat) (q:Nat):HP:=par 44 2 t.ad t.xs.length t.cap (Fs (mkN j t.xs.length)) g.1 (t.xs.length+q) g.2 (Fs (enN j q))
def qrV (t:Nt) (g:Option Addr × Nat) (q:Nat):Value:=.slice g.1 (t.xs.length+q) g.2
def qrL (its:List Nt) (gs:List (Option Addr × Nat)) (qf:Nat→Nat):List HP:=(its.zip gs).mapIdx fun j p=>qrO j p.1 p.2 (qf j)
def qrW (its:List Nt) (gs:List (Option Addr × Nat)) (qf:Nat→Nat):List Value:=(its.zip gs).mapIdx fun j p=>qrV p.1 p.2 (qf j)
section
variable {its:List Nt} {gs:List (Option Addr × Nat)} {qf:Nat→Nat} {i q:Nat} {t:Nt} {g g':Option Addr × Nat}
theorem JP (ht:its[i]?=some t) (hg:gs[i]?=some g):(its.zip gs)[i]?=some (t,g):=by rw[List.getElem?_zip_eq_some];exact⟨ht,hg⟩
theorem Gi (ht:its[i]?=some t) (hg:gs[i]?=some g):(qrL its gs qf)[i]?=some (qrO i t g (qf i)):=by simp[qrL,List.getElem?_mapIdx,JP ht hg]
theorem Gj (ht:its[i]?=some t) (hg:gs[i]?=some g):(qrW its gs qf)[i]?=some (qrV t g (qf i)):=by simp[qrW,List.getElem?_mapIdx,JP ht hg]
theorem Xj (h:gs.length=its.length):(qrL its gs qf).length=its.length:=by simp[qrL,h]
theorem qrW_len (h:gs.length=its.length):(qrW its gs qf).length=its.length:=by simp[qrW,h]
theorem Xk {β:Type} (F:Nat→Nt→(Option Addr × Nat)→Nat→β) (ht:its[i]?=some t) (hg:gs[i]?=some g):((its.zip gs).mapIdx fun j p=>F j p.1 p.2 (YC i q j)).set i (F i t g' (q+1))=(its.zip (gs.set i g')).mapIdx fun j p=>F j p.1 p.2 (YC (i+1) q j):=by
 have hil:=(List.getElem?_eq_some_iff.1 ht).1
 have hgl:=(List.getElem?_eq_some_iff.1 hg).1
 apply List.ext_getElem?
 intro j
 by_cases hj:i=j
 ·subst hj
  rw[List.getElem?_set_self (by simp;omega),List.getElem?_mapIdx,JP ht (List.getElem?_set_self hgl)]
  simp[YC]
 ·rw[List.getElem?_set_ne hj,List.getElem?_mapIdx,List.getElem?_mapIdx]
  have e:(its.zip (gs.set i g'))[j]?=(its.zip gs)[j]?:=by
   cases h1:its[j]? with
   | none=>rw[List.getElem?_eq_none (by have:=List.getElem?_eq_none_iff.1 h1;simp;omega),List.getElem?_eq_none (by have:=List.getElem?_eq_none_iff.1 h1;simp;omega)]
   | some u =>
    cases h2:gs[j]? with
    | none=>rw[List.getElem?_eq_none (by have:=List.getElem?_eq_none_iff.1 h2;simp;omega),List.getElem?_eq_none (by have:=List.getElem?_eq_none_iff.1 h2;simp;omega)]
    | some v=>rw[JP h1 h2,JP h1 (by rw[List.getElem?_set_ne hj];exact h2)]
  rw[e]
  have:YC (i+1) q j=YC i q j:=by
   unfold YC
   by_cases h1:j < i
   ·rw[if_pos h1,if_pos (by omega)]
   ·rw[if_neg h1,if_neg (by omega)]
  rw[this]
end
theorem qr_start (its:List Nt):∀ h,Ym ((ovM its.length its).map ntO) h→Ym (qrL its (its.map fun t=>(t.ad,t.cap)) (fun _=>0)) h:=by
 refine uj (by simp[qrL,ovM]) fun i A B ha hb h H=>?_
 obtain⟨u,hu,rfl⟩:∃ u,(ovM its.length its)[i]?=some u∧ntO u=A:=by simpa [List.getElem?_map] using ha
 have hi:i < its.length:=by have:=(List.getElem?_eq_some_iff.1 hu).1;simpa [ovM] using this
 obtain⟨t,ht⟩:∃ t,its[i]?=some t:=⟨_,List.getElem?_eq_getElem hi⟩
 rw[Uw ht,if_pos hi] at hu
 rw[Gi ht (g:=(t.ad,t.cap)) (by simp[ht])] at hb
 simp only[Option.some.injEq] at hu hb
 subst hu
 subst hb
 simp only[ntO,YP] at H
 exact⟨true,⟨rfl,rfl,by rw[kJ,YP],by omega⟩,by simpa [enN,Fs] using H⟩
theorem qrW_start (its:List Nt):its.map ntV=qrW its (its.map fun t=>(t.ad,t.cap)) (fun _=>0):=by
 apply List.ext_getElem?
 intro i
 cases ht:its[i]? with
 | none=>rw[List.getElem?_eq_none (by have:=List.getElem?_eq_none_iff.1 ht;simpa using this),List.getElem?_eq_none (by have:=List.getElem?_eq_none_iff.1 ht;simpa [qrW] using this)]
 | some t=>rw[Gj ht (g:=(t.ad,t.cap)) (by simp[ht]),List.getElem?_map,ht];rfl
theorem xM {its:List Nt} {gs:List (Option Addr × Nat)} {q:Nat} {β:Type} (F:Nat→Nt→(Option Addr × Nat)→Nat→β):((its.zip gs).mapIdx fun j p=>F j p.1 p.2 (YC its.length q j))=(its.zip gs).mapIdx fun j p=>F j p.1 p.2 (q+1):=by
 apply List.ext_getElem?
 intro j
 rw[List.getElem?_mapIdx,List.getElem?_mapIdx]
 cases h:(its.zip gs)[j]? with
 | none=>rfl
 | some p =>
  have hj:=(List.getElem?_eq_some_iff.1 h).1
  simp at hj
  simp[YC,show j < its.length by omega]
theorem GB:∀ (l:List (Int × Int)) (j:Nat) (a b:Int),((Fs l).set (j*2) (.int .i64 a)).set (j*2+1) (.int .i64 b)=Fs (l.set j (a,b))
 | [],j,a,b=>by simp[Fs]
 | x::xs,0,a,b=>by simp[Fs]
 | x::xs,j+1,a,b=>by
  have ih:=GB xs j a b
  rw[show (j+1)*2+1=(j*2+1)+2 by omega,show (j+1)*2=j*2+2 by omega]
  simp only[Fs,List.set_cons_succ]
  rw[ih]
theorem uP (a b:List (Int × Int)):Fs (a++b)=Fs a++Fs b:=by
 induction a with
 | nil=>rfl
 | cons x a ih=>simp[Fs,ih]
theorem FsC {fs:List (Int × Int)} {k:Nat} {op n:Int} (h:fs[k]?=some (op,n)):(Fs fs)[k*2+0]?=some (.int .i64 op)∧(Fs fs)[k*2+1]?=some (.int .i64 n):=by
 have h1:=Xw h
 have e0:((Fs fs).drop (k*2))[0]?=some (.int .i64 op):=by
  have:=congrArg (fun l=>l[0]?) h1
  simpa [List.getElem?_take] using this
 have e1:((Fs fs).drop (k*2))[1]?=some (.int .i64 n):=by
  have:=congrArg (fun l=>l[1]?) h1
  simpa [List.getElem?_take] using this
 rw[List.getElem?_drop] at e0 e1
 exact⟨e0,e1⟩
end
end Go.Proofs.YteopodbkhgcpmaaGreatDoor
namespace Go.SL
section
open Go Go.RowKit
section
variable {P:Program} {ops:Array Oper} {Q:Exit→Act→World→Prop} {rest:List Oper} {a:Act} {w w0:World} {Hs R:List HP} {e:TypeId} {size n cap:Nat} {ad:Option Addr} {xs:List Value}
theorem ge {j:Nat} (v:Value) (hS:Sat w0 w (own e size ad n cap xs::R)) (hlt:j < xs.length):Sat w0 (w.setCell (adr ad j) v) (own e size ad n cap (xs.set j v)::R):=by
 obtain⟨hc,hf,g,hg,he⟩:=hS.ownCell ye (List.getElem?_eq_getElem hlt)
 have hxl:=hS.ownLen ye
 refine gh (by simp) hS ⟨g,hg⟩ rfl rfl rfl (by simp) fun b cur hb hcl hcur hh=>?_
 rw[hg] at hb
 have hbe:g=b:=by simpa using hb
 subst hbe
 rw[he]
 refine ⟨cur.set j v,by simpa using hcl,by rw[← hcur,List.take_set],?_,fun c hc=>Below.heap_setCell _ _ _ _ hc⟩
 simp[World.setCell,Array.getElem?_modify,hh]
theorem KE (off:Nat):∀ (vs:List Value) (i:Nat) (w:World) (xs:List Value),Sat w0 w (own e size ad n cap xs::R)→off+i+vs.length≤xs.length→(∀ v∈vs,v.oneCell'=true)→(∃ g,ad=some ⟨g,0,none⟩) →
  ∃ w',(storeCells (adr ad off) vs i).run P w=.ok () w'∧Sat w0 w' (own e size ad n cap (yp xs (off+i) vs)::R)
 | [],i,w,xs,hS,_,_,_=>⟨w,by simp[storeCells],hS⟩
 | v::vs,i,w,xs,hS,hl,h1,hne=>by
  simp only[List.length_cons] at hl
  obtain⟨g,hg⟩:=hne
  obtain⟨hc,hf,_,_,he⟩:=hS.ownCell ye (List.getElem?_eq_getElem (show off+i < xs.length by omega))
  have hS':=ge (j:=off+i) v hS (by omega)
  obtain⟨w',hr,hS2⟩:=KE off vs (i+1) _ _ hS' (by simp;omega) (fun u hu=>h1 u (by simp[hu])) ⟨g,hg⟩
  have hv:=h1 v (by simp)
  refine ⟨w',?_,hS2⟩
  have ea:(adr ad off).add i=adr ad (off+i):=by rw[hg];simp[adr,jQ]
  simp only[storeCells,ea]
  have hst:(store (adr ad (off+i)) v).run P w=.ok () (w.setCell (adr ad (off+i)) v):=by
   cases v <;> simp_all [store,Sem.run,Value.oneCell']
  simp[hst,hr]
theorem XI {dst:Option Tmp} {t:TypeId} {x y:Operand} {ty:TypeId} {pos:String} {after:Array Edge} {gd:Option (Nat × Bool)} (hS:Sat w0 w Hs)
  (hw:Region.wanted ⟨dst,.store t x y,ty,pos,after,gd⟩ (yielded ops a.tmps)=true) {j:Nat} (hx:a.eval x=.pointer (some (adr ad j))) {vs:List Value} (hy:a.eval y=.agg vs.toArray) {xs':List Value}
  (hm:own e size ad n cap xs∈Hs) (hcs:yp xs j vs=xs') (hlt:j+vs.length≤xs.length) (h0:0 < xs.length) {Hs':List HP} (u:Upd Hs (own e size ad n cap xs) (own e size ad n cap xs') Hs') (h1:vs.all (·.oneCell')=true) {m:Nat} (ht:Yp P t=some m) (hn:vs.length=m)
  (K:∀ w',Sat w0 w' Hs'→wpList P ops Q rest (a.put dst undef) w'):wpList P ops Q (⟨dst,.store t x y,ty,pos,after,gd⟩::rest) a w:=by
 subst hcs
 obtain⟨R,r1,r2⟩:=u.rem
 obtain⟨_,_,g,hg,_⟩:=hS.ownCell hm (List.getElem?_eq_getElem h0)
 obtain⟨w',hr,hS'⟩:=KE (P:=P) j vs 0 w xs (hS.front r1) (by omega) (fun v hv=>List.all_eq_true.1 h1 v hv) ⟨g,hg⟩
 have hs:=Ki ht w
 refine KY hw (kV rfl hx hy ?_) (K w' (hS'.put r2))
 simp[storeVar,hs,Value.cells,hn,hr]
end
end
end Go.SL
namespace Go.Proofs.YteopodbkhgcpmaaGreatDoor
section
set_option maxRecDepth 20000
open Go Go.RowKit Go.SL

set_option maxHeartbeats 4000000 in
theorem XV (its:List Nt) (hlen:its.length≤6) (hx:∀ t∈its,t.xs.length≤1000000000) (adA:Option Addr) (capA:Nat) (w0 w:World) (Hs:List HP) {A:HP} (hA:A∈Hs) (hr:Rd A adA (its.map ntV)) (hS:Sat w0 w (Ym (its.map ntO)::Hs)) :
  Calls Tryz.prog 11 #[.slice adA its.length capA] w fun e w'=>e=.returned (.bool true)∧Sat w0 w' Hs:=by
 replace hS:=hS.ownNil 23 1
 have hvl:(its.map ntV).length=its.length:=by simp
 go_enter Tryz.func11,Tryz.ntmps11
 go_wp2
 go_loopw [4,3] (fun iv mv wr=>∃ (k:Nat) (adM:Option Addr) (capM:Nat),iv=.int .i64 k∧mv=.slice adM k capM∧k≤its.length∧Sat w0 wr (own 23 1 adM k capM ((its.take k).map ntV)::Ym ((ovM k its).map ntO)::Hs)) (fun iv _ _=>its.length - (intOf iv).toNat)
 case atStart=>exact⟨0,none,0,rfl,rfl,Nat.zero_le _,by rw[ovM_zero];exact hS⟩
 case round =>
  clear hS
  obtain⟨k,adM,capM,rfl,rfl,hk,hS⟩:=hrel
  by_cases hlt:k < its.length
  ·obtain⟨t,ht⟩:∃ t,its[k]?=some t:=⟨_,List.getElem?_eq_getElem hlt⟩
   have htl:=hx t (List.mem_of_getElem? ht)
   have hcell:(its.map ntV)[k]?=some (.slice t.ad t.xs.length t.cap):=by simp[ht,ntV]
   have hkt:(k:Int) < (its.length:Int):=by omega
   have hne:∃ aa,adA=some aa∧aa.spot=none:=Sat.rdAd2 hr hS (.tail _ (.tail _ hA)) (by omega)
   have htake:((ovM k its).map ntO)[k]?=some (ntO t):=by rw[List.getElem?_map,Uw ht];simp
   have hS2:=Kj htake (hS.front (Rem.tl Rem.hd))
   clear hS
   have hS:Sat w0 wr (own 44 2 t.ad t.xs.length t.cap (Fs (ovN k 0 t.xs))::Ym (((ovM k its).map ntO).eraseIdx k)::own 23 1 adM k capM ((its.take k).map ntV)::Hs):=by rw[ovN_zero];exact hS2
   clear hS2
   have HT:=hid ht
   have HTK:=hid (show (its.take k).map ntV++[Value.slice t.ad t.xs.length t.cap]=(its.take (k+1)).map ntV by rw[List.take_add_one,ht,List.map_append];rfl)
   clear ht htake
   generalize hX:((ovM k its).map ntO).eraseIdx k=X at *
   have HX:=hid hX
   clear hX
   go_wp2
   go_loopw [5] (fun jv wr=>∃ j:Nat,jv=.int .i64 j∧j≤t.xs.length∧Sat w0 wr (own 44 2 t.ad t.xs.length t.cap (Fs (ovN k j t.xs))::Ym X::own 23 1 adM k capM ((its.take k).map ntV)::Hs)) (fun jv _=>t.xs.length - (intOf jv).toNat)
   case atStart=>exact⟨0,rfl,Nat.zero_le _,hS⟩
   case round =>
    clear hS
    obtain⟨j,rfl,hj,hS⟩:=hrel
    by_cases hjl:j < t.xs.length
    ·have hjt:(j:Int) < (t.xs.length:Int):=by omega
     have hol:(Fs (ovN k j t.xs)).length=t.xs.length*2:=by rw[kJ,ovN_len hj]
     have hst:=hid (ovN_set (i:=k) hjl)
     go_wp2_with ((first|((with_reducible apply yn);exact ya;exact yb rfl;exact yb rfl;(with_reducible first|exact E23|exact E39);(omega);(omega);(first|exact hS.ownNN (by(repeat (with_reducible first|exact ye|apply yd))) (by omega)|exact Sat.rdAd2 (by assumption) hS (by((repeat (with_reducible apply yd)));try assumption) (by omega));(simp only[qN];rfl))|((with_reducible apply yF);exact ya;exact yb rfl;(exact Sat.rdCell2 (by assumption) hS (by((repeat (with_reducible apply yd)));try assumption) (by(assumption)));decide +kernel)|((with_reducible apply XI hS);exact ya;exact yb rfl;exact yb rfl;exact ye;rfl;(simp;omega);(omega);exact Upd.hd;rfl;exact sz44;rfl;clear hS;intro w hS;(try simp only[yp,qS] at hS)));try simp only[qA])
     have e:=GB (ovN k j t.xs) j (1000000*((k:Int)+1)+j) (-(j:Int))
     rw[hst.out] at e
     rw[e] at hS
     go_roundw
     case rel=>exact⟨j+1,by go_num,by omega,hS⟩
     case measure=>simp[intOf];omega
    ·have hjl2:¬ (j:Int) < (t.xs.length:Int):=by omega
     have HJ:=hid (show ovN k j t.xs=mkN k t.xs.length from ovN_all (by omega))
     go_wp2_with ((first|((with_reducible apply yn);exact ya;exact yb rfl;exact yb rfl;exact E39;(omega);(omega);(exact Sat.rdAd2 (by assumption) hS (by((repeat (with_reducible apply yd)));try assumption) (by omega));(simp only[qN];rfl))|((with_reducible apply yF);exact ya;exact yb rfl;(exact Sat.rdCell2 (by assumption) hS (by((repeat (with_reducible apply yd)));try assumption) (by(assumption)));decide +kernel)|((with_reducible apply yA hS);exact ya;exact E39;exact yb rfl;exact yN rfl;rfl;decide;clear hS;intro NB w hS)|((with_reducible apply yD hS);exact ya;exact yb rfl;exact yb rfl;exact E39;(repeat (with_reducible first|exact Rem.hd|apply Rem.tl));(repeat (with_reducible apply Rem.tl));rfl;rfl;(omega);(omega);clear hS;intro AD CAP w hS;(try simp only[Nat.zero_add,List.nil_append] at hS)));try simp only[qA])
     rw[HTK.out,HJ.out] at hS
     have hT2:own 44 2 t.ad t.xs.length t.cap (Fs (mkN k t.xs.length))=ntO { t with xs:=mkN k t.xs.length }:=by simp[ntO,YP]
     rw[hT2] at hS
     have hS2:=hS.front (Rem.tl Rem.hd)
     have hS3:Sat w0 w (ntO { t with xs:=mkN k t.xs.length }::Ym (((ovM k its).map ntO).eraseIdx k)::own 23 1 AD (k+1) CAP ((its.take (k+1)).map ntV)::Hs):=by rw[HX.out];exact(hS2.front (Rem.tl (Rem.tl Rem.hd))).front (Rem.tl Rem.hd)
     have hS4:=KF (by simpa [ovM] using hlt) hS3
     have hL:((ovM k its).map ntO).set k (ntO { t with xs:=mkN k t.xs.length })=(ovM (k+1) its).map ntO:=by rw[← ovM_step HT.out,List.map_set]
     rw[hL] at hS4
     clear hS hS2 hS3
     go_roundw
     case rel=>exact⟨k+1,AD,CAP,by go_num,rfl,by omega,hS4.front (Rem.tl Rem.hd)⟩
     case measure=>simp[intOf];omega
  ·obtain rfl:k=its.length:=by omega
   rw[List.take_length,qrW_start] at hS
   replace hS:=(hS.front (Rem.tl Rem.hd)).turn (qr_start its)
   have hg0:(its.map fun t=>(t.ad,t.cap)).length=its.length:=by simp
   generalize (its.map fun t=>(t.ad,t.cap))=gs0 at *
   have hkn:¬ (its.length:Int) < (its.length:Int):=by omega
   go_wp2
   go_loopw [6] (fun qv wr=>∃ (q:Nat) (gs:List (Option Addr × Nat)),qv=.int .i64 q∧q≤70∧gs.length=its.length∧Sat w0 wr (Ym (qrL its gs (fun _=>q))::own 23 1 adM its.length capM (qrW its gs (fun _=>q))::Hs)) (fun qv _=>70 - (intOf qv).toNat)
   case atStart=>exact⟨0,gs0,rfl,by omega,hg0,hS⟩
   case round =>
    clear hS hg0
    obtain⟨q,gs0,rfl,hq,hg0,hS⟩:=hrel
    by_cases hqt:q < 70
    ·have hqi:(q:Int) < 70:=by omega
     rw[← xN q] at hS
     go_wp2
     go_loopw [7] (fun iv wr=>∃ (i:Nat) (gs:List (Option Addr × Nat)),iv=.int .i64 i∧i≤its.length∧gs.length=its.length∧Sat w0 wr (Ym (qrL its gs (YC i q))::own 23 1 adM its.length capM (qrW its gs (YC i q))::Hs)) (fun iv _=>its.length - (intOf iv).toNat)
     case atStart=>exact⟨0,gs0,rfl,Nat.zero_le _,hg0,hS⟩
     case round =>
      clear hS hg0 gs0
      obtain⟨i,gs,rfl,hi,hgl,hS⟩:=hrel
      by_cases hlt:i < its.length
      ·obtain⟨t,ht⟩:∃ t,its[i]?=some t:=⟨_,List.getElem?_eq_getElem hlt⟩
       obtain⟨g,hg⟩:∃ g,gs[i]?=some g:=⟨_,List.getElem?_eq_getElem (by omega)⟩
       have htl:=hx t (List.mem_of_getElem? ht)
       have hit:(i:Int) < (its.length:Int):=by omega
       have hqi2:YC i q i=q:=by simp[YC]
       have hcell:(qrW its gs (YC i q))[i]?=some (.slice g.1 (t.xs.length+q) g.2):=by rw[Gj ht hg,hqi2];rfl
       have htake:=Gi (qf:=YC i q) ht hg
       rw[hqi2] at htake
       have hS2:=Kj htake hS
       have hwl:=qrW_len (qf:=YC i q) hgl
       have HL:=hid (Xk (q:=q) (g':=g) qrO ht hg)
       have HST:=hid (fun g'=>And.intro (Xk (q:=q) (g':=g') qrO ht hg) (Xk (q:=q) (g':=g') (fun _=>qrV) ht hg))
       have HLL:=hid (Xj (qf:=YC i q) hgl)
       generalize hX:(qrL its gs (YC i q)).eraseIdx i=X at *
       have HX:=hid hX
       obtain⟨ga,gc⟩:=g
       clear hS htake hX ht hg
       have hS:Sat w0 wr (par 44 2 t.ad t.xs.length t.cap (Fs (mkN i t.xs.length)) ga (t.xs.length+q) gc (Fs (enN i q))::Ym X::own 23 1 adM its.length capM (qrW its gs (YC i q))::Hs):=hS2
       clear hS2
       dsimp only at hcell
       go_wp2_with ((first|((with_reducible apply yn);exact ya;exact yb rfl;exact yb rfl;exact E39;(omega);(omega);(exact hS.ownNN (by(repeat (with_reducible first|exact ye|apply yd))) (by omega));(simp only[qN];rfl))|((with_reducible apply yF);exact ya;exact yb rfl;(exact(hS.ownCell (by(repeat (with_reducible first|exact ye|apply yd))) (by(assumption))).1);decide +kernel)|((with_reducible apply yA hS);exact ya;exact E23;exact yb rfl;exact yw;rfl;decide;clear hS;intro NB w hS)|((with_reducible apply uu hS);exact ya;exact yb rfl;exact yb rfl;exact E23;(repeat (with_reducible first|exact Rem.hd|apply Rem.tl));(repeat (with_reducible apply Rem.tl));rfl;decide;rfl;(omega);(omega);clear hS;intro AD CAP w hS)|((with_reducible apply jr hS);exact ya;exact yb rfl;exact yb rfl;(repeat (with_reducible first|exact ye|apply yd));(omega);(repeat (with_reducible first|exact Upd.hd|apply Upd.tl));rfl;decide +kernel;clear hS;intro w hS));try simp only[qA])
       have e1:Fs (enN i q)++[Value.int .i64 (-1000*((i:Int)+1) - q),Value.int .i64 5]=Fs (enN i (q+1)):=by rw[← enN_snoc,uP];rfl
       rw[e1] at hS
       have hS3:Sat w0 w (qrO i t (AD,CAP) (q+1)::Ym ((qrL its gs (YC i q)).eraseIdx i)::own 23 1 adM its.length capM ((qrW its gs (YC i q)).set i (.slice AD (t.xs.length+q+1) CAP))::Hs):=by rw[HX.out];exact hS
       have hS4:=KF (by rw[HLL.out];exact hlt) hS3
       obtain⟨h1,h2⟩:=HST.out (AD,CAP)
       have h3:(qrL its gs (YC i q)).set i (qrO i t (AD,CAP) (q+1))=qrL its (gs.set i (AD,CAP)) (YC (i+1) q):=h1
       have h4:(qrW its gs (YC i q)).set i (Value.slice AD (t.xs.length+q+1) CAP)=qrW its (gs.set i (AD,CAP)) (YC (i+1) q):=h2
       rw[h3,h4] at hS4
       clear hS hS3 h1 h2 h3 h4
       go_roundw
       case rel=>exact⟨i+1,gs.set i (AD,CAP),by go_num,by omega,by simp[hgl],hS4⟩
       case measure=>simp[intOf];omega
      ·obtain rfl:i=its.length:=by omega
       have h1:qrL its gs (YC its.length q)=qrL its gs (fun _=>q+1):=xM qrO
       have h2:qrW its gs (YC its.length q)=qrW its gs (fun _=>q+1):=xM (fun _=>qrV)
       rw[h1,h2] at hS
       clear h1 h2
       go_wp2
       go_roundw
       case rel=>exact⟨q+1,gs,by go_num,by omega,hgl,hS⟩
       case measure=>simp[intOf];omega
    ·obtain rfl:q=70:=by omega
     have hqi:¬ ((70:Nat):Int) < 70:=by omega
     have hgl:=hg0
     go_wp2
     go_loopw [8] (fun iv wr=>∃ i:Nat,iv=.int .i64 i∧i≤its.length∧Sat w0 wr (Ym (qrL its gs0 (fun _=>70))::own 23 1 adM its.length capM (qrW its gs0 (fun _=>70))::Hs)) (fun iv _=>its.length - (intOf iv).toNat)
     case atStart=>exact⟨0,rfl,Nat.zero_le _,hS⟩
     case round =>
      clear hS
      obtain⟨i,rfl,hi,hS⟩:=hrel
      by_cases hlt:i < its.length
      ·obtain⟨t,ht⟩:∃ t,its[i]?=some t:=⟨_,List.getElem?_eq_getElem hlt⟩
       obtain⟨g,hg⟩:∃ g,gs0[i]?=some g:=⟨_,List.getElem?_eq_getElem (by omega)⟩
       have htl:=hx t (List.mem_of_getElem? ht)
       have hit:(i:Int) < (its.length:Int):=by omega
       have hneA:∃ aa,adA=some aa∧aa.spot=none:=Sat.rdAd2 hr hS (.tail _ (.tail _ hA)) (by omega)
       have hcA:(its.map ntV)[i]?=some (.slice t.ad t.xs.length t.cap):=by simp[ht,ntV]
       have hcW:(qrW its gs0 (fun _=>70))[i]?=some (.slice g.1 (t.xs.length+70) g.2):=by rw[Gj ht hg];rfl
       have htake:=Gi (qf:=fun _=>70) ht hg
       have hwl:=qrW_len (qf:=fun _=>70) hgl
       have hneW:∃ aa,adM=some aa∧aa.spot=none:=hS.ownNN (.tail _ (.head _)) (by omega)
       have hRW:Rd (own 23 1 adM its.length capM (qrW its gs0 (fun _=>70))) adM (qrW its gs0 (fun _=>70)):=Rd.of_own
       have hS2:=Kj htake hS
       have HLL:=hid (show Sat w0 wr (Ym (qrL its gs0 (fun _=>70))::own 23 1 adM its.length capM (qrW its gs0 (fun _=>70))::Hs) from hS)
       clear hS
       have hS:Sat w0 wr (par 44 2 t.ad t.xs.length t.cap (Fs (mkN i t.xs.length)) g.1 (t.xs.length+70) g.2 (Fs (enN i 70))::Ym ((qrL its gs0 (fun _=>70)).eraseIdx i)::own 23 1 adM its.length capM (qrW its gs0 (fun _=>70))::Hs):=hS2
       have hback:∀ w,Sat w0 w (par 44 2 t.ad t.xs.length t.cap (Fs (mkN i t.xs.length)) g.1 (t.xs.length+70) g.2 (Fs (enN i 70))::Ym ((qrL its gs0 (fun _=>70)).eraseIdx i)::own 23 1 adM its.length capM (qrW its gs0 (fun _=>70))::Hs)→Sat w0 w (Ym (qrL its gs0 (fun _=>70))::own 23 1 adM its.length capM (qrW its gs0 (fun _=>70))::Hs):=fun w h=>by
        have h2:=KF (A:=qrO i t g 70) (L:=qrL its gs0 (fun _=>70)) (i:=i) (by rw[Xj hgl];exact hlt) h
        have h3:(qrL its gs0 (fun _=>70)).set i (qrO i t g 70)=qrL its gs0 (fun _=>70):=by
         apply List.ext_getElem?
         intro j
         by_cases hj:i=j
         ·subst hj;rw[List.getElem?_set_self (by rw[Xj hgl];exact hlt),htake]
         ·rw[List.getElem?_set_ne hj]
        rwa [h3] at h2
       have HB:=hid hback
       have hR0:Rd (par 44 2 t.ad t.xs.length t.cap (Fs (mkN i t.xs.length)) g.1 (t.xs.length+70) g.2 (Fs (enN i 70))) t.ad (Fs (mkN i t.xs.length)):=GZ
       have hR1:Rd (par 44 2 t.ad t.xs.length t.cap (Fs (mkN i t.xs.length)) g.1 (t.xs.length+70) g.2 (Fs (enN i 70))) g.1 (Fs (mkN i t.xs.length++enN i 70)):=by rw[uP];exact par_rd
       have hl0:(Fs (mkN i t.xs.length)).length=t.xs.length*2:=by rw[kJ,YP]
       have hl1:(Fs (mkN i t.xs.length++enN i 70)).length=(t.xs.length+70)*2:=by rw[kJ,List.length_append,YP,enN_len]
       have hne1:∃ aa,g.1=some aa∧aa.spot=none:=Sat.rdAd2 hR1 hS (.head _) (by omega)
       generalize (qrL its gs0 (fun _=>70)).eraseIdx i=X at *
       generalize qrW its gs0 (fun _=>70)=W at *
       generalize qrL its gs0 (fun _=>70)=L at *
       obtain⟨ga,gc⟩:=g
       dsimp only at hcW hne1 hR1
       clear hback htake HLL hS2 ht hg
       go_wp2_with ((first|((with_reducible apply yn);exact ya;exact yb rfl;exact yb rfl;exact E39;(omega);(omega);(exact Sat.rdAd2 (by assumption) hS (by((repeat (with_reducible apply yd)));try assumption) (by omega));(simp only[qN];rfl))|((with_reducible apply yF);exact ya;exact yb rfl;(exact Sat.rdCell2 (by assumption) hS (by((repeat (with_reducible apply yd)));try assumption) (by(assumption)));decide +kernel));try simp only[qA])
       go_loopw [10] (fun jv wr=>∃ j:Nat,jv=.int .i64 j∧j≤t.xs.length∧Sat w0 wr (par 44 2 t.ad t.xs.length t.cap (Fs (mkN i t.xs.length)) ga (t.xs.length+70) gc (Fs (enN i 70))::Ym X::own 23 1 adM its.length capM W::Hs)) (fun jv _=>t.xs.length - (intOf jv).toNat)
       case atStart=>exact⟨0,rfl,Nat.zero_le _,hS⟩
       case round =>
        clear hS
        obtain⟨j,rfl,hj,hS⟩:=hrel
        by_cases hjl:j < t.xs.length
        ·have hjt:(j:Int) < (t.xs.length:Int):=by omega
         have hm0:=xY (i:=i) hjl
         have hm1:(mkN i t.xs.length++enN i 70)[j]?=some (1000000*((i:Int)+1)+j,-(j:Int)):=by rw[List.getElem?_append_left (by rw[YP];omega)];exact hm0
         obtain⟨c00,c01⟩:=FsC hm0
         have d0:=Xw hm0
         have d1:=Xw hm1
         clear hm0 hm1
         have hne0:∃ aa,t.ad=some aa∧aa.spot=none:=Sat.rdAd2 hR0 hS (.head _) (by omega)
         go_wp2_with ((first|((first|((with_reducible apply dP 0 hC hR);(simp only[qL];rfl);decide +kernel;exact iQ;exact ya)|((with_reducible apply dP 1 hC hR);(simp only[qL];rfl);decide +kernel;exact iQ;exact ya)|((with_reducible apply dP 4 hC hR);(simp only[qL];rfl);decide +kernel;exact iQ;exact ya)|((with_reducible apply dP 8 hC hR);(simp only[qL];rfl);decide +kernel;exact iQ;exact ya)|((with_reducible apply dP 10 hC hR);(simp only[qL];rfl);decide +kernel;exact iQ;exact ya)|((with_reducible apply dP 11 hC hR);(simp only[qL];rfl);decide +kernel;exact iQ;exact ya)|((with_reducible apply dP 13 hC hR);(simp only[qL];rfl);decide +kernel;exact iQ;exact ya)|((with_reducible apply dP 14 hC hR);(simp only[qL];rfl);decide +kernel;exact iQ;exact ya)|((with_reducible apply dP 15 hC hR);(simp only[qL];rfl);decide +kernel;exact iQ;exact yf rfl rfl)|((with_reducible apply dP 16 hC hR);(simp only[qL];rfl);decide +kernel;exact iQ;exact yf rfl rfl)|((with_reducible apply dP 19 hC hR);(simp only[qL];rfl);decide +kernel;exact iQ;exact yf rfl rfl)|((with_reducible apply dP 23 hC hR);(simp only[qL];rfl);decide +kernel;exact iQ;exact yf rfl rfl)|((with_reducible apply dP 24 hC hR);(simp only[qL];rfl);decide +kernel;exact iQ;exact yf rfl rfl)|((with_reducible apply dP 25 hC hR);(simp only[qL];rfl);decide +kernel;exact iQ;exact yf rfl rfl)|((with_reducible apply dP 26 hC hR);(simp only[qL];rfl);decide +kernel;exact iQ;exact ya)|((with_reducible apply dP 27 hC hR);(simp only[qL];rfl);decide +kernel;exact iQ;exact ya)|((with_reducible apply dP 28 hC hR);(simp only[qL];rfl);decide +kernel;exact iQ;exact yf rfl rfl)|((with_reducible apply dP 29 hC hR);(simp only[qL];rfl);decide +kernel;exact iQ;exact yf rfl rfl)|((with_reducible apply dP 32 hC hR);(simp only[qL];rfl);decide +kernel;exact iQ;exact yf rfl rfl)|((with_reducible apply dP 35 hC hR);(simp only[qL];rfl);decide +kernel;exact iQ;exact yf rfl rfl)|((with_reducible apply dP 36 hC hR);(simp only[qL];rfl);decide +kernel;exact iQ;exact yf rfl rfl)|((with_reducible apply dP 39 hC hR);(simp only[qL];rfl);decide +kernel;exact iQ;exact yf rfl rfl)|((with_reducible apply dP 42 hC hR);(simp only[qL];rfl);decide +kernel;exact iQ;exact yf rfl rfl)|((with_reducible apply dP 43 hC hR);(simp only[qL];rfl);decide +kernel;exact iQ;exact ya));(intro w;first|(go_simp;done)|(go_simp;rw[yo (by omega) (by omega)])|(go_simp;with_reducible rfl)|(go_simp;rfl));(clear hR hC;intro hR hC))|((first|((with_reducible apply dP 2 hC hR);(simp only[qL];rfl);decide +kernel;exact iQ;exact ya)|((with_reducible apply dP 5 hC hR);(simp only[qL];rfl);decide +kernel;exact iQ;exact ya)|((with_reducible apply dP 17 hC hR);(simp only[qL];rfl);decide +kernel;exact iQ;exact yf rfl rfl)|((with_reducible apply dP 20 hC hR);(simp only[qL];rfl);decide +kernel;exact iQ;exact yf rfl rfl)|((with_reducible apply dP 30 hC hR);(simp only[qL];rfl);decide +kernel;exact iQ;exact yf rfl rfl)|((with_reducible apply dP 33 hC hR);(simp only[qL];rfl);decide +kernel;exact iQ;exact yf rfl rfl)|((with_reducible apply dP 37 hC hR);(simp only[qL];rfl);decide +kernel;exact iQ;exact yf rfl rfl)|((with_reducible apply dP 40 hC hR);(simp only[qL];rfl);decide +kernel;exact iQ;exact yf rfl rfl));(intro w;first|(with_reducible exact yu E23 rfl (by(first|exact yb rfl|exact yg)) (by(first|exact yb rfl|exact yg)) (by(omega)) (by(omega)) (by(exact Sat.rdAd2 (by assumption) hS (by((exact ye));try assumption) (by omega))) (by(simp only[qN];rfl)))|(with_reducible exact yu E39 rfl (by(exact yb rfl)) (by(exact yb rfl)) (by(omega)) (by(omega)) (by(first|exact hS.ownNN (by(repeat (with_reducible first|exact ye|apply yd))) (by omega)|exact Sat.rdAd2 (by assumption) hS (by((repeat (with_reducible apply yd)));try assumption) (by omega))) (by(simp only[qN];rfl)))|(go_simp;done)|(go_simp;rw[yo (by omega) (by omega)])|(go_simp;with_reducible rfl));(clear hR hC;intro hR hC))|((first|((with_reducible apply dP 6 hC hR);(simp only[qL];rfl);decide +kernel;exact iQ;exact ya)|((with_reducible apply dP 21 hC hR);(simp only[qL];rfl);decide +kernel;exact iQ;exact yf rfl rfl));(intro w;first|(exact yz rfl (by(exact yb rfl)) (by assumption) (by with_reducible first|exact fo44_0|exact fo44_1))|(go_simp;done)|(go_simp;rw[yo (by omega) (by omega)])|(go_simp;with_reducible rfl)|(go_simp;rfl));(clear hR hC;intro hR hC))|((first|((with_reducible apply dP 9 hC hR);(simp only[qL];rfl);decide +kernel;exact iQ;exact ya)|((with_reducible apply dP 12 hC hR);(simp only[qL];rfl);decide +kernel;exact iQ;exact ya));(intro w;first|(exact Yd rfl (by(exact yg)) (by(exact yg)) (by(omega)))|(go_simp;done)|(go_simp;rw[yo (by omega) (by omega)])|(go_simp;with_reducible rfl)|(go_simp;rfl));(clear hR hC;intro hR hC))|((first|((with_reducible apply dR 3 hC hR);(simp only[qL];rfl);decide +kernel;exact iQ;exact ya)|((with_reducible apply dR 7 hC hR);(simp only[qL];rfl);decide +kernel;exact iQ;exact ya)|((with_reducible apply dR 18 hC hR);(simp only[qL];rfl);decide +kernel;exact iQ;exact yf rfl rfl)|((with_reducible apply dR 22 hC hR);(simp only[qL];rfl);decide +kernel;exact iQ;exact yf rfl rfl)|((with_reducible apply dR 31 hC hR);(simp only[qL];rfl);decide +kernel;exact iQ;exact yf rfl rfl)|((with_reducible apply dR 34 hC hR);(simp only[qL];rfl);decide +kernel;exact iQ;exact yf rfl rfl)|((with_reducible apply dR 38 hC hR);(simp only[qL];rfl);decide +kernel;exact iQ;exact yf rfl rfl)|((with_reducible apply dR 41 hC hR);(simp only[qL];rfl);decide +kernel;exact iQ;exact yf rfl rfl));(intro w hS;(apply yj rfl (by(exact yb rfl)));first|exact yc (by decide +kernel) (hS.cell (by(repeat (with_reducible apply yd))) rfl)|exact yc (by decide +kernel) ((hS.ownCell (by(repeat (with_reducible first|exact ye|apply yd))) (by(assumption))).1)|exact yc (by decide +kernel) (Sat.rdCell2 (by assumption) hS (by((repeat (with_reducible first|exact ye|apply yd)));try assumption) (by(assumption)))|exact yc (by decide +kernel) (hS.baseCell (by((repeat (with_reducible apply yd)));try assumption) (by assumption))|exact yc (by decide +kernel) (fzC (by assumption) hS (by((repeat (with_reducible apply yd)));try assumption))|exact yl hS (by assumption) (by((exact ye));try assumption) (by assumption) (by rfl) (by with_reducible exact sz44) (by decide +kernel) (by decide)|exact hS.loadWhole (by(repeat (with_reducible apply yd))) (by kernel_rfl) (by kernel_rfl));(clear hR hC;intro hR hC))|((with_reducible apply ym);decide +kernel;clear hR hC)|(refine yt 24 44 hS (by kernel_rfl) [] rfl ?_;clear hS;intro w hS hR hC));try simp only[qA])
         go_roundw
         case rel=>exact⟨j+1,by go_num,by omega,hS⟩
         case measure=>simp[intOf];omega
        ·have hjt:¬ (j:Int) < (t.xs.length:Int):=by omega
         go_wp2
         go_loopw [11] (fun pv wr=>∃ p:Nat,pv=.int .i64 p∧p≤70∧Sat w0 wr (par 44 2 t.ad t.xs.length t.cap (Fs (mkN i t.xs.length)) ga (t.xs.length+70) gc (Fs (enN i 70))::Ym X::own 23 1 adM its.length capM W::Hs)) (fun pv _=>70 - (intOf pv).toNat)
         case atStart=>exact⟨0,rfl,Nat.zero_le _,hS⟩
         case round =>
          clear hS
          obtain⟨p,rfl,hp,hS⟩:=hrel
          by_cases hpl:p < 70
          ·have hpt:(p:Int) < 70:=by omega
           have hpp:((t.xs.length:Int)+(p:Int)).toNat=t.xs.length+p:=by omega
           have hm1:(mkN i t.xs.length++enN i 70)[t.xs.length+p]?=some (-1000*((i:Int)+1) - p,5):=by
            rw[List.getElem?_append_right (by rw[YP];omega),YP,Nat.add_sub_cancel_left]
            exact enN_at hpl
           obtain⟨c10,c11⟩:=FsC hm1
           clear hm1
           go_wp2_with ((first|((with_reducible apply yn);(first|with_reducible exact ya|exact yf rfl rfl);exact yb rfl;exact yb rfl;(with_reducible first|exact E23|exact E39);(omega);(omega);(first|exact hS.ownNN (by(repeat (with_reducible first|exact ye|apply yd))) (by omega)|exact Sat.rdAd2 (by assumption) hS (by((exact ye));try assumption) (by omega));(simp only[qN];rfl))|((with_reducible apply yR);(first|with_reducible exact ya|exact yf rfl rfl);exact yb rfl;(exact Sat.rdAd2 (by assumption) hS (by((exact ye));try assumption) (by omega));(with_reducible first|exact fo44_0|exact fo44_1))|((with_reducible apply yF);(first|with_reducible exact ya|exact yf rfl rfl);exact yb rfl;(first|exact(hS.ownCell (by(repeat (with_reducible first|exact ye|apply yd))) (by(assumption))).1|exact Sat.rdCell2 (by assumption) hS (by((exact ye));try assumption) (by(assumption)));decide +kernel));try simp only[qA])
           go_roundw
           case rel=>exact⟨p+1,by go_num,by omega,hS⟩
           case measure=>simp[intOf];omega
          ·have hpt:¬ (p:Int) < 70:=by omega
           go_wp2
           go_roundw
           case rel=>exact⟨i+1,by go_num,by omega,HB.out _ hS⟩
           case measure=>simp[intOf];omega
      ·have hin:¬ (i:Int) < (its.length:Int):=by omega
       go_wp2
       go_ret
       exact⟨rfl,hS.drop.drop⟩
end
end Go.Proofs.YteopodbkhgcpmaaGreatDoor
