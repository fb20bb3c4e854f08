/- A part of the proof: Cl7. -/
import Derived.Test.YteopodbkhgcpmaaGreatDoorM1
import Derived.Test.YteopodbkhgcpmaaGreatDoorM22
import Derived.Test.YteopodbkhgcpmaaGreatDoorM23
set_option linter.unusedSimpArgs false
set_option linter.unusedVariables false
set_option linter.unusedSectionVars false
namespace Go.Proofs.YteopodbkhgcpmaaGreatDoor
section
set_option maxRecDepth 20000
open Go Go.RowKit Go.SL Go.ClauseP Go.LinesP

theorem num_ok {w:Wd} {v:Int} (h:Yb w=.inl v):0≤v∧v≤65536:=by
 unfold Yb at h
 split at h
 ·cases h
 ·split at h
  ·cases h
  ·have:Yv 2147483647 w.1=v:=by simpa using h
   omega
theorem GV {w:Wd} {x:Int} (h:Yb w=.inr x):x=133∨x=8:=by
 unfold Yb at h
 split at h
 ·have:(133:Int)=x:=by simpa using h
  omega
 ·split at h
  ·have:(8:Int)=x:=by simpa using h
   omega
  ·cases h
theorem XQ (b:Nat) (l:List Wd) (x:Int) (k:Nat) (h:jG b l=.inr (x,k)):(x=135∨x=133∨x=8)∧(k=b∨∃ w∈l,k=w.2):=by
 rw[xT] at h
 have e135:∀ k',(Sum.inr (135,k'):(Int × Int) ⊕ (Int × Nat))=.inr (x,k)→x=135∧k=k':=fun k' e=>by simp at e;exact⟨e.1.symm,e.2.symm⟩
 cases l with
 | nil=>obtain⟨rfl,rfl⟩:=e135 _ h;exact⟨.inl rfl,.inl rfl⟩
 | cons w0 l =>
  simp only[h0] at h
  split at h
  ·obtain⟨rfl,rfl⟩:=e135 _ h;exact⟨.inl rfl,.inr ⟨w0,by simp,rfl⟩⟩
  ·cases l with
   | nil=>obtain⟨rfl,rfl⟩:=e135 _ h;exact⟨.inl rfl,.inl rfl⟩
   | cons w1 l =>
    simp only[h1] at h
    split at h
    ·obtain⟨rfl,rfl⟩:=e135 _ h;exact⟨.inl rfl,.inr ⟨w1,by simp,rfl⟩⟩
    ·cases l with
     | nil=>obtain⟨rfl,rfl⟩:=e135 _ h;exact⟨.inl rfl,.inl rfl⟩
     | cons w2 l =>
      simp only[h2] at h
      cases hn:Yb w2 with
      | inr e =>
       rw[hn] at h
       have h':e=x∧w2.2=k:=by simpa using h
       have:=GV hn
       exact⟨by omega,.inr ⟨w2,by simp,h'.2.symm⟩⟩
      | inl v =>
       rw[hn] at h
       cases l with
       | nil=>obtain⟨rfl,rfl⟩:=e135 _ h;exact⟨.inl rfl,.inl rfl⟩
       | cons w3 l =>
        simp only[h3] at h
        cases hn3:Yb w3 with
        | inr e =>
         rw[hn3] at h
         have h':e=x∧w3.2=k:=by simpa using h
         have:=GV hn3
         exact⟨by omega,.inr ⟨w3,by simp,h'.2.symm⟩⟩
        | inl c =>
         rw[hn3] at h
         cases l with
         | nil=>cases h
         | cons w4 l=>obtain⟨rfl,rfl⟩:=e135 _ h;exact⟨.inl rfl,.inr ⟨w4,by simp,rfl⟩⟩
theorem GJ (b:Nat) (l:List Wd) (v c:Int) (h:jG b l=.inl (v,c)):(0≤v∧v≤65536)∧(0≤c∧c≤65536)∧l.length=4:=by
 rw[xT] at h
 cases l with
 | nil=>cases h
 | cons w0 l =>
  simp only[h0] at h
  split at h
  ·cases h
  ·cases l with
   | nil=>cases h
   | cons w1 l =>
    simp only[h1] at h
    split at h
    ·cases h
    ·cases l with
     | nil=>cases h
     | cons w2 l =>
      simp only[h2] at h
      cases hn:Yb w2 with
      | inr e=>rw[hn] at h;cases h
      | inl v' =>
       rw[hn] at h
       cases l with
       | nil=>cases h
       | cons w3 l =>
        simp only[h3] at h
        cases hn3:Yb w3 with
        | inr e=>rw[hn3] at h;cases h
        | inl c' =>
         rw[hn3] at h
         cases l with
         | nil =>
          have h':v'=v∧c'=c:=by simpa [h4] using h
          exact⟨h'.1 ▸ num_ok hn,h'.2 ▸ num_ok hn3,rfl⟩
         | cons w4 l=>cases h
theorem XJ {vars count:Int}:∀ (ws:List Wd) (es ls:List Int) (x:Int) (k:Nat),YH vars count ws es ls=.inr (x,k)→x≠0∧∃ w∈ws,k=w.2
 | [],es,ls,x,k,h=>by cases h
 | w::ws,es,ls,x,k,h=>by
  have key:∀ (y:Int),y≠0→(Sum.inr (y,w.2):(List Int × List Int) ⊕ (Int × Nat))=.inr (x,k)→x≠0∧∃ v∈w::ws,k=v.2:=fun y hy e=>by
   have e':y=x∧w.2=k:=by simpa using e
   exact⟨e'.1 ▸ hy,w,by simp,e'.2.symm⟩
  have more:∀ es' ls',YH vars count ws es' ls'=.inr (x,k)→x≠0∧∃ v∈w::ws,k=v.2:=fun es' ls' e=>by
   obtain⟨h1,v,hv,h2⟩:=XJ ws es' ls' x k e
   exact⟨h1,v,.tail _ hv,h2⟩
  by_cases h1:(es.length:Int)=count
  ·rw[JQ h1] at h;exact key 135 (by omega) h
  ·cases h2:jc w.1 with
   | none=>rw[JS h1 h2] at h;exact key 133 (by omega) h
   | some n =>
    by_cases h3:vars < n∨n < -vars
    ·rw[uY h1 h2 h3] at h;exact key 3 (by omega) h
    ·by_cases h4:n=0
     ·subst h4
      rw[JT h1 h2 h3] at h
      exact more _ _ h
     ·by_cases h5:(ls.length:Int)=1048576
      ·rw[JR h1 h2 h3 h4 h5] at h;exact key 8 (by omega) h
      ·rw[uZ h1 h2 h3 h4 h5] at h;exact more _ _ h
theorem Jd:∀ (n:Nat) (l:List UInt8) (off:Nat),l.length≤n→(yY off l).length≤l.length∧∀ w∈yY off l,w.2+w.1.length≤off+l.length
 | 0,[],off,_=>by rw[YM];simp
 | 0,c::cs,off,h=>by simp at h
 | n+1,[],off,_=>by rw[YM];simp
 | n+1,c::cs,off,h=>by
  simp only[List.length_cons] at h
  cases hc:yX c with
  | false =>
   rw[kI hc]
   obtain⟨h1,h2⟩:=Jd n cs (off+1) (by omega)
   refine ⟨by simp;omega,fun w hw=>?_⟩
   have:=h2 w hw
   simp only[List.length_cons];omega
  | true =>
   rw[kM hc]
   have ht:(cs.takeWhile yX).length≤cs.length:=(List.takeWhile_sublist _).length_le
   obtain⟨h1,h2⟩:=Jd n (cs.drop (cs.takeWhile yX).length) (off+1+(cs.takeWhile yX).length) (by rw[List.length_drop];omega)
   rw[List.length_drop] at h1 h2
   refine ⟨by simp only[List.length_cons];omega,fun w hw=>?_⟩
   rcases List.mem_cons.1 hw with rfl|hw
   ·simp only[List.length_cons];omega
   ·have:=h2 w hw
    simp only[List.length_cons];omega
theorem JX:∀ (ls:List (List UInt8)) (off:Nat),∀ l∈yU off ls,l≠[]∧l.length≤yS ls∧∀ w∈l,w.2+w.1.length≤off+yS ls
 | [],off,l,h=>by cases h
 | x::ls,off,l,h=>by
  simp only[yU,List.mem_append] at h
  have ht:yS (x::ls)=x.length+yS ls:=by simp[yS]
  rcases h with h|h
  ·split at h
   ·rename_i hk
    simp only[List.mem_singleton] at h
    subst h
    obtain⟨h1,h2⟩:=Jd x.length x off (Nat.le_refl _)
    refine ⟨fun e=>?_,by omega,fun w hw=>by have:=h2 w hw;omega⟩
    rw[e] at hk
    simp[jI] at hk
   ·cases h
  ·obtain⟨h1,h2,h3⟩:=JX ls (off+x.length) l h
   exact⟨h1,by omega,fun w hw=>by have:=h3 w hw;omega⟩
theorem jO (s:List UInt8):yS (yJ s)=s.length:=by rw[Kk,Km]
def Jr (text:List UInt8):CnfV ⊕ (Int × Int × Int) :=
 if 1048576 < text.length then .inr (5,0,0) else match cnfP text.length (yU 0 (yJ text)) with
  | .inl c=>.inl c
  | .inr (x,k)=>.inr (x,((Yt text k).1:Int),((Yt text k).2:Int))
theorem badC (bt:Nat) (text:List UInt8) (hl:text.length≤1048576) (x:Int) (k:Nat) (hk:k≤text.length) (w0 w:World) (Hs:List HP) (hS:Sat w0 w Hs) (hm:blk bt 9 [.string ⟨text.toArray⟩]∈Hs) :
  Calls Tryz.prog 19 #[.int .i64 x,.int .i64 k,.pointer (some ⟨bt,0,none⟩)] w fun e w'=>e=.returned (.tuple #[.agg #[.int .i64 0,.slice none 0 0,.slice none 0 0],.agg #[.int .i64 x,.int .i64 ((Yt text k).1:Int),.int .i64 ((Yt text k).2:Int)]])∧Sat w0 w' Hs:=by
 have PC:=placeC text k hk hl w0
 go_enter Tryz.func19,Tryz.ntmps19
 go_wp2_with ((first|((with_reducible apply yk hS);exact ya;(with_reducible first|exact z28|exact z33);clear hS;intro NB w hS)|((with_reducible apply yh hS);exact ya;exact yb rfl;(((repeat (with_reducible apply yd)));(try assumption));rfl;decide +kernel)|(go_at_call 17;refine (PC _ _ hS).mono ?_;clear hS;rintro e w ⟨rfl,hS⟩)|((with_reducible apply yi hS);exact ya;exact yb rfl;exact yb rfl;(repeat (with_reducible first|exact ye|apply yd));rfl;(focus (simp;done));(repeat (with_reducible first|exact Upd.hd|apply Upd.tl));rfl;(with_reducible first|exact sz28|exact sz33);rfl;clear hS;intro w hS;(try simp only[yp,qS] at hS)));try simp only[qA])
 refine bodyPost_ret (yK rfl rfl rfl (hS.loadWhole (by(repeat (with_reducible first|exact ye|apply yd))) (by kernel_rfl) (by kernel_rfl)) (hS.loadWhole (by(exact ye)) (by kernel_rfl) (by kernel_rfl))) rfl ?_
 exact⟨rfl,hS.sb (by(repeat (with_reducible first|exact Sb.refl|apply Sb.skip)))⟩
theorem ks {H:Hp} {vs:List Value} {l:List Wd} {ls:List (List Wd)} (h:ky H vs (l::ls)):∃ g capl,vs[0]?=some (.slice (some ⟨g,0,none⟩) l.length capl)∧Rd (fz H) (some ⟨g,0,none⟩) (Ws l):=by
 cases vs with
 | nil=>have:=h.1;simp at this
 | cons v vs =>
  obtain⟨g,cap,rfl,hR⟩:=(h.2 0 v l rfl rfl).rd
  exact⟨g,cap,rfl,hR⟩
theorem kH {H:Hp} {vs:List Value} {l:List Wd} {ls:List (List Wd)} (h:ky H vs (l::ls)):ky H (vs.drop 1) ls:=by
 refine ⟨by have:=h.1;simp at this;simp;omega,fun j v ws hv hw=>h.2 (j+1) v ws ?_ (by simpa using hw)⟩
 rw[List.getElem?_drop] at hv
 rwa [Nat.add_comm] at hv
theorem jw {H:Hp} {vs:List Value} {l:List Wd} {ls:List (List Wd)} {ad:Option Addr} {n cap:Nat} (h:ky H vs (l::ls)) (hc:ls.length+1≤cap):Rd (own 63 1 ad n cap vs) (sub ad 1 cap 1) (vs.drop 1):=by
 have h1:=(Rd.of_own (e:=63) (size:=1) (ad:=ad) (n:=n) (cap:=cap) (xs:=vs)).sub (cap:=cap) (size:=1) 1 ls.length (fun e=>by omega)
 rw[Nat.mul_one,List.take_of_length_le (by have:=h.1;simp at this;simp;omega)] at h1
 exact h1
theorem uc {w0 w:World} {Hs:List HP} {e size:Nat} {ad:Option Addr} {n cap:Nat} {xs:List Value} (hS:Sat w0 w Hs) (hm:own e size ad n cap xs∈Hs):(n:Int)≤9223372036854775807:=by
 have h:=hS.ownCap hm
 unfold maxLen at h
 omega
def cnfQ (w0:World) (R:List HP) (r:CnfV ⊕ (Int × Int × Int)) (e:Ending) (w':World):Prop :=
 match r with
 | .inl c=>∃ (ad1 ad2:Option Addr) (c1 c2:Nat),e=.returned (.tuple #[.agg #[.int .i64 c.vars,.slice ad1 c.ends.length c1,.slice ad2 c.lits.length c2],.agg #[.int .i64 0,.int .i64 0,.int .i64 0]])∧Sat w0 w' (own 3 1 ad1 c.ends.length c1 (Is c.ends)::own 3 1 ad2 c.lits.length c2 (Is c.lits)::R)
 | .inr (x,l,k)=>e=.returned (.tuple #[.agg #[.int .i64 0,.slice none 0 0,.slice none 0 0],.agg #[.int .i64 x,.int .i64 l,.int .i64 k]])∧Sat w0 w' R
set_option maxHeartbeats 4000000 in
theorem parseC (text:List UInt8) (ht:text.length≤140737488351232) (w0 w:World) (R:List HP) (hS:Sat w0 w R) :
  Calls Tryz.prog 6 #[.string ⟨text.toArray⟩] w (cnfQ w0 R (Jr text)):=by
 by_cases hlong:1048576 < text.length
 ·have hr:Jr text=.inr (5,0,0):=if_pos hlong
  rw[hr]
  have hli:(1048576:Int) < (text.length:Int):=by omega
  clear hr hlong
  go_enter Tryz.func6,Tryz.ntmps6
  go_wp2_with ((first|((with_reducible apply yH hS);exact ya;exact yb rfl;exact yN rfl;clear hS;intro NB w hS)|((with_reducible apply yk hS);exact ya;(with_reducible first|exact z28|exact z33);clear hS;intro NB w hS)|((with_reducible apply yh hS);exact ya;exact yb rfl;(repeat (with_reducible first|exact ye|apply yd));rfl;decide +kernel)|((with_reducible apply yi hS);exact ya;exact yb rfl;exact yb rfl;(repeat (with_reducible first|exact ye|apply yd));rfl;(focus (simp;done));(repeat (with_reducible first|exact Upd.hd|apply Upd.tl));rfl;(with_reducible first|exact sz28|exact sz33);rfl;clear hS;intro w hS;(try simp only[yp,qS] at hS)));try simp only[qA])
  refine bodyPost_ret (yK rfl rfl rfl (hS.loadWhole (by(repeat (with_reducible first|exact ye|apply yd))) (by kernel_rfl) (by kernel_rfl)) (hS.loadWhole (by(exact ye)) (by kernel_rfl) (by kernel_rfl))) rfl ?_
  exact⟨rfl,hS.sb (by(repeat (with_reducible first|exact Sb.refl|apply Sb.skip)))⟩
 ·have hl:text.length≤1048576:=by omega
  have IT:=itemsM text hl w0
  obtain⟨r,hr⟩:∃ r,r=Jr text:=⟨_,rfl⟩
  rw[← hr]
  rw[Jr,if_neg hlong] at hr
  have hin:=JX (yJ text) 0
  rw[jO,Nat.zero_add] at hin
  have hil:(yU 0 (yJ text)).length≤1048577:=by
   have h1:=Jl (yJ text) 0
   have h2:=Jm text
   omega
  have hli:(text.length:Int)≤1048576:=by omega
  clear hlong
  generalize yU 0 (yJ text)=items at *
  cases items with
  | nil =>
   have HR:=hid hr
   have BC:=fun bt=>badC bt text hl 135 text.length (Nat.le_refl _) w0
   clear hr hin hil
   go_enter Tryz.func6,Tryz.ntmps6
   go_wp2_with ((first|((with_reducible apply yH hS);exact ya;exact yb rfl;exact yN rfl;clear hS;intro NB w hS)|((with_reducible apply yk hS);exact ya;(with_reducible first|exact z28|exact z33);clear hS;intro NB w hS)|((with_reducible apply yh hS);exact ya;exact yb rfl;(repeat (with_reducible first|exact ye|apply yd));rfl;decide +kernel)|((with_reducible apply yi hS);exact ya;exact yb rfl;exact yb rfl;(repeat (with_reducible first|exact ye|apply yd));rfl;(focus (simp;done));(repeat (with_reducible first|exact Upd.hd|apply Upd.tl));rfl;(with_reducible first|exact sz28|exact sz33);rfl;clear hS;intro w hS;(try simp only[yp,qS] at hS))|(go_at_call 20;refine (IT _ _ hS).mono ?_;clear hS;rintro e w ⟨v,H,rfl,ad,cap,vs,rfl,hla,hS⟩)|(go_at_call 19;refine (BC _ _ _ hS (by(repeat (with_reducible first|exact ye|apply yd)))).mono ?_;clear hS;rintro e w ⟨rfl,hS⟩));try simp only[qA])
   refine bodyPost_ret (yK rfl rfl rfl (hS.loadWhole (by(repeat (with_reducible first|exact ye|apply yd))) (by kernel_rfl) (by kernel_rfl)) (hS.loadWhole (by(repeat (with_reducible first|exact ye|apply yd))) (by kernel_rfl) (by kernel_rfl))) rfl ?_
   rw[HR.out]
   exact⟨rfl,hS.sb (by(repeat (with_reducible first|exact Sb.refl|apply Sb.skip)))⟩
  | cons l ls =>
   obtain⟨hne,hlen,hwo⟩:=hin l (.head _)
   have hin2:∀ l'∈ls,l'.length≤1048576∧∀ w∈l',w.2+w.1.length≤1048576:=fun l' h'=>by
    obtain⟨h1,h2,h3⟩:=hin l' (.tail _ h')
    exact⟨by omega,fun w hw=>by have:=h3 w hw;omega⟩
   have hfl:∀ w∈ls.flatten,w.2≤text.length:=fun w hw=>by
    obtain⟨l',hl',hw'⟩:=List.mem_flatten.1 hw
    have:=(hin l' (.tail _ hl')).2.2 w hw'
    omega
   have hbh:YY l≤text.length:=by
    unfold YY
    cases hg:l.getLast? with
    | none=>simp
    | some w=>exact hwo w (List.mem_of_getLast? hg)
   have HC:=headC l hne (fun w hw=>by have:=hwo w hw;unfold WdOk;omega) (by omega) w0
   have BC:=fun bt x k hk=>badC bt text hl x k hk w0
   simp only[List.length_cons] at IT hil
   have hn1:ls.length≤1048576:=by omega
   have hge0:((ls.length:Int)+1 == 0)=false:=by simp;omega
   clear hin
   simp only[cnfP] at hr
   cases hh:jG (YY l) l with
   | inr xk =>
    obtain⟨x,k⟩:=xk
    obtain⟨hx,hk⟩:=XQ _ _ _ _ hh
    have hkl:k≤text.length:=by
     rcases hk with rfl|⟨w,hw,rfl⟩
     ·exact hbh
     ·have:=hwo w hw;omega
    have hx0:(x != 0)=true:=by simp;omega
    rw[hh] at hr HC
    have HR:=hid hr
    clear hr hh hk hx
    simp only[jH] at HC
    have BC2:=fun bt=>BC bt x k hkl
    clear BC
    go_enter Tryz.func6,Tryz.ntmps6
    go_wp2_with ((first|((with_reducible apply yH hS);exact ya;exact yb rfl;exact yN rfl;clear hS;intro NB w hS)|((with_reducible apply yk hS);exact ya;(with_reducible first|exact z28|exact z33);clear hS;intro NB w hS)|((with_reducible apply yh hS);exact ya;exact yb rfl;(repeat (with_reducible first|exact ye|apply yd));rfl;decide +kernel)|((with_reducible apply yi hS);exact ya;exact yb rfl;exact yb rfl;(repeat (with_reducible first|exact ye|apply yd));rfl;(focus (simp;done));(repeat (with_reducible first|exact Upd.hd|apply Upd.tl));rfl;(with_reducible first|exact sz28|exact sz33);rfl;clear hS;intro w hS;(try simp only[yp,qS] at hS))|(go_at_call 20;refine (IT _ _ hS).mono ?_;clear hS;rintro e w ⟨v,H,rfl,ad,cap,vs,rfl,hla,hS⟩;obtain⟨g,capl,hv0,hRl⟩:=ks hla)|((with_reducible apply yn);exact ya;exact yb rfl;exact yg;exact E59;(omega);(omega);(exact hS.ownNN (by(exact ye)) (by omega));(simp only[qN];rfl))|((with_reducible apply yF);exact ya;exact yb rfl;(exact(hS.ownCell (by(exact ye)) (by(assumption))).1);decide +kernel)|(go_at_call 21;refine (HC _ _ hS hRl (by(repeat (with_reducible first|exact ye|apply yd)))).mono ?_;clear hS;rintro e w ⟨rfl,hS⟩)|(go_at_call 19;refine (BC2 _ _ _ hS (by(repeat (with_reducible first|exact ye|apply yd)))).mono ?_;clear hS;rintro e w ⟨rfl,hS⟩));try simp only[qA])
    refine bodyPost_ret (yK rfl rfl rfl (hS.loadWhole (by(repeat (with_reducible first|exact ye|apply yd))) (by kernel_rfl) (by kernel_rfl)) (hS.loadWhole (by(repeat (with_reducible first|exact ye|apply yd))) (by kernel_rfl) (by kernel_rfl))) rfl ?_
    rw[HR.out]
    exact⟨rfl,hS.sb (by(repeat (with_reducible first|exact Sb.refl|apply Sb.skip)))⟩
   | inl vc =>
    obtain⟨v,c⟩:=vc
    obtain⟨⟨hv0',hv1⟩,⟨hc0,hc1⟩,hl4⟩:=GJ _ _ _ _ hh
    clear hl4
    rw[hh] at hr HC
    simp only[jH] at HC
    simp only at hr
    have CC:=fun(bc:Nat) (vs:List Value) (H:Hp) (hla:ky H vs ls)=>clausesC bc v c hv0' hv1 hc0 hc1 ls (fun l hl=>(hin2 l hl).2) (by omega) (fun l hl=>(hin2 l hl).1) vs H hla w0
    have hbe:=XJ (vars:=v) (count:=c) ls.flatten [] []
    clear hin2 hh hwo
    generalize YH v c ls.flatten [] []=b at *
    cases b with
    | inr xk =>
     obtain⟨x,k⟩:=xk
     obtain⟨hx,w1,hw1,hk⟩:=hbe x k rfl
     have hkl:k≤text.length:=by rw[hk];exact hfl w1 hw1
     have hx0:(x != 0)=true:=by simp[hx]
     have HR:=hid hr
     clear hr hbe hk hx hfl hw1
     have BC2:=fun bt=>BC bt x k hkl
     clear BC
     go_enter Tryz.func6,Tryz.ntmps6
     (have tok_B2:True:=trivial;have tok_B3:True:=trivial;have tok_B10:True:=trivial;go_wp2_with ((first|((with_reducible apply yH hS);exact ya;exact yb rfl;exact yN rfl;clear hS;intro B1 w hS)|(have tokk:=tok_B2;(clear tokk tok_B2);((with_reducible apply yk hS);exact ya;exact z33;clear hS;intro B2 w hS;(try simp only[qA])))|(have tokk:=tok_B3;(clear tokk tok_B3);((with_reducible apply yk hS);exact ya;exact z28;clear hS;intro B3 w hS;(try simp only[qA])))|(have tokk:=tok_B10;(clear tokk tok_B10);((with_reducible apply yk hS);exact ya;exact z33;clear hS;intro B10 w hS;(try simp only[qA])))|((with_reducible apply yh hS);exact ya;exact yb rfl;(repeat (with_reducible first|exact ye|apply yd));rfl;decide +kernel)|((with_reducible apply yi hS);exact ya;exact yb rfl;exact yb rfl;(repeat (with_reducible first|exact ye|apply yd));rfl;(focus (simp;done));(repeat (with_reducible first|exact Upd.hd|apply Upd.tl));rfl;(with_reducible first|exact sz28|exact sz33);rfl;clear hS;intro w hS;(try simp only[yp,qS] at hS))|(go_at_call 20;refine (IT _ _ hS).mono ?_;clear hS;rintro e w ⟨v,H,rfl,ad,cap,vs,rfl,hla,hS⟩;obtain⟨g,capl,hv0,hRl⟩:=ks hla)|((with_reducible apply yn);exact ya;exact yb rfl;exact yg;exact E59;(omega);(omega);(exact hS.ownNN (by(exact ye)) (by omega));(simp only[qN];rfl))|((with_reducible apply yF);exact ya;exact yb rfl;(exact(hS.ownCell (by(exact ye)) (by(assumption))).1);decide +kernel)|((with_reducible apply Yn);exact ya;exact yb rfl;exact yg;exact E59;(omega);(omega);(rfl);(rfl);(rfl))|(go_at_call 21;refine (HC _ _ hS hRl (by(repeat (with_reducible first|exact ye|apply yd)))).mono ?_;clear hS;rintro e w ⟨rfl,hS⟩)|(go_at_call 22;(have hcp:=(hS.ownCap (e:=63) (by(repeat (with_reducible first|exact ye|apply yd)))).1);(have hS2:=((hS.ownNil 3 1).ownNil 3 1).sb (L:=blk B10 33 [.int .i64 v,.slice none 0 0,.slice none 0 0]::own 3 1 none 0 0 []::own 3 1 none 0 0 []::own 63 1 ad (ls.length+1) cap vs::fz H::blk B3 28 [.int .i64 0,.int .i64 0,.int .i64 0]::blk B2 33 [.int .i64 0,.slice none 0 0,.slice none 0 0]::blk B1 9 [.string ⟨text.toArray⟩]::R) (by(repeat (with_reducible first|exact Sb.refl|(refine Sb.take (by(repeat (first|exact Rem.hd|apply Rem.tl));done) ?_)))));(have hS3:=kh (es:=[]) (ls:=[]) rfl rfl hS2);clear hS hS2;refine (CC B10 _ H (kH hla) _ _ (jw hla hcp) (by(exact ye)) (by(repeat (with_reducible first|exact ye|apply yd))) hS3).mono ?_;clear hS3;rintro e w ⟨rfl,hS⟩)|(go_at_call 19;refine (BC2 _ _ _ hS (by(repeat (with_reducible first|exact ye|apply yd)))).mono ?_;clear hS;rintro e w ⟨rfl,hS⟩));try simp only[qA]))
     refine bodyPost_ret (yK rfl rfl rfl (hS.loadWhole (by(repeat (with_reducible first|exact ye|apply yd))) (by kernel_rfl) (by kernel_rfl)) (hS.loadWhole (by(repeat (with_reducible first|exact ye|apply yd))) (by kernel_rfl) (by kernel_rfl))) rfl ?_
     rw[HR.out]
     exact⟨rfl,hS.sb (by(repeat (with_reducible first|exact Sb.refl|apply Sb.skip)))⟩
    | inl el =>
     obtain⟨es,lits⟩:=el
     clear hbe hfl
     simp only at hr
     have BC2:=fun bt=>BC bt 135 text.length (Nat.le_refl _)
     clear BC
     cases hgl:es.getLast? with
     | none =>
      simp only[hgl,Option.getD_none] at hr
      have hes:es.length=0:=by rw[List.getLast?_eq_none_iff.1 hgl];rfl
      have hgt:es.length≤0:=by omega
      clear hgl hes
      by_cases hlt:(es.length:Int) < c
      ·rw[if_pos (.inl hlt)] at hr
       have HR:=hid hr
       clear hr
       go_enter Tryz.func6,Tryz.ntmps6
       (have tok_B2:True:=trivial;have tok_B3:True:=trivial;have tok_B10:True:=trivial;go_wp2_with ((first|((with_reducible apply yH hS);exact ya;exact yb rfl;exact yN rfl;clear hS;intro B1 w hS)|(have tokk:=tok_B2;(clear tokk tok_B2);((with_reducible apply yk hS);exact ya;exact z33;clear hS;intro B2 w hS;(try simp only[qA])))|(have tokk:=tok_B3;(clear tokk tok_B3);((with_reducible apply yk hS);exact ya;exact z28;clear hS;intro B3 w hS;(try simp only[qA])))|(have tokk:=tok_B10;(clear tokk tok_B10);((with_reducible apply yk hS);exact ya;exact z33;clear hS;intro B10 w hS;(try simp only[qA])))|((with_reducible apply yh hS);exact ya;exact yb rfl;(repeat (with_reducible first|exact ye|apply yd));rfl;decide +kernel)|((with_reducible apply yi hS);exact ya;exact yb rfl;exact yb rfl;(repeat (with_reducible first|exact ye|apply yd));rfl;(focus (simp;done));(repeat (with_reducible first|exact Upd.hd|apply Upd.tl));rfl;(with_reducible first|exact sz28|exact sz33);rfl;clear hS;intro w hS;(try simp only[yp,qS] at hS))|(go_at_call 20;refine (IT _ _ hS).mono ?_;clear hS;rintro e w ⟨v,H,rfl,ad,cap,vs,rfl,hla,hS⟩;obtain⟨g,capl,hv0,hRl⟩:=ks hla)|((with_reducible apply yn);exact ya;exact yb rfl;exact yg;exact E59;(omega);(omega);(exact hS.ownNN (by(exact ye)) (by omega));(simp only[qN];rfl))|((with_reducible apply yF);exact ya;exact yb rfl;(exact(hS.ownCell (by(exact ye)) (by(assumption))).1);decide +kernel)|((with_reducible apply Yn);exact ya;exact yb rfl;exact yg;exact E59;(omega);(omega);(rfl);(rfl);(rfl))|(go_at_call 21;refine (HC _ _ hS hRl (by(repeat (with_reducible first|exact ye|apply yd)))).mono ?_;clear hS;rintro e w ⟨rfl,hS⟩)|(go_at_call 22;(have hcp:=(hS.ownCap (e:=63) (by(repeat (with_reducible first|exact ye|apply yd)))).1);(have hS2:=((hS.ownNil 3 1).ownNil 3 1).sb (L:=blk B10 33 [.int .i64 v,.slice none 0 0,.slice none 0 0]::own 3 1 none 0 0 []::own 3 1 none 0 0 []::own 63 1 ad (ls.length+1) cap vs::fz H::blk B3 28 [.int .i64 0,.int .i64 0,.int .i64 0]::blk B2 33 [.int .i64 0,.slice none 0 0,.slice none 0 0]::blk B1 9 [.string ⟨text.toArray⟩]::R) (by(repeat (with_reducible first|exact Sb.refl|(refine Sb.take (by(repeat (first|exact Rem.hd|apply Rem.tl));done) ?_)))));(have hS3:=kh (es:=[]) (ls:=[]) rfl rfl hS2);clear hS hS2;refine (CC B10 _ H (kH hla) _ _ (jw hla hcp) (by(exact ye)) (by(repeat (with_reducible first|exact ye|apply yd))) hS3).mono ?_;clear hS3;rintro e w ⟨rfl,hS⟩;obtain⟨ad1,ad2,c1,c2,hS⟩:=kT hS;have hel:=uc (xs:=Is es) hS (by(repeat (with_reducible first|exact ye|apply yd))))|(go_at_call 19;refine (BC2 _ _ _ hS (by(repeat (with_reducible first|exact ye|apply yd)))).mono ?_;clear hS;rintro e w ⟨rfl,hS⟩));try simp only[qA]))
       refine bodyPost_ret (yK rfl rfl rfl (hS.loadWhole (by(repeat (with_reducible first|exact ye|apply yd))) (by kernel_rfl) (by kernel_rfl)) (hS.loadWhole (by(repeat (with_reducible first|exact ye|apply yd))) (by kernel_rfl) (by kernel_rfl))) rfl ?_
       rw[HR.out]
       exact⟨rfl,hS.sb (by(repeat (with_reducible first|exact Sb.refl|apply Sb.skip)))⟩
      ·by_cases hlt2:(0:Int) < (lits.length:Int)
       ·rw[if_pos (.inr hlt2)] at hr
        have HR:=hid hr
        have hge:decide ((es.length:Int) < c)=false:=decide_eq_false (by omega)
        clear hr hlt
        go_enter Tryz.func6,Tryz.ntmps6
        (have tok_B2:True:=trivial;have tok_B3:True:=trivial;have tok_B10:True:=trivial;go_wp2_with ((first|((with_reducible apply yH hS);exact ya;exact yb rfl;exact yN rfl;clear hS;intro B1 w hS)|(have tokk:=tok_B2;(clear tokk tok_B2);((with_reducible apply yk hS);exact ya;exact z33;clear hS;intro B2 w hS;(try simp only[qA])))|(have tokk:=tok_B3;(clear tokk tok_B3);((with_reducible apply yk hS);exact ya;exact z28;clear hS;intro B3 w hS;(try simp only[qA])))|(have tokk:=tok_B10;(clear tokk tok_B10);((with_reducible apply yk hS);exact ya;exact z33;clear hS;intro B10 w hS;(try simp only[qA])))|((with_reducible apply yh hS);(first|with_reducible exact ya|exact yf rfl rfl);exact yb rfl;(repeat (with_reducible first|exact ye|apply yd));rfl;decide +kernel)|((with_reducible apply yi hS);exact ya;exact yb rfl;exact yb rfl;(repeat (with_reducible first|exact ye|apply yd));rfl;(focus (simp;done));(repeat (with_reducible first|exact Upd.hd|apply Upd.tl));rfl;(with_reducible first|exact sz28|exact sz33);rfl;clear hS;intro w hS;(try simp only[yp,qS] at hS))|(go_at_call 20;refine (IT _ _ hS).mono ?_;clear hS;rintro e w ⟨v,H,rfl,ad,cap,vs,rfl,hla,hS⟩;obtain⟨g,capl,hv0,hRl⟩:=ks hla)|((with_reducible apply yn);exact ya;exact yb rfl;exact yg;exact E59;(omega);(omega);(exact hS.ownNN (by(exact ye)) (by omega));(simp only[qN];rfl))|((with_reducible apply yF);exact ya;exact yb rfl;(exact(hS.ownCell (by(exact ye)) (by(assumption))).1);decide +kernel)|((with_reducible apply Yn);exact ya;exact yb rfl;exact yg;exact E59;(omega);(omega);(rfl);(rfl);(rfl))|(go_at_call 21;refine (HC _ _ hS hRl (by(repeat (with_reducible first|exact ye|apply yd)))).mono ?_;clear hS;rintro e w ⟨rfl,hS⟩)|(go_at_call 22;(have hcp:=(hS.ownCap (e:=63) (by(repeat (with_reducible first|exact ye|apply yd)))).1);(have hS2:=((hS.ownNil 3 1).ownNil 3 1).sb (L:=blk B10 33 [.int .i64 v,.slice none 0 0,.slice none 0 0]::own 3 1 none 0 0 []::own 3 1 none 0 0 []::own 63 1 ad (ls.length+1) cap vs::fz H::blk B3 28 [.int .i64 0,.int .i64 0,.int .i64 0]::blk B2 33 [.int .i64 0,.slice none 0 0,.slice none 0 0]::blk B1 9 [.string ⟨text.toArray⟩]::R) (by(repeat (with_reducible first|exact Sb.refl|(refine Sb.take (by(repeat (first|exact Rem.hd|apply Rem.tl));done) ?_)))));(have hS3:=kh (es:=[]) (ls:=[]) rfl rfl hS2);clear hS hS2;refine (CC B10 _ H (kH hla) _ _ (jw hla hcp) (by(exact ye)) (by(repeat (with_reducible first|exact ye|apply yd))) hS3).mono ?_;clear hS3;rintro e w ⟨rfl,hS⟩;obtain⟨ad1,ad2,c1,c2,hS⟩:=kT hS;have hel:=uc (xs:=Is es) hS (by(repeat (with_reducible first|exact ye|apply yd))))|(go_at_call 19;refine (BC2 _ _ _ hS (by(repeat (with_reducible first|exact ye|apply yd)))).mono ?_;clear hS;rintro e w ⟨rfl,hS⟩));try simp only[qA]))
        refine bodyPost_ret (yK rfl rfl rfl (hS.loadWhole (by(repeat (with_reducible first|exact ye|apply yd))) (by kernel_rfl) (by kernel_rfl)) (hS.loadWhole (by(repeat (with_reducible first|exact ye|apply yd))) (by kernel_rfl) (by kernel_rfl))) rfl ?_
        rw[HR.out]
        exact⟨rfl,hS.sb (by(repeat (with_reducible first|exact Sb.refl|apply Sb.skip)))⟩
       ·rw[if_neg (by rintro (h|h);exact hlt h;exact hlt2 h)] at hr
        have HR:=hid hr
        have hge:decide ((es.length:Int) < c)=false:=decide_eq_false (by omega)
        have hge2:lits.length≤0:=by omega
        clear hr hlt hlt2
        go_enter Tryz.func6,Tryz.ntmps6
        (have tok_B2:True:=trivial;have tok_B3:True:=trivial;have tok_B10:True:=trivial;go_wp2_with ((first|((with_reducible apply yH hS);exact ya;exact yb rfl;exact yN rfl;clear hS;intro B1 w hS)|(have tokk:=tok_B2;(clear tokk tok_B2);((with_reducible apply yk hS);exact ya;exact z33;clear hS;intro B2 w hS;(try simp only[qA])))|(have tokk:=tok_B3;(clear tokk tok_B3);((with_reducible apply yk hS);exact ya;exact z28;clear hS;intro B3 w hS;(try simp only[qA])))|(have tokk:=tok_B10;(clear tokk tok_B10);((with_reducible apply yk hS);exact ya;exact z33;clear hS;intro B10 w hS;(try simp only[qA])))|((with_reducible apply yh hS);(first|with_reducible exact ya|exact yf rfl rfl);exact yb rfl;(repeat (with_reducible first|exact ye|apply yd));rfl;decide +kernel)|((with_reducible apply yG hS);exact ya;exact yb rfl;exact ye;exact sz33;decide +kernel;rfl;rfl)|((with_reducible apply yi hS);exact ya;exact yb rfl;exact yb rfl;(repeat (with_reducible first|exact ye|apply yd));rfl;(focus (simp;done));(repeat (with_reducible first|exact Upd.hd|apply Upd.tl));rfl;(with_reducible first|exact sz28|exact sz33);rfl;clear hS;intro w hS;(try simp only[yp,qS] at hS))|(go_at_call 20;refine (IT _ _ hS).mono ?_;clear hS;rintro e w ⟨v,H,rfl,ad,cap,vs,rfl,hla,hS⟩;obtain⟨g,capl,hv0,hRl⟩:=ks hla)|((with_reducible apply yn);exact ya;exact yb rfl;exact yg;exact E59;(omega);(omega);(exact hS.ownNN (by(exact ye)) (by omega));(simp only[qN];rfl))|((with_reducible apply yF);exact ya;exact yb rfl;(exact(hS.ownCell (by(exact ye)) (by(assumption))).1);decide +kernel)|((with_reducible apply Yn);exact ya;exact yb rfl;exact yg;exact E59;(omega);(omega);(rfl);(rfl);(rfl))|(go_at_call 21;refine (HC _ _ hS hRl (by(repeat (with_reducible first|exact ye|apply yd)))).mono ?_;clear hS;rintro e w ⟨rfl,hS⟩)|(go_at_call 22;(have hcp:=(hS.ownCap (e:=63) (by(repeat (with_reducible first|exact ye|apply yd)))).1);(have hS2:=((hS.ownNil 3 1).ownNil 3 1).sb (L:=blk B10 33 [.int .i64 v,.slice none 0 0,.slice none 0 0]::own 3 1 none 0 0 []::own 3 1 none 0 0 []::own 63 1 ad (ls.length+1) cap vs::fz H::blk B3 28 [.int .i64 0,.int .i64 0,.int .i64 0]::blk B2 33 [.int .i64 0,.slice none 0 0,.slice none 0 0]::blk B1 9 [.string ⟨text.toArray⟩]::R) (by(repeat (with_reducible first|exact Sb.refl|(refine Sb.take (by(repeat (first|exact Rem.hd|apply Rem.tl));done) ?_)))));(have hS3:=kh (es:=[]) (ls:=[]) rfl rfl hS2);clear hS hS2;refine (CC B10 _ H (kH hla) _ _ (jw hla hcp) (by(exact ye)) (by(repeat (with_reducible first|exact ye|apply yd))) hS3).mono ?_;clear hS3;rintro e w ⟨rfl,hS⟩;obtain⟨ad1,ad2,c1,c2,hS⟩:=kT hS;have hel:=uc (xs:=Is es) hS (by(repeat (with_reducible first|exact ye|apply yd)))));try simp only[qA]))
        refine bodyPost_ret (yK rfl rfl rfl (hS.loadWhole (by(repeat (with_reducible first|exact ye|apply yd))) (by kernel_rfl) (by kernel_rfl)) (hS.loadWhole (by(repeat (with_reducible first|exact ye|apply yd))) (by kernel_rfl) (by kernel_rfl))) rfl ?_
        rw[HR.out]
        exact⟨ad1,ad2,c1,c2,rfl,hS.sb (by(repeat (with_reducible first|exact Sb.refl|(refine Sb.take (by(repeat (first|exact Rem.hd|apply Rem.tl));done) ?_)|apply Sb.skip)))⟩
     | some d =>
      simp only[hgl,Option.getD_some] at hr
      have hne2:es≠[]:=by intro e;rw[e] at hgl;cases hgl
      have hpos:0 < es.length:=List.length_pos_iff.2 hne2
      have hpi:(es.length:Int) > 0:=by omega
      have hd:(Is es)[es.length - 1]?=some (.int .i64 d):=us (by rw[← List.getLast?_eq_getElem?];exact hgl)
      clear hgl hne2
      by_cases hlt:(es.length:Int) < c
      ·rw[if_pos (.inl hlt)] at hr
       have HR:=hid hr
       clear hr
       go_enter Tryz.func6,Tryz.ntmps6
       (have tok_B2:True:=trivial;have tok_B3:True:=trivial;have tok_B10:True:=trivial;go_wp2_with ((first|((with_reducible apply yH hS);exact ya;exact yb rfl;exact yN rfl;clear hS;intro B1 w hS)|(have tokk:=tok_B2;(clear tokk tok_B2);((with_reducible apply yk hS);exact ya;exact z33;clear hS;intro B2 w hS;(try simp only[qA])))|(have tokk:=tok_B3;(clear tokk tok_B3);((with_reducible apply yk hS);exact ya;exact z28;clear hS;intro B3 w hS;(try simp only[qA])))|(have tokk:=tok_B10;(clear tokk tok_B10);((with_reducible apply yk hS);exact ya;exact z33;clear hS;intro B10 w hS;(try simp only[qA])))|((with_reducible apply yh hS);exact ya;exact yb rfl;(repeat (with_reducible first|exact ye|apply yd));rfl;decide +kernel)|((with_reducible apply yi hS);exact ya;exact yb rfl;exact yb rfl;(repeat (with_reducible first|exact ye|apply yd));rfl;(focus (simp;done));(repeat (with_reducible first|exact Upd.hd|apply Upd.tl));rfl;(with_reducible first|exact sz28|exact sz33);rfl;clear hS;intro w hS;(try simp only[yp,qS] at hS))|(go_at_call 20;refine (IT _ _ hS).mono ?_;clear hS;rintro e w ⟨v,H,rfl,ad,cap,vs,rfl,hla,hS⟩;obtain⟨g,capl,hv0,hRl⟩:=ks hla)|((with_reducible apply yn);exact ya;exact yb rfl;(first|exact yb rfl|exact yg);(with_reducible first|exact E31|exact E59);(omega);(omega);(exact hS.ownNN (by(repeat (with_reducible first|exact ye|apply yd))) (by omega));(simp only[qN];rfl))|((with_reducible apply yF);exact ya;exact yb rfl;(exact(hS.ownCell (by(repeat (with_reducible first|exact ye|apply yd))) (by(assumption))).1);decide +kernel)|((with_reducible apply Yn);exact ya;exact yb rfl;exact yg;exact E59;(omega);(omega);(rfl);(rfl);(rfl))|(go_at_call 21;refine (HC _ _ hS hRl (by(repeat (with_reducible first|exact ye|apply yd)))).mono ?_;clear hS;rintro e w ⟨rfl,hS⟩)|(go_at_call 22;(have hcp:=(hS.ownCap (e:=63) (by(repeat (with_reducible first|exact ye|apply yd)))).1);(have hS2:=((hS.ownNil 3 1).ownNil 3 1).sb (L:=blk B10 33 [.int .i64 v,.slice none 0 0,.slice none 0 0]::own 3 1 none 0 0 []::own 3 1 none 0 0 []::own 63 1 ad (ls.length+1) cap vs::fz H::blk B3 28 [.int .i64 0,.int .i64 0,.int .i64 0]::blk B2 33 [.int .i64 0,.slice none 0 0,.slice none 0 0]::blk B1 9 [.string ⟨text.toArray⟩]::R) (by(repeat (with_reducible first|exact Sb.refl|(refine Sb.take (by(repeat (first|exact Rem.hd|apply Rem.tl));done) ?_)))));(have hS3:=kh (es:=[]) (ls:=[]) rfl rfl hS2);clear hS hS2;refine (CC B10 _ H (kH hla) _ _ (jw hla hcp) (by(exact ye)) (by(repeat (with_reducible first|exact ye|apply yd))) hS3).mono ?_;clear hS3;rintro e w ⟨rfl,hS⟩;obtain⟨ad1,ad2,c1,c2,hS⟩:=kT hS;have hel:=uc (xs:=Is es) hS (by(repeat (with_reducible first|exact ye|apply yd))))|(go_at_call 19;refine (BC2 _ _ _ hS (by(repeat (with_reducible first|exact ye|apply yd)))).mono ?_;clear hS;rintro e w ⟨rfl,hS⟩));try simp only[qA]))
       refine bodyPost_ret (yK rfl rfl rfl (hS.loadWhole (by(repeat (with_reducible first|exact ye|apply yd))) (by kernel_rfl) (by kernel_rfl)) (hS.loadWhole (by(repeat (with_reducible first|exact ye|apply yd))) (by kernel_rfl) (by kernel_rfl))) rfl ?_
       rw[HR.out]
       exact⟨rfl,hS.sb (by(repeat (with_reducible first|exact Sb.refl|apply Sb.skip)))⟩
      ·by_cases hlt2:d < (lits.length:Int)
       ·rw[if_pos (.inr hlt2)] at hr
        have HR:=hid hr
        have hge:decide ((es.length:Int) < c)=false:=decide_eq_false (by omega)
        clear hr hlt
        go_enter Tryz.func6,Tryz.ntmps6
        (have tok_B2:True:=trivial;have tok_B3:True:=trivial;have tok_B10:True:=trivial;go_wp2_with ((first|((with_reducible apply yH hS);exact ya;exact yb rfl;exact yN rfl;clear hS;intro B1 w hS)|(have tokk:=tok_B2;(clear tokk tok_B2);((with_reducible apply yk hS);exact ya;exact z33;clear hS;intro B2 w hS;(try simp only[qA])))|(have tokk:=tok_B3;(clear tokk tok_B3);((with_reducible apply yk hS);exact ya;exact z28;clear hS;intro B3 w hS;(try simp only[qA])))|(have tokk:=tok_B10;(clear tokk tok_B10);((with_reducible apply yk hS);exact ya;exact z33;clear hS;intro B10 w hS;(try simp only[qA])))|((with_reducible apply yh hS);(first|with_reducible exact ya|exact yf rfl rfl);exact yb rfl;(repeat (with_reducible first|exact ye|apply yd));rfl;decide +kernel)|((with_reducible apply yi hS);exact ya;exact yb rfl;exact yb rfl;(repeat (with_reducible first|exact ye|apply yd));rfl;(focus (simp;done));(repeat (with_reducible first|exact Upd.hd|apply Upd.tl));rfl;(with_reducible first|exact sz28|exact sz33);rfl;clear hS;intro w hS;(try simp only[yp,qS] at hS))|(go_at_call 20;refine (IT _ _ hS).mono ?_;clear hS;rintro e w ⟨v,H,rfl,ad,cap,vs,rfl,hla,hS⟩;obtain⟨g,capl,hv0,hRl⟩:=ks hla)|((with_reducible apply yn);exact ya;exact yb rfl;(first|exact yb rfl|exact yg);(with_reducible first|exact E31|exact E59);(omega);(omega);(exact hS.ownNN (by(repeat (with_reducible first|exact ye|apply yd))) (by omega));(simp only[qN];rfl))|((with_reducible apply yF);exact ya;exact yb rfl;(exact(hS.ownCell (by(repeat (with_reducible first|exact ye|apply yd))) (by(assumption))).1);decide +kernel)|((with_reducible apply Yn);exact ya;exact yb rfl;exact yg;exact E59;(omega);(omega);(rfl);(rfl);(rfl))|(go_at_call 21;refine (HC _ _ hS hRl (by(repeat (with_reducible first|exact ye|apply yd)))).mono ?_;clear hS;rintro e w ⟨rfl,hS⟩)|(go_at_call 22;(have hcp:=(hS.ownCap (e:=63) (by(repeat (with_reducible first|exact ye|apply yd)))).1);(have hS2:=((hS.ownNil 3 1).ownNil 3 1).sb (L:=blk B10 33 [.int .i64 v,.slice none 0 0,.slice none 0 0]::own 3 1 none 0 0 []::own 3 1 none 0 0 []::own 63 1 ad (ls.length+1) cap vs::fz H::blk B3 28 [.int .i64 0,.int .i64 0,.int .i64 0]::blk B2 33 [.int .i64 0,.slice none 0 0,.slice none 0 0]::blk B1 9 [.string ⟨text.toArray⟩]::R) (by(repeat (with_reducible first|exact Sb.refl|(refine Sb.take (by(repeat (first|exact Rem.hd|apply Rem.tl));done) ?_)))));(have hS3:=kh (es:=[]) (ls:=[]) rfl rfl hS2);clear hS hS2;refine (CC B10 _ H (kH hla) _ _ (jw hla hcp) (by(exact ye)) (by(repeat (with_reducible first|exact ye|apply yd))) hS3).mono ?_;clear hS3;rintro e w ⟨rfl,hS⟩;obtain⟨ad1,ad2,c1,c2,hS⟩:=kT hS;have hel:=uc (xs:=Is es) hS (by(repeat (with_reducible first|exact ye|apply yd))))|(go_at_call 19;refine (BC2 _ _ _ hS (by(repeat (with_reducible first|exact ye|apply yd)))).mono ?_;clear hS;rintro e w ⟨rfl,hS⟩));try simp only[qA]))
        refine bodyPost_ret (yK rfl rfl rfl (hS.loadWhole (by(repeat (with_reducible first|exact ye|apply yd))) (by kernel_rfl) (by kernel_rfl)) (hS.loadWhole (by(repeat (with_reducible first|exact ye|apply yd))) (by kernel_rfl) (by kernel_rfl))) rfl ?_
        rw[HR.out]
        exact⟨rfl,hS.sb (by(repeat (with_reducible first|exact Sb.refl|apply Sb.skip)))⟩
       ·rw[if_neg (by rintro (h|h);exact hlt h;exact hlt2 h)] at hr
        have HR:=hid hr
        have hge:decide ((es.length:Int) < c)=false:=decide_eq_false (by omega)
        have hge2:(lits.length:Int)≤d:=by omega
        clear hr hlt hlt2
        go_enter Tryz.func6,Tryz.ntmps6
        (have tok_B2:True:=trivial;have tok_B3:True:=trivial;have tok_B10:True:=trivial;go_wp2_with ((first|((with_reducible apply yH hS);exact ya;exact yb rfl;exact yN rfl;clear hS;intro B1 w hS)|(have tokk:=tok_B2;(clear tokk tok_B2);((with_reducible apply yk hS);exact ya;exact z33;clear hS;intro B2 w hS;(try simp only[qA])))|(have tokk:=tok_B3;(clear tokk tok_B3);((with_reducible apply yk hS);exact ya;exact z28;clear hS;intro B3 w hS;(try simp only[qA])))|(have tokk:=tok_B10;(clear tokk tok_B10);((with_reducible apply yk hS);exact ya;exact z33;clear hS;intro B10 w hS;(try simp only[qA])))|((with_reducible apply yh hS);(first|with_reducible exact ya|exact yf rfl rfl);exact yb rfl;(repeat (with_reducible first|exact ye|apply yd));rfl;decide +kernel)|((with_reducible apply yG hS);exact ya;exact yb rfl;exact ye;exact sz33;decide +kernel;rfl;rfl)|((with_reducible apply yi hS);exact ya;exact yb rfl;exact yb rfl;(repeat (with_reducible first|exact ye|apply yd));rfl;(focus (simp;done));(repeat (with_reducible first|exact Upd.hd|apply Upd.tl));rfl;(with_reducible first|exact sz28|exact sz33);rfl;clear hS;intro w hS;(try simp only[yp,qS] at hS))|(go_at_call 20;refine (IT _ _ hS).mono ?_;clear hS;rintro e w ⟨v,H,rfl,ad,cap,vs,rfl,hla,hS⟩;obtain⟨g,capl,hv0,hRl⟩:=ks hla)|((with_reducible apply yn);exact ya;exact yb rfl;(first|exact yb rfl|exact yg);(with_reducible first|exact E31|exact E59);(omega);(omega);(exact hS.ownNN (by(repeat (with_reducible first|exact ye|apply yd))) (by omega));(simp only[qN];rfl))|((with_reducible apply yF);exact ya;exact yb rfl;(exact(hS.ownCell (by(repeat (with_reducible first|exact ye|apply yd))) (by(assumption))).1);decide +kernel)|((with_reducible apply Yn);exact ya;exact yb rfl;exact yg;exact E59;(omega);(omega);(rfl);(rfl);(rfl))|(go_at_call 21;refine (HC _ _ hS hRl (by(repeat (with_reducible first|exact ye|apply yd)))).mono ?_;clear hS;rintro e w ⟨rfl,hS⟩)|(go_at_call 22;(have hcp:=(hS.ownCap (e:=63) (by(repeat (with_reducible first|exact ye|apply yd)))).1);(have hS2:=((hS.ownNil 3 1).ownNil 3 1).sb (L:=blk B10 33 [.int .i64 v,.slice none 0 0,.slice none 0 0]::own 3 1 none 0 0 []::own 3 1 none 0 0 []::own 63 1 ad (ls.length+1) cap vs::fz H::blk B3 28 [.int .i64 0,.int .i64 0,.int .i64 0]::blk B2 33 [.int .i64 0,.slice none 0 0,.slice none 0 0]::blk B1 9 [.string ⟨text.toArray⟩]::R) (by(repeat (with_reducible first|exact Sb.refl|(refine Sb.take (by(repeat (first|exact Rem.hd|apply Rem.tl));done) ?_)))));(have hS3:=kh (es:=[]) (ls:=[]) rfl rfl hS2);clear hS hS2;refine (CC B10 _ H (kH hla) _ _ (jw hla hcp) (by(exact ye)) (by(repeat (with_reducible first|exact ye|apply yd))) hS3).mono ?_;clear hS3;rintro e w ⟨rfl,hS⟩;obtain⟨ad1,ad2,c1,c2,hS⟩:=kT hS;have hel:=uc (xs:=Is es) hS (by(repeat (with_reducible first|exact ye|apply yd)))));try simp only[qA]))
        refine bodyPost_ret (yK rfl rfl rfl (hS.loadWhole (by(repeat (with_reducible first|exact ye|apply yd))) (by kernel_rfl) (by kernel_rfl)) (hS.loadWhole (by(repeat (with_reducible first|exact ye|apply yd))) (by kernel_rfl) (by kernel_rfl))) rfl ?_
        rw[HR.out]
        exact⟨ad1,ad2,c1,c2,rfl,hS.sb (by(repeat (with_reducible first|exact Sb.refl|(refine Sb.take (by(repeat (first|exact Rem.hd|apply Rem.tl));done) ?_)|apply Sb.skip)))⟩
end
end Go.Proofs.YteopodbkhgcpmaaGreatDoor
