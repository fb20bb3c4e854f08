/- A part of the proof: Cl8. -/
import Derived.Test.YteopodbkhgcpmaaGreatDoorM1
import Derived.Test.YteopodbkhgcpmaaGreatDoorM3
import Derived.Test.YteopodbkhgcpmaaGreatDoorM4
import Derived.Test.YteopodbkhgcpmaaGreatDoorM20
import Derived.Deep.CutBlock
import Derived.Deep.DeepCutAuto
set_option linter.unusedSimpArgs false
set_option linter.unusedVariables false
set_option linter.unusedSectionVars false
namespace Go.Proofs.YteopodbkhgcpmaaGreatDoor
section
set_option maxRecDepth 20000
open Go Go.RowKit Go.SL Go.ClauseP Go.LinesP

abbrev Pc:=List UInt8 × Nat × Nat
def Pcs:List Pc→List Value
 | []=>[]
 | x::xs=>.string ⟨x.1.toArray⟩::.int .i64 (x.2.1:Int)::.int .i64 (x.2.2:Int)::Pcs xs
def yT (n:Nat) (ws:List Wd):List Pc:=ws.map fun w=>(w.1,w.2,n)
def kt (n off:Nat):List (List UInt8)→List Pc
 | []=>[]
 | l::ls=>(if YZ (yY off l) then [] else yT n (yY off l))++kt (n+1) (off+l.length) ls
theorem ue:∀ (ls:List (List UInt8)) (l:List UInt8) (n off:Nat),kt n off (ls++[l])=kt n off ls++(if YZ (yY (off+yS ls) l) then [] else yT (n+ls.length) (yY (off+yS ls) l))
 | [],l,n,off=>by simp[kt,yS]
 | k::ls,l,n,off=>by
  have h:=ue ls l (n+1) (off+k.length)
  simp only[List.cons_append,kt,h,yS,List.map_cons,List.sum_cons,List.append_assoc,Nat.add_assoc,List.length_cons,Nat.add_comm 1]
theorem Xx:∀ (ws:List Pc) (x:Pc),Pcs (ws++[x])=Pcs ws++[.string ⟨x.1.toArray⟩,.int .i64 (x.2.1:Int),.int .i64 (x.2.2:Int)]
 | [],x=>rfl
 | y::ws,x=>by simp[Pcs,Xx ws x]
theorem kR:∀ (s:List UInt8) (pre:List (List UInt8)) (x:List UInt8) (rest:List (List UInt8)),yJ s=pre++x::rest→(rest=[]∧10 ∉ x)∨(rest≠[]∧∃ y,x=y++[10]∧10 ∉ y)
 | [],pre,x,rest,h=>by
  cases pre with
  | nil=>simp[yJ] at h;exact .inl ⟨h.2,by rw[h.1];simp⟩
  | cons a pre=>simp[yJ] at h
 | c::cs,pre,x,rest,h=>by
  simp only[yJ] at h
  split at h
  ·rename_i hc
   cases pre with
   | nil =>
    simp only[List.nil_append,List.cons.injEq] at h
    exact .inr ⟨by rw[← h.2];exact jb cs,[],by rw[← h.1,hc];rfl,by simp⟩
   | cons a pre =>
    simp only[List.cons_append,List.cons.injEq] at h
    exact kR cs pre x rest h.2
  ·rename_i hc
   cases hl:yJ cs with
   | nil=>exact absurd hl (jb cs)
   | cons l ls =>
    rw[hl] at h
    simp only at h
    cases pre with
    | nil =>
     simp only[List.nil_append,List.cons.injEq] at h
     have ih:=kR cs [] l ls (by rw[hl];rfl)
     rw[← h.1,← h.2]
     rcases ih with ⟨h1,h2⟩|⟨h1,y,h2,h3⟩
     ·exact .inl ⟨h1,by simp;exact⟨fun e=>hc e.symm,h2⟩⟩
     ·exact .inr ⟨h1,c::y,by rw[h2];rfl,by simp;exact⟨fun e=>hc e.symm,h3⟩⟩
    | cons a pre =>
     simp only[List.cons_append,List.cons.injEq] at h
     exact kR cs (l::pre) x rest (by rw[hl,h.2];rfl)
theorem Js:∀ (n:Nat) (l:List UInt8) (off:Nat),l.length≤n→yY off (l++[10])=yY off l
 | 0,[],off,_=>by rw[List.nil_append,kI rfl,YM,YM]
 | 0,c::cs,off,h=>by simp at h
 | n+1,[],off,_=>by rw[List.nil_append,kI rfl,YM,YM]
 | n+1,c::cs,off,h=>by
  simp only[List.length_cons] at h
  cases hc:yX c with
  | false=>rw[List.cons_append,kI hc,kI hc,Js n cs _ (by omega)]
  | true =>
   have ht:(cs++[10]).takeWhile yX=cs.takeWhile yX:=by
    rw[List.takeWhile_append]
    split
    ·have:[(10:UInt8)].takeWhile yX=[]:=rfl
     rename_i h2
     rw[this,List.append_nil]
     exact((List.takeWhile_prefix yX).eq_of_length h2).symm
    ·rfl
   have hl:(cs.takeWhile yX).length≤cs.length:=(List.takeWhile_sublist _).length_le
   rw[List.cons_append,kM hc,kM hc,ht,List.drop_append_of_le_length hl,Js n _ _ (by rw[List.length_drop];omega)]
theorem line_cut {text:List UInt8} {pre:List (List UInt8)} {x:List UInt8} {rest:List (List UInt8)} (h:yJ text=pre++x::rest) (e:Nat) (hi:yS pre≤e) (he:e≤text.length)
  (hno:∀ j,yS pre≤j→j < e→text[j]?≠some 10) (hend:e=text.length∨text[e]?=some 10) :
  yY (yS pre) x=yY (yS pre) ((text.take e).drop (yS pre))∧((rest=[]∧e=text.length)∨(rest≠[]∧yS (pre++[x])=e+1)):=by
 have hj:=Km text
 rw[h,List.flatten_append,List.flatten_cons] at hj
 have hd:text.drop (yS pre)=x++rest.flatten:=by rw[← hj,Kk,List.drop_left]
 have hg:∀ j,text[yS pre+j]?=(x++rest.flatten)[j]?:=fun j=>by rw[← hd,List.getElem?_drop]
 rcases kR text pre x rest h with ⟨h1,h2⟩|⟨h1,y,h2,h3⟩
 ·subst h1
  simp only[List.flatten_nil,List.append_nil] at hd hg
  have hee:e=text.length:=by
   rcases hend with h'|h'
   ·exact h'
   ·exfalso
    obtain⟨j,rfl⟩:∃ j,e=yS pre+j:=⟨e - yS pre,by omega⟩
    rw[hg j] at h'
    exact h2 (List.mem_of_getElem? h')
  refine ⟨?_,.inl ⟨rfl,hee⟩⟩
  rw[hee,List.take_length,hd]
 ·subst h2
  have h10:text[yS pre+y.length]?=some 10:=by rw[hg];simp
  have hle:e≤yS pre+y.length:=by
   rcases Nat.lt_or_ge (yS pre+y.length) e with h'|h'
   ·exact absurd h10 (hno _ (by omega) h')
   ·exact h'
  have hlt:=(List.getElem?_eq_some_iff.1 h10).1
  have hee:e=yS pre+y.length:=by
   rcases hend with h'|h'
   ·omega
   ·rcases Nat.lt_or_ge e (yS pre+y.length) with h''|h''
    ·exfalso
     obtain⟨j,rfl⟩:∃ j,e=yS pre+j:=⟨e - yS pre,by omega⟩
     rw[hg j,List.append_assoc,List.getElem?_append_left (by omega)] at h'
     exact h3 (List.mem_of_getElem? h')
    ·omega
  refine ⟨?_,.inr ⟨h1,by rw[UN];simp;omega⟩⟩
  have ht:(text.take e).drop (yS pre)=y:=by
   rw[List.drop_take,hd,hee,Nat.add_sub_cancel_left,List.append_assoc,List.take_left]
  rw[ht,Js _ y _ (Nat.le_refl _)]
theorem whiteR (c:UInt8) (w0 w:World) (Hs:List HP) (hS:Sat w0 w Hs):Calls Tryz.prog 60 #[.int .u8 c.toNat] w fun e w'=>e=.returned (.bool (jB c))∧Sat w0 w' Hs:=by
 have e1:=YW c 32 32 rfl
 have e2:=YW c 9 9 rfl
 have e3:=YW c 13 13 rfl
 have hx:jB c=(c == 32 || c == 9 || c == 13):=rfl
 rw[hx]
 clear hx
 cases h1:c == 32 <;> cases h2:c == 9 <;> cases h3:c == 13 <;> rw[h1] at e1 <;> rw[h2] at e2 <;> rw[h3] at e3 <;> clear h1 h2 h3
 all_goals
  generalize (c.toNat:Int)=n at *
  go_enter Tryz.func60,Tryz.ntmps60
  go_wp2
  go_ret
  exact⟨rfl,hS⟩
theorem u8_neq (c d:UInt8) (n:Int) (hn:n=(d.toNat:Int)):((c.toNat:Int) != n)=if c=d then false else true:=by
 rw[bne,YW c d n hn]
 by_cases h:c=d
 ·rw[if_pos h,h];simp
 ·rw[if_neg h];simp[h]
def wf (text:List UInt8) (e k:Nat):List Wd:=yY (0+k) ((text.take e).drop k)
theorem Gx {text:List UInt8} {e:Nat} (h:e≤text.length):wf text e e=[]:=by
 rw[wf,List.drop_of_length_le (by rw[List.length_take];omega),YM]
theorem JO {text:List UInt8} {e q:Nat} {c:UInt8} (hq:q < e) (hc:text[q]?=some c):(text.take e)[q]?=some c:=by rw[List.getElem?_take,if_pos hq];exact hc
theorem wf_gap {text:List UInt8} {e q:Nat} {c:UInt8} (hq:q < e) (hc:text[q]?=some c) (hw:yX c=false):wf text e q=wf text e (q+1):=jx (JO hq hc) hw
theorem wf_remark {text:List UInt8} {e q:Nat} {c:UInt8} (hq:q < e) (hc:text[q]?=some c) (hw:yX c=true):YZ (wf text e q)=(c == 99):=by
 have hc2:=JO hq hc
 have hlt:=(List.getElem?_eq_some_iff.1 hc2).1
 have he:=(List.getElem?_eq_some_iff.1 hc2).2
 rw[wf,List.drop_eq_getElem_cons hlt,he,kM hw]
 rfl
theorem run_is {l:List UInt8} {q:Nat}:∀ (m:Nat),(∀ i,q≤i→i < q+m→∃ c,l[i]?=some c∧yX c=true)→(q+m=l.length∨∃ c,l[q+m]?=some c∧yX c=false)→((l.drop q).takeWhile yX).length=m
 | 0,_,h=>by
  rcases h with h|⟨c,h1,h2⟩
  ·rw[List.drop_of_length_le (by omega)];rfl
  ·rw[Nat.add_zero] at h1
   obtain⟨hlt,he⟩:=List.getElem?_eq_some_iff.1 h1
   rw[List.drop_eq_getElem_cons hlt,he,List.takeWhile_cons,h2]
   rfl
 | m+1,h0,h=>by
  obtain⟨c,h1,h2⟩:=h0 q (Nat.le_refl _) (by omega)
  obtain⟨hlt,he⟩:=List.getElem?_eq_some_iff.1 h1
  rw[List.drop_eq_getElem_cons hlt,he,List.takeWhile_cons,h2]
  have:=run_is (l:=l) (q:=q+1) m (fun i hi hi2=>h0 i (by omega) (by omega)) (by rwa [show q+1+m=q+(m+1) by omega])
  simp[this]
theorem wf_word {text:List UInt8} {e q r:Nat} (he:e≤text.length) (hqr:q < r) (hre:r≤e) (h0:∀ i,q≤i→i < r→∃ c,text[i]?=some c∧yX c=true) (h:r=e∨∃ c,text[r]?=some c∧yX c=false) :
  wf text e q=((text.drop q).take (r - q),q)::wf text e r:=by
 obtain⟨c,hc,hw⟩:=h0 q (Nat.le_refl _) hqr
 obtain⟨m,rfl⟩:∃ m,r=q+m:=⟨r - q,by omega⟩
 have h1:=run_is (l:=text.take e) (q:=q) m (fun i hi hi2=>by
   obtain⟨c',h1,h2⟩:=h0 i hi hi2
   exact⟨c',JO (by omega) h1,h2⟩) (by
   rcases h with h|⟨c',h1,h2⟩
   ·left;rw[List.length_take];omega
   ·rcases Nat.lt_or_ge (q+m) e with h'|h'
    ·exact .inr ⟨c',JO h' h1,h2⟩
    ·left;rw[List.length_take];omega)
 have hrun:Yw yX (text.take e) q=q+m:=by rw[Yw,h1]
 have:=(Jh (off:=0) (JO (e:=e) (by omega) hc) hw).2.2
 rw[hrun] at this
 rw[wf,this,Nat.zero_add,List.drop_take,List.take_take,Nat.add_sub_cancel_left,Nat.min_eq_left (by omega),wf]
theorem ex_subT (x:List UInt8) (k q:Nat) (h:q≤x.length):(⟨x.toArray⟩:ByteArray).extract k q=⟨((x.drop k).take (q - k)).toArray⟩:=by
 apply ByteArray.ext
 simp[ByteArray.data_extract,List.extract_eq_take_drop]
set_option maxHeartbeats 4000000 in
theorem piecesR (text:List UInt8) (hl:text.length≤1048576) (w0 w:World) (Hs:List HP) (hS:Sat w0 w Hs) :
  Calls Tryz.prog 33 #[.string ⟨text.toArray⟩] w fun e w'=>∃ v,e=.returned v∧(∃ (ad:Option Addr) (cap:Nat),v=.slice ad (kt 0 0 (yJ text)).length cap∧Sat w0 w' (own 86 3 ad (kt 0 0 (yJ text)).length cap (Pcs (kt 0 0 (yJ text)))::Hs)):=by
 have WH:=fun c=>whiteR c w0
 replace hS:=hS.ownNil 86 3
 go_enter Tryz.func33,Tryz.ntmps33
 go_wp2
 go_loopw [3,4,5] (fun lv line i wr=>∃ (pre rest:List (List UInt8)) (k n:Nat) (ad:Option Addr) (cap:Nat),lv=.slice ad n cap∧line=.int .i64 pre.length∧i=.int .i64 k∧pre.length≤k∧k≤1048577∧n≤k∧Hid (yJ text=pre++rest∧(rest=[]∧text.length≤k∨rest≠[]∧k=yS pre∧k≤text.length)∧n=(kt 0 0 pre).length) ∧
   Sat w0 wr (own 86 3 ad n cap (Pcs (kt 0 0 pre))::Hs)) (fun _ _ i _=>text.length - (intOf i).toNat)
 case atStart=>exact⟨[],yJ text,0,0,none,0,rfl,rfl,rfl,by simp,by omega,by simp,hid ⟨rfl,.inr ⟨jb text,rfl,Nat.zero_le _⟩,rfl⟩,hS⟩
 case round =>
  clear hS
  obtain⟨pre,rest,k,n,ad,cap,rfl,rfl,rfl,hpk,hk2,hnk,HI,hS⟩:=hrel
  by_cases hlt:k < text.length
  ·go_upto_block 2 with (fail)
   go_cut [6] (fun ev wx=>∃ e:Nat,ev=.int .i64 e∧k≤e∧e≤text.length∧Hid ((∀ j,k≤j→j < e→text[j]?≠some 10)∧(e=text.length∨text[e]?=some 10)) ∧
    Sat w0 wx (own 86 3 ad n cap (Pcs (kt 0 0 pre))::Hs))
   case first =>
    go_wp2_with fail
    go_loopw [6] (fun ev wr=>∃ q:Nat,ev=.int .i64 q∧k≤q∧q≤text.length∧Hid (∀ j,k≤j→j < q→text[j]?≠some 10)∧Sat w0 wr (own 86 3 ad n cap (Pcs (kt 0 0 pre))::Hs)) (fun ev _=>text.length - (intOf ev).toNat)
    case atStart=>exact⟨k,rfl,Nat.le_refl _,by omega,hid (fun j h1 h2=>by omega),hS⟩
    case round =>
     clear hS
     obtain⟨q,rfl,hkq,hql,HQ,hS⟩:=hrel
     by_cases hq:q < text.length
     ·obtain⟨c,hc⟩:∃ c,text[q]?=some c:=⟨_,List.getElem?_eq_getElem hq⟩
      obtain⟨hpq,hcq⟩:=YD text q c hc
      have e10:=u8_neq c 10 10 rfl
      have HC:=hid hc
      clear hc
      by_cases h10:c=10
      ·rw[if_pos h10] at e10
       have HE:=hid (show text[q]?=some 10 by rw[HC.out,h10])
       clear h10
       go_wp2
       go_meet
       case rel=>exact⟨q,rfl,hkq,hql,hid ⟨HQ.out,.inr HE.out⟩,hS⟩
      ·rw[if_neg h10] at e10
       have HQ2:=hid (show ∀ j,k≤j→j < q+1→text[j]?≠some 10 from fun j h1 h2=>by
        rcases Nat.lt_or_ge j q with h|h
        ·exact HQ.out j h1 h
        ·obtain rfl:j=q:=by omega
         rw[HC.out]
         intro e
         exact h10 (Option.some.inj e))
       clear h10
       go_wp2
       go_roundw
       case rel=>exact⟨q+1,by go_num,by omega,by omega,HQ2,hS⟩
       case measure=>simp[intOf];omega
     ·have hqe:q=text.length:=by omega
      have HE:=hid hqe
      clear hqe
      go_wp2
      go_meet
      case rel=>exact⟨q,rfl,hkq,hql,hid ⟨HQ.out,.inl HE.out⟩,hS⟩
   case rest =>
    obtain⟨e,rfl,hke,hel,HE,hS⟩:=hcut
    obtain⟨x,rest',hrest,HX⟩:∃ x rest',Hid (rest=x::rest')∧Hid ((if YZ (wf text e k) then [] else yT pre.length (wf text e k))=(if YZ (yY (yS pre) x) then [] else yT pre.length (yY (yS pre) x))∧((rest'=[]∧e=text.length)∨(rest'≠[]∧yS (pre++[x])=e+1))∧yJ text=(pre++[x])++rest'):=by
     obtain⟨h1,h2,h3⟩:=HI.out
     rcases h2 with ⟨h2,h4⟩|⟨h2,h4,h5⟩
     ·omega
     ·cases rest with
      | nil=>exact absurd rfl h2
      | cons x rest' =>
       obtain⟨g1,g2⟩:=line_cut h1 e (by omega) hel (by rw[← h4];exact HE.out.1) HE.out.2
       refine ⟨x,rest',hid rfl,hid ⟨?_,g2,by rw[h1];simp⟩⟩
       rw[g1,wf,Nat.zero_add,h4]
    have hnn:=hid HI.out.2.2
    clear HI
    go_upto_block 4 with (fail)
    go_cut [7] (fun kv wx=>∃ q:Nat,kv=.int .i64 q∧k≤q∧q≤e∧Hid (wf text e k=wf text e q)∧Hid (q=e∨∃ c,text[q]?=some c∧jB c=false)∧Sat w0 wx (own 86 3 ad n cap (Pcs (kt 0 0 pre))::Hs))
    case first =>
     go_wp2_with fail
     go_loopw [7] (fun kv wr=>∃ q:Nat,kv=.int .i64 q∧k≤q∧q≤e∧Hid (wf text e k=wf text e q)∧Sat w0 wr (own 86 3 ad n cap (Pcs (kt 0 0 pre))::Hs)) (fun kv _=>e - (intOf kv).toNat)
     case atStart=>exact⟨k,rfl,Nat.le_refl _,by omega,hid rfl,hS⟩
     case round =>
      clear hS
      obtain⟨q,rfl,hkq,hqe,HQ,hS⟩:=hrel
      by_cases hq:q < e
      ·obtain⟨c,hc⟩:∃ c,text[q]?=some c:=⟨_,List.getElem?_eq_getElem (by omega)⟩
       obtain⟨hpq,hcq⟩:=YD text q c hc
       have hqt:(q:Int) < (text.length:Int):=by omega
       have WC:=WH c
       have HC:=hid hc
       clear hc
       cases hg:jB c with
       | true =>
        rw[hg] at WC
        have HQ2:=hid (HQ.out.trans (wf_gap hq HC.out (by simp[yX,hg])))
        clear hg
        go_wp2_with (go_at_call 60;refine (WC _ _ hS).mono ?_;clear hS;rintro e w ⟨rfl,hS⟩)
        go_roundw
        case rel=>exact⟨q+1,by go_num,by omega,by omega,HQ2,hS⟩
        case measure=>simp[intOf];omega
       | false =>
        rw[hg] at WC
        have HE2:=hid (show q=e∨∃ c,text[q]?=some c∧jB c=false from .inr ⟨c,HC.out,hg⟩)
        clear hg
        go_wp2_with (go_at_call 60;refine (WC _ _ hS).mono ?_;clear hS;rintro e w ⟨rfl,hS⟩)
        go_meet
        case rel=>exact⟨q,rfl,hkq,hqe,HQ,HE2,hS⟩
      ·obtain rfl:q=e:=by omega
       go_wp2
       go_meet
       case rel=>exact⟨q,rfl,hkq,Nat.le_refl _,HQ,hid (.inl rfl),hS⟩
    case rest =>
     clear hS
     obtain⟨q,rfl,hkq,hqe,HQ,HG,hS⟩:=hcut
     go_upto_region 11 with (fail)
     go_cut [46] (fun tv wx=>∃ b:Bool,tv=.bool b∧Hid ((if YZ (wf text e k) then [] else yT pre.length (wf text e k))=if b then [] else yT pre.length (wf text e q))∧Sat w0 wx (own 86 3 ad n cap (Pcs (kt 0 0 pre))::Hs))
     case first =>
      by_cases hq:q < e
      ·obtain⟨c,hc⟩:∃ c,text[q]?=some c:=⟨_,List.getElem?_eq_getElem (by omega)⟩
       obtain⟨hpq,hcq⟩:=YD text q c hc
       have hqt:(q:Int) < (text.length:Int):=by omega
       have e99:=YW c 99 99 rfl
       have hw:yX c=true:=by
        rcases HG.out with h|⟨c',h1,h2⟩
        ·omega
        ·rw[hc] at h1
         obtain rfl:c=c':=Option.some.inj h1
         have:c≠10:=fun e10=>HE.out.1 q hkq hq (by rw[hc,e10])
         simp[yX,h2,this]
       have hr:=wf_remark hq hc hw
       have HR:=hid (show (if YZ (wf text e k) then [] else yT pre.length (wf text e k))=if (c == 99)=true then [] else yT pre.length (wf text e q) by rw[HQ.out,hr])
       clear hc hw hr
       generalize hb:(c == 99)=b at *
       clear hb
       cases b with
       | true =>
        go_wp2
        go_meet
        case rel=>exact⟨true,rfl,HR,hS⟩
       | false =>
        go_wp2
        go_meet
        case rel=>exact⟨false,rfl,HR,hS⟩
      ·obtain rfl:q=e:=by omega
       have HZ:=hid (show (if YZ (wf text q k) then [] else yT pre.length (wf text q k))=if false then [] else yT pre.length (wf text q q) by rw[HQ.out,Gx (by omega)];rfl)
       go_wp2
       go_meet
       case rel=>exact⟨false,rfl,HZ,hS⟩
     case rest =>
     clear hS
     obtain⟨b,rfl,HB,hS⟩:=hcut
     go_upto_if 46 with (fail)
     go_cut [7] (fun kv wx=>∃ q':Nat,kv=.int .i64 q'∧k≤q'∧q'≤e∧Hid ((if YZ (wf text e k) then [] else yT pre.length (wf text e k))=yT pre.length (wf text e q'))∧Hid (q'=e∨∃ c,text[q']?=some c∧jB c=false)∧Sat w0 wx (own 86 3 ad n cap (Pcs (kt 0 0 pre))::Hs))
     case first =>
      cases b with
      | true =>
       have HZ:=hid (show (if YZ (wf text e k) then [] else yT pre.length (wf text e k))=yT pre.length (wf text e e) by rw[HB.out,Gx (by omega)];rfl)
       go_wp2
       go_meet
       case rel=>exact⟨e,rfl,by omega,Nat.le_refl _,HZ,hid (.inl rfl),hS⟩
      | false =>
       have HZ:=hid (show (if YZ (wf text e k) then [] else yT pre.length (wf text e k))=yT pre.length (wf text e q) by rw[HB.out];rfl)
       go_wp2
       go_meet
       case rel=>exact⟨q,rfl,hkq,hqe,HZ,HG,hS⟩
     case rest =>
      clear hS HB b HG HQ hqe hkq q
      obtain⟨q,rfl,hkq,hqe,HQ,HG,hS⟩:=hcut
      have HT:Hid (kt 0 0 (pre++[x])=kt 0 0 pre++yT pre.length (wf text e q)):=by
       refine hid ?_
       rw[ue,Nat.zero_add,Nat.zero_add,← HX.out.1,HQ.out]
      have hTe:e+1≤1048577:=by omega
      clear HQ
      obtain⟨T,hT⟩:∃ T,T=kt 0 0 (pre++[x]):=⟨_,rfl⟩
      rw[← hT] at HT
      have HTT:=hid hT
      clear hT
      have HG0:=HG
      clear HG
      obtain⟨acc,hacc⟩:∃ acc,acc=kt 0 0 pre:=⟨_,rfl⟩
      rw[← hacc] at HT hS hnn
      have hnq:n≤q:=by omega
      clear hacc hnk
      go_wp2_with fail
      go_loopw [3,7] (fun lv kv wr=>∃ (q n2 cap2:Nat) (ad2:Option Addr) (acc:List Pc),lv=.slice ad2 n2 cap2∧kv=.int .i64 q∧k≤q∧q≤e∧n2≤q∧Hid (n2=acc.length)∧Hid (T=acc++yT pre.length (wf text e q))∧Hid (q=e∨∃ c,text[q]?=some c∧jB c=false)∧Sat w0 wr (own 86 3 ad2 n2 cap2 (Pcs acc)::Hs)) (fun _ kv _=>e - (intOf kv).toNat)
      case atStart=>exact⟨q,n,cap,ad,acc,rfl,rfl,hkq,hqe,hnq,hnn,HT,HG0,hS⟩
      case round =>
       clear hS HT HG0 hnq hkq hqe hnn acc q
       obtain⟨q,n2,cap2,ad2,acc,rfl,rfl,hkq,hqe,hnq,HN,HT,HG,hS⟩:=hrel
       by_cases hq:q < e
       ·have hqt:(q:Int) < (text.length:Int):=by omega
        have hcw:∃ c,text[q]?=some c∧yX c=true:=by
         rcases HG.out with h|⟨c,h1,h2⟩
         ·omega
         ·have:c≠10:=fun e10=>HE.out.1 q hkq hq (by rw[h1,e10])
          exact⟨c,h1,by simp[yX,h2,this]⟩
        have HCW:=hid hcw
        clear hcw HG
        go_upto_block 8 with (fail)
        go_cut [8] (fun jv wx=>∃ r:Nat,jv=.int .i64 r∧q < r∧r≤e∧Hid (wf text e q=((text.drop q).take (r - q),q)::wf text e r)∧Sat w0 wx (own 86 3 ad2 n2 cap2 (Pcs acc)::Hs))
        case first =>
         go_wp2_with fail
         go_loopw [8] (fun jv wr=>∃ r:Nat,jv=.int .i64 r∧q≤r∧r≤e∧Hid (∀ i,q≤i→i < r→∃ c,text[i]?=some c∧yX c=true)∧Sat w0 wr (own 86 3 ad2 n2 cap2 (Pcs acc)::Hs)) (fun jv _=>e - (intOf jv).toNat)
         case atStart=>exact⟨q,rfl,Nat.le_refl _,hqe,hid (fun i h1 h2=>by omega),hS⟩
         case round =>
          clear hS
          obtain⟨r,rfl,hqr,hre,HR,hS⟩:=hrel
          by_cases hr:r < e
          ·obtain⟨c,hc⟩:∃ c,text[r]?=some c:=⟨_,List.getElem?_eq_getElem (by omega)⟩
           obtain⟨hpr,hcr⟩:=YD text r c hc
           have hrt:(r:Int) < (text.length:Int):=by omega
           have WC:=WH c
           have HC:=hid hc
           clear hc
           cases hg:jB c with
           | true =>
            rw[hg] at WC
            have hqr2:q < r:=by
             rcases Nat.lt_or_ge q r with h|h
             ·exact h
             ·obtain rfl:q=r:=by omega
              obtain⟨c',h1,h2⟩:=HCW.out
              rw[HC.out] at h1
              obtain rfl:c=c':=Option.some.inj h1
              rw[yX,hg] at h2
              cases h2
            have HZ:=hid (wf_word (by omega) hqr2 hre HR.out (.inr ⟨c,HC.out,by simp[yX,hg]⟩))
            clear hg
            go_wp2_with (go_at_call 60;refine (WC _ _ hS).mono ?_;clear hS;rintro e w ⟨rfl,hS⟩)
            go_meet
            case rel=>exact⟨r,rfl,hqr2,hre,HZ,hS⟩
           | false =>
            rw[hg] at WC
            have HR2:=hid (show ∀ i,q≤i→i < r+1→∃ c,text[i]?=some c∧yX c=true from fun i h1 h2=>by
             rcases Nat.lt_or_ge i r with h|h
             ·exact HR.out i h1 h
             ·obtain rfl:i=r:=by omega
              have:c≠10:=fun e10=>HE.out.1 i (by omega) hr (by rw[HC.out,e10])
              exact⟨c,HC.out,by simp[yX,hg,this]⟩)
            clear hg
            go_wp2_with (go_at_call 60;refine (WC _ _ hS).mono ?_;clear hS;rintro e w ⟨rfl,hS⟩)
            go_roundw
            case rel=>exact⟨r+1,by go_num,by omega,by omega,HR2,hS⟩
            case measure=>simp[intOf];omega
          ·have hre2:decide (r < e)=false:=decide_eq_false (by omega)
           have hqr2:q < r:=by omega
           have HZ:=hid (wf_word (by omega) hqr2 hre HR.out (.inl (by omega)))
           clear hr
           go_wp2
           go_meet
           case rel=>exact⟨r,rfl,hqr2,hre,HZ,hS⟩
        case rest =>
         clear hS
         obtain⟨r,rfl,hqr,hre,HW,hS⟩:=hcut
         have hqr1:(q:Int)≤(r:Int):=by omega
         have hrt:(r:Int)≤(text.length:Int):=by omega
         go_upto_block 10 with (first|((with_reducible apply yA hS);exact ya;exact E81;exact yb rfl;exact yw;rfl;decide;clear hS;intro NB w hS;(try simp only[qA]))|((with_reducible apply yD hS);exact ya;exact yb rfl;exact yb rfl;exact E81;(repeat (with_reducible first|exact Rem.hd|apply Rem.tl));(repeat (with_reducible apply Rem.tl));rfl;rfl;(omega);(omega);clear hS;intro AD CAP w hS;(try simp only[Nat.zero_add,List.nil_append] at hS);(try simp only[qA])))
         rw[ex_subT text q r (by omega)] at hS
         have hS2:Sat w0 w (own 86 3 AD (n2+1) CAP (Pcs (acc++[((text.drop q).take (r - q),q,pre.length)]))::Hs):=by
          rw[Xx]
          exact hS
         clear hS
         have hS:=hS2
         clear hS2
         have HN2:=hid (show n2+1=(acc++[((text.drop q).take (r - q),q,pre.length)]).length by rw[HN.out];simp)
         go_wp2_with fail
         go_loopw [7] (fun kv wr=>∃ q':Nat,kv=.int .i64 q'∧r≤q'∧q'≤e∧Hid (wf text e r=wf text e q')∧Sat w0 wr (own 86 3 AD (n2+1) CAP (Pcs (acc++[((text.drop q).take (r - q),q,pre.length)]))::Hs)) (fun kv _=>e - (intOf kv).toNat)
         case atStart=>exact⟨r,rfl,Nat.le_refl _,by omega,hid rfl,hS⟩
         case round =>
          clear hS
          obtain⟨q3,rfl,hkq3,hqe3,HQ3,hS⟩:=hrel
          by_cases hq3:q3 < e
          ·obtain⟨c,hc⟩:∃ c,text[q3]?=some c:=⟨_,List.getElem?_eq_getElem (by omega)⟩
           obtain⟨hpq,hcq⟩:=YD text q3 c hc
           have hqt:(q3:Int) < (text.length:Int):=by omega
           have WC:=WH c
           have HC:=hid hc
           clear hc
           cases hg:jB c with
           | true =>
            rw[hg] at WC
            have HQ2:=hid (HQ3.out.trans (wf_gap hq3 HC.out (by simp[yX,hg])))
            clear hg
            go_wp2_with (go_at_call 60;refine (WC _ _ hS).mono ?_;clear hS;rintro e w ⟨rfl,hS⟩)
            go_roundw
            case rel=>exact⟨q3+1,by go_num,by omega,by omega,HQ2,hS⟩
            case measure=>simp[intOf];omega
           | false =>
            rw[hg] at WC
            have HE2:=hid (show q3=e∨∃ c,text[q3]?=some c∧jB c=false from .inr ⟨c,HC.out,hg⟩)
            clear hg
            have HT2:=hid (show T=(acc++[((text.drop q).take (r - q),q,pre.length)])++yT pre.length (wf text e q3) by rw[HT.out,HW.out,HQ3.out];simp[yT])
            go_wp2_with (go_at_call 60;refine (WC _ _ hS).mono ?_;clear hS;rintro e w ⟨rfl,hS⟩)
            go_roundw
            case rel=>exact⟨q3,n2+1,CAP,AD,_,rfl,rfl,by omega,hqe3,by omega,HN2,HT2,HE2,hS⟩
            case measure=>simp[intOf];omega
          ·have hqe4:decide (q3 < e)=false:=decide_eq_false (by omega)
           have HE2:=hid (show q3=e∨∃ c,text[q3]?=some c∧jB c=false from .inl (by omega))
           clear hq3
           have HT2:=hid (show T=(acc++[((text.drop q).take (r - q),q,pre.length)])++yT pre.length (wf text e q3) by rw[HT.out,HW.out,HQ3.out];simp[yT])
           go_wp2
           go_roundw
           case rel=>exact⟨q3,n2+1,CAP,AD,_,rfl,rfl,by omega,hqe3,by omega,HN2,HT2,HE2,hS⟩
           case measure=>simp[intOf];omega
       ·obtain rfl:q=e:=by omega
        have HT2:=hid (show T=acc by rw[HT.out,Gx (by omega)];simp[yT])
        have HL:=hid HX.out.2
        clear hq HT HG
        go_wp2
        have hpl:(pre++[x]).length=pre.length+1:=by simp
        go_roundw
        case rel =>
         refine ⟨pre++[x],rest',q+1,n2,ad2,cap2,rfl,by rw[hpl];go_num,by go_num,by rw[hpl];omega,by omega,by omega,hid ⟨HL.out.2,?_,by rw[HN.out,← HT2.out,HTT.out]⟩,?_⟩
         ·rcases HL.out.1 with ⟨h1,h2⟩|⟨h1,h2⟩
          ·exact .inl ⟨h1,by omega⟩
          ·refine .inr ⟨h1,h2.symm,?_⟩
           obtain⟨y,ys,rfl⟩:∃ y ys,rest'=y::ys:=by cases rest' with|nil=>exact absurd rfl h1|cons y ys=>exact⟨y,ys,rfl⟩
           have:=UM HL.out.2
           omega
         ·rw[← HTT.out,HT2.out];exact hS
        case measure=>simp[intOf];omega
  ·have hfin:kt 0 0 (yJ text)=kt 0 0 pre:=by
    obtain⟨h1,h2,h3⟩:=HI.out
    rcases h2 with ⟨h2,h4⟩|⟨h2,h4,h5⟩
    ·rw[h1,h2,List.append_nil]
    ·cases rest with
     | nil=>exact absurd rfl h2
     | cons y ys =>
      have h6:=UM h1
      have hy:y=[]:=List.length_eq_zero_iff.1 (by omega)
      subst hy
      rcases kR _ _ _ _ h1 with ⟨h7,_⟩|⟨_,z,h8,_⟩
      ·rw[h1,h7,ue,YM]
       simp[YZ,yT]
      ·simp at h8
   have HF:=hid hfin
   have HN:=hid HI.out.2.2
   clear hfin HI
   go_wp2
   go_ret
   rw[HF.out,← HN.out]
   exact⟨_,rfl,ad,cap,rfl,hS⟩
end
end Go.Proofs.YteopodbkhgcpmaaGreatDoor
