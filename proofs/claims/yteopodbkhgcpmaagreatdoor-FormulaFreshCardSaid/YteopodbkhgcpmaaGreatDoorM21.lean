/- A part of the proof: Cl2. -/
import Derived.Test.YteopodbkhgcpmaaGreatDoorM1
import Derived.Test.YteopodbkhgcpmaaGreatDoorM3
import Derived.Test.YteopodbkhgcpmaaGreatDoorM6
import Derived.Test.YteopodbkhgcpmaaGreatDoorM20
set_option linter.unusedSimpArgs false
set_option linter.unusedVariables false
set_option linter.unusedSectionVars false
namespace Go.Proofs.YteopodbkhgcpmaaGreatDoor
section
set_option maxRecDepth 20000
open Go Go.RowKit Go.SL Go.LinesP
attribute [local go_sem] Oper.semAt_some

def LineAt (H:Hp) (v:Value) (ws:List (List UInt8 × Nat)):Prop:=∃ g cap,v=.slice (some ⟨g,0,none⟩) ws.length cap∧∀ (j:Nat) x,ws[j]?=some x→celH H g (j*2+0)=some (.string ⟨x.1.toArray⟩)∧celH H g (j*2+1)=some (.int .i64 (x.2:Int))
theorem LineAt.ext {H H':Hp} (h:Ext H H') {v:Value} {ws:List (List UInt8 × Nat)} (k:LineAt H v ws):LineAt H' v ws:=by
 obtain⟨g,cap,e,hc⟩:=k
 exact⟨g,cap,e,fun j x hx=>⟨celH.ext h (hc j x hx).1,celH.ext h (hc j x hx).2⟩⟩
def ky (H:Hp) (vs:List Value) (ls:List (List (List UInt8 × Nat))):Prop:=vs.length=ls.length∧∀ (j:Nat) v ws,vs[j]?=some v→ls[j]?=some ws→LineAt H v ws
def outH (B3 B4:Nat) (s:List (List UInt8)):HP:=fun h=>∃ (ad:Option Addr) (cap:Nat) (vs:List Value) (H:Hp),ky H vs (yU 0 s) ∧
 sep (blk B3 59 [.slice ad (yU 0 s).length cap]) (sep (blk B4 3 [.int .i64 (yS s:Int)]) (sep (own 63 1 ad (yU 0 s).length cap vs) (fz H))) h
theorem XZ {w0 w:World} {R:List HP} {B3 B4:Nat} {s:List (List UInt8)} (hS:Sat w0 w (outH B3 B4 s::R)) :
  ∃ (ad:Option Addr) (cap:Nat) (vs:List Value) (H:Hp),ky H vs (yU 0 s)∧Sat w0 w (blk B3 59 [.slice ad (yU 0 s).length cap]::blk B4 3 [.int .i64 (yS s:Int)]::own 63 1 ad (yU 0 s).length cap vs::fz H::R):=by
 obtain⟨ad,hS⟩:=hS.ex
 obtain⟨cap,hS⟩:=hS.ex
 obtain⟨vs,hS⟩:=hS.ex
 obtain⟨H,hS⟩:=hS.ex
 obtain⟨hl,hS⟩:=hS.pure
 have h1:=hS.split
 have h2:=(h1.front (Rem.tl Rem.hd)).split
 have h3:=(h2.front (Rem.tl Rem.hd)).split
 exact⟨ad,cap,vs,H,hl,(h3.front (Rem.tl (Rem.tl Rem.hd))).front (Rem.tl (Rem.tl (Rem.tl Rem.hd)))⟩
theorem JL {w0 w:World} {R:List HP} {B3 B4:Nat} {s:List (List UInt8)} {ad:Option Addr} {n cap:Nat} {vs:List Value} {H:Hp} {z:Int} (hl:ky H vs (yU 0 s)) (hn:n=(yU 0 s).length) (hz:z=(yS s:Int))
  (hS:Sat w0 w (blk B3 59 [.slice ad n cap]::blk B4 3 [.int .i64 z]::own 63 1 ad n cap vs::fz H::R)):Sat w0 w (outH B3 B4 s::R):=by
 subst hn;subst hz
 have h1:=(hS.front (Rem.tl (Rem.tl (Rem.tl Rem.hd)))).front (Rem.tl (Rem.tl (Rem.tl Rem.hd)))
 have h2:=h1.join
 have h3:=(h2.front (Rem.tl (Rem.tl Rem.hd))).join
 have h4:=(h3.front (Rem.tl Rem.hd)).join
 exact h4.turn fun g h=>⟨ad,cap,vs,H,hl,h⟩
def Ws:List (List UInt8 × Nat)→List Value
 | []=>[]
 | x::xs=>.string ⟨x.1.toArray⟩::.int .i64 (x.2:Int)::Ws xs
theorem GF:∀ (ws:List (List UInt8 × Nat)) (x:List UInt8 × Nat),Ws (ws++[x])=Ws ws++[.string ⟨x.1.toArray⟩,.int .i64 (x.2:Int)]
 | [],x=>rfl
 | y::ws,x=>by simp[Ws,GF ws x]
theorem uQ:∀ (ws:List (List UInt8 × Nat)) (j:Nat) (x:List UInt8 × Nat),ws[j]?=some x→(Ws ws)[j*2+0]?=some (.string ⟨x.1.toArray⟩)∧(Ws ws)[j*2+1]?=some (.int .i64 (x.2:Int))
 | [],j,x,h=>by simp at h
 | y::ws,0,x,h=>by simp at h;subst h;exact⟨rfl,rfl⟩
 | y::ws,j+1,x,h=>by
  have h2:=uQ ws j x (by simpa using h)
  rw[show (j+1)*2+0=(j*2+0)+2 by omega,show (j+1)*2+1=(j*2+1)+2 by omega]
  simpa [Ws] using h2
theorem ex_sub (x:List UInt8) (k q:Nat) (h:q≤x.length):(⟨x.toArray⟩:ByteArray).extract k q=⟨((x.drop k).take (q - k)).toArray⟩:=by
 apply ByteArray.ext
 simp[ByteArray.data_extract,List.extract_eq_take_drop]
theorem shutLine {w0 w:World} {R:List HP} {adl:Option Addr} {n capl:Nat} {ws:List (List UInt8 × Nat)} {H:Hp} (hn:n=ws.length) (h0:ws≠[]) (hS:Sat w0 w (own 130 2 adl n capl (Ws ws)::fz H::R)) :
  ∃ H',Ext H H'∧LineAt H' (.slice adl n capl) ws∧Sat w0 w (fz H'::R):=by
 subst hn
 obtain⟨H',hx,hc,hS2⟩:=hS.fzOwn
 refine ⟨H',hx,?_,hS2⟩
 obtain⟨w1,wt,rfl⟩:∃ w1 wt,ws=w1::wt:=by cases ws with|nil=>exact absurd rfl h0|cons a b=>exact⟨a,b,rfl⟩
 obtain⟨g,hg,_⟩:=hc 0 _ (uQ _ 0 w1 rfl).1
 refine ⟨g,capl,by rw[hg],fun j x hx=>?_⟩
 obtain⟨h1,h2⟩:=uQ _ j x hx
 obtain⟨g1,e1,c1⟩:=hc _ _ h1
 obtain⟨g2,e2,c2⟩:=hc _ _ h2
 rw[hg] at e1 e2
 have e1':g=g1:=by simpa using e1
 have e2':g=g2:=by simpa using e2
 subst e1'
 rw[← e2'] at c2
 exact⟨c1,c2⟩
set_option maxHeartbeats 4000000 in
theorem itemsM (text:List UInt8) (hl:text.length≤1048576) (w0 w:World) (Hs:List HP) (hS:Sat w0 w Hs) :
  Calls Tryz.prog 20 #[.string ⟨text.toArray⟩] w fun e w'=>∃ v H,e=.returned v∧(∃ (ad:Option Addr) (cap:Nat) (vs:List Value),v=.slice ad (yU 0 (yJ text)).length cap∧ky H vs (yU 0 (yJ text))∧Sat w0 w' (own 63 1 ad (yU 0 (yJ text)).length cap vs::fz H::Hs)):=by
 have SA:=gr text w0
 have hhl:text.length≤4611686018427387904:=by omega
 rw[← callsIn_wide (n:=8)]
 refine callsIn_of_wp_marks Tryz.func20 rfl trivial ?_ rfl
 refine wpIn_wide.2 ?_
 simp only[Tryz.ntmps20,List.size_toArray,List.length_cons,List.length_nil,Nat.reduceAdd,Nat.reduceSub,Array.replicate_succ,Array.replicate_zero,List.push_toArray,List.append_toArray,List.nil_append,List.cons_append]
 go_wp2_with ((first|((with_reducible apply yk hS);exact ya;exact z59;clear hS;intro B3 w hS)|((with_reducible apply yk hS);exact ya;exact z3;clear hS;intro B4 w hS)|((with_reducible apply yy hS);exact ya;exact yb rfl;exact yg;exact ye;rfl;(focus (simp;done));exact Upd.hd;rfl;decide +kernel;clear hS;intro w hS;(try simp only[qS] at hS))|(go_at_call 49;refine (SA _ _ hS).mono ?_;clear hS;rintro e w ⟨bs,bp,bv,rfl,hS⟩));try simp only[qA])
 have hS0:Sat w0 w (outH B3 B4 []::blk bs 9 [.string ⟨text.toArray⟩]::blk bp 9 [.string ⟨#[10]⟩]::blk bv 3 [.int .i64 1]::Hs):=by
  refine JL (s:=[]) (ad:=none) (cap:=0) (vs:=[]) (n:=0) (z:=0) (H:=fun _=>none) ⟨by simp[yU],fun j v ws h=>by simp at h⟩ (by simp[yU]) (by simp[yS]) ?_
  exact((hS.ownNil 63 1).fzNil).sb (by(repeat (with_reducible first|exact Sb.refl|(refine Sb.take (by(repeat (first|exact Rem.hd|apply Rem.tl));done) ?_))))
 refine wpIn_wide.1 (range_sl (n:=8) (α:=List UInt8) (fun x=>#[.string ⟨x.toArray⟩]) (fun _=>rfl) (fun s=>[outH B3 B4 s]) (fun s x=>∃ rest,yJ text=s++x::rest) (fun s x s'=>s'=s++[x]) (fun s=>s=yJ text) [] _ Hs hS0 rfl (enters_of Tryz.func98 (by kernel_rfl) rfl)
  (fun x=>{ tmps:=#[.string ⟨text.toArray⟩,undef,.slice none 0 0,.pointer (some ⟨B3,0,none⟩),.pointer (some ⟨B4,0,none⟩),.string ⟨x.toArray⟩,undef,undef,undef,.string ⟨text.toArray⟩,.func (.func 98) #[] #[.pointer (some ⟨bp,0,none⟩),.pointer (some ⟨bs,0,none⟩),.pointer (some ⟨bv,0,none⟩)],.string ⟨x.toArray⟩,undef,undef,undef,undef,undef,undef,undef,undef,undef,undef,undef,undef,undef,undef,undef,undef,undef,undef,undef,undef,undef,undef,undef,undef,undef,undef,undef,undef,undef,undef,undef,undef,undef,undef,undef,undef,undef,undef,undef,undef,undef,undef,undef,undef,undef,undef,undef,undef,undef,undef,undef],defers:=[] }) ?assign ?body ?iter ?done)
 case iter =>
  intro l lp df W hW hY
  refine iterC l bs bp bv text hhl (fun s=>[outH B3 B4 s]) lp df w0 W Hs _ (by omega) ?_ (hW.permL (permI [blk bs 9 [.string ⟨text.toArray⟩],blk bp 9 [.string ⟨#[10]⟩],blk bv 3 [.int .i64 1]] [outH B3 B4 []] [lp,df] Hs).symm)
  intro pre x W1 X hx hS1
  exact hY pre x W1 X hx hS1
 case assign =>
  intro l x W K hK
  gi_wp2
  exact hK
 case body =>
  intro l pre x W Fr hx hS1
  simp only[List.cons_append,List.nil_append] at hS1
  obtain⟨ad,cap,vs,H,hla,hS⟩:=XZ hS1
  clear hS1
  have h1n:1≤8 - 1 - 1:=by omega
  have hxl:x.length≤1048576:=by
   obtain⟨rest,hr⟩:=hx
   have:=GO (s:=text) (x:=x) (by rw[hr];simp)
   omega
  have htx:yS pre+x.length≤1048576:=by
   obtain⟨rest,hr⟩:=hx
   have:=UM hr
   omega
  replace hS:=hS.ownNil 130 2
  gi_wp2
  gi_loopw [7,6] (fun i lv wr=>∃ (k:Nat) (adl:Option Addr) (capl:Nat) (ws:List (List UInt8 × Nat)),i=.int .i64 k∧lv=.slice adl ws.length capl∧k≤x.length∧ws.length≤k∧Hid (yY (yS pre) x=ws++yY (yS pre+k) (x.drop k)) ∧
    Sat w0 wr (own 130 2 adl ws.length capl (Ws ws)::blk B3 59 [.slice ad (yU 0 pre).length cap]::blk B4 3 [.int .i64 (yS pre:Int)]::own 63 1 ad (yU 0 pre).length cap vs::fz H::Fr)) (fun i _ _=>x.length - (intOf i).toNat)
  case atStart=>exact⟨0,none,0,[],rfl,rfl,Nat.zero_le _,Nat.zero_le _,hid (by simp),hS⟩
  case round =>
   clear hS
   obtain⟨k,adl,capl,ws,rfl,rfl,hk,hwk,HW,hS⟩:=hrel
   by_cases hlt:k < x.length
   ·obtain⟨c,hc⟩:∃ c,x[k]?=some c:=⟨_,List.getElem?_eq_getElem hlt⟩
    have hcb:(⟨x.toArray⟩:ByteArray)[k]'(by simpa [ByteArray.size] using hlt)=c:=by
     have:x[k]=c:=by simpa [List.getElem?_eq_getElem hlt] using hc
     simpa [ByteArray.getElem_eq_getElem_data] using this
    have GT:=gapT c w0
    have RW:=runWord x (by omega) k hk w0
    have HC:=hid hc
    clear hc
    by_cases hg:jB c=true
    ·rw[hg] at GT
     gi_wp2_with ((refine And.intro (show Fence.wide.fn _ from trivial) ?_);gi_at_call 50;refine (CallsIn.inRound _ (callsIn_wide.2 (GT _ _ hS))).mono ?_;clear hS;rintro e w ⟨rfl,hS⟩)
     have hwp:yX c=false:=by simp[yX,hg]
     have HW2:=hid (show yY (yS pre) x=ws++yY (yS pre+(k+1)) (x.drop (k+1)) by rw[HW.out,jx HC.out hwp])
     clear hwp
     go_roundw
     case rel=>exact⟨k+1,adl,capl,ws,by go_num,rfl,by omega,by omega,HW2,hS⟩
     case measure=>simp[intOf];omega
    ·have hg2:jB c=false:=by simpa using hg
     rw[hg2] at GT
     by_cases h10:c=10
     ·subst h10
      have hwp:yX 10=false:=rfl
      have HW2:=hid (show yY (yS pre) x=ws++yY (yS pre+(k+1)) (x.drop (k+1)) by rw[HW.out,jx HC.out hwp])
      clear hwp
      gi_wp2_with ((refine And.intro (show Fence.wide.fn _ from trivial) ?_);gi_at_call 50;refine (CallsIn.inRound _ (callsIn_wide.2 (GT _ _ hS))).mono ?_;clear hS;rintro e w ⟨rfl,hS⟩)
      go_roundw
      case rel=>exact⟨k+1,adl,capl,ws,by go_num,rfl,by omega,by omega,HW2,hS⟩
      case measure=>simp[intOf];omega
     ·have hc10:((c.toNat:Int) == 10)=false:=by rw[YW c 10 10 rfl];simp[h10]
      have hwp:yX c=true:=by simp[yX,hg2,h10]
      obtain⟨r1,r2,r3⟩:=Jh (off:=yS pre) HC.out hwp
      have HR:=hid r3
      clear hwp r3 h10 hg hg2
      generalize Yw yX x k=q at *
      gi_wp2_with (first|((refine And.intro (show Fence.wide.fn _ from trivial) ?_);gi_at_call 50;refine (CallsIn.inRound _ (callsIn_wide.2 (GT _ _ hS))).mono ?_;clear hS;rintro e w ⟨rfl,hS⟩)|((refine And.intro (show Fence.wide.fn _ from trivial) ?_);gi_at_call 51;refine (CallsIn.inRound _ (callsIn_wide.2 (RW _ _ hS))).mono ?_;clear hS;rintro e w ⟨rfl,hS⟩))
      have hkq:(k:Int)≤(q:Int):=by omega
      have hqx:(q:Int)≤(x.length:Int):=by omega
      have hk0:(0:Int)≤(k:Int):=by omega
      refine xU 11 12 hS (by kernel_rfl) (by kernel_rfl) [10] rfl ?_
      clear hS
      intro w hS hR hC
      go_wp2_with ((first|((with_reducible apply Cont.intro);(first|(focus (apply Or.inr;apply (Sat.sb hS);(repeat (with_reducible first|exact Sb.refl|(refine Sb.take (by(repeat (first|exact Rem.hd|apply Rem.tl));done) ?_)|apply Sb.skip));done))|(exact Or.inl (by kernel_rfl)));intro hR hC)|((first|((with_reducible apply ki (i:=0));(simp only[q4,q6,q5];with_reducible rfl);kernel_rfl;kernel_rfl;decide +kernel;rfl;exact hC;exact(fun _ _ _ h=>nomatch h.1);exact hR;with_reducible exact ya)|((with_reducible apply ki (i:=1));(simp only[q4,q6,q5];with_reducible rfl);kernel_rfl;kernel_rfl;decide +kernel;rfl;exact hC;exact(fun _ _ _ h=>nomatch h.1);exact hR;with_reducible exact ya)|((with_reducible apply ki (i:=2));(simp only[q4,q6,q5];with_reducible rfl);kernel_rfl;kernel_rfl;decide +kernel;rfl;exact hC;exact(fun _ _ _ h=>nomatch h.1);exact hR;with_reducible exact ya)|((with_reducible apply ki (i:=3));(simp only[q4,q6,q5];with_reducible rfl);kernel_rfl;kernel_rfl;decide +kernel;rfl;exact hC;exact(fun _ _ _ h=>nomatch h.1);exact hR;with_reducible exact ya)|((with_reducible apply ki (i:=4));(simp only[q4,q6,q5];with_reducible rfl);kernel_rfl;kernel_rfl;decide +kernel;rfl;exact hC;exact(fun _ _ _ h=>nomatch h.1);exact hR;with_reducible exact ya)|((with_reducible apply ki (i:=6));(simp only[q4,q6,q5];with_reducible rfl);kernel_rfl;kernel_rfl;decide +kernel;rfl;exact hC;exact(fun _ _ _ h=>nomatch h.1);exact hR;with_reducible exact ya)|((with_reducible apply ki (i:=8));(simp only[q4,q6,q5];with_reducible rfl);kernel_rfl;kernel_rfl;decide +kernel;rfl;exact hC;exact(fun _ _ _ h=>nomatch h.1);exact hR;with_reducible exact ya)|((with_reducible apply ki (i:=11));(simp only[q4,q6,q5];with_reducible rfl);kernel_rfl;kernel_rfl;decide +kernel;rfl;exact hC;exact(fun _ _ _ h=>nomatch h.1);exact hR;with_reducible exact ya));(intro w;first|(go_simp;done)|(go_simp;rw[yo (by omega) (by omega)])|(go_simp;with_reducible rfl)|(go_simp;rfl));(clear hR hC;intro hR hC))|(((with_reducible apply ki (i:=7));(simp only[q4,q6,q5];with_reducible rfl);kernel_rfl;kernel_rfl;decide +kernel;rfl;exact hC;exact(fun _ _ _ h=>nomatch h.1);exact hR;with_reducible exact ya);(intro w;first|(exact Yd rfl (by(exact yg)) (by(exact yg)) (by(omega)))|(go_simp;done)|(go_simp;rw[yo (by omega) (by omega)])|(go_simp;with_reducible rfl)|(go_simp;rfl));(clear hR hC;intro hR hC))|(((with_reducible apply xp (i:=5));(simp only[q4,q6,q5];with_reducible rfl);kernel_rfl;kernel_rfl;decide +kernel;kernel_rfl;rfl;exact hC;exact(fun _ _ _ h=>nomatch h.1);exact hR;kernel_rfl;with_reducible exact ya);(intro w hS;(apply yj rfl (by(exact yb rfl)));first|exact yc (by decide +kernel) (hS.cell (by(repeat (with_reducible first|exact ye|apply yd))) rfl)|exact yc (by decide +kernel) ((hS.ownCell (by(repeat (with_reducible apply yd))) (by(rfl))).1)|exact yc (by decide +kernel) (Sat.rdCell2 (by assumption) hS (by((repeat (with_reducible apply yd)));try assumption) (by(rfl)))|exact yc (by decide +kernel) (hS.baseCell (by((repeat (with_reducible apply yd)));try assumption) (by assumption))|exact yc (by decide +kernel) (fzC (by assumption) hS (by((repeat (with_reducible apply yd)));try assumption))|exact yl hS (by assumption) (by((repeat (with_reducible apply yd)));try assumption) (by assumption) (by rfl) (by with_reducible exact sz7) (by decide +kernel) (by decide)|exact hS.loadWhole (by(repeat (with_reducible apply yd))) (by kernel_rfl) (by kernel_rfl));(clear hR hC;intro hR hC))|((with_reducible apply yq (i:=9));(simp only[qL];rfl);decide +kernel;exact hC;clear hR hC)|((with_reducible apply yq (i:=10));(simp only[qL];rfl);decide +kernel;exact hC;clear hR hC)|((with_reducible apply ym);decide +kernel;clear hR hC;refine And.intro rfl ?_)|((with_reducible apply yA hS);exact ya;exact E63;exact yb rfl;exact yw;rfl;decide;clear hS;intro NB9 w hS)|((with_reducible apply yD hS);exact ya;exact yb rfl;exact yb rfl;exact E63;(repeat (with_reducible first|exact Rem.hd|apply Rem.tl));(repeat (with_reducible apply Rem.tl));rfl;rfl;(omega);(omega);clear hS;intro AD CAP w hS;(try simp only[Nat.zero_add,List.nil_append] at hS)));try simp only[qA])
      gi_wp2
      have hS2:=hS
      rw[ex_sub x k q r2] at hS2
      clear hS
      have HW2:=hid (show yY (yS pre) x=(ws++[((x.drop k).take (q - k),yS pre+k)])++yY (yS pre+q) (x.drop q) by rw[HW.out,HR.out];simp)
      go_roundw
      case rel=>exact⟨q,AD,CAP,ws++[((x.drop k).take (q - k),yS pre+k)],rfl,by simp,r2,by simp;omega,HW2,by rw[GF];simpa using hS2⟩
      case measure=>simp[intOf];omega
   ·have hke:k=x.length:=by omega
    have hws:yY (yS pre) x=ws:=by rw[HW.out,hke,List.drop_length,YM,List.append_nil]
    clear HW
    have hit:=ux pre x 0
    rw[Nat.zero_add,hws] at hit
    have htt:((yS pre:Nat):Int)+(x.length:Int)=(yS (pre++[x]):Nat):=by rw[UN];omega
    have HTT:=hid htt
    clear htt
    have hne:=un x.length x (yS pre) (Nat.le_refl _)
    rw[hws] at hne
    clear hws
    cases ws with
    | nil =>
     have hit2:yU 0 (pre++[x])=yU 0 pre:=by rw[hit];simp[jI]
     have HIT:=hid hit2
     clear hit hit2 hne
     gi_wp2_with (first|((with_reducible apply kQ);(focus (intro c h;cases h));((with_reducible apply yh hS);exact ya;exact yb rfl;(repeat (with_reducible first|exact ye|apply yd));rfl;decide +kernel;(try simp only[qA]));(refine And.intro rfl ?_))|((with_reducible apply kQ);(focus (intro c h;cases h));((with_reducible apply yy hS);exact ya;exact yb rfl;exact yb rfl;(repeat (with_reducible first|exact ye|apply yd));rfl;(focus (simp;done));(repeat (with_reducible first|exact Upd.hd|apply Upd.tl));rfl;decide +kernel;clear hS;intro w hS;(try simp only[qS] at hS);(try simp only[qA]));(refine And.intro rfl ?_)))
     rw[HTT.out] at hS
     have hla2:ky H vs (yU 0 (pre++[x])):=by rw[HIT.out];exact hla
     exact JL hla2 (by rw[HIT.out]) rfl (hS.sb (by(repeat (with_reducible first|exact Sb.refl|(refine Sb.take (by(repeat (first|exact Rem.hd|apply Rem.tl));done) ?_)|apply Sb.skip))))
    | cons w1 wt =>
     obtain⟨t1,a1⟩:=w1
     cases t1 with
     | nil=>exact absurd rfl (hne _ (.head _))
     | cons c cs =>
      clear hne
      have hkn:(((c,a1)::[]).length:Int)=1:=rfl
      clear hkn
      have hl1:((((c::cs),a1)::wt:List (List UInt8 × Nat)).length:Int) > 0:=by rw[List.length_cons];omega
      have h0w:0 < (((c::cs),a1)::wt:List (List UInt8 × Nat)).length:=by simp
      obtain⟨n,hn⟩:∃ n,n=(((c::cs),a1)::wt:List (List UInt8 × Nat)).length:=⟨_,rfl⟩
      rw[← hn] at hS hl1 h0w hwk ⊢
      have HN:=hid hn
      clear hn
      have hcb:(⟨(c::cs).toArray⟩:ByteArray)[0]'(by simp[ByteArray.size])=c:=rfl
      have hx0:(Ws (((c::cs),a1)::wt))[0]?=some (.string ⟨(c::cs).toArray⟩):=rfl
      by_cases h99:c=99
      ·have hit2:yU 0 (pre++[x])=yU 0 pre:=by rw[hit];simp[jI,YZ,h99]
       have HIT:=hid hit2
       have e99:((c.toNat:Int) != 99)=false:=by rw[h99];rfl
       clear hit hit2 h99
       gi_wp2_with (first|((with_reducible apply kQ);(focus (intro c h;cases h));((with_reducible apply yh hS);(first|with_reducible exact ya|exact yf rfl rfl);exact yb rfl;(repeat (with_reducible first|exact ye|apply yd));rfl;decide +kernel;(try simp only[qA]));(refine And.intro rfl ?_))|((with_reducible apply kQ);(focus (intro c h;cases h));((with_reducible apply yy hS);exact ya;exact yb rfl;exact yb rfl;(repeat (with_reducible first|exact ye|apply yd));rfl;(focus (simp;done));(repeat (with_reducible first|exact Upd.hd|apply Upd.tl));rfl;decide +kernel;clear hS;intro w hS;(try simp only[qS] at hS);(try simp only[qA]));(refine And.intro rfl ?_))|((with_reducible apply kQ);(focus (intro c h;cases h));((with_reducible apply yn);exact yf rfl rfl;exact yb rfl;exact yg;exact E63;(omega);(omega);(exact hS.ownNN (by(exact ye)) (by omega));(rfl);(try simp only[qA]));(refine And.intro rfl ?_))|((with_reducible apply kQ);(focus (intro c h;cases h));((with_reducible apply yR);exact yf rfl rfl;exact yb rfl;(exact hS.ownNN (by(exact ye)) (by omega));exact fo130_0;(try simp only[qA]));(refine And.intro rfl ?_))|((with_reducible apply kQ);(focus (intro c h;cases h));((with_reducible apply yF);exact yf rfl rfl;exact yb rfl;(exact(hS.ownCell (by(exact ye)) (by(assumption))).1);decide +kernel;(try simp only[qA]));(refine And.intro rfl ?_)))
       rw[HTT.out] at hS
       have hla2:ky H vs (yU 0 (pre++[x])):=by rw[HIT.out];exact hla
       exact JL hla2 (by rw[HIT.out]) rfl (hS.sb (by(repeat (with_reducible first|exact Sb.refl|(refine Sb.take (by(repeat (first|exact Rem.hd|apply Rem.tl));done) ?_)|apply Sb.skip))))
      ·have hit2:yU 0 (pre++[x])=yU 0 pre++[((c::cs),a1)::wt]:=by rw[hit];simp[jI,YZ,h99]
       have HIT:=hid hit2
       have e99:((c.toNat:Int) != 99)=true:=by
        have:=YW c 99 99 rfl
        simp only[bne,this]
        simp[h99]
       have hib:(yU 0 pre).length≤1048577:=by
        obtain⟨rest,hr⟩:=hx
        have h1:=Jl pre 0
        have h2:=Jm text
        rw[hr,List.length_append] at h2
        omega
       clear hit hit2 h99
       gi_wp2_with (first|((with_reducible apply kQ);(focus (intro c h;cases h));((with_reducible apply yh hS);(first|with_reducible exact ya|exact yf rfl rfl);exact yb rfl;(repeat (with_reducible first|exact ye|apply yd));rfl;decide +kernel;(try simp only[qA]));(refine And.intro rfl ?_))|((with_reducible apply kQ);(focus (intro c h;cases h));((with_reducible apply yy hS);exact ya;exact yb rfl;exact yb rfl;(repeat (with_reducible first|exact ye|apply yd));rfl;(focus (simp;done));(repeat (with_reducible first|exact Upd.hd|apply Upd.tl));rfl;decide +kernel;clear hS;intro w hS;(try simp only[qS] at hS);(try simp only[qA]));(refine And.intro rfl ?_))|((with_reducible apply kQ);(focus (intro c h;cases h));((with_reducible apply yn);exact yf rfl rfl;exact yb rfl;exact yg;exact E63;(omega);(omega);(exact hS.ownNN (by(exact ye)) (by omega));(rfl);(try simp only[qA]));(refine And.intro rfl ?_))|((with_reducible apply kQ);(focus (intro c h;cases h));((with_reducible apply yR);exact yf rfl rfl;exact yb rfl;(exact hS.ownNN (by(exact ye)) (by omega));exact fo130_0;(try simp only[qA]));(refine And.intro rfl ?_))|((with_reducible apply kQ);(focus (intro c h;cases h));((with_reducible apply yF);exact yf rfl rfl;exact yb rfl;(exact(hS.ownCell (by(exact ye)) (by(assumption))).1);decide +kernel;(try simp only[qA]));(refine And.intro rfl ?_))|((with_reducible apply kQ);(focus (intro c h;cases h));((with_reducible apply yA hS);exact ya;exact E59;exact yb rfl;exact yN rfl;rfl;decide;clear hS;intro NB10 w hS;(try simp only[qA]));(refine And.intro rfl ?_))|((with_reducible apply kQ);(focus (intro c h;cases h));((with_reducible apply yD hS);exact ya;exact yb rfl;exact yb rfl;exact E59;(repeat (with_reducible first|exact Rem.hd|apply Rem.tl));(repeat (with_reducible apply Rem.tl));rfl;rfl;(omega);(omega);clear hS;intro AD CAP w hS;(try simp only[Nat.zero_add,List.nil_append] at hS);(try simp only[qA]));(refine And.intro rfl ?_)))
       rw[HTT.out] at hS
       have hS3:=hS.sb (L:=own 130 2 adl n capl (Ws (((c::cs),a1)::wt))::fz H::blk B3 59 [.slice AD ((yU 0 pre).length+1) CAP]::blk B4 3 [.int .i64 (yS (pre++[x]):Nat)]::own 63 1 AD ((yU 0 pre).length+1) CAP (vs++[.slice adl n capl])::Fr) (by(repeat (with_reducible first|exact Sb.refl|(refine Sb.take (by(repeat (first|exact Rem.hd|apply Rem.tl));done) ?_))))
       obtain⟨H',hHH,hLA,hS4⟩:=shutLine HN.out (by simp) hS3
       have hla2:ky H' (vs++[.slice adl n capl]) (yU 0 (pre++[x])):=by
        rw[HIT.out]
        refine ⟨by simp[hla.1],fun j v ls hv hls=>?_⟩
        by_cases hj:j < vs.length
        ·rw[List.getElem?_append_left hj] at hv
         rw[List.getElem?_append_left (by rw[← hla.1];exact hj)] at hls
         exact(hla.2 j v ls hv hls).ext hHH
        ·have hj2:j=vs.length:=by
          have:=(List.getElem?_eq_some_iff.1 hv).1
          simp at this
          omega
         subst hj2
         rw[List.getElem?_concat_length] at hv
         rw[hla.1,List.getElem?_concat_length] at hls
         simp only[Option.some.injEq] at hv hls
         rw[← hv,← hls]
         exact hLA
       have hS5:=hS4.sb (L:=blk B3 59 [.slice AD ((yU 0 pre).length+1) CAP]::blk B4 3 [.int .i64 (yS (pre++[x]):Nat)]::own 63 1 AD ((yU 0 pre).length+1) CAP (vs++[.slice adl n capl])::fz H'::Fr) (by(repeat (with_reducible first|exact Sb.refl|(refine Sb.take (by(repeat (first|exact Rem.hd|apply Rem.tl));done) ?_))))
       exact JL hla2 (by rw[HIT.out,List.length_append];rfl) rfl hS5
 case done =>
  intro D s W hf hS1
  subst hf
  simp only[List.cons_append,List.nil_append] at hS1
  obtain⟨ad,cap,vs,H,hla,hS⟩:=XZ hS1
  clear hS1
  go_wp2_with ((with_reducible apply yh hS);exact ya;exact yb rfl;exact ye;rfl;decide +kernel;(try simp only[qA]))
  have hK:=hS.block (o:=.deferred (some [])) (b:=D) (by(repeat (with_reducible first|exact ye|apply yd)))
  refine ⟨by simp,.inl ⟨_,_,rfl,run_takeDeferred hK,?_⟩⟩
  have hS2:Sat w0 W ([blk B3 59 [.slice ad (yU 0 (yJ text)).length cap],blk B4 3 [.int .i64 (yS (yJ text):Int)],own 63 1 ad (yU 0 (yJ text)).length cap vs,fz H]++pt D (.deferred (some []))::Hs):=hS
  have hS3:=hS2.putObj (.deferred none)
  simp only[List.cons_append,List.nil_append] at hS3
  exact⟨_,results_tmp rfl _ _ _,_,H,rfl,ad,cap,vs,rfl,hla,hS3.sb (by(repeat (with_reducible first|exact Sb.refl|(refine Sb.take (by(repeat (first|exact Rem.hd|apply Rem.tl));done) ?_)|apply Sb.skip)))⟩
end
end Go.Proofs.YteopodbkhgcpmaaGreatDoor
