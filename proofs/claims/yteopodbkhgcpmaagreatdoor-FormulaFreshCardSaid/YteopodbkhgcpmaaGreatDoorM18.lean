/- A part of the proof: RdN Bk1 Bk2 Bk4 Al1 Form6a Form6b Form6c Form6. -/
import Derived.Test.YteopodbkhgcpmaaGreatDoorM1
import Derived.Test.YteopodbkhgcpmaaGreatDoorM7
import Derived.Test.YteopodbkhgcpmaaGreatDoorM13
set_option linter.unusedSimpArgs false
set_option linter.unusedVariables false
set_option linter.unusedSectionVars false
namespace Go.Proofs.YteopodbkhgcpmaaGreatDoor
section
open Go Go.RowKit Go.SL Go.ClauseP Go.LexP

theorem run_len {text:List UInt8} {m:MS} {w q:Int} {t:TokR} {r:Ans} (h:MRun text m w q t r):MInv m→∀ o,r=.inr o→o.length≤65536:=by
 induction h with
 | err hs=>intro _ o e;cases e
 | @done m w q t o hs =>
  intro hi o' e
  injection e with e;subst e
  have h3:Inv3 m.nds (m.st,m.out,m.opn):=⟨hi.1,hi.2.1,hi.2.2.1⟩
  have h4:=ja _ _ _ h3
  have h5:=hi.2.2.2
  cases t with
  | mk tk at_ fin =>
   dsimp only at hs
   cases tk with
   | fin =>
    simp only[yB] at hs
    split at hs
    ·generalize yQ m.st m.out m.opn=x at *
     obtain⟨S,o1,k⟩:=x
     cases S with
     | nil=>injection hs with hs;subst hs;have:=h4.2.1;simp[sN] at this;omega
     | cons a S=>cases hs
    ·cases hs
   | op o=>simp only[yB,Yk] at hs;split at hs <;> (try split at hs) <;> cases hs
   | cls =>
    simp only[yB] at hs;split at hs
    ·generalize yQ m.st m.out m.opn=x at hs
     obtain⟨S,o1,k⟩:=x
     rcases S with _|⟨a,S⟩
     ·cases hs
     ·cases a <;> simp only[Kf] at hs <;> (try split at hs) <;> cases hs
    ·cases hs
   | comma =>
    simp only[yB] at hs;split at hs
    ·generalize yQ m.st m.out m.opn=x at hs
     obtain⟨S,o1,k⟩:=x
     rcases S with _|⟨a,S⟩
     ·cases hs
     ·cases a <;> simp only[KP] at hs <;> (try split at hs) <;> cases hs
    ·split at hs <;> cases hs
   | _=>simp only[yB,Yk,YE] at hs <;> (repeat' split at hs) <;> cases hs
 | go hs _ ih=>intro hi o e;exact ih (YR hi hs) o e
end
section
open Go Go.RowKit Go.SL Go.ClauseP Go.LexP

/-! ### Tokens of a suffix -/
def Yz (s:List UInt8):Tk × List UInt8:=((Yj (s.drop (Yu false s))).1,(s.drop (Yu false s)).drop (Yj (s.drop (Yu false s))).2)
theorem xB (text:List UInt8) (k:Nat):(yP text k).tk=(Yz (text.drop k)).1∧text.drop (yP text k).fin=(Yz (text.drop k)).2:=by
 have e:(text.drop k).drop (Yu false (text.drop k))=text.drop (Yf text k):=by rw[List.drop_drop];rfl
 unfold Yz yP
 rw[e]
 split
 ·rename_i h
  rw[h,List.drop_eq_nil_of_le (Nat.le_refl _)]
  exact⟨rfl,rfl⟩
 ·exact⟨rfl,by rw[List.drop_drop]⟩
def Toks:List UInt8→List Tk→List UInt8→Prop
 | s,[],s'=>Yz s=Yz s'
 | s,t::l,s'=>(Yz s).1=t∧Toks (Yz s).2 l s'
theorem Toks.from_eq {s s1 s':List UInt8} {l:List Tk} (e:Yz s=Yz s1) (h:Toks s1 l s'):Toks s l s':=by
 cases l with
 | nil=>exact e.trans h
 | cons t l=>simp only[Toks] at h ⊢;rw[e];exact h
theorem Toks.app {l l':List Tk} {s' s'':List UInt8}:∀ {s:List UInt8},Toks s l s'→Toks s' l' s''→Toks s (l++l') s'':=by
 induction l with
 | nil=>intro s h h2;exact h2.from_eq h
 | cons t l ih=>intro s h h2;exact⟨h.1,ih h.2 h2⟩
theorem Toks.one {s s':List UInt8} {t:Tk} (h:Yz s=(t,s')):Toks s [t] s':=by
 refine ⟨by rw[h],?_⟩
 rw[h];rfl
theorem Toks.cons {s s' s'':List UInt8} {t:Tk} {l:List Tk} (h:Yz s=(t,s')) (h2:Toks s' l s''):Toks s (t::l) s'':=by
 refine ⟨by rw[h],?_⟩
 rw[h];exact h2
theorem uA (r:List UInt8):Yz (32::r)=Yz r:=by
 have e:Yu false (32::r)=1+Yu false r:=rfl
 unfold Yz
 rw[e,Nat.add_comm,List.drop_succ_cons]
theorem Toks.blank {s s':List UInt8} {l:List Tk} (h:Toks s l s'):Toks (32::s) l s':=h.from_eq (uA s)
theorem Toks.end_blank {s s':List UInt8} {l:List Tk} (h:Toks s l (32::s')):Toks s l s':=by
 have:=h.app (l':=[]) (s'':=s') (uA s')
 rwa [List.append_nil] at this

/-! ### Numbers -/
theorem xC (d:Nat) (h:d < 10):Yc (UInt8.ofNat (48+d))=true∧(UInt8.ofNat (48+d)).toNat=48+d:=by
 have:d=0∨d=1∨d=2∨d=3∨d=4∨d=5∨d=6∨d=7∨d=8∨d=9:=by omega
 rcases this with rfl|rfl|rfl|rfl|rfl|rfl|rfl|rfl|rfl|rfl <;> decide
theorem gP (n:Nat):(Lib.decDigits n).all Yc=true∧Lib.decDigits n≠[]∧Ko 0 (Lib.decDigits n)=n∧(n≠0→(Lib.decDigits n).head?≠some 48)∧(n=0→Lib.decDigits n=[48]):=by
 induction n using Nat.strongRecOn with
 | ind n ih =>
  by_cases h:n < 10
  ·rw[Lib.decDigits_one h]
   obtain⟨h1,h2⟩:=xC n h
   generalize hd:UInt8.ofNat (48+n)=d at *
   refine ⟨by simp[h1],by simp,by simp[Ko,h2],fun h0 e=>?_,fun h0=>by rw[← hd,h0];rfl⟩
   have:d=48:=by simpa using e
   rw[this] at h2
   have:(48:UInt8).toNat=48:=rfl
   omega
  ·obtain⟨i1,i2,i3,i4,_⟩:=ih (n / 10) (by omega)
   obtain⟨h1,h2⟩:=xC (n % 10) (by omega)
   have e:Lib.decDigits n=Lib.decDigits (n / 10)++[UInt8.ofNat (48+n % 10)]:=by rw[Lib.decDigits,dif_neg h]
   rw[e]
   clear e
   generalize UInt8.ofNat (48+n % 10)=d at *
   refine ⟨by rw[List.all_append,i1];simp[h1],by simp,by rw[ul,i3,h2];omega,fun _=>?_,fun h0=>by omega⟩
   cases hl:Lib.decDigits (n / 10) with
   | nil=>exact absurd hl i2
   | cons a b =>
    have:=i4 (by omega)
    rw[hl] at this
    simpa using this
theorem num_dec (most n:Nat) (h:n≤most):Yv most (Lib.decDigits n)=n:=by
 obtain⟨h1,h2,h3,h4,h5⟩:=gP n
 rw[jf h2 ?_ h1,h3,if_neg (by omega)]
 rintro⟨a,b⟩
 by_cases h0:n=0
 ·rw[h5 h0] at a;simp at a
 ·exact h4 h0 b
/-! ### The pieces -/
def Sep (r:List UInt8):Prop:=∀ c,r.head?=some c→ldP c=false
theorem sep_nil:Sep []:=fun c h=>by cases h
theorem jN {c:UInt8} {r:List UInt8} (h:ldP c=false):Sep (c::r):=fun d hd=>by simp at hd;subst hd;exact h
theorem gx {p:UInt8→Bool}:∀ (w r:List UInt8),(∀ c∈w,p c=true)→(∀ c,r.head?=some c→p c=false)→(w++r).takeWhile p=w
 | [],[],_,_=>rfl
 | [],c::r,_,h=>by simp[List.takeWhile,h c rfl]
 | c::w,r,h,h2=>by
  rw[List.cons_append,List.takeWhile_cons,h c (.head _)]
  simp only[if_true]
  rw[gx w r (fun d hd=>h d (.tail _ hd)) h2]
theorem letP_skip {c:UInt8} (h:kD c=true) (r:List UInt8):Yu false (c::r)=0:=by
 have h1:kN c=false:=by
  cases hb:kN c with
  | false=>rfl
  | true =>
   simp only[kN,Bool.or_eq_true,beq_iff_eq] at hb
   rcases hb with ((rfl|rfl)|rfl)|rfl <;> cases h
 have h2:¬ c=35:=fun e=>by subst e;cases h
 simp only[Yu,h1,h2,if_false,Bool.false_eq_true]
theorem Kx (w r:List UInt8) {c:UInt8} {t:List UInt8} (hw:w=c::t) (hc:kD c=true) (hl:∀ d∈w,ldP d=true) (hr:Sep r):Yz (w++r)=(Kp w,r):=by
 have h0:Yu false (w++r)=0:=by rw[hw];exact letP_skip hc _
 have h1:Yj (w++r)=(Kp w,w.length):=by
  have:Yj (w++r)=(Kp ((w++r).takeWhile ldP),((w++r).takeWhile ldP).length):=by
   subst hw
   simp only[Yj,List.cons_append,hc,if_true]
  rw[this,gx w r hl hr]
 unfold Yz
 rw[h0,List.drop_zero,h1]
 simp
theorem dig_ld {c:UInt8} (h:Yc c=true):ldP c=true:=by simp[ldP,h]
theorem Uh (v:Int) (h0:0≤v):Lib.itoa v=Lib.decDigits v.toNat:=by
 obtain⟨n,rfl⟩:∃ n:Nat,v=n:=⟨v.toNat,by omega⟩
 rw[Lib.itoa_nonneg];rfl
theorem tokW_var (v:Int) (h0:0≤v) (h:v < 65536):Kp ([120]++Lib.itoa v)=.var v:=by
 obtain⟨h1,h2,h3,h4,h5⟩:=gP v.toNat
 rw[Uh v h0]
 have hn:=num_dec 65535 v.toNat (by omega)
 generalize Lib.decDigits v.toNat=ds at *
 cases ds with
 | nil=>exact absurd rfl h2
 | cons d ds =>
  have hd:Yc d=true:=by simp at h1;exact h1.1
  have hl:kD d=false:=by
   cases hlp:kD d with
   | false=>rfl
   | true =>
    simp only[kD,Yc,Bool.or_eq_true,Bool.and_eq_true,decide_eq_true_eq] at hlp hd
    exfalso
    have a1:d.toNat≤57:=by have:=hd.2;simpa [UInt8.le_iff_toNat_le] using this
    rcases hlp with ⟨a,b⟩|⟨a,b⟩
    ·have a2:97≤d.toNat:=by simpa [UInt8.le_iff_toNat_le] using a
     omega
    ·have a2:65≤d.toNat:=by simpa [UInt8.le_iff_toNat_le] using a
     omega
  have ne:∀ (a:UInt8) (l:List UInt8),(120:UInt8)≠a→¬ ([120]++(d::ds)=a::l):=fun a l h e=>h (by injection e)
  unfold Kp
  rw[if_neg (ne _ _ (by decide)),if_neg (ne _ _ (by decide)),if_neg (ne _ _ (by decide)),if_neg (ne _ _ (by decide)),if_neg (ne _ _ (by decide))]
  show (if kD d=true then Tk.bad 131 else if Yv 65535 (d::ds) < 0 then Tk.bad 133 else Tk.var (Yv 65535 (d::ds)))=_
  rw[if_neg (by rw[hl];decide),if_neg (by omega),hn]
  congr 1;omega
theorem UR (v:Int) (h0:0≤v) (h:v < 65536) (r:List UInt8) (hr:Sep r):Yz ([120]++Lib.itoa v++r)=(.var v,r):=by
 rw[Kx ([120]++Lib.itoa v) r (c:=120) (t:=Lib.itoa v) rfl (by decide) ?_ hr,tokW_var v h0 h]
 intro d hd
 rw[Uh v h0] at hd
 rcases List.mem_append.1 hd with hd|hd
 ·simp at hd;subst hd;decide
 ·exact dig_ld (List.all_eq_true.1 (gP v.toNat).1 d hd)
theorem true_next (r:List UInt8) (hr:Sep r):Yz ([116,114,117,101]++r)=(.const 1,r):=Kx _ r rfl (by decide) (by decide) hr
theorem gR (r:List UInt8) (hr:Sep r):Yz ([102,97,108,115,101]++r)=(.const 0,r):=Kx _ r rfl (by decide) (by decide) hr
theorem XL (r:List UInt8) (hr:Sep r):Yz ([101,120,105,115,116,115]++r)=(.quant 4,r):=Kx _ r rfl (by decide) (by decide) hr
theorem XO (r:List UInt8) (hr:Sep r):Yz ([102,111,114,97,108,108]++r)=(.quant 5,r):=Kx _ r rfl (by decide) (by decide) hr
theorem ite_next (r:List UInt8) (hr:Sep r):Yz ([105,116,101]++r)=(.ite,r):=Kx _ r rfl (by decide) (by decide) hr
theorem not_next (r:List UInt8):Yz (33::r)=(.not,r):=rfl
theorem gb (r:List UInt8):Yz (40::r)=(.opn,r):=rfl
theorem XK (r:List UInt8):Yz (41::r)=(.cls,r):=rfl
theorem Jk (r:List UInt8):Yz (44::r)=(.comma,r):=rfl
theorem gO (r:List UInt8):Yz (58::r)=(.colon,r):=rfl
theorem and_next (r:List UInt8):Yz (38::r)=(.op 6,r):=rfl
theorem or_next (r:List UInt8):Yz (124::r)=(.op 7,r):=rfl
theorem xor_next (r:List UInt8):Yz (94::r)=(.op 8,r):=rfl
theorem imp_next (r:List UInt8):Yz (45::62::r)=(.op 9,r):=rfl
theorem iff_next (r:List UInt8):Yz (60::45::62::r)=(.op 10,r):=rfl
/-! ### A tree's tokens -/
def brK (t:List Tk × List Tk) (br last:Bool):List Tk:=if br then [.opn]++t.1++[.cls] else if last then t.1 else t.2
def K:T→(List Tk × List Tk) × (Int→List Tk)
 | .cst n=>let s:List Tk:=[.const n];((s,s),fun _=>.colon::s)
 | .var v=>let s:List Tk:=[.var v];((s,s),fun _=>.colon::s)
 | .neg a =>
  let s (last:Bool):List Tk:=[.not]++brK (K a).1 (kO 3 0 a last) last
  ((s true,s false),fun _=>.colon::s true)
 | .qu op v a =>
  let s:List Tk:=[.quant op,.var v]++(K a).2 op
  ((s,s),fun op'=>if op'=op then [.comma,.var v]++(K a).2 op' else .colon::s)
 | .bin op a b =>
  let s (last:Bool):List Tk:=brK (K a).1 (kO op 0 a false) false++[.op op]++brK (K b).1 (kO op 1 b last) last
  ((s true,s false),fun _=>.colon::s true)
 | .ite c a b =>
  let s:List Tk:=[.ite,.opn]++(K c).1.1++[.comma]++(K a).1.1++[.comma]++(K b).1.1++[.cls]
  ((s,s),fun _=>.colon::s)
def tkT (t:T) (last:Bool):List Tk:=if last then (K t).1.1 else (K t).1.2
def Xd (op side:Int) (x:T) (last:Bool):List Tk:=if kO op side x last then [.opn]++tkT x true++[.cls] else tkT x last
def KA (op:Int) (t:T):List Tk:=(K t).2 op
theorem brK_eq (t:T) (br last:Bool):brK (K t).1 br last=if br then [.opn]++tkT t true++[.cls] else tkT t last:=by
 cases br <;> cases last <;> rfl
theorem tkT_cst (n:Int) (last:Bool):tkT (.cst n) last=[.const n]:=by cases last <;> rfl
theorem tkT_var (v:Int) (last:Bool):tkT (.var v) last=[.var v]:=by cases last <;> rfl
theorem tkT_neg (a:T) (last:Bool):tkT (.neg a) last=[.not]++Xd 3 0 a last:=by
 cases last <;> simp only[tkT,K,brK_eq,Xd,if_true,if_false,Bool.false_eq_true]
theorem tkT_qu (op v:Int) (a:T) (last:Bool):tkT (.qu op v a) last=[.quant op,.var v]++KA op a:=by cases last <;> rfl
theorem tkT_bin (op:Int) (a b:T) (last:Bool):tkT (.bin op a b) last=Xd op 0 a false++[.op op]++Xd op 1 b last:=by
 cases last <;> simp only[tkT,K,brK_eq,Xd,if_true,if_false,Bool.false_eq_true]
theorem tkT_ite (c a b:T) (last:Bool):tkT (.ite c a b) last=[.ite,.opn]++tkT c true++[.comma]++tkT a true++[.comma]++tkT b true++[.cls]:=by cases last <;> rfl
theorem uw (op v:Int) (a:T):KA op (.qu op v a)=[.comma,.var v]++KA op a:=by simp[KA,K]
theorem Ub {op:Int} {t:T} (h:JW op t=false):KA op t=.colon::tkT t true:=by
 cases t with
 | qu o v a =>
  simp only[JW,decide_eq_false_iff_not] at h
  have h2:¬ op=o:=fun e=>h e.symm
  simp[KA,K,tkT,h2]
 | _=>rfl

/-! ### The text's tokens -/
theorem sep32 (r:List UInt8):Sep (32::r):=jN (by decide)
theorem sep41 (r:List UInt8):Sep (41::r):=jN (by decide)
theorem sep40 (r:List UInt8):Sep (40::r):=jN (by decide)
theorem sep44 (r:List UInt8):Sep (44::r):=jN (by decide)
theorem sep58 (r:List UInt8):Sep (58::r):=jN (by decide)
theorem Gp (op:Int) (h:6≤op∧op≤10) (r:List UInt8):(∃ x,YN op++r=32::x)∧Toks (YN op++r) [.op op] r:=by
 have:op=6∨op=7∨op=8∨op=9∨op=10:=by omega
 rcases this with rfl|rfl|rfl|rfl|rfl
 ·exact⟨⟨_,rfl⟩,(Toks.blank (.one (and_next _))).end_blank⟩
 ·exact⟨⟨_,rfl⟩,(Toks.blank (.one (or_next _))).end_blank⟩
 ·exact⟨⟨_,rfl⟩,(Toks.blank (.one (xor_next _))).end_blank⟩
 ·exact⟨⟨_,rfl⟩,(Toks.blank (.one (imp_next _))).end_blank⟩
 ·exact⟨⟨_,rfl⟩,(Toks.blank (.one (iff_next _))).end_blank⟩
theorem Gk (op:Int) (h:op=4∨op=5) (r:List UInt8):Toks (YN op++r) [.quant op] r:=by
 rcases h with rfl|rfl
 ·exact(Toks.one (XL (32::r) (sep32 r))).end_blank
 ·exact(Toks.one (XO (32::r) (sep32 r))).end_blank
def LexT (t:T):Prop:=(∀ last r,Sep r→Toks (wr t last++r) (tkT t last) r)∧∀ op r,Sep r→Sep (kK op t++r)∧Toks (kK op t++r) (KA op t) r
theorem jV {t:T} (h:∀ last r,Sep r→Toks (wr t last++r) (tkT t last) r) {op:Int} (hq:JW op t=false) (r:List UInt8) (hr:Sep r):Sep (kK op t++r)∧Toks (kK op t++r) (KA op t) r:=by
 rw[Kr hq,Ub hq]
 exact⟨sep58 _,.cons (gO _) (Toks.blank (h true r hr))⟩
theorem xW {x:T} (h:LexT x) (op side:Int) (last:Bool) (r:List UInt8) (hr:Sep r):Toks (opd op side x last++r) (Xd op side x last) r:=by
 unfold opd Xd
 split
 ·have e:[40]++wr x true++[41]++r=40::(wr x true++41::r):=by simp
  rw[e,List.append_assoc]
  exact .cons (gb _) ((h.1 true _ (sep41 r)).app (.one (XK r)))
 ·exact h.1 last r hr
theorem XT:∀ t:T,okT t→LexT t
 | .cst n,h=>by
  have h1:∀ last r,Sep r→Toks (wr (.cst n) last++r) (tkT (.cst n) last) r:=by
   intro last r hr
   rw[Gz,tkT_cst]
   rcases h with rfl|rfl
   ·exact .one (gR r hr)
   ·exact .one (true_next r hr)
  exact⟨h1,fun op r hr=>jV h1 rfl r hr⟩
 | .var v,h=>by
  have h1:∀ last r,Sep r→Toks (wr (.var v) last++r) (tkT (.var v) last) r:=by
   intro last r hr
   rw[Xu,tkT_var]
   exact .one (UR v h.1 h.2 r hr)
  exact⟨h1,fun op r hr=>jV h1 rfl r hr⟩
 | .neg a,h=>by
  have ih:=XT a h
  have h1:∀ last r,Sep r→Toks (wr (.neg a) last++r) (tkT (.neg a) last) r:=by
   intro last r hr
   rw[uq,tkT_neg]
   exact .cons (not_next _) (xW ih 3 0 last r hr)
  exact⟨h1,fun op r hr=>jV h1 rfl r hr⟩
 | .qu op v a,h=>by
  have ih:=XT a h.2.2.2
  have h1:∀ last r,Sep r→Toks (wr (.qu op v a) last++r) (tkT (.qu op v a) last) r:=by
   intro last r hr
   rw[gE,tkT_qu]
   obtain⟨k1,k2⟩:=ih.2 op r hr
   have e:YN op++[120]++Lib.itoa v++kK op a++r=YN op++([120]++Lib.itoa v++(kK op a++r)):=by simp
   rw[e]
   exact(Gk op h.1 _).app (.cons (UR v h.2.1 h.2.2.1 _ k1) k2)
  refine ⟨h1,fun op' r hr=>?_⟩
  by_cases e:op'=op
  ·subst e
   rw[Jj,uw]
   obtain⟨k1,k2⟩:=ih.2 op' r hr
   have e:[44,32,120]++Lib.itoa v++kK op' a++r=44::32::([120]++Lib.itoa v++(kK op' a++r)):=by simp
   rw[e]
   exact⟨sep44 _,.cons (Jk _) (Toks.blank (.cons (UR v h.2.1 h.2.2.1 _ k1) k2))⟩
  ·exact jV h1 (by simp[JW];exact fun x=>e x.symm) r hr
 | .bin op a b,h=>by
  have ih:=XT a h.2.2.1
  have ih2:=XT b h.2.2.2
  have h1:∀ last r,Sep r→Toks (wr (.bin op a b) last++r) (tkT (.bin op a b) last) r:=by
   intro last r hr
   rw[uo,tkT_bin]
   have k2:=xW ih2 op 1 last r hr
   obtain⟨⟨x,hx⟩,k3⟩:=Gp op ⟨h.1,h.2.1⟩ (opd op 1 b last++r)
   have e:opd op 0 a false++YN op++opd op 1 b last++r=opd op 0 a false++(YN op++(opd op 1 b last++r)):=by simp
   rw[e]
   exact((xW ih op 0 false _ (by rw[hx];exact sep32 x)).app k3).app k2
  exact⟨h1,fun op r hr=>jV h1 rfl r hr⟩
 | .ite c a b,h=>by
  have ic:=XT c h.1
  have ia:=XT a h.2.1
  have ib:=XT b h.2.2
  have h1:∀ last r,Sep r→Toks (wr (.ite c a b) last++r) (tkT (.ite c a b) last) r:=by
   intro last r hr
   rw[UT,tkT_ite]
   have e:[105,116,101,40]++wr c true++[44,32]++wr a true++[44,32]++wr b true++[41]++r=[105,116,101]++40::(wr c true++44::32::(wr a true++44::32::(wr b true++41::r))):=by simp
   have e2:[Tk.ite,.opn]++tkT c true++[.comma]++tkT a true++[.comma]++tkT b true++[.cls]=.ite::.opn::(tkT c true++.comma::(tkT a true++.comma::(tkT b true++[.cls]))):=by simp
   rw[e,e2]
   have k1:=(ib.1 true (41::r) (sep41 r)).app (.one (XK r))
   have k2:=(ia.1 true (44::32::(wr b true++41::r)) (sep44 _)).app (.cons (Jk _) (Toks.blank k1))
   have k3:=(ic.1 true (44::32::(wr a true++44::32::(wr b true++41::r))) (sep44 _)).app (.cons (Jk _) (Toks.blank k2))
   exact .cons (ite_next _ (sep40 _)) (.cons (gb _) k3)
  exact⟨h1,fun op r hr=>jV h1 rfl r hr⟩
end
section
open Go Go.RowKit Go.SL Go.ClauseP Go.LexP

def jL (m:MS) (w q:Int):List Tk→Nx
 | []=>.go m w q
 | t::l=>match yB m w q t with
  | .go m' w' q'=>jL m' w' q' l
  | x=>x
theorem jg:∀ (l l':List Tk) (m:MS) (w q:Int) {m':MS} {w' q':Int},jL m w q l=.go m' w' q'→jL m w q (l++l')=jL m' w' q' l'
 | [],l',m,w,q,m',w',q',h=>by
  simp only[jL] at h;injection h with a b c;subst a;subst b;subst c;rfl
 | t::l,l',m,w,q,m',w',q',h=>by
  simp only[List.cons_append,jL] at h ⊢
  cases hs:yB m w q t with
  | err e=>rw[hs] at h;cases h
  | done o=>rw[hs] at h;cases h
  | go m1 w1 q1=>rw[hs] at h;exact jg l l' m1 w1 q1 h
theorem YK {m m':MS} {w q w' q':Int} {t:Tk} (l:List Tk) (h:yB m w q t=.go m' w' q'):jL m w q (t::l)=jL m' w' q' l:=by simp only[jL,h]
def Stop2 (b:Nat):List Wt→Prop
 | .not::_=>6≤b
 | .op o::_=>YB o < b∨b=2∧o=9
 | _=>True
theorem Stop2.oper {op:Int} {S:List Wt} (h:Stop2 (YB op) S) (h9:YB op=2→op=9) (o:List (Int × Int)) (k:Nat):Yr op S o k=(S,o,k):=by
 have:=Kq op
 cases S with
 | nil=>rfl
 | cons w S =>
  unfold Stop2 at h
  cases w with
  | not=>dsimp only at h;omega
  | op x =>
   dsimp only at h;simp only[Yr]
   rcases h with h|⟨h,rfl⟩
   ·rw[if_pos (.inl h)]
   ·have:=h9 h;subst this;rw[if_pos (.inr ⟨rfl,rfl⟩)]
  | _=>rfl
theorem Stop2.up {b c:Nat} {S:List Wt} (h:Stop2 b S) (hb:b≤c):Stop2 c S:=by
 unfold Stop2 at *
 split at h
 ·omega
 ·rcases h with h|⟨h,rfl⟩
  ·exact .inl (by omega)
  ·by_cases hc:c=2
   ·exact .inr ⟨hc,rfl⟩
   ·exact .inl (by show 2 < c;omega)
 ·trivial
def fits (b:Nat) (last:Bool):T→Prop
 | .bin op _ _=>b≤YB op
 | .qu _ _ _=>last=true
 | _=>True
def lkL (t:T) (last:Bool):Int:=if last then (look t).1 else (look t).2
def GoodL (b:Nat) (last:Bool) (pend:List Wt):Prop:=(∀ w∈pend,Soft w)∧(last=false→∀ w∈pend,w=.not∨∃ o,w=.op o∧b≤YB o)
theorem GoodL.nil (b:Nat) (last:Bool):GoodL b last []:=⟨fun _ h=>(nomatch h),fun _ _ h=>(nomatch h)⟩
theorem GoodL.down {b c:Nat} {last:Bool} {pend:List Wt} (h:GoodL c last pend) (hb:b≤c):GoodL b last pend :=
 ⟨h.1,fun hl w hw=>(h.2 hl w hw).imp id fun⟨o,e,k⟩=>⟨o,e,by omega⟩⟩
theorem GoodL.snoc {b:Nat} {last:Bool} {pend:List Wt} {x:Wt} (h:GoodL b last pend) (hs:Soft x) (hx:last=false→x=.not∨∃ o,x=.op o∧b≤YB o):GoodL b last (pend++[x]):=by
 refine ⟨fun w hw=>?_,fun hl w hw=>?_⟩
 ·rcases List.mem_append.1 hw with hw|hw
  ·exact h.1 w hw
  ·simp at hw;subst hw;exact hs
 ·rcases List.mem_append.1 hw with hw|hw
  ·exact h.2 hl w hw
  ·simp at hw;subst hw;exact hx hl
def xi (b:Nat) (last:Bool) (t:T) (l:List Tk) (w0:Int) (q0:Int) (S:List Wt) (o:List (Int × Int)) (k n:Nat):Prop :=
 ∃ pend o' q',jL ⟨S,o,k,n⟩ w0 q0 l=.go ⟨pend++S,o++o',k+cn pend,n+size t⟩ 1 q'∧o'++nd pend=post t∧GoodL b last pend
def Je (t:T):Prop:=∀ (b:Nat) (last:Bool) (S:List Wt) (o:List (Int × Int)) (k n:Nat) (q:Int),b≤6→Stop2 b S→fits b last t→(k:Int)+lkL t last≤64→n+size t≤65536→xi b last t (tkT t last) 0 q S o k n
def ReadC (t:T):Prop:=∀ (op:Int) (S:List Wt) (o:List (Int × Int)) (k n:Nat),(op=4∨op=5)→Stop2 1 S→(k:Int)+(look t).1≤64→n+size t≤65536→xi 1 true t (KA op t) 4 op S o k n
theorem xZ (p:List Wt) (x:Wt):nd (p++[x])=nd p++ndW x:=by rw[ub];simp[nd]
theorem xQ (p:List Wt) (x:Wt):cn (p++[x])=cn p+opW x:=by rw[Uc];simp[cn]
theorem xr (t:T):fits 1 true t:=by
 cases t <;> simp[fits]
 exact(Kq _).1
theorem read_brk {t:T} (h:Je t) (b:Nat) (last:Bool) (S:List Wt) (o:List (Int × Int)) (k n:Nat) (q:Int) (hk:(k:Int)+(1+(look t).1)≤64) (hn:n+size t≤65536):xi b last t ([.opn]++tkT t true++[.cls]) 0 q S o k n:=by
 have l1:=(Yy t).1
 obtain⟨pend,o',q',h1,h2,h3⟩:=h 1 true (.opn::S) o (k+1) n q (by omega) trivial (xr t) (by unfold lkL;simp only[if_true];push_cast;omega) hn
 refine ⟨[],post t,q',?_,by simp[nd],GoodL.nil _ _⟩
 have e1:yB ⟨S,o,k,n⟩ 0 q .opn=.go ⟨.opn::S,o,k+1,n⟩ 0 q:=by
  simp only[yB,YE,if_true];rw[if_neg (by omega)]
 rw[List.cons_append,List.nil_append,List.cons_append,YK _ e1,jg _ _ _ _ _ h1]
 have e2:yB ⟨pend++.opn::S,o++o',k+1+cn pend,n+size t⟩ 1 q' .cls=.go ⟨S,o++post t,k,n+size t⟩ 1 q':=by
  simp only[yB,if_true]
  rw[YS pend _ _ _ h3.1,List.append_assoc,h2]
  simp only[yQ,Kf,Nat.add_sub_cancel]
 rw[YK _ e2]
 simp[jL,cn]
theorem uk (op:Int) (h:6≤op∧op≤10):ke op=YB op:=by
 have:op=6∨op=7∨op=8∨op=9∨op=10:=by omega
 rcases this with rfl|rfl|rfl|rfl|rfl <;> rfl
theorem Uz {x:T} (h:Je x) (op side:Int) (b:Nat) (last:Bool) (S:List Wt) (o:List (Int × Int)) (k n:Nat) (q:Int) (hb:b≤6) (hS:Stop2 b S) (hf:kO op side x last=false→fits b last x) (hk:(k:Int)+cnt op side x last (look x)≤64) (hn:n+size x≤65536) :
  xi b last x (Xd op side x last) 0 q S o k n:=by
 unfold Xd
 unfold cnt at hk
 cases hbr:kO op side x last with
 | true=>rw[hbr] at hk;simp only[if_true] at hk ⊢;exact read_brk h b last S o k n q hk hn
 | false=>rw[hbr] at hk;simp only[Bool.false_eq_true,if_false] at hk ⊢;exact h b last S o k n q hb hS (hf hbr) hk hn
theorem Kh {t:T} (h:Je t) {op:Int} (hq:JW op t=false) (S:List Wt) (o:List (Int × Int)) (k n:Nat) (hS:Stop2 1 S) (hk:(k:Int)+(look t).1≤64) (hn:n+size t≤65536):xi 1 true t (KA op t) 4 op S o k n:=by
 obtain⟨pend,o',q',h1,h2,h3⟩:=h 1 true S o k n op (by omega) hS (xr t) (by unfold lkL;simpa using hk) hn
 rw[Ub hq]
 refine ⟨pend,o',q',?_,h2,h3⟩
 rw[YK _ (show yB ⟨S,o,k,n⟩ 4 op .colon=.go ⟨S,o,k,n⟩ 0 op from rfl)]
 exact h1
theorem gN (op side:Int) (x:T) (last:Bool):0≤cnt op side x last (look x):=by
 have:=Yy x
 unfold cnt;split
 ·omega
 ·split <;> omega
theorem uB:∀ t:T,okT t→Je t∧ReadC t
 | .cst c,h=>by
  have h1:Je (.cst c):=by
   intro b last S o k n q hb hS hf hk hn
   rw[tkT_cst]
   refine ⟨[],[(1,c)],q,?_,rfl,GoodL.nil _ _⟩
   simp only[size] at hn
   simp only[jL,yB,Yk,if_true]
   rw[if_neg (by omega)]
   simp[cn,size]
  exact⟨h1,fun op S o k n _ hS hk hn=>Kh h1 rfl S o k n hS hk hn⟩
 | .var v,h=>by
  have h1:Je (.var v):=by
   intro b last S o k n q hb hS hf hk hn
   rw[tkT_var]
   refine ⟨[],[(2,v)],q,?_,rfl,GoodL.nil _ _⟩
   simp only[size] at hn
   simp only[jL,yB,Yk,if_true]
   rw[if_neg (by omega)]
   simp[cn,size]
  exact⟨h1,fun op S o k n _ hS hk hn=>Kh h1 rfl S o k n hS hk hn⟩
 | .neg a,h=>by
  have ih:=(uB a h).1
  have h1:Je (.neg a):=by
   intro b last S o k n q hb hS hf hk hn
   have c0:=gN 3 0 a last
   have hk1:(k:Int)+1+cnt 3 0 a last (look a)≤64:=by
    cases last <;> simp only[lkL,look,if_true,if_false,Bool.false_eq_true] at hk <;> omega
   simp only[size] at hn
   obtain⟨pend,o',q',g1,g2,g3⟩:=Uz ih 3 0 6 last (.not::S) o (k+1) (n+1) q (by omega) (Nat.le_refl 6) (fun hbr=>by
    cases a with
    | bin o x y=>exfalso;simp[kO] at hbr
    | qu o x y=>simp[kO] at hbr;exact hbr
    | _=>trivial) (by push_cast;omega) (by omega)
   rw[tkT_neg]
   refine ⟨pend++[.not],o',q',?_,?_,(g3.down hb).snoc (.inl rfl) fun _=>.inl rfl⟩
   ·have e1:yB ⟨S,o,k,n⟩ 0 q .not=.go ⟨.not::S,o,k+1,n+1⟩ 0 q:=by
     simp only[yB,YE,Yk,if_true];rw[if_neg (by omega),if_neg (by omega)]
    rw[List.cons_append,List.nil_append,YK _ e1,g1,xQ]
    simp only[List.append_assoc,List.cons_append,List.nil_append,opW,size]
    congr 2 <;> omega
   ·rw[xZ,← List.append_assoc,g2];rfl
  exact⟨h1,fun op S o k n _ hS hk hn=>Kh h1 rfl S o k n hS hk hn⟩
 | .qu op v a,h=>by
  have ih:=(uB a h.2.2.2).2
  have h4:op=4∨op=5:=h.1
  have hv:∀ (S:List Wt) (o:List (Int × Int)) (k n:Nat),(k:Int)+(1+(look a).1)≤64→n+(size a+1)≤65536→xi 1 true (.qu op v a) (.var v::KA op a) 3 op S o k n:=by
   intro S o k n hk hn
   have l1:=(Yy a).1
   obtain⟨pend,o',q',g1,g2,g3⟩:=ih op (.quant op v::S) o (k+1) (n+1) h4 trivial (by push_cast;omega) (by omega)
   refine ⟨pend++[.quant op v],o',q',?_,?_,g3.snoc (.inr (.inl ⟨_,_,rfl⟩)) fun hl=>by cases hl⟩
   ·have e1:yB ⟨S,o,k,n⟩ 3 op (.var v)=.go ⟨.quant op v::S,o,k+1,n+1⟩ 4 op:=by
     simp only[yB,YE,Yk,if_true];rw[if_neg (by decide),if_neg (by omega),if_neg (by omega)]
    rw[YK _ e1,g1,xQ]
    simp only[List.append_assoc,List.cons_append,List.nil_append,opW,size]
    congr 2 <;> omega
   ·rw[xZ,← List.append_assoc,g2];rfl
  have h1:Je (.qu op v a):=by
   intro b last S o k n q hb hS hf hk hn
   have hl:last=true:=hf
   subst hl
   obtain⟨pend,o',q',g1,g2,g3⟩:=hv S o k n (by simpa [lkL,look] using hk) (by simpa [size] using hn)
   rw[tkT_qu]
   refine ⟨pend,o',q',?_,g2,⟨g3.1,fun hl=>by cases hl⟩⟩
   rw[List.cons_append,YK _ (show yB ⟨S,o,k,n⟩ 0 q (.quant op)=.go ⟨S,o,k,n⟩ 3 op from rfl)]
   exact g1
  refine ⟨h1,fun op' S o k n hop hS hk hn=>?_⟩
  by_cases e:op'=op
  ·subst e
   obtain⟨pend,o',q',g1,g2,g3⟩:=hv S o k n (by simpa [look] using hk) (by simpa [size] using hn)
   rw[uw]
   refine ⟨pend,o',q',?_,g2,g3⟩
   have e1:yB ⟨S,o,k,n⟩ 4 op' .comma=.go ⟨S,o,k,n⟩ 3 op':=by simp[yB]
   rw[List.cons_append,YK _ e1]
   exact g1
  ·exact Kh h1 (by simp[JW];exact fun x=>e x.symm) S o k n hS hk hn
 | .bin op a b',h=>by
  obtain⟨ha,hb',oka,okb⟩:=h
  have ia:=(uB a oka).1
  have ib:=(uB b' okb).1
  have ht:=uk op ⟨ha,hb'⟩
  have hbl:=Kq op
  have h9:YB op=2→op=9:=by
   intro h2
   have:op=6∨op=7∨op=8∨op=9∨op=10:=by omega
   rcases this with rfl|rfl|rfl|rfl|rfl <;> first|rfl|cases h2
  have h1:Je (.bin op a b'):=by
   intro b last S o k n q hb hS hf hk hn
   have hf:b≤YB op:=hf
   simp only[size] at hn
   have ca:=gN op 0 a false
   have cb:=gN op 1 b' last
   have hk1:(k:Int)+cnt op 0 a false (look a)≤64∧(k:Int)+cnt op 1 b' last (look b')≤64:=by
    cases last <;> simp only[lkL,look,if_true,if_false,Bool.false_eq_true] at hk <;> omega
   have hSo:=hS.up hf
   obtain⟨bl,hbl2⟩:∃ bl,bl=if op=9 then 3 else YB op:=⟨_,rfl⟩
   have hle:YB op≤bl:=by rw[hbl2];split;(rename_i e;subst e;decide);exact Nat.le_refl _
   have hl6:bl≤6:=by rw[hbl2];split <;> omega
   obtain⟨p1,o1,q1,g1,g2,g3⟩:=Uz ia op 0 bl false S o k n q hl6 (hSo.up hle) (fun hbr=>by
    cases a with
    | bin o2 x y =>
     have hto:=uk o2 ⟨oka.1,oka.2.1⟩
     show bl≤YB o2
     by_cases e9:op=9
     ·subst e9
      have h2:ke 9=2:=rfl
      simp[kO] at hbr
      rw[hbl2,if_pos rfl];omega
     ·simp[kO,e9,show ¬ op=3 by omega] at hbr
      rw[hbl2,if_neg e9];omega
    | qu o x y=>simp[kO] at hbr
    | _=>trivial) hk1.1 (by omega)
   have e2:yB ⟨p1++S,o++o1,k+cn p1,n+size a⟩ 1 q1 (.op op)=.go ⟨.op op::S,o++post a,k,n+size a+1⟩ 0 q1:=by
    simp only[yB,Yk,if_true]
    rw[if_neg (by omega)]
    have e3:Yr op (p1++S) (o++o1) (k+cn p1)=(S,o++post a,k):=by
     rw[jY op bl hle p1 S _ _ (fun w hw=>(g3.2 rfl w hw).imp id fun⟨y,e1,e2⟩=>⟨y,e1,e2,fun e9=>by
      have:YB op=2:=by subst e9;rfl
      have:bl=3:=by rw[hbl2,if_pos e9]
      omega⟩),List.append_assoc,g2]
     exact hSo.oper h9 _ _
    rw[e3]
   obtain⟨br,hbr2⟩:∃ br,br=if op=9 then 2 else YB op+1:=⟨_,rfl⟩
   have hbr6:br≤6:=by rw[hbr2];split <;> omega
   have hbr3:YB op≤br:=by rw[hbr2];split;(rename_i e;subst e;decide);omega
   obtain⟨p2,o2,q2,k1,k2,k3⟩:=Uz ib op 1 br last (.op op::S) (o++post a) k (n+size a+1) q1 hbr6 (by
    show YB op < br∨br=2∧op=9
    rw[hbr2];split
    ·rename_i e;exact .inr ⟨rfl,e⟩
    ·exact .inl (by omega)) (fun hbr=>by
    cases b' with
    | bin o2 x y =>
     have hto:=uk o2 ⟨okb.1,okb.2.1⟩
     show br≤YB o2
     by_cases e9:op=9
     ·subst e9
      have h2:ke 9=2:=rfl
      simp[kO] at hbr
      rw[hbr2,if_pos rfl];omega
     ·simp[kO,e9,show ¬ op=3 by omega] at hbr
      rw[hbr2,if_neg e9];omega
    | qu o x y=>simp[kO] at hbr;exact hbr
    | _=>trivial) hk1.2 (by omega)
   rw[tkT_bin]
   refine ⟨p2++[.op op],post a++o2,q2,?_,?_,(k3.down (by omega)).snoc (.inr (.inr ⟨_,rfl⟩)) fun _=>.inr ⟨_,rfl,hf⟩⟩
   ·rw[List.append_assoc,jg _ _ _ _ _ g1,List.cons_append,List.nil_append,YK _ e2,k1,xQ]
    simp only[List.append_assoc,List.cons_append,List.nil_append,opW,size]
    congr 2 <;> omega
   ·rw[xZ,← List.append_assoc,List.append_assoc (post a),k2];rfl
  exact⟨h1,fun op S o k n _ hS hk hn=>Kh h1 rfl S o k n hS hk hn⟩
 | .ite c a b',h=>by
  have ic:=(uB c h.1).1
  have ia:=(uB a h.2.1).1
  have ib:=(uB b' h.2.2).1
  have h1:Je (.ite c a b'):=by
   intro b last S o k n q hb hS hf hk hn
   simp only[size] at hn
   have lc:=(Yy c).1
   have la:=(Yy a).1
   have lb:=(Yy b').1
   have hk1:(k:Int)+1+(look c).1≤64∧(k:Int)+1+(look a).1≤64∧(k:Int)+1+(look b').1≤64:=by
    cases last <;> simp only[lkL,look,if_true,if_false,Bool.false_eq_true] at hk <;> omega
   obtain⟨p1,o1,q1,c1,c2,c3⟩:=ic 1 true (.ite 0::S) o (k+1) (n+1) q (by omega) trivial (xr c) (by unfold lkL;simp only[if_true];push_cast;omega) (by omega)
   obtain⟨p2,o2,q2,a1,a2,a3⟩:=ia 1 true (.ite 1::S) (o++post c) (k+1) (n+1+size c) q1 (by omega) trivial (xr a) (by unfold lkL;simp only[if_true];push_cast;omega) (by omega)
   obtain⟨p3,o3,q3,b1,b2,b3⟩:=ib 1 true (.ite 2::S) (o++post c++post a) (k+1) (n+1+size c+size a) q2 (by omega) trivial (xr b') (by unfold lkL;simp only[if_true];push_cast;omega) (by omega)
   have e1:yB ⟨S,o,k,n⟩ 0 q .ite=.go ⟨.ite 0::S,o,k+1,n+1⟩ 2 q:=by
    simp only[yB,YE,Yk,if_true];rw[if_neg (by omega),if_neg (by omega)]
   have e2:yB ⟨.ite 0::S,o,k+1,n+1⟩ 2 q .opn=.go ⟨.ite 0::S,o,k+1,n+1⟩ 0 q:=by simp[yB]
   have e3:yB ⟨p1++.ite 0::S,o++o1,k+1+cn p1,n+1+size c⟩ 1 q1 .comma=.go ⟨.ite 1::S,o++post c,k+1,n+1+size c⟩ 0 q1:=by
    simp only[yB,if_true]
    rw[YS p1 _ _ _ c3.1,List.append_assoc,c2]
    rfl
   have e4:yB ⟨p2++.ite 1::S,o++post c++o2,k+1+cn p2,n+1+size c+size a⟩ 1 q2 .comma=.go ⟨.ite 2::S,o++post c++post a,k+1,n+1+size c+size a⟩ 0 q2:=by
    simp only[yB,if_true]
    rw[YS p2 _ _ _ a3.1,List.append_assoc (o++post c),a2]
    rfl
   have e5:yB ⟨p3++.ite 2::S,o++post c++post a++o3,k+1+cn p3,n+1+size c+size a+size b'⟩ 1 q3 .cls=.go ⟨S,o++post (.ite c a b'),k,n+1+size c+size a+size b'⟩ 1 q3:=by
    simp only[yB,if_true]
    rw[YS p3 _ _ _ b3.1,List.append_assoc (o++post c++post a),b2]
    simp only[yQ,Kf,if_true,post,List.append_assoc,Nat.add_sub_cancel]
   rw[tkT_ite]
   refine ⟨[],post (.ite c a b'),q3,?_,by simp[nd],GoodL.nil _ _⟩
   have e:[Tk.ite,.opn]++tkT c true++[.comma]++tkT a true++[.comma]++tkT b' true++[.cls]=.ite::.opn::(tkT c true++.comma::(tkT a true++.comma::(tkT b' true++[.cls]))):=by simp
   rw[e,YK _ e1,YK _ e2,jg _ _ _ _ _ c1,YK _ e3,jg _ _ _ _ _ a1,YK _ e4,jg _ _ _ _ _ b1,YK _ e5]
   simp only[jL,List.nil_append,cn,List.map_nil,List.sum_nil,size]
   congr 2;omega
  exact⟨h1,fun op S o k n _ hS hk hn=>Kh h1 rfl S o k n hS hk hn⟩

/-! ### Texts -/
theorem gz {text:List UInt8} {s':List UInt8} {m':MS} {w' q':Int} {o:List (Int × Int)} (hf:(Yz s').1=.fin) (hd:yB m' w' q' .fin=.done o):∀ (l:List Tk) (m:MS) (w q:Int) (k:Nat),Toks (text.drop k) l s'→jL m w q l=.go m' w' q'→MRun text m w q (yP text k) (.inr o)
 | [],m,w,q,k,h,hr=>by
  simp only[jL] at hr;injection hr with a b c;subst a;subst b;subst c
  refine .done ?_
  rw[(xB text k).1,show Yz (text.drop k)=Yz s' from h,hf];exact hd
 | t::l,m,w,q,k,h,hr=>by
  obtain⟨h1,h2⟩:=h
  obtain⟨e1,e2⟩:=xB text k
  simp only[jL] at hr
  cases hs:yB m w q t with
  | err e=>rw[hs] at hr;cases hr
  | done o=>rw[hs] at hr;cases hr
  | go m1 w1 q1 =>
   rw[hs] at hr
   refine .go (m':=m1) (w':=w1) (q':=q1) (by rw[e1,h1];exact hs) ?_
   exact gz hf hd l m1 w1 q1 _ (by rw[e2];exact h2) hr
theorem read_toks {text s':List UInt8} {t:T} (hk:okT t) (hd:(look t).1≤64) (hn:size t≤65536) (hs:Toks text (tkT t true) s') (hf:(Yz s').1=.fin):MRun text m00 0 0 (yP text 0) (.inr (post t)):=by
 obtain⟨pend,o',q',h1,h2,h3⟩:=(uB t hk).1 1 true [] [] 0 0 0 (by omega) trivial (xr t) (by unfold lkL;simpa using hd) (by omega)
 refine gz hf (m':=⟨pend++[],[]++o',0+cn pend,0+size t⟩) (w':=1) (q':=q') ?_ (tkT t true) m00 0 0 0 (by simpa using hs) h1
 simp only[yB,if_true]
 rw[YS pend _ _ _ h3.1,List.append_assoc,h2]
 rfl
theorem read_wr {t:T} (hk:okT t) (hd:(look t).1≤64) (hn:size t≤65536):MRun (wr t true) m00 0 0 (yP (wr t true) 0) (.inr (post t)):=by
 have h:=(XT t hk).1 true [] sep_nil
 rw[List.append_nil] at h
 exact read_toks hk hd hn h rfl
theorem parse_wr {t:T} {r:(Int × Nat) ⊕ T} (hk:okT t) (hd:(look t).1≤64) (hn:size t≤65536) (h:jn (wr t true) r):∃ x,r=.inr x∧post x=post t:=by
 have:=(jZ h).det (read_wr hk hd hn)
 cases r with
 | inl e=>cases this
 | inr x=>refine ⟨x,rfl,?_⟩;injection this
end
section
open Go Go.RowKit Go.SL Go.ClauseP Go.LexP

/-! ### Lists and trees -/
theorem kL:∀ (t:T) (st:List T),okT t→Kn st (post t)=some (t::st)
 | .cst n,st,h=>by
  have h:n=0∨n=1:=h
  simp[post,Kn,YG,h]
 | .var v,st,h=>by
  have h:0≤v∧v < 65536:=h
  simp[post,Kn,YG,h]
 | .neg a,st,h=>by
  simp only[post]
  rw[YI,kL a st h]
  simp[Kn,YG]
 | .qu op v a,st,h=>by
  obtain⟨h1,h2,h3,h4⟩:=h
  simp only[post]
  rw[YI,kL a st h4]
  rcases h1 with rfl|rfl <;> simp[Kn,YG,h2,h3]
 | .bin op a b,st,h=>by
  obtain⟨h1,h2,h3,h4⟩:=h
  simp only[post]
  rw[YI,YI,kL a st h3]
  simp only[Option.bind_some]
  rw[kL b _ h4]
  simp only[Option.bind_some,Kn,YG]
  rw[if_neg (by omega),if_neg (by omega),if_neg (by omega),if_neg (by omega),if_pos ⟨h1,h2,trivial⟩]
 | .ite c a b,st,h=>by
  obtain⟨h1,h2,h3⟩:=h
  simp only[post]
  rw[YI,YI,YI,kL c st h1]
  simp only[Option.bind_some]
  rw[kL a _ h2]
  simp only[Option.bind_some]
  rw[kL b _ h3]
  simp[Kn,YG]
theorem Gu {t:T} (h:okT t) (hs:size t≤65536):jm (post t)=some t:=by
 unfold jm
 rw[kg,if_neg (by omega),kL t [] h]
theorem Gt {t:T} (h:okT t) (hs:size t≤65536) (hd:(look t).1≤64):kE (post t)=some t:=by
 unfold kE
 rw[Gu h hs]
 simp only[Option.bind_some]
 rw[if_neg (by omega)]

/-! ### What brackets cost -/
def needs (b:Nat) (last:Bool):T→Bool
 | .qu _ _ _=>!last
 | .bin o _ _=>decide (YB o < b)
 | _=>false
def nB (t:T) (last:Bool):Nat:=(wr t last).count 40
def cb (b:Nat) (last:Bool) (x:T):Nat:=if needs b last x then 1+nB x true else nB x last
end
section
open Go Go.RowKit Go.SL Go.ClauseP Go.LexP

def jq:T:=.bin 7 (.bin 6 (.var 0) (.var 1)) (.neg (.var 2))
def aliveB:List UInt8:=[120,48,32,38,32,120,49,32,124,32,33,120,50]
def aliveL:List (Int × Int):=[(2,0),(2,1),(6,0),(2,2),(3,0),(7,0)]
theorem Ui (n:Nat) (h:n < 10):Lib.itoa (n:Int)=[UInt8.ofNat (48+n)]:=by
 rw[Uh _ (by omega),Int.toNat_natCast,Lib.decDigits_one h]
theorem XC:wr jq true=aliveB:=by
 have h0:=Ui 0 (by omega)
 have h1:=Ui 1 (by omega)
 have h2:=Ui 2 (by omega)
 have h0:Lib.itoa 0=[48]:=h0
 have h1:Lib.itoa 1=[49]:=h1
 have h2:Lib.itoa 2=[50]:=h2
 simp[jq,aliveB,uo,uq,Xu,opd,kO,ke,YN,h0,h1,h2]
theorem XA:okT jq:=by simp[jq,okT]
theorem uS:(look jq).1≤64:=by simp[jq,look,cnt,kO,ke];omega
theorem uT:size jq≤65536:=by simp[jq,size]
theorem xO:KJ aliveL=(aliveB,0):=by
 have h:kE aliveL=some jq:=Gt XA uT uS
 unfold KJ
 rw[h]
 simp only[XC]
 rfl
theorem XB {r:(Int × Nat) ⊕ T} (h:jn aliveB r):gG r=.inr aliveL:=by
 rw[← XC] at h
 obtain⟨x,rfl,hx⟩:=parse_wr XA uS uT h
 show Sum.inr (post x)=_
 rw[hx];rfl
end
section
set_option maxRecDepth 20000
open Go Go.RowKit Go.SL

set_option maxHeartbeats 4000000 in
theorem ar0   (w0 w:World) (Hs:List HP) (hS:Sat w0 w Hs):Calls Tryz.prog 62 #[.agg #[.int .i64 1,.int .i64 0]] w fun e w'=>e=.returned (.int .i64 (0))∧Sat w0 w' Hs:=by
  go_enter Tryz.func62,Tryz.ntmps62
  go_wp2_with (((with_reducible apply yH hS);exact ya;exact yb rfl;exact yw;clear hS;intro NB w hS;(try simp only[qA]));have c0:=hS.cell ye (off:=0) rfl;have c1:=hS.cell ye (off:=1) rfl)
  go_ret
  exact⟨rfl,hS.drop⟩
set_option maxHeartbeats 4000000 in
theorem ar1   (w0 w:World) (Hs:List HP) (hS:Sat w0 w Hs):Calls Tryz.prog 62 #[.agg #[.int .i64 1,.int .i64 1]] w fun e w'=>e=.returned (.int .i64 (0))∧Sat w0 w' Hs:=by
  go_enter Tryz.func62,Tryz.ntmps62
  go_wp2_with (((with_reducible apply yH hS);exact ya;exact yb rfl;exact yw;clear hS;intro NB w hS;(try simp only[qA]));have c0:=hS.cell ye (off:=0) rfl;have c1:=hS.cell ye (off:=1) rfl)
  go_ret
  exact⟨rfl,hS.drop⟩
set_option maxHeartbeats 4000000 in
theorem ar2 (n:Int) (g0:(n == 0)=false) (g1:(n == 1)=false) (w0 w:World) (Hs:List HP) (hS:Sat w0 w Hs):Calls Tryz.prog 62 #[.agg #[.int .i64 1,.int .i64 n]] w fun e w'=>e=.returned (.int .i64 (-1))∧Sat w0 w' Hs:=by
  go_enter Tryz.func62,Tryz.ntmps62
  go_wp2_with (((with_reducible apply yH hS);exact ya;exact yb rfl;exact yw;clear hS;intro NB w hS;(try simp only[qA]));have c0:=hS.cell ye (off:=0) rfl;have c1:=hS.cell ye (off:=1) rfl)
  go_ret
  exact⟨rfl,hS.drop⟩
set_option maxHeartbeats 4000000 in
theorem ar3 (n:Int) (g:decide (0≤n)=false) (w0 w:World) (Hs:List HP) (hS:Sat w0 w Hs):Calls Tryz.prog 62 #[.agg #[.int .i64 2,.int .i64 n]] w fun e w'=>e=.returned (.int .i64 (-1))∧Sat w0 w' Hs:=by
  go_enter Tryz.func62,Tryz.ntmps62
  go_wp2_with (((with_reducible apply yH hS);exact ya;exact yb rfl;exact yw;clear hS;intro NB w hS;(try simp only[qA]));have c0:=hS.cell ye (off:=0) rfl;have c1:=hS.cell ye (off:=1) rfl)
  go_ret
  exact⟨rfl,hS.drop⟩
set_option maxHeartbeats 4000000 in
theorem ar4 (n:Int) (g:decide (0≤n)=true) (g2:decide (n < 65536)=true) (w0 w:World) (Hs:List HP) (hS:Sat w0 w Hs):Calls Tryz.prog 62 #[.agg #[.int .i64 2,.int .i64 n]] w fun e w'=>e=.returned (.int .i64 (0))∧Sat w0 w' Hs:=by
  go_enter Tryz.func62,Tryz.ntmps62
  go_wp2_with (((with_reducible apply yH hS);exact ya;exact yb rfl;exact yw;clear hS;intro NB w hS;(try simp only[qA]));have c0:=hS.cell ye (off:=0) rfl;have c1:=hS.cell ye (off:=1) rfl)
  go_ret
  exact⟨rfl,hS.drop⟩
set_option maxHeartbeats 4000000 in
theorem ar5 (n:Int) (g:decide (0≤n)=true) (g2:decide (n < 65536)=false) (w0 w:World) (Hs:List HP) (hS:Sat w0 w Hs):Calls Tryz.prog 62 #[.agg #[.int .i64 2,.int .i64 n]] w fun e w'=>e=.returned (.int .i64 (-1))∧Sat w0 w' Hs:=by
  go_enter Tryz.func62,Tryz.ntmps62
  go_wp2_with (((with_reducible apply yH hS);exact ya;exact yb rfl;exact yw;clear hS;intro NB w hS;(try simp only[qA]));have c0:=hS.cell ye (off:=0) rfl;have c1:=hS.cell ye (off:=1) rfl)
  go_ret
  exact⟨rfl,hS.drop⟩
set_option maxHeartbeats 4000000 in
theorem ar6   (w0 w:World) (Hs:List HP) (hS:Sat w0 w Hs):Calls Tryz.prog 62 #[.agg #[.int .i64 3,.int .i64 0]] w fun e w'=>e=.returned (.int .i64 (1))∧Sat w0 w' Hs:=by
  go_enter Tryz.func62,Tryz.ntmps62
  go_wp2_with (((with_reducible apply yH hS);exact ya;exact yb rfl;exact yw;clear hS;intro NB w hS;(try simp only[qA]));have c0:=hS.cell ye (off:=0) rfl;have c1:=hS.cell ye (off:=1) rfl)
  go_ret
  exact⟨rfl,hS.drop⟩
end
section
set_option maxRecDepth 20000
open Go Go.RowKit Go.SL

set_option maxHeartbeats 4000000 in
theorem ar7 (n:Int) (g0:(n == 0)=false) (w0 w:World) (Hs:List HP) (hS:Sat w0 w Hs):Calls Tryz.prog 62 #[.agg #[.int .i64 3,.int .i64 n]] w fun e w'=>e=.returned (.int .i64 (-1))∧Sat w0 w' Hs:=by
  go_enter Tryz.func62,Tryz.ntmps62
  go_wp2_with (((with_reducible apply yH hS);exact ya;exact yb rfl;exact yw;clear hS;intro NB w hS;(try simp only[qA]));have c0:=hS.cell ye (off:=0) rfl;have c1:=hS.cell ye (off:=1) rfl)
  go_ret
  exact⟨rfl,hS.drop⟩
set_option maxHeartbeats 4000000 in
theorem ar8 (n:Int) (g:decide (0≤n)=false) (w0 w:World) (Hs:List HP) (hS:Sat w0 w Hs):Calls Tryz.prog 62 #[.agg #[.int .i64 4,.int .i64 n]] w fun e w'=>e=.returned (.int .i64 (-1))∧Sat w0 w' Hs:=by
  go_enter Tryz.func62,Tryz.ntmps62
  go_wp2_with (((with_reducible apply yH hS);exact ya;exact yb rfl;exact yw;clear hS;intro NB w hS;(try simp only[qA]));have c0:=hS.cell ye (off:=0) rfl;have c1:=hS.cell ye (off:=1) rfl)
  go_ret
  exact⟨rfl,hS.drop⟩
set_option maxHeartbeats 4000000 in
theorem ar9 (n:Int) (g:decide (0≤n)=true) (g2:decide (n < 65536)=true) (w0 w:World) (Hs:List HP) (hS:Sat w0 w Hs):Calls Tryz.prog 62 #[.agg #[.int .i64 4,.int .i64 n]] w fun e w'=>e=.returned (.int .i64 (1))∧Sat w0 w' Hs:=by
  go_enter Tryz.func62,Tryz.ntmps62
  go_wp2_with (((with_reducible apply yH hS);exact ya;exact yb rfl;exact yw;clear hS;intro NB w hS;(try simp only[qA]));have c0:=hS.cell ye (off:=0) rfl;have c1:=hS.cell ye (off:=1) rfl)
  go_ret
  exact⟨rfl,hS.drop⟩
set_option maxHeartbeats 4000000 in
theorem ar10 (n:Int) (g:decide (0≤n)=true) (g2:decide (n < 65536)=false) (w0 w:World) (Hs:List HP) (hS:Sat w0 w Hs):Calls Tryz.prog 62 #[.agg #[.int .i64 4,.int .i64 n]] w fun e w'=>e=.returned (.int .i64 (-1))∧Sat w0 w' Hs:=by
  go_enter Tryz.func62,Tryz.ntmps62
  go_wp2_with (((with_reducible apply yH hS);exact ya;exact yb rfl;exact yw;clear hS;intro NB w hS;(try simp only[qA]));have c0:=hS.cell ye (off:=0) rfl;have c1:=hS.cell ye (off:=1) rfl)
  go_ret
  exact⟨rfl,hS.drop⟩
set_option maxHeartbeats 4000000 in
theorem ar11 (n:Int) (g:decide (0≤n)=false) (w0 w:World) (Hs:List HP) (hS:Sat w0 w Hs):Calls Tryz.prog 62 #[.agg #[.int .i64 5,.int .i64 n]] w fun e w'=>e=.returned (.int .i64 (-1))∧Sat w0 w' Hs:=by
  go_enter Tryz.func62,Tryz.ntmps62
  go_wp2_with (((with_reducible apply yH hS);exact ya;exact yb rfl;exact yw;clear hS;intro NB w hS;(try simp only[qA]));have c0:=hS.cell ye (off:=0) rfl;have c1:=hS.cell ye (off:=1) rfl)
  go_ret
  exact⟨rfl,hS.drop⟩
set_option maxHeartbeats 4000000 in
theorem ar12 (n:Int) (g:decide (0≤n)=true) (g2:decide (n < 65536)=true) (w0 w:World) (Hs:List HP) (hS:Sat w0 w Hs):Calls Tryz.prog 62 #[.agg #[.int .i64 5,.int .i64 n]] w fun e w'=>e=.returned (.int .i64 (1))∧Sat w0 w' Hs:=by
  go_enter Tryz.func62,Tryz.ntmps62
  go_wp2_with (((with_reducible apply yH hS);exact ya;exact yb rfl;exact yw;clear hS;intro NB w hS;(try simp only[qA]));have c0:=hS.cell ye (off:=0) rfl;have c1:=hS.cell ye (off:=1) rfl)
  go_ret
  exact⟨rfl,hS.drop⟩
set_option maxHeartbeats 4000000 in
theorem ar13 (n:Int) (g:decide (0≤n)=true) (g2:decide (n < 65536)=false) (w0 w:World) (Hs:List HP) (hS:Sat w0 w Hs):Calls Tryz.prog 62 #[.agg #[.int .i64 5,.int .i64 n]] w fun e w'=>e=.returned (.int .i64 (-1))∧Sat w0 w' Hs:=by
  go_enter Tryz.func62,Tryz.ntmps62
  go_wp2_with (((with_reducible apply yH hS);exact ya;exact yb rfl;exact yw;clear hS;intro NB w hS;(try simp only[qA]));have c0:=hS.cell ye (off:=0) rfl;have c1:=hS.cell ye (off:=1) rfl)
  go_ret
  exact⟨rfl,hS.drop⟩
end
section
set_option maxRecDepth 20000
open Go Go.RowKit Go.SL

set_option maxHeartbeats 4000000 in
theorem ar14 (op:Int) (k1:(op == 1)=false) (k2:(op == 2)=false) (k3:(op == 3)=false) (k4:(op == 4)=false) (k5:(op == 5)=false) (k6:decide (6≤op)=true) (k7:decide (op≤10)=true) (w0 w:World) (Hs:List HP) (hS:Sat w0 w Hs):Calls Tryz.prog 62 #[.agg #[.int .i64 op,.int .i64 0]] w fun e w'=>e=.returned (.int .i64 (2))∧Sat w0 w' Hs:=by
  go_enter Tryz.func62,Tryz.ntmps62
  go_wp2_with (((with_reducible apply yH hS);exact ya;exact yb rfl;exact yw;clear hS;intro NB w hS;(try simp only[qA]));have c0:=hS.cell ye (off:=0) rfl;have c1:=hS.cell ye (off:=1) rfl)
  go_ret
  exact⟨rfl,hS.drop⟩
set_option maxHeartbeats 4000000 in
theorem ar15 (op n:Int) (g0:(n == 0)=false) (k1:(op == 1)=false) (k2:(op == 2)=false) (k3:(op == 3)=false) (k4:(op == 4)=false) (k5:(op == 5)=false) (k11:(op == 11)=false) (k6:decide (6≤op)=true) (k7:decide (op≤10)=true) (w0 w:World) (Hs:List HP) (hS:Sat w0 w Hs):Calls Tryz.prog 62 #[.agg #[.int .i64 op,.int .i64 n]] w fun e w'=>e=.returned (.int .i64 (-1))∧Sat w0 w' Hs:=by
  go_enter Tryz.func62,Tryz.ntmps62
  go_wp2_with (((with_reducible apply yH hS);exact ya;exact yb rfl;exact yw;clear hS;intro NB w hS;(try simp only[qA]));have c0:=hS.cell ye (off:=0) rfl;have c1:=hS.cell ye (off:=1) rfl)
  go_ret
  exact⟨rfl,hS.drop⟩
set_option maxHeartbeats 4000000 in
theorem ar16   (w0 w:World) (Hs:List HP) (hS:Sat w0 w Hs):Calls Tryz.prog 62 #[.agg #[.int .i64 11,.int .i64 0]] w fun e w'=>e=.returned (.int .i64 (3))∧Sat w0 w' Hs:=by
  go_enter Tryz.func62,Tryz.ntmps62
  go_wp2_with (((with_reducible apply yH hS);exact ya;exact yb rfl;exact yw;clear hS;intro NB w hS;(try simp only[qA]));have c0:=hS.cell ye (off:=0) rfl;have c1:=hS.cell ye (off:=1) rfl)
  go_ret
  exact⟨rfl,hS.drop⟩
set_option maxHeartbeats 4000000 in
theorem ar17 (n:Int) (g0:(n == 0)=false) (w0 w:World) (Hs:List HP) (hS:Sat w0 w Hs):Calls Tryz.prog 62 #[.agg #[.int .i64 11,.int .i64 n]] w fun e w'=>e=.returned (.int .i64 (-1))∧Sat w0 w' Hs:=by
  go_enter Tryz.func62,Tryz.ntmps62
  go_wp2_with (((with_reducible apply yH hS);exact ya;exact yb rfl;exact yw;clear hS;intro NB w hS;(try simp only[qA]));have c0:=hS.cell ye (off:=0) rfl;have c1:=hS.cell ye (off:=1) rfl)
  go_ret
  exact⟨rfl,hS.drop⟩
set_option maxHeartbeats 4000000 in
theorem ar18 (op n:Int) (k1:(op == 1)=false) (k2:(op == 2)=false) (k3:(op == 3)=false) (k4:(op == 4)=false) (k5:(op == 5)=false) (k11:(op == 11)=false) (k6:decide (6≤op)=false) (w0 w:World) (Hs:List HP) (hS:Sat w0 w Hs):Calls Tryz.prog 62 #[.agg #[.int .i64 op,.int .i64 n]] w fun e w'=>e=.returned (.int .i64 (-1))∧Sat w0 w' Hs:=by
  go_enter Tryz.func62,Tryz.ntmps62
  go_wp2_with (((with_reducible apply yH hS);exact ya;exact yb rfl;exact yw;clear hS;intro NB w hS;(try simp only[qA]));have c0:=hS.cell ye (off:=0) rfl;have c1:=hS.cell ye (off:=1) rfl)
  go_ret
  exact⟨rfl,hS.drop⟩
set_option maxHeartbeats 4000000 in
theorem ar19 (op n:Int) (k1:(op == 1)=false) (k2:(op == 2)=false) (k3:(op == 3)=false) (k4:(op == 4)=false) (k5:(op == 5)=false) (k11:(op == 11)=false) (k6:decide (6≤op)=true) (k7:decide (op≤10)=false) (w0 w:World) (Hs:List HP) (hS:Sat w0 w Hs):Calls Tryz.prog 62 #[.agg #[.int .i64 op,.int .i64 n]] w fun e w'=>e=.returned (.int .i64 (-1))∧Sat w0 w' Hs:=by
  go_enter Tryz.func62,Tryz.ntmps62
  go_wp2_with (((with_reducible apply yH hS);exact ya;exact yb rfl;exact yw;clear hS;intro NB w hS;(try simp only[qA]));have c0:=hS.cell ye (off:=0) rfl;have c1:=hS.cell ye (off:=1) rfl)
  go_ret
  exact⟨rfl,hS.drop⟩
end
section
set_option maxRecDepth 20000
open Go Go.RowKit Go.SL

theorem arity (op n:Int) (w0 w:World) (Hs:List HP) (hS:Sat w0 w Hs) :
  Calls Tryz.prog 62 #[.agg #[.int .i64 op,.int .i64 n]] w fun e w'=>e=.returned (.int .i64 (Ya op n))∧Sat w0 w' Hs:=by
 have pf:∀ r,Ya op n=r→Calls Tryz.prog 62 #[.agg #[.int .i64 op,.int .i64 n]] w (fun e w'=>e=.returned (.int .i64 r)∧Sat w0 w' Hs)→Calls Tryz.prog 62 #[.agg #[.int .i64 op,.int .i64 n]] w fun e w'=>e=.returned (.int .i64 (Ya op n))∧Sat w0 w' Hs:=fun r h k=>by rw[h];exact k
 by_cases o1:op=1
 ·subst o1
  by_cases q0:n=0
  ·subst q0;refine pf (0) ?_ (ar0   w0 w Hs hS)
   (unfold Ya;(repeat' split) <;> omega)
  by_cases q1:n=1
  ·subst q1;refine pf (0) ?_ (ar1   w0 w Hs hS)
   (unfold Ya;(repeat' split) <;> omega)
  refine pf (-1) ?_ (ar2 n (by(simp;omega)) (by(simp;omega)) w0 w Hs hS)
  (unfold Ya;(repeat' split) <;> omega)
 by_cases o2:op=2
 ·subst o2
  by_cases q0:n < 0
  ·refine pf (-1) ?_ (ar3 n (by(simp;omega)) w0 w Hs hS)
   (unfold Ya;(repeat' split) <;> omega)
  by_cases q1:n < 65536
  ·refine pf (0) ?_ (ar4 n (by(simp;omega)) (by(simp;omega)) w0 w Hs hS)
   (unfold Ya;(repeat' split) <;> omega)
  refine pf (-1) ?_ (ar5 n (by(simp;omega)) (by(simp;omega)) w0 w Hs hS)
  (unfold Ya;(repeat' split) <;> omega)
 by_cases o3:op=3
 ·subst o3
  by_cases q0:n=0
  ·subst q0;refine pf (1) ?_ (ar6   w0 w Hs hS)
   (unfold Ya;(repeat' split) <;> omega)
  refine pf (-1) ?_ (ar7 n (by(simp;omega)) w0 w Hs hS)
  (unfold Ya;(repeat' split) <;> omega)
 by_cases o4:op=4
 ·subst o4
  by_cases q0:n < 0
  ·refine pf (-1) ?_ (ar8 n (by(simp;omega)) w0 w Hs hS)
   (unfold Ya;(repeat' split) <;> omega)
  by_cases q1:n < 65536
  ·refine pf (1) ?_ (ar9 n (by(simp;omega)) (by(simp;omega)) w0 w Hs hS)
   (unfold Ya;(repeat' split) <;> omega)
  refine pf (-1) ?_ (ar10 n (by(simp;omega)) (by(simp;omega)) w0 w Hs hS)
  (unfold Ya;(repeat' split) <;> omega)
 by_cases o5:op=5
 ·subst o5
  by_cases q0:n < 0
  ·refine pf (-1) ?_ (ar11 n (by(simp;omega)) w0 w Hs hS)
   (unfold Ya;(repeat' split) <;> omega)
  by_cases q1:n < 65536
  ·refine pf (1) ?_ (ar12 n (by(simp;omega)) (by(simp;omega)) w0 w Hs hS)
   (unfold Ya;(repeat' split) <;> omega)
  refine pf (-1) ?_ (ar13 n (by(simp;omega)) (by(simp;omega)) w0 w Hs hS)
  (unfold Ya;(repeat' split) <;> omega)
 by_cases o11:op=11
 ·subst o11
  by_cases q0:n=0
  ·subst q0;refine pf (3) ?_ (ar16   w0 w Hs hS)
   (unfold Ya;(repeat' split) <;> omega)
  refine pf (-1) ?_ (ar17 n (by(simp;omega)) w0 w Hs hS)
  (unfold Ya;(repeat' split) <;> omega)
 by_cases p6:6≤op
 ·by_cases p7:op≤10
  ·by_cases q0:n=0
   ·subst q0;refine pf (2) ?_ (ar14 op (by(simp;omega)) (by(simp;omega)) (by(simp;omega)) (by(simp;omega)) (by(simp;omega)) (by(simp;omega)) (by(simp;omega)) w0 w Hs hS)
    (unfold Ya;(repeat' split) <;> omega)
   ·refine pf (-1) ?_ (ar15 op n (by(simp;omega)) (by(simp;omega)) (by(simp;omega)) (by(simp;omega)) (by(simp;omega)) (by(simp;omega)) (by(simp;omega)) (by(simp;omega)) (by(simp;omega)) w0 w Hs hS)
    (unfold Ya;(repeat' split) <;> omega)
  ·refine pf (-1) ?_ (ar19 op n (by(simp;omega)) (by(simp;omega)) (by(simp;omega)) (by(simp;omega)) (by(simp;omega)) (by(simp;omega)) (by(simp;omega)) (by(simp;omega)) w0 w Hs hS)
   (unfold Ya;(repeat' split) <;> omega)
 ·refine pf (-1) ?_ (ar18 op n (by(simp;omega)) (by(simp;omega)) (by(simp;omega)) (by(simp;omega)) (by(simp;omega)) (by(simp;omega)) (by(simp;omega)) w0 w Hs hS)
  (unfold Ya;(repeat' split) <;> omega)
end
end Go.Proofs.YteopodbkhgcpmaaGreatDoor
