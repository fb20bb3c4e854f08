/- A part of the proof: Rd4 Rd5 Rd6 Pm Pm2 Lv1. -/
import Derived.Test.YteopodbkhgcpmaaGreatDoorM1
import Derived.Test.YteopodbkhgcpmaaGreatDoorM7
import Derived.Test.YteopodbkhgcpmaaGreatDoorM12
set_option linter.unusedSimpArgs false
set_option linter.unusedVariables false
set_option linter.unusedSectionVars false
namespace Go.Proofs.YteopodbkhgcpmaaGreatDoor
section
open Go Go.RowKit Go.SL Go.ClauseP Go.LexP

theorem fourC {b:Nat} (hb:b=1∨b=3∨b=4∨b=5):b < 6:=by omega
theorem gM {text:List UInt8} {q':Ps} {S pend:List Wt} {o o':List (Int × Int)} {x:T} {k:Nat} (q:Int) (hq:Ok text q') (hx:o'++nd pend=post x) (hG:Good 1 q'.tk pend) (h0:q'.opn=k+1) :
  jp text ⟨pend++.opn::S,o++o',q'.opn+cn pend,q'.nds⟩ 1 q q' (fun _=>⟨S,o++post x,k,q'.nds⟩) 1 q 0 0 (yL text 10 q'):=by
 have hi:yQ (pend++.opn::S) (o++o') (q'.opn+cn pend)=(.opn::S,o++post x,q'.opn):=by
  rw[YS pend _ _ _ hG.1,List.append_assoc,hx];rfl
 refine jd hq (fun h=>?_) (fun h=>?_)
 ·rw[(uL hq.1).1 h]
  simp only[yB,if_true]
  rw[hi]
  simp only[Kf,h0,Nat.add_sub_cancel]
 ·have h':q'.tk≠.cls:=fun e=>h ((uL hq.1).2 e)
  have h1:=hq.1
  have h2:=hG.noop
  generalize q'.tk=tk at *
  cases tk with
  | cls=>exact(h' rfl).elim
  | bad=>exact h1.elim
  | op o=>exact(h2 _ rfl).elim
  | comma=>simp only[yB,if_true,hi,KP]
  | fin=>simp only[yB,if_true,hi,finM]
  | _=>rfl
theorem kr {text:List UInt8} {q':Ps} {S pend:List Wt} {o o':List (Int × Int)} {x:T} {n:Nat} (q:Int) (hn:n < 2) (hq:Ok text q') (hx:o'++nd pend=post x) (hG:Good 1 q'.tk pend) :
  jp text ⟨pend++.ite n::S,o++o',q'.opn+cn pend,q'.nds⟩ 1 q q' (fun _=>⟨.ite (n+1)::S,o++post x,q'.opn,q'.nds⟩) 0 q 0 0 (yL text 11 q'):=by
 have hi:yQ (pend++.ite n::S) (o++o') (q'.opn+cn pend)=(.ite n::S,o++post x,q'.opn):=by
  rw[YS pend _ _ _ hG.1,List.append_assoc,hx];rfl
 refine jd hq (fun h=>?_) (fun h=>?_)
 ·rw[(xy hq.1).1 h]
  simp only[yB,if_true,hi,KP]
  rw[if_neg (by omega)]
 ·have h':q'.tk≠.comma:=fun e=>h ((xy hq.1).2 e)
  have h1:=hq.1
  have h2:=hG.noop
  generalize q'.tk=tk at *
  cases tk with
  | comma=>exact(h' rfl).elim
  | bad=>exact h1.elim
  | op o=>exact(h2 _ rfl).elim
  | cls=>simp only[yB,if_true,hi,Kf];rw[if_neg (by omega)]
  | fin=>simp only[yB,if_true,hi,finM]
  | _=>rfl
theorem XS {text:List UInt8} {q':Ps} {S pend:List Wt} {o o':List (Int × Int)} {x:T} {k:Nat} (q:Int) (hq:Ok text q') (hx:o'++nd pend=post x) (hG:Good 1 q'.tk pend) (h0:q'.opn=k+1) :
  jp text ⟨pend++.ite 2::S,o++o',q'.opn+cn pend,q'.nds⟩ 1 q q' (fun _=>⟨S,o++(post x++[(11,0)]),k,q'.nds⟩) 1 q 0 0 (yL text 10 q'):=by
 have hi:yQ (pend++.ite 2::S) (o++o') (q'.opn+cn pend)=(.ite 2::S,o++post x,q'.opn):=by
  rw[YS pend _ _ _ hG.1,List.append_assoc,hx];rfl
 refine jd hq (fun h=>?_) (fun h=>?_)
 ·rw[(uL hq.1).1 h]
  simp only[yB,if_true]
  rw[hi]
  simp only[Kf,if_true,h0,Nat.add_sub_cancel,List.append_assoc]
 ·have h':q'.tk≠.cls:=fun e=>h ((uL hq.1).2 e)
  have h1:=hq.1
  have h2:=hG.noop
  generalize q'.tk=tk at *
  cases tk with
  | cls=>exact(h' rfl).elim
  | bad=>exact h1.elim
  | op o=>exact(h2 _ rfl).elim
  | comma=>simp only[yB,if_true,hi,KP];rw[if_pos (by omega)]
  | fin=>simp only[yB,if_true,hi,finM]
  | _=>rfl
theorem KC {text:List UInt8} {p:Ps} (S:List Wt) (o:List (Int × Int)) (q:Int) (hp:Ok text p) (ht:p.tk=.ite) :
  jp text ⟨S,o,p.opn,p.nds⟩ 0 q p (fun p'=>⟨.ite 0::S,o,p'.opn,p'.nds⟩) 0 q 1 1 (yx (yx (yx (yV p) yC) (yM text)) (yL text 9)):=by
 have h1:=Ke (text:=text) (m:=⟨S,o,p.opn,p.nds⟩) (w:=0) (q:=q) (x:=.ite 0) (w':=2) (q':=q) hp rfl rfl (by rw[ht];rfl)
 cases h:yx (yx (yV p) yC) (yM text) with
 | inl e=>rw[h] at h1;exact h1
 | inr q1 =>
  rw[h] at h1
  obtain⟨a1,a2,a3,a4⟩:=h1
  show jp _ _ _ _ _ _ _ _ _ _ (yL text 9 q1)
  have h2:=jd (text:=text) (m:=⟨.ite 0::S,o,q1.opn,q1.nds⟩) (m':=⟨.ite 0::S,o,q1.opn,q1.nds⟩) (w:=2) (q:=q) (w':=0) (q':=q) (k:=9) a1
   (fun h=>by rw[(GN a1.1).1 h];rfl)
   (fun h=>by
    have h':q1.tk≠.opn:=fun e=>h ((GN a1.1).2 e)
    have h5:=a1.1
    generalize q1.tk=tk at *
    cases tk <;> first|rfl|exact(h' rfl).elim|exact h5.elim)
  cases hn:yL text 9 q1 with
  | inl e=>rw[hn] at h2;exact a4 _ h2
  | inr q2 =>
   rw[hn] at h2
   obtain⟨b1,b2,b3,b4⟩:=h2
   refine ⟨b1,by omega,by omega,fun r hr=>a4 r (b4 r ?_)⟩
   dsimp only at hr ⊢
   rw[show q1.opn=q2.opn from b2.symm,show q1.nds=q2.nds from b3.symm]
   exact hr
set_option maxHeartbeats 2000000 in
theorem law {text:List UInt8} {tsk:Tsk} {p:Ps} {r:Rt} (h:RD text tsk p r):Mot text tsk p r:=by
 induction h with
 | @lvlE b p e hb _ ih =>
  intro hp S o q hS
  exact ih hp S o q (hS.up (fourC hb))
 | @lvlK b p x q1 r hb _ _ ih1 ih2 =>
  intro hp S o q hS
  obtain⟨h1,h2,pend,o',q',h3,h4,h5⟩:=ih1 hp S o q (hS.up (fourC hb))
  exact(ih2 h1 hb S o q' pend o' hS h3 h4.weak).comp h2 h5
 | @loopN b x q1 hk =>
  intro hp hb S o q pend o' hS hx hG
  refine ⟨hp,rfl,pend,o',q,hx,⟨hG.1,fun k hkk=>⟨?_,(hG.2 k hkk).2⟩⟩,fun r hr=>hr⟩
  have h1:=(hG.2 k hkk).1
  have h2:k≠oOf b:=fun e=>hk ((knd_op hp.1 hb).2 (by rw[hkk,e]))
  have h3:6≤k∧k≤10:=by have:=hp.1;rw[hkk] at this;exact this
  unfold YB at h1 ⊢
  rcases hb with rfl|rfl|rfl|rfl <;> simp only[oOf] at h2 <;> (repeat' split at h1) <;> (repeat' split) <;> omega
 | @loopA b x q1 e hk ha =>
  intro hp hb S o q pend o' hS hx hG
  have hs:=JZ (o:=o) q hp hb hS hx hG hk
  rw[ha] at hs
  exact hs
 | @loopE b x q1 q2 e hk ha _ ih =>
  intro hp hb S o q pend o' hS hx hG
  have hs:=JZ (o:=o) q hp hb hS hx hG hk
  rw[ha] at hs
  obtain⟨a1,a2,a3,a4⟩:=hs
  have h1:=ih a1 (.op (oOf b)::S) (o++post x) q (by show YB (oOf b) < b+1;rw[uI hb];omega)
  refine a4 _ ?_
  rw[show q1.opn=q2.opn from a2.symm]
  exact h1
 | @loopK b x q1 q2 y q3 r hk ha _ _ ih1 ih2 =>
  intro hp hb S o q pend o' hS hx hG
  have hs:=JZ (o:=o) q hp hb hS hx hG hk
  rw[ha] at hs
  obtain⟨a1,a2,a3,a4⟩:=hs
  obtain⟨h1,h2,pend2,o2,q',h3,h4,h5⟩:=ih1 a1 (.op (oOf b)::S) (o++post x) q (by show YB (oOf b) < b+1;rw[uI hb];omega)
  have h6:=ih2 h1 hb S o q' (pend2++[.op (oOf b)]) (post x++o2) hS (by rw[ub,← List.append_assoc,List.append_assoc (post x),h3];rfl)
   ⟨fun w hw=>by
    rcases List.mem_append.1 hw with h|h
    ·exact h4.1 w h
    ·simp only[List.mem_singleton] at h;exact .inr (.inr ⟨_,h⟩),fun k hk=>⟨(h4.2 k hk).1,fun w hw=>by
    rcases List.mem_append.1 hw with h|h
    ·exact((h4.2 k hk).2 w h).imp id fun⟨z,e1,e2⟩=>⟨z,e1,by omega⟩
    ·simp only[List.mem_singleton] at h;exact .inr ⟨_,h,by rw[uI hb];omega⟩⟩⟩
  refine h6.comp (by omega) fun r hr=>a4 r ?_
  rw[show q1.opn=q2.opn from a2.symm]
  refine h5 r ?_
  simp only[List.append_assoc,List.cons_append,List.nil_append,Uc] at hr ⊢
  exact hr
 | @impE p e _ ih =>
  intro hp S o q hS
  exact ih hp S o q (hS.up (by omega))
 | @impK p x q1 r _ _ ih1 ih2 =>
  intro hp S o q hS
  obtain⟨h1,h2,pend,o',q',h3,h4,h5⟩:=ih1 hp S o q (hS.up (by omega))
  have h6:=ih2 x [] rfl h1 S o q' pend o' hS h3 h4
  refine h6.comp h2 ?_
  simpa [YT] using h5
 | @impsN xs q1 hk =>
  rintro x rest rfl hp S o q pend o' hS hx hG
  refine ⟨hp,rfl,pend++List.replicate rest.length (.op 9),YT rest++o',q,?_,⟨fun w hw=>?_,fun k hkk=>⟨?_,fun w hw=>?_⟩⟩,fun r hr=>?_⟩
  ·rw[ub,nd_reps,xG,← hx];simp
  ·rcases List.mem_append.1 hw with h|h
   ·exact hG.1 w h
   ·exact .inr (.inr ⟨_,List.eq_of_mem_replicate h⟩)
  ·have h1:=(hG.2 k hkk).1
   have h2:k≠9:=fun e=>hk ((GM hp.1).2 (by rw[hkk,e]))
   have h3:6≤k∧k≤10:=by have:=hp.1;rw[hkk] at this;exact this
   unfold YB at h1 ⊢
   (repeat' split at h1) <;> (repeat' split) <;> omega
  ·rcases List.mem_append.1 hw with h|h
   ·exact((hG.2 k hkk).2 w h).imp id fun⟨z,e1,e2⟩=>⟨z,e1,by omega⟩
   ·exact .inr ⟨_,List.eq_of_mem_replicate h,Nat.le_refl _⟩
  ·rw[Uc,cn_reps] at hr
   simpa using hr
 | @impsA xs q1 e hk ha =>
  rintro x rest rfl hp S o q pend o' hS hx hG
  have hs:=JV (o:=o) (rest:=rest) q hp hS hx hG hk
  rw[ha] at hs
  exact hs
 | @impsE xs q1 q2 e hk ha _ ih =>
  rintro x rest rfl hp S o q pend o' hS hx hG
  have hs:=JV (o:=o) (rest:=rest) q hp hS hx hG hk
  rw[ha] at hs
  obtain⟨a1,a2,a3,a4⟩:=hs
  have h1:=ih a1 (List.replicate (x::rest).length (.op 9)++S) (o++YT (x::rest)) q (by show YB 9 < 3;decide)
  refine a4 _ ?_
  rw[show q1.opn=q2.opn from a2.symm]
  exact h1
 | @impsK xs q1 q2 y q3 r hk ha _ _ ih1 ih2 =>
  rintro x rest rfl hp S o q pend o' hS hx hG
  have hs:=JV (o:=o) (rest:=rest) q hp hS hx hG hk
  rw[ha] at hs
  obtain⟨a1,a2,a3,a4⟩:=hs
  obtain⟨h1,h2,pend2,o2,q',h3,h4,h5⟩:=ih1 a1 (List.replicate (x::rest).length (.op 9)++S) (o++YT (x::rest)) q (by show YB 9 < 3;decide)
  have h6:=ih2 y (x::rest) rfl h1 S o q' pend2 o2 hS h3 h4
  refine h6.comp (by omega) fun r hr=>a4 r ?_
  rw[show q1.opn=q2.opn from a2.symm]
  exact h5 r hr
 | @notA p e ht ha =>
  intro hp S o q hS
  have hs:=Ke (text:=text) (m:=⟨S,o,p.opn,p.nds⟩) (w:=0) (q:=q) (x:=.not) (w':=0) (q':=q) hp rfl rfl (by rw[ht];rfl)
  rw[ha] at hs
  exact hs
 | @notE p q1 e ht ha _ ih =>
  intro hp S o q hS
  have hs:=Ke (text:=text) (m:=⟨S,o,p.opn,p.nds⟩) (w:=0) (q:=q) (x:=.not) (w':=0) (q':=q) hp rfl rfl (by rw[ht];rfl)
  rw[ha] at hs
  obtain⟨a1,a2,a3,a4⟩:=hs
  exact a4 _ (ih a1 (.not::S) o q (stops6 _))
 | @notK p q1 x q2 ht ha _ ih =>
  intro hp S o q hS
  have hs:=Ke (text:=text) (m:=⟨S,o,p.opn,p.nds⟩) (w:=0) (q:=q) (x:=.not) (w':=0) (q':=q) hp rfl rfl (by rw[ht];rfl)
  rw[ha] at hs
  obtain⟨a1,a2,a3,a4⟩:=hs
  obtain⟨h1,h2,pend,o',q',h3,h4,h5⟩:=ih a1 (.not::S) o q (stops6 _)
  refine ⟨h1.less 1,by dsimp only;omega,pend++[.not],o',q',by rw[ub,← List.append_assoc,h3];rfl,⟨fun w hw=>?_,fun k hk=>⟨bnd6 k,fun w hw=>?_⟩⟩,fun r hr=>a4 r (h5 r ?_)⟩
  ·rcases List.mem_append.1 hw with h|h
   ·exact h4.1 w h
   ·simp only[List.mem_singleton] at h;exact .inl h
  ·rcases List.mem_append.1 hw with h|h
   ·exact(h4.2 k hk).2 w h
   ·simp only[List.mem_singleton] at h;exact .inl h
  ·dsimp only at hr
   rw[List.append_assoc,Uc,show q2.opn - 1+(cn pend+cn [Wt.not])=q2.opn+cn pend by show q2.opn - 1+(cn pend+1)=_;omega] at hr
   exact hr
 | @quA p op e ht hv =>
  intro hp S o q hS
  have hs:yB ⟨S,o,p.opn,p.nds⟩ 0 q p.tk=.go ⟨S,o,p.opn,p.nds⟩ 3 op:=by rw[ht];rfl
  exact .go hs (US hv S o op hp.2.2.2.1 hp.2.1 hp.2.2.1)
 | @quE p op vs q1 e ht hv _ ih =>
  intro hp S o q hS
  have hs:yB ⟨S,o,p.opn,p.nds⟩ 0 q p.tk=.go ⟨S,o,p.opn,p.nds⟩ 3 op:=by rw[ht];rfl
  obtain⟨ns,e0,e1,e2,e3,e4⟩:=US hv S o op hp.2.2.2.1 hp.2.1 hp.2.2.1
  have hst:Stops 1 (ns.reverse.map (Wt.quant op)++S):=by
   obtain⟨n,l,hl⟩:∃ n l,ns.reverse=n::l:=by
    cases h:ns.reverse with
    | nil=>simp at h;exact(e0 h).elim
    | cons n l=>exact⟨n,l,rfl⟩
   rw[hl];trivial
  exact .go hs (e4 _ (ih e2 _ o op hst))
 | @quK p op vs q1 x q2 ht hv _ ih =>
  intro hp S o q hS
  have hs:yB ⟨S,o,p.opn,p.nds⟩ 0 q p.tk=.go ⟨S,o,p.opn,p.nds⟩ 3 op:=by rw[ht];rfl
  obtain⟨ns,e0,e1,e2,e3,e4⟩:=US hv S o op hp.2.2.2.1 hp.2.1 hp.2.2.1
  simp only[List.nil_append] at e1
  subst e1
  have hst:Stops 1 (vs.reverse.map (Wt.quant op)++S):=by
   obtain⟨n,l,hl⟩:∃ n l,vs.reverse=n::l:=by
    cases h:vs.reverse with
    | nil=>simp at h;exact(e0 h).elim
    | cons n l=>exact⟨n,l,rfl⟩
   rw[hl];trivial
  obtain⟨h1,h2,pend,o',q',h3,h4,h5⟩:=ih e2 _ o op hst
  refine ⟨h1.less _,by dsimp only;omega,pend++vs.reverse.map (Wt.quant op),o',q',by rw[ub,← List.append_assoc,h3,gj],⟨fun w hw=>?_,fun k hk=>(h4.noop k hk).elim⟩,fun r hr=>.go hs (e4 r (h5 r ?_))⟩
  ·rcases List.mem_append.1 hw with h|h
   ·exact h4.1 w h
   ·obtain⟨n,_,rfl⟩:=List.mem_map.1 h
    exact .inr (.inl ⟨_,_,rfl⟩)
  ·dsimp only at hr
   have hc:cn (vs.reverse.map (Wt.quant op))=vs.length:=by rw[cn_quants,List.length_reverse]
   rw[List.append_assoc,Uc,hc,show q2.opn - vs.length+(cn pend+vs.length)=q2.opn+cn pend by omega] at hr
   exact hr
 | @cst p n ht =>
  intro hp S o q hS
  have hs:=ju (text:=text) (m:=⟨S,o,p.opn,p.nds⟩) (w:=0) (q:=q) (w':=1) (q':=q) (g:=fun m=>⟨m.st,m.out++[(1,n)],m.opn,m.nds⟩) hp rfl (by rw[ht];rfl)
  cases ha:yx (yC p) (yM text) with
  | inl e=>rw[ha] at hs;exact hs
  | inr q1 =>
   rw[ha] at hs
   obtain⟨a1,a2,a3,a4⟩:=hs
   refine ⟨a1,a2,[],[(1,n)],q,rfl,.nil fun k _=>bnd6 k,fun r hr=>a4 r ?_⟩
   dsimp only
   rw[show p.opn=q1.opn from a2.symm]
   exact hr
 | @var p n ht =>
  intro hp S o q hS
  have hs:=ju (text:=text) (m:=⟨S,o,p.opn,p.nds⟩) (w:=0) (q:=q) (w':=1) (q':=q) (g:=fun m=>⟨m.st,m.out++[(2,n)],m.opn,m.nds⟩) hp rfl (by rw[ht];rfl)
  cases ha:yx (yC p) (yM text) with
  | inl e=>rw[ha] at hs;exact hs
  | inr q1 =>
   rw[ha] at hs
   obtain⟨a1,a2,a3,a4⟩:=hs
   refine ⟨a1,a2,[],[(2,n)],q,rfl,.nil fun k _=>bnd6 k,fun r hr=>a4 r ?_⟩
   dsimp only
   rw[show p.opn=q1.opn from a2.symm]
   exact hr
 | @opnA p e ht ha =>
  intro hp S o q hS
  have hs:=Jq (text:=text) (m:=⟨S,o,p.opn,p.nds⟩) (w:=0) (q:=q) (x:=.opn) (w':=0) (q':=q) hp rfl (by rw[ht];rfl)
  rw[ha] at hs
  exact hs
 | @opnE p q1 e ht ha _ ih =>
  intro hp S o q hS
  have hs:=Jq (text:=text) (m:=⟨S,o,p.opn,p.nds⟩) (w:=0) (q:=q) (x:=.opn) (w':=0) (q':=q) hp rfl (by rw[ht];rfl)
  rw[ha] at hs
  obtain⟨a1,a2,a3,a4⟩:=hs
  refine a4 _ ?_
  dsimp only
  rw[show p.nds=q1.nds from a3.symm]
  exact ih a1 (.opn::S) o q trivial
 | @opnK p q1 x q2 ht ha _ ih =>
  intro hp S o q hS
  have hs:=Jq (text:=text) (m:=⟨S,o,p.opn,p.nds⟩) (w:=0) (q:=q) (x:=.opn) (w':=0) (q':=q) hp rfl (by rw[ht];rfl)
  rw[ha] at hs
  obtain⟨a1,a2,a3,a4⟩:=hs
  obtain⟨h1,h2,pend,o',q',h3,h4,h5⟩:=ih a1 (.opn::S) o q trivial
  have hc:=gM (S:=S) (o:=o) (k:=p.opn) q' h1 h3 h4 (by omega)
  have hgo:∀ r,MRun text ⟨pend++.opn::S,o++o',q2.opn+cn pend,q2.nds⟩ 1 q' (KG q2) r→MRun text ⟨S,o,p.opn,p.nds⟩ 0 q (KG p) r:=fun r hr=>a4 r (by
   dsimp only
   rw[show p.nds=q1.nds from a3.symm]
   exact h5 r hr)
  cases hn:yL text 10 q2 with
  | inl e=>rw[hn] at hc;exact hgo _ hc
  | inr q3 =>
   rw[hn] at hc
   obtain⟨b1,b2,b3,b4⟩:=hc
   refine ⟨b1.less 1,by dsimp only;omega,[],post x,q',by simp[nd],.nil fun k _=>bnd6 k,fun r hr=>hgo r (b4 r ?_)⟩
   dsimp only at hr ⊢
   rw[show q3.opn - 1+cn []=p.opn by show q3.opn - 1+0=_;omega,show q3.nds=q2.nds from b3] at hr
   exact hr
 | @iteA p e ht ha =>
  intro hp S o q hS
  have hs:=KC S o q hp ht
  rw[ha] at hs
  exact hs
 | @iteC p q0 e ht ha _ ih =>
  intro hp S o q hS
  have hs:=KC S o q hp ht
  rw[ha] at hs
  obtain⟨a1,a2,a3,a4⟩:=hs
  exact a4 _ (ih a1 (.ite 0::S) o q trivial)
 | @iteD p q0 c q1 e ht ha _ hn ih =>
  intro hp S o q hS
  have hs:=KC S o q hp ht
  rw[ha] at hs
  obtain⟨a1,a2,a3,a4⟩:=hs
  obtain⟨h1,h2,pend,o',q',h3,h4,h5⟩:=ih a1 (.ite 0::S) o q trivial
  have hc:=kr (S:=S) (o:=o) q' (n:=0) (by omega) h1 h3 h4
  rw[hn] at hc
  exact a4 _ (h5 _ hc)
 | @iteE p q0 c q1 q2 e ht ha _ hn _ ih ih2 =>
  intro hp S o q hS
  have hs:=KC S o q hp ht
  rw[ha] at hs
  obtain⟨a1,a2,a3,a4⟩:=hs
  obtain⟨h1,h2,pend,o',q',h3,h4,h5⟩:=ih a1 (.ite 0::S) o q trivial
  have hc:=kr (S:=S) (o:=o) q' (n:=0) (by omega) h1 h3 h4
  rw[hn] at hc
  obtain⟨b1,b2,b3,b4⟩:=hc
  refine a4 _ (h5 _ (b4 _ ?_))
  have:=ih2 b1 (.ite 1::S) (o++post c) q' trivial
  dsimp only
  rw[show q1.opn=q2.opn from b2.symm,show q1.nds=q2.nds from b3.symm]
  exact this
 | @iteF p q0 c q1 q2 a q3 e ht ha _ hn _ hn2 ih ih2 =>
  intro hp S o q hS
  have hs:=KC S o q hp ht
  rw[ha] at hs
  obtain⟨a1,a2,a3,a4⟩:=hs
  obtain⟨h1,h2,pend,o',q',h3,h4,h5⟩:=ih a1 (.ite 0::S) o q trivial
  have hc:=kr (S:=S) (o:=o) q' (n:=0) (by omega) h1 h3 h4
  rw[hn] at hc
  obtain⟨b1,b2,b3,b4⟩:=hc
  refine a4 _ (h5 _ (b4 _ ?_))
  obtain⟨i1,i2,pend2,o2,q'',i3,i4,i5⟩:=ih2 b1 (.ite 1::S) (o++post c) q' trivial
  dsimp only
  rw[show q1.opn=q2.opn from b2.symm,show q1.nds=q2.nds from b3.symm]
  refine i5 _ ?_
  have hc2:=kr (S:=S) (o:=o++post c) q'' (n:=1) (by omega) i1 i3 i4
  rw[hn2] at hc2
  exact hc2
 | @iteG p q0 c q1 q2 a q3 q4 e ht ha _ hn _ hn2 _ ih ih2 ih3 =>
  intro hp S o q hS
  have hs:=KC S o q hp ht
  rw[ha] at hs
  obtain⟨a1,a2,a3,a4⟩:=hs
  obtain⟨h1,h2,pend,o',q',h3,h4,h5⟩:=ih a1 (.ite 0::S) o q trivial
  have hc:=kr (S:=S) (o:=o) q' (n:=0) (by omega) h1 h3 h4
  rw[hn] at hc
  obtain⟨b1,b2,b3,b4⟩:=hc
  refine a4 _ (h5 _ (b4 _ ?_))
  obtain⟨i1,i2,pend2,o2,q'',i3,i4,i5⟩:=ih2 b1 (.ite 1::S) (o++post c) q' trivial
  dsimp only
  rw[show q1.opn=q2.opn from b2.symm,show q1.nds=q2.nds from b3.symm]
  refine i5 _ ?_
  have hc2:=kr (S:=S) (o:=o++post c) q'' (n:=1) (by omega) i1 i3 i4
  rw[hn2] at hc2
  obtain⟨c1,c2,c3,c4⟩:=hc2
  refine c4 _ ?_
  have:=ih3 c1 (.ite 2::S) (o++post c++post a) q'' trivial
  dsimp only
  rw[show q3.opn=q4.opn from c2.symm,show q3.nds=q4.nds from c3.symm]
  exact this
 | @iteK p q0 c q1 q2 a q3 q4 b q5 ht ha _ hn _ hn2 _ ih ih2 ih3 =>
  intro hp S o q hS
  have hs:=KC S o q hp ht
  rw[ha] at hs
  obtain⟨a1,a2,a3,a4⟩:=hs
  obtain⟨h1,h2,pend,o',q',h3,h4,h5⟩:=ih a1 (.ite 0::S) o q trivial
  have hc:=kr (S:=S) (o:=o) q' (n:=0) (by omega) h1 h3 h4
  rw[hn] at hc
  obtain⟨b1,b2,b3,b4⟩:=hc
  obtain⟨i1,i2,pend2,o2,q'',i3,i4,i5⟩:=ih2 b1 (.ite 1::S) (o++post c) q' trivial
  have hc2:=kr (S:=S) (o:=o++post c) q'' (n:=1) (by omega) i1 i3 i4
  rw[hn2] at hc2
  obtain⟨c1,c2,c3,c4⟩:=hc2
  obtain⟨j1,j2,pend3,o3,q3',j3,j4,j5⟩:=ih3 c1 (.ite 2::S) (o++post c++post a) q'' trivial
  have hce:=XS (S:=S) (o:=o++post c++post a) (k:=p.opn) q3' j1 j3 j4 (by omega)
  have hgo:∀ r,MRun text ⟨pend3++.ite 2::S,o++post c++post a++o3,q5.opn+cn pend3,q5.nds⟩ 1 q3' (KG q5) r→MRun text ⟨S,o,p.opn,p.nds⟩ 0 q (KG p) r:=by
   intro r hr
   refine a4 _ (h5 _ (b4 _ ?_))
   dsimp only
   rw[show q1.opn=q2.opn from b2.symm,show q1.nds=q2.nds from b3.symm]
   refine i5 _ (c4 _ ?_)
   dsimp only
   rw[show q3.opn=q4.opn from c2.symm,show q3.nds=q4.nds from c3.symm]
   exact j5 r hr
  cases hn3:yL text 10 q5 with
  | inl e=>rw[hn3] at hce;exact hgo _ hce
  | inr q6 =>
   rw[hn3] at hce
   obtain⟨d1,d2,d3,d4⟩:=hce
   refine ⟨d1.less 1,by dsimp only;omega,[],post c++post a++post b++[(11,0)],q3',by simp[nd,post],.nil fun k _=>bnd6 k,fun r hr=>hgo r (d4 r ?_)⟩
   dsimp only at hr ⊢
   rw[show q6.opn - 1+cn []=p.opn by show q6.opn - 1+0=_;omega,show q6.nds=q5.nds from d3] at hr
   simp only[List.append_assoc] at hr ⊢
   exact hr
 | @else_ p h1 h2 h3 h4 =>
  intro hp S o q hS
  refine KI ?_
  have h5:=hp.1
  have h6:=h1 p.tk (by simp)
  generalize p.tk=tk at *
  cases tk with
  | bad=>exact h5.elim
  | const n=>exact(h2 _ rfl).elim
  | var n=>exact(h3 _ rfl).elim
  | quant n=>exact(h4 _ rfl).elim
  | not=>exact(h6.1 rfl).elim
  | opn=>exact(h6.2.1 rfl).elim
  | ite=>exact(h6.2.2 rfl).elim
  | _=>rfl
end
section
open Go Go.RowKit Go.SL Go.ClauseP Go.LexP

def p00:Ps:=⟨.fin,0,0,0,0⟩
def m00:MS:=⟨[],[],0,0⟩
def xR (text:List UInt8):Rt→(Int × Nat) ⊕ T
 | .inl e=>.inl e
 | .inr (x,q)=>match yL text 0 q with
  | .inl e=>.inl e
  | .inr _=>.inr x
def jn (text:List UInt8) (r:(Int × Nat) ⊕ T):Prop:=match yM text p00 with
 | .inl e=>r=.inl e
 | .inr p=>∃ r1,RD text (.lvl 1) p r1∧r=xR text r1
def gG:(Int × Nat) ⊕ T→Ans
 | .inl e=>.inl e
 | .inr x=>.inr (post x)
theorem end_run {text:List UInt8} {q:Ps} {pend:List Wt} {o':List (Int × Int)} {x:T} (k:Nat) (q':Int) (hq:Ok text q) (hx:o'++nd pend=post x) (hG:Good 1 q.tk pend) :
  MRun text ⟨pend++[],[]++o',k+cn pend,q.nds⟩ 1 q' (KG q) (gG (xR text (.inr (x,q)))):=by
 have hi:yQ (pend++[]) ([]++o') (k+cn pend)=([],post x,k):=by
  rw[YS pend _ _ _ hG.1,List.append_assoc,hx];rfl
 simp only[xR,yL]
 by_cases hk:knd q=0
 ·have ht:=(GL hq.1).1 hk
  have hf:=hq.2.2.2.2 ht
  have ha:yM text q=.inr ⟨.fin,text.length,text.length,q.opn,q.nds⟩:=by
   unfold yM;rw[hf,nextT_end]
  rw[if_pos hk,ha]
  refine .done ?_
  show yB _ _ _ q.tk=_
  rw[ht]
  simp only[yB,if_true]
  rw[hi];rfl
 ·rw[if_neg hk]
  refine KI ?_
  have h':q.tk≠.fin:=fun e=>hk ((GL hq.1).2 e)
  have h1:=hq.1
  have h2:=hG.noop
  generalize q.tk=tk at *
  cases tk with
  | fin=>exact(h' rfl).elim
  | bad=>exact h1.elim
  | op o=>exact(h2 _ rfl).elim
  | comma=>simp only[yB,if_true];rw[hi];rfl
  | cls=>simp only[yB,if_true];rw[hi];rfl
  | _=>rfl
theorem jZ {text:List UInt8} {r:(Int × Nat) ⊕ T} (h:jn text r):MRun text m00 0 0 (yP text 0) (gG r):=by
 unfold jn at h
 cases ha:yM text p00 with
 | inl e =>
  rw[ha] at h
  have h:r=.inl e:=h
  subst h
  exact jR ha _ _ _
 | inr p =>
  rw[ha] at h
  obtain⟨r1,hrd,rfl⟩:=h
  have hp:=jD (p:=p00) (Nat.zero_le _) (Nat.zero_le _) (Nat.zero_le _) ha
  obtain⟨h1,h2,h3,_⟩:=UV ha
  have hl:=law hrd hp [] [] 0 trivial
  have e0:p.opn=0:=h2
  have e1:p.nds=0:=h3
  rw[e0,e1] at hl
  have e2:yP text 0=KG p:=h1.symm
  rw[e2]
  rcases r1 with e|⟨x,q⟩
  ·exact hl
  ·obtain⟨k1,k2,pend,o',q',k3,k4,k5⟩:=hl
   exact k5 _ (end_run q.opn q' k1 k3 k4)
theorem MRun.place {text:List UInt8} {m:MS} {w q:Int} {t:TokR} {r:Ans} (h:MRun text m w q t r):t.at_≤text.length→t.fin≤text.length→∀ e a,r=.inl (e,a)→a≤text.length:=by
 induction h with
 | err h=>intro h1 _ e a he;injection he with he;injection he with _ he;rw[← he];exact h1
 | done h=>intro _ _ e a he;cases he
 | @go m w q t m' w' q' r hs _ ih =>
  intro _ h2
  refine ih ?_ (Uq text t.fin h2)
  have h3:=Jb text t.fin h2
  unfold yP
  split
  ·exact Nat.le_refl _
  ·exact h3
theorem gu {text:List UInt8} {r:Ans} (h:MRun text m00 0 0 (yP text 0) r) {e:Int} {a:Nat} (he:r=.inl (e,a)):a≤text.length:=by
 refine h.place ?_ (Uq text 0 (Nat.zero_le _)) e a he
 have h3:=Jb text 0 (Nat.zero_le _)
 unfold yP
 split
 ·exact Nat.le_refl _
 ·exact h3
end
section
open Go Go.RowKit Go.SL Go.ClauseP Go.LexP

def nnW:Wt→Nat
 | .opn=>0
 | _=>1
def sW (s:List Wt):Nat:=(s.map opW).sum
def sN (s:List Wt):Nat:=(s.map nnW).sum
theorem s_le:∀ s:List Wt,s.length≤sW s+sN s
 | []=>by simp[sW,sN]
 | w::s=>by
  have:=s_le s
  have h:1≤opW w+nnW w:=by cases w <;> simp[opW,nnW]
  simp only[sW,sN,List.map_cons,List.sum_cons,List.length_cons] at this ⊢
  omega
def MInv (m:MS):Prop:=m.opn=sW m.st∧sN m.st+m.out.length=m.nds∧m.opn≤64∧m.nds≤65536
def Inv3 (nds:Nat) (x:List Wt × List (Int × Int) × Nat):Prop:=x.2.2=sW x.1∧sN x.1+x.2.1.length=nds∧x.2.2≤64
theorem Inv3.settle {nds:Nat} {w:Wt} {S:List Wt} {o:List (Int × Int)} {k:Nat} (h:Inv3 nds (w::S,o,k)) (hw:w≠.opn):Inv3 nds (S,o++ndW w,k - opW w):=by
 obtain⟨h1,h2,h3⟩:=h
 simp only[sW,sN,List.map_cons,List.sum_cons] at h1 h2
 have e:(ndW w).length=nnW w:=by cases w <;> first|rfl|exact(hw rfl).elim
 refine ⟨?_,?_,?_⟩
 ·show k - opW w=sW S;unfold sW;omega
 ·show sN S+(o++ndW w).length=nds;rw[List.length_append,e];unfold sN;omega
 ·show k - opW w≤64;have:k≤64:=h3;omega
theorem ja {nds:Nat}:∀ (S:List Wt) (o:List (Int × Int)) (k:Nat),Inv3 nds (S,o,k)→Inv3 nds (yQ S o k)
 | [],o,k,h=>h
 | w::S,o,k,h=>by
  cases w with
  | opn=>exact h
  | ite n=>exact h
  | not=>exact ja S _ _ (h.settle (by simp))
  | quant a b=>exact ja S _ _ (h.settle (by simp))
  | op a=>exact ja S _ _ (h.settle (by simp))
theorem Us {nds:Nat} (op:Int):∀ (S:List Wt) (o:List (Int × Int)) (k:Nat),Inv3 nds (S,o,k)→Inv3 nds (Yr op S o k)
 | [],o,k,h=>h
 | w::S,o,k,h=>by
  cases w with
  | opn=>exact h
  | ite n=>exact h
  | quant a b=>exact h
  | not=>exact Us op S _ _ (h.settle (w:=.not) (by simp))
  | op a =>
   simp only[Yr]
   split
   ·exact h
   ·exact Us op S _ _ (h.settle (w:=.op a) (by simp))
theorem JE {m:MS} (h:MInv m) (x:Wt) (hx:x≠.opn) (h1:m.opn+opW x≤64) (h2:m.nds+1≤65536):MInv ⟨x::m.st,m.out,m.opn+opW x,m.nds+1⟩:=by
 obtain⟨a,b,c,d⟩:=h
 have e:nnW x=1:=by cases x <;> first|rfl|exact(hx rfl).elim
 refine ⟨?_,?_,h1,h2⟩
 ·show m.opn+opW x=sW (x::m.st);simp only[sW,List.map_cons,List.sum_cons] at a ⊢;omega
 ·show sN (x::m.st)+m.out.length=m.nds+1;simp only[sN,List.map_cons,List.sum_cons] at b ⊢;omega
theorem MInv.small {m:MS} (h:MInv m):m.opn=(m.st.map opW).sum∧m.st.length≤200000∧m.out.length+m.st.length≤400000∧m.opn≤64∧m.nds≤65536:=by
 obtain⟨a,b,c,d⟩:=h
 have:=s_le m.st
 exact⟨a,by omega,by omega,c,d⟩
theorem MInv.start:MInv m00:=⟨rfl,rfl,by decide,by decide⟩
theorem YR {m m':MS} {want q w' q':Int} {tk:Tk} (h:MInv m) (hs:yB m want q tk=.go m' w' q'):MInv m':=by
 have h3:Inv3 m.nds (m.st,m.out,m.opn):=⟨h.1,h.2.1,h.2.2.1⟩
 have hi:=ja _ _ _ h3
 have h64:=h.2.2.1
 have h65:=h.2.2.2
 cases tk with
 | bad e=>cases hs
 | const n =>
  simp only[yB,Yk] at hs
  split at hs
  rotate_left
  ·cases hs
  split at hs
  ·cases hs
  injection hs with e1 e2 e3
  subst e1
  exact⟨h.1,by simp only[List.length_append,List.length_cons,List.length_nil];have:=h.2.1;omega,h64,by dsimp only;omega⟩
 | var n =>
  simp only[yB,Yk,YE] at hs
  split at hs
  ·split at hs
   ·cases hs
   injection hs with e1 e2 e3
   subst e1
   exact⟨h.1,by simp only[List.length_append,List.length_cons,List.length_nil];have:=h.2.1;omega,h64,by dsimp only;omega⟩
  ·split at hs
   rotate_left
   ·cases hs
   split at hs
   ·cases hs
   split at hs
   ·cases hs
   injection hs with e1 e2 e3
   subst e1
   exact JE h (.quant q n) (by simp) (by simp only[opW];omega) (by omega)
 | quant o =>
  simp only[yB] at hs
  split at hs
  rotate_left
  ·cases hs
  injection hs with e1 e2 e3
  subst e1;exact h
 | opn =>
  simp only[yB,YE] at hs
  split at hs
  ·split at hs
   ·cases hs
   injection hs with e1 e2 e3
   subst e1
   refine ⟨?_,by show sN (.opn::m.st)+m.out.length=m.nds;have:=h.2.1;simp only[sN,List.map_cons,List.sum_cons,nnW] at this ⊢;omega,by dsimp only;omega,h65⟩
   show m.opn+1=sW (.opn::m.st)
   have:=h.1
   simp only[sW,List.map_cons,List.sum_cons,opW] at this ⊢;omega
  ·split at hs
   rotate_left
   ·cases hs
   injection hs with e1 e2 e3
   subst e1;exact h
 | ite =>
  simp only[yB,Yk,YE] at hs
  split at hs
  rotate_left
  ·cases hs
  split at hs
  ·cases hs
  split at hs
  ·cases hs
  injection hs with e1 e2 e3
  subst e1
  exact JE h (.ite 0) (by simp) (by simp only[opW];omega) (by omega)
 | not =>
  simp only[yB,Yk,YE] at hs
  split at hs
  rotate_left
  ·cases hs
  split at hs
  ·cases hs
  split at hs
  ·cases hs
  injection hs with e1 e2 e3
  subst e1
  exact JE h .not (by simp) (by simp only[opW];omega) (by omega)
 | op o =>
  simp only[yB,Yk] at hs
  split at hs
  rotate_left
  ·cases hs
  split at hs
  ·cases hs
  injection hs with e1 e2 e3
  subst e1
  obtain⟨a,b,c⟩:=Us o _ _ _ h3
  exact JE (m:=⟨_,_,_,m.nds⟩) ⟨a,b,c,h65⟩ (.op o) (by simp) (by simp only[opW];exact c) (by dsimp only;omega)
 | cls =>
  simp only[yB] at hs
  split at hs
  rotate_left
  ·cases hs
  generalize yQ m.st m.out m.opn=x at *
  obtain⟨S,o,k⟩:=x
  rcases S with _|⟨w,S⟩
  ·cases hs
  ·obtain⟨a,b,c⟩:=hi
   cases w with
   | opn =>
    simp only[Kf] at hs
    injection hs with e1 e2 e3
    subst e1
    simp only[sW,sN,List.map_cons,List.sum_cons,opW,nnW] at a b
    exact⟨by show k - 1=sW S;unfold sW;omega,by show sN S+o.length=m.nds;unfold sN;omega,by show k - 1≤64;have:k≤64:=c;omega,h65⟩
   | ite n =>
    simp only[Kf] at hs
    split at hs
    rotate_left
    ·cases hs
    injection hs with e1 e2 e3
    subst e1
    simp only[sW,sN,List.map_cons,List.sum_cons,opW,nnW] at a b
    exact⟨by show k - 1=sW S;unfold sW;omega,by show sN S+(o++[(11,0)]).length=m.nds;unfold sN;simp only[List.length_append,List.length_cons,List.length_nil];omega,by show k - 1≤64;have:k≤64:=c;omega,h65⟩
   | _=>cases hs
 | comma =>
  simp only[yB] at hs
  split at hs
  ·generalize yQ m.st m.out m.opn=x at *
   obtain⟨S,o,k⟩:=x
   rcases S with _|⟨w,S⟩
   ·cases hs
   ·obtain⟨a,b,c⟩:=hi
    cases w with
    | ite n =>
     simp only[KP] at hs
     split at hs
     ·cases hs
     injection hs with e1 e2 e3
     subst e1
     exact⟨a,b,c,h65⟩
    | _=>cases hs
  ·split at hs
   rotate_left
   ·cases hs
   injection hs with e1 e2 e3
   subst e1;exact h
 | colon =>
  simp only[yB] at hs
  split at hs
  rotate_left
  ·cases hs
  injection hs with e1 e2 e3
  subst e1;exact h
 | fin =>
  simp only[yB] at hs
  split at hs
  rotate_left
  ·cases hs
  generalize yQ m.st m.out m.opn=x at *
  obtain⟨S,o,k⟩:=x
  cases S <;> cases hs
end
section
set_option maxRecDepth 20000
open Go Go.RowKit Go.SL Go.ClauseP Go.LexP

def psV (text:List UInt8) (k n tat te fin o nd e a:Int):List Value:=[.string ⟨text.toArray⟩,.int .i64 k,.int .i64 n,.int .i64 tat,.int .i64 te,.int .i64 fin,.int .i64 o,.int .i64 nd,.int .i64 e,.int .i64 a]
theorem xq (B:Nat) (text:List UInt8) (k n tat te fin o nd a c:Int) (w0 w:World) (R:List HP) (hS:Sat w0 w (blk B 51 (psV text k n tat te fin o nd 0 a)::R)) :
  Calls Tryz.prog 43 #[.pointer (some ⟨B,0,none⟩),.int .i64 c] w fun e w'=>e=.returned (.tuple #[])∧Sat w0 w' (blk B 51 (psV text k n tat te fin o nd c tat)::R):=by
 unfold psV at hS
 go_enter Tryz.func43,Tryz.ntmps43
 go_wp2_with ((first|((with_reducible apply yh hS);exact ya;exact yb rfl;exact ye;rfl;decide +kernel)|((with_reducible apply yy hS);exact ya;exact yb rfl;exact yb rfl;exact ye;rfl;(focus (simp;done));exact Upd.hd;rfl;decide +kernel;clear hS;intro w hS;(try simp only[qS] at hS)));try simp only[qA])
 go_end0
 exact⟨rfl,hS⟩
theorem GH (B:Nat) (text:List UInt8) (k n tat te fin o nd d a c:Int) (hd:d≠0) (w0 w:World) (R:List HP) (hS:Sat w0 w (blk B 51 (psV text k n tat te fin o nd d a)::R)) :
  Calls Tryz.prog 43 #[.pointer (some ⟨B,0,none⟩),.int .i64 c] w fun e w'=>e=.returned (.tuple #[])∧Sat w0 w' (blk B 51 (psV text k n tat te fin o nd d a)::R):=by
 unfold psV at hS
 have hd2:(d == 0)=false:=by simp[hd]
 go_enter Tryz.func43,Tryz.ntmps43
 go_wp2_with ((with_reducible apply yh hS);exact ya;exact yb rfl;exact ye;rfl;decide +kernel;(try simp only[qA]))
 go_end0
 exact⟨rfl,hS⟩
theorem advD (B:Nat) (text:List UInt8) (k n tat te fin o nd d a:Int) (hd:d≠0) (w0 w:World) (R:List HP) (hS:Sat w0 w (blk B 51 (psV text k n tat te fin o nd d a)::R)) :
  Calls Tryz.prog 14 #[.pointer (some ⟨B,0,none⟩)] w fun e w'=>e=.returned (.tuple #[])∧Sat w0 w' (blk B 51 (psV text k n tat te fin o nd d a)::R):=by
 have FD:=GH B text k n tat te fin o nd d a
 unfold psV at hS FD
 have hd2:(d == 0)=false:=by simp[hd]
 have hd3:(d != 0)=true:=by simp[hd]
 go_enter Tryz.func14,Tryz.ntmps14
 go_wp2_with ((with_reducible apply yh hS);exact ya;exact yb rfl;exact ye;rfl;decide +kernel;(try simp only[qA]))
 refine bodyPost_ret (results_none rfl _ _ _) rfl ?_
 exact⟨rfl,hS⟩
theorem isD (B:Nat) (text:List UInt8) (k n tat te fin o nd d a c:Int) (hd:d≠0) (w0 w:World) (R:List HP) (hS:Sat w0 w (blk B 51 (psV text k n tat te fin o nd d a)::R)) :
  Calls Tryz.prog 46 #[.pointer (some ⟨B,0,none⟩),.int .i64 c] w fun e w'=>e=.returned (.bool false)∧Sat w0 w' (blk B 51 (psV text k n tat te fin o nd d a)::R):=by
 have FD:=GH B text k n tat te fin o nd d a
 unfold psV at hS FD
 have hd2:(d == 0)=false:=by simp[hd]
 have hd3:(d != 0)=true:=by simp[hd]
 go_enter Tryz.func46,Tryz.ntmps46
 go_wp2_with ((with_reducible apply yh hS);exact ya;exact yb rfl;exact ye;rfl;decide +kernel;(try simp only[qA]))
 go_ret
 exact⟨rfl,hS⟩
theorem needD (B:Nat) (text:List UInt8) (k n tat te fin o nd d a c:Int) (hd:d≠0) (w0 w:World) (R:List HP) (hS:Sat w0 w (blk B 51 (psV text k n tat te fin o nd d a)::R)) :
  Calls Tryz.prog 16 #[.pointer (some ⟨B,0,none⟩),.int .i64 c] w fun e w'=>e=.returned (.tuple #[])∧Sat w0 w' (blk B 51 (psV text k n tat te fin o nd d a)::R):=by
 have FD:=GH B text k n tat te fin o nd d a
 have ID:=isD B text k n tat te fin o nd d a c hd
 unfold psV at hS FD ID
 have hd2:(d == 0)=false:=by simp[hd]
 have hd3:(d != 0)=true:=by simp[hd]
 go_enter Tryz.func16,Tryz.ntmps16
 go_wp2_with (first|((with_reducible apply yh hS);exact ya;exact yb rfl;exact ye;rfl;decide +kernel;(try simp only[qA]))|(go_at_call 46;refine (ID _ _ _ hS).mono ?_;clear hS;rintro e w ⟨rfl,hS⟩))
 go_end0
 exact⟨rfl,hS⟩
theorem makesD (B:Nat) (text:List UInt8) (k n tat te fin o nd d a:Int) (hd:d≠0) (h1:0≤nd) (h2:nd≤65536) (w0 w:World) (R:List HP) (hS:Sat w0 w (blk B 51 (psV text k n tat te fin o nd d a)::R)) :
  Calls Tryz.prog 75 #[.pointer (some ⟨B,0,none⟩)] w fun e w'=>e=.returned (.tuple #[])∧Sat w0 w' (blk B 51 (psV text k n tat te fin o (nd+1) d a)::R):=by
 have FD:=fun w=>GH B text k n tat te fin o nd d a 8 hd w0 w R
 unfold psV at hS FD
 by_cases hm:nd=65536
 ·subst hm
  go_enter Tryz.func75,Tryz.ntmps75
  go_wp2_with ((first|((with_reducible apply yh hS);exact ya;exact yb rfl;exact ye;rfl;decide +kernel)|((with_reducible apply yy hS);exact ya;exact yb rfl;exact yb rfl;exact ye;rfl;(focus (simp;done));exact Upd.hd;rfl;decide +kernel;clear hS;intro w hS;(try simp only[qS] at hS))|(go_at_call 43;refine (FD _ hS).mono ?_;clear hS;rintro e w ⟨rfl,hS⟩));try simp only[qA])
  go_end0
  exact⟨rfl,hS⟩
 ·have hm2:(nd == 65536)=false:=by simp[hm]
  go_enter Tryz.func75,Tryz.ntmps75
  go_wp2_with ((first|((with_reducible apply yh hS);exact ya;exact yb rfl;exact ye;rfl;decide +kernel)|((with_reducible apply yy hS);exact ya;exact yb rfl;exact yb rfl;exact ye;rfl;(focus (simp;done));exact Upd.hd;rfl;decide +kernel;clear hS;intro w hS;(try simp only[qS] at hS)));try simp only[qA])
  go_end0
  exact⟨rfl,hS⟩
def alV (text:List UInt8) (p:Ps):List Value:=psV text (yZ p.tk).1 (yZ p.tk).2.1 p.at_ 0 p.fin p.opn p.nds 0 0
def Dead (w0 w:World) (R:List HP) (B:Nat) (text:List UInt8) (lo:Nat) (x:Int × Nat):Prop:=x.1≠0∧∃ k n tat te fin o nd:Int,lo≤o∧o≤65∧0≤nd∧nd≤65537∧Sat w0 w (blk B 51 (psV text k n tat te fin o nd x.1 x.2)::R)
def PsB (text:List UInt8) (p:Ps):Prop:=p.opn≤64∧p.nds≤65536∧p.fin≤text.length∧YL p.tk
def aft (w0 w:World) (R:List HP) (B:Nat) (text:List UInt8) (lo:Nat):Rp→Prop
 | .inl x=>Dead w0 w R B text lo x
 | .inr q=>PsB text q∧Sat w0 w (blk B 51 (alV text q)::R)
theorem tokW_bad (w:List UInt8) (e:Int) (h:Kp w=.bad e):e≠0:=by
 unfold Kp at h
 repeat (first|(split at h)|(cases h <;> decide))
theorem xA (text:List UInt8) (k:Nat) (e:Int) (h:(yP text k).tk=.bad e):e≠0:=by
 unfold yP at h
 split at h
 ·cases h
 ·dsimp only at h
  generalize text.drop (Yf text k)=l at h
  unfold Yj at h
  split at h
  ·cases h
  ·split at h
   ·exact tokW_bad _ _ h
   ·split at h
    ·dsimp only at h
     split at h
     ·injection h with h;omega
     ·cases h
    ·split at h
     ·rename_i s hs
      have h3:∀ s∈signs11++signs10,∀ e,s.2≠Tk.bad e:=by
       intro s hs e
       simp only[signs11,signs10,List.cons_append,List.nil_append,List.mem_cons,List.not_mem_nil,or_false] at hs
       rcases hs with rfl|rfl|rfl|rfl|rfl|rfl|rfl|rfl|rfl|rfl|rfl|rfl|rfl|rfl|rfl|rfl|rfl|rfl|rfl|rfl|rfl <;> (intro h;cases h)
      exact(h3 s (List.mem_of_find?_eq_some hs) e h).elim
     ·injection h with h;omega
theorem tokE_ok (t:Tk) (h:¬ ∃ e,t=.bad e):(yZ t).2.2=0:=by
 cases t <;> first|rfl|exact(h ⟨_,rfl⟩).elim
theorem GG (text:List UInt8) (p:Ps) (h:¬ ∃ e,(yP text p.fin).tk=.bad e):yM text p=.inr ⟨(yP text p.fin).tk,(yP text p.fin).at_,(yP text p.fin).fin,p.opn,p.nds⟩:=by
 unfold yM
 generalize yP text p.fin=t at *
 obtain⟨tk,a,f⟩:=t
 cases tk <;> first|rfl|exact(h ⟨_,rfl⟩).elim
theorem uR (text:List UInt8) (p:Ps) (e:Int) (h:(yP text p.fin).tk=.bad e):yM text p=.inl (e,(yP text p.fin).at_):=by
 unfold yM
 generalize yP text p.fin=t at *
 obtain⟨tk,a,f⟩:=t
 dsimp only at h
 subst h
 rfl
set_option maxHeartbeats 2000000 in
theorem uF (B:Nat) (text:List UInt8) (hl:text.length≤1048576) (p:Ps) (hp:PsB text p) (w0 w:World) (hSig:kY w0) (R:List HP) (hbm:YF w0∈R) (hS:Sat w0 w (blk B 51 (alV text p)::R)) :
  Calls Tryz.prog 14 #[.pointer (some ⟨B,0,none⟩)] w fun e w'=>e=.returned (.tuple #[])∧aft w0 w' R B text p.opn (yM text p):=by
 obtain⟨h1,h2,h3,_⟩:=hp
 have htk:=JB text p.fin
 have NC:=fun w Hs hm hS=>nextC text hl p.fin h3 w0 w hSig Hs hm hS
 have hnb:=je text p.fin h3
 have hne:=xA text p.fin
 unfold alV psV at hS
 have hbm2:YF w0∈(blk B 51 [.string ⟨text.toArray⟩,.int .i64 (yZ p.tk).1,.int .i64 (yZ p.tk).2.1,.int .i64 p.at_,.int .i64 0,.int .i64 p.fin,.int .i64 p.opn,.int .i64 p.nds,.int .i64 0,.int .i64 0]::R):=List.mem_cons_of_mem _ hbm
 obtain⟨n1,n2,n3⟩:=hnb
 by_cases hb:∃ e,(yP text p.fin).tk=.bad e
 ·obtain⟨c,hb⟩:=hb
  rw[uR text p c hb]
  generalize yP text p.fin=t at *
  obtain⟨tk,at_,fin⟩:=t
  dsimp only at *
  subst hb
  clear htk
  have hc:=hne c rfl
  have hc2:(c != 0)=true:=by simp[hc]
  have FA:=xq B text 0 0 at_ c fin p.opn p.nds 0 c
  have FA:=fun w R=>FA w0 w R
  unfold psV at FA
  simp only[xg,yZ] at NC
  generalize (yZ p.tk).1=k at *
  generalize (yZ p.tk).2.1=n at *
  go_enter Tryz.func14,Tryz.ntmps14
  go_wp2_with ((first|((with_reducible apply Cont.intro);(first|(focus (apply Or.inr;apply (Sat.sb hS);(repeat (first|with_reducible exact Sb.refl|(with_reducible refine Sb.take (by(repeat (with_reducible apply Rem.tl));done) ?_)|with_reducible apply Sb.skip));done))|(exact Or.inl (by kernel_rfl)));intro hR hC)|((first|((with_reducible apply dP 0 hC hR);(simp only[qL];rfl);decide +kernel;exact iQ;exact ya)|((with_reducible apply dP 1 hC hR);(simp only[qL];rfl);decide +kernel;exact iQ;exact ya)|((with_reducible apply dP 2 hC hR);(simp only[qL];rfl);decide +kernel;exact iQ;exact ya)|((with_reducible apply dP 3 hC hR);(simp only[qL];rfl);decide +kernel;exact iQ;exact ya)|((with_reducible apply dP 6 hC hR);(simp only[qL];rfl);decide +kernel;exact iQ;exact ya)|((with_reducible apply dP 7 hC hR);(simp only[qL];rfl);decide +kernel;exact iQ;exact ya)|((with_reducible apply dP 11 hC hR);(simp only[qL];rfl);decide +kernel;exact iQ;exact ya)|((with_reducible apply dP 12 hC hR);(simp only[qL];rfl);decide +kernel;exact iQ;exact ya)|((with_reducible apply dP 13 hC hR);(simp only[qL];rfl);decide +kernel;exact iQ;exact ya)|((with_reducible apply dP 14 hC hR);(simp only[qL];rfl);decide +kernel;exact iQ;exact ya)|((with_reducible apply dP 17 hC hR);(simp only[qL];rfl);decide +kernel;exact iQ;exact ya));(intro w;first|(go_simp;done)|(go_simp;rw[yo (by omega) (by omega)])|(go_simp;with_reducible rfl)|(go_simp;rfl));(clear hR hC;intro hR hC))|((first|((with_reducible apply dP 4 hC hR);(simp only[qL];rfl);decide +kernel;exact iQ;exact ya)|((with_reducible apply dP 8 hC hR);(simp only[qL];rfl);decide +kernel;exact iQ;exact ya)|((with_reducible apply dP 15 hC hR);(simp only[qL];rfl);decide +kernel;exact iQ;exact ya)|((with_reducible apply dP 18 hC hR);(simp only[qL];rfl);decide +kernel;exact iQ;exact ya));(intro w;first|(exact yz rfl (by(exact yg)) (by assumption) (by with_reducible exact fo51_6))|(go_simp;done)|(go_simp;rw[yo (by omega) (by omega)])|(go_simp;with_reducible rfl)|(go_simp;rfl));(clear hR hC;intro hR hC))|((first|((with_reducible apply dR 5 hC hR);(simp only[qL];rfl);decide +kernel;exact iQ;exact ya)|((with_reducible apply dR 9 hC hR);(simp only[qL];rfl);decide +kernel;exact iQ;exact ya));(intro w hS;(apply yj rfl (by(exact yb rfl)));first|exact yc (by decide +kernel) (hS.cell (by(exact ye)) rfl)|exact yc (by decide +kernel) ((hS.ownCell (by(repeat (with_reducible apply yd))) (by(rfl))).1)|exact yc (by decide +kernel) (Sat.rdCell2 (by assumption) hS (by((repeat (with_reducible apply yd)));try assumption) (by(rfl)))|exact yc (by decide +kernel) (hS.baseCell (by((repeat (with_reducible apply yd)));try assumption) (by assumption))|exact yc (by decide +kernel) (fzC (by assumption) hS (by((repeat (with_reducible apply yd)));try assumption))|exact yl hS (by assumption) (by((repeat (with_reducible apply yd)));try assumption) (by assumption) (by rfl) (by with_reducible exact sz51) (by decide +kernel) (by decide)|exact hS.loadWhole (by(repeat (with_reducible apply yd))) (by kernel_rfl) (by kernel_rfl));(clear hR hC;intro hR hC))|((with_reducible apply yq (i:=10));(simp only[qL];rfl);decide +kernel;exact hC;clear hR hC)|((with_reducible apply yq (i:=16));(simp only[qL];rfl);decide +kernel;exact hC;clear hR hC)|((with_reducible apply yq (i:=19));(simp only[qL];rfl);decide +kernel;exact hC;clear hR hC)|((with_reducible apply ym);decide +kernel;clear hR hC)|(refine yt 1 20 hS (by kernel_rfl) [16,19] rfl ?_;clear hS;intro w hS hR hC)|((with_reducible apply yh hS);exact ya;exact yb rfl;exact ye;rfl;decide +kernel)|((with_reducible apply yy hS);exact ya;exact yb rfl;exact yb rfl;exact ye;rfl;(focus (simp;done));exact Upd.hd;rfl;decide +kernel;clear hS;intro w hS;(try simp only[qS] at hS))|((with_reducible apply yi hS);exact ya;exact yb rfl;exact yb rfl;exact ye;rfl;(focus (simp;done));exact Upd.hd;rfl;exact sz49;rfl;clear hS;intro w hS;(try simp only[yp,qS] at hS))|(go_at_call 42;refine (NC _ _ hbm2 hS).mono ?_;clear hS;rintro e w ⟨rfl,hS⟩)|(go_at_call 43;refine (FA _ _ hS).mono ?_;clear hS;rintro e w ⟨rfl,hS⟩));try simp only[qA])
  go_end0
  exact⟨rfl,hc,_,_,_,_,_,p.opn,p.nds,Int.le_refl _,by omega,by omega,by omega,hS⟩
 ·rw[GG text p hb]
  generalize yP text p.fin=t at *
  obtain⟨tk,at_,fin⟩:=t
  dsimp only at *
  have h0:=tokE_ok tk hb
  have HTK:Hid (YL tk):=hid (htk.resolve_right hb)
  clear hb hne htk
  simp only[xg,h0] at NC
  have HF:Hid (aft w0=aft w0):=hid rfl
  generalize hk:(yZ tk).1=k1 at *
  generalize hn:(yZ tk).2.1=n1 at *
  generalize (yZ p.tk).1=k at *
  generalize (yZ p.tk).2.1=n at *
  have HK:=hid hk
  have HN:=hid hn
  clear hk hn h0
  go_enter Tryz.func14,Tryz.ntmps14
  go_wp2_with ((first|((with_reducible apply Cont.intro);(first|(focus (apply Or.inr;apply (Sat.sb hS);(repeat (first|with_reducible exact Sb.refl|(with_reducible refine Sb.take (by(repeat (with_reducible apply Rem.tl));done) ?_)|with_reducible apply Sb.skip));done))|(exact Or.inl (by kernel_rfl)));intro hR hC)|((first|((with_reducible apply dP 0 hC hR);(simp only[qL];rfl);decide +kernel;exact iQ;exact ya)|((with_reducible apply dP 1 hC hR);(simp only[qL];rfl);decide +kernel;exact iQ;exact ya)|((with_reducible apply dP 2 hC hR);(simp only[qL];rfl);decide +kernel;exact iQ;exact ya)|((with_reducible apply dP 3 hC hR);(simp only[qL];rfl);decide +kernel;exact iQ;exact ya)|((with_reducible apply dP 6 hC hR);(simp only[qL];rfl);decide +kernel;exact iQ;exact ya)|((with_reducible apply dP 7 hC hR);(simp only[qL];rfl);decide +kernel;exact iQ;exact ya)|((with_reducible apply dP 11 hC hR);(simp only[qL];rfl);decide +kernel;exact iQ;exact ya)|((with_reducible apply dP 12 hC hR);(simp only[qL];rfl);decide +kernel;exact iQ;exact ya)|((with_reducible apply dP 13 hC hR);(simp only[qL];rfl);decide +kernel;exact iQ;exact ya)|((with_reducible apply dP 14 hC hR);(simp only[qL];rfl);decide +kernel;exact iQ;exact ya)|((with_reducible apply dP 17 hC hR);(simp only[qL];rfl);decide +kernel;exact iQ;exact ya));(intro w;first|(go_simp;done)|(go_simp;rw[yo (by omega) (by omega)])|(go_simp;with_reducible rfl)|(go_simp;rfl));(clear hR hC;intro hR hC))|((first|((with_reducible apply dP 4 hC hR);(simp only[qL];rfl);decide +kernel;exact iQ;exact ya)|((with_reducible apply dP 8 hC hR);(simp only[qL];rfl);decide +kernel;exact iQ;exact ya)|((with_reducible apply dP 15 hC hR);(simp only[qL];rfl);decide +kernel;exact iQ;exact ya)|((with_reducible apply dP 18 hC hR);(simp only[qL];rfl);decide +kernel;exact iQ;exact ya));(intro w;first|(exact yz rfl (by(exact yg)) (by assumption) (by with_reducible exact fo51_6))|(go_simp;done)|(go_simp;rw[yo (by omega) (by omega)])|(go_simp;with_reducible rfl)|(go_simp;rfl));(clear hR hC;intro hR hC))|((first|((with_reducible apply dR 5 hC hR);(simp only[qL];rfl);decide +kernel;exact iQ;exact ya)|((with_reducible apply dR 9 hC hR);(simp only[qL];rfl);decide +kernel;exact iQ;exact ya));(intro w hS;(apply yj rfl (by(exact yb rfl)));first|exact yc (by decide +kernel) (hS.cell (by(exact ye)) rfl)|exact yc (by decide +kernel) ((hS.ownCell (by(repeat (with_reducible apply yd))) (by(rfl))).1)|exact yc (by decide +kernel) (Sat.rdCell2 (by assumption) hS (by((repeat (with_reducible apply yd)));try assumption) (by(rfl)))|exact yc (by decide +kernel) (hS.baseCell (by((repeat (with_reducible apply yd)));try assumption) (by assumption))|exact yc (by decide +kernel) (fzC (by assumption) hS (by((repeat (with_reducible apply yd)));try assumption))|exact yl hS (by assumption) (by((repeat (with_reducible apply yd)));try assumption) (by assumption) (by rfl) (by with_reducible exact sz51) (by decide +kernel) (by decide)|exact hS.loadWhole (by(repeat (with_reducible apply yd))) (by kernel_rfl) (by kernel_rfl));(clear hR hC;intro hR hC))|((with_reducible apply yq (i:=10));(simp only[qL];rfl);decide +kernel;exact hC;clear hR hC)|((with_reducible apply yq (i:=16));(simp only[qL];rfl);decide +kernel;exact hC;clear hR hC)|((with_reducible apply yq (i:=19));(simp only[qL];rfl);decide +kernel;exact hC;clear hR hC)|((with_reducible apply ym);decide +kernel;clear hR hC)|(refine yt 1 20 hS (by kernel_rfl) [16,19] rfl ?_;clear hS;intro w hS hR hC)|((with_reducible apply yh hS);exact ya;exact yb rfl;exact ye;rfl;decide +kernel)|((with_reducible apply yy hS);exact ya;exact yb rfl;exact yb rfl;exact ye;rfl;(focus (simp;done));exact Upd.hd;rfl;decide +kernel;clear hS;intro w hS;(try simp only[qS] at hS))|((with_reducible apply yi hS);exact ya;exact yb rfl;exact yb rfl;exact ye;rfl;(focus (simp;done));exact Upd.hd;rfl;exact sz49;rfl;clear hS;intro w hS;(try simp only[yp,qS] at hS))|(go_at_call 42;refine (NC _ _ hbm2 hS).mono ?_;clear hS;rintro e w ⟨rfl,hS⟩));try simp only[qA])
  go_end0
  refine ⟨rfl,⟨h1,h2,n2,HTK.out⟩,?_⟩
  unfold alV psV
  rw[HK.out,HN.out]
  exact hS
end
section
set_option maxRecDepth 20000
open Go Go.RowKit Go.SL Go.ClauseP Go.LexP

theorem Dead.mono {w0 w:World} {R:List HP} {B:Nat} {text:List UInt8} {lo lo':Nat} {x:Int × Nat} (h:Dead w0 w R B text lo x) (hl:lo'≤lo):Dead w0 w R B text lo' x:=by
 obtain⟨h0,k,n,tat,te,fin,o,nd,h1,h2⟩:=h
 exact⟨h0,k,n,tat,te,fin,o,nd,by omega,h2⟩
theorem ua (B:Nat) (text:List UInt8) (p:Ps) (hp:PsB text p) (w0 w:World) (R:List HP) (hS:Sat w0 w (blk B 51 (alV text p)::R)) :
  Calls Tryz.prog 75 #[.pointer (some ⟨B,0,none⟩)] w fun e w'=>e=.returned (.tuple #[])∧aft w0 w' R B text p.opn (yC p):=by
 obtain⟨h1,h2,h3⟩:=hp
 unfold alV at hS
 unfold yC
 by_cases ho:p.nds=65536
 ·rw[if_pos ho]
  have FA:=fun w R=>xq B text (yZ p.tk).1 (yZ p.tk).2.1 p.at_ 0 p.fin p.opn 65536 0 8 w0 w R
  rw[ho] at hS
  unfold psV at hS FA
  generalize (yZ p.tk).1=k at *
  generalize (yZ p.tk).2.1=n at *
  go_enter Tryz.func75,Tryz.ntmps75
  go_wp2_with ((first|((with_reducible apply yh hS);exact ya;exact yb rfl;exact ye;rfl;decide +kernel)|((with_reducible apply yy hS);exact ya;exact yb rfl;exact yb rfl;exact ye;rfl;(focus (simp;done));exact Upd.hd;rfl;decide +kernel;clear hS;intro w hS;(try simp only[qS] at hS))|(go_at_call 43;refine (FA _ _ hS).mono ?_;clear hS;rintro e w ⟨rfl,hS⟩));try simp only[qA])
  go_end0
  exact⟨rfl,by show (8:Int)≠0;decide,_,_,_,_,_,(p.opn:Int),(65537:Int),by omega,by omega,by omega,by omega,hS⟩
 ·rw[if_neg ho]
  have ho2:((p.nds:Int) == 65536)=false:=by simp;omega
  unfold psV at hS
  go_enter Tryz.func75,Tryz.ntmps75
  go_wp2_with ((first|((with_reducible apply yh hS);exact ya;exact yb rfl;exact ye;rfl;decide +kernel)|((with_reducible apply yy hS);exact ya;exact yb rfl;exact yb rfl;exact ye;rfl;(focus (simp;done));exact Upd.hd;rfl;decide +kernel;clear hS;intro w hS;(try simp only[qS] at hS)));try simp only[qA])
  go_end0
  exact⟨rfl,⟨h1,by dsimp only;omega,h3⟩,hS⟩
theorem isY (B:Nat) (text:List UInt8) (hl:text.length≤1048576) (p:Ps) (hp:PsB text p) (w0 w:World) (hSig:kY w0) (R:List HP) (hbm:YF w0∈R) (hS:Sat w0 w (blk B 51 (alV text p)::R)) (c:Int) (hc:knd p=c) :
  Calls Tryz.prog 46 #[.pointer (some ⟨B,0,none⟩),.int .i64 c] w fun e w'=>e=.returned (.bool true)∧aft w0 w' R B text p.opn (yM text p):=by
 have AC:=fun w R hbm hS=>uF B text hl p hp w0 w hSig R hbm hS
 subst hc
 unfold knd
 unfold alV psV at hS AC
 generalize yM text p=r at *
 generalize (yZ p.tk).1=k at *
 generalize (yZ p.tk).2.1=n at *
 go_enter Tryz.func46,Tryz.ntmps46
 go_wp2_with (first|((with_reducible apply yh hS);(first|with_reducible exact ya|exact yf rfl rfl);exact yb rfl;exact ye;rfl;decide +kernel;(try simp only[qA]))|(go_at_call 14;refine (AC _ _ hbm hS).mono ?_;clear hS;rintro e w ⟨rfl,hS⟩))
 go_ret
 exact⟨rfl,hS⟩
theorem needC (B:Nat) (text:List UInt8) (hl:text.length≤1048576) (p:Ps) (hp:PsB text p) (w0 w:World) (hSig:kY w0) (R:List HP) (hbm:YF w0∈R) (hS:Sat w0 w (blk B 51 (alV text p)::R)) (c:Int) :
  Calls Tryz.prog 16 #[.pointer (some ⟨B,0,none⟩),.int .i64 c] w fun e w'=>e=.returned (.tuple #[])∧aft w0 w' R B text p.opn (yL text c p):=by
 unfold yL
 by_cases hc:knd p=c
 ·rw[if_pos hc]
  have IY:=fun w R hbm hS=>isY B text hl p hp w0 w hSig R hbm hS c hc
  subst hc
  unfold knd at *
  unfold alV psV at hS IY
  generalize yM text p=r at *
  generalize (yZ p.tk).1=k at *
  generalize (yZ p.tk).2.1=n at *
  go_enter Tryz.func16,Tryz.ntmps16
  go_wp2_with (first|((with_reducible apply yh hS);(first|with_reducible exact ya|exact yf rfl rfl);exact yb rfl;exact ye;rfl;decide +kernel;(try simp only[qA]))|(go_at_call 46;refine (IY _ _ hbm hS).mono ?_;clear hS;rintro e w ⟨rfl,hS⟩))
  go_end0
  exact⟨rfl,hS⟩
 ·rw[if_neg hc]
  obtain⟨h1,h2,h3⟩:=hp
  have FA:=fun w R=>xq B text (yZ p.tk).1 (yZ p.tk).2.1 p.at_ 0 p.fin p.opn p.nds 0 131 w0 w R
  have ID:=fun w R=>isD B text (yZ p.tk).1 (yZ p.tk).2.1 p.at_ 0 p.fin p.opn p.nds 131 p.at_ c (by decide) w0 w R
  unfold knd at hc
  unfold alV psV at hS
  unfold psV at FA ID
  generalize (yZ p.tk).1=k at *
  generalize (yZ p.tk).2.1=n at *
  have hc2:(k != c)=true:=by simp[hc]
  go_enter Tryz.func16,Tryz.ntmps16
  go_wp2_with (first|((with_reducible apply yh hS);(first|with_reducible exact ya|exact yf rfl rfl);exact yb rfl;exact ye;rfl;decide +kernel;(try simp only[qA]))|(go_at_call 43;refine (FA _ _ hS).mono ?_;clear hS;rintro e w ⟨rfl,hS⟩)|(go_at_call 46;refine (ID _ _ hS).mono ?_;clear hS;rintro e w ⟨rfl,hS⟩))
  go_end0
  exact⟨rfl,by show (131:Int)≠0;decide,_,_,_,_,_,(p.opn:Int),(p.nds:Int),by omega,by omega,by omega,by omega,hS⟩
end
section
set_option maxRecDepth 20000
open Go Go.RowKit Go.SL Go.ClauseP Go.LexP

def meas (text:List UInt8) (p:Ps):Nat:=if knd p=0 then 0 else text.length+1 - p.fin
theorem Jo (text:List UInt8) (k:Nat) (hk:k≤text.length):(yP text k).tk=.fin∨k < (yP text k).fin:=by
 obtain⟨h1,h2⟩:=UK text k hk
 unfold yP
 split
 ·exact .inl rfl
 ·rename_i h
  have:=Uy (text.drop (Yf text k)) (by
   intro e
   have:=congrArg List.length e
   rw[List.length_drop] at this
   simp at this
   omega)
  exact .inr (by dsimp only;omega)
theorem KV {text:List UInt8} {p q:Ps} (h:yM text p=.inr q):q=⟨(yP text p.fin).tk,(yP text p.fin).at_,(yP text p.fin).fin,p.opn,p.nds⟩:=by
 by_cases hb:∃ e,(yP text p.fin).tk=.bad e
 ·obtain⟨e,hb⟩:=hb
  rw[uR text p e hb] at h
  cases h
 ·rw[GG text p hb] at h
  injection h with h
  exact h.symm
theorem KX {text:List UInt8} {p q:Ps} (hp:PsB text p) (hk:knd p≠0) (h:yM text p=.inr q):meas text q < meas text p∧q.opn=p.opn∧q.nds=p.nds:=by
 obtain rfl:=KV h
 refine ⟨?_,rfl,rfl⟩
 have h3:=hp.2.2.1
 unfold meas
 rw[if_neg hk]
 have hb:=je text p.fin h3
 rcases Jo text p.fin h3 with hf|hf
 ·rw[if_pos (by unfold knd;dsimp only;rw[hf];rfl)]
  omega
 ·split
  ·omega
  ·dsimp only;omega
def IfV (v:Value):Prop:=v=.nilIface∨∃ K b,v=.iface K (.pointer (some ⟨b,0,none⟩))
def okR (w0 w:World) (R:List HP) (H:Hp) (B:Nat) (text:List UInt8) (p:Ps) (v:Value):Rt→Prop
 | .inl x=>IfV v∧∃ H',Ext H H'∧Dead w0 w (fz H'::R) B text p.opn x
 | .inr (t,q)=>PsB text q∧q.opn=p.opn∧meas text q≤meas text p∧p.nds+size t≤q.nds∧okT t∧∃ H',Ext H H'∧InT H' t v∧Sat w0 w (blk B 51 (alV text q)::fz H'::R)
def LvA (text:List UInt8) (f b n:Nat):Prop:=∀ (B:Nat) (p:Ps) (w0 w:World) (R:List HP) (H:Hp),PsB text p→meas text p≤n→kY w0→YF w0∈R→Sat w0 w (blk B 51 (alV text p)::fz H::R) →
 Calls Tryz.prog f #[.pointer (some ⟨B,0,none⟩)] w fun e w'=>∃ v,e=.returned v∧∃ r,RD text (.lvl b) p r∧okR w0 w' R H B text p v r
def LvD (text:List UInt8) (f:Nat):Prop:=∀ (B:Nat) (k n tat te fin o nd d a:Int) (w0 w:World) (R:List HP),d≠0→Sat w0 w (blk B 51 (psV text k n tat te fin o nd d a)::R) →
 Calls Tryz.prog f #[.pointer (some ⟨B,0,none⟩)] w fun e w'=>e=.returned .nilIface∧Sat w0 w' (blk B 51 (psV text k n tat te fin o nd d a)::R)
def Jf (text:List UInt8) (B:Nat) (w:World):Nat:=match w.cell? ⟨B,8,none⟩,w.cell? ⟨B,1,none⟩,w.cell? ⟨B,5,none⟩ with
 | some (.int _ e),some (.int _ k),some (.int _ f)=>if e≠0 then 0 else (if k=0 then 0 else text.length+1 - f.toNat)+1
 | _,_,_=>0
theorem kf {text:List UInt8} {B:Nat} {w0 w:World} {Hs:List HP} {q:Ps} (hS:Sat w0 w Hs) (hm:blk B 51 (alV text q)∈Hs):Jf text B w=meas text q+1:=by
 have h8:=hS.cell hm (show (alV text q)[8]?=some (.int .i64 0) from rfl)
 have h1:=hS.cell hm (show (alV text q)[1]?=some (.int .i64 (yZ q.tk).1) from rfl)
 have h5:=hS.cell hm (show (alV text q)[5]?=some (.int .i64 q.fin) from rfl)
 unfold Jf meas knd
 rw[h8,h1,h5]
 simp
theorem Yg {text:List UInt8} {B:Nat} {w0 w:World} {Hs:List HP} {k n tat te fin o nd d a:Int} (hd:d≠0) (hS:Sat w0 w Hs) (hm:blk B 51 (psV text k n tat te fin o nd d a)∈Hs):Jf text B w=0:=by
 have h8:=hS.cell hm (show (psV text k n tat te fin o nd d a)[8]?=some (.int .i64 d) from rfl)
 have h1:=hS.cell hm (show (psV text k n tat te fin o nd d a)[1]?=some (.int .i64 k) from rfl)
 have h5:=hS.cell hm (show (psV text k n tat te fin o nd d a)[5]?=some (.int .i64 fin) from rfl)
 unfold Jf
 rw[h8,h1,h5]
 simp[hd]
end
end Go.Proofs.YteopodbkhgcpmaaGreatDoor
