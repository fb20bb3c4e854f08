/- A part of the proof: Byt Cl3 Spot Cl4 Lex Lx1 Lx2. -/
import Derived.Test.YteopodbkhgcpmaaGreatDoorM1
import Derived.Test.YteopodbkhgcpmaaGreatDoorM2
import Derived.Test.YteopodbkhgcpmaaGreatDoorM3
import Derived.Lib.ConvBytes
import Derived.Lib.LastIndexByte
set_option linter.unusedSimpArgs false
set_option linter.unusedVariables false
set_option linter.unusedSectionVars false
namespace Go.SL
section
open Go Go.RowKit
section
variable {P:Program} {ops:Array Oper} {Q:Exit→Act→World→Prop} {rest:List Oper} {a:Act} {w w0:World} {Hs:List HP}
theorem Sat.newPt {w':World} {o:Obj} (hS:Sat w0 w Hs) (hos:w'.os=w.os) (htp:w'.tape=w.tape) (hou:w'.output=w.output) (hsz:w.heap.size≤w'.heap.size) (hnew:w'.heap[w.heap.size]?=some o)
  (hold:∀ b,b < w.heap.size→w'.heap[b]?=w.heap[b]?):Sat w0 w' (pt w.heap.size o::Hs):=by
 have h0:Sat w0 w (SL.emp::Hs):=hS.emp fun _=>rfl
 refine h0.step hos htp hou hsz fun g hg _=>⟨fun c=>if c=w.heap.size then some o else none,fun c=>rfl,fun b o' hb=>?_,fun b hb=>.inr ?_,fun b hb _=>hold b hb⟩
 ·by_cases hbs:b=w.heap.size
  ·simp[hbs] at hb;subst hb;rw[hbs];exact hnew
  ·simp[hbs] at hb
 ·by_cases hbs:b=w.heap.size
  ·omega
  ·simp[hbs] at hb
theorem uG {o:Oper} {s d:TypeId} {x:Operand} (ho:o.op=.convert s d x) {ρ:Operand→Value} {v:Value} {w':World} (hr:(convert s d (ρ x)).run P w=.ok v w'):(execOp ρ o).run P w=.ok (.value v) w':=by
 simp[execOp,ho,hr]
theorem XE {dst:Option Tmp} {src d e:TypeId} {x:Operand} {ty:TypeId} {pos:String} {after:Array Edge} {gd:Option (Nat × Bool)} (hS:Sat w0 w Hs)
  (hw:Region.wanted ⟨dst,.convert src d x,ty,pos,after,gd⟩ (yielded ops a.tmps)=true) {l:List UInt8} (hx:a.eval x=.string ⟨l.toArray⟩) {bytes:Nat} (E:ElemTy P d e 1 bytes) (hs:(P.underlying src).isSome=true)
  (he:P.underlying e=some (.int .u8)) (K:∀ (A:HP) (ad:Option Addr) (cap:Nat) (w':World),Rd A ad (Bs l)→(∃ aa,ad=some aa∧aa.spot=none)→Sat w0 w' (A::Hs)→wpList P ops Q rest (a.put dst (.slice ad l.length cap)) w') :
  wpList P ops Q (⟨dst,.convert src d x,ty,pos,after,gd⟩::rest) a w:=by
 obtain⟨u,hu⟩:=Option.isSome_iff_exists.1 hs
 have hr:=Lib.run_convert_string_bytes (P:=P) w src d e ⟨l.toArray⟩ hu E.ht he
 refine yW hw (uG rfl (by rw[hx];exact hr)) ?_
 have hsz:(⟨l.toArray⟩:ByteArray).size=l.length:=by simp[ByteArray.size]
 have hS2:=hS.newPt (w':=Lib.bytesWorld w e ⟨l.toArray⟩) (o:=.cells (Lib.bytesCells w e ⟨l.toArray⟩) e ((Lib.bytesCells w e ⟨l.toArray⟩).size,(Lib.bytesCells w e ⟨l.toArray⟩).size+1)) rfl rfl rfl
  (by rw[Lib.bytesWorld_size];omega) (Lib.bytesWorld_at_new w e _) (fun b hb=>Lib.bytesWorld_at_old w e _ b hb)
 have hK:=K _ (some ⟨w.heap.size,0,none⟩) (grownCap w l.length 0 e) _ ?_ ⟨_,rfl,rfl⟩ hS2
 ·rw[hsz];exact hK
 ·intro w2 h hA hw2 j v hv
  refine ⟨⟨_,rfl,rfl⟩,?_⟩
  have hb:=hw2 w.heap.size _ (by rw[hA w.heap.size,if_pos rfl])
  have hlt:j < l.length:=by
   have:=(List.getElem?_eq_some_iff.1 hv).1
   rwa [KU] at this
  simp only[adr,Option.getD_some,KM,Nat.zero_add]
  simp only[World.cell?,hb]
  have:(Lib.bytesCells w e ⟨l.toArray⟩)[j]?=some v:=by
   simp only[Bs,List.getElem?_map] at hv
   rw[Lib.bytesCells,Array.getElem?_append_left (by simpa using hlt)]
   simpa [Array.getElem?_map] using hv
  simp[this]
end
end
end Go.SL
namespace Go.Proofs.YteopodbkhgcpmaaGreatDoor
section
set_option maxRecDepth 20000
open Go Go.RowKit Go.SL Go.ClauseP
theorem KH (c:UInt8):(Yc c=true→(48:Int)≤(c.toNat:Int)∧(c.toNat:Int)≤57)∧(Yc c=false→(c.toNat:Int) < 48∨57 < (c.toNat:Int)):=by
 constructor
 ·intro h;have:=uJ h;omega
 ·intro h
  by_cases h2:48≤c.toNat∧c.toNat≤57
  ·have:Yc c=true:=by simp only[Yc,Bool.and_eq_true,decide_eq_true_eq,UInt8.le_iff_toNat_le];exact h2
   rw[this] at h;cases h
  ·omega
theorem Ue (c:UInt8) (w0 w:World) (Hs:List HP) (hS:Sat w0 w Hs):Calls Tryz.prog 82 #[.int .u8 c.toNat] w fun e w'=>e=.returned (.bool (Yc c))∧Sat w0 w' Hs:=by
 obtain⟨h1,h2⟩:=KH c
 cases hd:Yc c with
 | true =>
  obtain⟨a,b⟩:=h1 hd
  clear h1 h2 hd
  generalize (c.toNat:Int)=n at *
  go_enter Tryz.func82,Tryz.ntmps82
  go_wp2
  go_ret
  exact⟨rfl,hS⟩
 | false =>
  have h:=h2 hd
  clear h1 h2 hd
  generalize (c.toNat:Int)=n at *
  by_cases h48:n < 48
  ·have e1:decide ((48:Int)≤n)=false:=by simp;omega
   go_enter Tryz.func82,Tryz.ntmps82
   go_wp2
   go_ret
   exact⟨rfl,hS⟩
  ·have h57:decide (n≤57)=false:=by simp;omega
   have h48':48≤n:=by omega
   clear h h48
   go_enter Tryz.func82,Tryz.ntmps82
   go_wp2
   go_ret
   exact⟨rfl,hS⟩
theorem jF (c:UInt8) (w0 w:World) (Hs:List HP) (hS:Sat w0 w Hs):Calls Tryz.prog 56 #[.int .u8 c.toNat] w fun e w'=>e=.returned (.bool (Yc c))∧Sat w0 w' Hs:=by
 obtain⟨h1,h2⟩:=KH c
 cases hd:Yc c with
 | true =>
  obtain⟨a,b⟩:=h1 hd
  clear h1 h2 hd
  generalize (c.toNat:Int)=n at *
  go_enter Tryz.func56,Tryz.ntmps56
  go_wp2
  go_ret
  exact⟨rfl,hS⟩
 | false =>
  have h:=h2 hd
  clear h1 h2 hd
  generalize (c.toNat:Int)=n at *
  by_cases h48:n < 48
  ·have e1:decide ((48:Int)≤n)=false:=by simp;omega
   go_enter Tryz.func56,Tryz.ntmps56
   go_wp2
   go_ret
   exact⟨rfl,hS⟩
  ·have h57:decide (n≤57)=false:=by simp;omega
   have h48':48≤n:=by omega
   clear h h48
   go_enter Tryz.func56,Tryz.ntmps56
   go_wp2
   go_ret
   exact⟨rfl,hS⟩
theorem YD (L:List UInt8) (k:Nat) (c:UInt8) (h:L[k]?=some c):∃ hp:k < (⟨L.toArray⟩:ByteArray).size,(⟨L.toArray⟩:ByteArray)[k]'hp=c:=by
 obtain⟨h1,h2⟩:=List.getElem?_eq_some_iff.1 h
 exact⟨by simpa [ByteArray.size] using h1,by simpa [ByteArray.getElem_eq_getElem_data] using h2⟩
theorem KZ (most:Nat) (hm:most≤2147483647) (s:List UInt8) (hs:s.length≤140737488351232) (w0 w:World) (Hs:List HP) (hS:Sat w0 w Hs) :
  Calls Tryz.prog 53 #[.string ⟨s.toArray⟩,.int .i64 most] w fun e w'=>e=.returned (.int .i64 (Yv most s))∧Sat w0 w' Hs:=by
 cases h0:s.head? with
 | none =>
  obtain rfl:s=[]:=by cases s with|nil=>rfl|cons a b=>cases h0
  rw[Kg]
  clear h0
  go_enter Tryz.func53,Tryz.ntmps53
  go_wp2
  go_ret
  exact⟨rfl,hS⟩
 | some c0 =>
  have hne:s.isEmpty=false:=by cases s with|nil=>cases h0|cons a b=>rfl
  have hnn:s≠[]:=by intro e;rw[e] at hne;cases hne
  have hp:0 < s.length:=List.length_pos_iff.2 hnn
  by_cases h10:10 < s.length
  ·rw[numM_long (by omega) h10]
   have hl:(10:Int) < (s.length:Int):=by omega
   clear h0 hnn
   go_enter Tryz.func53,Tryz.ntmps53
   go_wp2
   go_ret
   exact⟨rfl,hS⟩
  ·obtain⟨hp0,hcb⟩:=YD s 0 c0 (by rw[← List.head?_eq_getElem?];exact h0)
   have e48:=YW c0 48 48 rfl
   have hle:(s.length:Int)≤10:=by omega
   by_cases hz:1 < s.length∧s.head?=some 48
   ·rw[jX hz.1 hz.2]
    have hl1:(1:Int) < (s.length:Int):=by omega
    have hc0:c0=48:=by rw[h0] at hz;simpa using hz.2
    rw[hc0] at e48
    rw[hc0] at hcb
    clear h0 h10 hz hc0 hnn
    go_enter Tryz.func53,Tryz.ntmps53
    go_wp2
    go_ret
    exact⟨rfl,hS⟩
   ·have DG:=fun c=>Ue c w0
    have hN:=fun h=>jf (most:=most) hnn hz h
    have hF:=Ur (most:=most) (s:=s)
    obtain⟨R,hR⟩:∃ R,R=Yv most s:=⟨_,rfl⟩
    rw[← hR] at hN hF ⊢
    have HN:=hid hN
    have HF:=hid hF
    clear hN hF hR
    have hlen:s.length≤10:=by omega
    have main:(decide ((1:Int) < (s.length:Int))=false∨((1:Int) < (s.length:Int)∧((c0.toNat:Int) == 48)=false))→Calls Tryz.prog 53 #[.string ⟨s.toArray⟩,.int .i64 most] w fun e w'=>e=.returned (.int .i64 R)∧Sat w0 w' Hs:=by
     clear e48 hz h0 h10 hnn
     intro hcase
     rcases hcase with hcase|⟨hcase,hcase2⟩
     all_goals
      go_enter Tryz.func53,Tryz.ntmps53
      go_wp2_with ((with_reducible apply XE hS);exact ya;exact yb rfl;exact E92;kernel_rfl;kernel_rfl;clear hS;intro AB AD CAP w RDB NNB hS;(try simp only[qA]))
      go_loopw [5,28] (fun n i wr=>∃ k v:Nat,i=.int .i64 k∧k≤s.length∧n=.int .i64 v∧(v:Int) < 10 ^ k∧Hid (v=Ko 0 (s.take k)∧(s.take k).all Yc=true)∧Sat w0 wr (AB::Hs)) (fun _ i _=>s.length - (intOf i).toNat)
      case atStart=>exact⟨0,0,rfl,Nat.zero_le _,rfl,by decide,hid ⟨rfl,rfl⟩,hS⟩
      case round =>
       clear hS
       obtain⟨k,v,rfl,hk,rfl,hv,HV,hS⟩:=hrel
       by_cases hlt:k < s.length
       ·obtain⟨c,hc⟩:∃ c,s[k]?=some c:=⟨_,List.getElem?_eq_getElem hlt⟩
        have hbs:=Bs_at hc
        have HC:=hid hc
        have hv10:(v:Int) < 10000000000:=by
         have h1:(10:Int) ^ k≤10 ^ 10:=by exact_mod_cast Nat.pow_le_pow_right (n:=10) (by decide) (by omega)
         have h2:(10:Int) ^ 10=10000000000:=by decide
         omega
        have HVP:=hid hv
        clear hc hv
        have DC:=DG c
        cases hd:Yc c with
        | true =>
         rw[hd] at DC
         obtain⟨d1,d2⟩:=(KH c).1 hd
         have HD:=hid hd
         clear hd
         go_wp2_with ((first|((with_reducible apply yn);exact ya;exact yb rfl;exact yb rfl;exact E92;(omega);(omega);(exact Sat.rdAd2 (by assumption) hS (by((exact ye));try assumption) (by(simp only[kx,KU,List.length_take,List.length_drop];omega)));(simp only[qN];rfl))|((with_reducible apply yF);exact ya;exact yb rfl;(exact Sat.rdCell2 (by assumption) hS (by((exact ye));try assumption) (by(assumption)));decide +kernel)|(go_at_call 82;refine (DC _ _ hS).mono ?_;clear hS;rintro e w ⟨rfl,hS⟩));try simp only[qA])
         go_roundw
         case rel =>
          refine ⟨k+1,10*v+(c.toNat - 48),by go_num,by omega,?_,?_,hid ?_,hS⟩
          ·go_num
          ·have h1:=HVP.out
           rw[Int.pow_succ]
           generalize (10:Int) ^ k=p at *
           omega
          ·have ht:s.take (k+1)=s.take k++[c]:=by rw[List.take_add_one,HC.out];rfl
           rw[ht,ul,List.all_append,HV.out.2,← HV.out.1]
           simp[HD.out]
         case measure=>simp[intOf];omega
        | false =>
         rw[hd] at DC
         have HD:=hid hd
         clear hd
         go_wp2_with ((first|((with_reducible apply yn);exact ya;exact yb rfl;exact yb rfl;exact E92;(omega);(omega);(exact Sat.rdAd2 (by assumption) hS (by((exact ye));try assumption) (by(simp only[kx,KU,List.length_take,List.length_drop];omega)));(simp only[qN];rfl))|((with_reducible apply yF);exact ya;exact yb rfl;(exact Sat.rdCell2 (by assumption) hS (by((exact ye));try assumption) (by(assumption)));decide +kernel)|(go_at_call 82;refine (DC _ _ hS).mono ?_;clear hS;rintro e w ⟨rfl,hS⟩));try simp only[qA])
         go_ret
         have:R=-1:=HF.out (by
          rw[List.all_eq_false]
          exact⟨c,List.mem_of_getElem? HC.out,by rw[HD.out];simp⟩)
         exact⟨by rw[this];rfl,hS.sb (by(repeat (with_reducible first|exact Sb.refl|apply Sb.skip)))⟩
       ·have hke:k=s.length:=by omega
        subst hke
        have HV2:=HV.out
        rw[List.take_length] at HV2
        have hR:=HN.out HV2.2
        rw[← HV2.1] at hR
        by_cases hgt:most < v
        ·rw[if_pos hgt] at hR
         have HR:=hid hR
         have hgt2:(most:Int) < (v:Int):=by omega
         clear hR HV2
         go_wp2
         go_ret
         exact⟨by rw[HR.out];rfl,hS.sb (by(repeat (with_reducible first|exact Sb.refl|apply Sb.skip)))⟩
        ·rw[if_neg hgt] at hR
         have HR:=hid hR
         have hgt2:(v:Int)≤(most:Int):=by omega
         clear hR HV2
         go_wp2
         go_ret
         exact⟨by rw[HR.out];rfl,hS.sb (by(repeat (with_reducible first|exact Sb.refl|apply Sb.skip)))⟩
    refine main ?_
    by_cases h:1 < s.length
    ·refine .inr ⟨by omega,?_⟩
     rw[e48]
     have:¬ c0=48:=fun e=>hz ⟨h,by rw[h0,e]⟩
     simp[this]
    ·exact .inl (by simp;omega)
theorem Gv (s:List UInt8):Lib.hasPrefix s [45]=(s.head? == some 45)∧Lib.trimPrefix s [45]=if s.head?=some 45 then s.drop 1 else s:=by
 cases s with
 | nil=>simp[Lib.trimPrefix,Lib.hasPrefix]
 | cons c cs =>
  by_cases h:c=45
  ·subst h;simp[Lib.trimPrefix,Lib.hasPrefix]
  ·have h2:(45 == c)=false:=by simp;exact fun e=>h e.symm
   have h3:(c == 45)=false:=by simp[h]
   simp[Lib.trimPrefix,Lib.hasPrefix,List.isPrefixOf,h,h2,h3]
def jC (o:Option Int):Int × Bool:=match o with|none=>(0,false)|some n=>(n,true)
theorem literalC (s:List UInt8) (hs:s.length≤140737488351232) (w0 w:World) (Hs:List HP) (hS:Sat w0 w Hs) :
  Calls Tryz.prog 54 #[.string ⟨s.toArray⟩] w fun e w'=>e=.returned (.tuple #[.int .i64 (jC (jc s)).1,.bool (jC (jc s)).2])∧Sat w0 w' Hs:=by
 have CP:=Tryz.strings_CutPrefix ⟨s.toArray⟩ ⟨#[45]⟩
 obtain⟨t1,t2⟩:=Gv s
 have D1:=fun w=>KZ 2147483647 (by omega) s hs w0 w
 have D2:=fun w=>KZ 2147483647 (by omega) (s.drop 1) (by rw[List.length_drop];omega) w0 w
 have b1:=km 2147483647 s
 have b2:=km 2147483647 (s.drop 1)
 obtain⟨r,hr⟩:∃ r,r=jC (jc s):=⟨_,rfl⟩
 rw[← hr]
 unfold jc jC at hr
 simp only[List.toList_toArray] at CP
 rw[t1,t2] at CP
 clear t1 t2
 by_cases hm:s.head?=some 45
 ·rw[if_pos hm] at CP
  rw[if_pos hm] at hr
  rw[show (s.head? == some 45)=true by simp[hm]] at CP
  clear D1 b1 hm
  generalize s.drop 1=t at *
  generalize Yv 2147483647 t=n at *
  by_cases h0:n < 0
  ·rw[if_pos (by omega)] at hr
   subst hr
   go_enter Tryz.func54,Tryz.ntmps54
   go_wp2_with (first|(go_at_call 83;refine (CP _).mono ?_;rintro e w' ⟨rfl,rfl⟩)|(go_at_call 53;refine (D2 _ _ hS).mono ?_;clear hS;rintro e w ⟨rfl,hS⟩))
   go_ret2
   exact⟨rfl,hS⟩
  ·by_cases hz:n=0
   ·rw[if_pos (by omega)] at hr
    subst hr
    subst hz
    go_enter Tryz.func54,Tryz.ntmps54
    go_wp2_with (first|(go_at_call 83;refine (CP _).mono ?_;rintro e w' ⟨rfl,rfl⟩)|(go_at_call 53;refine (D2 _ _ hS).mono ?_;clear hS;rintro e w ⟨rfl,hS⟩))
    go_ret2
    exact⟨rfl,hS⟩
   ·rw[if_neg (by omega)] at hr
    subst hr
    have e0:(n == 0)=false:=by simp[hz]
    have hge:0≤n:=by omega
    clear h0 hz
    go_enter Tryz.func54,Tryz.ntmps54
    go_wp2_with (first|(go_at_call 83;refine (CP _).mono ?_;rintro e w' ⟨rfl,rfl⟩)|(go_at_call 53;refine (D2 _ _ hS).mono ?_;clear hS;rintro e w ⟨rfl,hS⟩))
    go_ret2
    exact⟨rfl,hS⟩
 ·rw[if_neg hm] at CP
  rw[if_neg hm] at hr
  rw[show (s.head? == some 45)=false by simp[hm]] at CP
  clear D2 b2 hm
  generalize Yv 2147483647 s=n at *
  by_cases h0:n < 0
  ·rw[if_pos (by omega)] at hr
   subst hr
   go_enter Tryz.func54,Tryz.ntmps54
   go_wp2_with (first|(go_at_call 83;refine (CP _).mono ?_;rintro e w' ⟨rfl,rfl⟩)|(go_at_call 53;refine (D1 _ _ hS).mono ?_;clear hS;rintro e w ⟨rfl,hS⟩))
   go_ret2
   exact⟨rfl,hS⟩
  ·rw[if_neg (by omega)] at hr
   subst hr
   have hge:0≤n:=by omega
   clear h0
   go_enter Tryz.func54,Tryz.ntmps54
   go_wp2_with (first|(go_at_call 83;refine (CP _).mono ?_;rintro e w' ⟨rfl,rfl⟩)|(go_at_call 53;refine (D1 _ _ hS).mono ?_;clear hS;rintro e w ⟨rfl,hS⟩))
   go_ret2
   exact⟨rfl,hS⟩
end
section
set_option maxRecDepth 20000
open Go Go.RowKit Go.SL Go.ClauseP

def jl (t:List UInt8):Nat × Nat:=t.foldl (fun p c=>if c=10 then (p.1+1,1) else (p.1,p.2+1)) (1,1)
def Yt (s:List UInt8) (k:Nat):Nat × Nat:=jl (s.take k)
theorem UL (t:List UInt8) (c:UInt8):jl (t++[c])=if c=10 then ((jl t).1+1,1) else ((jl t).1,(jl t).2+1):=by simp[jl]
theorem spot_succ {s:List UInt8} {k:Nat} {c:UInt8} (h:s[k]?=some c):Yt s (k+1)=if c=10 then ((Yt s k).1+1,1) else ((Yt s k).1,(Yt s k).2+1):=by
 rw[Yt,List.take_add_one,h]
 exact UL _ _
theorem uy (t:List UInt8) (c:UInt8) (z:Int):∀ k,k≤t.length→Lib.lastIdx ⟨(t++[c]).toArray⟩ z k=Lib.lastIdx ⟨t.toArray⟩ z k
 | 0,_=>rfl
 | k+1,h=>by
  have e:(⟨(t++[c]).toArray⟩:ByteArray).data[k]! = (⟨t.toArray⟩:ByteArray).data[k]!:=by
   have h1:k < t.length:=by omega
   have h2:k < (t++[c]).length:=by simp;omega
   have e1:(t++[c])[k]?=some t[k]:=by rw[List.getElem?_append_left h1];exact List.getElem?_eq_getElem h1
   simp[getElem!_pos,h1,h2,e1]
  unfold Lib.lastIdx
  rw[e,uy t c z k (by omega)]
theorem gt:∀ (n:Nat) (t:List UInt8),t.length=n→((jl t).1=1+t.count 10∧((jl t).2:Int)=t.length - Lib.lastIdx ⟨t.toArray⟩ 10 t.length)
 | 0,t,h=>by
  obtain rfl:t=[]:=List.length_eq_zero_iff.1 h
  exact⟨rfl,rfl⟩
 | n+1,t,h=>by
  have hne:t≠[]:=by intro e;rw[e] at h;cases h
  obtain⟨u,c,rfl⟩:∃ u c,t=u++[c]:=⟨t.dropLast,t.getLast hne,(List.dropLast_concat_getLast hne).symm⟩
  have hu:u.length=n:=by simpa using h
  obtain⟨i1,i2⟩:=gt n u hu
  have hlast:(⟨(u++[c]).toArray⟩:ByteArray).data[u.length]! = c:=by simp
  have hl:(u++[c]).length=u.length+1:=by simp
  rw[UL,hl]
  unfold Lib.lastIdx
  rw[hlast,uy u c 10 u.length (Nat.le_refl _)]
  by_cases h10:c=10
  ·subst h10
   refine ⟨by simp[i1];omega,by simp;omega⟩
  ·have hc:¬ ((c.toNat:Int)=10):=fun e=>h10 (UInt8.toNat_inj.1 (by have:(10:UInt8).toNat=10:=rfl;omega))
   rw[if_neg h10,if_neg hc]
   refine ⟨by simp[i1,h10],?_⟩
   simp only
   rw[Int.natCast_add,i2]
   omega
theorem spot_bd (s:List UInt8) (k:Nat):(Yt s k).1≤1+k∧(Yt s k).2≤1+k:=by
 have:∀ t:List UInt8,(jl t).1≤1+t.length∧(jl t).2≤1+t.length:=by
  intro t
  have:∀ (t:List UInt8) (p:Nat × Nat),(t.foldl (fun p c=>if c=10 then (p.1+1,1) else (p.1,p.2+1)) p).1≤p.1+t.length∧(t.foldl (fun(p:Nat × Nat) c=>if c=10 then (p.1+1,1) else (p.1,p.2+1)) p).2≤max p.2 1+t.length:=by
   intro t
   induction t with
   | nil=>intro p;simp;omega
   | cons c t ih =>
    intro p
    simp only[List.foldl_cons,List.length_cons]
    split
    ·have:=ih (p.1+1,1);simp only at this;omega
    ·have:=ih (p.1,p.2+1);simp only at this;omega
  have:=this t (1,1)
  simpa [jl] using this
 have h:=this (s.take k)
 have:(s.take k).length≤k:=List.length_take_le _ _
 unfold Yt
 omega
theorem placeC (text:List UInt8) (k:Nat) (hk:k≤text.length) (hl:text.length≤1048576) (w0 w:World) (Hs:List HP) (hS:Sat w0 w Hs) :
  Calls Tryz.prog 17 #[.string ⟨text.toArray⟩,.int .i64 k] w fun e w'=>e=.returned (.agg #[.int .i64 ((Yt text k).1:Int),.int .i64 ((Yt text k).2:Int)])∧Sat w0 w' Hs:=by
 obtain⟨p1,p2⟩:=gt _ (text.take k) rfl
 have ht:(text.take k).length=k:=by rw[List.length_take];omega
 obtain⟨b1,b2⟩:=spot_bd text k
 rw[ht] at p2
 have hex:(⟨text.toArray⟩:ByteArray).extract 0 k=⟨(text.take k).toArray⟩:=by
  apply ByteArray.ext
  simp[ByteArray.data_extract,List.extract_eq_take_drop]
 have CN:=Tryz.strings_Count_one ⟨(text.take k).toArray⟩ 10
 have LI:=Tryz.strings_LastIndexByte ⟨(text.take k).toArray⟩ 10 (by simp[ByteArray.size];omega)
 simp only[List.toList_toArray] at CN
 unfold Lib.lastIndexByte at LI
 rw[show (⟨(text.take k).toArray⟩:ByteArray).size=k by simp[ByteArray.size];omega] at LI
 unfold Lib.countByte at CN
 unfold Yt at b1 b2 ⊢
 generalize (jl (text.take k)).1=a at *
 generalize (jl (text.take k)).2=b at *
 generalize hq:Lib.lastIdx ⟨(text.take k).toArray⟩ 10 k=q at *
 generalize hz:(text.take k).count 10=z at *
 have E1:=hid (show (1:Int)+(z:Int)=(a:Int) by omega)
 have E2:=hid (show (k:Int) - q=(b:Int) by omega)
 have q1:-1≤q:=by
  rcases Lib.lastIdx_spec ⟨(text.take k).toArray⟩ 10 k with h|⟨i,_,h,_⟩ <;> omega
 have q2:q≤k:=by omega
 have z1:(z:Int)≤1048576:=by omega
 rw[← hex] at CN LI
 clear p1 p2 hq hz hex ht
 have hkl:(k:Int)≤(text.length:Int):=by omega
 go_enter Tryz.func17,Tryz.ntmps17
 go_wp2_with ((first|((with_reducible apply yk hS);exact ya;exact z26;clear hS;intro NB w hS)|(go_at_call 47;refine (CN _).mono ?_;rintro e w' ⟨rfl,rfl⟩)|(go_at_call 48;refine (LI _).mono ?_;rintro e w' ⟨rfl,rfl⟩)|((with_reducible apply yi hS);exact ya;exact yb rfl;exact yb rfl;exact ye;rfl;(focus (simp;done));exact Upd.hd;rfl;exact sz26;rfl;clear hS;intro w hS;(try simp only[yp,qS] at hS)));try simp only[qA])
 rw[E1.out,E2.out] at hS
 refine bodyPost_ret (yI rfl rfl (hS.loadWhole (by(exact ye)) (by kernel_rfl) (by kernel_rfl))) rfl ?_
 exact⟨rfl,hS.sb (by(repeat (with_reducible first|exact Sb.refl|apply Sb.skip)))⟩
end
section
set_option maxRecDepth 20000
open Go Go.RowKit Go.SL Go.ClauseP
theorem JC (most:Nat) (hm:most≤2147483647) (s:List UInt8) (hs:s.length≤140737488351232) (w0 w:World) (Hs:List HP) (hS:Sat w0 w Hs) :
  Calls Tryz.prog 61 #[.string ⟨s.toArray⟩,.int .i64 most] w fun e w'=>e=.returned (.int .i64 (Yv most s))∧Sat w0 w' Hs:=by
 cases h0:s.head? with
 | none =>
  obtain rfl:s=[]:=by cases s with|nil=>rfl|cons a b=>cases h0
  rw[Kg]
  clear h0
  go_enter Tryz.func61,Tryz.ntmps61
  go_wp2
  go_ret
  exact⟨rfl,hS⟩
 | some c0 =>
  have hne:s.isEmpty=false:=by cases s with|nil=>cases h0|cons a b=>rfl
  have hnn:s≠[]:=by intro e;rw[e] at hne;cases hne
  have hp:0 < s.length:=List.length_pos_iff.2 hnn
  have hpi:((s.length:Int) == 0)=false:=by simp;exact hnn
  have hpn:(s.length == 0)=false:=by simp;exact hnn
  obtain⟨hp0,hcb⟩:=YD s 0 c0 (by rw[← List.head?_eq_getElem?];exact h0)
  have e48:=YW c0 48 48 rfl
  by_cases hz:1 < s.length∧s.head?=some 48
  ·rw[jX hz.1 hz.2]
   have hl1:(1:Int) < (s.length:Int):=by omega
   have hc0:c0=48:=by rw[h0] at hz;simpa using hz.2
   rw[hc0] at e48
   rw[hc0] at hcb
   clear h0 hz hc0 hnn
   go_enter Tryz.func61,Tryz.ntmps61
   go_wp2
   go_ret
   exact⟨rfl,hS⟩
  ·have DG:=fun c=>jF c w0
   have hN:=fun h=>jf (most:=most) hnn hz h
   have hF:=Ur (most:=most) (s:=s)
   have hA:∀ k,most < Ko 0 (s.take k)→Yv most s=-1:=fun k h=>by
    have:=gZ (t:=s.drop k) h
    rwa [List.take_append_drop] at this
   obtain⟨R,hR⟩:∃ R,R=Yv most s:=⟨_,rfl⟩
   rw[← hR] at hN hF hA ⊢
   have HN:=hid hN
   have HF:=hid hF
   have HA:=hid hA
   clear hN hF hR hA
   have main:(decide ((1:Int) < (s.length:Int))=false∨((1:Int) < (s.length:Int)∧((c0.toNat:Int) == 48)=false))→Calls Tryz.prog 61 #[.string ⟨s.toArray⟩,.int .i64 most] w fun e w'=>e=.returned (.int .i64 R)∧Sat w0 w' Hs:=by
    clear e48 hz h0 hnn
    intro hcase
    rcases hcase with hcase|⟨hcase,hcase2⟩
    all_goals
     go_enter Tryz.func61,Tryz.ntmps61
     go_wp2
     clear hcb hp0
     go_loopw [5,6] (fun n i wr=>∃ k v:Nat,i=.int .i64 k∧k≤s.length∧n=.int .i64 v∧(v:Int)≤most∧Hid (v=Ko 0 (s.take k)∧(s.take k).all Yc=true)∧Sat w0 wr Hs) (fun _ i _=>s.length - (intOf i).toNat)
     case atStart=>exact⟨0,0,rfl,Nat.zero_le _,rfl,by omega,hid ⟨rfl,rfl⟩,hS⟩
     case round =>
      clear hS
      obtain⟨k,v,rfl,hk,rfl,hv,HV,hS⟩:=hrel
      by_cases hlt:k < s.length
      ·obtain⟨c,hc⟩:∃ c,s[k]?=some c:=⟨_,List.getElem?_eq_getElem hlt⟩
       obtain⟨hpk,hck⟩:=YD s k c hc
       have HC:=hid hc
       clear hc
       have DC:=DG c
       cases hd:Yc c with
       | true =>
        rw[hd] at DC
        obtain⟨d1,d2⟩:=(KH c).1 hd
        have HD:=hid hd
        have HV2:Hid (10*v+(c.toNat - 48)=Ko 0 (s.take (k+1))∧(s.take (k+1)).all Yc=true):=by
         refine hid ?_
         have ht:s.take (k+1)=s.take k++[c]:=by rw[List.take_add_one,HC.out];rfl
         rw[ht,ul,List.all_append,HV.out.2,← HV.out.1]
         simp[HD.out]
        clear hd
        by_cases hgt:most < 10*v+(c.toNat - 48)
        ·have HR:=hid (HA.out (k+1) (by rw[← HV2.out.1];exact hgt))
         have hgi:(most:Int) < 10*(v:Int)+((c.toNat:Int) - 48):=by omega
         clear hgt
         go_wp2_with (go_at_call 56;refine (DC _ _ hS).mono ?_;clear hS;rintro e w ⟨rfl,hS⟩)
         go_ret
         exact⟨by rw[HR.out];rfl,hS⟩
        ·have hgi:10*(v:Int)+((c.toNat:Int) - 48)≤(most:Int):=by omega
         clear hgt
         go_wp2_with (go_at_call 56;refine (DC _ _ hS).mono ?_;clear hS;rintro e w ⟨rfl,hS⟩)
         go_roundw
         case rel =>
          refine ⟨k+1,10*v+(c.toNat - 48),by go_num,by omega,?_,by omega,HV2,hS⟩
          go_num
         case measure=>simp[intOf];omega
       | false =>
        rw[hd] at DC
        have HD:=hid hd
        clear hd
        go_wp2_with (go_at_call 56;refine (DC _ _ hS).mono ?_;clear hS;rintro e w ⟨rfl,hS⟩)
        go_ret
        have:R=-1:=HF.out (by
         rw[List.all_eq_false]
         exact⟨c,List.mem_of_getElem? HC.out,by rw[HD.out];simp⟩)
        exact⟨by rw[this];rfl,hS⟩
      ·have hke:k=s.length:=by omega
       subst hke
       have HV2:=HV.out
       rw[List.take_length] at HV2
       have hR:=HN.out HV2.2
       rw[← HV2.1] at hR
       rw[if_neg (by omega)] at hR
       have HR:=hid hR
       clear hR HV2
       go_wp2
       go_ret
       exact⟨by rw[HR.out];rfl,hS⟩
   refine main ?_
   by_cases h:1 < s.length
   ·refine .inr ⟨by omega,?_⟩
    rw[e48]
    have:¬ c0=48:=fun e=>hz ⟨h,by rw[h0,e]⟩
    simp[this]
   ·exact .inl (by simp;omega)
theorem spotR (text:List UInt8) (k:Nat) (hk:k≤text.length) (hl:text.length≤1048576) (w0 w:World) (Hs:List HP) (hS:Sat w0 w Hs) :
  Calls Tryz.prog 32 #[.string ⟨text.toArray⟩,.int .i64 k] w fun e w'=>e=.returned (.agg #[.int .i64 ((Yt text k).1:Int),.int .i64 ((Yt text k).2:Int)])∧Sat w0 w' Hs:=by
 go_enter Tryz.func32,Tryz.ntmps32
 (have tok_B4:True:=trivial;have tok_B5:True:=trivial;go_wp2_with (first|(have tokk:=tok_B4;(clear tokk tok_B4);((with_reducible apply yk hS);exact ya;exact z26;clear hS;intro B4 w hS;(try simp only[qA])))|(have tokk:=tok_B5;(clear tokk tok_B5);((with_reducible apply yk hS);exact ya;exact z26;clear hS;intro B5 w hS;(try simp only[qA])))|((with_reducible apply yi hS);exact ya;exact yb rfl;exact yb rfl;exact ye;rfl;(focus (simp;done));exact Upd.hd;rfl;exact sz26;rfl;clear hS;intro w hS;(try simp only[yp,qS] at hS);(try simp only[qA]))))
 go_loopw [6] (fun i wr=>∃ j:Nat,i=.int .i64 j∧j≤k∧Sat w0 wr (blk B5 26 [.int .i64 ((Yt text j).1:Int),.int .i64 ((Yt text j).2:Int)]::blk B4 26 [.int .i64 0,.int .i64 0]::Hs)) (fun i _=>k - (intOf i).toNat)
 case atStart=>exact⟨0,rfl,Nat.zero_le _,hS⟩
 case round =>
  clear hS
  obtain⟨j,rfl,hj,hS⟩:=hrel
  by_cases hlt:j < k
  ·obtain⟨c,hc⟩:∃ c,text[j]?=some c:=⟨_,List.getElem?_eq_getElem (by omega)⟩
   obtain⟨hpk,hck⟩:=YD text j c hc
   have HS1:=hid (spot_succ hc)
   have hjt:(j:Int) < (text.length:Int):=by omega
   obtain⟨b1,b2⟩:=spot_bd text j
   have e10:=YW c 10 10 rfl
   clear hc
   by_cases h10:c=10
   ·rw[show (c == 10)=true by simp[h10]] at e10
    have HS2:Hid (Yt text (j+1)=((Yt text j).1+1,1)):=hid (by rw[HS1.out,if_pos h10])
    clear HS1 h10
    have h1:(Yt text (j+1)).1=(Yt text j).1+1:=by rw[HS2.out]
    have h2:(Yt text (j+1)).2=1:=by rw[HS2.out]
    generalize (Yt text j).1=p1 at *
    generalize (Yt text j).2=p2 at *
    have E1:=hid h1
    have E2:=hid h2
    clear h1 h2 HS2
    go_wp2_with ((first|((with_reducible apply yh hS);exact ya;exact yb rfl;exact ye;rfl;decide +kernel)|((with_reducible apply yy hS);exact ya;exact yb rfl;(first|exact yb rfl|exact yg);exact ye;rfl;(focus (simp;done));exact Upd.hd;rfl;decide +kernel;clear hS;intro w hS;(try simp only[qS] at hS)));try simp only[qA])
    go_roundw
    case rel=>exact⟨j+1,by go_num,by omega,by rw[E1.out,E2.out];exact hS⟩
    case measure=>simp[intOf];omega
   ·rw[show (c == 10)=false by simp[h10]] at e10
    have HS2:Hid (Yt text (j+1)=((Yt text j).1,(Yt text j).2+1)):=hid (by rw[HS1.out,if_neg h10])
    clear HS1 h10
    have h1:(Yt text (j+1)).1=(Yt text j).1:=by rw[HS2.out]
    have h2:(Yt text (j+1)).2=(Yt text j).2+1:=by rw[HS2.out]
    generalize (Yt text j).1=p1 at *
    generalize (Yt text j).2=p2 at *
    have E1:=hid h1
    have E2:=hid h2
    clear h1 h2 HS2
    go_wp2_with ((first|((with_reducible apply yh hS);exact ya;exact yb rfl;exact ye;rfl;decide +kernel)|((with_reducible apply yy hS);exact ya;exact yb rfl;exact yb rfl;exact ye;rfl;(focus (simp;done));exact Upd.hd;rfl;decide +kernel;clear hS;intro w hS;(try simp only[qS] at hS)));try simp only[qA])
    go_roundw
    case rel=>exact⟨j+1,by go_num,by omega,by rw[E1.out,E2.out];exact hS⟩
    case measure=>simp[intOf];omega
  ·obtain rfl:j=k:=by omega
   go_wp2_with ((first|((with_reducible apply yG hS);exact ya;exact yb rfl;exact ye;exact sz26;decide +kernel;rfl;rfl)|((with_reducible apply yi hS);exact ya;exact yb rfl;exact yb rfl;(repeat (with_reducible first|exact ye|apply yd));rfl;(focus (simp;done));(repeat (with_reducible first|exact Upd.hd|apply Upd.tl));rfl;exact sz26;rfl;clear hS;intro w hS;(try simp only[yp,qS] at hS)));try simp only[qA])
   refine bodyPost_ret (yI rfl rfl (hS.loadWhole (by(repeat (with_reducible first|exact ye|apply yd))) (by kernel_rfl) (by kernel_rfl))) rfl ?_
   exact⟨rfl,hS.sb (by(repeat (with_reducible first|exact Sb.refl|apply Sb.skip)))⟩
theorem literalR (s:List UInt8) (hs:s.length≤140737488351232) (w0 w:World) (Hs:List HP) (hS:Sat w0 w Hs) :
  Calls Tryz.prog 36 #[.string ⟨s.toArray⟩] w fun e w'=>e=.returned (.tuple #[.int .i64 (jC (jc s)).1,.bool (jC (jc s)).2])∧Sat w0 w' Hs:=by
 have D1:=fun w=>JC 2147483647 (by omega) s hs w0 w
 have D2:=fun w=>JC 2147483647 (by omega) (s.drop 1) (by rw[List.length_drop];omega) w0 w
 have b1:=km 2147483647 s
 have b2:=km 2147483647 (s.drop 1)
 obtain⟨r,hr⟩:∃ r,r=jC (jc s):=⟨_,rfl⟩
 rw[← hr]
 unfold jc jC at hr
 by_cases hm:s.head?=some 45
 ·obtain⟨t,rfl⟩:∃ t,s=45::t:=by
   cases s with
   | nil=>cases hm
   | cons a b =>
    have:a=45:=by simpa using hm
    exact⟨b,by rw[this]⟩
  rw[if_pos hm] at hr
  obtain⟨hp0,hcb⟩:=YD (45::t) 0 45 rfl
  have hl:((45::t).length:Int) > 0:=by rw[List.length_cons];omega
  have hl1:1≤(45::t).length:=by simp
  have hex:(⟨(45::t).toArray⟩:ByteArray).extract 1 (45::t).length=⟨t.toArray⟩:=by
   apply ByteArray.ext
   simp only[ByteArray.data_extract,List.extract_toArray,List.extract_eq_take_drop]
   simp
  have HD:(45::t).drop 1=t:=rfl
  rw[HD] at D2 b2 hr
  rw[← hex] at D2
  generalize (45::t:List UInt8)=L at *
  clear D1 b1 hm HD hex
  generalize Yv 2147483647 t=n at *
  by_cases h0:n < 0
  ·rw[if_pos (by omega)] at hr
   subst hr
   go_enter Tryz.func36,Tryz.ntmps36
   go_wp2_with (go_at_call 61;refine (D2 _ _ hS).mono ?_;clear hS;rintro e w ⟨rfl,hS⟩)
   go_ret2
   exact⟨rfl,hS⟩
  ·by_cases hz:n=0
   ·rw[if_pos (by omega)] at hr
    subst hr
    subst hz
    go_enter Tryz.func36,Tryz.ntmps36
    go_wp2_with (go_at_call 61;refine (D2 _ _ hS).mono ?_;clear hS;rintro e w ⟨rfl,hS⟩)
    go_ret2
    exact⟨rfl,hS⟩
   ·rw[if_neg (by omega)] at hr
    subst hr
    have e0:(n == 0)=false:=by simp[hz]
    have hge:0≤n:=by omega
    clear h0 hz
    go_enter Tryz.func36,Tryz.ntmps36
    go_wp2_with (go_at_call 61;refine (D2 _ _ hS).mono ?_;clear hS;rintro e w ⟨rfl,hS⟩)
    go_ret2
    exact⟨rfl,hS⟩
 ·rw[if_neg hm] at hr
  clear D2 b2
  have hcase:(s=[]∨∃ c,s[0]?=some c∧¬ c=45):=by
   cases s with
   | nil=>exact .inl rfl
   | cons c t=>exact .inr ⟨c,rfl,fun e=>hm (by rw[e];rfl)⟩
  clear hm
  generalize Yv 2147483647 s=n at *
  rcases hcase with rfl|⟨c,hc,hne⟩
  ·by_cases h0:n < 0
   ·rw[if_pos (by omega)] at hr
    subst hr
    go_enter Tryz.func36,Tryz.ntmps36
    go_wp2_with (go_at_call 61;refine (D1 _ _ hS).mono ?_;clear hS;rintro e w ⟨rfl,hS⟩)
    go_ret2
    exact⟨rfl,hS⟩
   ·rw[if_neg (by omega)] at hr
    subst hr
    have hge:0≤n:=by omega
    clear h0
    go_enter Tryz.func36,Tryz.ntmps36
    go_wp2_with (go_at_call 61;refine (D1 _ _ hS).mono ?_;clear hS;rintro e w ⟨rfl,hS⟩)
    go_ret2
    exact⟨rfl,hS⟩
  ·obtain⟨hp0,hcb⟩:=YD s 0 c hc
   have hp:(s.length:Int) > 0:=by
    have:=(List.getElem?_eq_some_iff.1 hc).1
    omega
   have e45:=YW c 45 45 rfl
   rw[show (c == 45)=false by simp[hne]] at e45
   clear hc hne
   by_cases h0:n < 0
   ·rw[if_pos (by omega)] at hr
    subst hr
    go_enter Tryz.func36,Tryz.ntmps36
    go_wp2_with (go_at_call 61;refine (D1 _ _ hS).mono ?_;clear hS;rintro e w ⟨rfl,hS⟩)
    go_ret2
    exact⟨rfl,hS⟩
   ·rw[if_neg (by omega)] at hr
    subst hr
    have hge:0≤n:=by omega
    clear h0
    go_enter Tryz.func36,Tryz.ntmps36
    go_wp2_with (go_at_call 61;refine (D1 _ _ hS).mono ?_;clear hS;rintro e w ⟨rfl,hS⟩)
    go_ret2
    exact⟨rfl,hS⟩
end
end Go.Proofs.YteopodbkhgcpmaaGreatDoor
namespace Go.LexP
section
open Go Go.ClauseP

inductive Tk
 | fin
 | bad (e:Int)
 | const (n:Int)
 | var (n:Int)
 | not
 | op (o:Int)
 | opn
 | cls
 | comma
 | colon
 | quant (o:Int)
 | ite
deriving DecidableEq
def kD (c:UInt8):Bool:=(97≤c && c≤122) || (65≤c && c≤90)
def kN (c:UInt8):Bool:=c == 32 || c == 9 || c == 10 || c == 13
def Yu:Bool→List UInt8→Nat
 | _,[]=>0
 | true,c::cs=>if c=10 then 1+Yu false cs else 1+Yu true cs
 | false,c::cs=>if kN c then 1+Yu false cs else if c=35 then 1+Yu true cs else 0
theorem jk:∀ (l:List UInt8) (b:Bool),Yu b l≤l.length
 | [],b=>by cases b <;> simp[Yu]
 | c::cs,true=>by
  have h1:=jk cs false
  have h2:=jk cs true
  simp only[Yu,List.length_cons]
  split <;> omega
 | c::cs,false=>by
  have h1:=jk cs false
  have h2:=jk cs true
  simp only[Yu,List.length_cons]
  split
  ·omega
  ·split <;> omega
def Kp (w:List UInt8):Tk :=
 if w=[116,114,117,101] then .const 1
 else if w=[102,97,108,115,101] then .const 0
 else if w=[101,120,105,115,116,115] then .quant 4
 else if w=[102,111,114,97,108,108] then .quant 5
 else if w=[105,116,101] then .ite
 else match w with
  | 120::t=>if (match t with|c::_=>kD c|[]=>false) then .bad 131 else if Yv 65535 t < 0 then .bad 133 else .var (Yv 65535 t)
  | _=>.bad 131
def ldP (c:UInt8):Bool:=kD c || Yc c
def signs11:List (List UInt8 × Tk):=[([60,45,62],.op 10),([45,62],.op 9),([33],.not),([126],.not),([38],.op 6),([124],.op 7),([94],.op 8),([40],.opn),([41],.cls),([44],.comma),([58],.colon)]
def signs10:List (List UInt8 × Tk):=[([194,172],.not),([226,136,167],.op 6),([226,136,168],.op 7),([226,138,149],.op 8),([226,134,146],.op 9),([226,134,148],.op 10),([226,136,131],.quant 4),([226,136,128],.quant 5),([226,138,164],.const 1),([226,138,165],.const 0)]
def kC (l:List UInt8):Option (List UInt8 × Tk):=(signs11++signs10).find? fun s=>s.1.isPrefixOf l
def Yj (l:List UInt8):Tk × Nat :=
 match l with
 | []=>(.fin,0)
 | c::_=>if kD c then (Kp (l.takeWhile ldP),(l.takeWhile ldP).length)
  else if Yc c then ((if Yv 1 (l.takeWhile Yc) < 0 then .bad 133 else .const (Yv 1 (l.takeWhile Yc))),(l.takeWhile Yc).length)
  else match kC l with
   | some s=>(s.2,s.1.length)
   | none=>(.bad 130,1)
def Yf (text:List UInt8) (k:Nat):Nat:=k+Yu false (text.drop k)
structure TokR where
 tk:Tk
 at_:Nat
 fin:Nat
def yP (text:List UInt8) (k:Nat):TokR :=
 if Yf text k=text.length then ⟨.fin,text.length,text.length⟩ else ⟨(Yj (text.drop (Yf text k))).1,Yf text k,Yf text k+(Yj (text.drop (Yf text k))).2⟩
def yZ:Tk→Int × Int × Int
 | .fin=>(0,0,0)
 | .bad e=>(0,0,e)
 | .const n=>(1,n,0)
 | .var n=>(2,n,0)
 | .not=>(3,0,0)
 | .op o=>(o - 2,0,0)
 | .opn=>(9,0,0)
 | .cls=>(10,0,0)
 | .comma=>(11,0,0)
 | .colon=>(12,0,0)
 | .quant o=>(o+9,0,0)
 | .ite=>(15,0,0)
end
end Go.LexP
namespace Go.Proofs.YteopodbkhgcpmaaGreatDoor
section
set_option maxRecDepth 20000
open Go Go.RowKit Go.SL Go.ClauseP Go.LexP

theorem KW:KeyTy Tryz.prog 175 9 49 .string:=⟨Tryz.underlying175,Tryz.underlying9,.inl rfl⟩
theorem KR:KeyTy Tryz.prog 165 21 49 (.int .i32):=⟨Tryz.underlying165,Tryz.underlying21,.inr ⟨_,rfl⟩⟩
theorem KL:∀ w,(zeroValue 49).run Tryz.prog w=.ok (.agg #[.int .i64 0,.int .i64 0,.int .i64 0,.int .i64 0]) w:=fun w=>by kernel_rfl
def tk (k n:Int):Value:=.agg #[.int .i64 k,.int .i64 n,.int .i64 0,.int .i64 0]
def Gy:List MapEntry:=[⟨.string ⟨#[116,114,117,101]⟩,.agg #[.int .i64 1,.int .i64 1,.int .i64 0,.int .i64 0],0⟩,⟨.string ⟨#[102,97,108,115,101]⟩,.agg #[.int .i64 1,.int .i64 0,.int .i64 0,.int .i64 0],1⟩,
 ⟨.string ⟨#[101,120,105,115,116,115]⟩,.agg #[.int .i64 13,.int .i64 0,.int .i64 0,.int .i64 0],2⟩,⟨.string ⟨#[102,111,114,97,108,108]⟩,.agg #[.int .i64 14,.int .i64 0,.int .i64 0,.int .i64 0],3⟩,⟨.string ⟨#[105,116,101]⟩,.agg #[.int .i64 15,.int .i64 0,.int .i64 0,.int .i64 0],4⟩]
theorem wordsC (w0 w:World) (Hs:List HP) (hS:Sat w0 w Hs):Calls Tryz.prog 105 #[] w fun e w'=>∃ b,e=.returned (.map (some b))∧Sat w0 w' (cm b Gy 5::Hs):=by
 go_enter Tryz.func105,Tryz.ntmps105
 go_wp2_with ((first|((with_reducible apply Jv hS);exact ya;clear hS;intro NB w hS)|((with_reducible apply uv hS);exact Or.inl rfl;exact ya;exact yb rfl;exact yg;exact yb rfl;exact KW;exact ye;rfl;exact Upd.hd;clear hS;intro w hS;(try simp only[List.cons_append,List.nil_append,Nat.zero_add,Nat.reduceAdd] at hS)));try simp only[qA])
 go_ret
 exact⟨_,rfl,hS⟩
def UH:List MapEntry:=[⟨.int .i32 172,.agg #[.int .i64 3,.int .i64 0,.int .i64 0,.int .i64 0],0⟩,⟨.int .i32 8743,.agg #[.int .i64 4,.int .i64 0,.int .i64 0,.int .i64 0],1⟩,⟨.int .i32 8744,.agg #[.int .i64 5,.int .i64 0,.int .i64 0,.int .i64 0],2⟩,
 ⟨.int .i32 8853,.agg #[.int .i64 6,.int .i64 0,.int .i64 0,.int .i64 0],3⟩,⟨.int .i32 8594,.agg #[.int .i64 7,.int .i64 0,.int .i64 0,.int .i64 0],4⟩,⟨.int .i32 8596,.agg #[.int .i64 8,.int .i64 0,.int .i64 0,.int .i64 0],5⟩,
 ⟨.int .i32 8707,.agg #[.int .i64 13,.int .i64 0,.int .i64 0,.int .i64 0],6⟩,⟨.int .i32 8704,.agg #[.int .i64 14,.int .i64 0,.int .i64 0,.int .i64 0],7⟩,⟨.int .i32 8868,.agg #[.int .i64 1,.int .i64 1,.int .i64 0,.int .i64 0],8⟩,⟨.int .i32 8869,.agg #[.int .i64 1,.int .i64 0,.int .i64 0,.int .i64 0],9⟩]
theorem runesC (w0 w:World) (Hs:List HP) (hS:Sat w0 w Hs):Calls Tryz.prog 94 #[] w fun e w'=>∃ b,e=.returned (.map (some b))∧Sat w0 w' (cm b UH 10::Hs):=by
 go_enter Tryz.func94,Tryz.ntmps94
 go_wp2_with ((first|((with_reducible apply Jv hS);exact ya;clear hS;intro NB w hS)|((with_reducible apply uv hS);exact Or.inl rfl;exact ya;exact yb rfl;exact yg;exact yb rfl;exact KR;exact ye;rfl;exact Upd.hd;clear hS;intro w hS;(try simp only[List.cons_append,List.nil_append,Nat.zero_add,Nat.reduceAdd] at hS)));try simp only[qA])
 go_ret
 exact⟨_,rfl,hS⟩
theorem JA (c:UInt8):(kD c=true→((97:Int)≤c.toNat∧(c.toNat:Int)≤122)∨((65:Int)≤c.toNat∧(c.toNat:Int)≤90))∧(kD c=false→((c.toNat:Int) < 97∨(122:Int) < c.toNat)∧((c.toNat:Int) < 65∨(90:Int) < c.toNat)):=by
 constructor
 ·intro h
  simp only[kD,Bool.or_eq_true,Bool.and_eq_true,decide_eq_true_eq,UInt8.le_iff_toNat_le] at h
  have h1:(97:UInt8).toNat=97:=rfl
  have h2:(122:UInt8).toNat=122:=rfl
  have h3:(65:UInt8).toNat=65:=rfl
  have h4:(90:UInt8).toNat=90:=rfl
  omega
 ·intro h
  simp only[kD,Bool.or_eq_false_iff,Bool.and_eq_false_iff,decide_eq_false_iff_not,UInt8.le_iff_toNat_le] at h
  have h1:(97:UInt8).toNat=97:=rfl
  have h2:(122:UInt8).toNat=122:=rfl
  have h3:(65:UInt8).toNat=65:=rfl
  have h4:(90:UInt8).toNat=90:=rfl
  omega
theorem letterW (f:Nat) (n:Int) (b:Bool) (h:b=true↔((97≤n∧n≤122)∨(65≤n∧n≤90))) (w0 w:World) (Hs:List HP) (hS:Sat w0 w Hs):Calls Tryz.prog 90 #[.int .u8 n] w fun e w'=>e=.returned (.bool b)∧Sat w0 w' Hs:=by
 by_cases h1:97≤n
 ·by_cases h2:n≤122
  ·obtain rfl:b=true:=h.2 (.inl ⟨h1,h2⟩)
   clear h
   go_enter Tryz.func90,Tryz.ntmps90
   go_wp2
   go_ret
   exact⟨rfl,hS⟩
  ·obtain rfl:b=false:=by cases b with|false=>rfl|true=>have:=h.1 rfl;omega
   have d2:decide (n≤122)=false:=decide_eq_false h2
   have d3:(65:Int)≤n:=by omega
   have d4:decide (n≤90)=false:=decide_eq_false (by omega)
   clear h h2
   go_enter Tryz.func90,Tryz.ntmps90
   go_wp2
   go_ret
   exact⟨rfl,hS⟩
 ·have d1:decide (97≤n)=false:=decide_eq_false h1
  by_cases h3:65≤n
  ·by_cases h4:n≤90
   ·obtain rfl:b=true:=h.2 (.inr ⟨h3,h4⟩)
    clear h h1
    go_enter Tryz.func90,Tryz.ntmps90
    go_wp2
    go_ret
    exact⟨rfl,hS⟩
   ·obtain rfl:b=false:=by cases b with|false=>rfl|true=>have:=h.1 rfl;omega
    have d4:decide (n≤90)=false:=decide_eq_false h4
    clear h h1 h4
    go_enter Tryz.func90,Tryz.ntmps90
    go_wp2
    go_ret
    exact⟨rfl,hS⟩
  ·obtain rfl:b=false:=by cases b with|false=>rfl|true=>have:=h.1 rfl;omega
   have d3:decide (65≤n)=false:=decide_eq_false h3
   clear h h1 h3
   go_enter Tryz.func90,Tryz.ntmps90
   go_wp2
   go_ret
   exact⟨rfl,hS⟩
theorem Ul (c:UInt8):kD c=true↔((97≤(c.toNat:Int)∧(c.toNat:Int)≤122)∨(65≤(c.toNat:Int)∧(c.toNat:Int)≤90)):=by
 obtain⟨h1,h2⟩:=JA c
 cases h:kD c with
 | true=>simp only[true_iff];exact h1 h
 | false=>have:=h2 h;simp only[Bool.false_eq_true,false_iff];omega
theorem Jz (c:UInt8) (w0 w:World) (Hs:List HP) (hS:Sat w0 w Hs):Calls Tryz.prog 90 #[.int .u8 c.toNat] w fun e w'=>e=.returned (.bool (kD c))∧Sat w0 w' Hs:=letterW 0 _ _ (Ul c) w0 w Hs hS
theorem JN (s l:List UInt8):((⟨s.toArray⟩:ByteArray) == ⟨l.toArray⟩)=decide (s=l):=by
 have e:((⟨s.toArray⟩:ByteArray) == ⟨l.toArray⟩)=(s.toArray == l.toArray):=rfl
 rw[e]
 by_cases h:s=l
 ·subst h;simp
 ·rw[decide_eq_false h]
  apply beq_eq_false_iff_ne.2
  intro e
  exact h (by simpa using congrArg Array.toList e)
theorem gT (s:List UInt8):Instr.findNow .string (.string ⟨s.toArray⟩) Gy 0=some (if s=[116,114,117,101] then some (0,.agg #[.int .i64 1,.int .i64 1,.int .i64 0,.int .i64 0])
  else if s=[102,97,108,115,101] then some (1,.agg #[.int .i64 1,.int .i64 0,.int .i64 0,.int .i64 0]) else if s=[101,120,105,115,116,115] then some (2,.agg #[.int .i64 13,.int .i64 0,.int .i64 0,.int .i64 0])
  else if s=[102,111,114,97,108,108] then some (3,.agg #[.int .i64 14,.int .i64 0,.int .i64 0,.int .i64 0]) else if s=[105,116,101] then some (4,.agg #[.int .i64 15,.int .i64 0,.int .i64 0,.int .i64 0]) else none):=by
 have e1:=JN s [116,114,117,101]
 have e2:=JN s [102,97,108,115,101]
 have e3:=JN s [101,120,105,115,116,115]
 have e4:=JN s [102,111,114,97,108,108]
 have e5:=JN s [105,116,101]
 unfold Gy
 simp only[Instr.findNow,Instr.sameNow,e1,e2,e3,e4,e5]
 by_cases h1:s=[116,114,117,101]
 ·simp[h1]
 ·by_cases h2:s=[102,97,108,115,101]
  ·simp[h2]
  ·by_cases h3:s=[101,120,105,115,116,115]
   ·simp[h3]
   ·by_cases h4:s=[102,111,114,97,108,108]
    ·simp[h4]
    ·by_cases h5:s=[105,116,101] <;> simp[h1,h2,h3,h4,h5]
end
section
set_option maxRecDepth 20000
open Go Go.RowKit Go.SL Go.ClauseP Go.LexP

theorem u8_ne (c d:UInt8) (n:Int) (hn:n=(d.toNat:Int)):((c.toNat:Int) != n)=if c=d then false else true:=by
 rw[bne,YW c d n hn]
 by_cases h:c=d
 ·rw[if_pos h,h];simp
 ·rw[if_neg h];simp[h]

def xg (t:Tk) (at_:Int):Value:=.agg #[.int .i64 (yZ t).1,.int .i64 (yZ t).2.1,.int .i64 at_,.int .i64 (yZ t).2.2]
theorem wordC (s:List UInt8) (h0:s≠[]) (hs:s.length≤140737488351232) (w0 w:World) (Hs:List HP) (hS:Sat w0 w Hs) :
  Calls Tryz.prog 92 #[.string ⟨s.toArray⟩] w fun e w'=>e=.returned (xg (Kp s) 0)∧Sat w0 w' Hs:=by
 have WC:=wordsC w0
 have FW:=gT s
 obtain⟨t,ht⟩:∃ t,t=Kp s:=⟨_,rfl⟩
 rw[← ht]
 unfold Kp at ht
 by_cases h1:s=[116,114,117,101]∨s=[102,97,108,115,101]∨s=[101,120,105,115,116,115]∨s=[102,111,114,97,108,108]∨s=[105,116,101]
 ·rcases h1 with h|h|h|h|h
  all_goals
   subst h
   simp at ht
   simp at FW
   subst ht
   have HFW:=hid FW
   clear FW h0
   go_enter Tryz.func92,Tryz.ntmps92
   go_wp2_with ((first|((with_reducible apply yk hS);exact ya;exact z49;clear hS;intro NB w hS)|(go_at_call 105;refine (WC _ _ hS).mono ?_;clear hS;rintro e w ⟨mb,rfl,hS⟩)|((with_reducible apply YX hS);(case hw=>(with_reducible exact ya));(case hm=>(exact yb rfl));(case hx=>(exact yb rfl));(case K0=>exact KW);(case hmem=>(((exact ye));(try assumption)));(case hf=>exact HFW.out);(case hz=>exact KL);(case hv=>(simp only[if_true,if_false,Bool.false_eq_true,Option.map_some,Option.map_none,Option.getD_some,Option.getD_none,Option.isSome_some,Option.isSome_none];rfl)))|((with_reducible apply yG hS);exact ya;exact yb rfl;exact ye;exact sz49;decide +kernel;rfl;rfl)|((with_reducible apply yi hS);exact ya;exact yb rfl;exact yb rfl;(repeat (with_reducible first|exact ye|apply yd));rfl;(focus (simp;done));(repeat (with_reducible first|exact Upd.hd|apply Upd.tl));rfl;exact sz49;rfl;clear hS;intro w hS;(try simp only[yp,qS] at hS)));try simp only[qA])
   refine bodyPost_ret (yI rfl rfl (hS.loadWhole (by(repeat (with_reducible first|exact ye|apply yd))) (by kernel_rfl) (by kernel_rfl))) rfl ?_
   exact⟨rfl,hS.sb (by(repeat (with_reducible first|exact Sb.refl|apply Sb.skip)))⟩
 ·have hn1:¬ s=[116,114,117,101]:=fun e=>h1 (.inl e)
  have hn2:¬ s=[102,97,108,115,101]:=fun e=>h1 (.inr (.inl e))
  have hn3:¬ s=[101,120,105,115,116,115]:=fun e=>h1 (.inr (.inr (.inl e)))
  have hn4:¬ s=[102,111,114,97,108,108]:=fun e=>h1 (.inr (.inr (.inr (.inl e))))
  have hn5:¬ s=[105,116,101]:=fun e=>h1 (.inr (.inr (.inr (.inr e))))
  rw[if_neg hn1,if_neg hn2,if_neg hn3,if_neg hn4,if_neg hn5] at ht FW
  clear hn1 hn2 hn3 hn4 hn5 h1
  have HFW:=hid FW
  clear FW
  obtain⟨c,cs,rfl⟩:∃ c cs,s=c::cs:=by cases s with|nil=>exact absurd rfl h0|cons a b=>exact⟨a,b,rfl⟩
  obtain⟨hp0,hc0⟩:=YD (c::cs) 0 c rfl
  have e120:=u8_ne c 120 120 rfl
  by_cases hx:c=120
  ·subst hx
   rw[if_pos rfl] at e120
   simp only at ht
   have hl1:1≤(120::cs:List UInt8).length:=by simp
   have hex:(⟨(120::cs).toArray⟩:ByteArray).extract 1 (120::cs).length=⟨cs.toArray⟩:=by
    apply ByteArray.ext
    simp only[ByteArray.data_extract,List.extract_toArray,List.extract_eq_take_drop]
    simp
   have DC:=KZ 65535 (by omega) cs (by simp at hs;omega) w0
   rw[← hex] at DC
   have hN:=km 65535 cs
   have hlc:((120::cs:List UInt8).length:Int)=(cs.length:Int)+1:=by simp
   have hb:∀ d ds,cs=d::ds→∃ hp:1 < (⟨(120::cs).toArray⟩:ByteArray).size,(⟨(120::cs).toArray⟩:ByteArray)[1]'hp=d:=fun d ds e=>YD (120::cs) 1 d (by rw[e];rfl)
   generalize hL:(120::cs:List UInt8)=L at *
   clear hex h0 hL
   cases cs with
   | nil =>
    simp only[Bool.false_eq_true,if_false] at ht
    rw[Kg,if_pos (by omega)] at ht
    rw[Kg] at DC
    subst ht
    have hl2:decide ((L.length:Int) > 1)=false:=decide_eq_false (by simp at hlc;omega)
    clear hlc hb hN
    go_enter Tryz.func92,Tryz.ntmps92
    go_wp2_with ((first|((with_reducible apply yk hS);exact ya;exact z49;clear hS;intro NB w hS)|(go_at_call 105;refine (WC _ _ hS).mono ?_;clear hS;rintro e w ⟨mb,rfl,hS⟩)|((with_reducible apply YX hS);(case hw=>(with_reducible exact ya));(case hm=>(exact yb rfl));(case hx=>(exact yb rfl));(case K0=>exact KW);(case hmem=>(((exact ye));(try assumption)));(case hf=>exact HFW.out);(case hz=>exact KL);(case hv=>(simp only[if_true,if_false,Bool.false_eq_true,Option.map_some,Option.map_none,Option.getD_some,Option.getD_none,Option.isSome_some,Option.isSome_none];rfl)))|((with_reducible apply yi hS);exact ya;exact yb rfl;exact yb rfl;(repeat (with_reducible first|exact ye|apply yd));rfl;(focus (simp;done));(repeat (with_reducible first|exact Upd.hd|apply Upd.tl));rfl;exact sz49;rfl;clear hS;intro w hS;(try simp only[yp,qS] at hS))|(go_at_call 53;refine (DC _ _ hS).mono ?_;clear hS;rintro e w ⟨rfl,hS⟩));try simp only[qA])
    refine bodyPost_ret (yI rfl rfl (hS.loadWhole (by(repeat (with_reducible first|exact ye|apply yd))) (by kernel_rfl) (by kernel_rfl))) rfl ?_
    exact⟨rfl,hS.sb (by(repeat (with_reducible first|exact Sb.refl|apply Sb.skip)))⟩
   | cons d ds =>
    obtain⟨hp1,hd1⟩:=hb d ds rfl
    have hl2:(L.length:Int) > 1:=by simp at hlc;omega
    have LC:=Jz d w0
    simp only at ht
    clear hlc hb
    obtain⟨n,hn⟩:∃ n,n=Yv 65535 (d::ds):=⟨_,rfl⟩
    rw[← hn] at ht DC hN
    clear hn
    replace ht:t=if kD d=true then .bad 131 else if n < 0 then .bad 133 else .var n:=ht
    cases hlt:kD d with
    | true =>
     rw[hlt] at ht LC
     simp only[if_true] at ht
     subst ht
     clear hlt
     go_enter Tryz.func92,Tryz.ntmps92
     go_wp2_with ((first|((with_reducible apply yk hS);exact ya;exact z49;clear hS;intro NB w hS)|(go_at_call 105;refine (WC _ _ hS).mono ?_;clear hS;rintro e w ⟨mb,rfl,hS⟩)|((with_reducible apply YX hS);(case hw=>(with_reducible exact ya));(case hm=>(exact yb rfl));(case hx=>(exact yb rfl));(case K0=>exact KW);(case hmem=>(((exact ye));(try assumption)));(case hf=>exact HFW.out);(case hz=>exact KL);(case hv=>(simp only[if_true,if_false,Bool.false_eq_true,Option.map_some,Option.map_none,Option.getD_some,Option.getD_none,Option.isSome_some,Option.isSome_none];rfl)))|((with_reducible apply yi hS);exact ya;exact yb rfl;exact yb rfl;(repeat (with_reducible first|exact ye|apply yd));rfl;(focus (simp;done));(repeat (with_reducible first|exact Upd.hd|apply Upd.tl));rfl;exact sz49;rfl;clear hS;intro w hS;(try simp only[yp,qS] at hS))|(go_at_call 90;refine (LC _ _ hS).mono ?_;clear hS;rintro e w ⟨rfl,hS⟩));try simp only[qA])
     refine bodyPost_ret (yI rfl rfl (hS.loadWhole (by(repeat (with_reducible first|exact ye|apply yd))) (by kernel_rfl) (by kernel_rfl))) rfl ?_
     exact⟨rfl,hS.sb (by(repeat (with_reducible first|exact Sb.refl|apply Sb.skip)))⟩
    | false =>
     rw[hlt] at ht LC
     simp only[Bool.false_eq_true,if_false] at ht
     clear hlt
     by_cases h0n:n < 0
     ·rw[if_pos h0n] at ht
      subst ht
      go_enter Tryz.func92,Tryz.ntmps92
      go_wp2_with ((first|((with_reducible apply yk hS);exact ya;exact z49;clear hS;intro NB w hS)|(go_at_call 105;refine (WC _ _ hS).mono ?_;clear hS;rintro e w ⟨mb,rfl,hS⟩)|((with_reducible apply YX hS);(case hw=>(with_reducible exact ya));(case hm=>(exact yb rfl));(case hx=>(exact yb rfl));(case K0=>exact KW);(case hmem=>(((exact ye));(try assumption)));(case hf=>exact HFW.out);(case hz=>exact KL);(case hv=>(simp only[if_true,if_false,Bool.false_eq_true,Option.map_some,Option.map_none,Option.getD_some,Option.getD_none,Option.isSome_some,Option.isSome_none];rfl)))|((with_reducible apply yi hS);exact ya;exact yb rfl;exact yb rfl;(repeat (with_reducible first|exact ye|apply yd));rfl;(focus (simp;done));(repeat (with_reducible first|exact Upd.hd|apply Upd.tl));rfl;exact sz49;rfl;clear hS;intro w hS;(try simp only[yp,qS] at hS))|(go_at_call 90;refine (LC _ _ hS).mono ?_;clear hS;rintro e w ⟨rfl,hS⟩)|(go_at_call 53;refine (DC _ _ hS).mono ?_;clear hS;rintro e w ⟨rfl,hS⟩));try simp only[qA])
      refine bodyPost_ret (yI rfl rfl (hS.loadWhole (by(repeat (with_reducible first|exact ye|apply yd))) (by kernel_rfl) (by kernel_rfl))) rfl ?_
      exact⟨rfl,hS.sb (by(repeat (with_reducible first|exact Sb.refl|apply Sb.skip)))⟩
     ·rw[if_neg h0n] at ht
      subst ht
      have hge:0≤n:=by omega
      clear h0n
      go_enter Tryz.func92,Tryz.ntmps92
      go_wp2_with ((first|((with_reducible apply yk hS);exact ya;exact z49;clear hS;intro NB w hS)|(go_at_call 105;refine (WC _ _ hS).mono ?_;clear hS;rintro e w ⟨mb,rfl,hS⟩)|((with_reducible apply YX hS);(case hw=>(with_reducible exact ya));(case hm=>(exact yb rfl));(case hx=>(exact yb rfl));(case K0=>exact KW);(case hmem=>(((exact ye));(try assumption)));(case hf=>exact HFW.out);(case hz=>exact KL);(case hv=>(simp only[if_true,if_false,Bool.false_eq_true,Option.map_some,Option.map_none,Option.getD_some,Option.getD_none,Option.isSome_some,Option.isSome_none];rfl)))|((with_reducible apply yi hS);exact ya;exact yb rfl;exact yb rfl;(repeat (with_reducible first|exact ye|apply yd));rfl;(focus (simp;done));(repeat (with_reducible first|exact Upd.hd|apply Upd.tl));rfl;exact sz49;rfl;clear hS;intro w hS;(try simp only[yp,qS] at hS))|(go_at_call 90;refine (LC _ _ hS).mono ?_;clear hS;rintro e w ⟨rfl,hS⟩)|(go_at_call 53;refine (DC _ _ hS).mono ?_;clear hS;rintro e w ⟨rfl,hS⟩));try simp only[qA])
      refine bodyPost_ret (yI rfl rfl (hS.loadWhole (by(repeat (with_reducible first|exact ye|apply yd))) (by kernel_rfl) (by kernel_rfl))) rfl ?_
      exact⟨rfl,hS.sb (by(repeat (with_reducible first|exact Sb.refl|apply Sb.skip)))⟩
  ·rw[if_neg hx] at e120
   have ht2:t=.bad 131:=by
    rw[ht]
    split
    ·rename_i h;exact absurd (List.cons.inj h).1 hx
    ·rfl
   subst ht2
   clear ht hx
   generalize (c::cs:List UInt8)=L at *
   clear h0
   go_enter Tryz.func92,Tryz.ntmps92
   go_wp2_with ((first|((with_reducible apply yk hS);exact ya;exact z49;clear hS;intro NB w hS)|(go_at_call 105;refine (WC _ _ hS).mono ?_;clear hS;rintro e w ⟨mb,rfl,hS⟩)|((with_reducible apply YX hS);(case hw=>(with_reducible exact ya));(case hm=>(exact yb rfl));(case hx=>(exact yb rfl));(case K0=>exact KW);(case hmem=>(((exact ye));(try assumption)));(case hf=>exact HFW.out);(case hz=>exact KL);(case hv=>(simp only[if_true,if_false,Bool.false_eq_true,Option.map_some,Option.map_none,Option.getD_some,Option.getD_none,Option.isSome_some,Option.isSome_none];rfl)))|((with_reducible apply yi hS);exact ya;exact yb rfl;exact yb rfl;(repeat (with_reducible first|exact ye|apply yd));rfl;(focus (simp;done));(repeat (with_reducible first|exact Upd.hd|apply Upd.tl));rfl;exact sz49;rfl;clear hS;intro w hS;(try simp only[yp,qS] at hS)));try simp only[qA])
   refine bodyPost_ret (yI rfl rfl (hS.loadWhole (by(repeat (with_reducible first|exact ye|apply yd))) (by kernel_rfl) (by kernel_rfl))) rfl ?_
   exact⟨rfl,hS.sb (by(repeat (with_reducible first|exact Sb.refl|apply Sb.skip)))⟩
end
end Go.Proofs.YteopodbkhgcpmaaGreatDoor
