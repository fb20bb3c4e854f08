/- A part of the proof: Rx1 Lx3 LxU It Lx4. -/
import Derived.Test.YteopodbkhgcpmaaGreatDoorM1
import Derived.Test.YteopodbkhgcpmaaGreatDoorM2
import Derived.Test.YteopodbkhgcpmaaGreatDoorM4
import Derived.Laws.RangeAny
import Derived.Lib.OthersKept
set_option linter.unusedSimpArgs false
set_option linter.unusedVariables false
set_option linter.unusedSectionVars false
namespace Go.Proofs.YteopodbkhgcpmaaGreatDoor
section
set_option maxRecDepth 20000
open Go Go.RowKit Go.SL Go.ClauseP Go.LexP

def Yq:Tk→Int × Int
 | .fin=>(0,0)
 | .bad e=>(1,e)
 | .const n=>(2,n)
 | .var n=>(3,n)
 | .not=>(4,0)
 | .quant o=>(5,o)
 | .ite=>(6,131)
 | .op o=>(7,o)
 | .opn=>(8,0)
 | .cls=>(9,0)
 | .comma=>(10,0)
 | .colon=>(11,0)
def tokFV (t:Tk) (a e:Int):Value:=.agg #[.int .i64 (Yq t).1,.int .i64 (Yq t).2,.int .i64 a,.int .i64 e]
theorem letterWR (f:Nat) (n:Int) (b:Bool) (h:b=true↔((97≤n∧n≤122)∨(65≤n∧n≤90))) (w0 w:World) (Hs:List HP) (hS:Sat w0 w Hs):Calls Tryz.prog 55 #[.int .u8 n] w fun e w'=>e=.returned (.bool b)∧Sat w0 w' Hs:=by
 by_cases h1:97≤n
 ·by_cases h2:n≤122
  ·obtain rfl:b=true:=h.2 (.inl ⟨h1,h2⟩)
   clear h
   go_enter Tryz.func55,Tryz.ntmps55
   go_wp2
   go_ret
   exact⟨rfl,hS⟩
  ·obtain rfl:b=false:=by cases b with|false=>rfl|true=>have:=h.1 rfl;omega
   have d2:decide (n≤122)=false:=decide_eq_false h2
   have d3:(65:Int)≤n:=by omega
   have d4:decide (n≤90)=false:=decide_eq_false (by omega)
   clear h h2
   go_enter Tryz.func55,Tryz.ntmps55
   go_wp2
   go_ret
   exact⟨rfl,hS⟩
 ·have d1:decide (97≤n)=false:=decide_eq_false h1
  by_cases h3:65≤n
  ·by_cases h4:n≤90
   ·obtain rfl:b=true:=h.2 (.inr ⟨h3,h4⟩)
    clear h h1
    go_enter Tryz.func55,Tryz.ntmps55
    go_wp2
    go_ret
    exact⟨rfl,hS⟩
   ·obtain rfl:b=false:=by cases b with|false=>rfl|true=>have:=h.1 rfl;omega
    have d4:decide (n≤90)=false:=decide_eq_false h4
    clear h h1 h4
    go_enter Tryz.func55,Tryz.ntmps55
    go_wp2
    go_ret
    exact⟨rfl,hS⟩
  ·obtain rfl:b=false:=by cases b with|false=>rfl|true=>have:=h.1 rfl;omega
   have d3:decide (65≤n)=false:=decide_eq_false h3
   clear h h1 h3
   go_enter Tryz.func55,Tryz.ntmps55
   go_wp2
   go_ret
   exact⟨rfl,hS⟩
theorem xV (c:UInt8) (w0 w:World) (Hs:List HP) (hS:Sat w0 w Hs):Calls Tryz.prog 55 #[.int .u8 c.toNat] w fun e w'=>e=.returned (.bool (kD c))∧Sat w0 w' Hs:=letterWR 0 _ _ (Ul c) w0 w Hs hS
theorem let_dig {c:UInt8} (h:kD c=true):Yc c=false:=by
 obtain⟨h1,_⟩:=JA c
 have h2:=h1 h
 simp only[Yc,Bool.and_eq_false_iff,decide_eq_false_iff_not,UInt8.le_iff_toNat_le]
 have h3:(57:UInt8).toNat=57:=rfl
 have h4:(48:UInt8).toNat=48:=rfl
 omega
set_option maxHeartbeats 1000000 in
theorem wordR (s:List UInt8) (h0:s≠[]) (hs:s.length≤1048576) (hld:∀ c∈s,ldP c=true) (a:Nat) (ha:a≤1048576) (w0 w:World) (Hs:List HP) (hS:Sat w0 w Hs) :
  Calls Tryz.prog 57 #[.string ⟨s.toArray⟩,.int .i64 a] w fun e w'=>e=.returned (tokFV (Kp s) a (a+s.length))∧Sat w0 w' Hs:=by
 obtain⟨t,ht⟩:∃ t,t=Kp s:=⟨_,rfl⟩
 rw[← ht]
 unfold Kp at ht
 by_cases h1:s=[116,114,117,101]∨s=[102,97,108,115,101]∨s=[101,120,105,115,116,115]∨s=[102,111,114,97,108,108]∨s=[105,116,101]
 ·rcases h1 with h|h|h|h|h
  all_goals
   subst h
   simp at ht
   subst ht
   clear h0 hld
   go_enter Tryz.func57,Tryz.ntmps57
   go_wp2_with ((first|((with_reducible apply yk hS);exact ya;exact z72;clear hS;intro NB w hS)|((with_reducible apply yG hS);exact ya;exact yb rfl;exact ye;exact sz72;decide +kernel;rfl;rfl)|((with_reducible apply yy hS);exact ya;exact yb rfl;(first|exact yb rfl|exact yg);(repeat (with_reducible first|exact ye|apply yd));rfl;(focus (simp;done));(repeat (with_reducible first|exact Upd.hd|apply Upd.tl));rfl;decide +kernel;clear hS;intro w hS;(try simp only[qS] at hS))|((with_reducible apply yi hS);exact ya;exact yb rfl;exact yb rfl;(repeat (with_reducible first|exact ye|apply yd));rfl;(focus (simp;done));(repeat (with_reducible first|exact Upd.hd|apply Upd.tl));rfl;exact sz72;rfl;clear hS;intro w hS;(try simp only[yp,qS] at hS)));try simp only[qA])
   refine bodyPost_ret (yI rfl rfl (hS.loadWhole (by(repeat (with_reducible first|exact ye|apply yd))) (by kernel_rfl) (by kernel_rfl))) rfl ?_
   exact⟨rfl,hS.sb (by(repeat (with_reducible first|exact Sb.refl|apply Sb.skip)))⟩
 ·have hn1:¬ s=[116,114,117,101]:=fun e=>h1 (.inl e)
  have hn2:¬ s=[102,97,108,115,101]:=fun e=>h1 (.inr (.inl e))
  have hn3:¬ s=[101,120,105,115,116,115]:=fun e=>h1 (.inr (.inr (.inl e)))
  have hn4:¬ s=[102,111,114,97,108,108]:=fun e=>h1 (.inr (.inr (.inr (.inl e))))
  have hn5:¬ s=[105,116,101]:=fun e=>h1 (.inr (.inr (.inr (.inr e))))
  rw[if_neg hn1,if_neg hn2,if_neg hn3,if_neg hn4,if_neg hn5] at ht
  have f1:(s == [116,114,117,101])=false:=beq_eq_false_iff_ne.2 hn1
  have f2:(s == [102,97,108,115,101])=false:=beq_eq_false_iff_ne.2 hn2
  have f3:(s == [101,120,105,115,116,115])=false:=beq_eq_false_iff_ne.2 hn3
  have f4:(s == [102,111,114,97,108,108])=false:=beq_eq_false_iff_ne.2 hn4
  have f5:(s == [105,116,101])=false:=beq_eq_false_iff_ne.2 hn5
  clear hn1 hn2 hn3 hn4 hn5 h1
  obtain⟨c,cs,rfl⟩:∃ c cs,s=c::cs:=by cases s with|nil=>exact absurd rfl h0|cons a b=>exact⟨a,b,rfl⟩
  obtain⟨hp0,hc0⟩:=YD (c::cs) 0 c rfl
  have e120:=YW c 120 120 rfl
  by_cases hx:c=120
  ·subst hx
   rw[beq_self_eq_true] at e120
   simp only at ht
   have hl1:1≤(120::cs:List UInt8).length:=by simp
   have hex:(⟨(120::cs).toArray⟩:ByteArray).extract 1 (120::cs).length=⟨cs.toArray⟩:=by
    apply ByteArray.ext
    simp only[ByteArray.data_extract,List.extract_toArray,List.extract_eq_take_drop]
    simp
   have NR:=JC 65535 (by omega) cs (by simp at hs;omega) w0
   rw[← hex] at NR
   have hN:=km 65535 cs
   have hlc:((120::cs:List UInt8).length:Int)=(cs.length:Int)+1:=by simp
   have hb:∀ d ds,cs=d::ds→∃ hp:1 < (⟨(120::cs).toArray⟩:ByteArray).size,(⟨(120::cs).toArray⟩:ByteArray)[1]'hp=d:=fun d ds e=>YD (120::cs) 1 d (by rw[e];rfl)
   have hld2:∀ d ds,cs=d::ds→ldP d=true:=fun d ds e=>hld d (by rw[e];simp)
   generalize hL:(120::cs:List UInt8)=L at *
   clear hex h0 hL hld
   cases cs with
   | nil =>
    simp only[Bool.false_eq_true,if_false] at ht
    rw[Kg,if_pos (by omega)] at ht
    rw[Kg] at NR
    subst ht
    have hl2:((L.length:Int) == 1)=true:=by simp at hlc ⊢;omega
    clear hlc hb hN hld2
    go_enter Tryz.func57,Tryz.ntmps57
    go_wp2_with ((first|((with_reducible apply yk hS);exact ya;exact z72;clear hS;intro NB w hS)|((with_reducible apply yG hS);exact ya;exact yb rfl;exact ye;exact sz72;decide +kernel;rfl;rfl)|((with_reducible apply yy hS);exact ya;exact yb rfl;(first|exact yb rfl|exact yg);(repeat (with_reducible first|exact ye|apply yd));rfl;(focus (simp;done));(repeat (with_reducible first|exact Upd.hd|apply Upd.tl));rfl;decide +kernel;clear hS;intro w hS;(try simp only[qS] at hS))|((with_reducible apply yi hS);exact ya;exact yb rfl;exact yb rfl;(repeat (with_reducible first|exact ye|apply yd));rfl;(focus (simp;done));(repeat (with_reducible first|exact Upd.hd|apply Upd.tl));rfl;exact sz72;rfl;clear hS;intro w hS;(try simp only[yp,qS] at hS))|(go_at_call 61;refine (NR _ _ hS).mono ?_;clear hS;rintro e w ⟨rfl,hS⟩));try simp only[qA])
    refine bodyPost_ret (yI rfl rfl (hS.loadWhole (by(repeat (with_reducible first|exact ye|apply yd))) (by kernel_rfl) (by kernel_rfl))) rfl ?_
    exact⟨rfl,hS.sb (by(repeat (with_reducible first|exact Sb.refl|apply Sb.skip)))⟩
   | cons d ds =>
    obtain⟨hp1,hd1⟩:=hb d ds rfl
    have hld3:=hld2 d ds rfl
    have hl2:((L.length:Int) == 1)=false:=by simp at hlc ⊢;omega
    have hl3:(1:Int) < (L.length:Int):=by simp at hlc;omega
    have hl4:1 < L.length:=by omega
    have DR:=jF d w0
    simp only at ht
    clear hlc hb hld2
    obtain⟨n,hn⟩:∃ n,n=Yv 65535 (d::ds):=⟨_,rfl⟩
    rw[← hn] at ht NR hN
    clear hn
    replace ht:t=if kD d=true then .bad 131 else if n < 0 then .bad 133 else .var n:=ht
    cases hlt:kD d with
    | true =>
     have hdd:Yc d=false:=let_dig hlt
     rw[hdd] at DR
     rw[hlt] at ht
     simp only[if_true] at ht
     subst ht
     clear hlt hdd hld3
     go_enter Tryz.func57,Tryz.ntmps57
     go_wp2_with ((first|((with_reducible apply yk hS);exact ya;exact z72;clear hS;intro NB w hS)|((with_reducible apply yG hS);exact ya;exact yb rfl;exact ye;exact sz72;decide +kernel;rfl;rfl)|((with_reducible apply yi hS);exact ya;exact yb rfl;exact yb rfl;(repeat (with_reducible first|exact ye|apply yd));rfl;(focus (simp;done));(repeat (with_reducible first|exact Upd.hd|apply Upd.tl));rfl;exact sz72;rfl;clear hS;intro w hS;(try simp only[yp,qS] at hS))|(go_at_call 56;refine (DR _ _ hS).mono ?_;clear hS;rintro e w ⟨rfl,hS⟩));try simp only[qA])
     refine bodyPost_ret (yI rfl rfl (hS.loadWhole (by(repeat (with_reducible first|exact ye|apply yd))) (by kernel_rfl) (by kernel_rfl))) rfl ?_
     exact⟨rfl,hS.sb (by(repeat (with_reducible first|exact Sb.refl|apply Sb.skip)))⟩
    | false =>
     have hdd:Yc d=true:=by simpa [ldP,hlt] using hld3
     rw[hdd] at DR
     rw[hlt] at ht
     simp only[Bool.false_eq_true,if_false] at ht
     clear hlt hdd hld3
     by_cases h0n:n < 0
     ·rw[if_pos h0n] at ht
      subst ht
      have hge:decide (n ≥ 0)=false:=by simp;omega
      go_enter Tryz.func57,Tryz.ntmps57
      go_wp2_with ((first|((with_reducible apply yk hS);exact ya;exact z72;clear hS;intro NB w hS)|((with_reducible apply yG hS);exact ya;exact yb rfl;exact ye;exact sz72;decide +kernel;rfl;rfl)|((with_reducible apply yy hS);exact ya;exact yb rfl;(first|exact yb rfl|exact yg);(repeat (with_reducible first|exact ye|apply yd));rfl;(focus (simp;done));(repeat (with_reducible first|exact Upd.hd|apply Upd.tl));rfl;decide +kernel;clear hS;intro w hS;(try simp only[qS] at hS))|((with_reducible apply yi hS);exact ya;exact yb rfl;exact yb rfl;(repeat (with_reducible first|exact ye|apply yd));rfl;(focus (simp;done));(repeat (with_reducible first|exact Upd.hd|apply Upd.tl));rfl;exact sz72;rfl;clear hS;intro w hS;(try simp only[yp,qS] at hS))|(go_at_call 56;refine (DR _ _ hS).mono ?_;clear hS;rintro e w ⟨rfl,hS⟩)|(go_at_call 61;refine (NR _ _ hS).mono ?_;clear hS;rintro e w ⟨rfl,hS⟩));try simp only[qA])
      refine bodyPost_ret (yI rfl rfl (hS.loadWhole (by(repeat (with_reducible first|exact ye|apply yd))) (by kernel_rfl) (by kernel_rfl))) rfl ?_
      exact⟨rfl,hS.sb (by(repeat (with_reducible first|exact Sb.refl|apply Sb.skip)))⟩
     ·rw[if_neg h0n] at ht
      subst ht
      have hge:0≤n:=by omega
      clear h0n
      go_enter Tryz.func57,Tryz.ntmps57
      go_wp2_with ((first|((with_reducible apply yk hS);exact ya;exact z72;clear hS;intro NB w hS)|((with_reducible apply yG hS);exact ya;exact yb rfl;exact ye;exact sz72;decide +kernel;rfl;rfl)|((with_reducible apply yy hS);exact ya;exact yb rfl;(first|exact yb rfl|exact yg);(repeat (with_reducible first|exact ye|apply yd));rfl;(focus (simp;done));(repeat (with_reducible first|exact Upd.hd|apply Upd.tl));rfl;decide +kernel;clear hS;intro w hS;(try simp only[qS] at hS))|((with_reducible apply yi hS);exact ya;exact yb rfl;exact yb rfl;(repeat (with_reducible first|exact ye|apply yd));rfl;(focus (simp;done));(repeat (with_reducible first|exact Upd.hd|apply Upd.tl));rfl;exact sz72;rfl;clear hS;intro w hS;(try simp only[yp,qS] at hS))|(go_at_call 56;refine (DR _ _ hS).mono ?_;clear hS;rintro e w ⟨rfl,hS⟩)|(go_at_call 61;refine (NR _ _ hS).mono ?_;clear hS;rintro e w ⟨rfl,hS⟩));try simp only[qA])
      refine bodyPost_ret (yI rfl rfl (hS.loadWhole (by(repeat (with_reducible first|exact ye|apply yd))) (by kernel_rfl) (by kernel_rfl))) rfl ?_
      exact⟨rfl,hS.sb (by(repeat (with_reducible first|exact Sb.refl|apply Sb.skip)))⟩
  ·have e120f:(c == 120)=false:=by simp[hx]
   rw[e120f] at e120
   have ht2:t=.bad 131:=by
    rw[ht]
    split
    ·rename_i h;exact absurd (List.cons.inj h).1 hx
    ·rfl
   subst ht2
   clear ht hx e120f hld
   generalize (c::cs:List UInt8)=L at *
   clear h0
   go_enter Tryz.func57,Tryz.ntmps57
   go_wp2_with ((first|((with_reducible apply yk hS);exact ya;exact z72;clear hS;intro NB w hS)|((with_reducible apply yG hS);exact ya;exact yb rfl;exact ye;exact sz72;decide +kernel;rfl;rfl)|((with_reducible apply yi hS);exact ya;exact yb rfl;exact yb rfl;(repeat (with_reducible first|exact ye|apply yd));rfl;(focus (simp;done));(repeat (with_reducible first|exact Upd.hd|apply Upd.tl));rfl;exact sz72;rfl;clear hS;intro w hS;(try simp only[yp,qS] at hS)));try simp only[qA])
   refine bodyPost_ret (yI rfl rfl (hS.loadWhole (by(repeat (with_reducible first|exact ye|apply yd))) (by kernel_rfl) (by kernel_rfl))) rfl ?_
   exact⟨rfl,hS.sb (by(repeat (with_reducible first|exact Sb.refl|apply Sb.skip)))⟩
end
section
set_option maxRecDepth 20000
open Go Go.RowKit Go.SL Go.ClauseP Go.LexP

theorem ldC (c:UInt8) (w0 w:World) (Hs:List HP) (hS:Sat w0 w Hs):Calls Tryz.prog 91 #[.int .u8 c.toNat] w fun e w'=>e=.returned (.bool (ldP c))∧Sat w0 w' Hs:=by
 have LC:=Jz c w0
 have DC:=Ue c w0
 have hx:ldP c=(kD c || Yc c):=rfl
 rw[hx]
 clear hx
 cases h1:kD c <;> rw[h1] at LC <;> clear h1 <;> cases h2:Yc c <;> rw[h2] at DC <;> clear h2
 all_goals
  generalize (c.toNat:Int)=n at *
  go_enter Tryz.func91,Tryz.ntmps91
  go_wp2_with (first|(go_at_call 90;refine (LC _ _ hS).mono ?_;clear hS;rintro e w ⟨rfl,hS⟩)|(go_at_call 82;refine (DC _ _ hS).mono ?_;clear hS;rintro e w ⟨rfl,hS⟩))
  go_ret
  exact⟨rfl,hS⟩
theorem runLd (text:List UInt8) (hl:text.length≤4611686018427387904) (k:Nat) (hk:k≤text.length) (w0 w:World) (Hs:List HP) (hS:Sat w0 w Hs) :
  Calls Tryz.prog 51 #[.string ⟨text.toArray⟩,.int .i64 k,.func (.func 91) #[] #[]] w fun e w'=>e=.returned (.int .i64 (Yw ldP text k))∧Sat w0 w' Hs:=by
 obtain⟨R,hR⟩:∃ R:Nat,R=Yw ldP text k:=⟨_,rfl⟩
 rw[← hR]
 have HR:=hid hR
 clear hR
 go_enter Tryz.func51,Tryz.ntmps51
 go_wp2
 go_loopw [1] (fun i wr=>∃ j:Nat,i=.int .i64 j∧j≤text.length∧Hid (R=Yw ldP text j)∧Sat w0 wr Hs) (fun i _=>text.length - (intOf i).toNat)
 case atStart=>exact⟨k,rfl,hk,HR,hS⟩
 case round =>
  clear hS
  obtain⟨j,rfl,hj,HJ,hS⟩:=hrel
  by_cases hlt:j < text.length
  ·obtain⟨c,hc⟩:∃ c,text[j]?=some c:=⟨_,List.getElem?_eq_getElem hlt⟩
   have WT:=ldC c w0
   have hd:text.drop j=c::text.drop (j+1):=by
    rw[List.drop_eq_getElem_cons hlt];simp[List.getElem?_eq_getElem hlt] at hc;rw[hc]
   have HD:=hid hd
   clear hd
   have hcb:(⟨text.toArray⟩:ByteArray)[j]'(by simpa [ByteArray.size] using hlt)=c:=by
    have:text[j]=c:=by simpa [List.getElem?_eq_getElem hlt] using hc
    simpa [ByteArray.getElem_eq_getElem_data] using this
   clear hc
   cases hp:ldP c with
   | true =>
    rw[hp] at WT
    have HP:=hid hp
    clear hp
    go_wp2_with (go_at_call 91;refine (WT _ _ hS).mono ?_;clear hS;rintro e w ⟨rfl,hS⟩)
    go_roundw
    case rel=>exact⟨j+1,by go_num,by omega,hid (by rw[HJ.out,Yw,Yw,HD.out,List.takeWhile_cons,HP.out];simp;omega),hS⟩
    case measure=>simp[intOf];omega
   | false =>
    rw[hp] at WT
    have HP:=hid (show R=j by rw[HJ.out,Yw,HD.out,List.takeWhile_cons,hp];simp)
    clear hp
    go_wp2_with (go_at_call 91;refine (WT _ _ hS).mono ?_;clear hS;rintro e w ⟨rfl,hS⟩)
    go_ret
    exact⟨by rw[HP.out];rfl,hS⟩
  ·have hj2:j=text.length:=by omega
   subst hj2
   have HP:=hid (show R=text.length by rw[HJ.out,Yw,List.drop_length];simp)
   go_wp2
   go_ret
   exact⟨by rw[HP.out];rfl,hS⟩
theorem runDig (text:List UInt8) (hl:text.length≤4611686018427387904) (k:Nat) (hk:k≤text.length) (w0 w:World) (Hs:List HP) (hS:Sat w0 w Hs) :
  Calls Tryz.prog 51 #[.string ⟨text.toArray⟩,.int .i64 k,.func (.func 82) #[] #[]] w fun e w'=>e=.returned (.int .i64 (Yw Yc text k))∧Sat w0 w' Hs:=by
 obtain⟨R,hR⟩:∃ R:Nat,R=Yw Yc text k:=⟨_,rfl⟩
 rw[← hR]
 have HR:=hid hR
 clear hR
 go_enter Tryz.func51,Tryz.ntmps51
 go_wp2
 go_loopw [1] (fun i wr=>∃ j:Nat,i=.int .i64 j∧j≤text.length∧Hid (R=Yw Yc text j)∧Sat w0 wr Hs) (fun i _=>text.length - (intOf i).toNat)
 case atStart=>exact⟨k,rfl,hk,HR,hS⟩
 case round =>
  clear hS
  obtain⟨j,rfl,hj,HJ,hS⟩:=hrel
  by_cases hlt:j < text.length
  ·obtain⟨c,hc⟩:∃ c,text[j]?=some c:=⟨_,List.getElem?_eq_getElem hlt⟩
   have WT:=Ue c w0
   have hd:text.drop j=c::text.drop (j+1):=by
    rw[List.drop_eq_getElem_cons hlt];simp[List.getElem?_eq_getElem hlt] at hc;rw[hc]
   have HD:=hid hd
   clear hd
   have hcb:(⟨text.toArray⟩:ByteArray)[j]'(by simpa [ByteArray.size] using hlt)=c:=by
    have:text[j]=c:=by simpa [List.getElem?_eq_getElem hlt] using hc
    simpa [ByteArray.getElem_eq_getElem_data] using this
   clear hc
   cases hp:Yc c with
   | true =>
    rw[hp] at WT
    have HP:=hid hp
    clear hp
    go_wp2_with (go_at_call 82;refine (WT _ _ hS).mono ?_;clear hS;rintro e w ⟨rfl,hS⟩)
    go_roundw
    case rel=>exact⟨j+1,by go_num,by omega,hid (by rw[HJ.out,Yw,Yw,HD.out,List.takeWhile_cons,HP.out];simp;omega),hS⟩
    case measure=>simp[intOf];omega
   | false =>
    rw[hp] at WT
    have HP:=hid (show R=j by rw[HJ.out,Yw,HD.out,List.takeWhile_cons,hp];simp)
    clear hp
    go_wp2_with (go_at_call 82;refine (WT _ _ hS).mono ?_;clear hS;rintro e w ⟨rfl,hS⟩)
    go_ret
    exact⟨by rw[HP.out];rfl,hS⟩
  ·have hj2:j=text.length:=by omega
   subst hj2
   have HP:=hid (show R=text.length by rw[HJ.out,Yw,List.drop_length];simp)
   go_wp2
   go_ret
   exact⟨by rw[HP.out];rfl,hS⟩

theorem skip_drop (text:List UInt8) (k:Nat) (b:Bool):Yu b (text.drop k)≤text.length - k:=by
 have:=jk (text.drop k) b
 rwa [List.length_drop] at this
theorem gq:∀ (l:List UInt8),(Lib.indexByte l 10=-1→Yu true l=l.length)∧(∀ j:Nat,Lib.indexByte l 10=j→Yu true l=j+Yu false (l.drop j))
 | []=>⟨fun _=>rfl,fun j h=>by simp[Lib.indexByte] at h⟩
 | c::cs=>by
  obtain⟨h1,h2⟩:=gq cs
  have hge:=Lib.indexByte_ge cs 10
  unfold Lib.indexByte
  by_cases hc:c=10
  ·subst hc
   simp only[beq_self_eq_true,if_true]
   refine ⟨fun h=>by omega,fun j h=>?_⟩
   obtain rfl:j=0:=by omega
   simp[Yu,kN]
  ·have hcb:(c == 10)=false:=by simp[hc]
   simp only[hcb,Bool.false_eq_true,if_false]
   by_cases hm:Lib.indexByte cs 10=-1
   ·have:(Lib.indexByte cs 10 == -1)=true:=by simp[hm]
    simp only[this,if_true]
    refine ⟨fun _=>?_,fun j h=>by omega⟩
    simp[Yu,hc,h1 hm]
    omega
   ·have:(Lib.indexByte cs 10 == -1)=false:=by simp[hm]
    simp only[this,Bool.false_eq_true,if_false]
    refine ⟨fun h=>by omega,fun j h=>?_⟩
    obtain⟨i,rfl⟩:∃ i,j=i+1:=⟨j - 1,by omega⟩
    have:=h2 i (by omega)
    simp[Yu,hc,this]
    omega
theorem idx_hash (cs:List UInt8):Lib.indexByte (35::cs) 10=-1∨1≤Lib.indexByte (35::cs) 10:=by
 have hge:=Lib.indexByte_ge cs 10
 unfold Lib.indexByte
 simp only[show ((35:UInt8) == 10)=false from rfl,Bool.false_eq_true,if_false]
 split
 ·exact .inl rfl
 ·rename_i h
  right
  have:¬ Lib.indexByte cs 10=-1:=by simpa using h
  omega
theorem idx_lt:∀ (l:List UInt8) (j:Nat),Lib.indexByte l 10=j→j < l.length
 | [],j,h=>by simp[Lib.indexByte] at h
 | c::cs,j,h=>by
  have hge:=Lib.indexByte_ge cs 10
  unfold Lib.indexByte at h
  by_cases hc:c=10
  ·subst hc
   simp only[beq_self_eq_true,if_true] at h
   simp only[List.length_cons]
   omega
  ·have hcb:(c == 10)=false:=by simp[hc]
   simp only[hcb,Bool.false_eq_true,if_false] at h
   by_cases hm:Lib.indexByte cs 10=-1
   ·have:(Lib.indexByte cs 10 == -1)=true:=by simp[hm]
    simp only[this,if_true] at h
    omega
   ·have:(Lib.indexByte cs 10 == -1)=false:=by simp[hm]
    simp only[this,Bool.false_eq_true,if_false] at h
    obtain⟨i,rfl⟩:∃ i,j=i+1:=⟨j - 1,by omega⟩
    have:=idx_lt cs i (by omega)
    simp only[List.length_cons]
    omega
theorem UK (text:List UInt8) (k:Nat) (h:k≤text.length):k≤Yf text k∧Yf text k≤text.length:=by
 have:=skip_drop text k false
 unfold Yf
 omega
set_option maxHeartbeats 1000000 in
theorem skipC (text:List UInt8) (hl:text.length≤1048576) (k:Nat) (hk:k≤text.length) (w0 w:World) (Hs:List HP) (hS:Sat w0 w Hs) :
  Calls Tryz.prog 73 #[.string ⟨text.toArray⟩,.int .i64 k] w fun e w'=>e=.returned (.int .i64 (Yf text k))∧Sat w0 w' Hs:=by
 obtain⟨R,hR⟩:∃ R:Nat,R=Yf text k:=⟨_,rfl⟩
 rw[← hR]
 have HR:=hid hR
 clear hR
 go_enter Tryz.func73,Tryz.ntmps73
 go_wp2
 go_loopw [1] (fun i wr=>∃ j:Nat,i=.int .i64 j∧j≤text.length∧Hid (R=Yf text j)∧Sat w0 wr Hs) (fun i _=>text.length - (intOf i).toNat)
 case atStart=>exact⟨k,rfl,hk,HR,hS⟩
 case round =>
  clear hS HR
  obtain⟨j,rfl,hj,HJ,hS⟩:=hrel
  by_cases hlt:j < text.length
  ·obtain⟨c,hc⟩:∃ c,text[j]?=some c:=⟨_,List.getElem?_eq_getElem hlt⟩
   obtain⟨hpj,hcj⟩:=YD text j c hc
   have hd:text.drop j=c::text.drop (j+1):=by
    rw[List.drop_eq_getElem_cons hlt];simp[List.getElem?_eq_getElem hlt] at hc;rw[hc]
   have HD:=hid hd
   have e1:=YW c 32 32 rfl
   have e2:=YW c 9 9 rfl
   have e3:=YW c 10 10 rfl
   have e4:=YW c 13 13 rfl
   have e5:=YW c 35 35 rfl
   clear hc
   cases hb:kN c with
   | true =>
    have HJ2:=hid (show R=Yf text (j+1) by rw[HJ.out,Yf,HD.out,Yu,if_pos hb,Yf];omega)
    have hb2:=hb
    clear hb hd
    simp only[kN,Bool.or_eq_true] at hb2
    cases h1:(c == 32) <;> rw[h1] at e1 hb2 <;> clear h1
    ·cases h2:(c == 9) <;> rw[h2] at e2 hb2 <;> clear h2
     ·cases h3:(c == 10) <;> rw[h3] at e3 hb2 <;> clear h3
      ·have h4:(c == 13)=true:=by simpa using hb2
       rw[h4] at e4
       clear hb2 h4
       go_wp2
       go_roundw
       case rel=>exact⟨j+1,by go_num,by omega,HJ2,hS⟩
       case measure=>simp[intOf];omega
      ·clear hb2
       go_wp2
       go_roundw
       case rel=>exact⟨j+1,by go_num,by omega,HJ2,hS⟩
       case measure=>simp[intOf];omega
     ·clear hb2
      go_wp2
      go_roundw
      case rel=>exact⟨j+1,by go_num,by omega,HJ2,hS⟩
      case measure=>simp[intOf];omega
    ·clear hb2
     go_wp2
     go_roundw
     case rel=>exact⟨j+1,by go_num,by omega,HJ2,hS⟩
     case measure=>simp[intOf];omega
   | false =>
    have hb2:=hb
    simp only[kN,Bool.or_eq_false_iff] at hb2
    obtain⟨⟨⟨b1,b2⟩,b3⟩,b4⟩:=hb2
    rw[b1] at e1
    rw[b2] at e2
    rw[b3] at e3
    rw[b4] at e4
    have HB:=hid hb
    clear b1 b2 b3 b4 hb
    by_cases h35:c=35
    ·subst h35
     have hx:=(gq (text.drop j))
     have hi:=idx_hash (text.drop (j+1))
     rw[← hd] at hi
     have hil:=idx_lt (text.drop j)
     have hSk:Yu false (text.drop j)=Yu true (text.drop j):=by rw[hd];simp[Yu,kN]
     have hex:(⟨text.toArray⟩:ByteArray).extract j text.length=⟨(text.drop j).toArray⟩:=by
      apply ByteArray.ext
      simp only[ByteArray.data_extract,List.extract_toArray,List.extract_eq_take_drop]
      rw[List.take_of_length_le (by rw[List.length_drop];omega)]
     have IX:=Tryz.strings_IndexByte ((⟨text.toArray⟩:ByteArray).extract j text.length) 10
     have hdl:((⟨text.toArray⟩:ByteArray).extract j text.length).data.toList=text.drop j:=by rw[hex]
     rw[hdl] at IX
     simp only[show ((10:Int).toNat.toUInt8)=10 from rfl] at IX
     rw[List.length_drop] at hx hil
     clear hdl hex hd
     rcases hi with hi|hi
     ·rw[hi] at IX
      have HR2:=hid (show R=text.length by rw[HJ.out,Yf,hSk,hx.1 hi];omega)
      clear hi hx hSk hil
      go_wp2_with (go_at_call 89;refine (IX _).mono ?_;rintro e w' ⟨rfl,rfl⟩)
      go_ret
      exact⟨by rw[HR2.out];rfl,hS⟩
     ·obtain⟨n,hn⟩:∃ n:Nat,Lib.indexByte (text.drop j) 10=n:=⟨(Lib.indexByte (text.drop j) 10).toNat,by omega⟩
      rw[hn] at IX hi
      have hnl:=hil n hn
      have HJ2:=hid (show R=Yf text (j+n) by rw[HJ.out,Yf,hSk,hx.2 n hn,Yf,List.drop_drop];omega)
      clear hx hSk hil hn
      go_wp2_with (go_at_call 89;refine (IX _).mono ?_;rintro e w' ⟨rfl,rfl⟩)
      go_roundw
      case rel=>exact⟨j+n,by go_num,by omega,HJ2,hS⟩
      case measure=>simp[intOf];omega
    ·rw[show (c == 35)=false by simp[h35]] at e5
     have HR2:=hid (show R=j by rw[HJ.out,Yf,HD.out,Yu,if_neg (by rw[HB.out];simp),if_neg h35];omega)
     clear h35 hd
     go_wp2
     go_ret
     exact⟨by rw[HR2.out];rfl,hS⟩
  ·obtain rfl:j=text.length:=by omega
   have HR2:=hid (show R=text.length by rw[HJ.out,Yf,List.drop_length];rfl)
   go_wp2
   go_ret
   exact⟨by rw[HR2.out];rfl,hS⟩
end
end Go.Proofs.YteopodbkhgcpmaaGreatDoor
namespace Go.LexP
section
set_option maxRecDepth 20000
open Go Go.ClauseP

theorem get_l (l:List UInt8) (k:Nat):(⟨l.toArray⟩:ByteArray).get! k=l.getD k 0:=by
 show (l.toArray)[k]! = _
 simp[getElem!_def,List.getD]
 rfl
theorem Gm (l:List UInt8):(⟨l.toArray⟩:ByteArray).size=l.length:=by simp[ByteArray.size]
def Yo (l:List UInt8):Nat:=(Utf8.decode ⟨l.toArray⟩ 0).1
theorem JI (l:List UInt8) (c b0 b1 b2:Nat) (hb0:b0 / 16=14) (hb1:b1 / 64=2) (hb2:b2 / 64=2) (hc:c=(b0 % 16)*4096+(b1 % 64)*64+b2 % 64) (h1:2048≤c) (h2:c < 55296) :
  Yo l=c↔(2 < l.length∧(l.getD 0 0).toNat=b0∧(l.getD 1 0).toNat=b1∧(l.getD 2 0).toNat=b2):=by
 unfold Yo
 simp only[Utf8.decode,get_l,Gm,Nat.zero_add,Nat.add_zero]
 have k0:=(l.getD 0 0).toNat_lt
 have k1:=(l.getD 1 0).toNat_lt
 have k2:=(l.getD 2 0).toNat_lt
 have k3:=(l.getD 3 0).toNat_lt
 generalize (l.getD 0 0).toNat=a0 at *
 generalize (l.getD 1 0).toNat=a1 at *
 generalize (l.getD 2 0).toNat=a2 at *
 generalize (l.getD 3 0).toNat=a3 at *
 constructor
 ·intro h
  split at h
  ·simp only at h;omega
  ·split at h
   ·split at h <;> simp only[Utf8.runeError] at h <;> omega
   ·split at h
    ·rename_i hh
     simp only[Bool.and_eq_true,beq_iff_eq,decide_eq_true_eq] at hh
     split at h
     ·simp only at h;omega
     ·simp only[Utf8.runeError] at h;omega
    ·split at h
     ·split at h
      ·rename_i hh
       simp only[Bool.and_eq_true,decide_eq_true_eq] at hh
       simp only at h;omega
      ·simp only[Utf8.runeError] at h;omega
     ·simp only[Utf8.runeError] at h;omega
 ·rintro⟨hl,rfl,rfl,rfl⟩
  rw[if_neg (by omega)]
  rw[if_neg (by simp only[Bool.and_eq_true,beq_iff_eq,decide_eq_true_eq];omega)]
  rw[if_pos (by simp only[Bool.and_eq_true,beq_iff_eq,decide_eq_true_eq];omega)]
  rw[if_pos (by simp only[Bool.and_eq_true,decide_eq_true_eq,Utf8.valid];first|omega|(simp;omega))]
  exact hc.symm
theorem rune2 (l:List UInt8):Yo l=172↔(1 < l.length∧(l.getD 0 0).toNat=194∧(l.getD 1 0).toNat=172):=by
 unfold Yo
 simp only[Utf8.decode,get_l,Gm,Nat.zero_add,Nat.add_zero]
 have k0:=(l.getD 0 0).toNat_lt
 have k1:=(l.getD 1 0).toNat_lt
 have k2:=(l.getD 2 0).toNat_lt
 have k3:=(l.getD 3 0).toNat_lt
 generalize (l.getD 0 0).toNat=a0 at *
 generalize (l.getD 1 0).toNat=a1 at *
 generalize (l.getD 2 0).toNat=a2 at *
 generalize (l.getD 3 0).toNat=a3 at *
 constructor
 ·intro h
  split at h
  ·simp only at h;omega
  ·split at h
   ·rename_i hh
    simp only[Bool.and_eq_true,beq_iff_eq,decide_eq_true_eq] at hh
    split at h
    ·simp only at h;omega
    ·simp only[Utf8.runeError] at h;omega
   ·split at h
    ·split at h
     ·rename_i hh
      simp only[Bool.and_eq_true,decide_eq_true_eq] at hh
      simp only at h;omega
     ·simp only[Utf8.runeError] at h;omega
    ·split at h
     ·split at h
      ·rename_i hh
       simp only[Bool.and_eq_true,decide_eq_true_eq] at hh
       simp only at h;omega
      ·simp only[Utf8.runeError] at h;omega
     ·simp only[Utf8.runeError] at h;omega
 ·rintro⟨hl,rfl,rfl⟩
  simp[hl]
theorem Xi (l:List UInt8) (x y z:UInt8):[x,y,z].isPrefixOf l=true↔(2 < l.length∧(l.getD 0 0).toNat=x.toNat∧(l.getD 1 0).toNat=y.toNat∧(l.getD 2 0).toNat=z.toNat):=by
 match l with
 | []=>simp
 | [a]=>simp
 | [a,b]=>simp
 | a::b::c::t =>
  simp only[List.isPrefixOf_cons_cons,List.isPrefixOf_nil_left,Bool.and_true,Bool.and_eq_true,beq_iff_eq]
  simp only[List.length_cons,List.getD_cons_zero,List.getD_cons_succ]
  constructor
  ·rintro⟨rfl,rfl,rfl⟩;exact⟨by omega,rfl,rfl,rfl⟩
  ·rintro⟨_,h1,h2,h3⟩;exact⟨(UInt8.toNat_inj.1 h1).symm,(UInt8.toNat_inj.1 h2).symm,(UInt8.toNat_inj.1 h3).symm⟩
theorem pre2 (l:List UInt8) (x y:UInt8):[x,y].isPrefixOf l=true↔(1 < l.length∧(l.getD 0 0).toNat=x.toNat∧(l.getD 1 0).toNat=y.toNat):=by
 match l with
 | []=>simp
 | [a]=>simp
 | a::b::t =>
  simp only[List.isPrefixOf_cons_cons,List.isPrefixOf_nil_left,Bool.and_true,Bool.and_eq_true,beq_iff_eq]
  simp only[List.length_cons,List.getD_cons_zero,List.getD_cons_succ]
  constructor
  ·rintro⟨rfl,rfl⟩;exact⟨by omega,rfl,rfl⟩
  ·rintro⟨_,h1,h2⟩;exact⟨(UInt8.toNat_inj.1 h1).symm,(UInt8.toNat_inj.1 h2).symm⟩
theorem rune_is (l:List UInt8):(([194,172]:List UInt8).isPrefixOf l=decide (Yo l=172))∧(([226,136,167]:List UInt8).isPrefixOf l=decide (Yo l=8743))∧(([226,136,168]:List UInt8).isPrefixOf l=decide (Yo l=8744)) ∧
  (([226,138,149]:List UInt8).isPrefixOf l=decide (Yo l=8853))∧(([226,134,146]:List UInt8).isPrefixOf l=decide (Yo l=8594))∧(([226,134,148]:List UInt8).isPrefixOf l=decide (Yo l=8596)) ∧
  (([226,136,131]:List UInt8).isPrefixOf l=decide (Yo l=8707))∧(([226,136,128]:List UInt8).isPrefixOf l=decide (Yo l=8704))∧(([226,138,164]:List UInt8).isPrefixOf l=decide (Yo l=8868))∧(([226,138,165]:List UInt8).isPrefixOf l=decide (Yo l=8869)):=by
 have key:∀ (b:Bool) (p:Prop) [Decidable p],(b=true↔p)→b=decide p:=fun b p _ h=>by
  cases b with
  | true=>exact(decide_eq_true (h.1 rfl)).symm
  | false=>exact(decide_eq_false (fun hp=>by have:=h.2 hp;cases this)).symm
 refine ⟨key _ _ ((pre2 l 194 172).trans (rune2 l).symm),key _ _ ((Xi l 226 136 167).trans (JI l 8743 226 136 167 (by decide) (by decide) (by decide) (by decide) (by decide) (by decide)).symm),
  key _ _ ((Xi l 226 136 168).trans (JI l 8744 226 136 168 (by decide) (by decide) (by decide) (by decide) (by decide) (by decide)).symm),key _ _ ((Xi l 226 138 149).trans (JI l 8853 226 138 149 (by decide) (by decide) (by decide) (by decide) (by decide) (by decide)).symm),
  key _ _ ((Xi l 226 134 146).trans (JI l 8594 226 134 146 (by decide) (by decide) (by decide) (by decide) (by decide) (by decide)).symm),key _ _ ((Xi l 226 134 148).trans (JI l 8596 226 134 148 (by decide) (by decide) (by decide) (by decide) (by decide) (by decide)).symm),
  key _ _ ((Xi l 226 136 131).trans (JI l 8707 226 136 131 (by decide) (by decide) (by decide) (by decide) (by decide) (by decide)).symm),key _ _ ((Xi l 226 136 128).trans (JI l 8704 226 136 128 (by decide) (by decide) (by decide) (by decide) (by decide) (by decide)).symm),
  key _ _ ((Xi l 226 138 164).trans (JI l 8868 226 138 164 (by decide) (by decide) (by decide) (by decide) (by decide) (by decide)).symm),key _ _ ((Xi l 226 138 165).trans (JI l 8869 226 138 165 (by decide) (by decide) (by decide) (by decide) (by decide) (by decide)).symm)⟩
end
end Go.LexP
namespace Go.SL
section
open Go Go.RowKit
section
variable {P:Program} {ops:Array Oper} {Q:Exit→Act→World→Prop} {rest:List Oper} {a:Act} {w w0:World} {Hs:List HP}
theorem xl {dst:Option Tmp} {t:TypeId} {x:Operand} {ty:TypeId} {pos:String} {after:Array Edge} {gd:Option (Nat × Bool)} (hS:Sat w0 w Hs)
  (hw:Region.wanted ⟨dst,.range t x,ty,pos,after,gd⟩ (yielded ops a.tmps)=true) {s:ByteArray} (hx:a.eval x=.string s) (ht:P.underlying t=some .string)
  (K:∀ b w',Sat w0 w' (pt b (.stringIter s 0)::Hs)→wpList P ops Q rest (a.put dst (.pointer (some ⟨b,0,none⟩))) w'):wpList P ops Q (⟨dst,.range t x,ty,pos,after,gd⟩::rest) a w:=by
 have hr:(execOp a.eval ⟨dst,.range t x,ty,pos,after,gd⟩).run P w=.ok (.value (.pointer (some ⟨w.heap.size,0,none⟩))) (w.iter s 0):=by
  simp[execOp,hx,run_range_string w t s ht]
 exact yW hw hr (K _ _ (hS.alloc (.stringIter s 0)))
theorem XH {dst:Option Tmp} {x:Operand} {ty:TypeId} {ps:String} {after:Array Edge} {gd:Option (Nat × Bool)} (hS:Sat w0 w Hs)
  (hw:Region.wanted ⟨dst,.next x true,ty,ps,after,gd⟩ (yielded ops a.tmps)=true) {b:Nat} (hx:a.eval x=.pointer (some ⟨b,0,none⟩)) {s:ByteArray} {pos:Nat} (hm:pt b (.stringIter s pos)∈Hs) (h:pos < s.size)
  {Hs':List HP} (u:Upd Hs (pt b (.stringIter s pos)) (pt b (.stringIter s (pos+(Utf8.decode s pos).2))) Hs')
  (K:∀ w',Sat w0 w' Hs'→wpList P ops Q rest (a.put dst (.tuple #[.bool true,.int .i64 pos,.int .i32 ((Utf8.decode s pos).1:Int)])) w'):wpList P ops Q (⟨dst,.next x true,ty,ps,after,gd⟩::rest) a w:=by
 have hb:=hS.block hm
 have hr:(execOp a.eval ⟨dst,.next x true,ty,ps,after,gd⟩).run P w=.ok (.value (.tuple #[.bool true,.int .i64 pos,.int .i32 ((Utf8.decode s pos).1:Int)])) (w.iterAt b s (pos+(Utf8.decode s pos).2)):=by
  simp[execOp,hx,Lib.run_next_any_at w b s pos ty hb h]
 have hlt:=(Array.getElem?_eq_some_iff.1 hb).1
 refine yW hw hr (K _ (hS.setObj u rfl rfl rfl (by simp[World.iterAt]) ?_ fun c hc=>?_))
 ·simp[World.iterAt,hlt]
 ·simp[World.iterAt,Array.getElem?_setIfInBounds,Ne.symm hc]
end
end
end Go.SL
namespace Go.Proofs.YteopodbkhgcpmaaGreatDoor
section
set_option maxRecDepth 20000
open Go Go.RowKit Go.SL Go.ClauseP Go.LexP

def sgV:List (List UInt8 × Tk)→List Value
 | []=>[]
 | x::xs=>.string ⟨x.1.toArray⟩::.int .i64 (yZ x.2).1::sgV xs
theorem sgV_at:∀ (xs:List (List UInt8 × Tk)) (j:Nat) (x:List UInt8 × Tk),xs[j]?=some x→((sgV xs).drop (j*2)).take 2=[.string ⟨x.1.toArray⟩,.int .i64 (yZ x.2).1]
 | [],j,x,h=>by simp at h
 | y::xs,0,x,h=>by simp at h;subst h;rfl
 | y::xs,j+1,x,h=>by
  have h2:=sgV_at xs j x (by simpa using h)
  rw[show (j+1)*2=j*2+2 by omega]
  simpa [sgV] using h2
theorem gn:∀ x∈signs11,yZ x.2=((yZ x.2).1,0,0)∧x.1.length≤3∧x.1.length≠0:=by decide
def kY (w0:World):Prop:=∃ ad cap,w0.cell? ⟨1,0,none⟩=some (.slice ad 11 cap)∧Rd (YF w0) ad (sgV signs11)∧∃ aa,ad=some aa∧aa.spot=none
theorem gS (l:List UInt8):Instr.findNow (.int .i32) (.int .i32 (Yo l:Int)) UH 0=some (if Yo l=172 then some (0,.agg #[.int .i64 3,.int .i64 0,.int .i64 0,.int .i64 0]) else if Yo l=8743 then some (1,.agg #[.int .i64 4,.int .i64 0,.int .i64 0,.int .i64 0])
  else if Yo l=8744 then some (2,.agg #[.int .i64 5,.int .i64 0,.int .i64 0,.int .i64 0]) else if Yo l=8853 then some (3,.agg #[.int .i64 6,.int .i64 0,.int .i64 0,.int .i64 0]) else if Yo l=8594 then some (4,.agg #[.int .i64 7,.int .i64 0,.int .i64 0,.int .i64 0])
  else if Yo l=8596 then some (5,.agg #[.int .i64 8,.int .i64 0,.int .i64 0,.int .i64 0]) else if Yo l=8707 then some (6,.agg #[.int .i64 13,.int .i64 0,.int .i64 0,.int .i64 0]) else if Yo l=8704 then some (7,.agg #[.int .i64 14,.int .i64 0,.int .i64 0,.int .i64 0])
  else if Yo l=8868 then some (8,.agg #[.int .i64 1,.int .i64 1,.int .i64 0,.int .i64 0]) else if Yo l=8869 then some (9,.agg #[.int .i64 1,.int .i64 0,.int .i64 0,.int .i64 0]) else none):=by
 generalize Yo l=r
 have e:∀ n:Nat,((r:Int) == (n:Int))=decide (r=n):=fun n=>by
  by_cases h:r=n
  ·subst h;simp
  ·rw[decide_eq_false h];exact beq_eq_false_iff_ne.2 (by omega)
 unfold UH
 have e1:((r:Int) == 172)=decide (r=172):=e 172
 have e2:((r:Int) == 8743)=decide (r=8743):=e 8743
 have e3:((r:Int) == 8744)=decide (r=8744):=e 8744
 have e4:((r:Int) == 8853)=decide (r=8853):=e 8853
 have e5:((r:Int) == 8594)=decide (r=8594):=e 8594
 have e6:((r:Int) == 8596)=decide (r=8596):=e 8596
 have e7:((r:Int) == 8707)=decide (r=8707):=e 8707
 have e8:((r:Int) == 8704)=decide (r=8704):=e 8704
 have e9:((r:Int) == 8868)=decide (r=8868):=e 8868
 have e10:((r:Int) == 8869)=decide (r=8869):=e 8869
 clear e
 simp only[Instr.findNow,Instr.sameNow,if_true,e1,e2,e3,e4,e5,e6,e7,e8,e9,e10]
 by_cases h1:r=172
 ·simp[h1]
 by_cases h2:r=8743
 ·simp[h2]
 by_cases h3:r=8744
 ·simp[h3]
 by_cases h4:r=8853
 ·simp[h4]
 by_cases h5:r=8594
 ·simp[h5]
 by_cases h6:r=8596
 ·simp[h6]
 by_cases h7:r=8707
 ·simp[h7]
 by_cases h8:r=8704
 ·simp[h8]
 by_cases h9:r=8868
 ·simp[h9]
 by_cases h10:r=8869 <;> simp[h1,h2,h3,h4,h5,h6,h7,h8,h9,h10]
theorem sign_rune (l:List UInt8):(signs10.find? fun s=>s.1.isPrefixOf l)=if Yo l=172 then some ([194,172],.not) else if Yo l=8743 then some ([226,136,167],.op 6) else if Yo l=8744 then some ([226,136,168],.op 7)
  else if Yo l=8853 then some ([226,138,149],.op 8) else if Yo l=8594 then some ([226,134,146],.op 9) else if Yo l=8596 then some ([226,134,148],.op 10) else if Yo l=8707 then some ([226,136,131],.quant 4)
  else if Yo l=8704 then some ([226,136,128],.quant 5) else if Yo l=8868 then some ([226,138,164],.const 1) else if Yo l=8869 then some ([226,138,165],.const 0) else none:=by
 obtain⟨r1,r2,r3,r4,r5,r6,r7,r8,r9,r10⟩:=rune_is l
 unfold signs10
 simp only[List.find?,r1,r2,r3,r4,r5,r6,r7,r8,r9,r10]
 generalize Yo l=r
 by_cases h1:r=172
 ·simp[h1]
 by_cases h2:r=8743
 ·simp[h2]
 by_cases h3:r=8744
 ·simp[h3]
 by_cases h4:r=8853
 ·simp[h4]
 by_cases h5:r=8594
 ·simp[h5]
 by_cases h6:r=8596
 ·simp[h6]
 by_cases h7:r=8707
 ·simp[h7]
 by_cases h8:r=8704
 ·simp[h8]
 by_cases h9:r=8868
 ·simp[h9]
 by_cases h10:r=8869 <;> simp[h1,h2,h3,h4,h5,h6,h7,h8,h9,h10]
theorem Ys {P:Program} {w:World} {fn:Func} {t t':Tmp} {T:TypeId} (h:fn.results=#[.cell t T,.tmp t']) {tmps:Array Value} {ad:Addr} (hp:tmps.getD t undef=.pointer (some ad)) {v v':Value} (hp':tmps.getD t' undef=v')
  (hl:(loadVar T ad).run P w=.ok v w):(results fn tmps).run P w=.ok (.tuple #[v,v']) w:=by
 rw[Array.getD_eq_getD_getElem?] at hp hp'
 simp[results,h,hp,hp',asAddr,hl]
theorem gQ (text:List UInt8) (p:UInt8→Bool) (k:Nat) (hk:k≤text.length):(⟨text.toArray⟩:ByteArray).extract k (Yw p text k)=⟨((text.drop k).takeWhile p).toArray⟩:=by
 have h1:((text.drop k).takeWhile p).length≤(text.drop k).length:=(List.takeWhile_sublist _).length_le
 rw[List.length_drop] at h1
 apply ByteArray.ext
 simp only[ByteArray.data_extract,List.extract_toArray,List.extract_eq_take_drop,Yw]
 rw[Nat.add_sub_cancel_left]
 congr 1
 exact(List.prefix_iff_eq_take.1 (List.takeWhile_prefix _)).symm
theorem run_bd (text:List UInt8) (p:UInt8→Bool) (k:Nat) (hk:k≤text.length):k≤Yw p text k∧Yw p text k≤text.length:=by
 have h1:((text.drop k).takeWhile p).length≤(text.drop k).length:=(List.takeWhile_sublist _).length_le
 rw[List.length_drop] at h1
 unfold Yw
 omega
set_option maxHeartbeats 1000000 in
theorem pieceWord (text:List UInt8) (hl:text.length≤1048576) (k:Nat) (c:UInt8) (hc:text[k]?=some c) (hw:kD c=true) (w0 w:World) (Hs:List HP) (hS:Sat w0 w Hs) :
  Calls Tryz.prog 74 #[.string ⟨text.toArray⟩,.int .i64 k] w fun e w'=>e=.returned (.tuple #[xg (Kp ((text.drop k).takeWhile ldP)) 0,.int .i64 (Yw ldP text k)])∧Sat w0 w' Hs:=by
 have hlt:=(List.getElem?_eq_some_iff.1 hc).1
 obtain⟨hpk,hck⟩:=YD text k c hc
 have hex:=gQ text ldP k (by omega)
 obtain⟨b1,b2⟩:=run_bd text ldP k (by omega)
 have LC:=Jz c w0
 rw[hw] at LC
 have RC:=runLd text (by omega) k (by omega) w0
 have hne:(text.drop k).takeWhile ldP≠[]:=by
  rw[List.drop_eq_getElem_cons hlt]
  have:text[k]=c:=(List.getElem?_eq_some_iff.1 hc).2
  rw[this,List.takeWhile_cons,show ldP c=true by simp[ldP,hw]]
  simp
 have hsl:((text.drop k).takeWhile ldP).length≤140737488351232:=by
  have h1:((text.drop k).takeWhile ldP).length≤(text.drop k).length:=(List.takeWhile_sublist _).length_le
  rw[List.length_drop] at h1
  omega
 have WC:=wordC _ hne hsl w0
 rw[← hex] at WC
 generalize Kp ((text.drop k).takeWhile ldP)=t at *
 generalize Yw ldP text k=q at *
 clear hex hne hsl hc hw
 have hkq:(k:Int)≤(q:Int):=by omega
 have hql:(q:Int)≤(text.length:Int):=by omega
 go_enter Tryz.func74,Tryz.ntmps74
 go_wp2_with ((first|((with_reducible apply yk hS);exact ya;exact z49;clear hS;intro NB w hS)|(go_at_call 90;refine (LC _ _ hS).mono ?_;clear hS;rintro e w ⟨rfl,hS⟩)|(go_at_call 51;refine (RC _ _ hS).mono ?_;clear hS;rintro e w ⟨rfl,hS⟩)|(go_at_call 92;refine (WC _ _ hS).mono ?_;clear hS;rintro e w ⟨rfl,hS⟩)|((with_reducible apply yi hS);exact ya;exact yb rfl;exact yb rfl;exact ye;rfl;(focus (simp;done));exact Upd.hd;rfl;exact sz49;rfl;clear hS;intro w hS;(try simp only[yp,qS] at hS)));try simp only[qA])
 refine bodyPost_ret (Ys rfl rfl rfl (hS.loadWhole (by(exact ye)) (by kernel_rfl) (by kernel_rfl))) rfl ?_
 exact⟨rfl,hS.sb (by(repeat (with_reducible first|exact Sb.refl|apply Sb.skip)))⟩
set_option maxHeartbeats 1000000 in
theorem pieceNum (text:List UInt8) (hl:text.length≤1048576) (k:Nat) (c:UInt8) (hc:text[k]?=some c) (hw:kD c=false) (hg:Yc c=true) (w0 w:World) (Hs:List HP) (hS:Sat w0 w Hs) :
  Calls Tryz.prog 74 #[.string ⟨text.toArray⟩,.int .i64 k] w fun e w'=>e=.returned (.tuple #[xg (if Yv 1 ((text.drop k).takeWhile Yc) < 0 then .bad 133 else .const (Yv 1 ((text.drop k).takeWhile Yc))) 0,.int .i64 (Yw Yc text k)])∧Sat w0 w' Hs:=by
 have hlt:=(List.getElem?_eq_some_iff.1 hc).1
 obtain⟨hpk,hck⟩:=YD text k c hc
 have hex:=gQ text Yc k (by omega)
 obtain⟨b1,b2⟩:=run_bd text Yc k (by omega)
 have LC:=Jz c w0
 have DC:=Ue c w0
 rw[hw] at LC
 rw[hg] at DC
 have RC:=runDig text (by omega) k (by omega) w0
 have hsl:((text.drop k).takeWhile Yc).length≤140737488351232:=by
  have h1:((text.drop k).takeWhile Yc).length≤(text.drop k).length:=(List.takeWhile_sublist _).length_le
  rw[List.length_drop] at h1
  omega
 have NC:=KZ 1 (by omega) _ hsl w0
 rw[← hex] at NC
 generalize Yv 1 ((text.drop k).takeWhile Yc)=n at *
 generalize Yw Yc text k=q at *
 clear hex hsl hc hw hg
 have hkq:(k:Int)≤(q:Int):=by omega
 have hql:(q:Int)≤(text.length:Int):=by omega
 by_cases hn:n < 0
 ·rw[if_pos hn]
  have hn2:decide (n ≥ 0)=false:=by simp;omega
  go_enter Tryz.func74,Tryz.ntmps74
  go_wp2_with ((first|((with_reducible apply yk hS);exact ya;exact z49;clear hS;intro NB w hS)|(go_at_call 90;refine (LC _ _ hS).mono ?_;clear hS;rintro e w ⟨rfl,hS⟩)|(go_at_call 82;refine (DC _ _ hS).mono ?_;clear hS;rintro e w ⟨rfl,hS⟩)|(go_at_call 51;refine (RC _ _ hS).mono ?_;clear hS;rintro e w ⟨rfl,hS⟩)|(go_at_call 53;refine (NC _ _ hS).mono ?_;clear hS;rintro e w ⟨rfl,hS⟩)|((with_reducible apply yi hS);exact ya;exact yb rfl;exact yb rfl;exact ye;rfl;(focus (simp;done));exact Upd.hd;rfl;exact sz49;rfl;clear hS;intro w hS;(try simp only[yp,qS] at hS)));try simp only[qA])
  refine bodyPost_ret (Ys rfl rfl rfl (hS.loadWhole (by(exact ye)) (by kernel_rfl) (by kernel_rfl))) rfl ?_
  exact⟨rfl,hS.sb (by(repeat (with_reducible first|exact Sb.refl|apply Sb.skip)))⟩
 ·rw[if_neg hn]
  have hn2:decide (n ≥ 0)=true:=by simp;omega
  go_enter Tryz.func74,Tryz.ntmps74
  go_wp2_with ((first|((with_reducible apply yk hS);exact ya;exact z49;clear hS;intro NB w hS)|(go_at_call 90;refine (LC _ _ hS).mono ?_;clear hS;rintro e w ⟨rfl,hS⟩)|(go_at_call 82;refine (DC _ _ hS).mono ?_;clear hS;rintro e w ⟨rfl,hS⟩)|(go_at_call 51;refine (RC _ _ hS).mono ?_;clear hS;rintro e w ⟨rfl,hS⟩)|(go_at_call 53;refine (NC _ _ hS).mono ?_;clear hS;rintro e w ⟨rfl,hS⟩)|((with_reducible apply yi hS);exact ya;exact yb rfl;exact yb rfl;exact ye;rfl;(focus (simp;done));exact Upd.hd;rfl;exact sz49;rfl;clear hS;intro w hS;(try simp only[yp,qS] at hS)));try simp only[qA])
  refine bodyPost_ret (Ys rfl rfl rfl (hS.loadWhole (by(exact ye)) (by kernel_rfl) (by kernel_rfl))) rfl ?_
  exact⟨rfl,hS.sb (by(repeat (with_reducible first|exact Sb.refl|apply Sb.skip)))⟩
theorem sign_at (l:List UInt8) (j:Nat) (x:List UInt8 × Tk) (hx:signs11[j]?=some x) (hn:∀ i y,i < j→signs11[i]?=some y→y.1.isPrefixOf l=false) (hp:x.1.isPrefixOf l=true):kC l=some x:=by
 unfold kC
 rw[List.find?_append]
 have h1:signs11.find? (fun s=>s.1.isPrefixOf l)=some x:=by
  obtain⟨hlt,he⟩:=List.getElem?_eq_some_iff.1 hx
  rw[List.find?_eq_some_iff_getElem]
  refine ⟨hp,j,hlt,he,fun i hi=>?_⟩
  rw[hn i _ hi (List.getElem?_eq_getElem (by omega))]
  rfl
 rw[h1]
 rfl
theorem sign_none (l:List UInt8) (hn:∀ i y,i < 11→signs11[i]?=some y→y.1.isPrefixOf l=false):kC l=signs10.find? fun s=>s.1.isPrefixOf l:=by
 unfold kC
 rw[List.find?_append]
 have h1:signs11.find? (fun s=>s.1.isPrefixOf l)=none:=by
  rw[List.find?_eq_none]
  intro x hx
  obtain⟨i,hlt,he⟩:=List.getElem_of_mem hx
  rw[hn i x hlt (by rw[List.getElem?_eq_getElem hlt,he])]
  simp
 rw[h1]
 rfl
theorem rune_case (l:List UInt8):(∃ i s,Instr.findNow (.int .i32) (.int .i32 (Yo l:Int)) UH 0=some (some (i,xg s.2 0))∧(signs10.find? fun s=>s.1.isPrefixOf l)=some s∧Lib.runeLen (Yo l:Int)=(s.1.length:Int)∧s.1.length≤3) ∨
  (Instr.findNow (.int .i32) (.int .i32 (Yo l:Int)) UH 0=some none∧(signs10.find? fun s=>s.1.isPrefixOf l)=none):=by
 rw[gS,sign_rune]
 generalize Yo l=r
 by_cases h1:r=172
 ·subst h1;exact .inl ⟨0,([194,172],.not),rfl,rfl,by decide,by decide⟩
 by_cases h2:r=8743
 ·subst h2;exact .inl ⟨1,([226,136,167],.op 6),rfl,rfl,by decide,by decide⟩
 by_cases h3:r=8744
 ·subst h3;exact .inl ⟨2,([226,136,168],.op 7),rfl,rfl,by decide,by decide⟩
 by_cases h4:r=8853
 ·subst h4;exact .inl ⟨3,([226,138,149],.op 8),rfl,rfl,by decide,by decide⟩
 by_cases h5:r=8594
 ·subst h5;exact .inl ⟨4,([226,134,146],.op 9),rfl,rfl,by decide,by decide⟩
 by_cases h6:r=8596
 ·subst h6;exact .inl ⟨5,([226,134,148],.op 10),rfl,rfl,by decide,by decide⟩
 by_cases h7:r=8707
 ·subst h7;exact .inl ⟨6,([226,136,131],.quant 4),rfl,rfl,by decide,by decide⟩
 by_cases h8:r=8704
 ·subst h8;exact .inl ⟨7,([226,136,128],.quant 5),rfl,rfl,by decide,by decide⟩
 by_cases h9:r=8868
 ·subst h9;exact .inl ⟨8,([226,138,164],.const 1),rfl,rfl,by decide,by decide⟩
 by_cases h10:r=8869
 ·subst h10;exact .inl ⟨9,([226,138,165],.const 0),rfl,rfl,by decide,by decide⟩
 ·simp[h1,h2,h3,h4,h5,h6,h7,h8,h9,h10]
end
end Go.Proofs.YteopodbkhgcpmaaGreatDoor
