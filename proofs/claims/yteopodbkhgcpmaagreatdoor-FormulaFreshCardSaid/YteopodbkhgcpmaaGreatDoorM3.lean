/- A part of the proof: Bld Slc CnfP Cnf1 Iter Cl1 ClR Own4 Own5 Own7. -/
import Derived.Test.YteopodbkhgcpmaaGreatDoorM1
import Derived.Test.YteopodbkhgcpmaaGreatDoorM2
import Derived.Lib.Builder
import Derived.Lib.UnsafeStr
import Derived.Laws.Externs
import Derived.WalkKit
import Derived.Laws.Concat
import Derived.Lib.ItoaLen
import Derived.Lib.ItoaMem
import Derived.WalkLawsBesides
import Derived.WalkSpells
import Derived.Shelf.Abstract
import Derived.Shelf.RegionOpen
import Derived.OwnWalkIn
import Derived.TacticsInMore
import Derived.LoopNIn
import Derived.LoopIn
set_option linter.unusedSimpArgs false
set_option linter.unusedVariables false
set_option linter.unusedSectionVars false
namespace Go.Proofs.YteopodbkhgcpmaaGreatDoor
section
set_option maxRecDepth 20000
open Go Go.RowKit Go.SL

theorem kA {P:Program} {w w':World} {o:Oper} {x:Operand} {ts:Array TypeId} (ho:o.op=.call { callee:=.builtin .unsafeSliceData,args:=#[x],argTypes:=ts }) {ρ:Operand→Value} {v u:Value} (hx:ρ x=u)
  (hr:(Builtin.unsafeSliceData_ ts o.type #[u]).run P w=.ok v w'):(execOp ρ o).run P w=.ok (.value v) w':=by
 subst hx;simp[execOp,ho,resolve,invoke,builtin,hr]
theorem YU {P:Program} {w w':World} {o:Oper} {x y:Operand} {ts:Array TypeId} (ho:o.op=.call { callee:=.builtin .unsafeString,args:=#[x,y],argTypes:=ts }) {ρ:Operand→Value} {v u z:Value} (hx:ρ x=u) (hy:ρ y=z)
  (hr:(Builtin.unsafeString_ ts o.type #[u,z]).run P w=.ok v w'):(execOp ρ o).run P w=.ok (.value v) w':=by
 subst hx;subst hy;simp[execOp,ho,resolve,invoke,builtin,hr]
theorem Sat.freeze {w0 w:World} {R:List HP} {e:TypeId} {size n cap g k:Nat} {xs:List Value} (hS:Sat w0 w (own e size (some ⟨g,0,none⟩) n cap xs::R)):Sat w0 (w.freeze ⟨g,0,none⟩ k) R:=by
 refine Sat.drop (A:=emp) (hS.step (by unfold World.freeze;split <;> rfl) (by unfold World.freeze;split <;> rfl) (by unfold World.freeze;split <;> rfl) ?_ fun h hA hw=>⟨fun _=>none,fun _=>rfl,fun _ _ h=>(by cases h),fun _ h=>absurd rfl h,fun b hb hn=>?_⟩)
 ·unfold World.freeze;split <;> simp
 ·have hbg:g≠b:=by
   rintro rfl
   rcases hA.2 with ⟨h0,_⟩|⟨g',cur,hg,_,_,_,_,hblk⟩
   ·cases h0
   ·have:g'=g:=by simpa using hg.symm
    subst this
    rw[hblk g'] at hn
    simp at hn
  unfold World.freeze
  split
  ·rfl
  ·simp[Array.getElem?_modify,hbg]

def bld (b:Nat) (l:List UInt8):HP:=fun h=>∃ (p:Option Addr) (ad:Option Addr) (cap:Nat),(p=none∨p=some ⟨b,0,none⟩)∧sep (blk b 94 [.pointer p,.slice ad l.length cap]) (own 5 1 ad l.length cap (Bs l)) h
theorem JD {w0 w:World} {Hs R:List HP} {b:Nat} {l:List UInt8} (hS:Sat w0 w (bld b l::R)) :
  ∃ (p:Option Addr) (ad:Option Addr) (cap:Nat),(p=none∨p=some ⟨b,0,none⟩)∧Sat w0 w (blk b 94 [.pointer p,.slice ad l.length cap]::own 5 1 ad l.length cap (Bs l)::R):=by
 obtain⟨p,hS⟩:=hS.ex
 obtain⟨ad,hS⟩:=hS.ex
 obtain⟨cap,hS⟩:=hS.ex
 obtain⟨hp,hS⟩:=hS.pure
 exact⟨p,ad,cap,hp,hS.split⟩
theorem JK {w0 w:World} {R:List HP} {b:Nat} {l:List UInt8} {p ad:Option Addr} {n cap:Nat} (hp:p=none∨p=some ⟨b,0,none⟩) (hn:n=l.length)
  (hS:Sat w0 w (blk b 94 [.pointer p,.slice ad n cap]::own 5 1 ad n cap (Bs l)::R)):Sat w0 w (bld b l::R):=by
 subst hn
 exact(hS.join).turn fun g h=>⟨p,ad,cap,hp,h⟩
theorem GS {w0 w:World} {R:List HP} {b:Nat} (hS:Sat w0 w (blk b 94 [.pointer none,.slice none 0 0]::R)):Sat w0 w (bld b []::R):=by
 have h:=hS.ownNil 5 1
 have h2:Sat w0 w (blk b 94 [.pointer none,.slice none 0 0]::own 5 1 none 0 0 []::R):=h.front (Rem.tl Rem.hd)
 exact JK (l:=[]) (.inl rfl) rfl h2

theorem xo (b:Nat) (p:Option Addr) (hp:p=none∨p=some ⟨b,0,none⟩) (v:Value) (w0 w:World) (R:List HP) (hS:Sat w0 w (blk b 94 [.pointer p,v]::R)) :
  Calls Tryz.prog 85 #[.pointer (some ⟨b,0,none⟩)] w fun e w'=>e=.returned (.tuple #[])∧Sat w0 w' (blk b 94 [.pointer (some ⟨b,0,none⟩),v]::R):=by
 have hb:=hS.block ye
 have hsh:w.shape? b=some (94,2):=by simp[World.shape?,hb]
 obtain⟨j,hj,hjs⟩:∃ j,Tryz.prog.info? 94=some j∧j.size=2:=Option.map_eq_some_iff.1 (show (Tryz.prog.info? 94).map (·.size)=some 2 by kernel_rfl)
 rcases hp with rfl|rfl
 ·go_enter Tryz.func85,Tryz.ntmps85
  go_wp2_with ((with_reducible apply yh hS);exact ya;exact yb rfl;exact ye;rfl;decide +kernel;(try simp only[qA]))
  rw[Lib.run_to_unsafe w ⟨b,0,none⟩ Tryz.underlying91 Tryz.underlying171 hj (by rw[hjs];decide) hsh (Nat.zero_lt_succ 1)]
  simp only[Result.andThen]
  rw[Oper.upon_value]
  go_wp2
  rw[run_callFunc_extern Tryz.func101 (by kernel_rfl) (by kernel_rfl) (by kernel_rfl) (e:=Extern.AbiNoEscape.same) (by kernel_rfl)]
  rw[Lib.run_noEscape]
  simp only[Result.andThen]
  rw[Oper.upon_value]
  go_wp2
  rw[Lib.run_from_unsafe w ⟨b,0,none⟩ Tryz.underlying171 Tryz.underlying91 hj hsh (by kernel_rfl)]
  simp only[Result.andThen]
  rw[Oper.upon_value]
  go_wp2_with ((with_reducible apply yy hS);exact ya;exact yb rfl;exact yb rfl;exact ye;rfl;(focus (simp;done));exact Upd.hd;rfl;decide +kernel;clear hS;intro w hS;(try simp only[qS] at hS);(try simp only[qA]))
  go_end0
  exact⟨rfl,hS⟩
 ·go_enter Tryz.func85,Tryz.ntmps85
  go_wp2_with ((with_reducible apply yh hS);exact ya;exact yb rfl;exact ye;rfl;decide +kernel;(try simp only[qA]))
  rw[Lib.run_neq_ptr_same w _ Tryz.underlying91 hj]
  go_wp2
  go_end0
  exact⟨rfl,hS⟩

theorem bldWrite (b:Nat) (l:List UInt8) (s:ByteArray) (w0 w:World) (Hs Hs':List HP) (hS:Sat w0 w Hs) (u:Upd Hs (bld b l) (bld b (l++s.data.toList)) Hs') (hl:l.length+s.size≤140737488355328) :
  Calls Tryz.prog 67 #[.pointer (some ⟨b,0,none⟩),.string s] w fun e w'=>e=.returned (.tuple #[.int .i64 s.size,.nilIface])∧Sat w0 w' Hs':=by
 obtain⟨R,r1,r2⟩:=u.rem
 obtain⟨p,ad,cap,hp,hS⟩:=JD (Hs:=Hs) (hS.front r1)
 go_enter Tryz.func67,Tryz.ntmps67
 go_wp2_with ((first|(go_at_call 85;refine (xo b p hp _ _ _ _ hS).mono ?_;clear hS;rintro e w ⟨rfl,hS⟩)|((with_reducible apply yh hS);exact ya;exact yb rfl;exact ye;rfl;decide +kernel)|((with_reducible apply yy hS);exact ya;exact yb rfl;exact yb rfl;(repeat (with_reducible first|exact ye|apply yd));rfl;(focus (simp;done));(repeat (with_reducible first|exact Upd.hd|apply Upd.tl));rfl;decide +kernel;clear hS;intro w hS;(try simp only[qS] at hS))|((with_reducible apply UW hS);exact ya;exact yb rfl;exact yb rfl;exact E92;kernel_rfl;kernel_rfl;(repeat (with_reducible first|exact Rem.hd|apply Rem.tl));(omega);clear hS;intro AD CAP w hS));try simp only[qA])
 go_ret2
 rw[← xh] at hS
 exact⟨rfl,Sat.put (JK (ad:=AD) (cap:=CAP) (.inr rfl) (by simp) (hS.front (Rem.tl Rem.hd))) r2⟩

theorem bldLen (b:Nat) (l:List UInt8) (w0 w:World) (Hs:List HP) (hS:Sat w0 w Hs) (hm:bld b l∈Hs) :
  Calls Tryz.prog 40 #[.pointer (some ⟨b,0,none⟩)] w fun e w'=>e=.returned (.int .i64 l.length)∧Sat w0 w' Hs:=by
 obtain⟨R,r⟩:=Rem.of_mem hm
 obtain⟨p,ad,cap,hp,hS⟩:=JD (Hs:=Hs) (hS.front r)
 go_enter Tryz.func40,Tryz.ntmps40
 go_wp2_with ((with_reducible apply yh hS);exact ya;exact yb rfl;exact ye;rfl;decide +kernel;(try simp only[qA]))
 go_ret
 exact⟨rfl,(JK hp rfl hS).put r⟩

set_option maxHeartbeats 1000000 in
/-- The builder is let go: what it holds is the string's. -/
theorem bldString (b:Nat) (l:List UInt8) (w0 w:World) (Hs R:List HP) (hS:Sat w0 w Hs) (r:Rem Hs (bld b l) R) :
  Calls Tryz.prog 41 #[.pointer (some ⟨b,0,none⟩)] w fun e w'=>e=.returned (.string ⟨l.toArray⟩)∧Sat w0 w' R:=by
 obtain⟨p,ad,cap,hp,hS⟩:=JD (Hs:=Hs) (hS.front r)
 rcases hS.ownAd (yd ye) with ⟨rfl,h0,rfl,hx⟩|⟨g,rfl⟩
 ·have hl:l=[]:=by simpa using h0
  subst hl
  go_enter Tryz.func41,Tryz.ntmps41
  go_wp2_with ((first|((with_reducible apply Cont.intro);(focus (apply Or.inr;apply (Sat.sb hS);(repeat (with_reducible exact Sb.refl));done));intro hR hC)|((first|((with_reducible apply dP 0 hC hR);(simp only[qL];rfl);decide +kernel;exact iQ;exact ya)|((with_reducible apply dP 1 hC hR);(simp only[qL];rfl);decide +kernel;exact iQ;exact ya)|((with_reducible apply dP 5 hC hR);(simp only[qL];rfl);decide +kernel;exact iQ;exact ya)|((with_reducible apply dP 6 hC hR);(simp only[qL];rfl);decide +kernel;exact iQ;exact ya)|((with_reducible apply dP 9 hC hR);(simp only[qL];rfl);decide +kernel;exact iQ;exact ya)|((with_reducible apply dP 11 hC hR);(simp only[qL];rfl);decide +kernel;exact iQ;exact ya));(intro w;first|(go_simp;done)|(go_simp;rw[yo (by omega) (by omega)])|(go_simp;with_reducible rfl)|(go_simp;rfl));(clear hR hC;intro hR hC))|((first|((with_reducible apply dP 2 hC hR);(simp only[qL];rfl);decide +kernel;exact iQ;exact ya)|((with_reducible apply dP 7 hC hR);(simp only[qL];rfl);decide +kernel;exact iQ;exact ya));(intro w;first|(exact yz rfl (by(exact yg)) (by assumption) (by with_reducible exact fo7_0))|(go_simp;done)|(go_simp;rw[yo (by omega) (by omega)])|(go_simp;with_reducible rfl)|(go_simp;rfl));(clear hR hC;intro hR hC))|((first|((with_reducible apply dR 3 hC hR);(simp only[qL];rfl);decide +kernel;exact iQ;exact ya)|((with_reducible apply dR 8 hC hR);(simp only[qL];rfl);decide +kernel;exact iQ;exact ya));(intro w hS;(apply yj rfl (by(exact yb rfl)));first|exact yc (by decide +kernel) (hS.cell (by(exact ye)) rfl)|exact yc (by decide +kernel) ((hS.ownCell (by(repeat (with_reducible apply yd))) (by(rfl))).1)|exact yc (by decide +kernel) (Sat.rdCell2 (by assumption) hS (by((repeat (with_reducible apply yd)));try assumption) (by(rfl)))|exact yc (by decide +kernel) (hS.baseCell (by((repeat (with_reducible apply yd)));try assumption) (by assumption))|exact yc (by decide +kernel) (fzC (by assumption) hS (by((repeat (with_reducible apply yd)));try assumption))|exact yl hS (by assumption) (by((repeat (with_reducible apply yd)));try assumption) (by assumption) (by rfl) (by with_reducible exact sz7) (by decide +kernel) (by decide)|exact hS.loadWhole (by(repeat (with_reducible apply yd))) (by kernel_rfl) (by kernel_rfl));(clear hR hC;intro hR hC))|((with_reducible apply yq (i:=4));(simp only[qL];rfl);decide +kernel;exact hC;clear hR hC)|((with_reducible apply yq (i:=10));(simp only[qL];rfl);decide +kernel;exact hC;clear hR hC)|((with_reducible apply ym);decide +kernel;clear hR hC)|(refine yt 1 12 hS (by kernel_rfl) [10] rfl ?_;clear hS;intro w hS hR hC)|((with_reducible apply yW);kernel_rfl;(exact kA rfl (by(first|exact yb rfl|exact yg)) (Lib.run_unsafeSliceData_nil ..)))|((with_reducible apply yW);kernel_rfl;(exact YU rfl (by(exact yb rfl)) (by(exact yb rfl)) (Lib.run_unsafeString_none ..))));try simp only[qA])
  go_ret
  exact⟨rfl,hS.drop.drop⟩
 ·by_cases hc:cap=0
  ·subst hc
   have hl:l=[]:=by simpa using (hS.ownCap (yd ye)).1
   subst hl
   have hsh:∀ w,Sat w0 w (blk b 94 [.pointer p,.slice (some ⟨g,0,none⟩) ([]:List UInt8).length 0]::own 5 1 (some ⟨g,0,none⟩) ([]:List UInt8).length 0 (Bs [])::R)→w.shape? g=some (5,0):=fun w hS=>by
    obtain⟨h,⟨_,hA⟩,hw⟩:=hS.get (A:=own 5 1 (some ⟨g,0,none⟩) ([]:List UInt8).length 0 (Bs [])) (yd ye)
    rcases hA with ⟨h0,_⟩|⟨g',cur,hg,_,_,hcl,_,hblk⟩
    ·cases h0
    ·have hgg:g'=g:=by simpa using hg.symm
     have hb:=hw g' (.cells cur.toArray 5 (0,0)) (by rw[hblk g'];simp)
     rw[hgg] at hb
     simp[World.shape?,hb,hcl]
   go_enter Tryz.func41,Tryz.ntmps41
   go_wp2_with ((first|((with_reducible apply Cont.intro);(focus (apply Or.inr;apply (Sat.sb hS);(repeat (with_reducible exact Sb.refl));done));intro hR hC)|((first|((with_reducible apply dP 0 hC hR);(simp only[qL];rfl);decide +kernel;exact iQ;exact ya)|((with_reducible apply dP 1 hC hR);(simp only[qL];rfl);decide +kernel;exact iQ;exact ya)|((with_reducible apply dP 5 hC hR);(simp only[qL];rfl);decide +kernel;exact iQ;exact ya)|((with_reducible apply dP 6 hC hR);(simp only[qL];rfl);decide +kernel;exact iQ;exact ya)|((with_reducible apply dP 9 hC hR);(simp only[qL];rfl);decide +kernel;exact iQ;exact ya)|((with_reducible apply dP 11 hC hR);(simp only[qL];rfl);decide +kernel;exact iQ;exact ya));(intro w;first|(go_simp;done)|(go_simp;rw[yo (by omega) (by omega)])|(go_simp;with_reducible rfl)|(go_simp;rfl));(clear hR hC;intro hR hC))|((first|((with_reducible apply dP 2 hC hR);(simp only[qL];rfl);decide +kernel;exact iQ;exact ya)|((with_reducible apply dP 7 hC hR);(simp only[qL];rfl);decide +kernel;exact iQ;exact ya));(intro w;first|(exact yz rfl (by(exact yg)) (by assumption) (by with_reducible exact fo7_0))|(go_simp;done)|(go_simp;rw[yo (by omega) (by omega)])|(go_simp;with_reducible rfl)|(go_simp;rfl));(clear hR hC;intro hR hC))|((first|((with_reducible apply dR 3 hC hR);(simp only[qL];rfl);decide +kernel;exact iQ;exact ya)|((with_reducible apply dR 8 hC hR);(simp only[qL];rfl);decide +kernel;exact iQ;exact ya));(intro w hS;(apply yj rfl (by(exact yb rfl)));first|exact yc (by decide +kernel) (hS.cell (by(exact ye)) rfl)|exact yc (by decide +kernel) ((hS.ownCell (by(repeat (with_reducible apply yd))) (by(rfl))).1)|exact yc (by decide +kernel) (Sat.rdCell2 (by assumption) hS (by((repeat (with_reducible apply yd)));try assumption) (by(rfl)))|exact yc (by decide +kernel) (hS.baseCell (by((repeat (with_reducible apply yd)));try assumption) (by assumption))|exact yc (by decide +kernel) (fzC (by assumption) hS (by((repeat (with_reducible apply yd)));try assumption))|exact yl hS (by assumption) (by((repeat (with_reducible apply yd)));try assumption) (by assumption) (by rfl) (by with_reducible exact sz7) (by decide +kernel) (by decide)|exact hS.loadWhole (by(repeat (with_reducible apply yd))) (by kernel_rfl) (by kernel_rfl));(clear hR hC;intro hR hC))|((with_reducible apply yq (i:=4));(simp only[qL];rfl);decide +kernel;exact hC;clear hR hC)|((with_reducible apply yq (i:=10));(simp only[qL];rfl);decide +kernel;exact hC;clear hR hC)|((with_reducible apply ym);decide +kernel;clear hR hC)|(refine yt 1 12 hS (by kernel_rfl) [10] rfl ?_;clear hS;intro w hS hR hC)|((with_reducible apply yW);kernel_rfl;(exact kA rfl (by(exact yb rfl)) (Lib.run_unsafeSliceData_zero _ _ _ 5 Tryz.underlying153 _ _ _ (hsh _ hS)));(replace hS:=(hS.alloc (.view ⟨g,0,none⟩ 5)).drop))|((with_reducible apply yW);kernel_rfl;(exact YU rfl (by(exact yb rfl)) (by(exact yb rfl)) (Lib.run_unsafeString_none ..))));try simp only[qA])
   go_ret
   exact⟨rfl,hS.drop.drop⟩
  ·by_cases hl:l=[]
   ·subst hl
    go_enter Tryz.func41,Tryz.ntmps41
    go_wp2_with ((first|((with_reducible apply Cont.intro);(focus (apply Or.inr;apply (Sat.sb hS);(repeat (with_reducible exact Sb.refl));done));intro hR hC)|((first|((with_reducible apply dP 0 hC hR);(simp only[qL];rfl);decide +kernel;exact iQ;exact ya)|((with_reducible apply dP 1 hC hR);(simp only[qL];rfl);decide +kernel;exact iQ;exact ya)|((with_reducible apply dP 5 hC hR);(simp only[qL];rfl);decide +kernel;exact iQ;exact ya)|((with_reducible apply dP 6 hC hR);(simp only[qL];rfl);decide +kernel;exact iQ;exact ya)|((with_reducible apply dP 9 hC hR);(simp only[qL];rfl);decide +kernel;exact iQ;exact ya)|((with_reducible apply dP 11 hC hR);(simp only[qL];rfl);decide +kernel;exact iQ;exact ya));(intro w;first|(go_simp;done)|(go_simp;rw[yo (by omega) (by omega)])|(go_simp;with_reducible rfl)|(go_simp;rfl));(clear hR hC;intro hR hC))|((first|((with_reducible apply dP 2 hC hR);(simp only[qL];rfl);decide +kernel;exact iQ;exact ya)|((with_reducible apply dP 7 hC hR);(simp only[qL];rfl);decide +kernel;exact iQ;exact ya));(intro w;first|(exact yz rfl (by(exact yg)) (by assumption) (by with_reducible exact fo7_0))|(go_simp;done)|(go_simp;rw[yo (by omega) (by omega)])|(go_simp;with_reducible rfl)|(go_simp;rfl));(clear hR hC;intro hR hC))|((first|((with_reducible apply dR 3 hC hR);(simp only[qL];rfl);decide +kernel;exact iQ;exact ya)|((with_reducible apply dR 8 hC hR);(simp only[qL];rfl);decide +kernel;exact iQ;exact ya));(intro w hS;(apply yj rfl (by(exact yb rfl)));first|exact yc (by decide +kernel) (hS.cell (by(exact ye)) rfl)|exact yc (by decide +kernel) ((hS.ownCell (by(repeat (with_reducible apply yd))) (by(rfl))).1)|exact yc (by decide +kernel) (Sat.rdCell2 (by assumption) hS (by((repeat (with_reducible apply yd)));try assumption) (by(rfl)))|exact yc (by decide +kernel) (hS.baseCell (by((repeat (with_reducible apply yd)));try assumption) (by assumption))|exact yc (by decide +kernel) (fzC (by assumption) hS (by((repeat (with_reducible apply yd)));try assumption))|exact yl hS (by assumption) (by((repeat (with_reducible apply yd)));try assumption) (by assumption) (by rfl) (by with_reducible exact sz7) (by decide +kernel) (by decide)|exact hS.loadWhole (by(repeat (with_reducible apply yd))) (by kernel_rfl) (by kernel_rfl));(clear hR hC;intro hR hC))|((with_reducible apply yq (i:=4));(simp only[qL];rfl);decide +kernel;exact hC;clear hR hC)|((with_reducible apply yq (i:=10));(simp only[qL];rfl);decide +kernel;exact hC;clear hR hC)|((with_reducible apply ym);decide +kernel;clear hR hC)|(refine yt 1 12 hS (by kernel_rfl) [10] rfl ?_;clear hS;intro w hS hR hC)|((with_reducible apply yW);kernel_rfl;(exact kA rfl (by(first|exact yb rfl|exact yg)) (Lib.run_unsafeSliceData_row _ _ _ _ _ _ hc)))|((with_reducible apply yW);kernel_rfl;(exact YU rfl (by(exact yb rfl)) (by(exact yb rfl)) (Lib.run_unsafeString_none ..))));try simp only[qA])
    go_ret
    exact⟨rfl,hS.drop.drop⟩
   ·have hrow:∀ w,Sat w0 w (blk b 94 [.pointer p,.slice (some ⟨g,0,none⟩) l.length cap]::own 5 1 (some ⟨g,0,none⟩) l.length cap (Bs l)::R) →
      ∀ pt it ty:TypeId,Tryz.prog.underlying pt=some (.pointer 5)→(Builtin.unsafeString_ #[pt,it] ty #[.pointer (some ⟨g,0,none⟩),.int .i64 l.length]).run Tryz.prog w=.ok (.string ⟨l.toArray⟩) (w.freeze ⟨g,0,none⟩ l.length):=fun w hS pt it ty hp=>by
     obtain⟨hlc,hcm⟩:=hS.ownCap (yd ye)
     obtain⟨h,⟨_,hA⟩,hw⟩:=hS.get (A:=own 5 1 (some ⟨g,0,none⟩) l.length cap (Bs l)) (yd ye)
     have hsh:w.shape? g=some (5,cap):=by
      rcases hA with ⟨h0,_⟩|⟨g',cur,hg,_,_,hcl,_,hblk⟩
      ·cases h0
      ·have hgg:g'=g:=by simpa using hg.symm
       have hb:=hw g' (.cells cur.toArray 5 (0,0)) (by rw[hblk g'];simp)
       rw[hgg] at hb
       simp[World.shape?,hb,hcl]
     refine Lib.run_unsafeString_row w pt it ty 5 hp (by kernel_rfl) g cap hsh l hl hlc (by unfold maxLen at hcm;omega) fun j x hj=>?_
     have:=(hS.ownCell (yd ye) (j:=j) (v:=B x) (by simp[Bs,hj])).1
     simpa [adr] using this
    go_enter Tryz.func41,Tryz.ntmps41
    go_wp2_with ((first|((with_reducible apply Cont.intro);(first|(focus (apply Or.inr;apply (Sat.sb hS);(repeat (with_reducible exact Sb.refl));done))|(exact Or.inl (by kernel_rfl)));intro hR hC)|((first|((with_reducible apply dP 0 hC hR);(simp only[qL];rfl);decide +kernel;exact iQ;exact ya)|((with_reducible apply dP 1 hC hR);(simp only[qL];rfl);decide +kernel;exact iQ;exact ya)|((with_reducible apply dP 5 hC hR);(simp only[qL];rfl);decide +kernel;exact iQ;exact ya)|((with_reducible apply dP 6 hC hR);(simp only[qL];rfl);decide +kernel;exact iQ;exact ya)|((with_reducible apply dP 9 hC hR);(simp only[qL];rfl);decide +kernel;exact iQ;exact ya)|((with_reducible apply dP 11 hC hR);(simp only[qL];rfl);decide +kernel;exact iQ;exact ya));(intro w;first|(go_simp;done)|(go_simp;rw[yo (by omega) (by omega)])|(go_simp;with_reducible rfl)|(go_simp;rfl));(clear hR hC;intro hR hC))|((first|((with_reducible apply dP 2 hC hR);(simp only[qL];rfl);decide +kernel;exact iQ;exact ya)|((with_reducible apply dP 7 hC hR);(simp only[qL];rfl);decide +kernel;exact iQ;exact ya));(intro w;first|(exact yz rfl (by(exact yg)) (by assumption) (by with_reducible exact fo7_0))|(go_simp;done)|(go_simp;rw[yo (by omega) (by omega)])|(go_simp;with_reducible rfl)|(go_simp;rfl));(clear hR hC;intro hR hC))|((first|((with_reducible apply dR 3 hC hR);(simp only[qL];rfl);decide +kernel;exact iQ;exact ya)|((with_reducible apply dR 8 hC hR);(simp only[qL];rfl);decide +kernel;exact iQ;exact ya));(intro w hS;(apply yj rfl (by(exact yb rfl)));first|exact yc (by decide +kernel) (hS.cell (by(exact ye)) rfl)|exact yc (by decide +kernel) ((hS.ownCell (by(repeat (with_reducible apply yd))) (by(rfl))).1)|exact yc (by decide +kernel) (Sat.rdCell2 (by assumption) hS (by((repeat (with_reducible apply yd)));try assumption) (by(rfl)))|exact yc (by decide +kernel) (hS.baseCell (by((repeat (with_reducible apply yd)));try assumption) (by assumption))|exact yc (by decide +kernel) (fzC (by assumption) hS (by((repeat (with_reducible apply yd)));try assumption))|exact yl hS (by assumption) (by((repeat (with_reducible apply yd)));try assumption) (by assumption) (by rfl) (by with_reducible exact sz7) (by decide +kernel) (by decide)|exact hS.loadWhole (by(repeat (with_reducible apply yd))) (by kernel_rfl) (by kernel_rfl));(clear hR hC;intro hR hC))|((with_reducible apply yq (i:=4));(simp only[qL];rfl);decide +kernel;exact hC;clear hR hC)|((with_reducible apply yq (i:=10));(simp only[qL];rfl);decide +kernel;exact hC;clear hR hC)|((with_reducible apply ym);decide +kernel;clear hR hC)|(refine yt 1 12 hS (by kernel_rfl) [10] rfl ?_;clear hS;intro w hS hR hC)|((with_reducible apply yW);kernel_rfl;(exact kA rfl (by(first|exact yb rfl|exact yg)) (Lib.run_unsafeSliceData_row _ _ _ _ _ _ hc)))|((with_reducible apply yW);kernel_rfl;(exact YU rfl (by(exact yb rfl)) (by(exact yb rfl)) (hrow _ hS _ _ _ (by exact Tryz.underlying153)));(replace hS:=Sat.freeze (k:=l.length) hS.drop);(clear hrow)));try simp only[qA])
    go_ret
    exact⟨rfl,hS⟩
end
end Go.Proofs.YteopodbkhgcpmaaGreatDoor
namespace Go.SL
section
open Go Go.RowKit

section
variable {P:Program} {ops:Array Oper} {Q:Exit→Act→World→Prop} {rest:List Oper} {a:Act} {w w0:World} {Hs:List HP} {e:TypeId} {size n cap:Nat} {ad:Option Addr}

def Is (l:List Int):List Value:=l.map (Value.int .i64)
theorem kx (l:List Int):(Is l).length=l.length:=by simp[Is]
theorem us {l:List Int} {j:Nat} {x:Int} (h:l[j]?=some x):(Is l)[j]?=some (.int .i64 x):=by simp[Is,h]
theorem Is_append (l m:List Int):Is (l++m)=Is l++Is m:=by simp[Is]
theorem Sat.rdAd2 {A:HP} {cs:List Value} (hr:Rd A ad cs) (hS:Sat w0 w Hs) (hm:A∈Hs) (h0:0 < cs.length):∃ aa,ad=some aa∧aa.spot=none:=hS.rdAd hm hr h0
theorem Sat.rdCell2 {A:HP} {cs:List Value} (hr:Rd A ad cs) (hS:Sat w0 w Hs) (hm:A∈Hs) {j:Nat} {v:Value} (hv:cs[j]?=some v):w.cell? (adr ad j)=some v:=hS.rdCell hm hr hv

def sub (ad:Option Addr) (l cap size:Nat):Option Addr:=if cap=l then ad else ad.map (·.add (l*size))
theorem Rd.sub {A:HP} {cs:List Value} (hr:Rd A ad cs) (l m:Nat) (hm:cap=l→m=0):Rd A (sub ad l cap size) ((cs.drop (l*size)).take m):=by
 intro w h hA hw j v hv
 rw[List.getElem?_take] at hv
 split at hv
 ·rename_i hlt
  rw[List.getElem?_drop] at hv
  obtain⟨⟨a,ha,hs⟩,hc⟩:=hr w h hA hw _ _ hv
  have hcl:cap≠l:=fun h0=>by have:=hm h0;omega
  subst ha
  refine ⟨⟨a.add (l*size),by simp[SL.sub,hcl],?_⟩,?_⟩
  ·obtain⟨b,o,s⟩:=a
   simp only at hs
   subst hs
   rw[KM]
  ·simp only[SL.sub,if_neg hcl,Option.map_some]
   simp only[adr,Option.getD_some] at hc ⊢
   rw[jQ _ hs]
   exact hc
 ·cases hv
theorem uD {t:TypeId} {bytes:Nat} (E:ElemTy P t e size bytes) {lo hi:Option Value} {l h:Nat} (hb:(Instr.sliceBounds true n cap lo hi none).run P w=.ok (l,h,cap) w) :
  (Instr.sliceAt t (.slice ad n cap) lo hi none).run P w=.ok (.slice (sub ad l cap size) (h - l) (cap - l)) w:=by
 have hs:=Ki E.sz w
 have hu:=run_underlying E.ht w
 simp[Instr.sliceAt,Instr.slice,hu,hb,hs,SL.sub]
theorem Xn {k:IntKind} {l:Int} (h0:0≤l) (h1:l≤n):(Instr.sliceBounds true n cap (some (.int k l)) none none).run P w=.ok (l.toNat,n,cap) w:=by
 simp[Instr.sliceBounds,Instr.sliceBound,asIntOf,h0,h1]
theorem Xm {k:IntKind} {h:Int} (h0:0≤h) (h1:h≤cap):(Instr.sliceBounds true n cap none (some (.int k h)) none).run P w=.ok (0,h.toNat,cap) w:=by
 simp[Instr.sliceBounds,Instr.sliceBound,asIntOf,h0,h1]
theorem Yn {dst:Option Tmp} {t:TypeId} {x lo:Operand} {ty:TypeId} {pos:String} {after:Array Edge} {gd:Option (Nat × Bool)}
  (hw:Region.wanted ⟨dst,.slice t x (some lo) none none,ty,pos,after,gd⟩ (yielded ops a.tmps)=true) (hx:a.eval x=.slice ad n cap) {k:IntKind} {l:Int} (hl:a.eval lo=.int k l)
  {bytes:Nat} (E:ElemTy P t e size bytes) (h0:0≤l) (h1:l≤n) {i m c:Nat} (hi':l.toNat=i) (hm:n - i=m) (hc:cap - i=c)
  (K:wpList P ops Q rest (a.put dst (.slice (sub ad i cap size) m c)) w):wpList P ops Q (⟨dst,.slice t x (some lo) none none,ty,pos,after,gd⟩::rest) a w:=by
 subst hi';subst hm;subst hc
 exact yW hw (JH rfl (by simp only[hx,hl,Option.map_some,Option.map_none];exact uD E (Xn h0 h1))) K
theorem ko {dst:Option Tmp} {t:TypeId} {x hi:Operand} {ty:TypeId} {pos:String} {after:Array Edge} {gd:Option (Nat × Bool)}
  (hw:Region.wanted ⟨dst,.slice t x none (some hi) none,ty,pos,after,gd⟩ (yielded ops a.tmps)=true) (hx:a.eval x=.slice ad n cap) {k:IntKind} {h:Int} (hh:a.eval hi=.int k h)
  {bytes:Nat} (E:ElemTy P t e size bytes) (h0:0≤h) (h1:h≤cap) {m:Nat} (hm:h.toNat=m)
  (K:wpList P ops Q rest (a.put dst (.slice ad m cap)) w):wpList P ops Q (⟨dst,.slice t x none (some hi) none,ty,pos,after,gd⟩::rest) a w:=by
 subst hm
 have hz:sub ad 0 cap size=ad:=by
  unfold sub
  split
  ·rfl
  ·cases ad with
   | none=>rfl
   | some aa=>simp[Addr.add]
 have hr:=uD (P:=P) (w:=w) (ad:=ad) (n:=n) E (Xm (k:=k) h0 h1)
 rw[hz] at hr
 exact yW hw (JH rfl (by simp only[hx,hh,Option.map_some,Option.map_none];exact hr)) K

/-! ### Strings put together -/
theorem Yd {o:Oper} {T ty:TypeId} {x y:Operand} (ho:o.op=.binOp .add T x y ty) {ρ:Operand→Value} {l m:List UInt8} (hx:ρ x=.string ⟨l.toArray⟩) (hy:ρ y=.string ⟨m.toArray⟩) (h:l.length+m.length≤9223372036854775807) :
  (execOp ρ o).run P w=.ok (.value (.string ⟨(l++m).toArray⟩)) w:=by
 have h1:=run_string_add_sum (P:=P) w ⟨l.toArray⟩ ⟨m.toArray⟩ (by simpa [ByteArray.size] using h)
 rw[ByteArray.mk_append_mk] at h1
 simp[execOp,ho,hx,hy,eqGuard,binOp,h1]
theorem uV {dst:Option Tmp} {T ty ty':TypeId} {x y:Operand} {pos:String} {after:Array Edge} {gd:Option (Nat × Bool)}
  (hw:Region.wanted ⟨dst,.binOp .add T x y ty,ty',pos,after,gd⟩ (yielded ops a.tmps)=true) {l m:List UInt8} (hx:a.eval x=.string ⟨l.toArray⟩) (hy:a.eval y=.string ⟨m.toArray⟩) (h:l.length+m.length≤9223372036854775807)
  (K:wpList P ops Q rest (a.put dst (.string ⟨(l++m).toArray⟩)) w):wpList P ops Q (⟨dst,.binOp .add T x y ty,ty',pos,after,gd⟩::rest) a w :=
 yW hw (Yd rfl hx hy h) K

/-! ### A slice literal of two elements of one cell -/
end
end
end Go.SL
namespace Go.CnfP
section
open Go

def line (ns:List Int):List UInt8:=ns.flatMap fun n=>Lib.itoa n++[32]
def body (ls:List Int) (fr:Nat):List Int→List UInt8
 | []=>[]
 | e::es=>line ((ls.drop fr).take (e.toNat - fr))++([48,10]++body ls e.toNat es)
def head (v:Int) (n:Nat):List UInt8:=[112,32,99,110,102,32]++Lib.itoa v++[32]++Lib.itoa n++[10]
def text (v:Int) (es ls:List Int):List UInt8:=head v es.length++body ls 0 es
theorem GO (ns:List Int) (h:∀ n∈ns,-65536≤n∧n≤65536):(line ns).length≤22*ns.length:=by
 induction ns with
 | nil=>simp[line]
 | cons n ns ih =>
  have h1:=Lib.itoa_length_le n (by have:=h n (by simp);omega) (by have:=h n (by simp);omega)
  have h2:=ih fun m hm=>h m (by simp[hm])
  simp only[line,List.flatMap_cons,List.length_append,List.length_cons,List.length_nil] at h2 ⊢
  omega
end
end Go.CnfP
namespace Go.Proofs.YteopodbkhgcpmaaGreatDoor
section
set_option maxRecDepth 20000
open Go Go.RowKit Go.SL Go.CnfP

theorem tabOld {w0 w:World} {Hs:List HP} (hS:Sat w0 w Hs) (hm:YF w0∈Hs) {P:Program} {name:String} {k:IntKind} {zs:List Int} (h:Lib.TabIs P w0 name k zs):Lib.TabIs P w name k zs:=by
 unfold Lib.TabIs World.var? at *
 cases hg:P.globalNamed name with
 | none=>rw[hg] at h;cases h
 | some g =>
  rw[hg] at h
  simp only[Option.bind_some] at h ⊢
  by_cases hlt:g < w0.heap.size
  ·rw[hS.old hm g hlt];exact h
  ·rw[Array.getElem?_eq_none (by omega)] at h;cases h
theorem ofGrow {w0 w w':World} {Hs:List HP} (hS:Sat w0 w Hs) (h:∃ k os,w'=Sort.grow (w.drewN k) os):Sat w0 w' Hs:=by
 obtain⟨k,os,rfl⟩:=h
 refine hS.ofBelow ⟨rfl,rfl,rfl,?_,fun b hb=>?_⟩
 ·simp[Sort.grow,World.drewN]
 ·simp only[Sort.grow,World.drewN]
  rw[Array.getElem?_append_left hb]
abbrev Tab (w : World) : Prop := Lib.TabIs Tryz.prog w "internal/strconv.uint64pow10" .u64 Lib.pow10Tab
theorem itoaC (n:Int) (h0:-9223372036854775808≤n) (h1:n≤9223372036854775807) (w0 w:World) (Hs:List HP) (hS:Sat w0 w Hs) (hm:YF w0∈Hs) (ht:Tab w0) :
  Calls Tryz.prog 69 #[.int .i64 n] w fun e w'=>e=.returned (.string ⟨(Lib.itoa n).toArray⟩)∧Sat w0 w' Hs :=
 (Tryz.strconv_Itoa n h0 h1 w (tabOld hS hm ht)).mono fun e w' ⟨he,hg⟩=>⟨he,ofGrow hS hg⟩

theorem gm (xs ys:List Int) (w0 w:World) (Hs:List HP) (hS:Sat w0 w Hs) {A1 A2:HP} (h1:A1∈Hs) (h2:A2∈Hs) {ad1 ad2:Option Addr} {c1 c2:Nat} (r1:Rd A1 ad1 (Is xs)) (r2:Rd A2 ad2 (Is ys))
  (hx:xs.length≤maxLen) (hy:ys.length≤maxLen) :
  Calls Tryz.prog 37 #[.slice ad1 xs.length c1,.slice ad2 ys.length c2] w fun e w'=>e=.returned (.bool (decide (xs=ys)))∧Sat w0 w' Hs:=by
 unfold maxLen at hx hy
 by_cases hl:xs.length=ys.length
 ·go_enter Tryz.func37,Tryz.ntmps37
  go_wp2_with fail
  go_loopw [5] (fun i wr=>∃ k:Nat,i=.int .i64 k∧k≤xs.length∧xs.take k=ys.take k∧Sat w0 wr Hs) (fun i _=>xs.length - (intOf i).toNat)
  case atStart=>exact⟨0,rfl,by omega,by simp,hS⟩
  case round =>
   clear hS
   obtain⟨k,rfl,hk,hp,hS⟩:=hrel
   by_cases hlt:k < xs.length
   ·obtain⟨x,hx⟩:∃ x,xs[k]?=some x:=⟨_,List.getElem?_eq_getElem hlt⟩
    obtain⟨y,hy⟩:∃ y,ys[k]?=some y:=⟨_,List.getElem?_eq_getElem (by omega)⟩
    by_cases hxy:x=y
    ·go_wp2_with ((first|((first|((with_reducible apply dP 0 hC hR);(simp only[qL];rfl);decide +kernel;exact iQ;exact ya)|((with_reducible apply dP 1 hC hR);(simp only[qL];rfl);decide +kernel;exact iQ;exact ya)|((with_reducible apply dP 4 hC hR);(simp only[qL];rfl);decide +kernel;exact iQ;exact ya)|((with_reducible apply dP 5 hC hR);(simp only[qL];rfl);decide +kernel;exact iQ;exact ya)|((with_reducible apply dP 8 hC hR);(simp only[qL];rfl);decide +kernel;exact iQ;exact ya));(intro w;first|(go_simp;done)|(go_simp;rw[yo (by omega) (by omega)])|(go_simp;with_reducible rfl)|(go_simp;rfl));(clear hR hC;intro hR hC))|((first|((with_reducible apply dP 2 hC hR);(simp only[qL];rfl);decide +kernel;exact iQ;exact ya)|((with_reducible apply dP 6 hC hR);(simp only[qL];rfl);decide +kernel;exact iQ;exact ya));(intro w;first|(with_reducible exact yu E23 rfl (by(exact yg)) (by(exact yg)) (by(omega)) (by(omega)) (by(assumption)) (by(rfl)))|(with_reducible exact yu E31 rfl (by(exact yb rfl)) (by(exact yb rfl)) (by(omega)) (by(omega)) (by(exact Sat.rdAd2 (by assumption) hS (by((repeat (with_reducible apply yd)));try assumption) (by(simp only[kx,KU,List.length_take,List.length_drop];omega)))) (by(simp only[qN];rfl)))|(with_reducible exact yu E39 rfl (by(exact yg)) (by(exact yg)) (by(omega)) (by(omega)) (by(assumption)) (by(rfl)))|(with_reducible exact yu E41 rfl (by(exact yg)) (by(exact yg)) (by(omega)) (by(omega)) (by(assumption)) (by(rfl)))|(with_reducible exact yu E59 rfl (by(exact yg)) (by(exact yg)) (by(omega)) (by(omega)) (by(assumption)) (by(rfl)))|(with_reducible exact yu E63 rfl (by(exact yg)) (by(exact yg)) (by(omega)) (by(omega)) (by(assumption)) (by(rfl)))|(with_reducible exact yu E68 rfl (by(exact yg)) (by(exact yg)) (by(omega)) (by(omega)) (by(assumption)) (by(rfl)))|(with_reducible exact yu E81 rfl (by(exact yg)) (by(exact yg)) (by(omega)) (by(omega)) (by(assumption)) (by(rfl)))|(with_reducible exact yu E92 rfl (by(exact yg)) (by(exact yg)) (by(omega)) (by(omega)) (by(assumption)) (by(rfl)))|(with_reducible exact yu E133 rfl (by(exact yg)) (by(exact yg)) (by(omega)) (by(omega)) (by(assumption)) (by(rfl)))|(with_reducible exact yu E137 rfl (by(exact yg)) (by(exact yg)) (by(omega)) (by(omega)) (by(assumption)) (by(rfl)))|(with_reducible exact yu E161 rfl (by(exact yg)) (by(exact yg)) (by(omega)) (by(omega)) (by(assumption)) (by(rfl)))|(go_simp;done)|(go_simp;rw[yo (by omega) (by omega)])|(go_simp;with_reducible rfl));(clear hR hC;intro hR hC))|((first|((with_reducible apply dR 3 hC hR);(simp only[qL];rfl);decide +kernel;exact iQ;exact ya)|((with_reducible apply dR 7 hC hR);(simp only[qL];rfl);decide +kernel;exact iQ;exact ya));(intro w hS;(apply yj rfl (by(exact yb rfl)));first|exact yc (by decide +kernel) (hS.cell (by(repeat (with_reducible apply yd))) rfl)|exact yc (by decide +kernel) ((hS.ownCell (by(repeat (with_reducible apply yd))) (by(exact us (by assumption)))).1)|exact yc (by decide +kernel) (Sat.rdCell2 (by assumption) hS (by((repeat (with_reducible apply yd)));try assumption) (by(exact us (by assumption))))|exact yc (by decide +kernel) (hS.baseCell (by((repeat (with_reducible apply yd)));try assumption) (by assumption))|exact yc (by decide +kernel) (fzC (by assumption) hS (by((repeat (with_reducible apply yd)));try assumption))|exact yl hS (by assumption) (by((repeat (with_reducible apply yd)));try assumption) (by assumption) (by rfl) (by with_reducible exact sz7) (by decide +kernel) (by decide)|exact hS.loadWhole (by(repeat (with_reducible apply yd))) (by kernel_rfl) (by kernel_rfl));(clear hR hC;intro hR hC))|((with_reducible apply ym);decide +kernel;clear hR hC)|(refine yt 6 9 hS (by kernel_rfl) [] rfl ?_;clear hS;intro w hS hR hC));try simp only[qA])
     go_roundw
     case rel=>exact⟨k+1,by go_num,by omega,by rw[List.take_add_one,List.take_add_one,hp,hx,hy,hxy],hS⟩
     case measure=>simp[intOf];omega
    ·go_wp2_with ((first|((first|((with_reducible apply dP 0 hC hR);(simp only[qL];rfl);decide +kernel;exact iQ;exact ya)|((with_reducible apply dP 1 hC hR);(simp only[qL];rfl);decide +kernel;exact iQ;exact ya)|((with_reducible apply dP 4 hC hR);(simp only[qL];rfl);decide +kernel;exact iQ;exact ya)|((with_reducible apply dP 5 hC hR);(simp only[qL];rfl);decide +kernel;exact iQ;exact ya)|((with_reducible apply dP 8 hC hR);(simp only[qL];rfl);decide +kernel;exact iQ;exact ya));(intro w;first|(go_simp;done)|(go_simp;rw[yo (by omega) (by omega)])|(go_simp;with_reducible rfl)|(go_simp;rfl));(clear hR hC;intro hR hC))|((first|((with_reducible apply dP 2 hC hR);(simp only[qL];rfl);decide +kernel;exact iQ;exact ya)|((with_reducible apply dP 6 hC hR);(simp only[qL];rfl);decide +kernel;exact iQ;exact ya));(intro w;first|(with_reducible exact yu E23 rfl (by(exact yg)) (by(exact yg)) (by(omega)) (by(omega)) (by(assumption)) (by(rfl)))|(with_reducible exact yu E31 rfl (by(exact yb rfl)) (by(exact yb rfl)) (by(omega)) (by(omega)) (by(exact Sat.rdAd2 (by assumption) hS (by((repeat (with_reducible apply yd)));try assumption) (by(simp only[kx,KU,List.length_take,List.length_drop];omega)))) (by(simp only[qN];rfl)))|(with_reducible exact yu E39 rfl (by(exact yg)) (by(exact yg)) (by(omega)) (by(omega)) (by(assumption)) (by(rfl)))|(with_reducible exact yu E41 rfl (by(exact yg)) (by(exact yg)) (by(omega)) (by(omega)) (by(assumption)) (by(rfl)))|(with_reducible exact yu E59 rfl (by(exact yg)) (by(exact yg)) (by(omega)) (by(omega)) (by(assumption)) (by(rfl)))|(with_reducible exact yu E63 rfl (by(exact yg)) (by(exact yg)) (by(omega)) (by(omega)) (by(assumption)) (by(rfl)))|(with_reducible exact yu E68 rfl (by(exact yg)) (by(exact yg)) (by(omega)) (by(omega)) (by(assumption)) (by(rfl)))|(with_reducible exact yu E81 rfl (by(exact yg)) (by(exact yg)) (by(omega)) (by(omega)) (by(assumption)) (by(rfl)))|(with_reducible exact yu E92 rfl (by(exact yg)) (by(exact yg)) (by(omega)) (by(omega)) (by(assumption)) (by(rfl)))|(with_reducible exact yu E133 rfl (by(exact yg)) (by(exact yg)) (by(omega)) (by(omega)) (by(assumption)) (by(rfl)))|(with_reducible exact yu E137 rfl (by(exact yg)) (by(exact yg)) (by(omega)) (by(omega)) (by(assumption)) (by(rfl)))|(with_reducible exact yu E161 rfl (by(exact yg)) (by(exact yg)) (by(omega)) (by(omega)) (by(assumption)) (by(rfl)))|(go_simp;done)|(go_simp;rw[yo (by omega) (by omega)])|(go_simp;with_reducible rfl));(clear hR hC;intro hR hC))|((first|((with_reducible apply dR 3 hC hR);(simp only[qL];rfl);decide +kernel;exact iQ;exact ya)|((with_reducible apply dR 7 hC hR);(simp only[qL];rfl);decide +kernel;exact iQ;exact ya));(intro w hS;(apply yj rfl (by(exact yb rfl)));first|exact yc (by decide +kernel) (hS.cell (by(repeat (with_reducible apply yd))) rfl)|exact yc (by decide +kernel) ((hS.ownCell (by(repeat (with_reducible apply yd))) (by(exact us (by assumption)))).1)|exact yc (by decide +kernel) (Sat.rdCell2 (by assumption) hS (by((repeat (with_reducible apply yd)));try assumption) (by(exact us (by assumption))))|exact yc (by decide +kernel) (hS.baseCell (by((repeat (with_reducible apply yd)));try assumption) (by assumption))|exact yc (by decide +kernel) (fzC (by assumption) hS (by((repeat (with_reducible apply yd)));try assumption))|exact yl hS (by assumption) (by((repeat (with_reducible apply yd)));try assumption) (by assumption) (by rfl) (by with_reducible exact sz7) (by decide +kernel) (by decide)|exact hS.loadWhole (by(repeat (with_reducible apply yd))) (by kernel_rfl) (by kernel_rfl));(clear hR hC;intro hR hC))|((with_reducible apply ym);decide +kernel;clear hR hC)|(refine yt 6 9 hS (by kernel_rfl) [] rfl ?_;clear hS;intro w hS hR hC));try simp only[qA])
     go_ret
     have hne:¬ xs=ys:=fun h=>by rw[h,hy] at hx;simp at hx;exact hxy hx.symm
     exact⟨by simp[hne],hS⟩
   ·go_wp2
    go_ret
    have:xs=ys:=by
     rw[List.take_of_length_le (by omega),List.take_of_length_le (by omega)] at hp
     exact hp
    exact⟨by simp[this],hS⟩
 ·have hne:¬ xs=ys:=fun h=>hl (by rw[h])
  go_enter Tryz.func37,Tryz.ntmps37
  go_wp2
  go_ret
  exact⟨by simp[hne],hS⟩
end
section
set_option maxRecDepth 20000
open Go Go.RowKit Go.SL Go.LinesP
attribute [local go_sem] Oper.semAt_some

def YieldC (l:Nat) (text:List UInt8) (C:List (List UInt8)→List HP) (lp df:HP) (w0:World) (m:Nat):Prop :=
 ∀ (pre:List (List UInt8)) (x:List UInt8) (W1:World) (X:List HP),(∃ rest,yJ text=pre++x::rest)→Sat w0 W1 (C pre++lp::df::X) →
  YieldAt Fence.wide m Tryz.prog l #[.string ⟨x.toArray⟩] W1 fun e W'=>e=.returned (.bool true)∧∃ s',s'=pre++[x]∧Sat w0 W' (C s'++lp::df::X)
theorem iterC (l bs bp bv:Nat) (text:List UInt8) (hlen:text.length≤4611686018427387904) (C:List (List UInt8)→List HP) (lp df:HP) (w0 w:World) (G:List HP) (n:Nat) (hn:3≤n) (hY:YieldC l text C lp df w0 (n - 1))
  (hS:Sat w0 w (blk bs 9 [.string ⟨text.toArray⟩]::blk bp 9 [.string ⟨#[10]⟩]::blk bv 3 [.int .i64 1]::(C []++lp::df::G))) :
  CallsIn Fence.wide n Tryz.prog 98 #[.func (.yield l) #[] #[],.pointer (some ⟨bp,0,none⟩),.pointer (some ⟨bs,0,none⟩),.pointer (some ⟨bv,0,none⟩)] w fun e W'=>(∃ v,e=.returned v)∧∃ s,s=yJ text∧Sat w0 W' (C s++lp::df::G):=by
 have hF:∀ f,Fence.wide.fn f:=fun _=>trivial
 have h1n:1≤n:=by omega
 refine callsIn_of_wp Tryz.func98 rfl trivial ?_ rfl
 simp only[Tryz.ntmps98,List.size_toArray,List.length_cons,List.length_nil,Nat.reduceAdd,Nat.reduceSub,Array.replicate_succ,Array.replicate_zero,List.push_toArray,List.append_toArray,List.nil_append,List.cons_append]
 gi_wp2_with ((with_reducible apply (uK hF hS));exact ya;exact yb rfl;(repeat (with_reducible first|exact ye|apply yd));rfl;decide +kernel;(try simp only[qA]))
 gi_loopw [7] (fun z wr=>∃ (pre:List (List UInt8)) (rem:List UInt8),Hid (yJ text=pre++yJ rem)∧rem.length≤4611686018427387904∧Sat w0 wr (blk bs 9 [.string ⟨rem.toArray⟩]::blk bp 9 [.string ⟨#[10]⟩]::blk bv 3 [.int .i64 1]::(C pre++lp::df::G)))
  (fun _ wr=>match wr.cell? ⟨bs,0,none⟩ with|some (.string s)=>s.size|_=>0)
 case atStart=>exact⟨[],text,hid rfl,hlen,hS⟩
 case round =>
  clear hS
  obtain⟨pre,rem,HL,hrl,hS⟩:=hrel
  have IX:=Tryz.strings_Index_one ⟨rem.toArray⟩ 10
  simp only[List.toList_toArray] at IX
  by_cases hix:Lib.indexByte rem 10=-1
  ·rw[hix] at IX
   have HN:=hid (Um hix)
   clear hix
   have hSr:=hS.permL (permI [blk bs 9 [.string ⟨rem.toArray⟩],blk bp 9 [.string ⟨#[10]⟩],blk bv 3 [.int .i64 1]] (C pre) [lp,df] G)
   have hpre:yJ text=pre++[rem]:=by rw[HL.out,HN.out]
   obtain⟨fn,tmps,assign,body,hy,hR⟩:=hY pre rem wr _ ⟨[],hpre⟩ hSr
   have HP:=hid hpre
   clear hSr hpre
   gi_wp2_with (first|((with_reducible apply (uK hF hS));exact ya;exact yb rfl;(repeat (with_reducible first|exact ye|apply yd));rfl;decide +kernel;(try simp only[qA]))|(gi_at_call 79;refine (callsIn_wide.2 (IX _)).mono ?_;rintro e w' ⟨rfl,rfl⟩))
   refine hR.mono ?_
   rintro e W3 ⟨rfl,s',rfl,hS3⟩
   gi_wp2
   refine bodyPost_end (results_none rfl _ _ _) rfl ?_
   exact⟨⟨_,rfl⟩,_,HP.out.symm,hS3.less ((List.Sublist.refl (C _)).append (List.Sublist.cons_cons _ (List.Sublist.cons_cons _ ((List.sublist_cons_self _ _).trans ((List.sublist_cons_self _ _).trans (List.sublist_cons_self _ _))))))⟩
  ·obtain⟨i,hi⟩:∃ i:Nat,Lib.indexByte rem 10=i:=⟨(Lib.indexByte rem 10).toNat,by have:=Lib.indexByte_ge rem 10;omega⟩
   rw[hi] at IX
   obtain⟨hil,hls⟩:=Un hi
   have HL2:=hid hls
   have hsz:(⟨rem.toArray⟩:ByteArray).size=rem.length:=by simp[ByteArray.size]
   have hex:(⟨rem.toArray⟩:ByteArray).extract 0 (i+1)=⟨(rem.take (i+1)).toArray⟩:=by
    apply ByteArray.ext
    simp[ByteArray.data_extract]
   have hex2:(⟨rem.toArray⟩:ByteArray).extract (i+1) rem.length=⟨(rem.drop (i+1)).toArray⟩:=by
    apply ByteArray.ext
    simp only[ByteArray.data_extract,List.extract_toArray,List.extract_eq_take_drop]
    rw[List.take_of_length_le (by rw[List.length_drop];omega)]
   have HCR:=hid (hS.cell ye (off:=0) rfl)
   have hSr:=hS.permL (permI [blk bs 9 [.string ⟨rem.toArray⟩],blk bp 9 [.string ⟨#[10]⟩],blk bv 3 [.int .i64 1]] (C pre) [lp,df] G)
   have hpre:yJ text=pre++rem.take (i+1)::yJ (rem.drop (i+1)):=by rw[HL.out,HL2.out]
   obtain⟨fn,tmps,assign,body,hy,hR⟩:=hY pre (rem.take (i+1)) wr _ ⟨_,hpre⟩ hSr
   rw[← hex] at hy
   have HP:=hid hpre
   have HE2:=hid hex2
   clear hix hi hls hSr hpre hex hex2
   gi_wp2_with (first|((with_reducible apply (uK hF hS));exact ya;exact yb rfl;(repeat (with_reducible first|exact ye|apply yd));rfl;decide +kernel;(try simp only[qA]))|(gi_at_call 79;refine (callsIn_wide.2 (IX _)).mono ?_;rintro e w' ⟨rfl,rfl⟩))
   refine hR.mono ?_
   rintro e W3 ⟨rfl,s',rfl,hS3⟩
   clear hS
   have hS:=hS3.permL (permI [blk bs 9 [.string ⟨rem.toArray⟩],blk bp 9 [.string ⟨#[10]⟩],blk bv 3 [.int .i64 1]] (C (pre++[rem.take (i+1)])) [lp,df] G).symm
   simp only[List.cons_append,List.nil_append] at hS
   clear hS3
   gi_wp2_with ((first|((with_reducible apply (uK hF hS));exact ya;exact yb rfl;(repeat (with_reducible first|exact ye|apply yd));rfl;decide +kernel)|((with_reducible apply (in_store hF hS));exact ya;exact yb rfl;exact yb rfl;exact ye;rfl;(focus (simp;done));exact Upd.hd;rfl;decide +kernel;clear hS;intro w hS;(try simp only[qS] at hS)));try simp only[qA])
   rw[HE2.out] at hS
   have hc2:=hS.cell ye (off:=0) rfl
   have HL3:=hid (show yJ text=(pre++[rem.take (i+1)])++yJ (rem.drop (i+1)) by rw[HP.out];simp)
   go_roundw
   case rel=>exact⟨_,rem.drop (i+1),HL3,by rw[List.length_drop];omega,hS⟩
   case measure =>
    rw[hc2,HCR.out]
    simp[ByteArray.size]
    omega
theorem splitSeqC (text:List UInt8) (w0 w:World) (Hs:List HP) (hS:Sat w0 w Hs) :
  Calls Tryz.prog 81 #[.string ⟨text.toArray⟩,.string ⟨#[10]⟩,.int .i64 1] w fun e w'=>∃ bs bp bv:Nat,e=.returned (.func (.func 98) #[] #[.pointer (some ⟨bp,0,none⟩),.pointer (some ⟨bs,0,none⟩),.pointer (some ⟨bv,0,none⟩)]) ∧
   Sat w0 w' (blk bs 9 [.string ⟨text.toArray⟩]::blk bp 9 [.string ⟨#[10]⟩]::blk bv 3 [.int .i64 1]::Hs):=by
 go_enter Tryz.func81,Tryz.ntmps81
 go_wp2_with ((with_reducible apply yH hS);exact ya;exact yb rfl;exact yN rfl;clear hS;intro NB w hS;(try simp only[qA]))
 go_ret
 exact⟨_,_,_,rfl,hS.sb (by(repeat (with_reducible first|exact Sb.refl|(refine Sb.take (by(repeat (first|exact Rem.hd|apply Rem.tl));done) ?_))))⟩
theorem gr (text:List UInt8) (w0 w:World) (Hs:List HP) (hS:Sat w0 w Hs) :
  Calls Tryz.prog 49 #[.string ⟨text.toArray⟩,.string ⟨#[10]⟩] w fun e w'=>∃ bs bp bv:Nat,e=.returned (.func (.func 98) #[] #[.pointer (some ⟨bp,0,none⟩),.pointer (some ⟨bs,0,none⟩),.pointer (some ⟨bv,0,none⟩)]) ∧
   Sat w0 w' (blk bs 9 [.string ⟨text.toArray⟩]::blk bp 9 [.string ⟨#[10]⟩]::blk bv 3 [.int .i64 1]::Hs):=by
 have SS:=splitSeqC text w0
 go_enter Tryz.func49,Tryz.ntmps49
 go_wp2_with (go_at_call 81;refine (SS _ _ hS).mono ?_;clear hS;rintro e w ⟨bs,bp,bv,rfl,hS⟩)
 go_ret
 exact⟨_,_,_,rfl,hS⟩
end
section
set_option maxRecDepth 20000
open Go Go.RowKit Go.SL Go.LinesP

def jB (c:UInt8):Bool:=c == 32 || c == 9 || c == 13
def yX (c:UInt8):Bool:=!jB c && c != 10
theorem YW (c d:UInt8) (n:Int) (hn:n=(d.toNat:Int)):((c.toNat:Int) == n)=(c == d):=by
 subst hn
 by_cases h:c=d
 ·rw[h];rw[beq_self_eq_true,beq_self_eq_true]
 ·have h2:¬ (c.toNat:Int)=(d.toNat:Int):=fun e=>h (UInt8.toNat_inj.1 (by omega))
  rw[beq_eq_false_iff_ne.2 h,beq_eq_false_iff_ne.2 h2]
theorem gapT (c:UInt8) (w0 w:World) (Hs:List HP) (hS:Sat w0 w Hs):Calls Tryz.prog 50 #[.int .u8 c.toNat] w fun e w'=>e=.returned (.bool (jB c))∧Sat w0 w' Hs:=by
 have e1:=YW c 32 32 rfl
 have e2:=YW c 9 9 rfl
 have e3:=YW c 13 13 rfl
 have hx:jB c=(c == 32 || c == 9 || c == 13):=rfl
 rw[hx]
 clear hx
 cases h1:c == 32 <;> cases h2:c == 9 <;> cases h3:c == 13 <;> rw[h1] at e1 <;> rw[h2] at e2 <;> rw[h3] at e3 <;> clear h1 h2 h3
 all_goals
  generalize (c.toNat:Int)=n at *
  go_enter Tryz.func50,Tryz.ntmps50
  go_wp2
  go_ret
  exact⟨rfl,hS⟩
theorem wordT (c:UInt8) (w0 w:World) (Hs:List HP) (hS:Sat w0 w Hs):Calls Tryz.prog 52 #[.int .u8 c.toNat] w fun e w'=>e=.returned (.bool (yX c))∧Sat w0 w' Hs:=by
 have G:=gapT c w0
 have e1:=YW c 10 10 rfl
 have hx:yX c=(!jB c && c != 10):=rfl
 rw[hx]
 clear hx
 cases h1:jB c with
 | true =>
  rw[h1] at G
  go_enter Tryz.func52,Tryz.ntmps52
  go_wp2_with (go_at_call 50;refine (G _ _ hS).mono ?_;clear hS;rintro e w ⟨rfl,hS⟩)
  go_ret
  exact⟨rfl,hS⟩
 | false =>
  rw[h1] at G
  have hb:(c != 10)=((c.toNat:Int) != 10):=by simp only[bne,e1]
  rw[hb]
  clear e1 hb h1
  generalize (c.toNat:Int)=n at *
  go_enter Tryz.func52,Tryz.ntmps52
  go_wp2_with (go_at_call 50;refine (G _ _ hS).mono ?_;clear hS;rintro e w ⟨rfl,hS⟩)
  go_ret
  exact⟨rfl,hS⟩
def Yw (p:UInt8→Bool) (text:List UInt8) (k:Nat):Nat:=k+((text.drop k).takeWhile p).length
theorem runWord (text:List UInt8) (hl:text.length≤4611686018427387904) (k:Nat) (hk:k≤text.length) (w0 w:World) (Hs:List HP) (hS:Sat w0 w Hs) :
  Calls Tryz.prog 51 #[.string ⟨text.toArray⟩,.int .i64 k,.func (.func 52) #[] #[]] w fun e w'=>e=.returned (.int .i64 (Yw yX text k))∧Sat w0 w' Hs:=by
 obtain⟨R,hR⟩:∃ R:Nat,R=Yw yX text k:=⟨_,rfl⟩
 rw[← hR]
 have HR:=hid hR
 clear hR
 go_enter Tryz.func51,Tryz.ntmps51
 go_wp2
 go_loopw [1] (fun i wr=>∃ j:Nat,i=.int .i64 j∧j≤text.length∧Hid (R=Yw yX text j)∧Sat w0 wr Hs) (fun i _=>text.length - (intOf i).toNat)
 case atStart=>exact⟨k,rfl,hk,HR,hS⟩
 case round =>
  clear hS
  obtain⟨j,rfl,hj,HJ,hS⟩:=hrel
  by_cases hlt:j < text.length
  ·obtain⟨c,hc⟩:∃ c,text[j]?=some c:=⟨_,List.getElem?_eq_getElem hlt⟩
   have WT:=wordT c w0
   have hd:text.drop j=c::text.drop (j+1):=by
    rw[List.drop_eq_getElem_cons hlt];simp[List.getElem?_eq_getElem hlt] at hc;rw[hc]
   have HD:=hid hd
   clear hd
   have hcb:(⟨text.toArray⟩:ByteArray)[j]'(by simpa [ByteArray.size] using hlt)=c:=by
    have:text[j]=c:=by simpa [List.getElem?_eq_getElem hlt] using hc
    simpa [ByteArray.getElem_eq_getElem_data] using this
   clear hc
   cases hp:yX c with
   | true =>
    rw[hp] at WT
    have HP:=hid hp
    clear hp
    go_wp2_with (go_at_call 52;refine (WT _ _ hS).mono ?_;clear hS;rintro e w ⟨rfl,hS⟩)
    go_roundw
    case rel=>exact⟨j+1,by go_num,by omega,hid (by rw[HJ.out,Yw,Yw,HD.out,List.takeWhile_cons,HP.out];simp;omega),hS⟩
    case measure=>simp[intOf];omega
   | false =>
    rw[hp] at WT
    have HP:=hid (show R=j by rw[HJ.out,Yw,HD.out,List.takeWhile_cons,hp];simp)
    clear hp
    go_wp2_with (go_at_call 52;refine (WT _ _ hS).mono ?_;clear hS;rintro e w ⟨rfl,hS⟩)
    go_ret
    exact⟨by rw[HP.out];rfl,hS⟩
  ·have hj2:j=text.length:=by omega
   subst hj2
   have HP:=hid (show R=text.length by rw[HJ.out,Yw,List.drop_length];simp)
   go_wp2
   go_ret
   exact⟨by rw[HP.out];rfl,hS⟩
end
end Go.Proofs.YteopodbkhgcpmaaGreatDoor
namespace Go.ClauseP
section
open Go

def Yc (c:UInt8):Bool:=48≤c && c≤57
def Ko (n:Nat) (s:List UInt8):Nat:=s.foldl (fun n c=>10*n+(c.toNat - 48)) n
def XW (s:List UInt8):Option Nat:=if s=[]∨(1 < s.length∧s.head?=some 48)∨s.all Yc=false then none else some (Ko 0 s)
def Yv (most:Nat) (s:List UInt8):Int:=match XW s with
 | none=>-1
 | some n=>if most < n then -1 else n
theorem Jc (n:Nat) (c:UInt8) (s:List UInt8):Ko n (c::s)=Ko (10*n+(c.toNat - 48)) s:=by unfold Ko;rw[List.foldl_cons]
theorem ul (n:Nat) (s:List UInt8) (c:UInt8):Ko n (s++[c])=10*Ko n s+(c.toNat - 48):=by simp[Ko]
theorem gC (n:Nat) (s t:List UInt8):Ko n (s++t)=Ko (Ko n s) t:=by simp[Ko]
theorem ten_ne (n:Nat):0 < 10 ^ n:=Nat.pow_pos (by decide)
theorem Xs:∀ (s:List UInt8) (n:Nat),n*10 ^ s.length≤Ko n s
 | [],n=>by simp[Ko]
 | c::s,n=>by
  have h:=Xs s (10*n+(c.toNat - 48))
  rw[Jc]
  refine Nat.le_trans ?_ h
  rw[List.length_cons]
  generalize hm:s.length=k at *
  exact Nat.le_trans (Nat.le_of_eq (by rw[Nat.pow_succ,Nat.mul_comm (10 ^ k) 10,← Nat.mul_assoc,Nat.mul_comm n 10])) (Nat.mul_le_mul_right (10 ^ k) (Nat.le_add_right _ _))
theorem gD (s:List UInt8) (n:Nat):n≤Ko n s:=Nat.le_trans (Nat.le_mul_of_pos_right _ (ten_ne _)) (Xs s n)
theorem uJ {c:UInt8} (h:Yc c=true):48≤c.toNat∧c.toNat≤57:=by
 simp only[Yc,Bool.and_eq_true,decide_eq_true_eq,UInt8.le_iff_toNat_le] at h
 exact⟨h.1,h.2⟩
theorem Kg (most:Nat):Yv most []=-1:=rfl
theorem jX {most:Nat} {s:List UInt8} (h:1 < s.length) (h2:s.head?=some 48):Yv most s=-1:=by
 have:XW s=none:=by unfold XW;rw[if_pos (.inr (.inl ⟨h,h2⟩))]
 rw[Yv,this]
theorem Ur {most:Nat} {s:List UInt8} (h:s.all Yc=false):Yv most s=-1:=by
 have:XW s=none:=by unfold XW;rw[if_pos (.inr (.inr h))]
 rw[Yv,this]
theorem jf {most:Nat} {s:List UInt8} (h0:s≠[]) (h1:¬ (1 < s.length∧s.head?=some 48)) (h2:s.all Yc=true):Yv most s=if most < Ko 0 s then -1 else (Ko 0 s:Int):=by
 have:XW s=some (Ko 0 s):=by unfold XW;rw[if_neg (by rintro (h|h|h);exact h0 h;exact h1 h;rw[h2] at h;cases h)]
 rw[Yv,this]
theorem numM_long {most:Nat} {s:List UInt8} (hm:most < 10 ^ 10) (h:10 < s.length):Yv most s=-1:=by
 by_cases h1:1 < s.length∧s.head?=some 48
 ·exact jX h1.1 h1.2
 ·cases h2:s.all Yc with
  | false=>exact Ur h2
  | true =>
   have h0:s≠[]:=by intro e;rw[e] at h;simp at h
   rw[jf h0 h1 h2,if_pos]
   obtain⟨c,t,rfl⟩:∃ c t,s=c::t:=by cases s with|nil=>exact absurd rfl h0|cons c t=>exact⟨c,t,rfl⟩
   simp only[List.length_cons,List.head?_cons,Option.some.injEq] at h h1
   simp only[List.all_cons,Bool.and_eq_true] at h2
   have hc:=uJ h2.1
   have hc48:c.toNat≠48:=fun e=>h1 ⟨by omega,UInt8.toNat_inj.1 e⟩
   have hv:=Xs t (10*0+(c.toNat - 48))
   rw[Jc]
   refine Nat.lt_of_lt_of_le hm (Nat.le_trans ?_ hv)
   have h10:10 ^ 10≤10 ^ t.length:=Nat.pow_le_pow_right (by omega) (by omega)
   exact Nat.le_trans h10 (Nat.le_mul_of_pos_left _ (by omega))
theorem gZ {most:Nat} {s t:List UInt8} (h:most < Ko 0 s):Yv most (s++t)=-1:=by
 unfold Yv XW
 split
 ·rfl
 ·rename_i n hn
  split at hn
  ·cases hn
  ·simp only[Option.some.injEq] at hn
   rw[if_pos]
   rw[← hn,gC]
   exact Nat.lt_of_lt_of_le h (gD t _)
theorem km (most:Nat) (s:List UInt8):-1≤Yv most s∧Yv most s≤most:=by
 unfold Yv
 split
 ·omega
 ·split <;> omega

def jc (s:List UInt8):Option Int :=
 if s.head?=some 45 then (if Yv 2147483647 (s.drop 1)≤0 then none else some (-Yv 2147483647 (s.drop 1))) else (if Yv 2147483647 s < 0 then none else some (Yv 2147483647 s))
theorem GP {s:List UInt8} {n:Int} (h:jc s=some n):-2147483647≤n∧n≤2147483647:=by
 have h1:=km 2147483647 (s.drop 1)
 have h2:=km 2147483647 s
 unfold jc at h
 split at h
 ·split at h
  ·cases h
  ·have h3:=Option.some.inj h
   omega
 ·split at h
  ·cases h
  ·have h3:=Option.some.inj h
   omega

abbrev Wd:=List UInt8 × Nat
def Yb (w:Wd):Int ⊕ Int:=if Yv 2147483647 w.1 < 0 then .inr 133 else if 65536 < Yv 2147483647 w.1 then .inr 8 else .inl (Yv 2147483647 w.1)
def jG (behind:Nat):List Wd→(Int × Int) ⊕ (Int × Nat)
 | []=>.inr (135,behind)
 | w0::l=>if w0.1≠[112] then .inr (135,w0.2) else match l with
  | []=>.inr (135,behind)
  | w1::l=>if w1.1≠[99,110,102] then .inr (135,w1.2) else match l with
   | []=>.inr (135,behind)
   | w2::l=>match Yb w2 with
    | .inr e=>.inr (e,w2.2)
    | .inl v=>match l with
     | []=>.inr (135,behind)
     | w3::l=>match Yb w3 with
      | .inr e=>.inr (e,w3.2)
      | .inl c=>match l with
       | []=>.inl (v,c)
       | w4::_=>.inr (135,w4.2)
def YH (vars count:Int):List Wd→List Int→List Int→(List Int × List Int) ⊕ (Int × Nat)
 | [],es,ls=>.inl (es,ls)
 | w::ws,es,ls=>if (es.length:Int)=count then .inr (135,w.2) else match jc w.1 with
  | none=>.inr (133,w.2)
  | some n=>if vars < n∨n < -vars then .inr (3,w.2) else if n=0 then YH vars count ws (es++[(ls.length:Int)]) ls else if (ls.length:Int)=1048576 then .inr (8,w.2) else YH vars count ws es (ls++[n])
structure CnfV where
 vars:Int
 ends:List Int
 lits:List Int
def YY (l:List Wd):Nat:=match l.getLast? with|some w=>w.2+w.1.length|none=>0
def cnfP (size:Nat):List (List Wd)→CnfV ⊕ (Int × Nat)
 | []=>.inr (135,size)
 | l::ls=>match jG (YY l) l with
  | .inr e=>.inr e
  | .inl (v,c)=>match YH v c ls.flatten [] [] with
   | .inr e=>.inr e
   | .inl (es,lits)=>if (es.length:Int) < c∨es.getLast?.getD 0 < lits.length then .inr (135,size) else .inl ⟨v,es,lits⟩
end
end Go.ClauseP
namespace Go.SL
section
open Go Go.RowKit

section
variable {P:Program} {ops:Array Oper} {Q:Exit→Act→World→Prop} {rest:List Oper} {a:Act} {w w0:World} {Hs R R1 R2:List HP} {e:TypeId} {size n cap:Nat} {ad:Option Addr} {xs:List Value}
theorem Sat.ownShrink {k:Nat} (hS:Sat w0 w (own e size ad n cap xs::R)) (hk:k≤n):Sat w0 w (own e size ad k cap (xs.take (k*size))::R):=by
 refine hS.turn fun h ⟨hl,hA⟩=>⟨?_,?_⟩
 ·have:=Nat.mul_le_mul_right size hk
  rw[List.length_take];omega
 ·rcases hA with ⟨rfl,rfl,rfl,h0⟩|⟨g,cur,rfl,h1,h2,h3,h4,h5⟩
  ·exact .inl ⟨rfl,by omega,rfl,h0⟩
  ·refine .inr ⟨g,cur,rfl,by omega,h2,h3,?_,h5⟩
   have:=Nat.mul_le_mul_right size hk
   rw[← h4,List.take_take]
   congr 1;omega
theorem kn {dst:Option Tmp} {s x:Operand} {t ty:TypeId} {pos:String} {after:Array Edge} {gd:Option (Nat × Bool)} {bytes k:Nat} (hS:Sat w0 w Hs)
  (hw:Region.wanted ⟨dst,.call { callee:=.builtin .append,args:=#[s,x],argTypes:=#[t,t] },ty,pos,after,gd⟩ (yielded ops a.tmps)=true)
  (hs:a.eval s=.slice ad k cap) {nb m c:Nat} (hx:a.eval x=.slice (some ⟨nb,0,none⟩) m c) (E:ElemTy P t e size bytes) (r1:Rem Hs (own e size ad n cap xs) R1) {news:List Value} (r2:Rem R1 (blk nb e news) R2)
  (hk:k≤n) {ys:List Value} (hys:xs.take (k*size)=ys) (hl:news.length=m*size) (h1:news.all (·.oneCell')=true) (hb:(k+m)*bytes≤140737488355328) (h63:k+m≤9223372036854775807)
  (K:∀ ad' cap' w',Sat w0 w' (own e size ad' (k+m) cap' (ys++news)::R2)→wpList P ops Q rest (a.put dst (.slice ad' (k+m) cap')) w') :
  wpList P ops Q (⟨dst,.call { callee:=.builtin .append,args:=#[s,x],argTypes:=#[t,t] },ty,pos,after,gd⟩::rest) a w:=by
 subst hys
 exact yD ((hS.front r1).ownShrink hk) hw hs hx E Rem.hd r2 hl h1 hb h63 K
theorem yO {A:HP} {dst:Option Tmp} {t:TypeId} {x:Operand} {ty:TypeId} {pos:String} {after:Array Edge} {gd:Option (Nat × Bool)} {m:Nat} (hS:Sat w0 w Hs)
  (hw:Region.wanted ⟨dst,.load t x,ty,pos,after,gd⟩ (yielded ops a.tmps)=true) {j:Nat} (hx:a.eval x=.pointer (some (adr ad j))) {cs vs:List Value} (hr:Rd A ad cs) (hm:A∈Hs)
  (hv:(cs.drop j).take m=vs) (hl:vs.length=m) (hn:Yp P t=some m) (ht:Ju P t=true) (h0:0 < m)
  (K:wpList P ops Q rest (a.put dst (.agg vs.toArray)) w):wpList P ops Q (⟨dst,.load t x,ty,pos,after,gd⟩::rest) a w:=by
 have hlen:0 < cs.length:=by
  rcases Nat.eq_zero_or_pos cs.length with h|h
  ·have:cs=[]:=List.length_eq_zero_iff.1 h
   subst this
   simp at hv
   subst hv
   simp at hl;omega
  ·exact h
 refine gI hw hx (hS.rdAd hm hr hlen) (fun i v hi=>hS.rdCell hm hr ?_) hn hl ht K
 rw[← hv,List.getElem?_take] at hi
 split at hi
 ·rw[List.getElem?_drop] at hi;exact hi
 ·cases hi
end
end
section
open Go Go.RowKit
section
variable {P:Program} {w:World} {ad:Option Addr}
theorem yz {o:Oper} {s:TypeId} {x:Operand} {f:Nat} (ho:o.op=.fieldAddr s x f) {ρ:Operand→Value} {j:Nat} (hx:ρ x=.pointer (some (adr ad j))) (hsp:∃ aa,ad=some aa∧aa.spot=none) {k:Nat} (hf:Yi P s f=some k) :
  (execOp ρ o).run P w=.ok (.value (.pointer (some (adr ad (j+k))))) w:=by
 have h:=ji (w:=w) ho hx hf
 obtain⟨aa,rfl,hs⟩:=hsp
 simp only[adr,Option.getD_some,jQ _ hs] at h ⊢
 exact h
theorem yo {n:Int} (h0:-9223372036854775808≤n) (h1:n≤9223372036854775807):IntKind.i64.wrap n=n:=by
 simp[IntKind.wrap,IntKind.bits,IntKind.signed];omega
end
end
section
open Go Go.RowKit
section
variable {P:Program} {ops:Array Oper} {Q:Exit→Act→World→Prop} {rest:List Oper} {a:Act} {w w0:World} {Hs:List HP} {e:TypeId} {ad:Option Addr}
theorem Rd.pre {A:HP} {xs ys:List Value} (h:Rd A ad (xs++ys)):Rd A ad xs:=by
 intro w hp hA hw j v hv
 have hj:=(List.getElem?_eq_some_iff.1 hv).1
 exact h w hp hA hw j v (by rw[List.getElem?_append_left hj];exact hv)
theorem yl {A:HP} {t:TypeId} {m j:Nat} {cs vs:List Value} (hS:Sat w0 w Hs) (hr:Rd A ad cs) (hm:A∈Hs) (hv:(cs.drop j).take m=vs) (hl:vs.length=m) (hn:Yp P t=some m) (ht:Ju P t=true) (h0:0 < m) :
  (loadVar t (adr ad j)).run P w=.ok (.agg vs.toArray) w:=by
 have hlen:0 < cs.length:=by
  rcases Nat.eq_zero_or_pos cs.length with h|h
  ·have:cs=[]:=List.length_eq_zero_iff.1 h
   subst this
   simp at hv
   subst hv
   simp at hl;omega
  ·exact h
 refine kU ht (by rw[hl];exact hn) fun i v hi=>?_
 have h:=hS.rdCell hm hr (j:=j+i) (v:=v) (by
  rw[← hv,List.getElem?_take] at hi
  split at hi
  ·rw[List.getElem?_drop] at hi;exact hi
  ·cases hi)
 obtain⟨aa,rfl,hs⟩:=hS.rdAd hm hr hlen
 simp only[adr,Option.getD_some] at h ⊢
 rw[jQ _ hs]
 exact h
end
end
end Go.SL
