/- A part of the proof: Draw Range Range2 Lines Shelf More Ty. -/
import Derived.Test.YteopodbkhgcpmaaGreatDoorM1
import Derived.OrdersHeld
import Derived.Tactics
import Derived.KernelRfl
import Derived.OrdersIn
import Derived.RangeFuncNested
import Derived.RangeFuncBound
import Derived.RangeFuncCalls
import Derived.RangeFuncLeaves
import Derived.RangeFuncRecord
import Derived.Lib.Bytealg
import Derived.Shelf.Small.Utf8
import Derived.Shelf.Small.Strs
import Derived.Shelf.Small.Wraps
import Derived.Shelf.Strconv.Itoa0
import Derived.Shelf.Strconv.Itoa1
import Derived.Shelf.LaysM
import Derived.Shelf.Strconv.Itoa2
import Derived.Shelf.Strconv.Itoa3
import Derived.Shelf.Strings.Search1
import Derived.Shelf.Strings.Search2
import Derived.Shelf.Strings.Search3
import Derived.Shelf.Strings.Count
import Derived.Shelf.Strings.Shaped
import Derived.Shelf.Strings.LastIndex
import Derived.Shelf.Strings.Prefix
import Derived.Shelf.Unicode.Decode
import Derived.Shelf.Unicode.DecodeSlow
import Derived.Test.YteopodbkhgcpmaaGreatDoorProg
import Derived.Test.YteopodbkhgcpmaaGreatDoorChecked
set_option linter.unusedSimpArgs false
set_option linter.unusedVariables false
set_option linter.unusedSectionVars false
namespace Go.SL
section
open Go

section
variable {P:Program} {ops:Array Oper} {Q:Exit→Act→World→Prop} {md:Region.Mode} {S:World→Prop} {js:List Nat}

def brk (js:List Nat) (listed:Array Bool):Bool:=js.any fun j=>listed.getD j false
def Yx (P:Program) (md:Region.Mode) (ops:Array Oper) (Q:Exit→Act→World→Prop) (S:World→Prop) (js:List Nat):Nat→Array Bool→Act→World→Prop
 | 0,listed,a,w=>Region.ready md ops listed=[]∧Q .normal a w
 | fuel+1,listed,a,w =>
  (Region.ready md ops listed=[]→Q .normal a w) ∧
  ∀ i∈Region.ready md ops listed,wpOp P ops Q i (fun a' w'=>(brk js (listed.setIfInBounds i true)=true∨S w')∧Yx P md ops Q S js fuel (listed.setIfInBounds i true) a' w') a w
theorem Jt:∀ (fuel:Nat) (listed:Array Bool) (a:Act) (w:World),Yx P md ops Q S js fuel listed a w→wpAny P md ops Q fuel listed a w
 | 0,_,_,_,h=>h
 | fuel+1,_,_,_,h=>⟨h.1,fun i hi=>wpOp_mono (fun a' w' h'=>Jt fuel _ a' w' h'.2) (h.2 i hi)⟩

def Closed (md:Region.Mode) (ops:Array Oper) (listed:Array Bool):Prop:=∀ j o,ops[j]?=some o→listed.getD j false=true→∀ e∈o.after,Region.binds md e=true→listed.getD e.on false=true
def anc (md:Region.Mode) (ops:Array Oper):Nat→Nat→Nat→Bool
 | 0,_,_=>false
 | k+1,j,i=>match ops[j]? with
  | none=>false
  | some o=>o.after.any fun e=>Region.binds md e && (e.on == i || anc md ops k e.on i)
theorem uU {listed:Array Bool} (hc:Closed md ops listed) {i:Nat}:∀ (k j:Nat),anc md ops k j i=true→listed.getD j false=true→listed.getD i false=true:=by
 intro k
 induction k with
 | zero=>intro j h;simp[anc] at h
 | succ k ih =>
  intro j h hj
  simp only[anc] at h
  cases ho:ops[j]? with
  | none=>simp[ho] at h
  | some o =>
   simp only[ho] at h
   obtain⟨e,he,hb⟩:=Array.any_eq_true'.1 h
   simp only[Bool.and_eq_true,Bool.or_eq_true,beq_iff_eq] at hb
   have h1:=hc j o ho hj e he hb.1
   rcases hb.2 with h2|h2
   ·rw[← h2];exact h1
   ·exact ih _ h2 h1
theorem anc_ready {listed:Array Bool} (hc:Closed md ops listed) {i k j:Nat} (h:anc md ops k j i=true) (hr:j∈Region.ready md ops listed):listed.getD i false=true:=by
 obtain⟨h0,o,ho,hall⟩:=mem_ready.1 hr
 cases k with
 | zero=>simp[anc] at h
 | succ k =>
  simp only[anc,ho] at h
  obtain⟨e,he,hb⟩:=Array.any_eq_true'.1 h
  simp only[Bool.and_eq_true,Bool.or_eq_true,beq_iff_eq] at hb
  have h1:=hall e he hb.1
  rcases hb.2 with h2|h2
  ·rw[← h2];exact h1
  ·exact uU hc _ _ h2 h1
theorem Closed.set {listed:Array Bool} (hc:Closed md ops listed) {i:Nat} (hr:i∈Region.ready md ops listed):Closed md ops (listed.setIfInBounds i true):=by
 intro j o ho hj e he hb
 obtain⟨h0,oi,hoi,hall⟩:=mem_ready.1 hr
 by_cases hij:i=j
 ·subst hij
  rw[ho] at hoi
  cases hoi
  exact getD_set_true (hall e he hb)
 ·rw[getD_set_ne false hij] at hj
  exact getD_set_true (hc j o ho hj e he hb)
theorem Closed.start (n:Nat):Closed md ops (Array.replicate n false):=by
 intro j o ho hj
 by_cases h:j < n <;> simp[Array.getD,h] at hj
theorem jS {listed:Array Bool} {i:Nat} (hi:i ∉ js):brk js (listed.setIfInBounds i true)=brk js listed:=by
 unfold brk
 induction js with
 | nil=>rfl
 | cons j js ih =>
  simp only[List.mem_cons,not_or] at hi
  simp only[List.any_cons]
  rw[getD_set_ne false hi.1,ih hi.2]

theorem notIn {listed:Array Bool} {i:Nat} (h0:listed.getD i true=false):listed.getD i false=false:=by
 rcases Nat.lt_or_ge i listed.size with h'|h'
 ·simp[Array.getD,h'] at h0 ⊢;exact h0
 ·simp[Array.getD,Nat.not_lt.2 h'] at h0
theorem Xt {i:Nat} {oi:Oper} {v:Value} (hi:ops[i]?=some oi) (hsel:∀ (j:Nat) (o:Oper) cs b,ops[j]?=some o→o.op≠.select cs b)
  (hQ:∀ c a w,Q (.panic c) (a.put oi.dst v) w→Q (.panic c) a w) (hjs:∀ j∈js,∃ k,anc md ops k j i=true) (hni:i ∉ js) :
  ∀ (fuel:Nat) (listed:Array Bool) (a:Act) (w:World),
   (∀ j oj,ops[j]?=some oj→j≠i→listed.getD j true=false→(∀ e∈oj.after,Region.binds md e=true→e.on≠i)→oi.apart ops oj=true) →
   Closed md ops listed→i∈Region.ready md ops listed→YieldsIf P ops S oi v a→S w →
   Yx P md ops Q S js fuel (listed.setIfInBounds i true) (a.put oi.dst v) w→Yx P md ops Q S js (fuel+1) listed a w:=by
 intro fuel
 induction fuel with
 | zero =>
  intro listed a w _ hc hr hy hS H
  refine ⟨fun h=>(by rw[h] at hr;cases hr),fun j hj=>?_⟩
  by_cases hji:j=i
  ·subst hji;exact hy.wpOp hi hS ⟨.inr hS,H⟩
  ·have:=ready_mono hj hji
   rw[H.1] at this
   cases this
 | succ fuel ih =>
  intro listed a w hfree hc hr hy hS H
  refine ⟨fun h=>(by rw[h] at hr;cases hr),fun j hj=>?_⟩
  by_cases hji:j=i
  ·subst hji;exact hy.wpOp hi hS ⟨.inr hS,H⟩
  ·have h1:=H.2 j (ready_mono hj hji)
   obtain⟨hjun,oj,hoj,hall⟩:=mem_ready.1 hj
   have hiun:=notIn (mem_ready.1 hr).1
   have hnot:∀ e∈oj.after,Region.binds md e=true→e.on≠i:=fun e he hb heq=>by
    have h1:=hall e he hb
    rw[heq,hiun] at h1
    cases h1
   have hjn:j ∉ js:=fun hm=>by
    obtain⟨k,hk⟩:=hjs j hm
    have:=anc_ready hc hk hj
    rw[hiun] at this
    cases this
   have hb0:brk js listed=false:=by
    unfold brk
    rw[List.any_eq_false]
    intro x hx hxl
    obtain⟨k,hk⟩:=hjs x hx
    have:=uU hc _ _ hk hxl
    rw[hiun] at this
    cases this
   have hb1:brk js ((listed.setIfInBounds i true).setIfInBounds j true)=false:=by rw[jS hjn,jS hni,hb0]
   have h2:=wpOp_putIf hoj (hfree j oj hoj hji hjun hnot) (fun cs b=>hsel i oi cs b hi) (fun cs b=>hsel j oj cs b hoj) hQ hy h1
   have hfree':∀ k ok,ops[k]?=some ok→k≠i→(listed.setIfInBounds j true).getD k true=false →
     (∀ e∈ok.after,Region.binds md e=true→e.on≠i)→oi.apart ops ok=true:=fun k ok hk hki hun hno=>by
    refine hfree k ok hk hki ?_ hno
    by_cases hjk:j=k
    ·subst hjk;exact hjun
    ·rw[getD_set_ne true hjk] at hun;exact hun
   refine wpOp_mono (fun a' w' h3=>?_) h2
   have hS':S w':=h3.2.1.resolve_left (by rw[hb1];simp)
   refine ⟨.inr hS',ih (listed.setIfInBounds j true) a' w' hfree' (hc.set hj) (ready_mono hr (Ne.symm hji)) h3.1 hS' ?_⟩
   rw[Array.setIfInBounds_comm _ _ hji]
   exact h3.2.2
theorem jA {i:Nat} {oi:Oper} {v:Value} (hi:ops[i]?=some oi) (hsel:∀ (j:Nat) (o:Oper) cs b,ops[j]?=some o→o.op≠.select cs b)
  (hQ:∀ c a w,Q (.panic c) (a.put oi.dst v) w→Q (.panic c) a w) (hni:i ∉ js) :
  ∀ (fuel:Nat) (listed:Array Bool) (a:Act) (w:World),
   (∀ j oj,ops[j]?=some oj→j≠i→listed.getD j true=false→(∀ e∈oj.after,Region.binds md e=true→e.on≠i)→oi.apart ops oj=true) →
   i∈Region.ready md ops listed→YieldsIf P ops (fun _=>True) oi v a→(brk js listed=true∨S w) →
   Yx P md ops Q S js fuel (listed.setIfInBounds i true) (a.put oi.dst v) w→Yx P md ops Q S js (fuel+1) listed a w:=by
 intro fuel
 induction fuel with
 | zero =>
  intro listed a w _ hr hy hS H
  refine ⟨fun h=>(by rw[h] at hr;cases hr),fun j hj=>?_⟩
  by_cases hji:j=i
  ·subst hji;exact hy.wpOp hi trivial ⟨by rw[jS hni];exact hS,H⟩
  ·have:=ready_mono hj hji
   rw[H.1] at this
   cases this
 | succ fuel ih =>
  intro listed a w hfree hr hy hS H
  refine ⟨fun h=>(by rw[h] at hr;cases hr),fun j hj=>?_⟩
  by_cases hji:j=i
  ·subst hji;exact hy.wpOp hi trivial ⟨by rw[jS hni];exact hS,H⟩
  ·have h1:=H.2 j (ready_mono hj hji)
   obtain⟨hjun,oj,hoj,hall⟩:=mem_ready.1 hj
   have hiun:=notIn (mem_ready.1 hr).1
   have hnot:∀ e∈oj.after,Region.binds md e=true→e.on≠i:=fun e he hb heq=>by
    have h1:=hall e he hb
    rw[heq,hiun] at h1
    cases h1
   have h2:=wpOp_putIf hoj (hfree j oj hoj hji hjun hnot) (fun cs b=>hsel i oi cs b hi) (fun cs b=>hsel j oj cs b hoj) hQ hy h1
   have hfree':∀ k ok,ops[k]?=some ok→k≠i→(listed.setIfInBounds j true).getD k true=false →
     (∀ e∈ok.after,Region.binds md e=true→e.on≠i)→oi.apart ops ok=true:=fun k ok hk hki hun hno=>by
    refine hfree k ok hk hki ?_ hno
    by_cases hjk:j=k
    ·subst hjk;exact hjun
    ·rw[getD_set_ne true hjk] at hun;exact hun
   refine wpOp_mono (fun a' w' h3=>?_) h2
   have hb:brk js ((listed.setIfInBounds i true).setIfInBounds j true)=brk js (listed.setIfInBounds j true):=by
    rw[Array.setIfInBounds_comm _ _ (Ne.symm hji),jS hni]
   have hS':brk js (listed.setIfInBounds j true)=true∨S w':=by rw[← hb];exact h3.2.1
   refine ⟨hS',ih (listed.setIfInBounds j true) a' w' hfree' (ready_mono hr (Ne.symm hji)) h3.1 hS' ?_⟩
   rw[Array.setIfInBounds_comm _ _ hji]
   exact h3.2.2

/-! ### The moves -/
theorem Ua {listed:Array Bool} {i:Nat} {w:World} (hn:js.contains i=false) (hS:brk js listed=true∨S w):brk js (listed.setIfInBounds i true)=true∨S w:=by
 rw[jS (by simpa using hn)];exact hS
theorem xp {i:Nat} {oi:Oper} {v:Value} {fuel:Nat} {listed:Array Bool} {a:Act} {w:World} (hi:ops[i]?=some oi) (hs:Region.noSelect ops=true) (hf:Region.free md ops listed i=true)
  (hr:(Region.ready md ops listed).contains i=true) (ha:(js.all fun j=>anc md ops ops.size j i)=true) (hn:js.contains i=false) (hc:Closed md ops listed) (hQ:∀ c a w,Q (.panic c) (a.put oi.dst v) w→Q (.panic c) a w) (hS:brk js listed=true∨S w) (hb:brk js listed=false)
  (hw:Region.wanted oi (yielded ops a.tmps)=true) (hy:∀ w,S w→(execOp a.eval oi).run P w=.ok (.value v) w)
  (h:(brk js (listed.setIfInBounds i true)=true∨S w)→Closed md ops (listed.setIfInBounds i true)→Yx P md ops Q S js fuel (listed.setIfInBounds i true) (a.put oi.dst v) w):Yx P md ops Q S js (fuel+1) listed a w :=
 Xt hi (Region.noSelect_spec hs) hQ (fun j hj=>⟨_,by simpa using List.all_eq_true.1 ha j hj⟩) (by simpa using hn) fuel listed a w (Region.free_spec hi hf) hc (by simpa using hr) (.inl ⟨hw,hy⟩) (hS.resolve_left (by rw[hb];simp)) (h (Ua hn hS) (hc.set (by simpa using hr)))
theorem ki {i:Nat} {oi:Oper} {v:Value} {fuel:Nat} {listed:Array Bool} {a:Act} {w:World} (hi:ops[i]?=some oi) (hs:Region.noSelect ops=true) (hf:Region.free md ops listed i=true)
  (hr:(Region.ready md ops listed).contains i=true) (hn:js.contains i=false) (hc:Closed md ops listed) (hQ:∀ c a w,Q (.panic c) (a.put oi.dst v) w→Q (.panic c) a w) (hS:brk js listed=true∨S w)
  (hw:Region.wanted oi (yielded ops a.tmps)=true) (hy:∀ w,(execOp a.eval oi).run P w=.ok (.value v) w)
  (h:(brk js (listed.setIfInBounds i true)=true∨S w)→Closed md ops (listed.setIfInBounds i true)→Yx P md ops Q S js fuel (listed.setIfInBounds i true) (a.put oi.dst v) w):Yx P md ops Q S js (fuel+1) listed a w :=
 jA hi (Region.noSelect_spec hs) hQ (by simpa using hn) fuel listed a w (Region.free_spec hi hf) (by simpa using hr) (.inl ⟨hw,fun w _=>hy w⟩) hS (h (Ua hn hS) (hc.set (by simpa using hr)))
theorem draw_skip {i:Nat} {oi:Oper} {fuel:Nat} {listed:Array Bool} {a:Act} {w:World} (hi:ops[i]?=some oi) (hs:Region.noSelect ops=true) (hf:Region.free md ops listed i=true)
  (hr:(Region.ready md ops listed).contains i=true) (hn:js.contains i=false) (hc:Closed md ops listed) (hQ:∀ c a w,Q (.panic c) (a.put oi.dst undef) w→Q (.panic c) a w) (hS:brk js listed=true∨S w)
  (hw:Region.wanted oi (yielded ops a.tmps)=false)
  (h:(brk js (listed.setIfInBounds i true)=true∨S w)→Closed md ops (listed.setIfInBounds i true)→Yx P md ops Q S js fuel (listed.setIfInBounds i true) (a.put oi.dst undef) w):Yx P md ops Q S js (fuel+1) listed a w :=
 jA hi (Region.noSelect_spec hs) hQ (by simpa using hn) fuel listed a w (Region.free_spec hi hf) (by simpa using hr) (.inr ⟨hw,rfl⟩) hS (h (Ua hn hS) (hc.set (by simpa using hr)))
def Cont (P:Program) (md:Region.Mode) (ops:Array Oper) (Q:Exit→Act→World→Prop) (S:World→Prop) (js:List Nat) (fuel:Nat) (listed:Array Bool) (a:Act) (w:World):Prop :=
 (brk js listed=true∨S w)∧(Closed md ops listed→Yx P md ops Q S js fuel listed a w)
theorem Cont.intro {fuel:Nat} {listed:Array Bool} {a:Act} {w:World} (h:brk js listed=true∨S w) (k:(brk js listed=true∨S w)→Closed md ops listed→Yx P md ops Q S js fuel listed a w):Cont P md ops Q S js fuel listed a w:=⟨h,k h⟩
theorem yq {i:Nat} {oi:Oper} {fuel:Nat} {listed:Array Bool} {a:Act} {w:World} (hi:ops[i]?=some oi) (hr:Region.ready md ops listed=[i]) (hc:Closed md ops listed)
  (h:wpList P ops (Exit.then (Cont P md ops Q S js fuel (listed.setIfInBounds i true)) Q) [oi] a w):Yx P md ops Q S js (fuel+1) listed a w:=by
 refine ⟨fun h0=>(by rw[hr] at h0;cases h0),fun j hj=>?_⟩
 rw[hr,List.mem_singleton] at hj
 subst hj
 have hmem:j∈Region.ready md ops listed:=by rw[hr];exact List.mem_singleton.2 rfl
 refine wpOp_mono (K:=Cont P md ops Q S js fuel (listed.setIfInBounds j true)) (fun a' w' h'=>⟨h'.1,h'.2 (hc.set hmem)⟩) ?_
 unfold wpOp
 simp only[hi]
 simp only[wpList] at h
 split
 ·rename_i hw
  rw[if_pos hw] at h
  rcases h with h1|⟨h1,h2⟩
  ·left
   unfold Oper.wp at *
   generalize (execOp a.eval oi).run P w=r at *
   cases r with
   | ok n w'=>cases n <;> simp only[Oper.upon] at h1 ⊢ <;> first|exact h1|exact Calls.mono h1 (fun e w'' he=>by cases e <;> first|exact he|(obtain⟨a0,w0,h0⟩:=he;exact⟨a0,w0,h0⟩))|exact Rows.mono h1 (fun _ _ he=>he)
   | halt x w'=>cases x <;> simp only[Oper.upon] at h1 ⊢ <;> exact h1
  ·right
   obtain⟨a0,w0,h0⟩:=h2
   exact⟨h1,a0,w0,h0⟩
 ·rename_i hw
  rw[if_neg hw] at h
  exact h
theorem ym {fuel:Nat} {listed:Array Bool} {a:Act} {w:World} (hr:Region.ready md ops listed=[]) (h:Q .normal a w):Yx P md ops Q S js fuel listed a w:=by
 cases fuel with
 | zero=>exact⟨hr,h⟩
 | succ n=>exact⟨fun _=>h,by rw[hr];simp⟩
theorem Uf {id:Nat} {a:Act} {w:World} (hm:P.follows .mixedOrders=true) (S:World→Prop) (js:List Nat)
  (h:Closed .any ops (Array.replicate ops.size false)→Yx P .any ops Q S js ops.size (Array.replicate ops.size false) a w.drew):(Code.region id ops true).wp P Q a w :=
 wp_region_any hm (Jt _ _ _ _ (h (Closed.start _)))
theorem yt {w0:World} {Hs:List HP} (id n:Nat) {a:Act} {w:World} (hS:Sat w0 w Hs) (hm:P.follows .mixedOrders=true) (js:List Nat) (hn:ops.size=n)
  (h:∀ w,Sat w0 w Hs→(brk js (Array.replicate n false)=true∨Sat w0 w Hs)→Closed .any ops (Array.replicate n false)→Yx P .any ops Q (fun w=>Sat w0 w Hs) js n (Array.replicate n false) a w):(Code.region id ops true).wp P Q a w:=by
 subst hn;exact Uf hm _ js (h _ hS.drew (.inr hS.drew))
theorem KB {w0:World} {Hs Hr:List HP} (A:HP) (id n:Nat) {a:Act} {w:World} (hS:Sat w0 w Hs) (s:Rem Hs A Hr) (hm:P.follows .mixedOrders=true) (js:List Nat) (hn:ops.size=n)
  (h:∀ w,Sat w0 w Hs→(brk js (Array.replicate n false)=true∨Sat w0 w Hr)→Closed .any ops (Array.replicate n false)→Yx P .any ops Q (fun w=>Sat w0 w Hr) js n (Array.replicate n false) a w):(Code.region id ops true).wp P Q a w:=by
 subst hn;exact Uf hm _ js (h _ hS.drew (.inr (hS.drew.front s).drop))
end
theorem yu {P:Program} {T e:TypeId} {size bytes:Nat} (E:ElemTy P T e size bytes) {o:Oper} {x i:Operand} (ho:o.op=.indexAddr T x i) {ρ:Operand→Value} {w:World} {ad:Option Addr} {n cap:Nat} {k:IntKind} {ix:Int}
  (hx:ρ x=.slice ad n cap) (hi:ρ i=.int k ix) (h0:0≤ix) (h1:ix < n) (hne:∃ aa,ad=some aa∧aa.spot=none) {j:Nat} (hj:ix.toNat*size=j):(execOp ρ o).run P w=.ok (.value (.pointer (some (adr ad j)))) w:=by
 obtain⟨aa,rfl,_⟩:=hne
 subst hj
 exact jj ho hx hi E.ht E.sz h0 h1
section
variable {P:Program} {ops:Array Oper} {Q:Exit→Act→World→Prop} {md:Region.Mode} {S:World→Prop} {js:List Nat}
theorem dP (i:Nat) {oi:Oper} {v:Value} {fuel:Nat} {listed:Array Bool} {a:Act} {w:World} (hc:Closed md ops listed) (hS:brk js listed=true∨S w) (hi:ops[i]?=some oi)
  (hb:(Region.noSelect ops && Region.free md ops listed i && (Region.ready md ops listed).contains i && !js.contains i)=true) (hQ:∀ c a w,Q (.panic c) (a.put oi.dst v) w→Q (.panic c) a w)
  (hw:Region.wanted oi (yielded ops a.tmps)=true) (hy:∀ w,(execOp a.eval oi).run P w=.ok (.value v) w)
  (h:(brk js (listed.setIfInBounds i true)=true∨S w)→Closed md ops (listed.setIfInBounds i true)→Yx P md ops Q S js fuel (listed.setIfInBounds i true) (a.put oi.dst v) w):Yx P md ops Q S js (fuel+1) listed a w:=by
 simp only[Bool.and_eq_true,Bool.not_eq_true'] at hb
 exact ki hi hb.1.1.1 hb.1.1.2 hb.1.2 hb.2 hc hQ hS hw hy h
theorem dS (i:Nat) {oi:Oper} {fuel:Nat} {listed:Array Bool} {a:Act} {w:World} (hc:Closed md ops listed) (hS:brk js listed=true∨S w) (hi:ops[i]?=some oi)
  (hb:(Region.noSelect ops && Region.free md ops listed i && (Region.ready md ops listed).contains i && !js.contains i)=true) (hQ:∀ c a w,Q (.panic c) (a.put oi.dst undef) w→Q (.panic c) a w)
  (hw:Region.wanted oi (yielded ops a.tmps)=false)
  (h:(brk js (listed.setIfInBounds i true)=true∨S w)→Closed md ops (listed.setIfInBounds i true)→Yx P md ops Q S js fuel (listed.setIfInBounds i true) (a.put oi.dst undef) w):Yx P md ops Q S js (fuel+1) listed a w:=by
 simp only[Bool.and_eq_true,Bool.not_eq_true'] at hb
 exact draw_skip hi hb.1.1.1 hb.1.1.2 hb.1.2 hb.2 hc hQ hS hw h
theorem dR (i:Nat) {oi:Oper} {v:Value} {fuel:Nat} {listed:Array Bool} {a:Act} {w:World} (hc:Closed md ops listed) (hS:brk js listed=true∨S w) (hi:ops[i]?=some oi)
  (hb:(Region.noSelect ops && Region.free md ops listed i && (Region.ready md ops listed).contains i && (js.all fun j=>anc md ops ops.size j i) && !js.contains i && !brk js listed)=true) (hQ:∀ c a w,Q (.panic c) (a.put oi.dst v) w→Q (.panic c) a w)
  (hw:Region.wanted oi (yielded ops a.tmps)=true) (hy:∀ w,S w→(execOp a.eval oi).run P w=.ok (.value v) w)
  (h:(brk js (listed.setIfInBounds i true)=true∨S w)→Closed md ops (listed.setIfInBounds i true)→Yx P md ops Q S js fuel (listed.setIfInBounds i true) (a.put oi.dst v) w):Yx P md ops Q S js (fuel+1) listed a w:=by
 simp only[Bool.and_eq_true,Bool.not_eq_true'] at hb
 exact xp hi hb.1.1.1.1.1 hb.1.1.1.1.2 hb.1.1.1.2 hb.1.1.2 hb.1.2 hc hQ hS hb.2 hw hy h
end
end
section
open Go Go.RowKit

section
variable {P:Program} {ops:Array Oper} {Q:Exit→Act→World→Prop} {n l:Nat}

theorem gk {m:Nat} {row:String} {args:Array Value} {w:World} {R:Value→World→Prop} (h:Rows P row args w R):RowsIn Fence.wide m P row args w R:=by
 intro c cs _
 obtain⟨v,w',hR,hs⟩:=h c cs
 exact⟨v,w',hR,stepsIn_wide.2 hs⟩
theorem GY {o:Oper} {a:Act} {w:World} {K K':Act→World→Prop} (hd:∀ c,o.op≠.defer c) (hq:¬ LetsOut Q) (hk:∀ a w,K a w→K' a w) (h:o.wp P a w K Q∨(o.asks P a w∧LetsOut Q)) :
  o.wpIn (Fence.wide.inRound l) n P a w K' Q:=by
 rcases h with h|⟨_,h⟩
 ·refine ⟨fun _ _=>trivial,?_⟩
  rw[Fence.inRound_round,Oper.semAt_some l a.eval o hd]
  unfold Oper.wp at h
  generalize (execOp a.eval o).run P w=r at *
  cases r with
  | ok x w' =>
   cases x with
   | value v=>exact hk _ _ h
   | skip=>exact hk _ _ h
   | defer d=>exact hk _ _ h
   | enter f args =>
    refine ⟨fun hh=>by simp[Fence.wide] at hh,CallsIn.inRound l (CallsIn.mono (callsIn_wide.2 h) fun e w'' he=>?_)⟩
    cases e with
    | returned v=>exact hk _ _ he
    | panicked c=>exact he
    | outgrown=>exact he
   | row row args=>exact⟨fun hh=>by simp[Fence.wide] at hh,RowsIn.mono (gk h) fun v w'' he=>hk _ _ he⟩
   | _=>exact h.elim
  | halt x w' =>
   cases x <;> first|exact h|exact h.elim
 ·exact absurd h hq
theorem xP {md:Region.Mode} (hq:¬ LetsOut Q) (hd:∀ (i:Nat) o,ops[i]?=some o→∀ c,o.op≠.defer c):∀ (fuel:Nat) (listed:Array Bool) (a:Act) (w:World),wpAny P md ops Q fuel listed a w→wpAnyIn (Fence.wide.inRound l) n P md ops Q fuel listed a w
 | 0,listed,a,w,h=>h
 | fuel+1,listed,a,w,h=>by
  refine ⟨h.1,fun i hi=>?_⟩
  have h1:=h.2 i hi
  unfold wpOp at h1
  unfold wpOpIn
  cases ho:ops[i]? with
  | none =>
   rw[ho] at h1
   exact xP hq hd fuel _ _ _ h1
  | some o =>
   rw[ho] at h1
   simp only at h1 ⊢
   split
   ·rename_i hw
    rw[if_pos hw] at h1
    exact GY (hd i o ho) hq (xP hq hd fuel _) h1
   ·rename_i hw
    rw[if_neg hw] at h1
    exact⟨fun _ _=>trivial,xP hq hd fuel _ _ _ h1⟩

/-! ### A range over a function whose body goes on in every round -/
theorem Upd.mid (A:List HP) (x y:HP) (L:List HP):Upd (A++x::L) x y (A++y::L):=by
 induction A with
 | nil=>exact .hd
 | cons c A ih=>exact .tl ih
theorem uM (A:List HP) (x:HP) (L:List HP):x∈A++x::L:=List.mem_append_right _ (.head _)
theorem Sat.putObj {w0 w:World} {A L:List HP} {b:Nat} {o:Obj} (o':Obj) (hS:Sat w0 w (A++pt b o::L)):Sat w0 (w.putObj b o') (A++pt b o'::L):=by
 have h:=hS.block (uM A (pt b o) L)
 exact hS.setObj (Upd.mid A _ _ L) rfl rfl rfl (by simp) (World.putObj_heap_same (Array.getElem?_eq_some_iff.1 h).1) fun c hc=>World.putObj_heap_other hc
def JF (fn:FuncId) (a:Act) (ps:Array Tmp) (assign body:Code) (D:Nat) (st:LoopState):Loop:={ state:=st,pending:=none,fn:=fn,tmps:=a.tmps,params:=ps,assign:=assign,body:=body,defers:=D }
theorem range_sl {σ α:Type} {g:Operand} {ps:Array Tmp} {assign body:Code} {Q:Exit→Act→World→Prop} {a:Act} {w w0:World} (encs:α→Array Value) (hps:∀ x,(encs x).size=ps.size)
  (C:σ→List HP) (Ok:σ→α→Prop) (jp:σ→α→σ→Prop) (Fin:σ→Prop) (s0:σ) (F0 F1:List HP) (hS:Sat w0 w (C s0++F0)) {gf:Nat} {lb:Array Value} (hg:a.eval g=.func (.func gf) #[] lb)
  (eg:∀ args w,(callFunc gf args).run P w=.ok (.enter gf args) w) (a₁:α→Act)
  (hassign:∀ (l:Nat) (x:α) (W:World) (K:Act→World→Prop),K (a₁ x) W→assign.wpIn (Fence.wide.inRound l) (n - 1 - 1) P (Exit.then K (fun _ _ _=>False)) { tmps:=(ps.zip (encs x)).foldl (fun t (p,v)=>t.setIfInBounds p v) a.tmps,defers:=[] } W)
  (hbody:∀ (l:Nat) (s:σ) (x:α) (W:World) (Fr:List HP),Ok s x→Sat w0 W (C s++Fr)→body.wpIn (Fence.wide.inRound l) (n - 1 - 1) P (fun e _ W'=>e=.normal∧∃ s',jp s x s'∧Sat w0 W' (C s'++Fr)) (a₁ x) W)
  (hiter:∀ (l:Nat) (lp df:HP) (W:World),Sat w0 W (C s0++lp::df::F0) →
   (∀ (s:σ) (x:α) (W1:World) (X:List HP),Ok s x→Sat w0 W1 (C s++lp::df::X)→YieldAt Fence.wide (n - 1 - 1) P l (encs x) W1 fun e W'=>e=.returned (.bool true)∧∃ s',jp s x s'∧Sat w0 W' (C s'++lp::df::X)) →
   CallsIn Fence.wide (n - 1) P gf (#[.func (.yield l) #[] #[]]++lb) W fun e W'=>(∃ v,e=.returned v)∧∃ s,Fin s∧Sat w0 W' (C s++lp::df::F1))
  (hdone:∀ (D:Nat) (s:σ) (W:World),Fin s→Sat w0 W (C s++pt D (.deferred (some []))::F1)→Q .normal { a with defers:={ target:=.collected D,args:=#[] }::a.defers } W) :
  (Code.rangeFunc g ps assign body).wpIn Fence.wide n P Q a w:=by
 refine wpIn_rangeFunc ?_
 intro fn hfn
 obtain⟨D,hD⟩:∃ D,D=w.heap.size:=⟨_,rfl⟩
 have hl1:(w.alloc (.deferred (some []))).heap.size=D+1:=by rw[hD];simp
 refine ⟨D+1,[{ target:=.collected D,args:=#[] }],(w.alloc (.deferred (some []))).alloc (.loop (JF fn a ps assign body D .ready)),{ target:=.fn (.func gf) lb,args:=#[.func (.yield (D+1)) #[] #[]] },(w.alloc (.deferred (some []))).alloc (.loop (JF fn a ps assign body D .ready)),gf,
  #[.func (.yield (D+1)) #[] #[]]++lb,(w.alloc (.deferred (some []))).alloc (.loop (JF fn a ps assign body D .ready)),?_,?_,fun _ _=>trivial,?_,fun h=>by simp[Fence.wide] at h,?_⟩
 ·rw[Fence.wide_round,hD];exact run_enterLoop_outer _ _ _ _ _
 ·simp only[resolve,hg]
  simp[go_sem]
 ·simp[invoke,go_sem,eg]
 ·have hS1:=(hS.alloc (.deferred (some []))).alloc (.loop (JF fn a ps assign body D .ready))
  rw[hl1,← hD] at hS1
  have hS2:Sat w0 _ (C s0++pt (D+1) (.loop (JF fn a ps assign body D .ready))::pt D (.deferred (some []))::F0):=hS1.perm fun h H=>by
   have e1:=(Rem.mid (C s0) (pt D (.deferred (some []))::F0) (pt (D+1) (.loop (JF fn a ps assign body D .ready)))).back
   have e2:=(Rem.mid (C s0) F0 (pt D (.deferred (some [])))).back
   exact e1 h (JJ (fun h' H'=>e2 h' H') H)
  refine (hiter (D+1) _ _ _ hS2 ?_).mono ?_
  ·intro s x W1 X hok hS3
   have hl:=hS3.block (uM (C s) _ _)
   have hy:=run_yield (P:=P) (args:=encs x) hl (hps x)
   refine ⟨fn,_,assign,body,hy,roundIn_of_wpIn hfn (hassign _ x W1 _ ?_)⟩
   refine ⟨_,run_beginRound hl rfl,?_⟩
   have hS4:=hS3.putObj (.loop { JF fn a ps assign body D .ready with state:=.busy })
   refine wpIn_mono (hbody (D+1) s x _ _ hok hS4) ?_
   rintro e a3 W3 ⟨rfl,s',hst,hS5⟩
   have hl5:=hS5.block (uM (C s') _ _)
   refine ⟨_,_,run_endRound (P:=P) none hl5,rfl,s',hst,?_⟩
   exact hS5.putObj _
  ·rintro e W2 ⟨⟨v,rfl⟩,s,hf,hS6⟩
   have hl6:=hS6.block (uM (C s) _ _)
   refine ⟨none,_,run_endLoop (P:=P) hl6 (by simp[JF]),?_⟩
   have hS7:=hS6.putObj (.loop { JF fn a ps assign body D .ready with state:=.exhausted })
   refine hdone D s _ hf ?_
   exact hS7.less ((List.Sublist.refl (C s)).append (List.sublist_cons_self _ _))
end
end
section
open Go Go.RowKit
section
variable {F:Fence} {n:Nat} {P:Program} {ops:Array Oper} {Q:Exit→Act→World→Prop} {rest:List Oper} {a:Act} {w w0:World} {Hs:List HP}
theorem in_val {o:Oper} (hF:∀ f,F.fn f) (hd:∀ c,o.op≠.defer c) {v:Value} {w':World} (hw:Region.wanted o (yielded ops a.tmps)=true) (hr:(execOp a.eval o).run P w=.ok (.value v) w')
  (K:wpListIn F n P ops Q rest (a.put o.dst v) w'):wpListIn F n P ops Q (o::rest) a w:=by
 simp only[wpListIn]
 rw[if_pos hw]
 refine ⟨fun f _=>hF f,?_⟩
 rw[Oper.semAt_eq _ _ _ hd,hr]
 exact K
theorem in_skip {o:Oper} (hF:∀ f,F.fn f) (hd:∀ c,o.op≠.defer c) {w':World} (hw:Region.wanted o (yielded ops a.tmps)=true) (hr:(execOp a.eval o).run P w=.ok .skip w')
  (K:wpListIn F n P ops Q rest (a.put o.dst undef) w'):wpListIn F n P ops Q (o::rest) a w:=by
 simp only[wpListIn]
 rw[if_pos hw]
 refine ⟨fun f _=>hF f,?_⟩
 rw[Oper.semAt_eq _ _ _ hd,hr]
 exact K
theorem uK {dst:Option Tmp} {t:TypeId} {x:Operand} {ty:TypeId} {pos:String} {after:Array Edge} {gd:Option (Nat × Bool)} (hF:∀ f,F.fn f) (hS:Sat w0 w Hs)
  (hw:Region.wanted ⟨dst,.load t x,ty,pos,after,gd⟩ (yielded ops a.tmps)=true) {b off:Nat} (hx:a.eval x=.pointer (some ⟨b,off,none⟩)) {e:TypeId} {cs:List Value}
  (hm:blk b e cs∈Hs) {v:Value} (hv:cs[off]?=some v) (ht:kW P t=true) (K:wpListIn F n P ops Q rest (a.put dst v) w) :
  wpListIn F n P ops Q (⟨dst,.load t x,ty,pos,after,gd⟩::rest) a w :=
 in_val hF (fun c h=>by cases h) hw (yj rfl hx (yc ht (hS.cell hm hv))) K
theorem in_store {dst:Option Tmp} {t:TypeId} {x y:Operand} {ty:TypeId} {pos:String} {after:Array Edge} {gd:Option (Nat × Bool)} (hF:∀ f,F.fn f) (hS:Sat w0 w Hs)
  (hw:Region.wanted ⟨dst,.store t x y,ty,pos,after,gd⟩ (yielded ops a.tmps)=true) {b off:Nat} (hx:a.eval x=.pointer (some ⟨b,off,none⟩)) {v:Value} (hy:a.eval y=v) {e:TypeId} {cs cs':List Value}
  (hm:blk b e cs∈Hs) (hcs:cs.set off v=cs') (hlt:off < cs.length) {Hs':List HP} (u:Upd Hs (blk b e cs) (blk b e cs') Hs') (h1:v.oneCell'=true) (ht:Yp P t=some 1)
  (K:∀ w',Sat w0 w' Hs'→wpListIn F n P ops Q rest (a.put dst undef) w'):wpListIn F n P ops Q (⟨dst,.store t x y,ty,pos,after,gd⟩::rest) a w:=by
 subst hcs
 have hc:w.cell? ⟨b,off,none⟩=some (cs[off]'hlt):=hS.cell hm (List.getElem?_eq_getElem hlt)
 exact in_skip hF (fun c h=>by cases h) hw (kV rfl hx hy (KT ht h1 hc (hS.frozen hm))) (K _ (hS.setCell v u))
theorem seps_perm {L L':List HP} (h:L.Perm L'):∀ g,Ym L g→Ym L' g:=by
 induction h with
 | nil=>exact fun g H=>H
 | cons x _ ih=>exact fun g H=>JJ ih H
 | swap x y l=>exact fun g H=>UI H
 | trans _ _ ih1 ih2=>exact fun g H=>ih2 g (ih1 g H)
theorem Sat.permL {L L':List HP} (hS:Sat w0 w L) (h:L.Perm L'):Sat w0 w L':=hS.perm (seps_perm h)
theorem permI (X C Y G:List HP):(X++(C++(Y++G))).Perm (C++(Y++(X++G))):=by
 have h:(X++(C++Y)).Perm ((C++Y)++X):=List.perm_append_comm
 have:=h.append_right G
 simpa [List.append_assoc] using this
end
end
end Go.SL
namespace Go.LinesP
section
open Go
def yJ:List UInt8→List (List UInt8)
 | []=>[[]]
 | c::cs=>if c=10 then [c]::yJ cs else match yJ cs with
  | []=>[[c]]
  | l::ls=>(c::l)::ls
theorem jb (s:List UInt8):yJ s≠[]:=by
 cases s with
 | nil=>simp[yJ]
 | cons c cs =>
  simp only[yJ]
  split
  ·simp
  ·split <;> simp
theorem Um:∀ {s:List UInt8},Lib.indexByte s 10=-1→yJ s=[s]
 | [],_=>rfl
 | c::cs,h=>by
  unfold Lib.indexByte at h
  by_cases hc:c=10
  ·subst hc;simp at h
  ·have h1:(c == 10)=false:=by simp[hc]
   rw[h1] at h
   simp only[Bool.false_eq_true,if_false] at h
   have hge:=Lib.indexByte_ge cs 10
   by_cases h2:Lib.indexByte cs 10=-1
   ·simp only[yJ,if_neg hc,Um h2]
   ·have h3:(Lib.indexByte cs 10 == -1)=false:=by simp[h2]
    rw[h3] at h
    simp only[Bool.false_eq_true,if_false] at h
    omega
theorem Un:∀ {s:List UInt8} {i:Nat},Lib.indexByte s 10=(i:Int)→i < s.length∧yJ s=s.take (i+1)::yJ (s.drop (i+1))
 | [],i,h=>by simp[Lib.indexByte] at h
 | c::cs,i,h=>by
  unfold Lib.indexByte at h
  by_cases hc:c=10
  ·subst hc
   simp at h
   obtain rfl:i=0:=by omega
   simp[yJ]
  ·have h1:(c == 10)=false:=by simp[hc]
   rw[h1] at h
   simp only[Bool.false_eq_true,if_false] at h
   have hge:=Lib.indexByte_ge cs 10
   by_cases h2:Lib.indexByte cs 10=-1
   ·rw[h2] at h
    simp at h
   ·have h3:(Lib.indexByte cs 10 == -1)=false:=by simp[h2]
    rw[h3] at h
    simp only[Bool.false_eq_true,if_false] at h
    obtain⟨j,rfl⟩:∃ j,i=j+1:=⟨i - 1,by omega⟩
    obtain⟨g1,g2⟩:=Un (s:=cs) (i:=j) (by omega)
    refine ⟨by simp;omega,?_⟩
    simp only[yJ,if_neg hc,g2,List.take_succ_cons,List.drop_succ_cons]
end
end Go.LinesP
namespace Go.Proofs
section
open Go.Shelf
def Tryz.lays118_ren:Go.Shelf.Ren:=⟨fun|118=>95|n=>n,fun|21=>21|3=>3|4=>4|n=>n,fun|n=>n⟩
theorem Tryz.lays118:Go.Proofs.Lays.n118 Tryz.prog Tryz.lays118_ren:={
 mixed:=by kernel_rfl
 f118:=Tryz.func95.trans (congrArg some (by kernel_rfl))
 t3:=Tryz.underlying3
 a3:=Tryz.isAgg3
 z3:=Tryz.sizeOf3
 v3:=Tryz.zeroValue3
 t4:=Tryz.underlying4
 a4:=Tryz.isAgg4
 z4:=Tryz.sizeOf4
 v4:=Tryz.zeroValue4
 t21:=Tryz.underlying21
 a21:=Tryz.isAgg21
 z21:=Tryz.sizeOf21
 v21:=Tryz.zeroValue21 }
theorem Tryz.utf8_RuneLen (r:Int) (w:World) :
  Calls Tryz.prog 95 #[.int .i32 r] w fun e w'=>e=.returned (.int .i64 (Lib.runeLen r))∧w'=w:=Any.utf8_RuneLen Tryz.lays118 r w
def Tryz.lays137_ren:Go.Shelf.Ren:=⟨fun|137=>89|217=>104|266=>116|n=>n,fun|9=>9|5=>5|3=>3|n=>n,fun|n=>n⟩
theorem Tryz.lays137:Go.Proofs.Lays.n137 Tryz.prog Tryz.lays137_ren:={
 mixed:=by kernel_rfl
 f137:=Tryz.func89.trans (congrArg some (by kernel_rfl))
 f217:=Tryz.func104.trans (congrArg some (by kernel_rfl))
 f266:=Tryz.func116.trans (congrArg some (by kernel_rfl))
 t3:=Tryz.underlying3
 a3:=Tryz.isAgg3
 z3:=Tryz.sizeOf3
 v3:=Tryz.zeroValue3
 t5:=Tryz.underlying5
 a5:=Tryz.isAgg5
 z5:=Tryz.sizeOf5
 v5:=Tryz.zeroValue5
 t9:=Tryz.underlying9
 a9:=Tryz.isAgg9
 z9:=Tryz.sizeOf9
 v9:=Tryz.zeroValue9 }
open Go.RowKit in
/-- strings.IndexByte: "IndexByte returns the index of the first instance of c in s, or -1 if c is not present in s.": IT RETURNS 'Lib.indexByte s c'; the world is as it was. (LAID: no walk: one application.) -/
theorem Tryz.strings_IndexByte (s:ByteArray) (c:Int) (w:World) :
  Calls Tryz.prog 89 #[.string s,.int .u8 c] w fun e w'=>e=.returned (.int .i64 (Lib.indexByte s.data.toList c.toNat.toUInt8))∧w'=w:=Any.strings_IndexByte Tryz.lays137 s c w
def Tryz.lays103_ren:Go.Shelf.Ren:=⟨fun|103=>83|210=>100|206=>106|n=>n,fun|9=>9|4=>4|24=>156|3=>3|n=>n,fun|n=>n⟩
theorem Tryz.lays103:Go.Proofs.Lays.n103 Tryz.prog Tryz.lays103_ren:={
 mixed:=by kernel_rfl
 f103:=Tryz.func83.trans (congrArg some (by kernel_rfl))
 f206:=Tryz.func106.trans (congrArg some (by kernel_rfl))
 f210:=Tryz.func100.trans (congrArg some (by kernel_rfl))
 t3:=Tryz.underlying3
 a3:=Tryz.isAgg3
 z3:=Tryz.sizeOf3
 v3:=Tryz.zeroValue3
 t4:=Tryz.underlying4
 a4:=Tryz.isAgg4
 z4:=Tryz.sizeOf4
 v4:=Tryz.zeroValue4
 t9:=Tryz.underlying9
 a9:=Tryz.isAgg9
 z9:=Tryz.sizeOf9
 v9:=Tryz.zeroValue9
 t24:=Tryz.underlying156
 a24:=Tryz.isAgg156
 z24:=Tryz.sizeOf156
 v24:=Tryz.zeroValue156 }
open Go.RowKit in
/-- strings.CutPrefix: "CutPrefix returns s without the provided leading prefix string and reports whether it found the prefix. If s doesn't start with prefix, CutPrefix returns s, false. If prefix is the empty string, CutPrefix returns s, true.": IT RETURNS '(Lib.trimPrefix s p, Lib.hasPrefix s p)'; the world is as it was. (LAID: no walk: one application.) -/
theorem Tryz.strings_CutPrefix (s p:ByteArray) (w:World) :
  Calls Tryz.prog 83 #[.string s,.string p] w fun e w'=>e=.returned (.tuple #[.string ⟨(Lib.trimPrefix s.data.toList p.data.toList).toArray⟩,.bool (Lib.hasPrefix s.data.toList p.data.toList)])∧w'=w:=Any.strings_CutPrefix Tryz.lays103 s p w
def Tryz.laysM171_ren:Go.Shelf.Ren:=⟨fun|171=>69|243=>87|246=>102|283=>112|284=>113|285=>114|286=>115|129=>120|317=>119|318=>121|319=>122|320=>123|337=>127|338=>128|n=>n,fun|3=>3|9=>9|2=>2|4=>4|171=>178|0=>0|53=>179|37=>92|5=>5|173=>182|212=>193|51=>185|20=>20|213=>194|46=>177|232=>198|233=>199|n=>n,fun|17=>5|18=>6|19=>7|n=>n⟩
theorem Tryz.laysM171:Go.Proofs.LaysM.n171 Tryz.prog Tryz.laysM171_ren:={
 mixed:=by kernel_rfl
 f129:=Tryz.func120.trans (congrArg some (by kernel_rfl))
 f171:=Tryz.func69.trans (congrArg some (by kernel_rfl))
 f243:=Tryz.func87.trans (congrArg some (by kernel_rfl))
 f246:=Tryz.func102.trans (congrArg some (by kernel_rfl))
 f283:=Tryz.func112.trans (congrArg some (by kernel_rfl))
 f284:=Tryz.func113.trans (congrArg some (by kernel_rfl))
 f285:=Tryz.func114.trans (congrArg some (by kernel_rfl))
 f286:=Tryz.func115.trans (congrArg some (by kernel_rfl))
 f317:=Tryz.func119.trans (congrArg some (by kernel_rfl))
 f318:=Tryz.func121.trans (congrArg some (by kernel_rfl))
 f319:=Tryz.func122.trans (congrArg some (by kernel_rfl))
 f320:=Tryz.func123.trans (congrArg some (by kernel_rfl))
 f337:=Tryz.func127.trans (congrArg some (by kernel_rfl))
 f338:=Tryz.func128.trans (congrArg some (by kernel_rfl))
 t0:=Tryz.underlying0
 a0:=Tryz.isAgg0
 z0:=Tryz.sizeOf0
 v0:=Tryz.zeroValue0
 t2:=Tryz.underlying2
 a2:=Tryz.isAgg2
 z2:=Tryz.sizeOf2
 v2:=Tryz.zeroValue2
 t3:=Tryz.underlying3
 a3:=Tryz.isAgg3
 z3:=Tryz.sizeOf3
 v3:=Tryz.zeroValue3
 t4:=Tryz.underlying4
 a4:=Tryz.isAgg4
 z4:=Tryz.sizeOf4
 v4:=Tryz.zeroValue4
 t5:=Tryz.underlying5
 a5:=Tryz.isAgg5
 z5:=Tryz.sizeOf5
 v5:=Tryz.zeroValue5
 t9:=Tryz.underlying9
 a9:=Tryz.isAgg9
 z9:=Tryz.sizeOf9
 v9:=Tryz.zeroValue9
 t20:=Tryz.underlying20
 a20:=Tryz.isAgg20
 z20:=Tryz.sizeOf20
 v20:=Tryz.zeroValue20
 t37:=Tryz.underlying92
 a37:=Tryz.isAgg92
 z37:=Tryz.sizeOf92
 v37:=Tryz.zeroValue92
 t46:=Tryz.underlying177
 a46:=Tryz.isAgg177
 z46:=Tryz.sizeOf177
 v46:=Tryz.zeroValue177
 t51:=Tryz.underlying185
 a51:=Tryz.isAgg185
 z51:=Tryz.sizeOf185
 v51:=Tryz.zeroValue185
 t53:=Tryz.underlying179
 a53:=Tryz.isAgg179
 z53:=Tryz.sizeOf179
 v53:=Tryz.zeroValue179
 t171:=Tryz.underlying178
 a171:=Tryz.isAgg178
 z171:=Tryz.sizeOf178
 v171:=Tryz.zeroValue178
 t173:=Tryz.underlying182
 a173:=Tryz.isAgg182
 z173:=Tryz.sizeOf182
 v173:=Tryz.zeroValue182
 t212:=Tryz.underlying193
 a212:=Tryz.isAgg193
 z212:=Tryz.sizeOf193
 v212:=Tryz.zeroValue193
 t213:=Tryz.underlying194
 a213:=Tryz.isAgg194
 z213:=Tryz.sizeOf194
 t232:=Tryz.underlying198
 a232:=Tryz.isAgg198
 z232:=Tryz.sizeOf198
 v232:=Tryz.zeroValue198
 t233:=Tryz.underlying199
 a233:=Tryz.isAgg199
 z233:=Tryz.sizeOf199
 v233:=Tryz.zeroValue199
 g17:=by kernel_rfl
 g18:=by kernel_rfl
 g19:=by kernel_rfl
 i0:=by kernel_rfl
 i2:=by kernel_rfl
 i3:=by kernel_rfl
 i4:=by kernel_rfl
 i5:=by kernel_rfl
 i9:=by kernel_rfl
 i20:=by kernel_rfl
 i37:=by kernel_rfl
 i46:=by kernel_rfl
 i51:=by kernel_rfl
 i53:=by kernel_rfl
 i171:=by kernel_rfl
 i173:=by kernel_rfl
 i212:=by kernel_rfl
 i232:=by kernel_rfl
 i233:=by kernel_rfl
 m17:=by kernel_rfl
 m18:=by kernel_rfl
 m19:=by kernel_rfl }
open Go.RowKit Go.Sort Go.Lib in
/-- strconv.Itoa: "Itoa is equivalent to FormatInt(int64(i), 10).": i's DECIMAL NUMERAL ('Lib.itoa': a '-' where i is negative, then the digits), FOR EVERY int. The world behind the call: the world before it, new blocks behind the heap (the library's 'var a [24]byte'), draws. (LAID: no walk: one application.) -/
theorem Tryz.strconv_Itoa (n : Int) (h0 : -9223372036854775808 ≤ n) (h1 : n ≤ 9223372036854775807) (w : World) (htab : Lib.TabIs Tryz.prog w "internal/strconv.uint64pow10" .u64 Lib.pow10Tab) :
  Calls Tryz.prog 69 #[.int .i64 n] w fun e w'=>e=.returned (.string ⟨(Lib.itoa n).toArray⟩)∧∃ k os,w'=grow (w.drewN k) os:=Any.strconv_Itoa Tryz.laysM171 n h0 h1 w htab
def Tryz.lays143_ren:Go.Shelf.Ren:=⟨fun|143=>79|219=>97|217=>104|225=>108|224=>109|267=>110|266=>116|314=>118|n=>n,fun|9=>9|3=>3|4=>4|5=>5|46=>177|146=>186|51=>185|n=>n,fun|1=>2|n=>n⟩
theorem Tryz.lays143:Go.Proofs.Lays.n143 Tryz.prog Tryz.lays143_ren:={
 mixed:=by kernel_rfl
 f143:=Tryz.func79.trans (congrArg some (by kernel_rfl))
 f217:=Tryz.func104.trans (congrArg some (by kernel_rfl))
 f219:=Tryz.func97.trans (congrArg some (by kernel_rfl))
 f224:=Tryz.func109.trans (congrArg some (by kernel_rfl))
 f225:=Tryz.func108.trans (congrArg some (by kernel_rfl))
 f266:=Tryz.func116.trans (congrArg some (by kernel_rfl))
 f267:=Tryz.func110.trans (congrArg some (by kernel_rfl))
 f314:=Tryz.func118.trans (congrArg some (by kernel_rfl))
 t3:=Tryz.underlying3
 a3:=Tryz.isAgg3
 z3:=Tryz.sizeOf3
 v3:=Tryz.zeroValue3
 t4:=Tryz.underlying4
 a4:=Tryz.isAgg4
 z4:=Tryz.sizeOf4
 v4:=Tryz.zeroValue4
 t5:=Tryz.underlying5
 a5:=Tryz.isAgg5
 z5:=Tryz.sizeOf5
 v5:=Tryz.zeroValue5
 t9:=Tryz.underlying9
 a9:=Tryz.isAgg9
 z9:=Tryz.sizeOf9
 v9:=Tryz.zeroValue9
 t46:=Tryz.underlying177
 a46:=Tryz.isAgg177
 z46:=Tryz.sizeOf177
 v46:=Tryz.zeroValue177
 t51:=Tryz.underlying185
 a51:=Tryz.isAgg185
 z51:=Tryz.sizeOf185
 v51:=Tryz.zeroValue185
 t146:=Tryz.underlying186
 a146:=Tryz.isAgg186
 z146:=Tryz.sizeOf186
 v146:=Tryz.zeroValue186
 g1:=by kernel_rfl }
open Go.RowKit Go.Lib in
/-- strings.Index: "Index returns the index of the first instance of substr in s, or -1 if substr is not present in s.": AT A substr OF ONE BYTE c: IT RETURNS 'Lib.indexByte s c'; the world is as it was. (LAID: no walk: one application.) -/
theorem Tryz.strings_Index_one (s:ByteArray) (c:UInt8) (w:World) :
  Calls Tryz.prog 79 #[.string s,.string ⟨#[c]⟩] w fun e w'=>e=.returned (.int .i64 (Lib.indexByte s.data.toList c))∧w'=w:=Any.strings_Index_one Tryz.lays143 s c w
def Tryz.lays138_ren:Go.Shelf.Ren:=⟨fun|138=>47|195=>77|218=>78|143=>79|219=>97|217=>104|225=>108|224=>109|267=>110|266=>116|314=>118|n=>n,fun|9=>9|3=>3|4=>4|5=>5|0=>0|46=>177|146=>186|51=>185|n=>n,fun|1=>2|n=>n⟩
theorem Tryz.lays138:Go.Proofs.Lays.n138 Tryz.prog Tryz.lays138_ren:={
 mixed:=by kernel_rfl
 f138:=Tryz.func47.trans (congrArg some (by kernel_rfl))
 f143:=Tryz.func79.trans (congrArg some (by kernel_rfl))
 f195:=Tryz.func77.trans (congrArg some (by kernel_rfl))
 f217:=Tryz.func104.trans (congrArg some (by kernel_rfl))
 f218:=Tryz.func78.trans (congrArg some (by kernel_rfl))
 f219:=Tryz.func97.trans (congrArg some (by kernel_rfl))
 f224:=Tryz.func109.trans (congrArg some (by kernel_rfl))
 f225:=Tryz.func108.trans (congrArg some (by kernel_rfl))
 f266:=Tryz.func116.trans (congrArg some (by kernel_rfl))
 f267:=Tryz.func110.trans (congrArg some (by kernel_rfl))
 f314:=Tryz.func118.trans (congrArg some (by kernel_rfl))
 t0:=Tryz.underlying0
 a0:=Tryz.isAgg0
 z0:=Tryz.sizeOf0
 v0:=Tryz.zeroValue0
 t3:=Tryz.underlying3
 a3:=Tryz.isAgg3
 z3:=Tryz.sizeOf3
 v3:=Tryz.zeroValue3
 t4:=Tryz.underlying4
 a4:=Tryz.isAgg4
 z4:=Tryz.sizeOf4
 v4:=Tryz.zeroValue4
 t5:=Tryz.underlying5
 a5:=Tryz.isAgg5
 z5:=Tryz.sizeOf5
 v5:=Tryz.zeroValue5
 t9:=Tryz.underlying9
 a9:=Tryz.isAgg9
 z9:=Tryz.sizeOf9
 v9:=Tryz.zeroValue9
 t46:=Tryz.underlying177
 a46:=Tryz.isAgg177
 z46:=Tryz.sizeOf177
 v46:=Tryz.zeroValue177
 t51:=Tryz.underlying185
 a51:=Tryz.isAgg185
 z51:=Tryz.sizeOf185
 v51:=Tryz.zeroValue185
 t146:=Tryz.underlying186
 a146:=Tryz.isAgg186
 z146:=Tryz.sizeOf186
 v146:=Tryz.zeroValue186
 g1:=by kernel_rfl }
open Go.RowKit Go.Lib in
/-- strings.Count AT A substr OF ONE BYTE ('hp'): "Count JU the number of non-overlapping instances of substr in s.": IT RETURNS 'Lib.countByte s (that byte)'; the world is as it was. ✋ NO CONTRACT HERE YET at an empty substr (utf8.RuneCountInString) or at a longer one (a loop over strings.Index). (LAID: no walk: one application.) -/
theorem Tryz.strings_Count_one (s:ByteArray) (c:UInt8) (w:World) :
  Calls Tryz.prog 47 #[.string s,.string ⟨#[c]⟩] w fun e w'=>e=.returned (.int .i64 (Lib.countByte s.data.toList c))∧w'=w:=Any.strings_Count_one Tryz.lays138 s c w
def Tryz.lays149_ren:Go.Shelf.Ren:=⟨fun|149=>48|222=>80|n=>n,fun|9=>9|5=>5|3=>3|4=>4|n=>n,fun|n=>n⟩
theorem Tryz.lays149:Go.Proofs.Lays.n149 Tryz.prog Tryz.lays149_ren:={
 mixed:=by kernel_rfl
 f149:=Tryz.func48.trans (congrArg some (by kernel_rfl))
 f222:=Tryz.func80.trans (congrArg some (by kernel_rfl))
 t3:=Tryz.underlying3
 a3:=Tryz.isAgg3
 z3:=Tryz.sizeOf3
 v3:=Tryz.zeroValue3
 t4:=Tryz.underlying4
 a4:=Tryz.isAgg4
 z4:=Tryz.sizeOf4
 v4:=Tryz.zeroValue4
 t5:=Tryz.underlying5
 a5:=Tryz.isAgg5
 z5:=Tryz.sizeOf5
 v5:=Tryz.zeroValue5
 t9:=Tryz.underlying9
 a9:=Tryz.isAgg9
 z9:=Tryz.sizeOf9
 v9:=Tryz.zeroValue9 }
open Go.RowKit Go.Lib in
/-- strings.LastIndexByte: "LastIndexByte returns the index of the last instance of c in s, or -1 if c is not present in s." (LAID: no walk: one application.) -/
theorem Tryz.strings_LastIndexByte (s:ByteArray) (c:Int) (hs:s.size < 4611686018427387904) (w:World) :
  Calls Tryz.prog 48 #[.string s,.int .u8 c] w fun e w'=>e=.returned (.int .i64 (Lib.lastIndexByte s c))∧w'=w:=Any.strings_LastIndexByte Tryz.lays149 s c hs w
def Tryz.lays99_ren:Go.Shelf.Ren:=⟨fun|99=>93|206=>106|n=>n,fun|9=>9|4=>4|3=>3|n=>n,fun|n=>n⟩
theorem Tryz.lays99:Go.Proofs.Lays.n99 Tryz.prog Tryz.lays99_ren:={
 mixed:=by kernel_rfl
 f99:=Tryz.func93.trans (congrArg some (by kernel_rfl))
 f206:=Tryz.func106.trans (congrArg some (by kernel_rfl))
 t3:=Tryz.underlying3
 a3:=Tryz.isAgg3
 z3:=Tryz.sizeOf3
 v3:=Tryz.zeroValue3
 t4:=Tryz.underlying4
 a4:=Tryz.isAgg4
 z4:=Tryz.sizeOf4
 v4:=Tryz.zeroValue4
 t9:=Tryz.underlying9
 a9:=Tryz.isAgg9
 z9:=Tryz.sizeOf9
 v9:=Tryz.zeroValue9 }
open Go.RowKit Go.Lib in
/-- strings.HasPrefix: "HasPrefix reports whether the string s begins with prefix.": IT RETURNS 'Lib.hasPrefix s prefix'; the world is as it was. (LAID: no walk: one application.) -/
theorem Tryz.strings_HasPrefix (s p:ByteArray) (w:World) :
  Calls Tryz.prog 93 #[.string s,.string p] w fun e w'=>e=.returned (.bool (Lib.hasPrefix s.data.toList p.data.toList))∧w'=w:=Any.strings_HasPrefix Tryz.lays99 s p w
end
end Go.Proofs
namespace Go.SL
section
open Go Go.RowKit

def yp (cs:List Value) (k:Nat):List Value→List Value
 | []=>cs
 | v::vs=>yp (cs.set k v) (k+1) vs
section
variable {P:Program} {ops:Array Oper} {Q:Exit→Act→World→Prop} {rest:List Oper} {a:Act} {w w0:World} {Hs R:List HP} {e b:Nat}
theorem KD (off:Nat):∀ (vs:List Value) (i:Nat) (w:World) (cs:List Value),Sat w0 w (blk b e cs::R)→off+i+vs.length≤cs.length→(∀ v∈vs,v.oneCell'=true) →
  ∃ w',(storeCells ⟨b,off,none⟩ vs i).run P w=.ok () w'∧Sat w0 w' (blk b e (yp cs (off+i) vs)::R)
 | [],i,w,cs,hS,_,_=>⟨w,by simp[storeCells],hS⟩
 | v::vs,i,w,cs,hS,hl,h1=>by
  simp only[List.length_cons] at hl
  have hc:w.cell? ⟨b,off+i,none⟩=some (cs[off+i]'(by omega)):=hS.cell ye (List.getElem?_eq_getElem (by omega))
  have hf:=hS.frozen (off:=off+i) ye
  have hS':=hS.setCell (off:=off+i) v Upd.hd
  obtain⟨w',hr,hS2⟩:=KD off vs (i+1) _ _ hS' (by simp;omega) (fun u hu=>h1 u (by simp[hu]))
  have hv:=h1 v (by simp)
  refine ⟨w',?_,hS2⟩
  simp only[storeCells,KM]
  have hst:(store ⟨b,off+i,none⟩ v).run P w=.ok () (w.setCell ⟨b,off+i,none⟩ v):=by
   cases v <;> simp_all [store,Sem.run,Value.oneCell']
  simp[hst,hr]
theorem yi {dst:Option Tmp} {t:TypeId} {x y:Operand} {ty:TypeId} {pos:String} {after:Array Edge} {gd:Option (Nat × Bool)} (hS:Sat w0 w Hs)
  (hw:Region.wanted ⟨dst,.store t x y,ty,pos,after,gd⟩ (yielded ops a.tmps)=true) {b off:Nat} (hx:a.eval x=.pointer (some ⟨b,off,none⟩)) {vs:List Value} (hy:a.eval y=.agg vs.toArray) {e:TypeId} {cs cs':List Value}
  (hm:blk b e cs∈Hs) (hcs:yp cs off vs=cs') (hlt:off+vs.length≤cs.length) {Hs':List HP} (u:Upd Hs (blk b e cs) (blk b e cs') Hs') (h1:vs.all (·.oneCell')=true) {n:Nat} (ht:Yp P t=some n) (hn:vs.length=n)
  (K:∀ w',Sat w0 w' Hs'→wpList P ops Q rest (a.put dst undef) w'):wpList P ops Q (⟨dst,.store t x y,ty,pos,after,gd⟩::rest) a w:=by
 subst hcs
 obtain⟨R,r1,r2⟩:=u.rem
 obtain⟨w',hr,hS'⟩:=KD (P:=P) off vs 0 w cs (hS.front r1) (by omega) (fun v hv=>List.all_eq_true.1 h1 v hv)
 have hs:=Ki ht w
 refine KY hw (kV rfl hx hy ?_) (K w' (hS'.put r2))
 simp[storeVar,hs,Value.cells,hn,hr]
theorem run_zero {t:TypeId} {z:Value} (hz:(P.info? t).bind (·.zero)=some z):(zeroValue t).run P w=.ok z w:=by
 cases hi:P.info? t with
 | none=>rw[hi] at hz;cases hz
 | some i =>
  rw[hi] at hz
  simp only[Option.bind_some] at hz
  simp[zeroValue,typeInfo,hi,hz]
theorem Ye {dst:Option Tmp} {x:Operand} {xt t:TypeId} {ty:TypeId} {pos:String} {after:Array Edge} {gd:Option (Nat × Bool)}
  (hw:Region.wanted ⟨dst,.typeAssert x xt t true,ty,pos,after,gd⟩ (yielded ops a.tmps)=true) {v:Value} (hx:a.eval x=.iface t v) {e:TypeId} (hu:P.underlying t=some (.pointer e))
  (K:wpList P ops Q rest (a.put dst (.tuple #[v,.bool true])) w):wpList P ops Q (⟨dst,.typeAssert x xt t true,ty,pos,after,gd⟩::rest) a w:=by
 refine yW hw ?_ K
 simp[execOp,hx,Instr.typeAssert,run_underlying hu]
theorem Yh {dst:Option Tmp} {x:Operand} {xt t:TypeId} {ty:TypeId} {pos:String} {after:Array Edge} {gd:Option (Nat × Bool)}
  (hw:Region.wanted ⟨dst,.typeAssert x xt t true,ty,pos,after,gd⟩ (yielded ops a.tmps)=true) {v:Value} {u:TypeId} (hx:a.eval x=.iface u v) (hne:u≠t) {e:TypeId} (hu:P.underlying t=some (.pointer e)) (hz:(P.info? t).bind (·.zero)=some (.pointer none))
  (K:wpList P ops Q rest (a.put dst (.tuple #[.pointer none,.bool false])) w):wpList P ops Q (⟨dst,.typeAssert x xt t true,ty,pos,after,gd⟩::rest) a w:=by
 refine yW hw ?_ K
 have:=run_zero (w:=w) hz
 simp[execOp,hx,Instr.typeAssert,run_underlying hu,hne,this]
def jT (P:Program) (s:TypeId) (f:Nat):Option Nat :=
 match P.underlying s with
 | some (.struct fs)=>(fs[f]?).bind fun x=>if kW P x.type then some x.offset else none
 | _=>none
theorem Kz {dst:Option Tmp} {x:Operand} {s:TypeId} {f:Nat} {ty:TypeId} {pos:String} {after:Array Edge} {gd:Option (Nat × Bool)}
  (hw:Region.wanted ⟨dst,.field s x f,ty,pos,after,gd⟩ (yielded ops a.tmps)=true) {cs:List Value} (hx:a.eval x=.agg cs.toArray) {off:Nat} (hf:jT P s f=some off) {v:Value} (hv:cs[off]?=some v)
  (K:wpList P ops Q rest (a.put dst v) w):wpList P ops Q (⟨dst,.field s x f,ty,pos,after,gd⟩::rest) a w:=by
 refine yW hw ?_ K
 unfold jT at hf
 cases hu:P.underlying s with
 | none=>simp[hu] at hf
 | some d =>
  cases d with
  | struct fs =>
   simp only[hu] at hf
   cases hx2:fs[f]? with
   | none=>simp[hx2] at hf
   | some fl =>
    simp only[hx2,Option.bind_some] at hf
    split at hf
    ·rename_i hsc
     simp only[Option.some.injEq] at hf
     subst hf
     have hi:=jh hsc w
     simp[execOp,hx,Instr.field,run_underlying hu,hx2,asAgg,part,hi,hv]
    ·cases hf
  | _=>simp[hu] at hf
theorem Sat.loadWhole {cs:List Value} {t:TypeId} (hS:Sat w0 w Hs) (hm:blk b e cs∈Hs) (hn:Yp P t=some cs.length) (ha:Ju P t=true):(loadVar t ⟨b,0,none⟩).run P w=.ok (.agg cs.toArray) w :=
 kU ha hn fun j v hj=>by rw[KM,Nat.zero_add];exact hS.cell hm hj
theorem yI {fn:Func} {t:Tmp} {T:TypeId} (h:fn.results=#[.cell t T]) {tmps:Array Value} {ad:Addr} (hp:tmps.getD t undef=.pointer (some ad)) {v:Value} (hl:(loadVar T ad).run P w=.ok v w) :
  (results fn tmps).run P w=.ok v w:=by
 rw[Array.getD_eq_getD_getElem?] at hp
 simp[results,h,hp,asAddr,hl]
theorem yK {fn:Func} {t t':Tmp} {T T':TypeId} (h:fn.results=#[.cell t T,.cell t' T']) {tmps:Array Value} {ad ad':Addr} (hp:tmps.getD t undef=.pointer (some ad)) (hp':tmps.getD t' undef=.pointer (some ad')) {v v':Value}
  (hl:(loadVar T ad).run P w=.ok v w) (hl':(loadVar T' ad').run P w=.ok v' w):(results fn tmps).run P w=.ok (.tuple #[v,v']) w:=by
 rw[Array.getD_eq_getD_getElem?] at hp hp'
 simp[results,h,hp,hp',asAddr,hl,hl']
end
end
end Go.SL
namespace Go.Proofs.YteopodbkhgcpmaaGreatDoor
section
open Go.SL
theorem z1:Yl Tryz.prog 1=some ([.nilFunc]):=by kernel_rfl
theorem z2:Yl Tryz.prog 2=some ([.int .i64 0]):=by kernel_rfl
theorem z3:Yl Tryz.prog 3=some ([.int .i64 0]):=by kernel_rfl
theorem z4:Yl Tryz.prog 4=some ([.bool false]):=by kernel_rfl
theorem z5:Yl Tryz.prog 5=some ([.int .u8 0]):=by kernel_rfl
theorem sz7:Yp Tryz.prog 7=some 4:=by kernel_rfl
theorem fo7_0:Yi Tryz.prog 7 0=some 0:=by kernel_rfl
theorem z9:Yl Tryz.prog 9=some ([.string ⟨#[]⟩]):=by kernel_rfl
theorem z20:Yl Tryz.prog 20=some ([.nilIface]):=by kernel_rfl
theorem z21:Yl Tryz.prog 21=some ([.int .i32 0]):=by kernel_rfl
theorem E23:ElemTy Tryz.prog 23 44 2 16:=⟨by kernel_rfl,by kernel_rfl,by decide⟩
theorem z24:Yl Tryz.prog 24=some ([.int .i64 0]):=by kernel_rfl
theorem sz26:Yp Tryz.prog 26=some 2:=by kernel_rfl
theorem z26:Yl Tryz.prog 26=some ([.int .i64 0,.int .i64 0]):=by kernel_rfl
theorem sz28:Yp Tryz.prog 28=some 3:=by kernel_rfl
theorem z28:Yl Tryz.prog 28=some ([.int .i64 0,.int .i64 0,.int .i64 0]):=by kernel_rfl
theorem E31:ElemTy Tryz.prog 31 3 1 8:=⟨by kernel_rfl,by kernel_rfl,by decide⟩
theorem sz33:Yp Tryz.prog 33=some 3:=by kernel_rfl
theorem z33:Yl Tryz.prog 33=some ([.int .i64 0,.slice none 0 0,.slice none 0 0]):=by kernel_rfl
theorem fo33_0:Yi Tryz.prog 33 0=some 0:=by kernel_rfl
theorem z37:Yl Tryz.prog 37=some ([.nilFunc]):=by kernel_rfl
theorem E39:ElemTy Tryz.prog 39 23 1 24:=⟨by kernel_rfl,by kernel_rfl,by decide⟩
theorem E41:ElemTy Tryz.prog 41 31 1 24:=⟨by kernel_rfl,by kernel_rfl,by decide⟩
theorem sz44:Yp Tryz.prog 44=some 2:=by kernel_rfl
theorem z44:Yl Tryz.prog 44=some ([.int .i64 0,.int .i64 0]):=by kernel_rfl
theorem fo44_0:Yi Tryz.prog 44 0=some 0:=by kernel_rfl
theorem fo44_1:Yi Tryz.prog 44 1=some 1:=by kernel_rfl
theorem z46:Yl Tryz.prog 46=some ([.nilFunc]):=by kernel_rfl
theorem sz49:Yp Tryz.prog 49=some 4:=by kernel_rfl
theorem z49:Yl Tryz.prog 49=some ([.int .i64 0,.int .i64 0,.int .i64 0,.int .i64 0]):=by kernel_rfl
theorem fo49_0:Yi Tryz.prog 49 0=some 0:=by kernel_rfl
theorem sz51:Yp Tryz.prog 51=some 10:=by kernel_rfl
theorem z51:Yl Tryz.prog 51=some ([.string ⟨#[]⟩,.int .i64 0,.int .i64 0,.int .i64 0,.int .i64 0,.int .i64 0,.int .i64 0,.int .i64 0,.int .i64 0,.int .i64 0]):=by kernel_rfl
theorem fo51_6:Yi Tryz.prog 51 6=some 9:=by kernel_rfl
theorem z53:Yl Tryz.prog 53=some ([.nilIface]):=by kernel_rfl
theorem E59:ElemTy Tryz.prog 59 63 1 24:=⟨by kernel_rfl,by kernel_rfl,by decide⟩
theorem z59:Yl Tryz.prog 59=some ([.slice none 0 0]):=by kernel_rfl
theorem E63:ElemTy Tryz.prog 63 130 2 24:=⟨by kernel_rfl,by kernel_rfl,by decide⟩
theorem z63:Yl Tryz.prog 63=some ([.slice none 0 0]):=by kernel_rfl
theorem E68:ElemTy Tryz.prog 68 78 3 24:=⟨by kernel_rfl,by kernel_rfl,by decide⟩
theorem sz72:Yp Tryz.prog 72=some 4:=by kernel_rfl
theorem z72:Yl Tryz.prog 72=some ([.int .i64 0,.int .i64 0,.int .i64 0,.int .i64 0]):=by kernel_rfl
theorem sz78:Yp Tryz.prog 78=some 3:=by kernel_rfl
theorem z78:Yl Tryz.prog 78=some ([.int .i64 0,.int .i64 0,.int .i64 0]):=by kernel_rfl
theorem fo78_0:Yi Tryz.prog 78 0=some 0:=by kernel_rfl
theorem fo78_1:Yi Tryz.prog 78 1=some 1:=by kernel_rfl
theorem fo78_2:Yi Tryz.prog 78 2=some 2:=by kernel_rfl
theorem E81:ElemTy Tryz.prog 81 86 3 32:=⟨by kernel_rfl,by kernel_rfl,by decide⟩
theorem sz86:Yp Tryz.prog 86=some 3:=by kernel_rfl
theorem z86:Yl Tryz.prog 86=some ([.string ⟨#[]⟩,.int .i64 0,.int .i64 0]):=by kernel_rfl
theorem fo86_0:Yi Tryz.prog 86 0=some 0:=by kernel_rfl
theorem fo86_1:Yi Tryz.prog 86 1=some 1:=by kernel_rfl
theorem fo86_2:Yi Tryz.prog 86 2=some 2:=by kernel_rfl
theorem E92:ElemTy Tryz.prog 92 5 1 1:=⟨by kernel_rfl,by kernel_rfl,by decide⟩
theorem z94:Yl Tryz.prog 94=some ([.pointer none,.slice none 0 0]):=by kernel_rfl
theorem sz106:Yp Tryz.prog 106=some 2:=by kernel_rfl
theorem z106:Yl Tryz.prog 106=some ([.int .i64 0,.int .i64 0]):=by kernel_rfl
theorem Jx:jT Tryz.prog 106 0=some 0:=by kernel_rfl
theorem fc106_1:jT Tryz.prog 106 1=some 1:=by kernel_rfl
theorem sz130:Yp Tryz.prog 130=some 2:=by kernel_rfl
theorem z130:Yl Tryz.prog 130=some ([.string ⟨#[]⟩,.int .i64 0]):=by kernel_rfl
theorem fo130_0:Yi Tryz.prog 130 0=some 0:=by kernel_rfl
theorem fo130_1:Yi Tryz.prog 130 1=some 1:=by kernel_rfl
theorem sz131:Yp Tryz.prog 131=some 2:=by kernel_rfl
theorem z131:Yl Tryz.prog 131=some ([.int .i64 0,.int .i64 0]):=by kernel_rfl
theorem E133:ElemTy Tryz.prog 133 134 3 32:=⟨by kernel_rfl,by kernel_rfl,by decide⟩
theorem fo134_0:Yi Tryz.prog 134 0=some 0:=by kernel_rfl
theorem fo134_1:Yi Tryz.prog 134 1=some 1:=by kernel_rfl
theorem fo134_2:Yi Tryz.prog 134 2=some 2:=by kernel_rfl
theorem z136:Yl Tryz.prog 136=some ([.int .i64 0,.int .i64 0,.int .i64 0,.int .i64 0]):=by kernel_rfl
theorem E137:ElemTy Tryz.prog 137 53 1 16:=⟨by kernel_rfl,by kernel_rfl,by decide⟩
theorem E161:ElemTy Tryz.prog 161 162 2 24:=⟨by kernel_rfl,by kernel_rfl,by decide⟩
theorem sz162:Yp Tryz.prog 162=some 2:=by kernel_rfl
theorem z162:Yl Tryz.prog 162=some ([.string ⟨#[]⟩,.int .i64 0]):=by kernel_rfl
theorem z171:Yl Tryz.prog 171=some ([.pointer none]):=by kernel_rfl
theorem z173:Yl Tryz.prog 173=some ([.nilFunc]):=by kernel_rfl
end
end Go.Proofs.YteopodbkhgcpmaaGreatDoor
