/- A part of the proof: Sl Arm Own Own2 Own3 CMap. -/
import Derived.WalkKit
import Derived.Laws.CopyRow
import Derived.Laws.Rows
import Derived.KernelRfl
import Derived.Deep.Draws
import Derived.OwnWalk
import Derived.ArgAppend
import Derived.Lib.AppendStr
import Derived.Laws.IdiomStrings
import Derived.Laws.MakeOwn
import Derived.MapKept
import Derived.RangeFuncRecord
set_option linter.unusedSimpArgs false
set_option linter.unusedVariables false
set_option linter.unusedSectionVars false
namespace Go.LinesP
end Go.LinesP
namespace Go.ClauseP
end Go.ClauseP
namespace Go.LexP
end Go.LexP
namespace Go.CnfP
end Go.CnfP
namespace Go.SL
theorem q1 {α : Type} {l : List α} {i : Nat} {a : α} : l.toArray.setIfInBounds i a = (l.set i a).toArray := List.setIfInBounds_toArray ..
theorem q2 {α : Type} {x : α} {xs : List α} {a : α} : (x :: xs).set 0 a = a :: xs := List.set_cons_zero
theorem q3 {α : Type} {x : α} {xs : List α} {n : Nat} {a : α} : (x :: xs).set (n + 1) a = x :: xs.set n a := List.set_cons_succ
theorem q4 {α : Type} {xs : List α} {i : Nat} : xs.toArray[i]? = xs[i]? := List.getElem?_toArray
theorem q5 {α : Type} {a : α} {l : List α} {i : Nat} : (a :: l)[i + 1]? = l[i]? := List.getElem?_cons_succ
theorem q6 {α : Type} {a : α} {l : List α} : (a :: l)[0]? = some a := List.getElem?_cons_zero
theorem qA : (∀ (a : Act) (d : Tmp) (v : Value), a.put (some d) v = { a with tmps := a.tmps.setIfInBounds d v }) ∧ (∀ (a : Act) (v : Value), a.put none v = a) ∧
    (∀ {α : Type} {l : List α} {i : Nat} {a : α}, l.toArray.setIfInBounds i a = (l.set i a).toArray) ∧ (∀ {α : Type} {x : α} {xs : List α} {a : α}, (x :: xs).set 0 a = a :: xs) ∧ (∀ {α : Type} {x : α} {xs : List α} {n : Nat} {a : α}, (x :: xs).set (n + 1) a = x :: xs.set n a) :=
  ⟨fun _ _ _ => rfl, fun _ _ => rfl, List.setIfInBounds_toArray .., List.set_cons_zero, List.set_cons_succ⟩
theorem qL : (∀ {α : Type} {xs : List α} {i : Nat}, xs.toArray[i]? = xs[i]?) ∧ (∀ {α : Type} {a : α} {l : List α} {i : Nat}, (a :: l)[i + 1]? = l[i]?) ∧ (∀ {α : Type} {a : α} {l : List α}, (a :: l)[0]? = some a) := ⟨List.getElem?_toArray, List.getElem?_cons_succ, List.getElem?_cons_zero⟩
theorem qS : (∀ {α : Type} {x : α} {xs : List α} {a : α}, (x :: xs).set 0 a = a :: xs) ∧ (∀ {α : Type} {x : α} {xs : List α} {n : Nat} {a : α}, (x :: xs).set (n + 1) a = x :: xs.set n a) := ⟨List.set_cons_zero, List.set_cons_succ⟩
theorem iQ {α β γ : Type} {P : α → β → γ → Prop} : ∀ a b c, P a b c → P a b c := fun _ _ _ h => h
theorem qN : (∀ n : Nat, ((n : Int)).toNat = n) ∧ (∀ n : Nat, n * 1 = n) ∧ (∀ n : Nat, 0 + n = n) ∧ (∀ k n : Nat, ((k : Int) - (n : Int)).toNat = k - n) ∧ (∀ k : Nat, ((k : Int) - 1).toNat = k - 1) ∧ (∀ k : Nat, ((k : Int) - 2).toNat = k - 2) ∧ (∀ k : Nat, ((k : Int) - 3).toNat = k - 3) ∧
    (∀ k n : Nat, ((k : Int) + (n : Int)).toNat = k + n) ∧ (∀ k : Nat, ((k : Int) + 1).toNat = k + 1) ∧ (∀ k : Nat, ((k : Int) + 2).toNat = k + 2) := by
  refine ⟨?_, ?_, ?_, ?_, ?_, ?_, ?_, ?_, ?_, ?_⟩ <;> intros <;> omega
end Go.SL
namespace Go.SL
section
open Go Go.RowKit

theorem hid {p:Prop} (h:p):Hid p:=h

/-! ### Assertions -/
def HP:=(Nat→Option Obj)→Prop
def emp:HP:=fun h=>∀ b,h b=none
def pt (b:Nat) (o:Obj):HP:=fun h=>∀ c,h c=if c=b then some o else none
def sep (A B:HP):HP:=fun h=>∃ g k:Nat→Option Obj,(∀ b,g b=none∨k b=none)∧(∀ b,h b=(g b).or (k b))∧A g∧B k
def Ym:List HP→HP
 | []=>emp
 | A::t=>sep A (Ym t)
def YF (w0:World):HP:=fun h=>∀ b,h b=if b < w0.heap.size then w0.heap[b]? else none
def blk (b:Nat) (e:TypeId) (cs:List Value):HP:=pt b (.cells cs.toArray e (0,0))

theorem UI {A B C:HP} {h:Nat→Option Obj} (H:sep A (sep B C) h):sep B (sep A C) h:=by
 obtain⟨g,k,d,e,hA,g2,k2,d2,e2,hB,hC⟩:=H
 refine ⟨g2,fun b=>(g b).or (k2 b),fun b=>?_,fun b=>?_,hB,g,k2,fun b=>?_,fun b=>rfl,hA,hC⟩
 ·have h1:=d b;have h2:=d2 b;have h3:=e2 b
  cases hg:g b <;> cases hg2:g2 b <;> cases hk2:k2 b <;> simp_all
 ·have h0:=e b;have h1:=d b;have h2:=d2 b;have h3:=e2 b
  cases hg:g b <;> cases hg2:g2 b <;> cases hk2:k2 b <;> simp_all
 ·have h1:=d b;have h2:=d2 b;have h3:=e2 b
  cases hg:g b <;> cases hg2:g2 b <;> cases hk2:k2 b <;> simp_all

inductive Rem:List HP→HP→List HP→Prop
 | hd {A:HP} {t:List HP}:Rem (A::t) A t
 | tl {A C:HP} {t t':List HP}:Rem t A t'→Rem (C::t) A (C::t')
inductive Upd:List HP→HP→HP→List HP→Prop
 | hd {A B:HP} {t:List HP}:Upd (A::t) A B (B::t)
 | tl {A B C:HP} {t t':List HP}:Upd t A B t'→Upd (C::t) A B (C::t')

theorem JJ {A B B':HP} (hb:∀ h,B h→B' h) {h:Nat→Option Obj} (H:sep A B h):sep A B' h:=by
 obtain⟨g,k,d,e,hA,hB⟩:=H
 exact⟨g,k,d,e,hA,hb _ hB⟩
theorem Rem.out {Hs R:List HP} {A:HP} (r:Rem Hs A R):∀ h,Ym Hs h→sep A (Ym R) h:=by
 induction r with
 | hd=>exact fun h H=>H
 | tl r ih=>exact fun h H=>UI (JJ ih H)
theorem Rem.back {Hs R:List HP} {A:HP} (r:Rem Hs A R):∀ h,sep A (Ym R) h→Ym Hs h:=by
 induction r with
 | hd=>exact fun h H=>H
 | tl r ih=>exact fun h H=>JJ ih (UI H)
theorem Upd.rem {Hs Hs':List HP} {A B:HP} (u:Upd Hs A B Hs'):∃ R,Rem Hs A R∧Rem Hs' B R:=by
 induction u with
 | hd=>exact⟨_,.hd,.hd⟩
 | tl u ih=>obtain⟨R,h1,h2⟩:=ih;exact⟨_,.tl h1,.tl h2⟩
theorem Rem.mem {Hs R:List HP} {A:HP} (r:Rem Hs A R):A∈Hs:=by
 induction r with
 | hd=>exact .head _
 | tl _ ih=>exact .tail _ ih
theorem Rem.of_mem {Hs:List HP} {A:HP} (h:A∈Hs):∃ R,Rem Hs A R:=by
 induction h with
 | head t=>exact⟨_,.hd⟩
 | tail _ _ ih=>obtain⟨R,h⟩:=ih;exact⟨_,.tl h⟩

theorem ye {A:HP} {t:List HP}:A∈A::t:=.head _
theorem yd {A B:HP} {t:List HP} (h:A∈t):A∈B::t:=.tail _ h
theorem Rem.mid (A L:List HP) (a:HP):Rem (A++a::L) a (A++L):=by
 induction A with
 | nil=>exact .hd
 | cons c A ih=>exact .tl ih

/-! ### A world that meets a list -/
structure Sat (w0 w:World) (Hs:List HP):Prop where
 os:w.os=w0.os
 tape:w.tape=w0.tape
 output:w.output=w0.output
 size:w0.heap.size≤w.heap.size
 heap:∃ h,Ym Hs h∧∀ b o,h b=some o→w.heap[b]?=some o

section
variable {w0 w:World} {Hs R:List HP}
theorem Sat.start (w:World):Sat w w [YF w]:=by
 refine ⟨rfl,rfl,rfl,Nat.le_refl _,fun b=>if b < w.heap.size then w.heap[b]? else none,⟨_,fun _=>none,fun b=>.inr rfl,fun b=>?_,fun b=>rfl,fun b=>rfl⟩,fun b o h=>?_⟩
 ·simp
 ·by_cases hb:b < w.heap.size <;> simp_all
theorem Sat.get {A:HP} (hS:Sat w0 w Hs) (hm:A∈Hs):∃ g,A g∧∀ b o,g b=some o→w.heap[b]?=some o:=by
 obtain⟨R,r⟩:=Rem.of_mem hm
 obtain⟨h,H,hw⟩:=hS.heap
 obtain⟨g,k,d,e,hA,hB⟩:=r.out _ H
 exact⟨g,hA,fun b o hb=>hw b o (by rw[e,hb];rfl)⟩
theorem Sat.perm {Hs':List HP} (hS:Sat w0 w Hs) (h:∀ g,Ym Hs g→Ym Hs' g):Sat w0 w Hs':=by
 obtain⟨g,H,hw⟩:=hS.heap
 exact⟨hS.os,hS.tape,hS.output,hS.size,g,h g H,hw⟩
theorem Sat.front {A:HP} (hS:Sat w0 w Hs) (r:Rem Hs A R):Sat w0 w (A::R):=hS.perm r.out
theorem Sat.put {A:HP} (hS:Sat w0 w (A::R)) (r:Rem Hs A R):Sat w0 w Hs:=hS.perm r.back
theorem Sat.drop {A:HP} (hS:Sat w0 w (A::R)):Sat w0 w R:=by
 obtain⟨h,⟨g,k,d,e,hA,hB⟩,hw⟩:=hS.heap
 refine ⟨hS.os,hS.tape,hS.output,hS.size,k,hB,fun b o hb=>hw b o ?_⟩
 have:=d b
 rw[e,hb]
 rcases this with h|h
 ·rw[h];rfl
 ·rw[h] at hb;cases hb
theorem Sat.sub {L' L:List HP} (h:L'.Sublist L):∀ {A:List HP},Sat w0 w (A++L)→Sat w0 w (A++L'):=by
 induction h with
 | slnil=>exact fun h=>h
 | cons a h ih =>
  intro A hS
  refine ih ?_
  exact(hS.front (Rem.mid A _ a)).drop
 | cons_cons a h ih =>
  intro A hS
  have h1:=ih (A:=A++[a]) (by simpa using hS)
  simpa using h1
theorem Sat.less {L' L:List HP} (hS:Sat w0 w L) (h:L'.Sublist L):Sat w0 w L':=Sat.sub (A:=[]) h hS

inductive Sb:List HP→List HP→Prop
 | refl {t:List HP}:Sb t t
 | nil {t:List HP}:Sb t []
 | take {A:HP} {t t' u:List HP}:Rem t A t'→Sb t' u→Sb t (A::u)
 | skip {A:HP} {t u:List HP}:Sb t u→Sb (A::t) u
theorem Sb.out {t u:List HP} (s:Sb t u):∀ h,Ym t h→∃ h',(∀ b o,h' b=some o→h b=some o)∧Ym u h':=by
 induction s with
 | refl=>exact fun h H=>⟨h,fun _ _ hb=>hb,H⟩
 | nil=>exact fun h H=>⟨fun _=>none,fun _ _ hb=>(by cases hb),fun _=>rfl⟩
 | take r s ih =>
  intro h H
  obtain⟨g,k,d,e,hA,hB⟩:=r.out _ H
  obtain⟨k',hk,hu⟩:=ih k hB
  refine ⟨fun b=>(g b).or (k' b),fun b o hb=>?_,g,k',fun b=>?_,fun b=>rfl,hA,hu⟩
  ·rw[e]
   cases hg:g b with
   | some o'=>simp[hg] at hb ⊢;exact hb
   | none=>simp[hg] at hb ⊢;exact hk b o hb
  ·rcases d b with h1|h1
   ·exact .inl h1
   ·cases hk':k' b with
    | none=>exact .inr rfl
    | some o=>rw[hk b o hk'] at h1;cases h1
 | skip s ih =>
  intro h H
  obtain⟨g,k,d,e,hA,hB⟩:=H
  obtain⟨k',hk,hu⟩:=ih k hB
  refine ⟨k',fun b o hb=>?_,hu⟩
  have h1:=hk b o hb
  rw[e]
  rcases d b with h2|h2
  ·rw[h2];exact h1
  ·rw[h2] at h1;cases h1
theorem Sat.sb {L:List HP} (hS:Sat w0 w Hs) (s:Sb Hs L):Sat w0 w L:=by
 obtain⟨h,H,hw⟩:=hS.heap
 obtain⟨h',hh,H'⟩:=s.out h H
 exact⟨hS.os,hS.tape,hS.output,hS.size,h',H',fun b o hb=>hw b o (hh b o hb)⟩
theorem Sat.step {w':World} {A B:HP} (hS:Sat w0 w (A::R)) (hos:w'.os=w.os) (htp:w'.tape=w.tape) (hou:w'.output=w.output) (hsz:w.heap.size≤w'.heap.size)
  (hst:∀ g,A g→(∀ b o,g b=some o→w.heap[b]?=some o)→∃ g',B g'∧(∀ b o,g' b=some o→w'.heap[b]?=some o)∧(∀ b,g' b≠none→g b≠none∨w.heap.size≤b) ∧
   (∀ b,b < w.heap.size→g b=none→w'.heap[b]?=w.heap[b]?)):Sat w0 w' (B::R):=by
 obtain⟨h,⟨g,k,d,e,hA,hB⟩,hw⟩:=hS.heap
 have hg:∀ b o,g b=some o→w.heap[b]?=some o:=fun b o hb=>hw b o (by rw[e,hb];rfl)
 have hk:∀ b o,k b=some o→w.heap[b]?=some o:=fun b o hb=>hw b o (by
  rw[e];rcases d b with h|h
  ·rw[h];exact hb
  ·rw[h] at hb;cases hb)
 obtain⟨g',hB',hg',hdom,hkeep⟩:=hst g hA hg
 have hlt:∀ b o,k b=some o→b < w.heap.size:=fun b o hb=>(Array.getElem?_eq_some_iff.1 (hk b o hb)).1
 have hdis:∀ b,g' b=none∨k b=none:=fun b=>by
  cases hgb:g' b with
  | none=>exact .inl rfl
  | some o =>
   cases hkb:k b with
   | none=>exact .inr rfl
   | some o' =>
    rcases hdom b (by simp[hgb]) with h1|h1
    ·rcases d b with h2|h2
     ·exact absurd h2 h1
     ·rw[h2] at hkb;cases hkb
    ·have:=hlt b o' hkb;omega
 refine ⟨hos.trans hS.os,htp.trans hS.tape,hou.trans hS.output,Nat.le_trans hS.size hsz,fun b=>(g' b).or (k b),⟨g',k,hdis,fun b=>rfl,hB',hB⟩,fun b o hb=>?_⟩
 simp only at hb
 cases hgb:g' b with
 | some o'=>rw[hgb] at hb;simp at hb;subst hb;exact hg' b _ hgb
 | none =>
  rw[hgb] at hb
  simp at hb
  have hgn:g b=none:=by
   rcases d b with h|h
   ·exact h
   ·rw[h] at hb;cases hb
  rw[hkeep b (hlt b o hb) hgn]
  exact hk b o hb
theorem Sat.stepU {w':World} {A B:HP} {Hs':List HP} (hS:Sat w0 w Hs) (u:Upd Hs A B Hs') (hos:w'.os=w.os) (htp:w'.tape=w.tape) (hou:w'.output=w.output) (hsz:w.heap.size≤w'.heap.size)
  (hst:∀ g,A g→(∀ b o,g b=some o→w.heap[b]?=some o)→∃ g',B g'∧(∀ b o,g' b=some o→w'.heap[b]?=some o)∧(∀ b,g' b≠none→g b≠none∨w.heap.size≤b) ∧
   (∀ b,b < w.heap.size→g b=none→w'.heap[b]?=w.heap[b]?)):Sat w0 w' Hs':=by
 obtain⟨R,r1,r2⟩:=u.rem
 exact((hS.front r1).step hos htp hou hsz hst).put r2
theorem Sat.turn {A B:HP} (hS:Sat w0 w (A::R)) (h:∀ g,A g→B g):Sat w0 w (B::R) :=
 hS.perm fun g H=>by obtain⟨g1,k,d,e,hA,hB⟩:=H;exact⟨g1,k,d,e,h _ hA,hB⟩
theorem Sat.ex {α:Type} {A:α→HP} (hS:Sat w0 w ((fun h=>∃ x,A x h)::R)):∃ x,Sat w0 w (A x::R):=by
 obtain⟨h,⟨g,k,d,e,⟨x,hA⟩,hB⟩,hw⟩:=hS.heap
 exact⟨x,hS.os,hS.tape,hS.output,hS.size,h,⟨g,k,d,e,hA,hB⟩,hw⟩
theorem Sat.pure {p:Prop} {A:HP} (hS:Sat w0 w ((fun h=>p∧A h)::R)):p∧Sat w0 w (A::R):=by
 obtain⟨h,⟨g,k,d,e,⟨hp,hA⟩,hB⟩,hw⟩:=hS.heap
 exact⟨hp,hS.os,hS.tape,hS.output,hS.size,h,⟨g,k,d,e,hA,hB⟩,hw⟩
theorem Sat.split {A B:HP} (hS:Sat w0 w (sep A B::R)):Sat w0 w (A::B::R):=by
 refine hS.perm fun h H=>?_
 obtain⟨g,k,d,e,⟨g1,g2,d1,e1,hA,hB⟩,hR⟩:=H
 refine ⟨g1,fun b=>(g2 b).or (k b),fun b=>?_,fun b=>?_,hA,g2,k,fun b=>?_,fun b=>rfl,hB,hR⟩
 ·have h1:=d b;have h2:=e1 b;have h3:=d1 b
  cases hg:g1 b <;> cases hg2:g2 b <;> cases hk2:k b <;> simp_all
 ·have h0:=e b;have h1:=d b;have h2:=e1 b;have h3:=d1 b
  cases hg:g1 b <;> cases hg2:g2 b <;> cases hk2:k b <;> simp_all
 ·have h1:=d b;have h2:=e1 b;have h3:=d1 b
  cases hg:g1 b <;> cases hg2:g2 b <;> cases hk2:k b <;> simp_all
theorem Sat.join {A B:HP} (hS:Sat w0 w (A::B::R)):Sat w0 w (sep A B::R):=by
 refine hS.perm fun h H=>?_
 obtain⟨g,k,d,e,hA,g2,k2,d2,e2,hB,hR⟩:=H
 refine ⟨fun b=>(g b).or (g2 b),k2,fun b=>?_,fun b=>?_,⟨g,g2,fun b=>?_,fun b=>rfl,hA,hB⟩,hR⟩
 ·have h1:=d b;have h2:=d2 b;have h3:=e2 b
  cases hg:g b <;> cases hg2:g2 b <;> cases hk2:k2 b <;> simp_all
 ·have h0:=e b;have h1:=d b;have h2:=d2 b;have h3:=e2 b
  cases hg:g b <;> cases hg2:g2 b <;> cases hk2:k2 b <;> simp_all
 ·have h1:=d b;have h2:=d2 b;have h3:=e2 b
  cases hg:g b <;> cases hg2:g2 b <;> cases hk2:k2 b <;> simp_all
theorem Sat.emp {A:HP} (hS:Sat w0 w R) (h:A (fun _=>none)):Sat w0 w (A::R):=by
 refine hS.perm fun g H=>⟨fun _=>none,g,fun b=>.inl rfl,fun b=>by simp,h,H⟩

/-! ### Blocks -/
theorem Sat.block {b:Nat} {o:Obj} (hS:Sat w0 w Hs) (hm:pt b o∈Hs):w.heap[b]?=some o:=by
 obtain⟨g,hg,hw⟩:=hS.get hm
 exact hw b o (by rw[hg b];simp)
theorem Sat.old (hS:Sat w0 w Hs) (hm:YF w0∈Hs) (b:Nat) (hb:b < w0.heap.size):w.heap[b]?=w0.heap[b]?:=by
 obtain⟨g,hg,hw⟩:=hS.get hm
 cases h:w0.heap[b]? with
 | none=>simp at h;omega
 | some o=>exact hw b o (by rw[hg b,if_pos hb,h])
theorem Sat.below (hS:Sat w0 w Hs) (hm:YF w0∈Hs):Below w0.heap.size w0 w:=⟨hS.os,hS.tape,hS.output,hS.size,fun k hk=>hS.old hm k hk⟩
theorem Sat.drew (hS:Sat w0 w Hs):Sat w0 w.drew Hs:=⟨hS.os,hS.tape,hS.output,hS.size,hS.heap⟩
theorem Sat.drewN (hS:Sat w0 w Hs) (n:Nat):Sat w0 (w.drewN n) Hs:=⟨hS.os,hS.tape,hS.output,hS.size,hS.heap⟩
theorem Sat.ofBelow {w':World} (hS:Sat w0 w Hs) (hb:Below w.heap.size w w'):Sat w0 w' Hs:=by
 obtain⟨h,H,hw⟩:=hS.heap
 refine ⟨hb.os.trans hS.os,hb.tape.trans hS.tape,hb.output.trans hS.output,Nat.le_trans hS.size hb.size,h,H,fun b o hbo=>?_⟩
 have h1:=hw b o hbo
 rw[hb.block b (Array.getElem?_eq_some_iff.1 h1).1]
 exact h1
theorem Sat.alloc (hS:Sat w0 w Hs) (o:Obj):Sat w0 (w.alloc o) (pt w.heap.size o::Hs):=by
 have h0:Sat w0 w (SL.emp::Hs):=hS.emp fun _=>rfl
 refine h0.step rfl rfl rfl (by simp) fun g hg _=>⟨fun c=>if c=w.heap.size then some o else none,fun c=>rfl,fun b o' hb=>?_,fun b hb=>.inr ?_,fun b hb _=>?_⟩
 ·by_cases hbs:b=w.heap.size
  ·simp[hbs] at hb;subst hb;rw[hbs];exact heap_alloc_new _ _
  ·simp[hbs] at hb
 ·by_cases hbs:b=w.heap.size
  ·omega
  ·simp[hbs] at hb
 ·exact Below.heap_alloc _ _ _ hb
theorem Sat.setObj {b:Nat} {o o':Obj} {Hs':List HP} (hS:Sat w0 w Hs) (u:Upd Hs (pt b o) (pt b o') Hs') {w':World} (hos:w'.os=w.os) (htp:w'.tape=w.tape) (hou:w'.output=w.output)
  (hsz:w'.heap.size=w.heap.size) (hnew:w'.heap[b]?=some o') (hkeep:∀ c,c≠b→w'.heap[c]?=w.heap[c]?):Sat w0 w' Hs':=by
 refine hS.stepU u hos htp hou (by omega) fun g hg hw=>⟨fun c=>if c=b then some o' else none,fun c=>rfl,fun c o2 hc=>?_,fun c hc=>.inl ?_,fun c _ hcn=>hkeep c ?_⟩
 ·by_cases hcb:c=b
  ·simp[hcb] at hc;subst hc;rw[hcb];exact hnew
  ·simp[hcb] at hc
 ·by_cases hcb:c=b
  ·rw[hg c,if_pos hcb];simp
  ·simp[hcb] at hc
 ·intro hcb
  rw[hg c,if_pos hcb] at hcn
  cases hcn
theorem Sat.cell {b e off:Nat} {cs:List Value} {v:Value} (hS:Sat w0 w Hs) (hm:blk b e cs∈Hs) (hv:cs[off]?=some v):w.cell? ⟨b,off,none⟩=some v:=by
 have h:=hS.block hm
 simp[World.cell?,h,hv]
theorem Sat.frozen {b e off:Nat} {cs:List Value} (hS:Sat w0 w Hs) (hm:blk b e cs∈Hs):w.frozen? ⟨b,off,none⟩=false:=by
 have h:=hS.block hm
 simp[World.frozen?,h]
theorem Upd.mem {A B:HP} {Hs':List HP} (u:Upd Hs A B Hs'):A∈Hs:=by
 induction u with
 | hd=>exact .head _
 | tl _ ih=>exact .tail _ ih
theorem Sat.setCell {b e off:Nat} {cs:List Value} {Hs':List HP} (hS:Sat w0 w Hs) (v:Value) (u:Upd Hs (blk b e cs) (blk b e (cs.set off v)) Hs'):Sat w0 (w.setCell ⟨b,off,none⟩ v) Hs':=by
 have h:=hS.block (o:=.cells cs.toArray e (0,0)) u.mem
 refine hS.setObj u rfl rfl rfl (by simp) ?_ fun c hc=>Below.heap_setCell _ _ _ _ hc
 simp[World.setCell,Array.getElem?_modify,h]
end

/-! ### Reading and writing variables -/
def kW (P:Program) (t:TypeId):Bool:=match P.underlying t with|some (.struct _)|some (.array _ _)|none=>false|some _=>true
def Ju (P:Program) (t:TypeId):Bool:=match P.underlying t with|some (.struct _)|some (.array _ _)=>true|_=>false
theorem jh {P:Program} {t:TypeId} (h:kW P t=true) (w:World):(isAgg t).run P w=.ok false w:=by
 unfold kW at h
 unfold isAgg underlying
 cases hu:P.underlying t with
 | none=>simp[hu] at h
 | some d=>cases d <;> simp_all
theorem UY {P:Program} {t:TypeId} (h:Ju P t=true) (w:World):(isAgg t).run P w=.ok true w:=by
 unfold Ju at h
 unfold isAgg underlying
 cases hu:P.underlying t with
 | none=>simp[hu] at h
 | some d=>cases d <;> simp_all
end
section
open Go Go.RowKit

section
variable {P:Program} {ops:Array Oper} {Q:Exit→Act→World→Prop} {rest:List Oper} {a:Act} {w w0:World} {Hs:List HP}

theorem yb {l:List Value} {d:List Deferred} {t:Nat} {v:Value} (h:l[t]?=some v):(Act.mk l.toArray d).eval (.tmp t)=v:=by
 simp[Act.eval,h]
theorem yg {v:Value}:a.eval (.const v)=v:=rfl
theorem yW {o:Oper} {v:Value} {w':World} (hw:Region.wanted o (yielded ops a.tmps)=true) (hr:(execOp a.eval o).run P w=.ok (.value v) w')
  (K:wpList P ops Q rest (a.put o.dst v) w'):wpList P ops Q (o::rest) a w:=by
 simp only[wpList,hw,if_true,Oper.wp,hr,Oper.upon]
 exact .inl K
theorem KY {o:Oper} {w':World} (hw:Region.wanted o (yielded ops a.tmps)=true) (hr:(execOp a.eval o).run P w=.ok .skip w')
  (K:wpList P ops Q rest (a.put o.dst undef) w'):wpList P ops Q (o::rest) a w:=by
 simp only[wpList,hw,if_true,Oper.wp,hr,Oper.upon]
 exact .inl K

theorem ya {dst:Option Tmp} {op:Op} {ty:TypeId} {pos:String} {after:Array Edge} {y:Nat→Option Bool}:Region.wanted ⟨dst,op,ty,pos,after,none⟩ y=true:=rfl
theorem yf {dst:Option Tmp} {op:Op} {ty:TypeId} {pos:String} {after:Array Edge} {j d:Nat} {b:Bool} {tmps:Array Value} (h:(ops[j]?).bind (·.dst)=some d) (hv:tmps[d]?=some (.bool b)) :
  Region.wanted ⟨dst,op,ty,pos,after,some (j,b)⟩ (yielded ops tmps)=true:=by
 simp[Region.wanted,yielded,h,hv]
theorem yr {dst:Option Tmp} {op:Op} {ty:TypeId} {pos:String} {after:Array Edge} {j d:Nat} {b:Bool} {tmps:Array Value} (h:(ops[j]?).bind (·.dst)=some d) (hv:tmps[d]?=some (.bool (!b))) :
  Region.wanted ⟨dst,op,ty,pos,after,some (j,b)⟩ (yielded ops tmps)=false:=by
 cases b <;> simp_all [Region.wanted,yielded]

theorem yN {v:Value} (h:v.oneCell'=true):v.cells.toList=[v]:=by
 cases v <;> simp_all [Value.cells,Value.oneCell']
theorem yw {cs:List Value}:(Value.agg cs.toArray).cells.toList=cs:=by simp[Value.cells]

/-! ### Loads -/
theorem yj {o:Oper} {t:TypeId} {x:Operand} (ho:o.op=.load t x) {ad:Addr} {v:Value} {ρ:Operand→Value} (hx:ρ x=.pointer (some ad)) (hr:(loadVar t ad).run P w=.ok v w) :
  (execOp ρ o).run P w=.ok (.value v) w:=by
 simp[execOp,ho,hx,Instr.loadAt,Instr.sureAddr,hr]
theorem yc {t:TypeId} (h:kW P t=true) {ad:Addr} {v:Value} (hc:w.cell? ad=some v):(loadVar t ad).run P w=.ok v w:=by
 have hi:=jh h w
 simp only[loadVar]
 simp[hi,load,Sem.run,hc]
theorem yh {dst:Option Tmp} {t:TypeId} {x:Operand} {ty:TypeId} {pos:String} {after:Array Edge} {gd:Option (Nat × Bool)} (hS:Sat w0 w Hs)
  (hw:Region.wanted ⟨dst,.load t x,ty,pos,after,gd⟩ (yielded ops a.tmps)=true) {b off:Nat} (hx:a.eval x=.pointer (some ⟨b,off,none⟩)) {e:TypeId} {cs:List Value}
  (hm:blk b e cs∈Hs) {v:Value} (hv:cs[off]?=some v) (ht:kW P t=true) (K:wpList P ops Q rest (a.put dst v) w) :
  wpList P ops Q (⟨dst,.load t x,ty,pos,after,gd⟩::rest) a w :=
 yW hw (yj rfl hx (yc ht (hS.cell hm hv))) K
theorem Sat.baseCell (hS:Sat w0 w Hs) (hm:YF w0∈Hs) {ad:Addr} {v:Value} (hv:w0.cell? ad=some v):w.cell? ad=some v:=by
 have hb:=World.block_lt_of_cell? w0 ad hv
 rw[World.cell?_of_block (hS.old hm ad.block hb)]
 exact hv
theorem KN {dst:Option Tmp} {t:TypeId} {x:Operand} {ty:TypeId} {pos:String} {after:Array Edge} {gd:Option (Nat × Bool)} (hS:Sat w0 w Hs)
  (hw:Region.wanted ⟨dst,.load t x,ty,pos,after,gd⟩ (yielded ops a.tmps)=true) {ad:Addr} (hx:a.eval x=.pointer (some ad)) (hm:YF w0∈Hs) {v:Value} (hv:w0.cell? ad=some v) (ht:kW P t=true)
  (K:wpList P ops Q rest (a.put dst v) w):wpList P ops Q (⟨dst,.load t x,ty,pos,after,gd⟩::rest) a w :=
 yW hw (yj rfl hx (yc ht (hS.baseCell hm hv))) K
def Yp (P:Program) (t:TypeId):Option Nat:=(P.info? t).map (·.size)
theorem Ki {t:TypeId} {n:Nat} (h:Yp P t=some n) (w:World):(sizeOf t).run P w=.ok n w:=by
 unfold Yp at h
 cases hi:P.info? t with
 | none=>rw[hi] at h;cases h
 | some i =>
  rw[hi] at h
  simp only[Option.map_some,Option.some.injEq] at h
  subst h
  simp[sizeOf,typeInfo,hi]
theorem kU {t:TypeId} (h:Ju P t=true) {ad:Addr} {vs:List Value} (hn:Yp P t=some vs.length) (hc:∀ (j:Nat) v,vs[j]?=some v→w.cell? (ad.add j)=some v) :
  (loadVar t ad).run P w=.ok (.agg vs.toArray) w:=by
 have hi:=UY h w
 have hs:=Ki hn w
 have hl:=run_loadCells_list (P:=P) (w:=w) ad vs hc
 simp only[loadVar]
 simp[hi,hs,hl]
theorem KM (b off j:Nat):(⟨b,off,none⟩:Addr).add j=⟨b,off+j,none⟩:=by unfold Addr.add;split <;> simp_all
theorem yG {dst:Option Tmp} {t:TypeId} {x:Operand} {ty:TypeId} {pos:String} {after:Array Edge} {gd:Option (Nat × Bool)} (hS:Sat w0 w Hs)
  (hw:Region.wanted ⟨dst,.load t x,ty,pos,after,gd⟩ (yielded ops a.tmps)=true) {b off:Nat} (hx:a.eval x=.pointer (some ⟨b,off,none⟩)) {e:TypeId} {cs:List Value}
  (hm:blk b e cs∈Hs) {n:Nat} (hn:Yp P t=some n) (ht:Ju P t=true) {vs:List Value} (hv:(cs.drop off).take n=vs) (hl:vs.length=n) (K:wpList P ops Q rest (a.put dst (.agg vs.toArray)) w) :
  wpList P ops Q (⟨dst,.load t x,ty,pos,after,gd⟩::rest) a w:=by
 refine yW hw (yj rfl hx (kU ht (by rw[hl];exact hn) fun j v hj=>?_)) K
 rw[KM]
 refine hS.cell hm ?_
 rw[← hv,List.getElem?_take] at hj
 split at hj
 ·rw[List.getElem?_drop] at hj;exact hj
 ·cases hj

/-! ### Stores -/
theorem KT {t:TypeId} (h:Yp P t=some 1) {ad:Addr} {v u:Value} (h1:v.oneCell'=true) (hc:w.cell? ad=some u) (hf:w.frozen? ad=false):(storeVar t ad v).run P w=.ok () (w.setCell ad v):=by
 have hs:=Ki h w
 have e0:ad.add 0=ad:=by simp[Addr.add]
 cases v <;> simp_all [storeVar,Value.cells,Value.oneCell',storeCells,store,Sem.run]
theorem kV {o:Oper} {t:TypeId} {x y:Operand} (ho:o.op=.store t x y) {ad:Addr} {v:Value} {ρ:Operand→Value} {w':World} (hx:ρ x=.pointer (some ad)) (hy:ρ y=v) (hr:(storeVar t ad v).run P w=.ok () w') :
  (execOp ρ o).run P w=.ok .skip w':=by
 simp[execOp,ho,hx,hy,Instr.storeAt,Instr.sureAddr,hr]
theorem yy {dst:Option Tmp} {t:TypeId} {x y:Operand} {ty:TypeId} {pos:String} {after:Array Edge} {gd:Option (Nat × Bool)} (hS:Sat w0 w Hs)
  (hw:Region.wanted ⟨dst,.store t x y,ty,pos,after,gd⟩ (yielded ops a.tmps)=true) {b off:Nat} (hx:a.eval x=.pointer (some ⟨b,off,none⟩)) {v:Value} (hy:a.eval y=v) {e:TypeId} {cs cs':List Value}
  (hm:blk b e cs∈Hs) (hcs:cs.set off v=cs') (hlt:off < cs.length) {Hs':List HP} (u:Upd Hs (blk b e cs) (blk b e cs') Hs') (h1:v.oneCell'=true) (ht:Yp P t=some 1)
  (K:∀ w',Sat w0 w' Hs'→wpList P ops Q rest (a.put dst undef) w'):wpList P ops Q (⟨dst,.store t x y,ty,pos,after,gd⟩::rest) a w:=by
 subst hcs
 have hc:w.cell? ⟨b,off,none⟩=some (cs[off]'hlt):=hS.cell hm (List.getElem?_eq_getElem hlt)
 exact KY hw (kV rfl hx hy (KT ht h1 hc (hS.frozen hm))) (K _ (hS.setCell v u))

/-! ### New variables -/
def Yl (P:Program) (t:TypeId):Option (List Value):=((P.info? t).bind (·.zero)).map (·.cells.toList)
theorem Xo {o:Oper} {t:TypeId} (ho:o.op=.alloc t) {cs:List Value} (hz:Yl P t=some cs) {ρ:Operand→Value} :
  (execOp ρ o).run P w=.ok (.value (.pointer (some ⟨w.heap.size,0,none⟩))) (w.alloc (.cells cs.toArray t)):=by
 unfold Yl at hz
 cases hi:P.info? t with
 | none=>rw[hi] at hz;cases hz
 | some i =>
  rw[hi] at hz
  cases hzz:i.zero with
  | none=>simp[hzz] at hz
  | some z =>
   simp[hzz] at hz
   subst hz
   simp[execOp,ho,Instr.alloc,zeroValue,typeInfo,hi,hzz,newVar,newRow,newObj,Sem.run]
theorem yk {dst:Option Tmp} {t:TypeId} {ty:TypeId} {pos:String} {after:Array Edge} {gd:Option (Nat × Bool)} (hS:Sat w0 w Hs)
  (hw:Region.wanted ⟨dst,.alloc t,ty,pos,after,gd⟩ (yielded ops a.tmps)=true) {cs:List Value} (hz:Yl P t=some cs)
  (K:∀ b w',Sat w0 w' (blk b t cs::Hs)→wpList P ops Q rest (a.put dst (.pointer (some ⟨b,0,none⟩))) w'):wpList P ops Q (⟨dst,.alloc t,ty,pos,after,gd⟩::rest) a w :=
 yW hw (Xo rfl hz) (K _ _ (hS.alloc _))
theorem Gl {o:Oper} {t:TypeId} {x:Operand} (ho:o.op=.box t x) {ρ:Operand→Value} {v:Value} (hx:ρ x=v) :
  (execOp ρ o).run P w=.ok (.value (.pointer (some ⟨w.heap.size,0,none⟩))) (w.alloc (.cells v.cells t)):=by
 subst hx
 simp[execOp,ho,Instr.box,newVar,newRow,newObj,Sem.run]
theorem yH {dst:Option Tmp} {t:TypeId} {x:Operand} {ty:TypeId} {pos:String} {after:Array Edge} {gd:Option (Nat × Bool)} (hS:Sat w0 w Hs)
  (hw:Region.wanted ⟨dst,.box t x,ty,pos,after,gd⟩ (yielded ops a.tmps)=true) {v:Value} (hx:a.eval x=v) {cs:List Value} (hc:v.cells.toList=cs)
  (K:∀ b w',Sat w0 w' (blk b t cs::Hs)→wpList P ops Q rest (a.put dst (.pointer (some ⟨b,0,none⟩))) w'):wpList P ops Q (⟨dst,.box t x,ty,pos,after,gd⟩::rest) a w:=by
 subst hc
 exact yW hw (Gl rfl hx) (K _ _ (by simpa [blk] using hS.alloc (.cells v.cells t)))
end
end
section
open Go Go.RowKit

def adr (ad:Option Addr) (j:Nat):Addr:=(ad.getD ⟨0,0,none⟩).add j
def own (e:TypeId) (size:Nat) (ad:Option Addr) (n cap:Nat) (xs:List Value):HP:=fun h =>
 xs.length=n*size∧((ad=none∧n=0∧cap=0∧emp h)∨∃ g cur,ad=some ⟨g,0,none⟩∧n≤cap∧cap≤maxLen∧cur.length=cap*size∧cur.take (n*size)=xs∧blk g e cur h)

theorem jQ (a:Addr) (h:a.spot=none) (m n:Nat):(a.add m).add n=a.add (m+n):=by
 obtain⟨b,o,s⟩:=a
 simp only at h
 subst h
 simp only[KM,Nat.add_assoc]
def Rd (A:HP) (ad:Option Addr) (cs:List Value):Prop :=
 ∀ (w:World) (h:Nat→Option Obj),A h→(∀ b o,h b=some o→w.heap[b]?=some o)→∀ (j:Nat) v,cs[j]?=some v→(∃ a,ad=some a∧a.spot=none)∧w.cell? (adr ad j)=some v

structure ElemTy (P:Program) (t e:TypeId) (size bytes:Nat):Prop where
 ht:P.underlying t=some (.slice e)
 hi:(P.info? e).map (fun i=>(i.zero.map (·.cells.size),i.size,i.bytes))=some (some size,size,bytes)
 pos:0 < size
theorem ElemTy.parts {P:Program} {t e:TypeId} {size bytes:Nat} (E:ElemTy P t e size bytes):∃ i z,P.info? e=some i∧i.zero=some z∧i.size=size∧i.bytes=bytes∧z.cells.size=size:=by
 have h:=E.hi
 cases hi:P.info? e with
 | none=>rw[hi] at h;cases h
 | some i =>
  rw[hi] at h
  simp only[Option.map_some,Option.some.injEq,Prod.mk.injEq] at h
  obtain⟨h1,h2,h3⟩:=h
  cases hz:i.zero with
  | none=>rw[hz] at h1;cases h1
  | some z=>rw[hz] at h1;exact⟨i,z,rfl,hz,h2,h3,by simpa using h1⟩

theorem ElemTy.sz {P:Program} {t e:TypeId} {size bytes:Nat} (E:ElemTy P t e size bytes):Yp P e=some size:=by
 obtain⟨i,z,hi,_,h,_⟩:=E.parts
 simp[Yp,hi,h]

section
variable {P:Program} {ops:Array Oper} {Q:Exit→Act→World→Prop} {rest:List Oper} {a:Act} {w w0:World} {Hs R:List HP} {e:TypeId} {size n cap:Nat} {ad:Option Addr} {xs:List Value}

theorem Sat.ownLen (hS:Sat w0 w Hs) (hm:own e size ad n cap xs∈Hs):xs.length=n*size:=by
 obtain⟨g,hg,_⟩:=hS.get hm
 exact hg.1
theorem Sat.ownCap (hS:Sat w0 w Hs) (hm:own e size ad n cap xs∈Hs):n≤cap∧cap≤maxLen:=by
 obtain⟨g,hg,_⟩:=hS.get hm
 rcases hg.2 with ⟨_,h1,h2,_⟩|⟨_,_,_,h1,h2,_⟩
 ·subst h1;subst h2;exact⟨Nat.le_refl _,Nat.zero_le _⟩
 ·exact⟨h1,h2⟩
theorem Sat.ownAd (hS:Sat w0 w Hs) (hm:own e size ad n cap xs∈Hs):(ad=none∧n=0∧cap=0∧xs=[])∨∃ g,ad=some ⟨g,0,none⟩:=by
 obtain⟨g,hg,_⟩:=hS.get hm
 rcases hg.2 with ⟨h0,h1,h2,_⟩|⟨g,_,h0,_⟩
 ·refine .inl ⟨h0,h1,h2,?_⟩
  have:=hg.1
  subst h1
  simpa using this
 ·exact .inr ⟨g,h0⟩
theorem Sat.ownNN (hS:Sat w0 w Hs) (hm:own e size ad n cap xs∈Hs) (h0:0 < n):∃ aa,ad=some aa∧aa.spot=none:=by
 rcases hS.ownAd hm with ⟨_,h,_⟩|⟨g,h⟩
 ·omega
 ·exact⟨_,h,rfl⟩
theorem Sat.ownCell (hS:Sat w0 w Hs) (hm:own e size ad n cap xs∈Hs) {j:Nat} {v:Value} (hv:xs[j]?=some v):w.cell? (adr ad j)=some v∧w.frozen? (adr ad j)=false∧∃ g,ad=some ⟨g,0,none⟩∧adr ad j=⟨g,j,none⟩:=by
 obtain⟨g,hg,hw⟩:=hS.get hm
 have hlt:j < xs.length:=(List.getElem?_eq_some_iff.1 hv).1
 rcases hg.2 with ⟨_,h1,_,_⟩|⟨b,cur,rfl,hnc,hcm,hcl,hcur,hblk⟩
 ·have:=hg.1;subst h1;simp at this;simp[this] at hlt
 ·have hb:w.heap[b]?=some (.cells cur.toArray e (0,0)):=hw b _ (by rw[hblk b];simp)
  have e1:adr (some (⟨b,0,none⟩:Addr)) j=⟨b,j,none⟩:=by simp[adr,KM]
  rw[e1]
  have hcj:cur[j]?=some v:=by
   rw[← hcur,List.getElem?_take] at hv
   split at hv
   ·exact hv
   ·cases hv
  refine ⟨by simp[World.cell?,hb,hcj],by simp[World.frozen?,hb],b,rfl,rfl⟩
theorem Sat.rdCell {A:HP} {cs:List Value} (hS:Sat w0 w Hs) (hm:A∈Hs) (hr:Rd A ad cs) {j:Nat} {v:Value} (hv:cs[j]?=some v):w.cell? (adr ad j)=some v:=by
 obtain⟨g,hg,hw⟩:=hS.get hm
 exact(hr w g hg hw j v hv).2
theorem Sat.rdAd {A:HP} {cs:List Value} (hS:Sat w0 w Hs) (hm:A∈Hs) (hr:Rd A ad cs) (h0:0 < cs.length):∃ a,ad=some a∧a.spot=none:=by
 obtain⟨g,hg,hw⟩:=hS.get hm
 exact(hr w g hg hw 0 _ (List.getElem?_eq_getElem h0)).1
theorem Rd.of_own:Rd (own e size ad n cap xs) ad xs:=by
 intro w h hA hw j v hv
 have hS:Sat w w [own e size ad n cap xs]:=⟨rfl,rfl,rfl,Nat.le_refl _,h,⟨h,fun _=>none,fun b=>.inr rfl,fun b=>by simp,hA,fun b=>rfl⟩,hw⟩
 obtain⟨h1,_,g,h2,_⟩:=hS.ownCell ye hv
 exact⟨⟨_,h2,rfl⟩,h1⟩
theorem Rd.of_blk {b:Nat} {cs:List Value}:Rd (blk b e cs) (some ⟨b,0,none⟩) cs:=by
 intro w h hA hw j v hv
 refine ⟨⟨_,rfl,rfl⟩,?_⟩
 have hb:w.heap[b]?=some (.cells cs.toArray e (0,0)):=hw b _ (by rw[hA b];simp)
 simp[adr,KM,World.cell?,hb,hv]

/-! ### Elements -/
theorem jj {o:Oper} {T:TypeId} {x i:Operand} (ho:o.op=.indexAddr T x i) {ρ:Operand→Value} {aa:Addr} {k:IntKind} {ix:Int} (hx:ρ x=.slice (some aa) n cap) (hi:ρ i=.int k ix)
  (ht:P.underlying T=some (.slice e)) (hz:Yp P e=some size) (h0:0≤ix) (h1:ix < n):(execOp ρ o).run P w=.ok (.value (.pointer (some (aa.add (ix.toNat*size))))) w:=by
 have hs:=Ki hz w
 simp[execOp,ho,hx,hi,Instr.indexAt,asIntOf,run_underlying ht,h0,h1,hs]
theorem yn {dst:Option Tmp} {T:TypeId} {x i:Operand} {ty:TypeId} {pos:String} {after:Array Edge} {gd:Option (Nat × Bool)}
  (hw:Region.wanted ⟨dst,.indexAddr T x i,ty,pos,after,gd⟩ (yielded ops a.tmps)=true) (hx:a.eval x=.slice ad n cap) {k:IntKind} {ix:Int} (hi:a.eval i=.int k ix)
  {bytes:Nat} (E:ElemTy P T e size bytes) (h0:0≤ix) (h1:ix < n) (hne:∃ aa,ad=some aa∧aa.spot=none) {j:Nat} (hj:ix.toNat*size=j)
  (K:wpList P ops Q rest (a.put dst (.pointer (some (adr ad j)))) w):wpList P ops Q (⟨dst,.indexAddr T x i,ty,pos,after,gd⟩::rest) a w:=by
 obtain⟨aa,rfl,_⟩:=hne
 subst hj
 exact yW hw (jj rfl hx hi E.ht E.sz h0 h1) K
theorem yF {dst:Option Tmp} {t:TypeId} {x:Operand} {ty:TypeId} {pos:String} {after:Array Edge} {gd:Option (Nat × Bool)}
  (hw:Region.wanted ⟨dst,.load t x,ty,pos,after,gd⟩ (yielded ops a.tmps)=true) {j:Nat} (hx:a.eval x=.pointer (some (adr ad j))) {v:Value} (hc:w.cell? (adr ad j)=some v) (ht:kW P t=true)
  (K:wpList P ops Q rest (a.put dst v) w):wpList P ops Q (⟨dst,.load t x,ty,pos,after,gd⟩::rest) a w :=
 yW hw (yj rfl hx (yc ht hc)) K
theorem gI {dst:Option Tmp} {t:TypeId} {x:Operand} {ty:TypeId} {pos:String} {after:Array Edge} {gd:Option (Nat × Bool)} {m:Nat}
  (hw:Region.wanted ⟨dst,.load t x,ty,pos,after,gd⟩ (yielded ops a.tmps)=true) {j:Nat} (hx:a.eval x=.pointer (some (adr ad j))) (hsp:∃ aa,ad=some aa∧aa.spot=none) {vs:List Value}
  (hc:∀ (i:Nat) v,vs[i]?=some v→w.cell? (adr ad (j+i))=some v) (hn:Yp P t=some m) (hl:vs.length=m) (ht:Ju P t=true)
  (K:wpList P ops Q rest (a.put dst (.agg vs.toArray)) w):wpList P ops Q (⟨dst,.load t x,ty,pos,after,gd⟩::rest) a w:=by
 refine yW hw (yj rfl hx (kU ht (by rw[hl];exact hn) fun i v hv=>?_)) K
 have h:=hc i v hv
 obtain⟨aa,rfl,hs⟩:=hsp
 simp only[adr,Option.getD_some] at h ⊢
 rw[jQ _ hs]
 exact h
def Yi (P:Program) (s:TypeId) (f:Nat):Option Nat :=
 match P.underlying s with
 | some (.struct fs)=>(fs[f]?).bind fun x=>(P.info? x.type).bind fun i=>if i.size=0 then none else some x.offset
 | _=>none
theorem ji {o:Oper} {s:TypeId} {x:Operand} {f:Nat} (ho:o.op=.fieldAddr s x f) {ρ:Operand→Value} {aa:Addr} (hx:ρ x=.pointer (some aa)) {k:Nat} (hf:Yi P s f=some k) :
  (execOp ρ o).run P w=.ok (.value (.pointer (some (aa.add k)))) w:=by
 unfold Yi at hf
 cases hu:P.underlying s with
 | none=>simp[hu] at hf
 | some d =>
  cases d with
  | struct fs =>
   simp only[hu] at hf
   cases hx2:fs[f]? with
   | none=>simp[hx2] at hf
   | some fl =>
    simp only[hx2,Option.bind_some] at hf
    cases hi:P.info? fl.type with
    | none=>simp[hi] at hf
    | some i =>
     simp only[hi,Option.bind_some] at hf
     split at hf
     ·cases hf
     ·rename_i hne
      simp only[Option.some.injEq] at hf
      subst hf
      simp[execOp,ho,hx,Instr.fieldAt,run_underlying hu,hx2,Instr.sureAddr,fieldPlace,sizeOf,typeInfo,hi,hne]
  | _=>simp[hu] at hf
theorem yR {dst:Option Tmp} {s:TypeId} {x:Operand} {f:Nat} {ty:TypeId} {pos:String} {after:Array Edge} {gd:Option (Nat × Bool)}
  (hw:Region.wanted ⟨dst,.fieldAddr s x f,ty,pos,after,gd⟩ (yielded ops a.tmps)=true) {j:Nat} (hx:a.eval x=.pointer (some (adr ad j))) (hsp:∃ aa,ad=some aa∧aa.spot=none) {k:Nat} (hf:Yi P s f=some k)
  (K:wpList P ops Q rest (a.put dst (.pointer (some (adr ad (j+k))))) w):wpList P ops Q (⟨dst,.fieldAddr s x f,ty,pos,after,gd⟩::rest) a w:=by
 refine yW hw (ji rfl hx hf) ?_
 obtain⟨aa,rfl,hs⟩:=hsp
 simp only[adr,Option.getD_some,jQ _ hs] at K ⊢
 exact K

theorem gh {cs':List Value} (hl:cs'.length=xs.length) {w':World} (hS:Sat w0 w (own e size ad n cap xs::R)) (hne:∃ g,ad=some ⟨g,0,none⟩) (hos:w'.os=w.os) (htp:w'.tape=w.tape) (hou:w'.output=w.output) (hsz:w'.heap.size=w.heap.size)
  (hst:∀ (g:Nat) (cur:List Value),ad=some ⟨g,0,none⟩→cur.length=cap*size→cur.take (n*size)=xs→w.heap[g]?=some (.cells cur.toArray e (0,0)) →
   ∃ cur':List Value,cur'.length=cap*size∧cur'.take (n*size)=cs'∧w'.heap[g]?=some (.cells cur'.toArray e (0,0))∧∀ c,c≠g→w'.heap[c]?=w.heap[c]?) :
  Sat w0 w' (own e size ad n cap cs'::R):=by
 refine hS.step hos htp hou (by omega) fun g hg hw=>?_
 obtain⟨hlen,h⟩:=hg
 obtain⟨gg,rfl⟩:=hne
 rcases h with ⟨h0,_⟩|⟨b,cur,hb,hnc,hcm,hcl,hcur,hblk⟩
 ·cases h0
 ·have hbe:gg=b:=by simpa using hb
  subst hbe
  obtain⟨cur',h1,h2,h3,h4⟩:=hst gg cur rfl hcl hcur (hw gg _ (by rw[hblk gg];simp))
  refine ⟨fun c=>if c=gg then some (.cells cur'.toArray e (0,0)) else none,⟨by rw[hl];exact hlen,.inr ⟨gg,cur',rfl,hnc,hcm,h1,h2,fun c=>rfl⟩⟩,fun c o hc=>?_,fun c hc=>.inl ?_,fun c _ hcn=>h4 c ?_⟩
  ·by_cases hcg:c=gg
   ·simp[hcg] at hc;subst hc;rw[hcg];exact h3
   ·simp[hcg] at hc
  ·by_cases hcg:c=gg
   ·rw[hblk c,if_pos hcg];simp
   ·simp[hcg] at hc
  ·intro hcg
   rw[hblk c,if_pos hcg] at hcn
   cases hcn
theorem jr {dst:Option Tmp} {t:TypeId} {x y:Operand} {ty:TypeId} {pos:String} {after:Array Edge} {gd:Option (Nat × Bool)} (hS:Sat w0 w Hs)
  (hw:Region.wanted ⟨dst,.store t x y,ty,pos,after,gd⟩ (yielded ops a.tmps)=true) {j:Nat} (hx:a.eval x=.pointer (some (adr ad j))) {v:Value} (hy:a.eval y=v)
  (hm:own e size ad n cap xs∈Hs) (hlt:j < xs.length) {Hs':List HP} (u:Upd Hs (own e size ad n cap xs) (own e size ad n cap (xs.set j v)) Hs') (h1:v.oneCell'=true) (ht:Yp P t=some 1)
  (K:∀ w',Sat w0 w' Hs'→wpList P ops Q rest (a.put dst undef) w'):wpList P ops Q (⟨dst,.store t x y,ty,pos,after,gd⟩::rest) a w:=by
 obtain⟨hc,hf,g,hg,he⟩:=hS.ownCell hm (List.getElem?_eq_getElem hlt)
 refine KY hw (kV rfl hx hy (KT ht h1 hc hf)) (K _ ?_)
 obtain⟨R,r1,r2⟩:=u.rem
 have hS':Sat w0 (w.setCell (adr ad j) v) (own e size ad n cap (xs.set j v)::R):=by
  refine gh (by simp) (hS.front r1) ⟨g,hg⟩ rfl rfl rfl (by simp) fun b cur hb hcl hcur hh=>?_
  rw[hg] at hb
  have hbe:g=b:=by simpa using hb
  subst hbe
  have hxl:=hS.ownLen hm
  rw[he]
  refine ⟨cur.set j v,by simpa using hcl,by rw[← hcur,List.take_set],?_,fun c hc=>Below.heap_setCell _ _ _ _ hc⟩
  simp[World.setCell,Array.getElem?_modify,hh]
 exact hS'.put r2
end
end
section
open Go Go.RowKit Go.Lib

section
variable {P:Program} {ops:Array Oper} {Q:Exit→Act→World→Prop} {rest:List Oper} {a:Act} {w w0:World} {Hs R:List HP} {e:TypeId} {size n cap:Nat} {ad:Option Addr} {xs:List Value}

theorem Sat.newOwn {A:HP} {w':World} {v:Value} (hS:Sat w0 w (A::R)) (hg:w.grownBy w' none) (ho:w'.ownsRow w.heap.size e size v n xs) :
  ∃ ad cap,v=.slice ad n cap∧Sat w0 w' (own e size ad n cap xs::R):=by
 obtain⟨hlen,ho⟩:=ho
 rcases ho with ⟨rfl,rfl⟩|⟨g,cap,cur,rfl,hb,hh,hnc,hcm,hcs,hcur⟩
 ·refine ⟨none,0,rfl,?_⟩
  exact(hS.step (B:=own e size none 0 0 xs) hg.os hg.tape hg.output hg.size fun g hA hw=>⟨fun _=>none,⟨hlen,.inl ⟨rfl,rfl,rfl,fun _=>rfl⟩⟩,fun b o h=>(by cases h),fun b h=>absurd rfl h,fun b hb _=>hg.block b hb (by simp)⟩)
 ·refine ⟨some ⟨g,0,none⟩,cap,rfl,?_⟩
  refine hS.step hg.os hg.tape hg.output hg.size fun k hA hw=>⟨fun c=>if c=g then some (.cells cur e (0,0)) else none,⟨hlen,.inr ⟨g,cur.toList,rfl,hnc,hcm,by simpa using hcs,hcur,fun c=>?_⟩⟩,fun b o h=>?_,fun b h=>.inr ?_,fun b hb _=>hg.block b hb (by simp)⟩
  ·simp
  ·by_cases hbg:b=g
   ·simp[hbg] at h;subst h;rw[hbg];exact hh
   ·simp[hbg] at h
  ·by_cases hbg:b=g
   ·omega
   ·simp[hbg] at h
theorem Ux {news:List Value} {m g:Nat} (hl:news.length=m*size) (hroom:n+m≤cap) {w':World} (hS:Sat w0 w (own e size (some ⟨g,0,none⟩) n cap xs::R)) (hos:w'.os=w.os) (htp:w'.tape=w.tape) (hou:w'.output=w.output) (hsz:w'.heap.size=w.heap.size)
  (hst:∀ cur:List Value,cur.length=cap*size→cur.take (n*size)=xs→w.heap[g]?=some (.cells cur.toArray e (0,0)) →
   w'.heap[g]?=some (.cells (cur.take (n*size)++news++cur.drop (n*size+news.length)).toArray e (0,0))∧∀ c,c≠g→w'.heap[c]?=w.heap[c]?) :
  Sat w0 w' (own e size (some ⟨g,0,none⟩) (n+m) cap (xs++news)::R):=by
 refine hS.step hos htp hou (by omega) fun k hg hw=>?_
 obtain⟨hlen,h⟩:=hg
 rcases h with ⟨h0,_⟩|⟨b,cur,hb,hnc,hcm,hcl,hcur,hblk⟩
 ·cases h0
 ·have hbe:g=b:=by simpa using hb
  subst hbe
  obtain⟨h3,h4⟩:=hst cur hcl hcur (hw g _ (by rw[hblk g];simp))
  have hxl:(xs++news).length=(n+m)*size:=by rw[List.length_append,hlen,hl,Nat.add_mul]
  have hfit:(n+m)*size≤cap*size:=Nat.mul_le_mul_right _ hroom
  rw[hcur] at h3
  refine ⟨fun c=>if c=g then some (.cells (xs++news++cur.drop (n*size+news.length)).toArray e (0,0)) else none,⟨hxl,.inr ⟨g,_,rfl,hroom,hcm,?_,?_,fun c=>rfl⟩⟩,fun c o hc=>?_,fun c hc=>.inl ?_,fun c _ hcn=>h4 c ?_⟩
  ·rw[List.length_append,hxl,List.length_drop,hcl,hl,← Nat.add_mul];omega
  ·rw[← hxl];exact List.take_left
  ·by_cases hcg:c=g
   ·simp only[hcg,if_true,Option.some.injEq] at hc;subst hc;rw[hcg];exact h3
   ·simp[hcg] at hc
  ·by_cases hcg:c=g
   ·rw[hblk c,if_pos hcg];simp
   ·simp[hcg] at hc
  ·intro hcg
   rw[hblk c,if_pos hcg] at hcn
   cases hcn
theorem kX (w:World) (g:Nat) (cs:Array Value) (c:Nat) (h:c≠g):(w.setRow g cs).heap[c]?=w.heap[c]?:=by
 simp only[World.setRow,Array.getElem?_modify]
 rw[if_neg (Ne.symm h)]

theorem UX {t ty:TypeId} {bytes:Nat} (E:ElemTy P t e size bytes) (hS:Sat w0 w (own e size ad n cap xs::R)) {sd:Option Addr} {m c:Nat} {news:List Value} (hl:news.length=m*size)
  (hnews:∀ (j:Nat) u,news[j]?=some u→(∃ aa,sd=some aa∧aa.spot=none)∧w.cell? (adr sd j)=some u) (h1:∀ u∈news,u.oneCell'=true) (hsd:sd=none→c=0∧m=0) (h63:n+m≤maxLen) (hb:(n+m)*bytes≤140737488355328) :
  ∃ ad' cap' w',(Builtin.append_ #[t,t] ty #[.slice ad n cap,.slice sd m c]).run P w=.ok (.slice ad' (n+m) cap') w'∧Sat w0 w' (own e size ad' (n+m) cap' (xs++news)::R):=by
 obtain⟨i,z,hi,hz,hsz,hby,hzs⟩:=E.parts
 have hlen:=hS.ownLen ye
 obtain⟨hnc,hcm⟩:=hS.ownCap ye
 cases sd with
 | none =>
  obtain⟨rfl,rfl⟩:=hsd rfl
  have hn0:news=[]:=by simpa using hl
  subst hn0
  refine ⟨ad,cap,w,?_,by simpa using hS⟩
  cases ad <;> simp[Builtin.append_,run_underlying E.ht,sizeOf,typeInfo,hi,Builtin.lenOf,hnc,Builtin.firstCells,storeCells]
 | some sa =>
  have hnews':∀ (j:Nat) u,news[j]?=some u→w.cell? (sa.add j)=some u:=fun j u h=>by simpa [adr] using (hnews j u h).2
  rcases hS.ownAd ye with ⟨rfl,rfl,rfl,rfl⟩|⟨g,rfl⟩
  ·obtain⟨v',w',hr,ho,hg,_⟩:=run_append_own (P:=P) w w.heap.size t ty e i z size bytes E.ht hi hz hsz hby hzs E.pos (.slice none 0 0) 0 [] (World.ownsRow_nil _ _ _ _) sa m c news hl hnews' h1 h63 hb (Nat.le_refl _)
   obtain⟨ad',cap',rfl,hS'⟩:=hS.newOwn (by simpa [Value.ownBlock] using hg) ho
   exact⟨ad',cap',w',hr,hS'⟩
  ·by_cases hroom:n+m≤cap
   ·obtain⟨k,hk,hw⟩:=hS.get ye
    obtain⟨_,hk⟩:=hk
    rcases hk with ⟨h0,_⟩|⟨g',cur,hgg,_,_,hcl,hcur,hblk⟩
    ·cases h0
    ·have hge:g=g':=by simpa using hgg
     subst hge
     have hh:w.heap[g]?=some (.cells cur.toArray e (0,0)):=hw g _ (by rw[hblk g];simp)
     have hfit:n*i.size+news.length≤cur.toArray.size:=by
      rw[hl,hsz,← Nat.add_mul,List.size_toArray,hcl];exact Nat.mul_le_mul_right _ hroom
     have hr:=run_append_room (P:=P) w t ty e i E.ht hi g n cap cur.toArray hh sa m c news (by rw[hsz];exact hl) hnews' h1 hroom hfit
     refine ⟨_,_,_,hr,Ux hl hroom hS rfl rfl rfl (by simp) fun cur2 hc2 ht2 hh2=>?_⟩
     have:cur2=cur:=by rw[hh] at hh2;simpa using hh2.symm
     subst this
     refine ⟨?_,fun c hc=>kX _ _ _ _ hc⟩
     have:=setRow_heap w g cur2.toArray (cur2.take (n*size)++news++cur2.drop (n*size+news.length)).toArray e (0,0) hh
     simpa [hsz] using this
   ·have holds:∀ (j:Nat) u,xs[j]?=some u→w.cell? ((⟨g,0,none⟩:Addr).add j)=some u:=fun j u h=>by
     have:=(hS.ownCell ye h).1
     simpa [adr] using this
    obtain⟨v',w',hr,ho,hg⟩:=run_append_arg_grows (P:=P) w t ty e i z size bytes E.ht hi hz hsz hby hzs E.pos ⟨g,0,none⟩ n cap xs hlen holds sa m c news hl hnews' (by omega) h63 hb
    obtain⟨ad',cap',rfl,hS'⟩:=hS.newOwn hg ho
    exact⟨ad',cap',w',hr,hS'⟩
theorem UC {t u ty:TypeId} (E:ElemTy P t e 1 1) (hu:P.underlying u=some .string) (hz0:(P.info? e).bind (·.zero)=some (.int .u8 0)) (hS:Sat w0 w (own e 1 ad n cap xs::R)) (s:ByteArray) (h63:n+s.size≤maxLen) (hb:n+s.size≤140737488355328) :
  ∃ ad' cap' w',(Builtin.append_ #[t,u] ty #[.slice ad n cap,.string s]).run P w=.ok (.slice ad' (n+s.size) cap') w'∧Sat w0 w' (own e 1 ad' (n+s.size) cap' (xs++strCells s)::R):=by
 obtain⟨i,z,hi,hz,hsz,hby,hzs⟩:=E.parts
 have hzz:i.zero=some (.int .u8 0):=by simpa [hi] using hz0
 have hlen:=hS.ownLen ye
 obtain⟨hnc,hcm⟩:=hS.ownCap ye
 have hsl:=strCells_length s
 rcases hS.ownAd ye with ⟨rfl,rfl,rfl,rfl⟩|⟨g,rfl⟩
 ·obtain⟨v',w',hr,ho,hg,_⟩:=run_append_own_string (P:=P) w w.heap.size t u ty e i E.ht hu hi hzz hsz hby (.slice none 0 0) 0 [] (World.ownsRow_nil _ _ _ _) s h63 hb (Nat.le_refl _)
  obtain⟨ad',cap',rfl,hS'⟩:=hS.newOwn (by simpa [Value.ownBlock] using hg) ho
  exact⟨ad',cap',w',hr,hS'⟩
 ·by_cases hroom:n+s.size≤cap
  ·obtain⟨k,hk,hw⟩:=hS.get ye
   obtain⟨_,hk⟩:=hk
   rcases hk with ⟨h0,_⟩|⟨g',cur,hgg,_,_,hcl,hcur,hblk⟩
   ·cases h0
   ·have hge:g=g':=by simpa using hgg
    subst hge
    have hh:w.heap[g]?=some (.cells cur.toArray e (0,0)):=hw g _ (by rw[hblk g];simp)
    have hr:=run_append_room_string (P:=P) w t u ty e i E.ht hu hi hsz g n cap cur.toArray hh s hroom (by simpa [hcl] using hroom)
    refine ⟨_,_,_,hr,Ux (by rw[hsl,Nat.mul_one]) hroom hS rfl rfl rfl (by simp) fun cur2 hc2 ht2 hh2=>?_⟩
    have:cur2=cur:=by rw[hh] at hh2;simpa using hh2.symm
    subst this
    refine ⟨?_,fun c hc=>kX _ _ _ _ hc⟩
    have:=setRow_heap w g cur2.toArray (cur2.take (n*1)++strCells s++cur2.drop (n*1+(strCells s).length)).toArray e (0,0) hh
    simpa [hsl] using this
  ·have holds:∀ (j:Nat) u,xs[j]?=some u→w.cell? ((⟨g,0,none⟩:Addr).add j)=some u:=fun j u h=>by
    have:=(hS.ownCell ye h).1
    simpa [adr] using this
   have hgr:cap < n+s.size:=by omega
   have hr:=run_append_grow_string (P:=P) w t u ty e i (.int .u8 0) E.ht hu hi hzz ⟨g,0,none⟩ n cap xs (by rw[hsz];exact hlen) holds s hgr (by unfold maxLen at h63;omega) (growslice_fits hgr (by rw[hby];omega))
   have hge:=grownCap_ge w (n+s.size) cap e
   have hcm2:=grownCap_le_maxLen w (n+s.size) cap e h63
   have hxl:(xs++strCells s).length=(n+s.size)*1:=by rw[List.length_append,hlen,hsl];omega
   obtain⟨ad',cap',hv,hS'⟩:=hS.newOwn (e:=e) (size:=1) (n:=n+s.size) (xs:=xs++strCells s) (v:=.slice (some ⟨w.heap.size,0,none⟩) (n+s.size) (grownCap w (n+s.size) cap e))
    (w':=w.drew.alloc (.cells (xs.toArray++(strCells s).toArray++Builtin.zeroCells (Value.int .u8 0).cells (grownCap w (n+s.size) cap e - (n+s.size))) e))
    ⟨rfl,rfl,rfl,by simp,fun k hk _=>Below.heap_alloc w.drew _ k hk⟩
    ⟨hxl,.inr ⟨w.heap.size,_,_,rfl,Nat.le_refl _,heap_alloc_new w.drew _,hge,hcm2,by simp[size_zeroCells,Value.cells,hlen,hsl];omega,by
     simp only[Array.toList_append,List.append_assoc]
     rw[← List.append_assoc,← hxl]
     exact List.take_left⟩⟩
   exact⟨_,_,_,hr,by cases hv;exact hS'⟩
end
end
section
open Go Go.RowKit Go.Lib

abbrev B (c:UInt8):Value:=.int .u8 c.toNat
def Bs (l:List UInt8):List Value:=l.map B
theorem KU (l:List UInt8):(Bs l).length=l.length:=by simp[Bs]
theorem xh (l m:List UInt8):Bs (l++m)=Bs l++Bs m:=by simp[Bs]
theorem Bs_at {l:List UInt8} {j:Nat} {x:UInt8} (h:l[j]?=some x):(Bs l)[j]?=some (B x):=by simp[Bs,h]
section
variable {P:Program} {ops:Array Oper} {Q:Exit→Act→World→Prop} {rest:List Oper} {a:Act} {w w0:World} {Hs R R1 R2:List HP} {e:TypeId} {size n cap:Nat} {ad:Option Addr} {xs:List Value}

theorem KS {o:Oper} {s x:Operand} {t u:TypeId} (ho:o.op=.call { callee:=.builtin .append,args:=#[s,x],argTypes:=#[t,u] }) {ρ:Operand→Value} {v:Value} {w':World}
  (hr:(Builtin.append_ #[t,u] o.type #[ρ s,ρ x]).run P w=.ok v w'):(execOp ρ o).run P w=.ok (.value v) w':=by
 simp[execOp,ho,resolve,invoke,builtin,hr]
theorem yD {dst:Option Tmp} {s x:Operand} {t ty:TypeId} {pos:String} {after:Array Edge} {gd:Option (Nat × Bool)} {bytes:Nat} (hS:Sat w0 w Hs)
  (hw:Region.wanted ⟨dst,.call { callee:=.builtin .append,args:=#[s,x],argTypes:=#[t,t] },ty,pos,after,gd⟩ (yielded ops a.tmps)=true)
  (hs:a.eval s=.slice ad n cap) {nb m c:Nat} (hx:a.eval x=.slice (some ⟨nb,0,none⟩) m c) (E:ElemTy P t e size bytes) (r1:Rem Hs (own e size ad n cap xs) R1) {news:List Value} (r2:Rem R1 (blk nb e news) R2)
  (hl:news.length=m*size) (h1:news.all (·.oneCell')=true) (hb:(n+m)*bytes≤140737488355328) (h63:n+m≤9223372036854775807)
  (K:∀ ad' cap' w',Sat w0 w' (own e size ad' (n+m) cap' (xs++news)::R2)→wpList P ops Q rest (a.put dst (.slice ad' (n+m) cap')) w') :
  wpList P ops Q (⟨dst,.call { callee:=.builtin .append,args:=#[s,x],argTypes:=#[t,t] },ty,pos,after,gd⟩::rest) a w:=by
 have hS1:=hS.front r1
 obtain⟨ad',cap',w',hr,hS'⟩:=UX (P:=P) (ty:=ty) E hS1 (sd:=some ⟨nb,0,none⟩) (c:=c) hl
  (fun j u hj=>⟨⟨_,rfl,rfl⟩,hS1.rdCell (A:=blk nb e news) (.tail _ (by exact(Rem.mem r2))) Rd.of_blk hj⟩) (fun u hu=>by simpa using List.all_eq_true.1 h1 u hu) (fun h=>by cases h) h63 hb
 refine yW hw (KS rfl (by rw[hs,hx];exact hr)) (K ad' cap' w' ?_)
 have hS2:Sat w0 w' (blk nb e news::own e size ad' (n+m) cap' (xs++news)::R2):=hS'.front (Rem.tl r2)
 exact hS2.drop
theorem UW {dst:Option Tmp} {s x:Operand} {t u ty:TypeId} {pos:String} {after:Array Edge} {gd:Option (Nat × Bool)} (hS:Sat w0 w Hs)
  (hw:Region.wanted ⟨dst,.call { callee:=.builtin .append,args:=#[s,x],argTypes:=#[t,u] },ty,pos,after,gd⟩ (yielded ops a.tmps)=true)
  (hs:a.eval s=.slice ad n cap) {b:ByteArray} (hx:a.eval x=.string b) (E:ElemTy P t e 1 1) (hu:P.underlying u=some .string) (hz0:(P.info? e).bind (·.zero)=some (.int .u8 0)) (r1:Rem Hs (own e 1 ad n cap xs) R1)
  (hb:n+b.size≤140737488355328)
  (K:∀ ad' cap' w',Sat w0 w' (own e 1 ad' (n+b.size) cap' (xs++Bs b.data.toList)::R1)→wpList P ops Q rest (a.put dst (.slice ad' (n+b.size) cap')) w') :
  wpList P ops Q (⟨dst,.call { callee:=.builtin .append,args:=#[s,x],argTypes:=#[t,u] },ty,pos,after,gd⟩::rest) a w:=by
 have hS1:=hS.front r1
 obtain⟨ad',cap',w',hr,hS'⟩:=UC (P:=P) (ty:=ty) E hu hz0 hS1 b (by unfold maxLen;omega) hb
 exact yW hw (KS rfl (by rw[hs,hx];exact hr)) (K ad' cap' w' hS')

theorem Sat.ownNil (hS:Sat w0 w Hs) (e:TypeId) (size:Nat):Sat w0 w (own e size none 0 0 []::Hs):=hS.emp ⟨by simp,.inl ⟨rfl,rfl,rfl,fun _=>rfl⟩⟩

/-! ### A slice literal of one element -/
theorem UZ {o:Oper} {T:TypeId} {x:Operand} (ho:o.op=.buildSlice T 1 #[(0,x)]) {bytes:Nat} (E:ElemTy P T e size bytes) (hsz:size≤16777216) {ρ:Operand→Value} (hc:(ρ x).cells.size=size) :
  (execOp ρ o).run P w=.ok (.value (.slice (some ⟨w.heap.size,0,none⟩) 1 1)) (w.alloc (.cells (ρ x).cells e)):=by
 obtain⟨i,z,hi,hz,hs,hby,hzs⟩:=E.parts
 have hpos:=E.pos
 have hfold:∀ (vs:List Value) (k:Nat) (cs:List Value),cs.length=k+vs.length→(vs.zipIdx k).foldl (fun(cs:Array Value) (x:Value × Nat)=>cs.setIfInBounds x.2 x.1) cs.toArray=(cs.take k++vs).toArray:=by
  intro vs
  induction vs with
  | nil=>intro k cs h;simp only[List.zipIdx_nil,List.foldl_nil,List.append_nil];rw[List.take_of_length_le (by simp at h;omega)]
  | cons v vs ih =>
   intro k cs h
   simp only[List.zipIdx_cons,List.foldl_cons,List.setIfInBounds_toArray]
   rw[ih (k+1) (cs.set k v) (by simp at h ⊢;omega)]
   congr 1
   rw[List.take_succ_eq_append_getElem (by simp at h ⊢;omega),List.take_set_of_le (by omega)]
   simp
 have hf:Instr.fill (fun i=>some (i*size,size)) ((Array.range (1*size)).map (z.cells[· % z.cells.size]!)) [(0,ρ x)]=some (ρ x).cells:=by
  have h1:¬ (0+(ρ x).cells.size > ((Array.range (1*size)).map (z.cells[· % z.cells.size]!)).size):=by simp[hc]
  simp only[Instr.fill,Nat.zero_mul,hc,ne_eq,not_true_eq_false,decide_false,Bool.false_or,h1,if_false,ite_false]
  rw[if_neg (by simp)]
  have h2:=hfold (ρ x).cells.toList 0 ((Array.range (1*size)).map (z.cells[· % z.cells.size]!)).toList (by simp[hc])
  simp only[Nat.zero_add]
  rw[← Array.foldl_toList,Array.toList_zipIdx]
  have h3:((Array.range (1*size)).map (z.cells[· % z.cells.size]!)).toList.toArray=(Array.range (1*size)).map (z.cells[· % z.cells.size]!):=Array.toArray_toList
  rw[h3] at h2
  rw[h2]
  simp
 have hne:¬ (1*size=0):=by omega
 have hbig:¬ (1*size > 2 ^ 24):=by omega
 simp only[Nat.one_mul] at hf hne hbig
 have hs1:¬ (size > 16777216):=by omega
 simp[execOp,ho,Instr.buildSlice,run_underlying E.ht,sizeOf,typeInfo,hi,hs,hne,zeroValue,hz,newRow,newObj,Sem.run]
 rw[if_neg (by omega),hf]
 rfl
theorem yA {dst:Option Tmp} {T:TypeId} {x:Operand} {ty:TypeId} {pos:String} {after:Array Edge} {gd:Option (Nat × Bool)} {bytes:Nat} (hS:Sat w0 w Hs)
  (hw:Region.wanted ⟨dst,.buildSlice T 1 #[(0,x)],ty,pos,after,gd⟩ (yielded ops a.tmps)=true) (E:ElemTy P T e size bytes) {v:Value} (hx:a.eval x=v) {cs:List Value} (hv:v.cells.toList=cs) (hc:cs.length=size) (hsz:size≤16777216)
  (K:∀ b w',Sat w0 w' (blk b e cs::Hs)→wpList P ops Q rest (a.put dst (.slice (some ⟨b,0,none⟩) 1 1)) w'):wpList P ops Q (⟨dst,.buildSlice T 1 #[(0,x)],ty,pos,after,gd⟩::rest) a w:=by
 subst hv
 subst hx
 exact yW hw (UZ rfl E hsz (by simpa using hc)) (K _ _ (by simpa [blk] using hS.alloc (.cells (a.eval x).cells e)))

/-! ### string(b) -/
/-! ### Slices of an array variable -/
theorem JH {o:Oper} {t:TypeId} {x:Operand} {lo hi mx:Option Operand} (ho:o.op=.slice t x lo hi mx) {ρ:Operand→Value} {v:Value} (hr:(Instr.sliceAt t (ρ x) (lo.map ρ) (hi.map ρ) (mx.map ρ)).run P w=.ok v w) :
  (execOp ρ o).run P w=.ok (.value v) w:=by
 simp[execOp,ho,hr]
end
end
section
open Go Go.RowKit

section
variable {P:Program} {ops:Array Oper} {Q:Exit→Act→World→Prop} {rest:List Oper} {a:Act} {w w0:World} {Hs:List HP} {k e:TypeId} {b:Nat}

def cm (b:Nat) (es:List MapEntry) (clock:Nat):HP:=pt b (.map es.toArray clock)
structure KeyTy (P:Program) (t k e:TypeId) (d:TypeDesc):Prop where
 ht:P.underlying t=some (.map k e)
 hk:P.underlying k=some d
 hd:d=.string∨∃ j,d=.int j
theorem JG {t:TypeId} {d:TypeDesc} (K:KeyTy P t k e d) (b:Bool) (n:Nat) (v:Value) (w:World):(Instr.checkKey b (n+1) k v).run P w=.ok () w:=by
 have h:=run_underlying K.hk
 rcases K.hd with rfl|⟨j,rfl⟩
 all_goals
  unfold Instr.checkKey
  simp[h]
theorem uC {t:TypeId} {d:TypeDesc} (K:KeyTy P t k e d) {key:Value} {es:List MapEntry} {r:Option (Nat × Value)} (hf:Instr.findNow d key es 0=some r) (w:World):(Instr.findKey k key es).run P w=.ok r w:=by
 have h:=run_underlying K.hk
 simp[Instr.findKey,h,hf]
theorem gl {t:TypeId} {d:TypeDesc} (K:KeyTy P t k e d) {es:List MapEntry} {c:Nat} (hS:Sat w0 w Hs) (hm:cm b es c∈Hs) {key:Value} {r:Option (Nat × Value)} (hf:Instr.findNow d key es 0=some r) {z:Value} (hz:∀ w,(zeroValue e).run P w=.ok z w) (ok:Bool) :
  (Instr.lookup t (.map (some b)) key ok).run P w=.ok (if ok then .tuple #[(r.map (·.2)).getD z,.bool r.isSome] else (r.map (·.2)).getD z) w:=by
 have hb:=hS.block (show pt b (.map es.toArray c)∈Hs from hm)
 have ht:=run_underlying K.ht
 have h1:=MapKept.run_getObj_map (P:=P) hb
 have h2:=fun x=>JG K x 9999 key w
 have h3:=uC K hf w
 unfold Instr.lookup
 cases r with
 | none=>cases ok <;> simp[ht,h1,h2,h3,hz]
 | some iv=>cases ok <;> simp[ht,h1,h2,h3,hz]
theorem YX {dst:Option Tmp} {t:TypeId} {m x:Operand} {ok:Bool} {ty:TypeId} {pos:String} {after:Array Edge} {gd:Option (Nat × Bool)} {d:TypeDesc} (hS:Sat w0 w Hs)
  (hw:Region.wanted ⟨dst,.lookup t m x ok,ty,pos,after,gd⟩ (yielded ops a.tmps)=true) (hm:a.eval m=.map (some b)) {key:Value} (hx:a.eval x=key) (K0:KeyTy P t k e d) {es:List MapEntry} {c:Nat} (hmem:cm b es c∈Hs)
  {r:Option (Nat × Value)} (hf:Instr.findNow d key es 0=some r) {z:Value} (hz:∀ w,(zeroValue e).run P w=.ok z w) {v:Value} (hv:(if ok then .tuple #[(r.map (·.2)).getD z,.bool r.isSome] else (r.map (·.2)).getD z)=v)
  (K:wpList P ops Q rest (a.put dst v) w):wpList P ops Q (⟨dst,.lookup t m x ok,ty,pos,after,gd⟩::rest) a w:=by
 subst hv
 have hr:=gl K0 hS hmem hf hz ok
 refine yW hw ?_ K
 simp[execOp,hm,hx,hr]
theorem UD {t:TypeId} {d:TypeDesc} (K:KeyTy P t k e d) {es:List MapEntry} {c:Nat} (hS:Sat w0 w Hs) {Hs':List HP} {key val:Value} (u:Upd Hs (cm b es c) (cm b (es++[⟨key,val,c⟩]) (c+1)) Hs') (hf:Instr.findNow d key es 0=some none) :
  ∃ w',(Instr.mapUpdate t (.map (some b)) key val).run P w=.ok () w'∧Sat w0 w' Hs':=by
 have hb:=hS.block (show pt b (.map es.toArray c)∈Hs from u.mem)
 have ht:=run_underlying K.ht
 have h1:=MapKept.run_getObj_map (P:=P) hb
 have h2:=JG K false 9999 key w
 have h3:=uC K hf w
 have h4:=fun o=>MapKept.run_setObj_map (P:=P) o hb
 refine ⟨w.putObj b (.map (es++[(⟨key,val,c⟩:MapEntry)]).toArray (c+1)),?_,?_⟩
 ·unfold Instr.mapUpdate
  simp[ht,h1,h2,h3,h4,World.putObj]
 ·have hlt:=(Array.getElem?_eq_some_iff.1 hb).1
  have u':Upd Hs (pt b (.map es.toArray c)) (pt b (.map (es++[(⟨key,val,c⟩:MapEntry)]).toArray (c+1))) Hs':=u
  exact hS.setObj u' rfl rfl rfl (by simp) (World.putObj_heap_same hlt) fun c' hc=>World.putObj_heap_other hc
theorem xc {o:Oper} {t:TypeId} {m x y:Operand} (ho:o.op=.insert t m x y∨o.op=.mapUpdate t m x y) {ρ:Operand→Value} {w':World} {mv xv yv:Value} (hm:ρ m=mv) (hx:ρ x=xv) (hy:ρ y=yv) (hr:(Instr.mapUpdate t mv xv yv).run P w=.ok () w'):(execOp ρ o).run P w=.ok .skip w':=by
 subst hm;subst hx;subst hy
 rcases ho with ho|ho <;> simp[execOp,ho,hr]
theorem uv {o:Oper} {t:TypeId} {m x y:Operand} {d:TypeDesc} (hS:Sat w0 w Hs) (ho:o.op=.insert t m x y∨o.op=.mapUpdate t m x y)
  (hw:Region.wanted o (yielded ops a.tmps)=true) (hm:a.eval m=.map (some b)) {key val:Value} (hx:a.eval x=key) (hy:a.eval y=val) (K0:KeyTy P t k e d) {es:List MapEntry} {c:Nat} (hmem:cm b es c∈Hs) (hf:Instr.findNow d key es 0=some none)
  {Hs':List HP} (u:Upd Hs (cm b es c) (cm b (es++[⟨key,val,c⟩]) (c+1)) Hs') (K:∀ w',Sat w0 w' Hs'→wpList P ops Q rest (a.put o.dst undef) w'):wpList P ops Q (o::rest) a w:=by
 obtain⟨w',hr,hS'⟩:=UD K0 hS u hf
 exact KY hw (xc ho hm hx hy hr) (K w' hS')
theorem Jv {dst:Option Tmp} {t:TypeId} {ty:TypeId} {pos:String} {after:Array Edge} {gd:Option (Nat × Bool)} (hS:Sat w0 w Hs)
  (hw:Region.wanted ⟨dst,.makeMap t none,ty,pos,after,gd⟩ (yielded ops a.tmps)=true)
  (K:∀ b w',Sat w0 w' (cm b [] 0::Hs)→wpList P ops Q rest (a.put dst (.map (some b))) w'):wpList P ops Q (⟨dst,.makeMap t none,ty,pos,after,gd⟩::rest) a w:=by
 have hr:(execOp a.eval ⟨dst,.makeMap t none,ty,pos,after,gd⟩).run P w=.ok (.value (.map (some w.heap.size))) (w.alloc (.map #[] 0)):=by
  simp[execOp,Instr.makeMap,newObj,Sem.run]
 exact yW hw hr (K _ _ (hS.alloc (.map #[] 0)))
end
end
end Go.SL
