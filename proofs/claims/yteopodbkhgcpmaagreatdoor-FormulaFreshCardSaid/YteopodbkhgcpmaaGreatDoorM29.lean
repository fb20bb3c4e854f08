/- A part of the proof: BldK Arg Tab Row. -/
import Derived.Test.YteopodbkhgcpmaaGreatDoorM1
import Derived.Test.YteopodbkhgcpmaaGreatDoorM3
import Derived.ChangeArms
import Derived.ChangeSlices
import Derived.WideShapes
import Derived.SizedLaws
import Derived.Lib.LaidU8
import Derived.Lay
import Derived.MakeChecks
import Derived.ChangeBears2
import Derived.WalkKit
import Derived.ProofKit
import Derived.OpenShut
import Derived.Deep.DeepHandedRow
import Derived.Lib.LaidTab
set_option linter.unusedSimpArgs false
set_option linter.unusedVariables false
set_option linter.unusedSectionVars false
namespace Go.SL
section
set_option maxRecDepth 20000
open Go Go.RowKit
section
variable {P:Program} {ops:Array Oper} {Q:Exit→Act→World→Prop} {rest:List Oper} {a:Act} {w w0:World} {Hs:List HP} {e:TypeId}
theorem XM:∀ (vs:List Value) (k:Nat) (cs:List Value),cs.length=k+vs.length→(∀ v∈vs,v.oneCell'=true)→Instr.fill (fun i=>some (i*1,1)) cs.toArray ((vs.zipIdx k).map fun x=>(x.2,x.1))=some (cs.take k++vs).toArray
 | [],k,cs,h,_=>by simp only[List.zipIdx_nil,List.map_nil,Instr.fill,List.append_nil];rw[List.take_of_length_le (by simp at h;omega)]
 | v::vs,k,cs,h,h1=>by
  have hv:v.cells=#[v]:=by
   have:=h1 v (.head _)
   cases v <;> simp_all [Value.cells,Value.oneCell']
  simp only[List.length_cons] at h
  have ih:=XM vs (k+1) (cs.set k v) (by simp;omega) fun x hx=>h1 x (.tail _ hx)
  simp only[List.zipIdx_cons,List.map_cons,Instr.fill,hv]
  rw[if_neg (by simp;omega)]
  have e1:(#[v]:Array Value).zipIdx.foldl (fun cs (x:Value × Nat)=>cs.setIfInBounds (k*1+x.2) x.1) cs.toArray=(cs.set k v).toArray:=by simp
  rw[e1,ih,List.take_succ_eq_append_getElem (by simp;omega),List.take_set_of_le (by omega)]
  simp
theorem xb {o:Oper} {T:TypeId} {n:Nat} {parts:Array (Nat × Operand)} (ho:o.op=.buildSlice T n parts) {bytes:Nat} (E:ElemTy P T e 1 bytes) {ρ:Operand→Value} (vs:List Value) (hn:vs.length=n) (h0:0 < n) (hn2:n≤16777216)
  (hp:parts.toList.map (fun p=>(p.1,ρ p.2))=vs.zipIdx.map fun x=>(x.2,x.1)) (h1:∀ v∈vs,v.oneCell'=true) :
  (execOp ρ o).run P w=.ok (.value (.slice (some ⟨w.heap.size,0,none⟩) n n)) (w.alloc (.cells vs.toArray e)):=by
 obtain⟨i,z,hi,hz,hs,hby,hzs⟩:=E.parts
 have hf:=XM vs 0 ((List.range n).map fun j=>z.cells[j % z.cells.size]!) (by simp[hn]) h1
 rw[List.take_zero,List.nil_append] at hf
 have hr:((Array.range n).map fun x=>z.cells[x % z.cells.size]!)=((List.range n).map fun j=>z.cells[j % z.cells.size]!).toArray:=by
  apply Array.ext'
  simp
 have hpp:(parts.map fun x=>(x.1,ρ x.2)).toList=vs.zipIdx.map fun x=>(x.2,x.1):=by rw[Array.toList_map];exact hp
 have hn0:¬ n=0:=by omega
 have hn3:¬ 2 ^ 24 < n:=by omega
 simp only[Nat.mul_one] at hf
 simp[execOp,ho,Instr.buildSlice,run_underlying E.ht,sizeOf,typeInfo,hi,hs,zeroValue,hz,newRow,newObj,Sem.run,hr,hf,hn0,hn3,hp]
theorem uW {dst:Option Tmp} {T:TypeId} {n:Nat} {parts:Array (Nat × Operand)} {ty:TypeId} {pos:String} {after:Array Edge} {gd:Option (Nat × Bool)} {bytes:Nat} (vs:List Value) (hS:Sat w0 w Hs)
  (hw:Region.wanted ⟨dst,.buildSlice T n parts,ty,pos,after,gd⟩ (yielded ops a.tmps)=true) (E:ElemTy P T e 1 bytes) (hn:vs.length=n) (h0:0 < n) (hn2:n≤16777216)
  (hp:parts.toList.map (fun p=>(p.1,a.eval p.2))=vs.zipIdx.map fun x=>(x.2,x.1)) (h1:∀ v∈vs,v.oneCell'=true)
  (K:∀ b w',Sat w0 w' (own e 1 (some ⟨b,0,none⟩) n n vs::Hs)→wpList P ops Q rest (a.put dst (.slice (some ⟨b,0,none⟩) n n)) w'):wpList P ops Q (⟨dst,.buildSlice T n parts,ty,pos,after,gd⟩::rest) a w:=by
 refine yW hw (xb rfl E vs hn h0 hn2 hp h1) (K _ _ ?_)
 have hS1:Sat w0 (w.alloc (.cells vs.toArray e)) (blk w.heap.size e vs::Hs):=by simpa [blk] using hS.alloc (.cells vs.toArray e)
 have hmx:(16777216:Nat)≤maxLen:=by unfold maxLen;decide
 exact hS1.turn fun g h=>⟨by omega,.inr ⟨w.heap.size,vs,rfl,Nat.le_refl _,by omega,by omega,by rw[Nat.mul_one];exact List.take_of_length_le (by omega),h⟩⟩
end
end
section
open Go Go.RowKit Go.ChangeShapes Go.WideShapes

section
variable {H:Type} {enc:TypeId × Value→H} {P:Program} {W:World}

theorem rd_base {a:Addr} {cs:List Value} (hc:∀ (j:Nat) v,cs[j]?=some v→W.cell? (a.add j)=some v):Rd (YF W) (some a) cs:=by
 intro w h hA hw j v hv
 have h1:=hc j v hv
 have hsp:a.spot=none:=by
  have hj:=(List.getElem?_eq_some_iff.1 hv).1
  have h2:=hc 0 _ (List.getElem?_eq_getElem (by omega))
  have e0:a.add 0=a:=by simp[Addr.add]
  rw[e0] at h2
  unfold World.cell? at h2
  split at h2
  ·split at h2
   ·cases h2
   ·rename_i hs;simpa using hs
  ·cases h2
 refine ⟨⟨a,rfl,hsp⟩,?_⟩
 have hb:=World.block_lt_of_cell? W _ h1
 simp only[adr,Option.getD_some]
 have:w.heap[(a.add j).block]?=W.heap[(a.add j).block]?:=by
  cases hx:W.heap[(a.add j).block]? with
  | none=>rw[Array.getElem?_eq_none_iff] at hx;omega
  | some o=>exact hw _ o (by rw[hA,if_pos hb,hx])
 rw[World.cell?_of_block this]
 exact h1
end
end
section
open Go Go.RowKit Go.ChangeShapes Go.WideShapes

def jC:DataW Unit→Value
 | .lit (.int k n)=>.int k n
 | .lit (.string bs)=>.string ⟨bs.toArray⟩
 | _=>undef
theorem GI {α:Type} {m:Nat}:∀ (rows:List (List α)),(∀ r∈rows,r.length=m)→∀ (i j:Nat),j < m→rows.flatten[i*m+j]?=(rows[i]?).bind (·[j]?)
 | [],_,i,j,_=>by simp
 | r::rs,h,0,j,hj=>by
  have hr:=h r (.head _)
  rw[Nat.zero_mul,Nat.zero_add,List.flatten_cons,List.getElem?_append_left (by omega)];rfl
 | r::rs,h,i+1,j,hj=>by
  have hr:=h r (.head _)
  have e:(i+1)*m+j - r.length=i*m+j:=by rw[hr,Nat.succ_mul];omega
  rw[List.flatten_cons,List.getElem?_append_right (by rw[hr,Nat.succ_mul];omega),e,GI rs (fun x hx=>h x (.tail _ hx)) i j hj]
  rfl
theorem XN {α:Type} {m:Nat}:∀ (rows:List (List α)),(∀ r∈rows,r.length=m)→rows.flatten.length=rows.length*m
 | [],_=>by simp
 | r::rs,h=>by
  rw[List.flatten_cons,List.length_append,h r (.head _),XN rs fun x hx=>h x (.tail _ hx),List.length_cons,Nat.succ_mul];omega
section
variable {P:Program} {W:World} {t e:TypeId} {fs:Array Field} {fuel:Nat} {cs:List Value}
theorem field_lit {u:TypeId} {sp:Nat→Bool} {b:Bool} {x:DataW Unit × List MemPlace} (hu:P.underlying u=some (.int .i64)∨P.underlying u=some .string) (h:DataW.trod (fun _=>()) P W 0 sp b fuel u cs=some x):cs=[jC x.1]:=by
 rcases hu with hu|hu
 ·obtain⟨n,rfl,rfl,_⟩:=DataW.trod_int hu h;rfl
 ·obtain⟨s,rfl,rfl,_⟩:=DataW.trod_string hu h;rfl
theorem row_lits {sp:Nat→Bool} {b:Bool} {x:DataW Unit × List MemPlace} (he:P.underlying e=some (.struct fs)) (hf:∀ (i:Nat) (f:Field),fs[i]?=some f→(P.underlying f.type=some (.int .i64)∨P.underlying f.type=some .string)∧f.offset=i∧P.cellsOf f.type=1)
  (hc:P.cellsOf e=fs.size) (h:DataW.trod (fun _=>()) P W 0 sp b fuel e cs=some x):∃ ps:List (DataW Unit),x.1=.agg ps∧cs=ps.map jC∧ps.length=fs.size:=by
 obtain⟨xs,n,rfl,hx,hlc,hxl,hall⟩:=DataW.trod_struct he h
 refine ⟨xs.map (·.1),by rw[hx],?_,by simp[hxl]⟩
 apply List.ext_getElem?
 intro i
 by_cases hi:i < fs.size
 ·obtain⟨hu,ho,hc1⟩:=hf i fs[i] (by simp[hi])
  have h1:=hall i fs[i] (by simp[hi])
  obtain⟨y,hy⟩:∃ y,xs[i]?=some y:=⟨xs[i]'(by omega),List.getElem?_eq_getElem (by omega)⟩
  rw[hy,ho,hc1] at h1
  have h2:=congrArg (fun l=>l[0]?) (field_lit hu h1)
  simp only[List.getElem?_take,List.getElem?_drop,Nat.add_zero,List.getElem?_cons_zero] at h2
  rw[if_pos (by omega)] at h2
  rw[h2]
  simp[hy]
 ·rw[List.getElem?_eq_none (by omega),List.getElem?_eq_none (by simp;omega)]
theorem Gs {p:List MemPlace} {rows:List (List (DataW Unit))} {m:Nat} (ht:P.underlying t=some (.slice e)) (he:P.underlying e=some (.struct fs))
  (hf:∀ (i:Nat) (f:Field),fs[i]?=some f→(P.underlying f.type=some (.int .i64)∨P.underlying f.type=some .string)∧f.offset=i∧P.cellsOf f.type=1) (hc:P.cellsOf e=m) (hm:fs.size=m) (h0:0 < m) (hr:0 < rows.length)
  (h:DataW.trod (fun _=>()) P W 0 (fun _=>true) false fuel t cs=some (.slice (rows.map .agg) [],p)) :
  ∃ (a:Addr) (cap:Nat),cs=[.slice (some a) rows.length cap]∧a.spot=none∧Rd (YF W) (some a) (rows.map (·.map jC)).flatten:=by
 rcases DataW.trod_slice ht h with ⟨_,hx⟩|⟨a,len,cap,elems,rest,n,_,rfl,hx,hb,hl,hmx,hlen,hel,hsp,hns⟩
 ·cases hx
 ·injection hx with hx1 hx2
  injection hx1 with hx1 hx3
  have hlr:rows.length=len:=by rw[← hlen];have:=congrArg List.length hx1;simpa using this
  have each:∀ i,i < len→∃ r,rows[i]?=some r∧r.length=m∧∀ j:Nat,j < m→W.cell? (a.add (i*m+j))=(r.map jC)[j]?:=by
   intro i hi
   have h1:=hel i hi
   rw[hc,List.getElem?_eq_getElem (show i < elems.length by omega),Option.bind_eq_some_iff] at h1
   obtain⟨cs',hcs,hy⟩:=h1
   obtain⟨ps,e1,e2,e3⟩:=row_lits he hf (by omega) hy
   have h2:rows[i]?=some ps:=by
    have h3:=congrArg (fun l=>l[i]?) hx1
    simp only[List.getElem?_map,List.getElem?_eq_getElem (show i < elems.length by omega),Option.map_some,e1] at h3
    obtain⟨r,hr1,hr2⟩:=Option.map_eq_some_iff.1 h3
    injection hr2 with hr2
    rw[hr1,hr2]
   obtain⟨_,_,hcell⟩:=World.cells?_some hcs
   refine ⟨ps,h2,by omega,fun j hj=>?_⟩
   have hadd:(a.add (i*m)).add j=a.add (i*m+j):=by
    by_cases h1:i*m=0
    ·rw[h1,Nat.zero_add];simp[Addr.add]
    ·by_cases h2:j=0
     ·subst h2;simp[Addr.add]
     ·have h3:¬ i*m+j=0:=by omega
      simp[Addr.add,h1,h2,h3,Nat.add_assoc]
   have h4:=hcell j (by omega)
   rw[hadd] at h4
   rw[h4,e2]
  have hall:∀ r∈rows.map (·.map jC),r.length=m:=by
   intro r hr
   obtain⟨r0,hr0,rfl⟩:=List.mem_map.1 hr
   obtain⟨i,hi,e⟩:=List.getElem_of_mem hr0
   obtain⟨r1,g1,g2,_⟩:=each i (by omega)
   rw[List.getElem?_eq_getElem hi,e] at g1
   injection g1 with g1
   rw[List.length_map,g1];exact g2
  have hcells:∀ (j:Nat) v,(rows.map (·.map jC)).flatten[j]?=some v→W.cell? (a.add j)=some v:=by
   intro j v hv
   have hj:=(List.getElem?_eq_some_iff.1 hv).1
   rw[XN _ hall,List.length_map,hlr] at hj
   have hi:j / m < len:=Nat.div_lt_of_lt_mul (by rw[Nat.mul_comm];exact hj)
   have hmod:=Nat.mod_lt j h0
   have hdm:j / m*m+j % m=j:=by rw[Nat.mul_comm];exact Nat.div_add_mod j m
   obtain⟨r,g1,g2,g3⟩:=each (j / m) hi
   have h1:=GI _ hall (j / m) (j % m) hmod
   rw[hdm,hv,List.getElem?_map,g1] at h1
   have h2:=g3 (j % m) hmod
   rw[hdm] at h2
   rw[h2];exact h1.symm
  refine ⟨a,cap,by rw[hlr],?_,rd_base hcells⟩
  obtain⟨r,_,g2,g3⟩:=each 0 (by omega)
  have h1:=g3 0 h0
  have e0:a.add (0*m+0)=a:=by rw[Nat.zero_mul];simp[Addr.add]
  rw[e0,List.getElem?_eq_getElem (by simp;omega)] at h1
  unfold World.cell? at h1
  split at h1
  ·split at h1
   ·cases h1
   ·rename_i hs;simpa using hs
  ·cases h1
theorem gw {n:String} {g:Nat} {rows:List (List (DataW Unit))} {m:Nat} (hg:P.globalNamed n=some g) (hty:(P.globals[g]?).map (·.type)=some t) (hct:P.cellsOf t=1) (ht:P.underlying t=some (.slice e)) (he:P.underlying e=some (.struct fs))
  (hf:∀ (i:Nat) (f:Field),fs[i]?=some f→(P.underlying f.type=some (.int .i64)∨P.underlying f.type=some .string)∧f.offset=i∧P.cellsOf f.type=1) (hc:P.cellsOf e=m) (hm:fs.size=m) (h0:0 < m) (hr:0 < rows.length)
  (h:Lib.VarReads P W n (.slice (rows.map .agg) [])) :
  ∃ (a:Addr) (cap:Nat),W.cell? ⟨g,0,none⟩=some (.slice (some a) rows.length cap)∧a.spot=none∧Rd (YF W) (some a) (rows.map (·.map jC)).flatten:=by
 obtain⟨g',t',cs,fuel,p,hg',ht',hvar,hd⟩:=h
 obtain rfl:=Option.some.inj (hg.symm.trans hg')
 obtain rfl:=Option.some.inj (hty.symm.trans ht')
 have hsp:=@Gs P W t e fs fuel cs.toList p rows m ht he hf hc hm h0 hr
 obtain⟨a,cap,h1,h2,h3⟩:=hsp hd
 refine ⟨a,cap,?_,h2,h3⟩
 rw[World.var?_cell hg hvar 0]
 have:cs=#[.slice (some a) rows.length cap]:=by
  rw[← Array.toList_inj,h1]
 rw[this];rfl
end
end
section
open Go Go.RowKit Go.ChangeShapes Go.WideShapes Go.ChangeAt

theorem Jg {H:Type} {enc:TypeId × Value→H} {P:Program} {W W':World} (hl:laidOutB P=true) (hb:Below W.heap.size W W') :
  ∀ (ts:List TypeId) (vs:List Value) (ds:List (DataW H)) (ps:List MemPlace),(∀ t∈ts,P.readableRec t=true∧t < P.types.size)→(∀ p∈ps,p.block < W.heap.size) →
   DataW.TrodAll enc P W 0 (fun _=>true) true ts vs ds ps→DataW.TrodAll enc P W' 0 (fun b=>decide (b < W.heap.size)) true ts vs ds ps
 | [],[],[],ps,_,_,h=>h
 | t::ts,v::vs,d::ds,ps,ht,hp,h=>by
  obtain⟨p,q,h1,h2,rfl⟩:=h
  obtain⟨hr,hrow⟩:=ht t (by simp)
  exact⟨p,q,Below.trod hl hr hrow h1 hb (fun x hx=>hp x (by simp[hx])),Jg hl hb ts vs ds q (fun t ht'=>ht t (by simp[ht'])) (fun x hx=>hp x (by simp[hx])) h2,rfl⟩
 | [],_::_,_,_,_,_,h=>(h:False).elim
 | [],[],_::_,_,_,_,h=>(h:False).elim
 | _::_,[],_,_,_,_,h=>(h:False).elim
 | _::_,_::_,[],_,_,_,h=>(h:False).elim
theorem jP {H:Type} {enc:TypeId × Value→H} {P:Program} {W:World}:∀ (ts:List TypeId) (vs:List Value) (ds:List (DataW H)) (ps:List MemPlace),
  DataW.TrodAll enc P W 0 (fun _=>true) true ts vs ds ps→ds.length=ts.length
 | [],[],[],ps,_=>rfl
 | t::ts,v::vs,d::ds,ps,h=>by
  obtain⟨p,q,_,h2,_⟩:=h
  simp[jP ts vs ds q h2]
 | [],_::_,_,_,h=>(h:False).elim
 | [],[],_::_,_,h=>(h:False).elim
 | _::_,[],_,_,h=>(h:False).elim
 | _::_,_::_,[],_,h=>(h:False).elim

theorem post_law {H:Type} {enc:TypeId × Value→H} {P:Program} {f:Func} {s:ChangeSpec} {W W':World} {args:Array Value} {ds gs:List (DataW H)} {before:List MemPlace} {tb:TypeId}
  (hl:laidOutB P=true) (hts:∀ t∈f.params.toList,P.readableRec t=true∧t < P.types.size) (hvars:s.vars=[])
  (hfn:∀ ds:List (DataW H),ds.length=f.params.size→(s.fn H ds).results=[.lit (.bool true)]∧(s.fn H ds).args=ds∧(s.fn H ds).vars=[])
  (hrt:f.resultTypes=#[tb]) (hub:P.underlying tb=some .bool) (hW:DataW.Whole enc P f.params.toList s.vars false W args.toList ds gs before) (hb:Below W.heap.size W W') :
  s.post enc P f false true false false W args (.bool true) W':=by
 have hlt:∀ p∈before,p.block < W.heap.size:=fun p hp=>hW.lt p hp
 have hW':=hW
 obtain⟨p,q,hA,hV,rfl,hz,_⟩:=hW'
 rw[hvars] at hV
 obtain⟨rfl,rfl⟩:=trodVars_none hV
 have hlen:=jP _ _ _ _ hA
 obtain⟨h1,h2,h3⟩:=hfn ds (by simpa using hlen)
 refine ⟨ds,[],p++[],[],p,[],hW,?_,?_,?_,hb.frame _,fun h=>by cases h⟩
 ·rw[List.append_nil,h1,hrt]
  exact trodAll_mk1 (shut_bool hub true)
 ·rw[List.append_nil,h2]
  exact Jg hl hb _ _ _ _ hts (fun x hx=>hlt x (by simp[hx])) hA
 ·rw[List.append_nil,h3,hvars]
  exact rfl

theorem Jy {P:Program} {x:String × DataW Unit} {l:List (String × DataW Unit)} {w:World} (h:laidMet P (x::l) w):laidMet P l w:=by
 obtain⟨ps,hv,hn,hc⟩:=h
 obtain⟨g,t,cs,fuel,p,q,_,_,_,_,hq,rfl⟩:=hv
 exact⟨q,hq,(List.nodup_append.1 hn).2.1,fun b off hm=>hc b off (by simp[hm])⟩
end
end Go.SL
