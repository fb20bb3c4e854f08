/- A part of the proof: Lx6 Map Form1 Fz Form2 Form3 Form4 Form5. -/
import Derived.Test.YthackanffcaejaaGreatDoorM1
import Derived.Test.YthackanffcaejaaGreatDoorM2
import Derived.Test.YthackanffcaejaaGreatDoorM3
import Derived.Test.YthackanffcaejaaGreatDoorM5
import Derived.Maps.Own
import Derived.Maps.OwnSet
section
set_option linter.unusedSimpArgs false
set_option linter.unusedVariables false
set_option maxRecDepth 20000
namespace Go.Proofs.YthackanffcaejaaGreatDoor
open Go Go.RowKit Go.SL Go.ClauseP Go.LexP

theorem pieceC (text : List UInt8) (hl : text.length ≤ 1048576) (k : Nat) (hk : k < text.length) (w0 w : World) (hSig : SigE w0) (Hs : List HP) (hbm : base w0 ∈ Hs) (hS : Sat w0 w Hs) :
    Calls Tryz.prog 113 #[.string ⟨text.toArray⟩, .int .i64 k] w fun e w' => e = .returned (.tuple #[tokV (pieceT (text.drop k)).1 0, .int .i64 ((k + (pieceT (text.drop k)).2 : Nat))]) ∧ Sat w0 w' Hs := by
  obtain ⟨c, hc⟩ : ∃ c, text[k]? = some c := ⟨_, List.getElem?_eq_getElem hk⟩
  have hd : text.drop k = c :: text.drop (k + 1) := by
    rw [List.drop_eq_getElem_cons hk]
    congr 1
    simpa [List.getElem?_eq_getElem hk] using hc
  cases h1 : letP c with
  | true =>
    have h := pieceWord text hl k c hc h1 w0 w Hs hS
    have e : pieceT (text.drop k) = (tokW ((text.drop k).takeWhile ldP), ((text.drop k).takeWhile ldP).length) := by
      unfold pieceT
      rw [hd]
      simp only [h1, if_true]
    rw [e]
    exact h
  | false =>
    cases h2 : digP c with
    | true =>
      have h := pieceNum text hl k c hc h1 h2 w0 w Hs hS
      have e : pieceT (text.drop k) = ((if numM 1 ((text.drop k).takeWhile digP) < 0 then .bad 133 else .const (numM 1 ((text.drop k).takeWhile digP))), ((text.drop k).takeWhile digP).length) := by
        unfold pieceT
        rw [hd]
        simp only [h1, h2, if_true, Bool.false_eq_true, if_false]
      rw [e]
      exact h
    | false =>
      have h := pieceSign text hl k c hc h1 h2 w0 w hSig Hs hbm hS
      have e : pieceT (text.drop k) = ((match signT (text.drop k) with | some s => s.2 | none => .bad 130), (match signT (text.drop k) with | some s => s.1.length | none => 1)) := by
        unfold pieceT
        rw [hd]
        simp only [h1, h2, Bool.false_eq_true, if_false]
        cases signT (c :: text.drop (k + 1)) <;> rfl
      rw [e]
      exact h
theorem signT_len (l : List UInt8) (s : List UInt8 × Tk) (h : signT l = some s) : 0 < s.1.length ∧ s.1.length ≤ l.length := by
  unfold signT at h
  have h3 : ∀ s ∈ signs11 ++ signs10, 0 < s.1.length := by decide
  have h5 := List.find?_some h
  have h4 : s.1 <+: l := List.isPrefixOf_iff_prefix.1 h5
  exact ⟨h3 s (List.mem_of_find?_eq_some h), h4.length_le⟩
theorem pieceT_len (l : List UInt8) (h : l ≠ []) : 0 < (pieceT l).2 ∧ (pieceT l).2 ≤ l.length := by
  cases l with
  | nil => exact (h rfl).elim
  | cons c cs =>
    have hw := fun p => (List.takeWhile_sublist p (l := c :: cs)).length_le
    unfold pieceT
    dsimp only
    split
    · rename_i h1
      refine ⟨?_, hw _⟩
      rw [List.takeWhile_cons, show ldP c = true by simp [ldP, h1]]
      simp
    · split
      · rename_i h1 h2
        refine ⟨?_, hw _⟩
        rw [List.takeWhile_cons, h2]
        simp
      · split
        · rename_i s hs
          exact signT_len _ s hs
        · simp
theorem nextT_bd (text : List UInt8) (k : Nat) (hk : k ≤ text.length) : k ≤ (nextT text k).fin ∧ (nextT text k).fin ≤ text.length ∧ (nextT text k).at_ ≤ text.length := by
  obtain ⟨h1, h2⟩ := skipP_le text k hk
  unfold nextT
  split
  · exact ⟨by dsimp only; omega, by dsimp only; omega, by dsimp only; omega⟩
  · rename_i h
    have := pieceT_len (text.drop (skipP text k)) (by
      intro e
      have := congrArg List.length e
      rw [List.length_drop] at this
      simp at this
      omega)
    rw [List.length_drop] at this
    exact ⟨by dsimp only; omega, by dsimp only; omega, by dsimp only; omega⟩
set_option maxHeartbeats 1000000 in
theorem nextC (text : List UInt8) (hl : text.length ≤ 1048576) (k : Nat) (hk : k ≤ text.length) (w0 w : World) (hSig : SigE w0) (Hs : List HP) (hbm : base w0 ∈ Hs) (hS : Sat w0 w Hs) :
    Calls Tryz.prog 79 #[.string ⟨text.toArray⟩, .int .i64 k] w fun e w' => e = .returned (.tuple #[tokV (nextT text k).tk (nextT text k).at_, .int .i64 (nextT text k).fin]) ∧ Sat w0 w' Hs := by
  have SC := skipC text hl k hk w0
  obtain ⟨_, hq⟩ := skipP_le text k hk
  by_cases hend : skipP text k = text.length
  · have e : nextT text k = ⟨.fin, text.length, text.length⟩ := by unfold nextT; rw [if_pos hend]
    rw [e]
    simp only [hend] at SC
    clear e hq hend
    go_enter Tryz.func79, Tryz.ntmps79
    go_wp2_with (first | ((with_reducible apply arm_alloc hS); exact wanted_none; exact z80; clear hS; intro NB w hS; (try simp only [Act.put, q1, q2, q3])) | (go_at_call 112; refine (SC _ _ hS).mono ?_; clear hS; rintro e w ⟨rfl, hS⟩) | ((with_reducible apply arm_storeN hS); exact wanted_none; exact ev_tmp rfl; exact ev_tmp rfl; (repeat (with_reducible exact mem_hd)); rfl; (focus (simp; done)); (repeat (with_reducible exact Upd.hd)); rfl; exact sz80; rfl; clear hS; intro w hS; (try simp only [setFrom, q2, q3] at hS); (try simp only [Act.put, q1, q2, q3])))
    refine bodyPost_ret (results_cell_tmp rfl rfl rfl (hS.loadWhole (by (repeat (with_reducible exact mem_hd))) (by kernel_rfl) (by kernel_rfl))) rfl ?_
    exact ⟨rfl, hS.sb (by (repeat (with_reducible first | exact Sb.refl | apply Sb.skip)))⟩
  · have e : nextT text k = ⟨(pieceT (text.drop (skipP text k))).1, skipP text k, skipP text k + (pieceT (text.drop (skipP text k))).2⟩ := by unfold nextT; rw [if_neg hend]
    have PC := fun w Hs => pieceC text hl (skipP text k) (by omega) w0 w hSig Hs
    rw [e]
    clear e
    generalize (pieceT (text.drop (skipP text k))).1 = tk at *
    generalize skipP text k + (pieceT (text.drop (skipP text k))).2 = n at *
    generalize skipP text k = q at *
    have hne : ((q : Int) == (text.length : Int)) = false := by simp; omega
    go_enter Tryz.func79, Tryz.ntmps79
    (have tok_B4 : True := trivial; have tok_B6 : True := trivial; go_wp2_with (first | (have tokk := tok_B4; (clear tokk tok_B4); ((with_reducible apply arm_alloc hS); exact wanted_none; exact z80; clear hS; intro B4 w hS; (try simp only [Act.put, q1, q2, q3]))) | (have tokk := tok_B6; (clear tokk tok_B6); ((with_reducible apply arm_alloc hS); exact wanted_none; exact z80; clear hS; intro B6 w hS; (try simp only [Act.put, q1, q2, q3]))) | (go_at_call 112; refine (SC _ _ hS).mono ?_; clear hS; rintro e w ⟨rfl, hS⟩) | (go_at_call 113; refine (PC _ _ (by ((repeat (with_reducible apply mem_tl))); try assumption) hS).mono ?_; clear hS; rintro e w ⟨rfl, hS⟩) | ((with_reducible apply arm_loadN hS); exact wanted_none; exact ev_tmp rfl; (repeat (with_reducible exact mem_hd)); exact sz80; decide +kernel; rfl; rfl; (try simp only [Act.put, q1, q2, q3])) | ((with_reducible apply arm_store hS); exact wanted_none; exact ev_tmp rfl; exact ev_tmp rfl; (repeat (with_reducible first | exact mem_hd | apply mem_tl)); rfl; (focus (simp; done)); (repeat (with_reducible first | exact Upd.hd | apply Upd.tl)); rfl; decide +kernel; clear hS; intro w hS; (try simp only [q2, q3] at hS); (try simp only [Act.put, q1, q2, q3])) | ((with_reducible apply arm_storeN hS); exact wanted_none; exact ev_tmp rfl; exact ev_tmp rfl; (repeat (with_reducible first | exact mem_hd | apply mem_tl)); rfl; (focus (simp; done)); (repeat (with_reducible first | exact Upd.hd | apply Upd.tl)); rfl; exact sz80; rfl; clear hS; intro w hS; (try simp only [setFrom, q2, q3] at hS); (try simp only [Act.put, q1, q2, q3]))))
    refine bodyPost_ret (results_cell_tmp rfl rfl rfl (hS.loadWhole (b := B4) (t := 80) (by (repeat (with_reducible first | exact mem_hd | apply mem_tl))) (by kernel_rfl) (by kernel_rfl))) rfl ?_
    exact ⟨rfl, hS.sb (by (repeat (with_reducible first | exact Sb.refl | apply Sb.skip)))⟩
end Go.Proofs.YthackanffcaejaaGreatDoor
end
section
set_option linter.unusedVariables false
set_option linter.unusedSimpArgs false
namespace Go.SL
open Go Go.RowKit
open Go.WideElems (Fit rg)
open Go.Maps (Keyed)
open Go.ChangeShapes Go.WideShapes Go.MapKept

section
variable {P : Program} {ops : Array Oper} {Q : Exit → Act → World → Prop} {rest : List Oper} {a : Act} {w w0 : World} {Hs : List HP} {k e : TypeId} {R : Value → Option (DataW Unit × List MemPlace)} {b n : Nat} {D : DataW Unit}

def mp (P : Program) (k : TypeId) (R : Value → Option (DataW Unit × List MemPlace)) (b n : Nat) (D : DataW Unit) : HP := fun h =>
  ∃ es clock, pt b (.map es clock) h ∧ Fit P k R es clock ∧ es.size ≤ n ∧ D = .map ((es.toList.map (rg P k R)).foldr DataW.insert [])
theorem Sat.mapOwns (hS : Sat w0 w Hs) (hm : mp P k R b n D ∈ Hs) : w.ownsMap P k R b n D := by
  obtain ⟨h, ⟨es, clock, hp, F, hs, hD⟩, hw⟩ := hS.get hm
  exact ⟨es, clock, hw b _ (by rw [hp b]; simp), F, hs, hD⟩
theorem Sat.mapTurn {w' : World} {n' : Nat} {D' : DataW Unit} {Hs' : List HP} (hS : Sat w0 w Hs) (u : Upd Hs (mp P k R b n D) (mp P k R b n' D') Hs') (ho : w'.ownsMap P k R b n' D') (hg : w.grownBy w' (some b)) : Sat w0 w' Hs' := by
  refine hS.stepU u hg.os hg.tape hg.output hg.size fun g hA hw => ?_
  obtain ⟨es, clock, hp, _⟩ := hA
  obtain ⟨es', clock', hb', F', hs', hD'⟩ := ho
  refine ⟨fun c => if c = b then some (.map es' clock') else none, ⟨es', clock', fun c => rfl, F', hs', hD'⟩, fun c o hc => ?_, fun c hc => .inl ?_, fun c hlt hcn => ?_⟩
  · by_cases hcb : c = b
    · simp [hcb] at hc; subst hc; rw [hcb]; exact hb'
    · simp [hcb] at hc
  · by_cases hcb : c = b
    · rw [hp c, if_pos hcb]; simp
    · simp [hcb] at hc
  · by_cases hcb : c = b
    · rw [hp c, if_pos hcb] at hcn; cases hcn
    · exact hg.block c hlt (fun he => hcb (by cases he; rfl))
theorem run_op_makeMap {o : Oper} {t : TypeId} (ho : o.op = .makeMap t none) {ρ : Operand → Value} : (execOp ρ o).run P w = .ok (.value (.map (some w.heap.size))) (w.alloc (.map #[] 0)) := by
  simp [execOp, ho, Instr.makeMap, newObj, Sem.run]
theorem arm_makeMap (P' : Program) (k : TypeId) (R : Value → Option (DataW Unit × List MemPlace)) {dst : Option Tmp} {t : TypeId} {ty : TypeId} {pos : String} {after : Array Edge} {gd : Option (Nat × Bool)} (hS : Sat w0 w Hs)
    (hw : Region.wanted ⟨dst, .makeMap t none, ty, pos, after, gd⟩ (yielded ops a.tmps) = true)
    (K : ∀ b w', Sat w0 w' (mp P' k R b 0 (.map []) :: Hs) → wpList P ops Q rest (a.put dst (.map (some b))) w') : wpList P ops Q (⟨dst, .makeMap t none, ty, pos, after, gd⟩ :: rest) a w := by
  refine arm_val hw (run_op_makeMap rfl) (K _ _ ((hS.alloc (.map #[] 0)).turn fun g hg => ?_))
  obtain ⟨es, clock, hb, F, hs, hD⟩ := World.ownsMap_made w P' k R
  rw [(MapKept.heap_alloc w _).1] at hb
  have : es = #[] ∧ clock = 0 := by
    injection hb with h1
    injection h1 with h2 h3
    exact ⟨h2.symm, h3.symm⟩
  obtain ⟨rfl, rfl⟩ := this
  exact ⟨_, _, hg, F, hs, hD⟩
theorem run_op_mapSet {o : Oper} {t : TypeId} {m x y : Operand} (ho : o.op = .mapUpdate t m x y ∨ o.op = .insert t m x y) {ρ : Operand → Value} {w' : World} {mv xv yv : Value} (hm : ρ m = mv) (hx : ρ x = xv) (hy : ρ y = yv)
    (hr : (Instr.mapUpdate t mv xv yv).run P w = .ok () w') : (execOp ρ o).run P w = .ok .skip w' := by
  subst hm; subst hx; subst hy
  rcases ho with ho | ho <;> simp [execOp, ho, hr]
theorem arm_mapSet {o : Oper} {t : TypeId} {m x y : Operand} (hS : Sat w0 w Hs) (ho : o.op = .mapUpdate t m x y ∨ o.op = .insert t m x y)
    (hw : Region.wanted o (yielded ops a.tmps) = true) (hm : a.eval m = .map (some b)) {key val : Value} (hx : a.eval x = key) (hy : a.eval y = val) (ht : P.underlying t = some (.map k e)) (K0 : Keyed P k) (hmem : mp P k R b n D ∈ Hs) {kl : Lit} (hkey : keyOf P k key = some kl)
    {d : DataW Unit} {ps : List MemPlace} (hv : R val = some (d, ps)) (hn : n < maxLen) {D' : DataW Unit} (hD : D.put kl d = D') {Hs' : List HP} (u : Upd Hs (mp P k R b n D) (mp P k R b (n + 1) D') Hs')
    (K : ∀ w', Sat w0 w' Hs' → wpList P ops Q rest (a.put o.dst undef) w') : wpList P ops Q (o :: rest) a w := by
  subst hD
  obtain ⟨w', hr, ho', hg⟩ := (hS.mapOwns hmem).update K0 ht hn hkey hv
  exact arm_skip hw (run_op_mapSet ho hm hx hy hr) (K w' (hS.mapTurn u ho' hg))
theorem run_op_lookup {o : Oper} {t : TypeId} {m x : Operand} {ok : Bool} (ho : o.op = .lookup t m x ok) {ρ : Operand → Value} {mv xv v : Value} (hm : ρ m = mv) (hx : ρ x = xv) (hr : (Instr.lookup t mv xv ok).run P w = .ok v w) :
    (execOp ρ o).run P w = .ok (.value v) w := by
  subst hm; subst hx
  simp [execOp, ho, hr]
theorem arm_lookup {dst : Option Tmp} {t : TypeId} {m x : Operand} {ty : TypeId} {pos : String} {after : Array Edge} {gd : Option (Nat × Bool)} (hS : Sat w0 w Hs)
    (hw : Region.wanted ⟨dst, .lookup t m x false, ty, pos, after, gd⟩ (yielded ops a.tmps) = true) (hm : a.eval m = .map (some b)) {key : Value} (hx : a.eval x = key) (ht : P.underlying t = some (.map k e)) (K0 : Keyed P k) (hmem : mp P k R b n D ∈ Hs) {kl : Lit} (hkey : keyOf P k key = some kl)
    {z : Value} (hz : ∀ w, (zeroValue e).run P w = .ok z w) {zd : DataW Unit} {zp : List MemPlace} (hzd : R z = some (zd, zp))
    (K : ∀ v ps, R v = some (D.atKey kl zd, ps) → wpList P ops Q rest (a.put dst v) w) : wpList P ops Q (⟨dst, .lookup t m x false, ty, pos, after, gd⟩ :: rest) a w := by
  obtain ⟨v, ps, hr, hv⟩ := (hS.mapOwns hmem).lookup K0 ht (hz w) hzd hkey
  exact arm_val hw (run_op_lookup rfl hm hx hr) (K v ps hv)
end
end Go.SL
end
section
set_option linter.unusedSimpArgs false
set_option linter.unusedVariables false
set_option linter.unusedSectionVars false
set_option maxRecDepth 20000
namespace Go.Proofs.YthackanffcaejaaGreatDoor
open Go Go.RowKit Go.SL

def tightP (op : Int) : Int := if op = 6 then 5 else if op = 7 then 3 else if op = 8 then 4 else if op = 9 then 2 else if op = 10 then 1 else 0
def tightD : DataW Unit := .map [(.int .i64 6, .lit (.int .i64 5)), (.int .i64 7, .lit (.int .i64 3)), (.int .i64 8, .lit (.int .i64 4)), (.int .i64 9, .lit (.int .i64 2)), (.int .i64 10, .lit (.int .i64 1))]
theorem tightD_at (op : Int) : tightD.atKey (.int .i64 op) (.lit (.int .i64 0)) = .lit (.int .i64 (tightP op)) := by
  by_cases h6 : op = 6
  · subst h6; rfl
  by_cases h7 : op = 7
  · subst h7; rfl
  by_cases h8 : op = 8
  · subst h8; rfl
  by_cases h9 : op = 9
  · subst h9; rfl
  by_cases h10 : op = 10
  · subst h10; rfl
  · have e : ∀ c : Int, op ≠ c → Lit.sameKey (.int .i64 c) (.int .i64 op) = false := fun c hc => by simp [Lit.sameKey, hc, Ne.symm hc]; first | done | omega
    simp [tightD, DataW.atKey, tightP, h6, h7, h8, h9, h10, e 6 h6, e 7 h7, e 8 h8, e 9 h9, e 10 h10]
theorem zeroInt (w : World) : (zeroValue 3).run Tryz.prog w = .ok (.int .i64 0) w := by
  obtain ⟨i, hi, hz⟩ : ∃ i, Tryz.prog.info? 3 = some i ∧ i.zero = some (.int .i64 0) := by
    have h : (Tryz.prog.info? 3).bind (·.zero) = some (.int .i64 0) := by kernel_rfl
    cases hi : Tryz.prog.info? 3 with
    | none => rw [hi] at h; cases h
    | some i => rw [hi] at h; exact ⟨i, rfl, h⟩
  simp [zeroValue, typeInfo, hi, hz]
theorem tight (op : Int) (h0 : -9223372036854775808 ≤ op) (h1 : op ≤ 9223372036854775807) (w0 w : World) (Hs : List HP) (hS : Sat w0 w Hs) :
    Calls Tryz.prog 131 #[.int .i64 op] w fun e w' => e = .returned (.int .i64 (tightP op)) ∧ Sat w0 w' Hs := by
  have hwf : (Lit.int .i64 op).wf = true := by simp [Lit.wf, IntKind.min, IntKind.max, IntKind.signed, IntKind.bits]; omega
  go_enter Tryz.func131, Tryz.ntmps131
  go_wp2_with (first | ((with_reducible apply (arm_makeMap Tryz.prog 3 (plainElem Tryz.prog 3) hS)); rfl; clear hS; intro MB w hS; (try simp only [Act.put, q1, q2, q3])) | ((with_reducible apply arm_mapSet hS); (first | exact Or.inl rfl | exact Or.inr rfl); (first | with_reducible exact wanted_none | exact wanted_guard rfl rfl); (first | exact ev_tmp rfl | exact ev_const); (first | exact ev_tmp rfl | exact ev_const); (first | exact ev_tmp rfl | exact ev_const); exact Tryz.underlying219; exact (Maps.int_keyed Tryz.underlying3); (repeat (with_reducible first | exact mem_hd | apply mem_tl)); exact (Maps.keyOf_int_mk Tryz.underlying3 (by decide)); exact (plainElem_int Tryz.underlying3 (by decide)); (unfold maxLen; omega); rfl; (repeat (with_reducible first | exact Upd.hd | apply Upd.tl)); clear hS; intro w hS; (try simp only [Act.put, q1, q2, q3])) | ((with_reducible apply arm_lookup hS); (first | with_reducible exact wanted_none | exact wanted_guard rfl rfl); (first | exact ev_tmp rfl | exact ev_const); (first | exact ev_tmp rfl | exact ev_const); exact Tryz.underlying219; exact (Maps.int_keyed Tryz.underlying3); (repeat (with_reducible first | exact mem_hd | apply mem_tl)); exact (Maps.keyOf_int_mk Tryz.underlying3 hwf); exact zeroInt; exact (plainElem_int Tryz.underlying3 (by decide)); intro LV LP hlk; (try simp only [Act.put, q1, q2, q3])))
  go_ret
  obtain ⟨c, rfl, hc, _⟩ := plainElem_int_inv Tryz.underlying3 hlk
  have hd := tightD_at op
  simp only [Prod.mk.injEq] at hc
  have hc1 : tightD.atKey (.int .i64 op) (.lit (.int .i64 0)) = .lit (.int .i64 c) := hc.1
  rw [hd] at hc1
  have : tightP op = c := by simpa using hc1
  exact ⟨by rw [this]; rfl, hS.drop⟩
end Go.Proofs.YthackanffcaejaaGreatDoor
end
section
set_option linter.unusedVariables false
set_option linter.unusedSimpArgs false
namespace Go.SL
open Go Go.RowKit

abbrev Hp := Nat → Option Obj
def fz (H : Hp) : HP := fun h => ∀ b, h b = H b
def Ext (H H' : Hp) : Prop := ∀ b o, H b = some o → H' b = some o
theorem Ext.refl (H : Hp) : Ext H H := fun _ _ h => h
theorem Ext.trans {H H' H'' : Hp} (h : Ext H H') (h' : Ext H' H'') : Ext H H'' := fun b o hb => h' b o (h b o hb)
def celH (H : Hp) (b off : Nat) : Option Value := match H b with | some (.cells cs _ _) => cs[off]? | _ => none
theorem celH.ext {H H' : Hp} (h : Ext H H') {b off : Nat} {v : Value} (hv : celH H b off = some v) : celH H' b off = some v := by
  unfold celH at *
  cases hb : H b with
  | none => rw [hb] at hv; cases hv
  | some o => rw [hb] at hv; rw [h b o hb]; exact hv

section
variable {P : Program} {ops : Array Oper} {Q : Exit → Act → World → Prop} {rest : List Oper} {a : Act} {w w0 : World} {Hs R : List HP} {H : Hp}
theorem Sat.fzCell (hS : Sat w0 w Hs) (hm : fz H ∈ Hs) {b off : Nat} {v : Value} (hv : celH H b off = some v) : w.cell? ⟨b, off, none⟩ = some v := by
  obtain ⟨h, hA, hw⟩ := hS.get hm
  unfold celH at hv
  cases hb : H b with
  | none => rw [hb] at hv; cases hv
  | some o =>
    rw [hb] at hv
    have := hw b o (by rw [hA b]; exact hb)
    unfold World.cell?
    rw [this]
    cases o <;> simp_all
theorem Sat.fzBlk {b e : Nat} {cs : List Value} (hS : Sat w0 w (blk b e cs :: fz H :: R)) : ∃ H', Ext H H' ∧ H' b = some (.cells cs.toArray e (0, 0)) ∧ Sat w0 w (fz H' :: R) := by
  refine ⟨fun c => if c = b then some (.cells cs.toArray e (0, 0)) else H c, ?_, by simp, ?_⟩
  · obtain ⟨h, ⟨g, k, d, e1, hA, g2, k2, d2, e2, hF, _⟩, hw⟩ := hS.heap
    intro c o hc
    by_cases hcb : c = b
    · subst hcb
      have h1 : g c = some (.cells cs.toArray e (0, 0)) := by rw [hA c]; simp
      rcases d c with h2 | h2
      · rw [h1] at h2; cases h2
      · rw [e2 c, hF c, hc] at h2; simp at h2
    · simp [hcb, hc]
  · refine (hS.join).turn fun h ⟨g, k, d, e1, hA, hF⟩ c => ?_
    rw [e1 c]
    have h1 := hA c
    by_cases hcb : c = b
    · rw [h1]; simp [hcb]
    · rw [h1]; simp [hcb, hF c]
theorem Sat.fzNil (hS : Sat w0 w R) : Sat w0 w (fz (fun _ => none) :: R) := hS.emp fun _ => rfl
theorem arm_loadF {dst : Option Tmp} {t : TypeId} {x : Operand} {ty : TypeId} {pos : String} {after : Array Edge} {gd : Option (Nat × Bool)} (hS : Sat w0 w Hs)
    (hw : Region.wanted ⟨dst, .load t x, ty, pos, after, gd⟩ (yielded ops a.tmps) = true) {b off : Nat} (hx : a.eval x = .pointer (some ⟨b, off, none⟩)) {H : Hp} {v : Value} (hv : celH H b off = some v) (hm : fz H ∈ Hs) (ht : scalarTy P t = true)
    (K : wpList P ops Q rest (a.put dst v) w) : wpList P ops Q (⟨dst, .load t x, ty, pos, after, gd⟩ :: rest) a w :=
  arm_val hw (run_op_load rfl hx (run_loadVar1 ht (hS.fzCell hm hv))) K
end
end Go.SL
end
section
set_option linter.unusedSimpArgs false
set_option linter.unusedVariables false
set_option linter.unusedSectionVars false
set_option maxRecDepth 20000
namespace Go.Proofs.YthackanffcaejaaGreatDoor
open Go Go.RowKit Go.SL

def methodAt (P : Program) (T : TypeId) (name : String) : Option (List (TypeId × Nat × Bool) × Option (FuncId × Bool)) :=
  (P.info? T).bind fun i => (i.methods.find? (·.name == name)).map fun m => (m.path.toList.map fun s => (s.struct, s.index, s.deref), m.func)
theorem run_promoted {P : Program} {w : World} {T S ft : TypeId} {name : String} {f : FuncId} {gs : Array Field} (h : methodAt P T name = some ([(S, 0, true)], some (f, false))) (hf : fieldOff P S 0 = some 0)
    (hft : ∃ fs x, P.underlying S = some (.struct fs) ∧ fs[0]? = some x ∧ x.type = ft) (hd : P.underlying ft = some (.struct gs)) {b : Nat} {vs : List Value} (hn : sizeTy P ft = some vs.length) (ha : aggTy P ft = true)
    (hc : ∀ (j : Nat) v, vs[j]? = some v → w.cell? ⟨b, j, none⟩ = some v) (n : Nat) :
    (method (n + 1) T (.pointer (some ⟨b, 0, none⟩)) name).run P w = .ok (f, .agg vs.toArray) w := by
  unfold methodAt at h
  cases hi : P.info? T with
  | none => rw [hi] at h; cases h
  | some i =>
    rw [hi] at h
    simp only [Option.bind_some] at h
    cases hm : i.methods.find? (·.name == name) with
    | none => rw [hm] at h; cases h
    | some m =>
      rw [hm] at h
      simp only [Option.map_some, Option.some.injEq, Prod.mk.injEq] at h
      obtain ⟨hp, hfn⟩ := h
      obtain ⟨s, hs, e1, e2, e3⟩ : ∃ s : FieldStep, m.path.toList = [s] ∧ s.struct = S ∧ s.index = 0 ∧ s.deref = true := by
        cases hpl : m.path.toList with
        | nil => rw [hpl] at hp; simp at hp
        | cons s r =>
          cases r with
          | nil => rw [hpl] at hp; simp at hp; exact ⟨s, rfl, hp.1, hp.2.1, hp.2.2⟩
          | cons s2 r2 => rw [hpl] at hp; simp at hp
      obtain ⟨fs, x, hu, hx, hxt⟩ := hft
      have hl : (loadVar ft ⟨b, 0, none⟩).run P w = .ok (.agg vs.toArray) w := run_loadVarN ha hn fun j v hj => by rw [add_eq, Nat.zero_add]; exact hc j v hj
      unfold fieldOff at hf
      rw [hu] at hf
      simp only [hx, Option.bind_some] at hf
      cases hix : P.info? x.type with
      | none => rw [hix] at hf; cases hf
      | some ix =>
        rw [hix] at hf
        simp only [Option.bind_some] at hf
        split at hf
        · cases hf
        · rename_i hsz
          simp only [Option.some.injEq] at hf
          subst hxt
          simp [method, typeInfo, hi, hm, hs, follow, e1, e2, e3, run_underlying hu, hx, Place.get, asAddr, fieldPlace, sizeOf, hix, hsz, hf, hfn, receiverAt, run_underlying hd, Addr.add, hl]

theorem run_op_invoke0 {P : Program} {w : World} {o : Oper} {x : Operand} {name : String} {ts : Array TypeId} (ho : o.op = .call { callee := .invoke x name, args := #[], argTypes := ts }) {ρ : Operand → Value} {T : TypeId} {v recv : Value} (hx : ρ x = .iface T v) {f : FuncId} {fn : Func}
    (hm : ∀ n, (method (n + 1) T v name).run P w = .ok (f, recv) w) (hfn : P.funcs[f]? = some fn) (hname : (fn.name == "runtime.NumGoroutine") = false) (hbody : fn.body.isNone = false) : (execOp ρ o).run P w = .ok (.enter f #[recv]) w := by
  have hm' : (method (P.types.size + Made.depth) T v name).run P w = .ok (f, recv) w := by
    obtain ⟨n, hn⟩ : ∃ n, P.types.size + Made.depth = n + 1 := ⟨P.types.size + Made.depth - 1, by unfold Made.depth; omega⟩
    rw [hn]; exact hm n
  have hb : fn.body ≠ none := fun h => by rw [h] at hbody; simp at hbody
  have hnm : ¬ fn.name = "runtime.NumGoroutine" := by simpa using hname
  simp [execOp, ho, resolve, invoke, callMethod, hx, hm', callFunc, hfn, hnm, hb]
theorem arm_invoke0 {P : Program} {ops : Array Oper} {Q : Exit → Act → World → Prop} {rest : List Oper} {a : Act} {w w0 : World} {Hs : List HP} {dst : Option Tmp} {x : Operand} {name : String} {ts : Array TypeId} {ty : TypeId} {pos : String} {after : Array Edge} {gd : Option (Nat × Bool)}
    (hw : Region.wanted ⟨dst, .call { callee := .invoke x name, args := #[], argTypes := ts }, ty, pos, after, gd⟩ (yielded ops a.tmps) = true) {T : TypeId} {v recv : Value} (hx : a.eval x = .iface T v) {f : FuncId} {fn : Func}
    (hm : ∀ n, (method (n + 1) T v name).run P w = .ok (f, recv) w) (hfn : P.funcs[f]? = some fn) (hname : (fn.name == "runtime.NumGoroutine") = false) (hbody : fn.body.isNone = false) {r : Value}
    (hC : Calls P f #[recv] w fun e w' => e = .returned r ∧ Sat w0 w' Hs) (K : ∀ w', Sat w0 w' Hs → wpList P ops Q rest (a.put dst r) w') : wpList P ops Q (⟨dst, .call { callee := .invoke x name, args := #[], argTypes := ts }, ty, pos, after, gd⟩ :: rest) a w := by
  have hr := run_op_invoke0 (P := P) (w := w) (o := ⟨dst, .call { callee := .invoke x name, args := #[], argTypes := ts }, ty, pos, after, gd⟩) rfl hx hm hfn hname hbody
  simp only [wpList, hw, if_true, Oper.wp, hr, Oper.upon]
  exact .inl (hC.mono fun e w' ⟨he, hS'⟩ => by subst he; exact K w' hS')

theorem lookShape (l i : Int) (w0 w : World) (Hs : List HP) (hS : Sat w0 w Hs) : Calls Tryz.prog 185 #[.agg #[.int .i64 l, .int .i64 i]] w fun e w' => e = .returned (.agg #[.int .i64 l, .int .i64 i]) ∧ Sat w0 w' Hs := by
  go_enter Tryz.func185, Tryz.ntmps185
  go_wp2_with (first | ((with_reducible apply arm_box hS); exact wanted_none; exact ev_tmp rfl; exact cells_agg; clear hS; intro NB1 w hS; (try simp only [Act.put, q1, q2, q3])) | ((with_reducible apply arm_alloc hS); exact wanted_none; exact z134; clear hS; intro NB2 w hS; (try simp only [Act.put, q1, q2, q3])) | ((with_reducible apply arm_loadN hS); exact wanted_none; exact ev_tmp rfl; (repeat (with_reducible first | exact mem_hd | apply mem_tl)); exact sz134; decide +kernel; rfl; rfl; (try simp only [Act.put, q1, q2, q3])) | ((with_reducible apply arm_storeN hS); exact wanted_none; exact ev_tmp rfl; exact ev_tmp rfl; (repeat (with_reducible exact mem_hd)); rfl; (focus (simp; done)); (repeat (with_reducible exact Upd.hd)); rfl; exact sz134; rfl; clear hS; intro w hS; (try simp only [setFrom, q2, q3] at hS); (try simp only [Act.put, q1, q2, q3])))
  refine bodyPost_ret (results_cell1 rfl rfl (hS.loadWhole (by (repeat (with_reducible exact mem_hd))) (by kernel_rfl) (by kernel_rfl))) rfl ?_
  exact ⟨rfl, hS.drop.drop⟩
end Go.Proofs.YthackanffcaejaaGreatDoor
end
section
set_option linter.unusedSimpArgs false
set_option linter.unusedVariables false
set_option linter.unusedSectionVars false
set_option maxRecDepth 20000
namespace Go.Proofs.YthackanffcaejaaGreatDoor
open Go Go.RowKit Go.SL

inductive T
  | cst (n : Int) | var (v : Int) | neg (a : T) | qu (op v : Int) (a : T) | bin (op : Int) (a b : T) | ite (c a b : T)
def brkP (op side : Int) (x : T) (last : Bool) : Bool :=
  match x with
  | .qu _ _ _ => !last
  | .bin o _ _ => if op = 3 then true else if op = 9 ∧ side = 0 then decide (tightP o ≤ tightP op) else if op = 9 then decide (tightP o < tightP op) else if side = 0 then decide (tightP o < tightP op) else decide (tightP o ≤ tightP op)
  | _ => false
def cnt (op side : Int) (x : T) (last : Bool) (lk : Int × Int) : Int := if brkP op side x last then 1 + lk.1 else if last then lk.1 else lk.2
def look : T → Int × Int
  | .cst _ => (0, 0)
  | .var _ => (0, 0)
  | .neg a => (1 + cnt 3 0 a true (look a), 1 + cnt 3 0 a false (look a))
  | .qu _ _ a => (1 + (look a).1, 1 + (look a).1)
  | .bin op a b => (max (cnt op 0 a false (look a)) (cnt op 1 b true (look b)), max (cnt op 0 a false (look a)) (cnt op 1 b false (look b)))
  | .ite c a b => (1 + max (max (look c).1 (look a).1) (look b).1, 1 + max (max (look c).1 (look a).1) (look b).1)
def size : T → Nat
  | .cst _ => 1
  | .var _ => 1
  | .neg a => size a + 1
  | .qu _ _ a => size a + 1
  | .bin _ a b => size a + size b + 1
  | .ite c a b => size c + size a + size b + 1
theorem cnt_le {op side : Int} {x : T} {last : Bool} {lk : Int × Int} {n : Int} (h0 : 0 ≤ lk.1) (h1 : lk.1 ≤ n) (h2 : 0 ≤ lk.2) (h3 : lk.2 ≤ n) : 0 ≤ cnt op side x last lk ∧ cnt op side x last lk ≤ n + 1 := by
  unfold cnt; split
  · omega
  · split <;> omega
theorem look_le : ∀ t : T, 0 ≤ (look t).1 ∧ (look t).1 ≤ 2 * size t ∧ 0 ≤ (look t).2 ∧ (look t).2 ≤ 2 * size t
  | .cst _ => by simp [look, size]
  | .var _ => by simp [look, size]
  | .neg a => by
    have h := look_le a
    have h1 := cnt_le (op := 3) (side := 0) (x := a) (last := true) (lk := look a) (n := 2 * size a) h.1 h.2.1 h.2.2.1 h.2.2.2
    have h2 := cnt_le (op := 3) (side := 0) (x := a) (last := false) (lk := look a) (n := 2 * size a) h.1 h.2.1 h.2.2.1 h.2.2.2
    simp only [look, size]; omega
  | .qu _ _ a => by have h := look_le a; simp only [look, size]; omega
  | .bin op a b => by
    have h := look_le a
    have h' := look_le b
    have h1 := cnt_le (op := op) (side := 0) (x := a) (last := false) (lk := look a) (n := 2 * size a) h.1 h.2.1 h.2.2.1 h.2.2.2
    have h2 := cnt_le (op := op) (side := 1) (x := b) (last := true) (lk := look b) (n := 2 * size b) h'.1 h'.2.1 h'.2.2.1 h'.2.2.2
    have h3 := cnt_le (op := op) (side := 1) (x := b) (last := false) (lk := look b) (n := 2 * size b) h'.1 h'.2.1 h'.2.2.1 h'.2.2.2
    simp only [look, size]; omega
  | .ite c a b => by have h := look_le a; have h' := look_le b; have h'' := look_le c; simp only [look, size]; omega

def At (H : Hp) (v : Value) (K S : TypeId) (cs : List Value) : Prop := ∃ b, v = .iface K (.pointer (some ⟨b, 0, none⟩)) ∧ H b = some (.cells cs.toArray S (0, 0))
theorem At.ext {H H' : Hp} (h : Ext H H') {v : Value} {K S : TypeId} {cs : List Value} (ha : At H v K S cs) : At H' v K S cs := by
  obtain ⟨b, h1, h2⟩ := ha; exact ⟨b, h1, h _ _ h2⟩
def InT (H : Hp) : T → Value → Prop
  | .cst n, v => At H v 132 136 [.int .i64 0, .int .i64 0, .int .i64 n]
  | .var n, v => At H v 137 139 [.int .i64 0, .int .i64 0, .int .i64 n]
  | .neg a, v => ∃ va, InT H a va ∧ At H v 151 155 [.int .i64 (look (.neg a)).1, .int .i64 (look (.neg a)).2, va]
  | .qu op n a, v => ∃ va, InT H a va ∧ At H v 156 158 [.int .i64 (look (.qu op n a)).1, .int .i64 (look (.qu op n a)).2, .int .i64 op, .int .i64 n, va]
  | .bin op a b, v => ∃ va vb, InT H a va ∧ InT H b vb ∧ At H v 160 162 [.int .i64 (look (.bin op a b)).1, .int .i64 (look (.bin op a b)).2, .int .i64 op, va, vb]
  | .ite c a b, v => ∃ vc va vb, InT H c vc ∧ InT H a va ∧ InT H b vb ∧ At H v 163 165 [.int .i64 (look (.ite c a b)).1, .int .i64 (look (.ite c a b)).2, vc, va, vb]
theorem InT.ext {H H' : Hp} (h : Ext H H') : ∀ {t : T} {v : Value}, InT H t v → InT H' t v
  | .cst _, _, k => At.ext h k
  | .var _, _, k => At.ext h k
  | .neg _, _, ⟨va, k, k'⟩ => ⟨va, InT.ext h k, k'.ext h⟩
  | .qu _ _ _, _, ⟨va, k, k'⟩ => ⟨va, InT.ext h k, k'.ext h⟩
  | .bin _ _ _, _, ⟨va, vb, k1, k2, k'⟩ => ⟨va, vb, InT.ext h k1, InT.ext h k2, k'.ext h⟩
  | .ite _ _ _, _, ⟨vc, va, vb, k1, k2, k3, k'⟩ => ⟨vc, va, vb, InT.ext h k1, InT.ext h k2, InT.ext h k3, k'.ext h⟩

def Kind (K S : TypeId) : Prop := methodAt Tryz.prog K "strata/formula.look" = some ([(S, 0, true)], some (185, false)) ∧ fieldOff Tryz.prog S 0 = some 0 ∧ ∃ fs x, Tryz.prog.underlying S = some (.struct fs) ∧ fs[0]? = some x ∧ x.type = 134
theorem kCst : Kind 132 136 := ⟨by kernel_rfl, by kernel_rfl, _, _, Tryz.underlying136, rfl, rfl⟩
theorem kVar : Kind 137 139 := ⟨by kernel_rfl, by kernel_rfl, _, _, Tryz.underlying139, rfl, rfl⟩
theorem kNeg : Kind 151 155 := ⟨by kernel_rfl, by kernel_rfl, _, _, Tryz.underlying155, rfl, rfl⟩
theorem kQu : Kind 156 158 := ⟨by kernel_rfl, by kernel_rfl, _, _, Tryz.underlying158, rfl, rfl⟩
theorem kBin : Kind 160 162 := ⟨by kernel_rfl, by kernel_rfl, _, _, Tryz.underlying162, rfl, rfl⟩
theorem kIte : Kind 163 165 := ⟨by kernel_rfl, by kernel_rfl, _, _, Tryz.underlying165, rfl, rfl⟩
theorem InT.head {H : Hp} {t : T} {v : Value} (h : InT H t v) : ∃ K S cs, Kind K S ∧ At H v K S cs ∧ cs[0]? = some (.int .i64 (look t).1) ∧ cs[1]? = some (.int .i64 (look t).2) := by
  cases t with
  | cst n => exact ⟨_, _, _, kCst, h, rfl, rfl⟩
  | var n => exact ⟨_, _, _, kVar, h, rfl, rfl⟩
  | neg a => obtain ⟨_, _, h⟩ := h; exact ⟨_, _, _, kNeg, h, rfl, rfl⟩
  | qu op n a => obtain ⟨_, _, h⟩ := h; exact ⟨_, _, _, kQu, h, rfl, rfl⟩
  | bin op a b => obtain ⟨_, _, _, _, h⟩ := h; exact ⟨_, _, _, kBin, h, rfl, rfl⟩
  | ite c a b => obtain ⟨_, _, _, _, _, _, h⟩ := h; exact ⟨_, _, _, kIte, h, rfl, rfl⟩
theorem arm_look {ops : Array Oper} {Q : Exit → Act → World → Prop} {rest : List Oper} {a : Act} {w w0 : World} {Hs : List HP} {dst : Option Tmp} {x : Operand} {ts : Array TypeId} {ty : TypeId} {pos : String} {after : Array Edge} {gd : Option (Nat × Bool)} (hS : Sat w0 w Hs)
    (hw : Region.wanted ⟨dst, .call { callee := .invoke x "strata/formula.look", args := #[], argTypes := ts }, ty, pos, after, gd⟩ (yielded ops a.tmps) = true) {v : Value} (hx : a.eval x = v) {H : Hp} {t : T} (hT : InT H t v) (hm : fz H ∈ Hs)
    (K : ∀ w', Sat w0 w' Hs → wpList Tryz.prog ops Q rest (a.put dst (.agg #[.int .i64 (look t).1, .int .i64 (look t).2])) w') :
    wpList Tryz.prog ops Q (⟨dst, .call { callee := .invoke x "strata/formula.look", args := #[], argTypes := ts }, ty, pos, after, gd⟩ :: rest) a w := by
  obtain ⟨Kd, S, cs, hk, ⟨b, rfl, hb⟩, e0, e1⟩ := hT.head
  have c0 : w.cell? ⟨b, 0, none⟩ = some (.int .i64 (look t).1) := hS.fzCell hm (by simpa [celH, hb] using e0)
  have c1 : w.cell? ⟨b, 1, none⟩ = some (.int .i64 (look t).2) := hS.fzCell hm (by simpa [celH, hb] using e1)
  refine arm_invoke0 hw hx (recv := .agg #[.int .i64 (look t).1, .int .i64 (look t).2]) (fun n => run_promoted hk.1 hk.2.1 hk.2.2 Tryz.underlying134 (vs := [.int .i64 (look t).1, .int .i64 (look t).2]) (by kernel_rfl) (by kernel_rfl) (fun j u hj => ?_) n)
    Tryz.func185 (by kernel_rfl) (by kernel_rfl) (lookShape _ _ w0 w Hs hS) K
  match j, hj with
  | 0, hj => simp at hj; subst hj; exact c0
  | 1, hj => simp at hj; subst hj; exact c1
end Go.Proofs.YthackanffcaejaaGreatDoor
end
section
set_option linter.unusedSimpArgs false
set_option linter.unusedVariables false
set_option linter.unusedSectionVars false
set_option maxRecDepth 20000
namespace Go.Proofs.YthackanffcaejaaGreatDoor
open Go Go.RowKit Go.SL

def i64 (n : Int) : Prop := -9223372036854775808 ≤ n ∧ n ≤ 9223372036854775807
def opsOk : T → Prop
  | .bin op _ _ => i64 op
  | _ => True
set_option maxHeartbeats 1000000 in
theorem bracketed (op side : Int) (hop : i64 op) (t : T) (ht : opsOk t) (last : Bool) (v : Value) (H : Hp) (hT : InT H t v) (w0 w : World) (Hs : List HP) (hS : Sat w0 w Hs) (hm : fz H ∈ Hs) :
    Calls Tryz.prog 111 #[.int .i64 op, .int .i64 side, v, .bool last] w fun e w' => e = .returned (.bool (brkP op side t last)) ∧ Sat w0 w' Hs := by
  unfold i64 at hop
  cases t with
  | cst n =>
    obtain ⟨b, rfl, hb⟩ := hT
    go_enter Tryz.func111, Tryz.ntmps111
    go_wp2_with ((with_reducible apply arm_assertN); exact wanted_none; exact ev_tmp rfl; (decide); (with_reducible first | exact Tryz.underlying156 | exact Tryz.underlying160); kernel_rfl; (try simp only [Act.put, q1, q2, q3]))
    go_ret
    exact ⟨rfl, hS⟩
  | var n =>
    obtain ⟨b, rfl, hb⟩ := hT
    go_enter Tryz.func111, Tryz.ntmps111
    go_wp2_with ((with_reducible apply arm_assertN); exact wanted_none; exact ev_tmp rfl; (decide); (with_reducible first | exact Tryz.underlying156 | exact Tryz.underlying160); kernel_rfl; (try simp only [Act.put, q1, q2, q3]))
    go_ret
    exact ⟨rfl, hS⟩
  | neg n =>
    obtain ⟨_, _, b, rfl, hb⟩ := hT
    go_enter Tryz.func111, Tryz.ntmps111
    go_wp2_with ((with_reducible apply arm_assertN); exact wanted_none; exact ev_tmp rfl; (decide); (with_reducible first | exact Tryz.underlying156 | exact Tryz.underlying160); kernel_rfl; (try simp only [Act.put, q1, q2, q3]))
    go_ret
    exact ⟨rfl, hS⟩
  | ite _ _ _ =>
    obtain ⟨_, _, _, _, _, _, b, rfl, hb⟩ := hT
    go_enter Tryz.func111, Tryz.ntmps111
    go_wp2_with ((with_reducible apply arm_assertN); exact wanted_none; exact ev_tmp rfl; (decide); (with_reducible first | exact Tryz.underlying156 | exact Tryz.underlying160); kernel_rfl; (try simp only [Act.put, q1, q2, q3]))
    go_ret
    exact ⟨rfl, hS⟩
  | qu o n a =>
    obtain ⟨_, _, b, rfl, hb⟩ := hT
    go_enter Tryz.func111, Tryz.ntmps111
    go_wp2_with ((with_reducible apply arm_assertY); exact wanted_none; exact ev_tmp rfl; exact Tryz.underlying156; (try simp only [Act.put, q1, q2, q3]))
    go_ret
    exact ⟨rfl, hS⟩
  | bin o x y =>
    obtain ⟨va, vb, _, _, b, rfl, hb⟩ := hT
    have ho : i64 o := ht
    unfold i64 at ho
    have c2 : celH H b 2 = some (.int .i64 o) := by simp [celH, hb]
    clear hb
    obtain ⟨t1, ht1⟩ : ∃ t1, t1 = tightP o := ⟨_, rfl⟩
    obtain ⟨t2, ht2⟩ : ∃ t2, t2 = tightP op := ⟨_, rfl⟩
    have TO := tight o ho.1 ho.2
    have TP := tight op hop.1 hop.2
    rw [← ht1] at TO
    rw [← ht2] at TP
    have hbp : brkP op side (.bin o x y) last = if op = 3 then true else if op = 9 ∧ side = 0 then decide (t1 ≤ t2) else if op = 9 then decide (t1 < t2) else if side = 0 then decide (t1 < t2) else decide (t1 ≤ t2) := by simp only [brkP, ht1, ht2]
    obtain ⟨B0, hB0⟩ : ∃ B0, B0 = brkP op side (.bin o x y) last := ⟨_, rfl⟩
    rw [← hB0] at hbp ⊢
    have HB := hid hbp
    clear hbp hB0 ht1 ht2
    go_enter Tryz.func111, Tryz.ntmps111
    go_wp2_with (first | ((with_reducible apply arm_assertY); exact wanted_none; exact ev_tmp rfl; exact Tryz.underlying160; (try simp only [Act.put, q1, q2, q3])) | ((with_reducible apply arm_assertN); exact wanted_none; exact ev_tmp rfl; (decide); exact Tryz.underlying156; kernel_rfl; (try simp only [Act.put, q1, q2, q3])) | ((with_reducible apply arm_loadF hS); exact wanted_none; exact ev_tmp rfl; assumption; (((repeat (with_reducible apply mem_tl))); (try assumption)); decide +kernel; (try simp only [Act.put, q1, q2, q3])) | (go_at_call 131; (first | with_reducible refine (TO _ _ _ hS).mono ?_ | with_reducible refine (TP _ _ _ hS).mono ?_); clear hS; rintro e w ⟨rfl, hS⟩))
    all_goals (go_ret; refine ⟨?_, hS⟩; have hb := HB.out; clear HB TO TP c2 hS hop ho ht hm; subst hb; simp_all)

theorem counts (op side : Int) (hop : i64 op) (t : T) (ht : opsOk t) (hsz : size t ≤ 1000000) (last : Bool) (v : Value) (H : Hp) (hT : InT H t v) (w0 w : World) (Hs : List HP) (hS : Sat w0 w Hs) (hm : fz H ∈ Hs) :
    Calls Tryz.prog 107 #[.int .i64 op, .int .i64 side, v, .bool last] w fun e w' => e = .returned (.int .i64 (cnt op side t last (look t))) ∧ Sat w0 w' Hs := by
  obtain ⟨l1, l2, l3, l4⟩ := look_le t
  have BR := bracketed op side hop t ht last v H hT
  have hc : cnt op side t last (look t) = if brkP op side t last then 1 + (look t).1 else if last then (look t).1 else (look t).2 := rfl
  rw [hc]
  clear hc
  generalize brkP op side t last = b0 at *
  cases b0 <;> cases last
  all_goals
    simp only [if_true, if_false, Bool.false_eq_true]
    go_enter Tryz.func107, Tryz.ntmps107
    go_wp2_with (first | (go_at_call 111; refine (BR _ _ _ hS hm).mono ?_; clear hS; rintro e w ⟨rfl, hS⟩) | ((with_reducible apply arm_look hS); rfl; exact ev_tmp rfl; assumption; assumption; clear hS; intro w hS; (try simp only [Act.put, q1, q2, q3])) | ((with_reducible apply arm_field1); exact wanted_none; exact ev_tmp rfl; (with_reducible first | exact fc134_0 | exact fc134_1); rfl; (try simp only [Act.put, q1, q2, q3])))
    go_ret
    exact ⟨rfl, hS⟩
end Go.Proofs.YthackanffcaejaaGreatDoor
end
section
set_option linter.unusedSimpArgs false
set_option linter.unusedVariables false
set_option linter.unusedSectionVars false
set_option maxRecDepth 20000
namespace Go.Proofs.YthackanffcaejaaGreatDoor
open Go Go.RowKit Go.SL

theorem InT.form {H : Hp} {t : T} {v : Value} (h : InT H t v) : ∃ K b, v = .iface K (.pointer (some ⟨b, 0, none⟩)) := by
  obtain ⟨K, S, cs, _, ⟨b, rfl, _⟩, _⟩ := h.head; exact ⟨K, b, rfl⟩
theorem notM (a : T) (ha : opsOk a) (hsz : size a ≤ 1000000) (va : Value) (H : Hp) (hT : InT H a va) (w0 w : World) (R : List HP) (hS : Sat w0 w (fz H :: R)) :
    Calls Tryz.prog 69 #[va] w fun e w' => ∃ v, e = .returned v ∧ ∃ H', Ext H H' ∧ InT H' (.neg a) v ∧ Sat w0 w' (fz H' :: R) := by
  obtain ⟨l1, l2, l3, l4⟩ := look_le a
  obtain ⟨Ka, ba, rfl⟩ := hT.form
  have C1 := counts 3 0 (by unfold i64; omega) a ha hsz true _ H hT
  have C2 := counts 3 0 (by unfold i64; omega) a ha hsz false _ H hT
  have b1 := cnt_le (op := 3) (side := 0) (x := a) (last := true) (lk := look a) (n := 2 * size a) l1 (by omega) l3 (by omega)
  have b2 := cnt_le (op := 3) (side := 0) (x := a) (last := false) (lk := look a) (n := 2 * size a) l1 (by omega) l3 (by omega)
  have e1 : (look (.neg a)).1 = 1 + cnt 3 0 a true (look a) := rfl
  have e2 : (look (.neg a)).2 = 1 + cnt 3 0 a false (look a) := rfl
  generalize cnt 3 0 a true (look a) = n1 at *
  generalize cnt 3 0 a false (look a) = n2 at *
  have E1 := hid e1
  have E2 := hid e2
  clear e1 e2
  go_enter Tryz.func69, Tryz.ntmps69
  go_wp2_with (first | (go_at_call 107; (first | with_reducible refine (C1 _ _ _ hS (by ((repeat (with_reducible exact mem_hd)); (try assumption)))).mono ?_ | with_reducible refine (C2 _ _ _ hS (by ((repeat (with_reducible exact mem_hd)); (try assumption)))).mono ?_); clear hS; rintro e w ⟨rfl, hS⟩) | ((with_reducible apply arm_box hS); exact wanted_none; exact ev_tmp rfl; exact cells_agg; clear hS; intro NB w hS; (try simp only [Act.put, q1, q2, q3])))
  go_ret
  rw [← E1.out, ← E2.out] at hS
  obtain ⟨H', x1, x2, hS⟩ := hS.fzBlk
  exact ⟨_, rfl, H', x1, ⟨_, hT.ext x1, _, rfl, x2⟩, hS⟩
theorem quantifyM (op n : Int) (a : T) (hsz : size a ≤ 1000000) (va : Value) (H : Hp) (hT : InT H a va) (w0 w : World) (R : List HP) (hS : Sat w0 w (fz H :: R)) :
    Calls Tryz.prog 70 #[.int .i64 op, .int .i64 n, va] w fun e w' => ∃ v, e = .returned v ∧ ∃ H', Ext H H' ∧ InT H' (.qu op n a) v ∧ Sat w0 w' (fz H' :: R) := by
  obtain ⟨l1, l2, l3, l4⟩ := look_le a
  obtain ⟨Ka, ba, rfl⟩ := hT.form
  have e1 : (look (.qu op n a)).1 = 1 + (look a).1 := rfl
  have e2 : (look (.qu op n a)).2 = 1 + (look a).1 := rfl
  have E1 := hid e1
  have E2 := hid e2
  clear e1 e2
  go_enter Tryz.func70, Tryz.ntmps70
  go_wp2_with (first | ((with_reducible apply arm_look hS); rfl; exact ev_tmp rfl; assumption; (repeat (with_reducible exact mem_hd)); clear hS; intro w hS; (try simp only [Act.put, q1, q2, q3])) | ((with_reducible apply arm_field1); exact wanted_none; exact ev_tmp rfl; exact fc134_0; rfl; (try simp only [Act.put, q1, q2, q3])) | ((with_reducible apply arm_box hS); exact wanted_none; exact ev_tmp rfl; exact cells_agg; clear hS; intro NB w hS; (try simp only [Act.put, q1, q2, q3])))
  go_ret
  rw [show Value.int .i64 (1 + (look a).1) = .int .i64 (look (.qu op n a)).1 by rw [E1.out]] at hS
  obtain ⟨H', x1, x2, hS⟩ := hS.fzBlk
  exact ⟨_, rfl, H', x1, ⟨_, hT.ext x1, _, rfl, by rw [E2.out, ← E1.out]; exact x2⟩, hS⟩
theorem joinM (op : Int) (hop : i64 op) (a b : T) (ha : opsOk a) (hb : opsOk b) (hsz : size a ≤ 1000000) (hsz2 : size b ≤ 1000000) (va vb : Value) (H : Hp) (hT : InT H a va) (hT2 : InT H b vb) (w0 w : World) (R : List HP) (hS : Sat w0 w (fz H :: R)) :
    Calls Tryz.prog 71 #[.int .i64 op, va, vb] w fun e w' => ∃ v, e = .returned v ∧ ∃ H', Ext H H' ∧ InT H' (.bin op a b) v ∧ Sat w0 w' (fz H' :: R) := by
  obtain ⟨l1, l2, l3, l4⟩ := look_le a
  obtain ⟨m1, m2, m3, m4⟩ := look_le b
  obtain ⟨Ka, ba, rfl⟩ := hT.form
  obtain ⟨Kb, bb, rfl⟩ := hT2.form
  have C1 := counts op 0 hop a ha hsz false _ H hT
  have C2 := counts op 1 hop b hb hsz2 true _ H hT2
  have C3 := counts op 1 hop b hb hsz2 false _ H hT2
  have b1 := cnt_le (op := op) (side := 0) (x := a) (last := false) (lk := look a) (n := 2 * size a) l1 (by omega) l3 (by omega)
  have b2 := cnt_le (op := op) (side := 1) (x := b) (last := true) (lk := look b) (n := 2 * size b) m1 (by omega) m3 (by omega)
  have b3 := cnt_le (op := op) (side := 1) (x := b) (last := false) (lk := look b) (n := 2 * size b) m1 (by omega) m3 (by omega)
  have e1 : (look (.bin op a b)).1 = max (cnt op 0 a false (look a)) (cnt op 1 b true (look b)) := rfl
  have e2 : (look (.bin op a b)).2 = max (cnt op 0 a false (look a)) (cnt op 1 b false (look b)) := rfl
  generalize cnt op 0 a false (look a) = n1 at *
  generalize cnt op 1 b true (look b) = n2 at *
  generalize cnt op 1 b false (look b) = n3 at *
  have E1 := hid e1
  have E2 := hid e2
  clear e1 e2
  go_enter Tryz.func71, Tryz.ntmps71
  go_wp2_with (first | (go_at_call 107; (first | with_reducible refine (C1 _ _ _ hS (by ((repeat (with_reducible exact mem_hd)); (try assumption)))).mono ?_ | with_reducible refine (C2 _ _ _ hS (by ((repeat (with_reducible exact mem_hd)); (try assumption)))).mono ?_ | with_reducible refine (C3 _ _ _ hS (by ((repeat (with_reducible exact mem_hd)); (try assumption)))).mono ?_); clear hS; rintro e w ⟨rfl, hS⟩) | ((with_reducible apply arm_box hS); exact wanted_none; exact ev_tmp rfl; exact cells_agg; clear hS; intro NB w hS; (try simp only [Act.put, q1, q2, q3])))
  go_ret
  rw [← E1.out, ← E2.out] at hS
  obtain ⟨H', x1, x2, hS⟩ := hS.fzBlk
  exact ⟨_, rfl, H', x1, ⟨_, _, hT.ext x1, hT2.ext x1, _, rfl, x2⟩, hS⟩
theorem iteM (c a b : T) (hsz0 : size c ≤ 1000000) (hsz : size a ≤ 1000000) (hsz2 : size b ≤ 1000000) (vc va vb : Value) (H : Hp) (hT0 : InT H c vc) (hT : InT H a va) (hT2 : InT H b vb) (w0 w : World) (R : List HP) (hS : Sat w0 w (fz H :: R)) :
    Calls Tryz.prog 72 #[vc, va, vb] w fun e w' => ∃ v, e = .returned v ∧ ∃ H', Ext H H' ∧ InT H' (.ite c a b) v ∧ Sat w0 w' (fz H' :: R) := by
  obtain ⟨k1, k2, k3, k4⟩ := look_le c
  obtain ⟨l1, l2, l3, l4⟩ := look_le a
  obtain ⟨m1, m2, m3, m4⟩ := look_le b
  obtain ⟨Kc, bc, rfl⟩ := hT0.form
  obtain ⟨Ka, ba, rfl⟩ := hT.form
  obtain ⟨Kb, bb, rfl⟩ := hT2.form
  have e1 : (look (.ite c a b)).1 = 1 + max (max (look c).1 (look a).1) (look b).1 := rfl
  have e2 : (look (.ite c a b)).2 = 1 + max (max (look c).1 (look a).1) (look b).1 := rfl
  have hmx : 0 ≤ max (max (look c).1 (look a).1) (look b).1 ∧ max (max (look c).1 (look a).1) (look b).1 ≤ 2000000 := by omega
  have E1 := hid e1
  have E2 := hid e2
  clear e1 e2
  go_enter Tryz.func72, Tryz.ntmps72
  go_wp2_with (first | ((with_reducible apply arm_look hS); rfl; exact ev_tmp rfl; (first | exact hT0 | exact hT | exact hT2); (repeat (with_reducible exact mem_hd)); clear hS; intro w hS; (try simp only [Act.put, q1, q2, q3])) | ((with_reducible apply arm_field1); exact wanted_none; exact ev_tmp rfl; exact fc134_0; rfl; (try simp only [Act.put, q1, q2, q3])) | ((with_reducible apply arm_box hS); exact wanted_none; exact ev_tmp rfl; exact cells_agg; clear hS; intro NB w hS; (try simp only [Act.put, q1, q2, q3])))
  all_goals
    go_ret
    have hX : (1 + if (if (look c).1 < (look a).1 then (look a).1 else (look c).1) < (look b).1 then (look b).1 else if (look c).1 < (look a).1 then (look a).1 else (look c).1) = (look (.ite c a b)).1 := by
      rw [E1.out]
      clear E1 E2 hS hT0 hT hT2
      (repeat' split) <;> omega
    rw [hX] at hS
    obtain ⟨H', x1, x2, hS⟩ := hS.fzBlk
    exact ⟨_, rfl, H', x1, ⟨_, _, _, hT0.ext x1, hT.ext x1, hT2.ext x1, _, rfl, by rw [E2.out, ← E1.out]; exact x2⟩, hS⟩
end Go.Proofs.YthackanffcaejaaGreatDoor
end
