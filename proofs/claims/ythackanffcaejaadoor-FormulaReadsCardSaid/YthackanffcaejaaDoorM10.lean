/- A part of the proof: Rd2 FzC Lv10. -/
import Derived.Test.YthackanffcaejaaDoorM1
import Derived.Test.YthackanffcaejaaDoorM5
import Derived.Test.YthackanffcaejaaDoorM6
import Derived.Test.YthackanffcaejaaDoorM8
section
set_option linter.unusedSimpArgs false
set_option linter.unusedVariables false
namespace Go.Proofs.YthackanffcaejaaDoor
open Go Go.RowKit Go.SL Go.ClauseP Go.LexP

theorem pieceT_le (l : List UInt8) : (pieceT l).2 ≤ l.length := by
  unfold pieceT
  split
  · simp
  · rename_i c cs
    split
    · exact (List.takeWhile_sublist _).length_le
    · split
      · exact (List.takeWhile_sublist _).length_le
      · split
        · rename_i s hs
          have h := List.find?_some hs
          exact (List.isPrefixOf_iff_prefix.1 h).length_le
        · simp
theorem nextT_le (text : List UInt8) (k : Nat) (hk : k ≤ text.length) : (nextT text k).fin ≤ text.length := by
  have h1 := skipP_len text k hk
  unfold nextT
  split
  · exact Nat.le_refl _
  · dsimp only
    have h2 := pieceT_le (text.drop (skipP text k))
    rw [List.length_drop] at h2
    omega
theorem advL {text : List UInt8} {p : Ps} {e : Int × Nat} (h : advP text p = .inl e) : ∃ c, (nextT text p.fin).tk = .bad c ∧ e = (c, (nextT text p.fin).at_) := by
  unfold advP at h
  split at h
  · rename_i c hc
    exact ⟨c, hc, by injection h with h; exact h.symm⟩
  · cases h
theorem advR {text : List UInt8} {p q : Ps} (h : advP text p = .inr q) : tokR q = nextT text p.fin ∧ q.opn = p.opn ∧ q.nds = p.nds ∧ ∀ e, q.tk ≠ .bad e := by
  unfold advP at h
  split at h
  · cases h
  · rename_i hne
    injection h with h
    subst h
    exact ⟨rfl, rfl, rfl, hne⟩
theorem adv_run {text : List UInt8} {p : Ps} {e : Int × Nat} (h : advP text p = .inl e) (m : MS) (w q : Int) : MRun text m w q (nextT text p.fin) (.inl e) := by
  obtain ⟨c, hc, rfl⟩ := advL h
  exact .err (by rw [hc]; rfl)
theorem adv_Ok {text : List UInt8} {p q : Ps} (hf : p.fin ≤ text.length) (ho : p.opn ≤ 64) (hn : p.nds ≤ 65536) (h : advP text p = .inr q) : Ok text q := by
  obtain ⟨h1, h2, h3, h4⟩ := advR h
  have e1 : q.tk = (nextT text p.fin).tk := congrArg TokR.tk h1
  have e2 : q.fin = (nextT text p.fin).fin := congrArg TokR.fin h1
  refine ⟨?_, by omega, by omega, by rw [e2]; exact nextT_le text p.fin hf, fun hk => ?_⟩
  · rcases nextT_ok text p.fin with h | ⟨e, h⟩
    · rw [e1]; exact h
    · exact (h4 e (e1.trans h)).elim
  · rw [e2]
    exact nextT_fin text p.fin hf (e1 ▸ hk)
theorem knd_opn {t : Tk} (h : tkOk t) : (tokE t).1 = 9 ↔ t = .opn := by cases t <;> simp [tokE, tkOk] at * <;> omega
theorem knd_cls {t : Tk} (h : tkOk t) : (tokE t).1 = 10 ↔ t = .cls := by cases t <;> simp [tokE, tkOk] at * <;> omega
theorem knd_comma {t : Tk} (h : tkOk t) : (tokE t).1 = 11 ↔ t = .comma := by cases t <;> simp [tokE, tkOk] at * <;> omega
theorem knd_colon {t : Tk} (h : tkOk t) : (tokE t).1 = 12 ↔ t = .colon := by cases t <;> simp [tokE, tkOk] at * <;> omega
theorem knd_fin {t : Tk} (h : tkOk t) : (tokE t).1 = 0 ↔ t = .fin := by cases t <;> simp [tokE, tkOk] at * <;> omega
theorem knd_op {t : Tk} (h : tkOk t) {b : Nat} (hb : b = 1 ∨ b = 3 ∨ b = 4 ∨ b = 5) : (tokE t).1 = kOf b ↔ t = .op (oOf b) := by
  rcases hb with rfl | rfl | rfl | rfl <;> cases t <;> simp [tokE, tkOk, kOf, oOf] at * <;> omega
theorem knd_imp {t : Tk} (h : tkOk t) : (tokE t).1 = 7 ↔ t = .op 9 := by cases t <;> simp [tokE, tkOk] at * <;> omega

/-! ### One step -/
theorem go_run {text : List UInt8} {m m' : MS} {w q w' q' : Int} {p p' : Ps} {r : Ans} (hs : mstep m w q p.tk = .go m' w' q') (ht : tokR p' = nextT text p.fin) (h : MRun text m' w' q' (tokR p') r) : MRun text m w q (tokR p) r :=
  .go hs (by rw [ht] at h; exact h)
theorem err_run {text : List UInt8} {m : MS} {w q : Int} {p : Ps} {e : Int} (hs : mstep m w q p.tk = .err e) : MRun text m w q (tokR p) (.inl (e, p.at_)) := .err (t := tokR p) hs
def Step (text : List UInt8) (m : MS) (w q : Int) (p : Ps) (m' : Ps → MS) (w' q' : Int) (dn : Nat) (dk : Nat) : Rp → Prop
  | .inl e => MRun text m w q (tokR p) (.inl e)
  | .inr p' => Ok text p' ∧ p'.opn = p.opn + dn ∧ p'.nds = p.nds + dk ∧ ∀ r, MRun text (m' p') w' q' (tokR p') r → MRun text m w q (tokR p) r
theorem adv_step {text : List UInt8} {m m' : MS} {w q w' q' : Int} {p : Ps} (hp : Ok text p) (hs : mstep m w q p.tk = .go m' w' q') : Step text m w q p (fun _ => m') w' q' 0 0 (advP text p) := by
  cases h : advP text p with
  | inl e => exact .go hs (adv_run h _ _ _)
  | inr p' =>
    obtain ⟨h1, h2, h3, _⟩ := advR h
    exact ⟨adv_Ok hp.2.2.2.1 hp.2.1 hp.2.2.1 h, h2, h3, fun r hr => go_run hs h1 hr⟩
theorem makes_step {text : List UInt8} {m : MS} {w q w' q' : Int} {p : Ps} {g : MS → MS} (hp : Ok text p) (hn : m.nds = p.nds) (hs : mstep m w q p.tk = makesM m fun m => .go (g m) w' q') :
    Step text m w q p (fun p' => g ⟨m.st, m.out, m.opn, p'.nds⟩) w' q' 0 1 (thenP (makesP p) (advP text)) := by
  unfold makesP
  by_cases h : p.nds = 65536
  · rw [if_pos h]
    refine err_run ?_
    rw [hs, makesM, if_pos (by omega)]
  · rw [if_neg h]
    have hs2 : mstep m w q p.tk = .go (g ⟨m.st, m.out, m.opn, m.nds + 1⟩) w' q' := by rw [hs, makesM, if_neg (by have := hp.2.2.1; omega)]
    show Step _ _ _ _ _ _ _ _ _ _ (advP text { p with nds := p.nds + 1 })
    cases ha : advP text { p with nds := p.nds + 1 } with
    | inl e => exact .go hs2 (adv_run ha _ _ _)
    | inr p' =>
      obtain ⟨h1, h2, h3, _⟩ := advR ha
      refine ⟨adv_Ok (p := { p with nds := p.nds + 1 }) hp.2.2.2.1 hp.2.1 (by dsimp only; have := hp.2.2.1; omega) ha, h2, h3, fun r hr => go_run hs2 h1 ?_⟩
      rw [hn, show p.nds + 1 = p'.nds from h3.symm]
      exact hr
theorem opens_step {text : List UInt8} {m : MS} {w q w' q' : Int} {p : Ps} {x : Wt} (hp : Ok text p) (hn : m.opn = p.opn) (hs : mstep m w q p.tk = opensM m x fun m => .go m w' q') :
    Step text m w q p (fun p' => ⟨x :: m.st, m.out, p'.opn, m.nds⟩) w' q' 1 0 (thenP (opensP p) (advP text)) := by
  unfold opensP
  by_cases h : p.opn = 64
  · rw [if_pos h]
    refine err_run ?_
    rw [hs, opensM, if_pos (by omega)]
  · rw [if_neg h]
    have hs2 : mstep m w q p.tk = .go ⟨x :: m.st, m.out, m.opn + 1, m.nds⟩ w' q' := by rw [hs, opensM, if_neg (by have := hp.2.1; omega)]
    show Step _ _ _ _ _ _ _ _ _ _ (advP text { p with opn := p.opn + 1 })
    cases ha : advP text { p with opn := p.opn + 1 } with
    | inl e => exact .go hs2 (adv_run ha _ _ _)
    | inr p' =>
      obtain ⟨h1, h2, h3, _⟩ := advR ha
      refine ⟨adv_Ok (p := { p with opn := p.opn + 1 }) hp.2.2.2.1 (by dsimp only; have := hp.2.1; omega) hp.2.2.1 ha, h2, h3, fun r hr => go_run hs2 h1 ?_⟩
      rw [hn, show p.opn + 1 = p'.opn from h2.symm]
      exact hr
theorem both_step {text : List UInt8} {m : MS} {w q w' q' : Int} {p : Ps} {x : Wt} (hp : Ok text p) (hn : m.opn = p.opn) (hk : m.nds = p.nds) (hs : mstep m w q p.tk = opensM m x fun m => makesM m fun m => .go m w' q') :
    Step text m w q p (fun p' => ⟨x :: m.st, m.out, p'.opn, p'.nds⟩) w' q' 1 1 (thenP (thenP (opensP p) makesP) (advP text)) := by
  unfold opensP
  by_cases h : p.opn = 64
  · rw [if_pos h]
    refine err_run ?_
    rw [hs, opensM, if_pos (by omega)]
  · rw [if_neg h]
    show Step _ _ _ _ _ _ _ _ _ _ (thenP (makesP { p with opn := p.opn + 1 }) (advP text))
    unfold makesP
    by_cases h2 : p.nds = 65536
    · rw [if_pos h2]
      refine err_run ?_
      rw [hs, opensM, if_neg (by have := hp.2.1; omega), makesM, if_pos (by dsimp only; omega)]
    · rw [if_neg h2]
      have hs2 : mstep m w q p.tk = .go ⟨x :: m.st, m.out, m.opn + 1, m.nds + 1⟩ w' q' := by rw [hs, opensM, if_neg (by have := hp.2.1; omega), makesM, if_neg (by dsimp only; have := hp.2.2.1; omega)]
      show Step _ _ _ _ _ _ _ _ _ _ (advP text { p with opn := p.opn + 1, nds := p.nds + 1 })
      cases ha : advP text { p with opn := p.opn + 1, nds := p.nds + 1 } with
      | inl e => exact .go hs2 (adv_run ha _ _ _)
      | inr p' =>
        obtain ⟨h1, h2, h3, _⟩ := advR ha
        refine ⟨adv_Ok (p := { p with opn := p.opn + 1, nds := p.nds + 1 }) hp.2.2.2.1 (by dsimp only; have := hp.2.1; omega) (by dsimp only; have := hp.2.2.1; omega) ha, h2, h3, fun r hr => go_run hs2 h1 ?_⟩
        rw [hn, hk, show p.opn + 1 = p'.opn from h2.symm, show p.nds + 1 = p'.nds from h3.symm]
        exact hr
theorem need_step {text : List UInt8} {m m' : MS} {w q w' q' : Int} {p : Ps} {k : Int} (hp : Ok text p) (hs : knd p = k → mstep m w q p.tk = .go m' w' q') (hn : knd p ≠ k → mstep m w q p.tk = .err 131) : Step text m w q p (fun _ => m') w' q' 0 0 (needP text k p) := by
  unfold needP
  by_cases h : knd p = k
  · rw [if_pos h]; exact adv_step hp (hs h)
  · rw [if_neg h]; exact err_run (hn h)

/-! ### What waits above a stop -/
def cn (l : List Wt) : Nat := (l.map opW).sum
def nd (l : List Wt) : List (Int × Int) := l.flatMap ndW
theorem cn_app (a b : List Wt) : cn (a ++ b) = cn a + cn b := by simp [cn]
theorem nd_app (a b : List Wt) : nd (a ++ b) = nd a ++ nd b := by simp [nd]
def Soft (w : Wt) : Prop := w = .not ∨ (∃ o n, w = .quant o n) ∨ ∃ o, w = .op o
theorem inner_soft : ∀ (pend S : List Wt) (o : List (Int × Int)) (k : Nat), (∀ w ∈ pend, Soft w) → innerM (pend ++ S) o (k + cn pend) = innerM S (o ++ nd pend) k
  | [], S, o, k, _ => by simp [cn, nd]
  | w :: pend, S, o, k, h => by
    have ih := inner_soft pend S (o ++ ndW w) k (fun x hx => h x (.tail _ hx))
    have e : k + cn (w :: pend) - opW w = k + cn pend := by simp [cn]; omega
    rcases h w (.head _) with rfl | ⟨a, b, rfl⟩ | ⟨a, rfl⟩
    all_goals
      simp only [List.cons_append, innerM, e, ih, nd, List.flatMap_cons, List.append_assoc]
theorem oper_soft (op : Int) (b : Nat) (hb : bndN op ≤ b) : ∀ (pend S : List Wt) (o : List (Int × Int)) (k : Nat), (∀ w ∈ pend, w = .not ∨ ∃ o', w = .op o' ∧ b ≤ bndN o' ∧ (op = 9 → bndN o' ≠ bndN op)) → operM op (pend ++ S) o (k + cn pend) = operM op S (o ++ nd pend) k
  | [], S, o, k, _ => by simp [cn, nd]
  | w :: pend, S, o, k, h => by
    have ih := oper_soft op b hb pend S (o ++ ndW w) k (fun x hx => h x (.tail _ hx))
    have e : k + cn (w :: pend) - opW w = k + cn pend := by simp [cn]; omega
    rcases h w (.head _) with rfl | ⟨a, rfl, h1, h2⟩
    · simp only [ndW, opW] at ih e
      simp only [List.cons_append, operM, e, ih, nd, List.flatMap_cons, List.append_assoc, ndW]
    · simp only [ndW, opW, Nat.sub_zero] at ih e
      rw [List.cons_append, operM]
      rw [if_neg (by rintro (h3 | ⟨h3, h4⟩); omega; exact h2 h4 h3), e, ih]
      simp [nd, ndW]
def Stops (b : Nat) : List Wt → Prop
  | .not :: _ => 6 ≤ b
  | .op o :: _ => bndN o < b
  | _ => True
theorem bndN_le (o : Int) : 1 ≤ bndN o ∧ bndN o ≤ 5 := by unfold bndN; repeat' split
                                                          all_goals omega
theorem stops6 (S : List Wt) : Stops 6 S := by
  unfold Stops
  split
  · exact Nat.le_refl _
  · rename_i o _; have := bndN_le o; omega
  · trivial
theorem Stops.up {b : Nat} {S : List Wt} (h : Stops b S) (hb : b < 6) : Stops (b + 1) S := by
  unfold Stops at *
  split at h
  · omega
  · omega
  · trivial
theorem oper_stop {op : Int} {S : List Wt} (h : Stops (bndN op) S) (o : List (Int × Int)) (k : Nat) : operM op S o k = (S, o, k) := by
  have := bndN_le op
  cases S with
  | nil => rfl
  | cons w S =>
    unfold Stops at h
    cases w with
    | not => dsimp only at h; omega
    | op x => dsimp only at h; simp only [operM]; rw [if_pos (.inl h)]
    | _ => rfl
def Good (b : Nat) (tk : Tk) (pend : List Wt) : Prop := (∀ w ∈ pend, Soft w) ∧ ∀ k, tk = .op k → bndN k < b ∧ ∀ w ∈ pend, w = .not ∨ ∃ o, w = .op o ∧ b ≤ bndN o
def Good' (b : Nat) (tk : Tk) (pend : List Wt) : Prop := (∀ w ∈ pend, Soft w) ∧ ∀ k, tk = .op k → bndN k < b + 1 ∧ ∀ w ∈ pend, w = .not ∨ ∃ o, w = .op o ∧ b ≤ bndN o
theorem Good.weak {b : Nat} {tk : Tk} {pend : List Wt} (h : Good (b + 1) tk pend) : Good' b tk pend :=
  ⟨h.1, fun k hk => ⟨(h.2 k hk).1, fun w hw => (h.2 k hk).2 w hw |>.imp id fun ⟨o, e, h2⟩ => ⟨o, e, by omega⟩⟩⟩
end Go.Proofs.YthackanffcaejaaDoor
end
section
set_option linter.unusedVariables false
namespace Go.SL
open Go Go.RowKit
theorem fzC {H : Hp} {b off : Nat} {v : Value} (hv : celH H b off = some v) {w0 w : World} {Hs : List HP} (hS : Sat w0 w Hs) (hm : fz H ∈ Hs) : w.cell? ⟨b, off, none⟩ = some v := hS.fzCell hm hv
end Go.SL
end
section
set_option linter.unusedSimpArgs false
set_option linter.unusedVariables false
set_option maxRecDepth 20000
namespace Go.Proofs.YthackanffcaejaaDoor
open Go Go.RowKit Go.SL
-- ACT2

theorem Fs_append : ∀ (a b : List (Int × Int)), Fs (a ++ b) = Fs a ++ Fs b
  | [], b => rfl
  | x :: a, b => by simp [Fs, Fs_append a b]
def LsM (t : T) : Prop := ∀ (ad : Option Addr) (n cap : Nat) (fs : List (Int × Int)) (v : Value) (H : Hp) (w0 w : World) (R : List HP), Sat w0 w (own 77 2 ad n cap (Fs fs) :: R) → fz H ∈ R → InT H t v → n + size t ≤ 1000000 →
  Calls Tryd.prog 47 #[.slice ad n cap, v] w fun e w' => ∃ ad' cap', e = .returned (.slice ad' (n + size t) cap') ∧ Sat w0 w' (own 77 2 ad' (n + size t) cap' (Fs (fs ++ post t)) :: R)
theorem listC0 (c : Int) : LsM (.cst c) := by
  rintro ad n cap fs v H w0 w R hS hm ⟨b, rfl, hb⟩ hsz
  simp only [size] at hsz
  have c2 : celH H b 2 = some (.int .i64 c) := by simp [celH, hb]
  clear hb
  go_enter Tryd.func47, Tryd.ntmps47
  go_wp2_with (first | ((with_reducible apply arm_assertY); exact wanted_none; exact ev_tmp rfl; exact Tryd.underlying123; (try simp only [Act.put, q1, q2, q3])) | ((with_reducible apply arm_loadF hS); exact wanted_none; exact ev_tmp rfl; assumption; (((repeat (with_reducible apply mem_tl))); (try assumption)); decide +kernel; (try simp only [Act.put, q1, q2, q3])) | ((with_reducible apply arm_build1 hS); exact wanted_none; exact E37; exact ev_tmp rfl; exact cells_agg; rfl; decide; clear hS; intro NB w hS; (try simp only [Act.put, q1, q2, q3])) | ((with_reducible apply arm_appendB hS); exact wanted_none; exact ev_tmp rfl; exact ev_tmp rfl; exact E37; (repeat (with_reducible first | exact Rem.hd | apply Rem.tl)); (repeat (with_reducible apply Rem.tl)); rfl; rfl; (omega); (omega); clear hS; intro AD CAP w hS; (try simp only [Nat.zero_add, List.nil_append] at hS); (try simp only [Act.put, q1, q2, q3])))
  go_ret
  refine ⟨AD, CAP, rfl, ?_⟩
  rw [Fs_append]
  exact hS
theorem listV0 (c : Int) : LsM (.var c) := by
  rintro ad n cap fs v H w0 w R hS hm ⟨b, rfl, hb⟩ hsz
  simp only [size] at hsz
  have c2 : celH H b 2 = some (.int .i64 c) := by simp [celH, hb]
  clear hb
  go_enter Tryd.func47, Tryd.ntmps47
  go_wp2_with (first | ((with_reducible apply arm_assertY); exact wanted_none; exact ev_tmp rfl; exact Tryd.underlying128; (try simp only [Act.put, q1, q2, q3])) | ((with_reducible apply arm_assertN); exact wanted_none; exact ev_tmp rfl; (decide); exact Tryd.underlying123; kernel_rfl; (try simp only [Act.put, q1, q2, q3])) | ((with_reducible apply arm_loadF hS); exact wanted_none; exact ev_tmp rfl; assumption; (((repeat (with_reducible apply mem_tl))); (try assumption)); decide +kernel; (try simp only [Act.put, q1, q2, q3])) | ((with_reducible apply arm_build1 hS); exact wanted_none; exact E37; exact ev_tmp rfl; exact cells_agg; rfl; decide; clear hS; intro NB w hS; (try simp only [Act.put, q1, q2, q3])) | ((with_reducible apply arm_appendB hS); exact wanted_none; exact ev_tmp rfl; exact ev_tmp rfl; exact E37; (repeat (with_reducible first | exact Rem.hd | apply Rem.tl)); (repeat (with_reducible apply Rem.tl)); rfl; rfl; (omega); (omega); clear hS; intro AD CAP w hS; (try simp only [Nat.zero_add, List.nil_append] at hS); (try simp only [Act.put, q1, q2, q3])))
  go_ret
  refine ⟨AD, CAP, rfl, ?_⟩
  rw [Fs_append]
  exact hS
theorem listN (a : T) (ih : LsM a) : LsM (.neg a) := by
  rintro ad n cap fs v H w0 w R hS hm ⟨va, hva, b, rfl, hb⟩ hsz
  simp only [size] at hsz
  have c2 : celH H b 2 = some va := by simp [celH, hb]
  have IH := fun w R hS hm => ih ad n cap fs va H w0 w R hS hm hva (by omega)
  clear hb ih
  go_enter Tryd.func47, Tryd.ntmps47
  go_wp2_with (first | ((with_reducible apply arm_assertY); exact wanted_none; exact ev_tmp rfl; exact Tryd.underlying137; (try simp only [Act.put, q1, q2, q3])) | ((with_reducible apply arm_assertN); exact wanted_none; exact ev_tmp rfl; (decide); (with_reducible first | exact Tryd.underlying123 | exact Tryd.underlying128); kernel_rfl; (try simp only [Act.put, q1, q2, q3])) | ((with_reducible apply arm_loadF hS); exact wanted_none; exact ev_tmp rfl; assumption; (((repeat (with_reducible apply mem_tl))); (try assumption)); decide +kernel; (try simp only [Act.put, q1, q2, q3])) | ((with_reducible apply arm_build1 hS); exact wanted_none; exact E37; exact ev_tmp rfl; exact cells_agg; rfl; decide; clear hS; intro NB w hS; (try simp only [Act.put, q1, q2, q3])) | ((with_reducible apply arm_appendB hS); exact wanted_none; exact ev_tmp rfl; exact ev_tmp rfl; exact E37; (repeat (with_reducible first | exact Rem.hd | apply Rem.tl)); (repeat (with_reducible apply Rem.tl)); rfl; rfl; (omega); (omega); clear hS; intro AD CAP w hS; (try simp only [Nat.zero_add, List.nil_append] at hS); (try simp only [Act.put, q1, q2, q3])) | (go_at_call 47; refine (IH _ _ (hS.front (by (repeat (with_reducible exact Rem.hd)))) (by ((repeat (with_reducible apply mem_tl)); (try assumption)))).mono ?_; clear hS IH; rintro e w ⟨ad1, cap1, rfl, hS⟩))
  go_ret
  refine ⟨AD, CAP, rfl, ?_⟩
  rw [show fs ++ post (.neg a) = fs ++ post a ++ [(3, 0)] by simp [post], Fs_append]
  exact hS
set_option maxHeartbeats 2000000 in
theorem listQ (op x : Int) (a : T) (ih : LsM a) : LsM (.qu op x a) := by
  rintro ad n cap fs v H w0 w R hS hm ⟨va, hva, b, rfl, hb⟩ hsz
  simp only [size] at hsz
  have c1 : celH H b 2 = some (.int .i64 op) := by simp [celH, hb]
  have c2 : celH H b 3 = some (.int .i64 x) := by simp [celH, hb]
  have c3 : celH H b 4 = some va := by simp [celH, hb]
  have IH := fun w R hS hm => ih ad n cap fs va H w0 w R hS hm hva (by omega)
  clear hb ih
  go_enter Tryd.func47, Tryd.ntmps47
  go_wp2_with (first | ((with_reducible apply Cont.intro); (focus (apply Or.inr; apply (Sat.sb hS); (repeat (with_reducible first | exact Sb.refl | apply Sb.skip)); done)); intro hR hC) | ((first | ((with_reducible apply draw_pure (i := 0)); (simp only [q4, q6, q5]; with_reducible rfl); kernel_rfl; kernel_rfl; decide +kernel; rfl; exact hC; exact (fun _ _ _ h => h); exact hR; with_reducible exact wanted_none) | ((with_reducible apply draw_pure (i := 1)); (simp only [q4, q6, q5]; with_reducible rfl); kernel_rfl; kernel_rfl; decide +kernel; rfl; exact hC; exact (fun _ _ _ h => h); exact hR; with_reducible exact wanted_none) | ((with_reducible apply draw_pure (i := 2)); (simp only [q4, q6, q5]; with_reducible rfl); kernel_rfl; kernel_rfl; decide +kernel; rfl; exact hC; exact (fun _ _ _ h => h); exact hR; with_reducible exact wanted_none) | ((with_reducible apply draw_pure (i := 6)); (simp only [q4, q6, q5]; with_reducible rfl); kernel_rfl; kernel_rfl; decide +kernel; rfl; exact hC; exact (fun _ _ _ h => h); exact hR; with_reducible exact wanted_none) | ((with_reducible apply draw_pure (i := 7)); (simp only [q4, q6, q5]; with_reducible rfl); kernel_rfl; kernel_rfl; decide +kernel; rfl; exact hC; exact (fun _ _ _ h => h); exact hR; with_reducible exact wanted_none) | ((with_reducible apply draw_pure (i := 10)); (simp only [q4, q6, q5]; with_reducible rfl); kernel_rfl; kernel_rfl; decide +kernel; rfl; exact hC; exact (fun _ _ _ h => h); exact hR; with_reducible exact wanted_none) | ((with_reducible apply draw_pure (i := 11)); (simp only [q4, q6, q5]; with_reducible rfl); kernel_rfl; kernel_rfl; decide +kernel; rfl; exact hC; exact (fun _ _ _ h => h); exact hR; with_reducible exact wanted_none) | ((with_reducible apply draw_pure (i := 14)); (simp only [q4, q6, q5]; with_reducible rfl); kernel_rfl; kernel_rfl; decide +kernel; rfl; exact hC; exact (fun _ _ _ h => h); exact hR; with_reducible exact wanted_none) | ((with_reducible apply draw_pure (i := 17)); (simp only [q4, q6, q5]; with_reducible rfl); kernel_rfl; kernel_rfl; decide +kernel; rfl; exact hC; exact (fun _ _ _ h => h); exact hR; with_reducible exact wanted_none)); (intro w; first | (go_simp; done) | (go_simp; rw [wrapI (by omega) (by omega)]) | (go_simp; with_reducible rfl) | (go_simp; rfl)); (clear hR hC; intro hR hC); (try simp only [Act.put, q1, q2, q3])) | ((first | ((with_reducible apply draw_pure (i := 3)); (simp only [q4, q6, q5]; with_reducible rfl); kernel_rfl; kernel_rfl; decide +kernel; rfl; exact hC; exact (fun _ _ _ h => h); exact hR; with_reducible exact wanted_none) | ((with_reducible apply draw_pure (i := 8)); (simp only [q4, q6, q5]; with_reducible rfl); kernel_rfl; kernel_rfl; decide +kernel; rfl; exact hC; exact (fun _ _ _ h => h); exact hR; with_reducible exact wanted_none) | ((with_reducible apply draw_pure (i := 12)); (simp only [q4, q6, q5]; with_reducible rfl); kernel_rfl; kernel_rfl; decide +kernel; rfl; exact hC; exact (fun _ _ _ h => h); exact hR; with_reducible exact wanted_none)); (intro w; first | (exact draw_fa rfl (by (exact ev_const)) (by assumption) (by with_reducible exact fo77_0)) | (go_simp; done) | (go_simp; rw [wrapI (by omega) (by omega)]) | (go_simp; with_reducible rfl) | (go_simp; rfl)); (clear hR hC; intro hR hC); (try simp only [Act.put, q1, q2, q3])) | ((first | ((with_reducible apply draw_read (i := 4)); (simp only [q4, q6, q5]; with_reducible rfl); kernel_rfl; kernel_rfl; decide +kernel; kernel_rfl; rfl; exact hC; exact (fun _ _ _ h => h); exact hR; kernel_rfl; with_reducible exact wanted_none) | ((with_reducible apply draw_read (i := 9)); (simp only [q4, q6, q5]; with_reducible rfl); kernel_rfl; kernel_rfl; decide +kernel; kernel_rfl; rfl; exact hC; exact (fun _ _ _ h => h); exact hR; kernel_rfl; with_reducible exact wanted_none) | ((with_reducible apply draw_read (i := 13)); (simp only [q4, q6, q5]; with_reducible rfl); kernel_rfl; kernel_rfl; decide +kernel; kernel_rfl; rfl; exact hC; exact (fun _ _ _ h => h); exact hR; kernel_rfl; with_reducible exact wanted_none)); (intro w hS; (apply run_op_load rfl (by (exact ev_tmp rfl))); first | exact run_loadVar1 (by decide +kernel) (hS.cell (by (repeat (with_reducible apply mem_tl))) rfl) | exact run_loadVar1 (by decide +kernel) ((hS.ownCell (by (repeat (with_reducible apply mem_tl))) (by (rfl))).1) | exact run_loadVar1 (by decide +kernel) (Sat.rdCell2 (by assumption) hS (by ((repeat (with_reducible apply mem_tl))); try assumption) (by (rfl))) | exact run_loadVar1 (by decide +kernel) (hS.baseCell (by ((repeat (with_reducible apply mem_tl))); try assumption) (by assumption)) | exact run_loadVar1 (by decide +kernel) (fzC (by assumption) hS (by ((repeat (with_reducible apply mem_tl))); try assumption)) | exact run_loadRN hS (by assumption) (by ((repeat (with_reducible apply mem_tl))); try assumption) (by assumption) (by rfl) (by with_reducible exact sz77) (by decide +kernel) (by decide) | exact hS.loadWhole (by (repeat (with_reducible apply mem_tl))) (by kernel_rfl) (by kernel_rfl)); (clear hR hC; intro hR hC); (try simp only [Act.put, q1, q2, q3])) | ((with_reducible apply draw_act (i := 5)); (simp only [q4, q6, q5]; with_reducible rfl); decide +kernel; exact hC; clear hR hC) | ((with_reducible apply draw_act (i := 15)); (simp only [q4, q6, q5]; with_reducible rfl); decide +kernel; exact hC; clear hR hC) | ((with_reducible apply draw_act (i := 16)); (simp only [q4, q6, q5]; with_reducible rfl); decide +kernel; exact hC; clear hR hC) | ((with_reducible apply draw_act2 (i := 5) (i2 := 15)); (simp only [q4, q6, q5]; with_reducible rfl); (simp only [q4, q6, q5]; with_reducible rfl); decide +kernel; exact hC; (all_goals (clear hR hC))) | ((with_reducible apply draw_done); decide +kernel; clear hR hC) | (refine draw_rem (own 77 2 ad n cap (Fs fs)) 13 18 hS (by (repeat (with_reducible first | exact Rem.hd | apply Rem.tl)); done) (by kernel_rfl) [] rfl ?_; clear hS; intro w hS hR hC) | ((with_reducible apply arm_assertY); exact wanted_none; exact ev_tmp rfl; exact Tryd.underlying142; (try simp only [Act.put, q1, q2, q3])) | ((with_reducible apply arm_assertN); exact wanted_none; exact ev_tmp rfl; (decide); (with_reducible first | exact Tryd.underlying123 | exact Tryd.underlying128 | exact Tryd.underlying137); kernel_rfl; (try simp only [Act.put, q1, q2, q3])) | ((with_reducible apply arm_build1 hS); exact wanted_none; exact E37; exact ev_tmp rfl; exact cells_agg; rfl; decide; clear hS; intro NB w hS; (try simp only [Act.put, q1, q2, q3])) | ((with_reducible apply arm_appendB hS); exact wanted_none; exact ev_tmp rfl; exact ev_tmp rfl; exact E37; (repeat (with_reducible first | exact Rem.hd | apply Rem.tl)); (repeat (with_reducible apply Rem.tl)); rfl; rfl; (omega); (omega); clear hS; intro AD CAP w hS; (try simp only [Nat.zero_add, List.nil_append] at hS); (try simp only [Act.put, q1, q2, q3])) | (go_at_call 47; refine (IH _ _ (hS.front (by (repeat (with_reducible first | exact Rem.hd | apply Rem.tl)))) (by ((repeat (with_reducible apply mem_tl)); (try assumption)))).mono ?_; clear hS IH; rintro e w ⟨ad1, cap1, rfl, hS⟩))
  all_goals
    go_ret
    refine ⟨_, _, rfl, ?_⟩
    rw [show fs ++ post (.qu op x a) = fs ++ post a ++ [(op, x)] by simp [post], Fs_append]
    exact hS
set_option maxHeartbeats 4000000 in
theorem listB (op : Int) (x y : T) (ih1 : LsM x) (ih2 : LsM y) : LsM (.bin op x y) := by
  rintro ad n cap fs v H w0 w R hS hm ⟨va, vb, hva, hvb, b, rfl, hb⟩ hsz
  simp only [size] at hsz
  have c1 : celH H b 2 = some (.int .i64 op) := by simp [celH, hb]
  have c2 : celH H b 3 = some va := by simp [celH, hb]
  have c3 : celH H b 4 = some vb := by simp [celH, hb]
  have I1 := fun w R hS hm => ih1 ad n cap fs va H w0 w R hS hm hva (by omega)
  have I2 := fun ad1 cap1 w R hS hm => ih2 ad1 (n + size x) cap1 (fs ++ post x) vb H w0 w R hS hm hvb (by omega)
  clear hb ih1 ih2
  go_enter Tryd.func47, Tryd.ntmps47
  go_wp2_with (first | ((with_reducible apply Cont.intro); (focus (apply Or.inr; apply (Sat.sb hS); (repeat (with_reducible first | exact Sb.refl | apply Sb.skip)); done)); intro hR hC) | ((first | ((with_reducible apply draw_pure (i := 0)); (simp only [q4, q6, q5]; with_reducible rfl); kernel_rfl; kernel_rfl; decide +kernel; rfl; exact hC; exact (fun _ _ _ h => h); exact hR; with_reducible exact wanted_none) | ((with_reducible apply draw_pure (i := 1)); (simp only [q4, q6, q5]; with_reducible rfl); kernel_rfl; kernel_rfl; decide +kernel; rfl; exact hC; exact (fun _ _ _ h => h); exact hR; with_reducible exact wanted_none) | ((with_reducible apply draw_pure (i := 2)); (simp only [q4, q6, q5]; with_reducible rfl); kernel_rfl; kernel_rfl; decide +kernel; rfl; exact hC; exact (fun _ _ _ h => h); exact hR; with_reducible exact wanted_none) | ((with_reducible apply draw_pure (i := 6)); (simp only [q4, q6, q5]; with_reducible rfl); kernel_rfl; kernel_rfl; decide +kernel; rfl; exact hC; exact (fun _ _ _ h => h); exact hR; with_reducible exact wanted_none) | ((with_reducible apply draw_pure (i := 7)); (simp only [q4, q6, q5]; with_reducible rfl); kernel_rfl; kernel_rfl; decide +kernel; rfl; exact hC; exact (fun _ _ _ h => h); exact hR; with_reducible exact wanted_none) | ((with_reducible apply draw_pure (i := 11)); (simp only [q4, q6, q5]; with_reducible rfl); kernel_rfl; kernel_rfl; decide +kernel; rfl; exact hC; exact (fun _ _ _ h => h); exact hR; with_reducible exact wanted_none) | ((with_reducible apply draw_pure (i := 12)); (simp only [q4, q6, q5]; with_reducible rfl); kernel_rfl; kernel_rfl; decide +kernel; rfl; exact hC; exact (fun _ _ _ h => h); exact hR; with_reducible exact wanted_none) | ((with_reducible apply draw_pure (i := 15)); (simp only [q4, q6, q5]; with_reducible rfl); kernel_rfl; kernel_rfl; decide +kernel; rfl; exact hC; exact (fun _ _ _ h => h); exact hR; with_reducible exact wanted_none) | ((with_reducible apply draw_pure (i := 18)); (simp only [q4, q6, q5]; with_reducible rfl); kernel_rfl; kernel_rfl; decide +kernel; rfl; exact hC; exact (fun _ _ _ h => h); exact hR; with_reducible exact wanted_none)); (intro w; first | (go_simp; done) | (go_simp; rw [wrapI (by omega) (by omega)]) | (go_simp; with_reducible rfl) | (go_simp; rfl)); (clear hR hC; intro hR hC); (try simp only [Act.put, q1, q2, q3])) | ((first | ((with_reducible apply draw_pure (i := 3)); (simp only [q4, q6, q5]; with_reducible rfl); kernel_rfl; kernel_rfl; decide +kernel; rfl; exact hC; exact (fun _ _ _ h => h); exact hR; with_reducible exact wanted_none) | ((with_reducible apply draw_pure (i := 8)); (simp only [q4, q6, q5]; with_reducible rfl); kernel_rfl; kernel_rfl; decide +kernel; rfl; exact hC; exact (fun _ _ _ h => h); exact hR; with_reducible exact wanted_none) | ((with_reducible apply draw_pure (i := 13)); (simp only [q4, q6, q5]; with_reducible rfl); kernel_rfl; kernel_rfl; decide +kernel; rfl; exact hC; exact (fun _ _ _ h => h); exact hR; with_reducible exact wanted_none)); (intro w; first | (exact draw_fa rfl (by (exact ev_const)) (by assumption) (by with_reducible exact fo77_0)) | (go_simp; done) | (go_simp; rw [wrapI (by omega) (by omega)]) | (go_simp; with_reducible rfl) | (go_simp; rfl)); (clear hR hC; intro hR hC); (try simp only [Act.put, q1, q2, q3])) | ((first | ((with_reducible apply draw_read (i := 4)); (simp only [q4, q6, q5]; with_reducible rfl); kernel_rfl; kernel_rfl; decide +kernel; kernel_rfl; rfl; exact hC; exact (fun _ _ _ h => h); exact hR; kernel_rfl; with_reducible exact wanted_none) | ((with_reducible apply draw_read (i := 9)); (simp only [q4, q6, q5]; with_reducible rfl); kernel_rfl; kernel_rfl; decide +kernel; kernel_rfl; rfl; exact hC; exact (fun _ _ _ h => h); exact hR; kernel_rfl; with_reducible exact wanted_none) | ((with_reducible apply draw_read (i := 14)); (simp only [q4, q6, q5]; with_reducible rfl); kernel_rfl; kernel_rfl; decide +kernel; kernel_rfl; rfl; exact hC; exact (fun _ _ _ h => h); exact hR; kernel_rfl; with_reducible exact wanted_none)); (intro w hS; (apply run_op_load rfl (by (exact ev_tmp rfl))); first | exact run_loadVar1 (by decide +kernel) (hS.cell (by (repeat (with_reducible apply mem_tl))) rfl) | exact run_loadVar1 (by decide +kernel) ((hS.ownCell (by (repeat (with_reducible apply mem_tl))) (by (rfl))).1) | exact run_loadVar1 (by decide +kernel) (Sat.rdCell2 (by assumption) hS (by ((repeat (with_reducible apply mem_tl))); try assumption) (by (rfl))) | exact run_loadVar1 (by decide +kernel) (hS.baseCell (by ((repeat (with_reducible apply mem_tl))); try assumption) (by assumption)) | exact run_loadVar1 (by decide +kernel) (fzC (by assumption) hS (by ((repeat (with_reducible apply mem_tl))); try assumption)) | exact run_loadRN hS (by assumption) (by ((repeat (with_reducible apply mem_tl))); try assumption) (by assumption) (by rfl) (by with_reducible exact sz77) (by decide +kernel) (by decide) | exact hS.loadWhole (by (repeat (with_reducible apply mem_tl))) (by kernel_rfl) (by kernel_rfl)); (clear hR hC; intro hR hC); (try simp only [Act.put, q1, q2, q3])) | ((with_reducible apply draw_act (i := 5)); (simp only [q4, q6, q5]; with_reducible rfl); decide +kernel; exact hC; clear hR hC) | ((with_reducible apply draw_act (i := 10)); (simp only [q4, q6, q5]; with_reducible rfl); decide +kernel; exact hC; clear hR hC) | ((with_reducible apply draw_act (i := 16)); (simp only [q4, q6, q5]; with_reducible rfl); decide +kernel; exact hC; clear hR hC) | ((with_reducible apply draw_act (i := 17)); (simp only [q4, q6, q5]; with_reducible rfl); decide +kernel; exact hC; clear hR hC) | ((with_reducible apply draw_act2 (i := 5) (i2 := 16)); (simp only [q4, q6, q5]; with_reducible rfl); (simp only [q4, q6, q5]; with_reducible rfl); decide +kernel; exact hC; (all_goals (clear hR hC))) | ((with_reducible apply draw_act2 (i := 10) (i2 := 16)); (simp only [q4, q6, q5]; with_reducible rfl); (simp only [q4, q6, q5]; with_reducible rfl); decide +kernel; exact hC; (all_goals (clear hR hC))) | ((with_reducible apply draw_done); decide +kernel; clear hR hC) | (refine draw_rem (own 77 2 ad n cap (Fs fs)) 16 19 hS (by (repeat (with_reducible first | exact Rem.hd | apply Rem.tl)); done) (by kernel_rfl) [] rfl ?_; clear hS; intro w hS hR hC) | ((with_reducible apply arm_assertY); exact wanted_none; exact ev_tmp rfl; exact Tryd.underlying146; (try simp only [Act.put, q1, q2, q3])) | ((with_reducible apply arm_assertN); exact wanted_none; exact ev_tmp rfl; (decide); (with_reducible first | exact Tryd.underlying123 | exact Tryd.underlying128 | exact Tryd.underlying137 | exact Tryd.underlying142); kernel_rfl; (try simp only [Act.put, q1, q2, q3])) | ((with_reducible apply arm_build1 hS); exact wanted_none; exact E37; exact ev_tmp rfl; exact cells_agg; rfl; decide; clear hS; intro NB w hS; (try simp only [Act.put, q1, q2, q3])) | ((with_reducible apply arm_appendB hS); exact wanted_none; exact ev_tmp rfl; exact ev_tmp rfl; exact E37; (repeat (with_reducible first | exact Rem.hd | apply Rem.tl)); (repeat (with_reducible apply Rem.tl)); rfl; rfl; (omega); (omega); clear hS; intro AD CAP w hS; (try simp only [Nat.zero_add, List.nil_append] at hS); (try simp only [Act.put, q1, q2, q3])) | ((go_at_call 47); (first | (refine (I1 _ _ (hS.front (by (repeat (with_reducible first | exact Rem.hd | apply Rem.tl)))) (by ((repeat (with_reducible apply mem_tl)); (try assumption)))).mono ?_; clear hS I1; rintro e w ⟨ad1, cap1, rfl, hS⟩) | (refine (I2 _ _ _ _ (hS.front (by (repeat (with_reducible first | exact Rem.hd | apply Rem.tl)))) (by ((repeat (with_reducible apply mem_tl)); (try assumption)))).mono ?_; clear hS I2; rintro e w ⟨ad2, cap2, rfl, hS⟩))))
  all_goals
    go_ret
    have e : n + size x + size y + 1 = n + size (.bin op x y) := by simp only [size]; omega
    rw [← e]
    refine ⟨_, _, rfl, ?_⟩
    rw [show fs ++ post (.bin op x y) = fs ++ post x ++ post y ++ [(op, 0)] by simp [post], Fs_append]
    exact hS
set_option maxHeartbeats 4000000 in
theorem listI (x y z : T) (ih1 : LsM x) (ih2 : LsM y) (ih3 : LsM z) : LsM (.ite x y z) := by
  rintro ad n cap fs v H w0 w R hS hm ⟨va, vb, vc, hva, hvb, hvc, b, rfl, hb⟩ hsz
  simp only [size] at hsz
  have c1 : celH H b 2 = some va := by simp [celH, hb]
  have c2 : celH H b 3 = some vb := by simp [celH, hb]
  have c3 : celH H b 4 = some vc := by simp [celH, hb]
  have I1 := fun w R hS hm => ih1 ad n cap fs va H w0 w R hS hm hva (by omega)
  have I2 := fun ad1 cap1 w R hS hm => ih2 ad1 (n + size x) cap1 (fs ++ post x) vb H w0 w R hS hm hvb (by omega)
  have I3 := fun ad1 cap1 w R hS hm => ih3 ad1 (n + size x + size y) cap1 (fs ++ post x ++ post y) vc H w0 w R hS hm hvc (by omega)
  clear hb ih1 ih2 ih3
  go_enter Tryd.func47, Tryd.ntmps47
  go_wp2_with (first | ((with_reducible apply Cont.intro); (focus (apply Or.inr; apply (Sat.sb hS); (repeat (with_reducible first | exact Sb.refl | apply Sb.skip)); done)); intro hR hC) | ((first | ((with_reducible apply draw_pure (i := 0)); (simp only [q4, q6, q5]; with_reducible rfl); kernel_rfl; kernel_rfl; decide +kernel; rfl; exact hC; exact (fun _ _ _ h => h); exact hR; with_reducible exact wanted_none) | ((with_reducible apply draw_pure (i := 1)); (simp only [q4, q6, q5]; with_reducible rfl); kernel_rfl; kernel_rfl; decide +kernel; rfl; exact hC; exact (fun _ _ _ h => h); exact hR; with_reducible exact wanted_none) | ((with_reducible apply draw_pure (i := 2)); (simp only [q4, q6, q5]; with_reducible rfl); kernel_rfl; kernel_rfl; decide +kernel; rfl; exact hC; exact (fun _ _ _ h => h); exact hR; with_reducible exact wanted_none) | ((with_reducible apply draw_pure (i := 6)); (simp only [q4, q6, q5]; with_reducible rfl); kernel_rfl; kernel_rfl; decide +kernel; rfl; exact hC; exact (fun _ _ _ h => h); exact hR; with_reducible exact wanted_none) | ((with_reducible apply draw_pure (i := 7)); (simp only [q4, q6, q5]; with_reducible rfl); kernel_rfl; kernel_rfl; decide +kernel; rfl; exact hC; exact (fun _ _ _ h => h); exact hR; with_reducible exact wanted_none) | ((with_reducible apply draw_pure (i := 11)); (simp only [q4, q6, q5]; with_reducible rfl); kernel_rfl; kernel_rfl; decide +kernel; rfl; exact hC; exact (fun _ _ _ h => h); exact hR; with_reducible exact wanted_none) | ((with_reducible apply draw_pure (i := 12)); (simp only [q4, q6, q5]; with_reducible rfl); kernel_rfl; kernel_rfl; decide +kernel; rfl; exact hC; exact (fun _ _ _ h => h); exact hR; with_reducible exact wanted_none) | ((with_reducible apply draw_pure (i := 16)); (simp only [q4, q6, q5]; with_reducible rfl); kernel_rfl; kernel_rfl; decide +kernel; rfl; exact hC; exact (fun _ _ _ h => h); exact hR; with_reducible exact wanted_none) | ((with_reducible apply draw_pure (i := 19)); (simp only [q4, q6, q5]; with_reducible rfl); kernel_rfl; kernel_rfl; decide +kernel; rfl; exact hC; exact (fun _ _ _ h => h); exact hR; with_reducible exact wanted_none)); (intro w; first | (go_simp; done) | (go_simp; rw [wrapI (by omega) (by omega)]) | (go_simp; with_reducible rfl) | (go_simp; rfl)); (clear hR hC; intro hR hC); (try simp only [Act.put, q1, q2, q3])) | ((first | ((with_reducible apply draw_pure (i := 3)); (simp only [q4, q6, q5]; with_reducible rfl); kernel_rfl; kernel_rfl; decide +kernel; rfl; exact hC; exact (fun _ _ _ h => h); exact hR; with_reducible exact wanted_none) | ((with_reducible apply draw_pure (i := 8)); (simp only [q4, q6, q5]; with_reducible rfl); kernel_rfl; kernel_rfl; decide +kernel; rfl; exact hC; exact (fun _ _ _ h => h); exact hR; with_reducible exact wanted_none) | ((with_reducible apply draw_pure (i := 13)); (simp only [q4, q6, q5]; with_reducible rfl); kernel_rfl; kernel_rfl; decide +kernel; rfl; exact hC; exact (fun _ _ _ h => h); exact hR; with_reducible exact wanted_none)); (intro w; first | (exact draw_fa rfl (by (exact ev_const)) (by assumption) (by with_reducible exact fo77_0)) | (go_simp; done) | (go_simp; rw [wrapI (by omega) (by omega)]) | (go_simp; with_reducible rfl) | (go_simp; rfl)); (clear hR hC; intro hR hC); (try simp only [Act.put, q1, q2, q3])) | ((first | ((with_reducible apply draw_read (i := 4)); (simp only [q4, q6, q5]; with_reducible rfl); kernel_rfl; kernel_rfl; decide +kernel; kernel_rfl; rfl; exact hC; exact (fun _ _ _ h => h); exact hR; kernel_rfl; with_reducible exact wanted_none) | ((with_reducible apply draw_read (i := 9)); (simp only [q4, q6, q5]; with_reducible rfl); kernel_rfl; kernel_rfl; decide +kernel; kernel_rfl; rfl; exact hC; exact (fun _ _ _ h => h); exact hR; kernel_rfl; with_reducible exact wanted_none) | ((with_reducible apply draw_read (i := 14)); (simp only [q4, q6, q5]; with_reducible rfl); kernel_rfl; kernel_rfl; decide +kernel; kernel_rfl; rfl; exact hC; exact (fun _ _ _ h => h); exact hR; kernel_rfl; with_reducible exact wanted_none)); (intro w hS; (apply run_op_load rfl (by (exact ev_tmp rfl))); first | exact run_loadVar1 (by decide +kernel) (hS.cell (by (repeat (with_reducible apply mem_tl))) rfl) | exact run_loadVar1 (by decide +kernel) ((hS.ownCell (by (repeat (with_reducible apply mem_tl))) (by (rfl))).1) | exact run_loadVar1 (by decide +kernel) (Sat.rdCell2 (by assumption) hS (by ((repeat (with_reducible apply mem_tl))); try assumption) (by (rfl))) | exact run_loadVar1 (by decide +kernel) (hS.baseCell (by ((repeat (with_reducible apply mem_tl))); try assumption) (by assumption)) | exact run_loadVar1 (by decide +kernel) (fzC (by assumption) hS (by ((repeat (with_reducible apply mem_tl))); try assumption)) | exact run_loadRN hS (by assumption) (by ((repeat (with_reducible apply mem_tl))); try assumption) (by assumption) (by rfl) (by with_reducible exact sz77) (by decide +kernel) (by decide) | exact hS.loadWhole (by (repeat (with_reducible apply mem_tl))) (by kernel_rfl) (by kernel_rfl)); (clear hR hC; intro hR hC); (try simp only [Act.put, q1, q2, q3])) | ((with_reducible apply draw_act (i := 5)); (simp only [q4, q6, q5]; with_reducible rfl); decide +kernel; exact hC; clear hR hC) | ((with_reducible apply draw_act (i := 10)); (simp only [q4, q6, q5]; with_reducible rfl); decide +kernel; exact hC; clear hR hC) | ((with_reducible apply draw_act (i := 15)); (simp only [q4, q6, q5]; with_reducible rfl); decide +kernel; exact hC; clear hR hC) | ((with_reducible apply draw_act (i := 17)); (simp only [q4, q6, q5]; with_reducible rfl); decide +kernel; exact hC; clear hR hC) | ((with_reducible apply draw_act (i := 18)); (simp only [q4, q6, q5]; with_reducible rfl); decide +kernel; exact hC; clear hR hC) | ((with_reducible apply draw_act2 (i := 5) (i2 := 17)); (simp only [q4, q6, q5]; with_reducible rfl); (simp only [q4, q6, q5]; with_reducible rfl); decide +kernel; exact hC; (all_goals (clear hR hC))) | ((with_reducible apply draw_act2 (i := 10) (i2 := 17)); (simp only [q4, q6, q5]; with_reducible rfl); (simp only [q4, q6, q5]; with_reducible rfl); decide +kernel; exact hC; (all_goals (clear hR hC))) | ((with_reducible apply draw_act2 (i := 15) (i2 := 17)); (simp only [q4, q6, q5]; with_reducible rfl); (simp only [q4, q6, q5]; with_reducible rfl); decide +kernel; exact hC; (all_goals (clear hR hC))) | ((with_reducible apply draw_done); decide +kernel; clear hR hC) | (refine draw_rem (own 77 2 ad n cap (Fs fs)) 19 20 hS (by (repeat (with_reducible first | exact Rem.hd | apply Rem.tl)); done) (by kernel_rfl) [] rfl ?_; clear hS; intro w hS hR hC) | ((with_reducible apply arm_assertY); exact wanted_none; exact ev_tmp rfl; exact Tryd.underlying149; (try simp only [Act.put, q1, q2, q3])) | ((with_reducible apply arm_assertN); exact wanted_none; exact ev_tmp rfl; (decide); (with_reducible first | exact Tryd.underlying123 | exact Tryd.underlying128 | exact Tryd.underlying137 | exact Tryd.underlying142 | exact Tryd.underlying146); kernel_rfl; (try simp only [Act.put, q1, q2, q3])) | ((with_reducible apply arm_build1 hS); exact wanted_none; exact E37; exact ev_tmp rfl; exact cells_agg; rfl; decide; clear hS; intro NB w hS; (try simp only [Act.put, q1, q2, q3])) | ((with_reducible apply arm_appendB hS); exact wanted_none; exact ev_tmp rfl; exact ev_tmp rfl; exact E37; (repeat (with_reducible first | exact Rem.hd | apply Rem.tl)); (repeat (with_reducible apply Rem.tl)); rfl; rfl; (omega); (omega); clear hS; intro AD CAP w hS; (try simp only [Nat.zero_add, List.nil_append] at hS); (try simp only [Act.put, q1, q2, q3])) | ((go_at_call 47); (first | (refine (I1 _ _ (hS.front (by (repeat (with_reducible first | exact Rem.hd | apply Rem.tl)))) (by ((repeat (with_reducible apply mem_tl)); (try assumption)))).mono ?_; clear hS I1; rintro e w ⟨ad1, cap1, rfl, hS⟩) | (refine (I2 _ _ _ _ (hS.front (by (repeat (with_reducible first | exact Rem.hd | apply Rem.tl)))) (by ((repeat (with_reducible apply mem_tl)); (try assumption)))).mono ?_; clear hS I2; rintro e w ⟨ad2, cap2, rfl, hS⟩) | (refine (I3 _ _ _ _ (hS.front (by (repeat (with_reducible first | exact Rem.hd | apply Rem.tl)))) (by ((repeat (with_reducible apply mem_tl)); (try assumption)))).mono ?_; clear hS I3; rintro e w ⟨ad3, cap3, rfl, hS⟩))))
  all_goals
    go_ret
    have e : n + size x + size y + size z + 1 = n + size (.ite x y z) := by simp only [size]; omega
    rw [← e]
    refine ⟨_, _, rfl, ?_⟩
    rw [show fs ++ post (.ite x y z) = fs ++ post x ++ post y ++ post z ++ [(11, 0)] by simp [post], Fs_append]
    exact hS
theorem listM : ∀ t : T, LsM t
  | .cst c => listC0 c
  | .var c => listV0 c
  | .neg a => listN a (listM a)
  | .qu op x a => listQ op x a (listM a)
  | .bin op x y => listB op x y (listM x) (listM y)
  | .ite x y z => listI x y z (listM x) (listM y) (listM z)
end Go.Proofs.YthackanffcaejaaDoor
end
