/- A part of the proof: Pm2 Lv1 Lv2 Lv3 Lv4. -/
import Derived.Test.YthackanffcaejaaGreatDoorM1
import Derived.Test.YthackanffcaejaaGreatDoorM9
section
set_option linter.unusedSimpArgs false
set_option linter.unusedVariables false
set_option maxRecDepth 20000
namespace Go.Proofs.YthackanffcaejaaGreatDoor
open Go Go.RowKit Go.SL Go.ClauseP Go.LexP

theorem Dead.mono {w0 w : World} {R : List HP} {B : Nat} {text : List UInt8} {lo lo' : Nat} {x : Int × Nat} (h : Dead w0 w R B text lo x) (hl : lo' ≤ lo) : Dead w0 w R B text lo' x := by
  obtain ⟨h0, k, n, tat, te, fin, o, nd, h1, h2⟩ := h
  exact ⟨h0, k, n, tat, te, fin, o, nd, by omega, h2⟩
theorem makesC (B : Nat) (text : List UInt8) (p : Ps) (hp : PsB text p) (w0 w : World) (R : List HP) (hS : Sat w0 w (blk B 82 (alV text p) :: R)) :
    Calls Tryz.prog 114 #[.pointer (some ⟨B, 0, none⟩)] w fun e w' => e = .returned (.tuple #[]) ∧ aft w0 w' R B text p.opn (makesP p) := by
  obtain ⟨h1, h2, h3⟩ := hp
  unfold alV at hS
  unfold makesP
  by_cases ho : p.nds = 65536
  · rw [if_pos ho]
    have FA := fun w R => failA B text (tokE p.tk).1 (tokE p.tk).2.1 p.at_ 0 p.fin p.opn 65536 0 8 w0 w R
    rw [ho] at hS
    unfold psV at hS FA
    generalize (tokE p.tk).1 = k at *
    generalize (tokE p.tk).2.1 = n at *
    go_enter Tryz.func114, Tryz.ntmps114
    go_wp2_with (first | ((with_reducible apply arm_load hS); exact wanted_none; exact ev_tmp rfl; (repeat (with_reducible exact mem_hd)); rfl; decide +kernel; (try simp only [Act.put, q1, q2, q3])) | ((with_reducible apply arm_store hS); exact wanted_none; exact ev_tmp rfl; exact ev_tmp rfl; (repeat (with_reducible exact mem_hd)); rfl; (focus (simp; done)); (repeat (with_reducible exact Upd.hd)); rfl; decide +kernel; clear hS; intro w hS; (try simp only [q2, q3] at hS); (try simp only [Act.put, q1, q2, q3])) | (go_at_call 80; refine (FA _ _ hS).mono ?_; clear hS; rintro e w ⟨rfl, hS⟩))
    go_end0
    exact ⟨rfl, by show (8 : Int) ≠ 0; decide, _, _, _, _, _, (p.opn : Int), (65537 : Int), by omega, by omega, by omega, by omega, hS⟩
  · rw [if_neg ho]
    have ho2 : ((p.nds : Int) == 65536) = false := by simp; omega
    unfold psV at hS
    go_enter Tryz.func114, Tryz.ntmps114
    go_wp2_with (first | ((with_reducible apply arm_load hS); exact wanted_none; exact ev_tmp rfl; (repeat (with_reducible exact mem_hd)); rfl; decide +kernel; (try simp only [Act.put, q1, q2, q3])) | ((with_reducible apply arm_store hS); exact wanted_none; exact ev_tmp rfl; exact ev_tmp rfl; (repeat (with_reducible exact mem_hd)); rfl; (focus (simp; done)); (repeat (with_reducible exact Upd.hd)); rfl; decide +kernel; clear hS; intro w hS; (try simp only [q2, q3] at hS); (try simp only [Act.put, q1, q2, q3])))
    go_end0
    exact ⟨rfl, ⟨h1, by dsimp only; omega, h3⟩, hS⟩
theorem isY (B : Nat) (text : List UInt8) (hl : text.length ≤ 1048576) (p : Ps) (hp : PsB text p) (w0 w : World) (hSig : SigE w0) (R : List HP) (hbm : base w0 ∈ R) (hS : Sat w0 w (blk B 82 (alV text p) :: R)) (c : Int) (hc : knd p = c) :
    Calls Tryz.prog 83 #[.pointer (some ⟨B, 0, none⟩), .int .i64 c] w fun e w' => e = .returned (.bool true) ∧ aft w0 w' R B text p.opn (advP text p) := by
  have AC := fun w R hbm hS => advC B text hl p hp w0 w hSig R hbm hS
  subst hc
  unfold knd
  unfold alV psV at hS AC
  generalize advP text p = r at *
  generalize (tokE p.tk).1 = k at *
  generalize (tokE p.tk).2.1 = n at *
  go_enter Tryz.func83, Tryz.ntmps83
  go_wp2_with (first | ((with_reducible apply arm_load hS); (first | with_reducible exact wanted_none | exact wanted_guard rfl rfl); exact ev_tmp rfl; (repeat (with_reducible exact mem_hd)); rfl; decide +kernel; (try simp only [Act.put, q1, q2, q3])) | (go_at_call 37; refine (AC _ _ hbm hS).mono ?_; clear hS; rintro e w ⟨rfl, hS⟩))
  go_ret
  exact ⟨rfl, hS⟩
theorem needC (B : Nat) (text : List UInt8) (hl : text.length ≤ 1048576) (p : Ps) (hp : PsB text p) (w0 w : World) (hSig : SigE w0) (R : List HP) (hbm : base w0 ∈ R) (hS : Sat w0 w (blk B 82 (alV text p) :: R)) (c : Int) :
    Calls Tryz.prog 39 #[.pointer (some ⟨B, 0, none⟩), .int .i64 c] w fun e w' => e = .returned (.tuple #[]) ∧ aft w0 w' R B text p.opn (needP text c p) := by
  unfold needP
  by_cases hc : knd p = c
  · rw [if_pos hc]
    have IY := fun w R hbm hS => isY B text hl p hp w0 w hSig R hbm hS c hc
    subst hc
    unfold knd at *
    unfold alV psV at hS IY
    generalize advP text p = r at *
    generalize (tokE p.tk).1 = k at *
    generalize (tokE p.tk).2.1 = n at *
    go_enter Tryz.func39, Tryz.ntmps39
    go_wp2_with (first | ((with_reducible apply arm_load hS); (first | with_reducible exact wanted_none | exact wanted_guard rfl rfl); exact ev_tmp rfl; (repeat (with_reducible exact mem_hd)); rfl; decide +kernel; (try simp only [Act.put, q1, q2, q3])) | (go_at_call 83; refine (IY _ _ hbm hS).mono ?_; clear hS; rintro e w ⟨rfl, hS⟩))
    go_end0
    exact ⟨rfl, hS⟩
  · rw [if_neg hc]
    obtain ⟨h1, h2, h3⟩ := hp
    have FA := fun w R => failA B text (tokE p.tk).1 (tokE p.tk).2.1 p.at_ 0 p.fin p.opn p.nds 0 131 w0 w R
    have ID := fun w R => isD B text (tokE p.tk).1 (tokE p.tk).2.1 p.at_ 0 p.fin p.opn p.nds 131 p.at_ c (by decide) w0 w R
    unfold knd at hc
    unfold alV psV at hS
    unfold psV at FA ID
    generalize (tokE p.tk).1 = k at *
    generalize (tokE p.tk).2.1 = n at *
    have hc2 : (k != c) = true := by simp [hc]
    go_enter Tryz.func39, Tryz.ntmps39
    go_wp2_with (first | ((with_reducible apply arm_load hS); (first | with_reducible exact wanted_none | exact wanted_guard rfl rfl); exact ev_tmp rfl; (repeat (with_reducible exact mem_hd)); rfl; decide +kernel; (try simp only [Act.put, q1, q2, q3])) | (go_at_call 80; refine (FA _ _ hS).mono ?_; clear hS; rintro e w ⟨rfl, hS⟩) | (go_at_call 83; refine (ID _ _ hS).mono ?_; clear hS; rintro e w ⟨rfl, hS⟩))
    go_end0
    exact ⟨rfl, by show (131 : Int) ≠ 0; decide, _, _, _, _, _, (p.opn : Int), (p.nds : Int), by omega, by omega, by omega, by omega, hS⟩
end Go.Proofs.YthackanffcaejaaGreatDoor
end
section
set_option linter.unusedSimpArgs false
set_option linter.unusedVariables false
set_option maxRecDepth 20000
namespace Go.Proofs.YthackanffcaejaaGreatDoor
open Go Go.RowKit Go.SL Go.ClauseP Go.LexP

def meas (text : List UInt8) (p : Ps) : Nat := if knd p = 0 then 0 else text.length + 1 - p.fin
theorem nextT_grow (text : List UInt8) (k : Nat) (hk : k ≤ text.length) : (nextT text k).tk = .fin ∨ k < (nextT text k).fin := by
  obtain ⟨h1, h2⟩ := skipP_le text k hk
  unfold nextT
  split
  · exact .inl rfl
  · rename_i h
    have := pieceT_len (text.drop (skipP text k)) (by
      intro e
      have := congrArg List.length e
      rw [List.length_drop] at this
      simp at this
      omega)
    exact .inr (by dsimp only; omega)
theorem advP_inr {text : List UInt8} {p q : Ps} (h : advP text p = .inr q) : q = ⟨(nextT text p.fin).tk, (nextT text p.fin).at_, (nextT text p.fin).fin, p.opn, p.nds⟩ := by
  by_cases hb : ∃ e, (nextT text p.fin).tk = .bad e
  · obtain ⟨e, hb⟩ := hb
    rw [advP_bad text p e hb] at h
    cases h
  · rw [advP_ok text p hb] at h
    injection h with h
    exact h.symm
theorem advP_meas {text : List UInt8} {p q : Ps} (hp : PsB text p) (hk : knd p ≠ 0) (h : advP text p = .inr q) : meas text q < meas text p ∧ q.opn = p.opn ∧ q.nds = p.nds := by
  obtain rfl := advP_inr h
  refine ⟨?_, rfl, rfl⟩
  have h3 := hp.2.2.1
  unfold meas
  rw [if_neg hk]
  have hb := nextT_bd text p.fin h3
  rcases nextT_grow text p.fin h3 with hf | hf
  · rw [if_pos (by unfold knd; dsimp only; rw [hf]; rfl)]
    omega
  · split
    · omega
    · dsimp only; omega
def IfV (v : Value) : Prop := v = .nilIface ∨ ∃ K b, v = .iface K (.pointer (some ⟨b, 0, none⟩))
def okR (w0 w : World) (R : List HP) (H : Hp) (B : Nat) (text : List UInt8) (p : Ps) (v : Value) : Rt → Prop
  | .inl x => IfV v ∧ ∃ H', Ext H H' ∧ Dead w0 w (fz H' :: R) B text p.opn x
  | .inr (t, q) => PsB text q ∧ q.opn = p.opn ∧ meas text q ≤ meas text p ∧ p.nds + size t ≤ q.nds ∧ okT t ∧ ∃ H', Ext H H' ∧ InT H' t v ∧ Sat w0 w (blk B 82 (alV text q) :: fz H' :: R)
def LvA (text : List UInt8) (f b n : Nat) : Prop := ∀ (B : Nat) (p : Ps) (w0 w : World) (R : List HP) (H : Hp), PsB text p → meas text p ≤ n → SigE w0 → base w0 ∈ R → Sat w0 w (blk B 82 (alV text p) :: fz H :: R) →
  Calls Tryz.prog f #[.pointer (some ⟨B, 0, none⟩)] w fun e w' => ∃ v, e = .returned v ∧ ∃ r, RD text (.lvl b) p r ∧ okR w0 w' R H B text p v r
def LvD (text : List UInt8) (f : Nat) : Prop := ∀ (B : Nat) (k n tat te fin o nd d a : Int) (w0 w : World) (R : List HP), d ≠ 0 → Sat w0 w (blk B 82 (psV text k n tat te fin o nd d a) :: R) →
  Calls Tryz.prog f #[.pointer (some ⟨B, 0, none⟩)] w fun e w' => e = .returned .nilIface ∧ Sat w0 w' (blk B 82 (psV text k n tat te fin o nd d a) :: R)
def loopM (text : List UInt8) (B : Nat) (w : World) : Nat := match w.cell? ⟨B, 8, none⟩, w.cell? ⟨B, 1, none⟩, w.cell? ⟨B, 5, none⟩ with
  | some (.int _ e), some (.int _ k), some (.int _ f) => if e ≠ 0 then 0 else (if k = 0 then 0 else text.length + 1 - f.toNat) + 1
  | _, _, _ => 0
theorem loopM_al {text : List UInt8} {B : Nat} {w0 w : World} {Hs : List HP} {q : Ps} (hS : Sat w0 w Hs) (hm : blk B 82 (alV text q) ∈ Hs) : loopM text B w = meas text q + 1 := by
  have h8 := hS.cell hm (show (alV text q)[8]? = some (.int .i64 0) from rfl)
  have h1 := hS.cell hm (show (alV text q)[1]? = some (.int .i64 (tokE q.tk).1) from rfl)
  have h5 := hS.cell hm (show (alV text q)[5]? = some (.int .i64 q.fin) from rfl)
  unfold loopM meas knd
  rw [h8, h1, h5]
  simp
theorem loopM_dead {text : List UInt8} {B : Nat} {w0 w : World} {Hs : List HP} {k n tat te fin o nd d a : Int} (hd : d ≠ 0) (hS : Sat w0 w Hs) (hm : blk B 82 (psV text k n tat te fin o nd d a) ∈ Hs) : loopM text B w = 0 := by
  have h8 := hS.cell hm (show (psV text k n tat te fin o nd d a)[8]? = some (.int .i64 d) from rfl)
  have h1 := hS.cell hm (show (psV text k n tat te fin o nd d a)[1]? = some (.int .i64 k) from rfl)
  have h5 := hS.cell hm (show (psV text k n tat te fin o nd d a)[5]? = some (.int .i64 fin) from rfl)
  unfold loopM
  rw [h8, h1, h5]
  simp [hd]
end Go.Proofs.YthackanffcaejaaGreatDoor
end
section
set_option linter.unusedSimpArgs false
set_option linter.unusedVariables false
set_option maxRecDepth 20000
namespace Go.Proofs.YthackanffcaejaaGreatDoor
open Go Go.RowKit Go.SL Go.ClauseP Go.LexP

theorem chainD5 (text : List UInt8) (hD : LvD text 162) (B : Nat) (k n tat te fin o nd d a c op : Int) (w0 w : World) (R : List HP) (hd : d ≠ 0) (hS : Sat w0 w (blk B 82 (psV text k n tat te fin o nd d a) :: R)) :
    Calls Tryz.prog 81 #[.pointer (some ⟨B, 0, none⟩), .int .i64 c, .int .i64 op, .func (.func 162) #[.pointer (some ⟨B, 0, none⟩)] #[]] w fun e w' => e = .returned .nilIface ∧ Sat w0 w' (blk B 82 (psV text k n tat te fin o nd d a) :: R) := by
  have GD := fun w R hS => hD B k n tat te fin o nd d a w0 w R hd hS
  unfold psV at hS GD
  have hd2 : (d == 0) = false := by simp [hd]
  go_enter Tryz.func81, Tryz.ntmps81
  go_wp2_with (go_at_call 162; refine (GD _ _ hS).mono ?_; clear hS; rintro e w ⟨rfl, hS⟩)
  go_loopw [9] (fun x wr => x = .nilIface ∧ Sat w0 wr (blk B 82 [.string ⟨text.toArray⟩, .int .i64 k, .int .i64 n, .int .i64 tat, .int .i64 te, .int .i64 fin, .int .i64 o, .int .i64 nd, .int .i64 d, .int .i64 a] :: R)) (fun _ _ => 0)
  case atStart => exact ⟨rfl, hS⟩
  case round =>
    clear hS
    obtain ⟨rfl, hS⟩ := hrel
    go_wp2_with ((with_reducible apply arm_load hS); exact wanted_none; exact ev_tmp rfl; (repeat (with_reducible exact mem_hd)); rfl; decide +kernel; (try simp only [Act.put, q1, q2, q3]))
    go_ret
    exact ⟨rfl, hS⟩
theorem advD_aft (B : Nat) (text : List UInt8) (lo : Nat) (x : Int × Nat) (w0 w : World) (R : List HP) (h : Dead w0 w R B text lo x) :
    Calls Tryz.prog 37 #[.pointer (some ⟨B, 0, none⟩)] w fun e w' => e = .returned (.tuple #[]) ∧ Dead w0 w' R B text lo x := by
  obtain ⟨h0, k, n, tat, te, fin, o, nd, h1, h2, h3, h4, hS⟩ := h
  refine (advD B text k n tat te fin o nd x.1 x.2 h0 w0 w R hS).mono ?_
  rintro e w' ⟨rfl, hS⟩
  exact ⟨rfl, h0, k, n, tat, te, fin, o, nd, h1, h2, h3, h4, hS⟩
theorem lvD_aft (text : List UInt8) (f : Nat) (hD : LvD text f) (B : Nat) (lo : Nat) (x : Int × Nat) (w0 w : World) (R : List HP) (h : Dead w0 w R B text lo x) :
    Calls Tryz.prog f #[.pointer (some ⟨B, 0, none⟩)] w fun e w' => e = .returned .nilIface ∧ Dead w0 w' R B text lo x := by
  obtain ⟨h0, k, n, tat, te, fin, o, nd, h1, h2, h3, h4, hS⟩ := h
  refine (hD B k n tat te fin o nd x.1 x.2 w0 w R h0 hS).mono ?_
  rintro e w' ⟨rfl, hS⟩
  exact ⟨rfl, h0, k, n, tat, te, fin, o, nd, h1, h2, h3, h4, hS⟩
def chSt (w0 : World) (R : List HP) (H : Hp) (B : Nat) (text : List UInt8) (b : Nat) (p : Ps) (xv : Value) (w : World) : (Int × Nat) ⊕ (T × Ps × Hp) → Prop
  | .inl x => IfV xv ∧ RD text (.lvl b) p (.inl x) ∧ ∃ H', Ext H H' ∧ Dead w0 w (fz H' :: R) B text p.opn x
  | .inr (t, q, H') => Ext H H' ∧ InT H' t xv ∧ PsB text q ∧ q.opn = p.opn ∧ meas text q ≤ meas text p ∧ p.nds + size t ≤ q.nds ∧ okT t ∧ (∀ r, RD text (.loop b t) q r → RD text (.lvl b) p r) ∧ Sat w0 w (blk B 82 (alV text q) :: fz H' :: R)
set_option maxHeartbeats 4000000 in
theorem chainA5 (text : List UInt8) (hl : text.length ≤ 1048576) (n : Nat) (hA : LvA text 162 6 n) (hD : LvD text 162) (B : Nat) (p : Ps) (w0 w : World) (R : List HP) (H : Hp) (hp : PsB text p) (hm : meas text p ≤ n) (hSig : SigE w0) (hbm : base w0 ∈ R)
    (hS : Sat w0 w (blk B 82 (alV text p) :: fz H :: R)) :
    Calls Tryz.prog 81 #[.pointer (some ⟨B, 0, none⟩), .int .i64 4, .int .i64 6, .func (.func 162) #[.pointer (some ⟨B, 0, none⟩)] #[]] w fun e w' => ∃ v, e = .returned v ∧ ∃ r, RD text (.lvl 5) p r ∧ okR w0 w' R H B text p v r := by
  have UA := hA B p w0 w R H hp hm hSig hbm hS
  go_enter Tryz.func81, Tryz.ntmps81
  go_wp2_with (go_at_call 162; refine UA.mono ?_; clear hS UA; rintro e w ⟨v, rfl, r, hrd, hok⟩)
  go_loopw [9] (fun x wr => ∃ s, chSt w0 R H B text 5 p x wr s) (fun _ wr => loopM text B wr)
  case atStart =>
    rcases r with x | ⟨t, q⟩
    · exact ⟨.inl x, hok.1, .lvlE (by decide) hrd, hok.2⟩
    · obtain ⟨h1, h2, h3, h4, h5, H', h6, h7, hS⟩ := hok
      exact ⟨.inr (t, q, H'), h6, h7, h1, h2, h3, h4, h5, fun r h => .lvlK (by decide) hrd h, hS⟩
  case round =>
    clear hok hrd
    obtain ⟨s, hs⟩ := hrel
    rcases s with x | ⟨t, q, H1⟩
    · obtain ⟨hv, hrd, H1, hx, h0, k, n, tat, te, fin, o, nd, h1, h2, h3, h4, hS⟩ := hs
      have hd2 : (x.1 == 0) = false := by simp [h0]
      unfold psV at hS
      have HX : Hid (x.1 = x.1) := hid rfl
      obtain ⟨d, a⟩ := x
      dsimp only at *
      go_wp2_with ((with_reducible apply arm_load hS); exact wanted_none; exact ev_tmp rfl; (repeat (with_reducible exact mem_hd)); rfl; decide +kernel; (try simp only [Act.put, q1, q2, q3]))
      go_ret
      exact ⟨_, rfl, .inl (d, a), hrd, hv, H1, hx, h0, k, n, tat, te, fin, o, nd, h1, h2, h3, h4, hS⟩
    · obtain ⟨hx, hi, hq, ho, hmm, hsz, hok, hR, hS⟩ := hs
      have hM := loopM_al hS mem_hd
      have hS0 := hS
      unfold alV psV at hS
      by_cases hk : knd q = 4
      · have hkk : ((tokE q.tk).1 == 4) = true := by simpa [knd] using hk
        have MC := makesC B text q hq w0 wr (fz H1 :: R) hS0
        rcases hmk : makesP q with ⟨d, a⟩ | q1
        · rw [hmk] at MC
          have hth : thenP (makesP q) (advP text) = .inl (d, a) := by rw [hmk]; rfl
          clear hmk
          go_wp2_with (first | ((with_reducible apply arm_load hS); (first | with_reducible exact wanted_none | exact wanted_guard rfl rfl); exact ev_tmp rfl; (repeat (with_reducible exact mem_hd)); rfl; decide +kernel; (try simp only [Act.put, q1, q2, q3])) | (go_at_call 114; refine MC.mono ?_; clear MC hS hS0; rintro e w ⟨rfl, hDd⟩) | (go_at_call 37; refine (advD_aft B text _ _ w0 _ _ hDd).mono ?_; clear hDd; rintro e w ⟨rfl, hDd⟩) | (go_at_call 162; refine (lvD_aft text _ hD B _ _ w0 _ _ hDd).mono ?_; clear hDd; rintro e w ⟨rfl, h0, k, n, tat, te, fin, o, nd, h1, h2, h3, h4, hS⟩; have hd2 : (d == 0) = false := (by simpa using h0); unfold psV at hS; dsimp only at hS))
          go_roundw
          case rel => exact ⟨.inl (d, a), .inr hi.form, hR _ (.loopA hk hth), H1, hx, h0, k, n, tat, te, fin, o, nd, by omega, h2, h3, h4, hS⟩
          case measure =>
            have := loopM_dead (text := text) h0 hS mem_hd
            omega
        · have hq1o : q1.opn = q.opn ∧ q1.nds = q.nds + 1 ∧ meas text q1 = meas text q ∧ knd q1 = knd q := by
            unfold makesP at hmk
            split at hmk
            · cases hmk
            · injection hmk with hmk
              subst hmk
              exact ⟨rfl, rfl, rfl, rfl⟩
          obtain ⟨o1, o2, o3, o4⟩ := hq1o
          rw [hmk] at MC
          rcases had : advP text q1 with ⟨d, a⟩ | q2
          · have hth : thenP (makesP q) (advP text) = .inl (d, a) := by rw [hmk]; exact had
            have AC := fun w hq1 hS => advC B text hl q1 hq1 w0 w hSig (fz H1 :: R) (List.mem_cons_of_mem _ hbm) hS
            rw [had] at AC
            clear hmk had
            go_wp2_with (first | ((with_reducible apply arm_load hS); (first | with_reducible exact wanted_none | exact wanted_guard rfl rfl); exact ev_tmp rfl; (repeat (with_reducible exact mem_hd)); rfl; decide +kernel; (try simp only [Act.put, q1, q2, q3])) | (go_at_call 114; refine MC.mono ?_; clear MC hS hS0; rintro e w ⟨rfl, hq1, hS⟩) | (go_at_call 37; refine (AC _ hq1 hS).mono ?_; clear AC hS; rintro e w ⟨rfl, hDd⟩) | (go_at_call 162; refine (lvD_aft text _ hD B _ _ w0 _ _ hDd).mono ?_; clear hDd; rintro e w ⟨rfl, h0, k, n, tat, te, fin, o, nd, h1, h2, h3, h4, hS⟩; have hd2 : (d == 0) = false := (by simpa using h0); unfold psV at hS; dsimp only at hS))
            go_roundw
            case rel => exact ⟨.inl (d, a), .inr hi.form, hR _ (.loopA hk hth), H1, hx, h0, k, n, tat, te, fin, o, nd, by omega, h2, h3, h4, hS⟩
            case measure =>
              have := loopM_dead (text := text) h0 hS mem_hd
              omega
          · have hth : thenP (makesP q) (advP text) = .inr q2 := by rw [hmk]; exact had
            have AC := fun w hq1 hS => advC B text hl q1 hq1 w0 w hSig (fz H1 :: R) (List.mem_cons_of_mem _ hbm) hS
            rw [had] at AC
            have hms : ∀ hq1 : PsB text q1, meas text q2 < meas text q1 ∧ q2.opn = q1.opn ∧ q2.nds = q1.nds := fun hq1 => advP_meas hq1 (by rw [o4, hk]; decide) had
            have UA := fun w hq2 hm2 hS => hA B q2 w0 w R H1 hq2 hm2 hSig hbm hS
            clear hmk had
            go_wp2_with (first | ((with_reducible apply arm_load hS); (first | with_reducible exact wanted_none | exact wanted_guard rfl rfl); exact ev_tmp rfl; (repeat (with_reducible exact mem_hd)); rfl; decide +kernel; (try simp only [Act.put, q1, q2, q3])) | (go_at_call 114; refine MC.mono ?_; clear MC hS hS0; rintro e w ⟨rfl, hq1, hS⟩) | (go_at_call 37; refine (AC _ hq1 hS).mono ?_; clear AC hS; rintro e w ⟨rfl, hq2, hS⟩; obtain ⟨m1, m2, m3⟩ := hms hq1; clear hms) | (go_at_call 162; refine (UA _ hq2 (by omega) hS).mono ?_; clear UA hS; rintro e w ⟨y, rfl, r3, hrd, hok3⟩; rcases r3 with ⟨d, a⟩ | ⟨t2, q3⟩; (focus (obtain ⟨hy, H3, hx3, h0, k, n, tat, te, fin, o, nd, h1, h2, h3, h4, hS⟩ := hok3)); (have hd2 : (d == 0) = false := (by simpa using h0)); (unfold psV at hS); (dsimp only at hS); rotate_left 1; (obtain ⟨c1, c2, c3, c4, c5, H3, hx3, hi3, hS⟩ := hok3); (unfold alV psV at hS); rotate_left 1) | (go_at_call 71; refine (joinM 6 (by unfold i64; omega) t t2 hok.ops c5.ops (by have := hq.2.1; omega) (by have := c1.2.1; omega) _ _ H3 (InT.ext hx3 hi) hi3 w0 _ (blk B 82 (alV text q3) :: R) (by unfold alV psV; exact hS.sb (by (repeat (first | with_reducible exact Sb.refl | (with_reducible refine Sb.take (by (repeat (with_reducible first | exact Rem.hd | apply Rem.tl)); done) ?_)))))).mono ?_; clear hS; rintro e w ⟨z, rfl, H4, hx4, hi4, hS⟩))
            · go_roundw
              case rel => exact ⟨.inl (d, a), .inr hi.form, hR _ (.loopE hk hth hrd), H3, hx.trans hx3, h0, k, n, tat, te, fin, o, nd, by omega, h2, h3, h4, hS⟩
              case measure =>
                have := loopM_dead (text := text) h0 hS mem_hd
                omega
            · have hS4 : Sat w0 _ (blk B 82 (alV text q3) :: fz H4 :: R) := hS.sb (by (repeat (first | with_reducible exact Sb.refl | (with_reducible refine Sb.take (by (repeat (with_reducible first | exact Rem.hd | apply Rem.tl)); done) ?_))))
              go_roundw
              case rel => exact ⟨.inr (.bin 6 t t2, q3, H4), (hx.trans hx3).trans hx4, hi4, c1, by omega, by omega, by simp only [size]; omega, ⟨by decide, by decide, hok, c5⟩, fun r h => hR r (.loopK hk hth hrd h), hS4⟩
              case measure =>
                have := loopM_al hS4 mem_hd
                omega
      · have hkk : ((tokE q.tk).1 == 4) = false := by simpa [knd] using hk
        go_wp2_with ((with_reducible apply arm_load hS); (first | with_reducible exact wanted_none | exact wanted_guard rfl rfl); exact ev_tmp rfl; (repeat (with_reducible exact mem_hd)); rfl; decide +kernel; (try simp only [Act.put, q1, q2, q3]))
        go_ret
        exact ⟨_, rfl, .inr (t, q), hR _ (.loopN hk), hq, ho, hmm, hsz, hok, H1, hx, hi, hS0⟩
end Go.Proofs.YthackanffcaejaaGreatDoor
end
section
set_option linter.unusedSimpArgs false
set_option linter.unusedVariables false
set_option maxRecDepth 20000
namespace Go.Proofs.YthackanffcaejaaGreatDoor
open Go Go.RowKit Go.SL Go.ClauseP Go.LexP

theorem chainD4 (text : List UInt8) (hD : LvD text 151) (B : Nat) (k n tat te fin o nd d a c op : Int) (w0 w : World) (R : List HP) (hd : d ≠ 0) (hS : Sat w0 w (blk B 82 (psV text k n tat te fin o nd d a) :: R)) :
    Calls Tryz.prog 81 #[.pointer (some ⟨B, 0, none⟩), .int .i64 c, .int .i64 op, .func (.func 151) #[.pointer (some ⟨B, 0, none⟩)] #[]] w fun e w' => e = .returned .nilIface ∧ Sat w0 w' (blk B 82 (psV text k n tat te fin o nd d a) :: R) := by
  have GD := fun w R hS => hD B k n tat te fin o nd d a w0 w R hd hS
  unfold psV at hS GD
  have hd2 : (d == 0) = false := by simp [hd]
  go_enter Tryz.func81, Tryz.ntmps81
  go_wp2_with (go_at_call 151; refine (GD _ _ hS).mono ?_; clear hS; rintro e w ⟨rfl, hS⟩)
  go_loopw [9] (fun x wr => x = .nilIface ∧ Sat w0 wr (blk B 82 [.string ⟨text.toArray⟩, .int .i64 k, .int .i64 n, .int .i64 tat, .int .i64 te, .int .i64 fin, .int .i64 o, .int .i64 nd, .int .i64 d, .int .i64 a] :: R)) (fun _ _ => 0)
  case atStart => exact ⟨rfl, hS⟩
  case round =>
    clear hS
    obtain ⟨rfl, hS⟩ := hrel
    go_wp2_with ((with_reducible apply arm_load hS); exact wanted_none; exact ev_tmp rfl; (repeat (with_reducible exact mem_hd)); rfl; decide +kernel; (try simp only [Act.put, q1, q2, q3]))
    go_ret
    exact ⟨rfl, hS⟩
set_option maxHeartbeats 4000000 in
theorem chainA4 (text : List UInt8) (hl : text.length ≤ 1048576) (n : Nat) (hA : LvA text 151 5 n) (hD : LvD text 151) (B : Nat) (p : Ps) (w0 w : World) (R : List HP) (H : Hp) (hp : PsB text p) (hm : meas text p ≤ n) (hSig : SigE w0) (hbm : base w0 ∈ R)
    (hS : Sat w0 w (blk B 82 (alV text p) :: fz H :: R)) :
    Calls Tryz.prog 81 #[.pointer (some ⟨B, 0, none⟩), .int .i64 6, .int .i64 8, .func (.func 151) #[.pointer (some ⟨B, 0, none⟩)] #[]] w fun e w' => ∃ v, e = .returned v ∧ ∃ r, RD text (.lvl 4) p r ∧ okR w0 w' R H B text p v r := by
  have UA := hA B p w0 w R H hp hm hSig hbm hS
  go_enter Tryz.func81, Tryz.ntmps81
  go_wp2_with (go_at_call 151; refine UA.mono ?_; clear hS UA; rintro e w ⟨v, rfl, r, hrd, hok⟩)
  go_loopw [9] (fun x wr => ∃ s, chSt w0 R H B text 4 p x wr s) (fun _ wr => loopM text B wr)
  case atStart =>
    rcases r with x | ⟨t, q⟩
    · exact ⟨.inl x, hok.1, .lvlE (by decide) hrd, hok.2⟩
    · obtain ⟨h1, h2, h3, h4, h5, H', h6, h7, hS⟩ := hok
      exact ⟨.inr (t, q, H'), h6, h7, h1, h2, h3, h4, h5, fun r h => .lvlK (by decide) hrd h, hS⟩
  case round =>
    clear hok hrd
    obtain ⟨s, hs⟩ := hrel
    rcases s with x | ⟨t, q, H1⟩
    · obtain ⟨hv, hrd, H1, hx, h0, k, n, tat, te, fin, o, nd, h1, h2, h3, h4, hS⟩ := hs
      have hd2 : (x.1 == 0) = false := by simp [h0]
      unfold psV at hS
      have HX : Hid (x.1 = x.1) := hid rfl
      obtain ⟨d, a⟩ := x
      dsimp only at *
      go_wp2_with ((with_reducible apply arm_load hS); exact wanted_none; exact ev_tmp rfl; (repeat (with_reducible exact mem_hd)); rfl; decide +kernel; (try simp only [Act.put, q1, q2, q3]))
      go_ret
      exact ⟨_, rfl, .inl (d, a), hrd, hv, H1, hx, h0, k, n, tat, te, fin, o, nd, h1, h2, h3, h4, hS⟩
    · obtain ⟨hx, hi, hq, ho, hmm, hsz, hok, hR, hS⟩ := hs
      have hM := loopM_al hS mem_hd
      have hS0 := hS
      unfold alV psV at hS
      by_cases hk : knd q = 6
      · have hkk : ((tokE q.tk).1 == 6) = true := by simpa [knd] using hk
        have MC := makesC B text q hq w0 wr (fz H1 :: R) hS0
        rcases hmk : makesP q with ⟨d, a⟩ | q1
        · rw [hmk] at MC
          have hth : thenP (makesP q) (advP text) = .inl (d, a) := by rw [hmk]; rfl
          clear hmk
          go_wp2_with (first | ((with_reducible apply arm_load hS); (first | with_reducible exact wanted_none | exact wanted_guard rfl rfl); exact ev_tmp rfl; (repeat (with_reducible exact mem_hd)); rfl; decide +kernel; (try simp only [Act.put, q1, q2, q3])) | (go_at_call 114; refine MC.mono ?_; clear MC hS hS0; rintro e w ⟨rfl, hDd⟩) | (go_at_call 37; refine (advD_aft B text _ _ w0 _ _ hDd).mono ?_; clear hDd; rintro e w ⟨rfl, hDd⟩) | (go_at_call 151; refine (lvD_aft text _ hD B _ _ w0 _ _ hDd).mono ?_; clear hDd; rintro e w ⟨rfl, h0, k, n, tat, te, fin, o, nd, h1, h2, h3, h4, hS⟩; have hd2 : (d == 0) = false := (by simpa using h0); unfold psV at hS; dsimp only at hS))
          go_roundw
          case rel => exact ⟨.inl (d, a), .inr hi.form, hR _ (.loopA hk hth), H1, hx, h0, k, n, tat, te, fin, o, nd, by omega, h2, h3, h4, hS⟩
          case measure =>
            have := loopM_dead (text := text) h0 hS mem_hd
            omega
        · have hq1o : q1.opn = q.opn ∧ q1.nds = q.nds + 1 ∧ meas text q1 = meas text q ∧ knd q1 = knd q := by
            unfold makesP at hmk
            split at hmk
            · cases hmk
            · injection hmk with hmk
              subst hmk
              exact ⟨rfl, rfl, rfl, rfl⟩
          obtain ⟨o1, o2, o3, o4⟩ := hq1o
          rw [hmk] at MC
          rcases had : advP text q1 with ⟨d, a⟩ | q2
          · have hth : thenP (makesP q) (advP text) = .inl (d, a) := by rw [hmk]; exact had
            have AC := fun w hq1 hS => advC B text hl q1 hq1 w0 w hSig (fz H1 :: R) (List.mem_cons_of_mem _ hbm) hS
            rw [had] at AC
            clear hmk had
            go_wp2_with (first | ((with_reducible apply arm_load hS); (first | with_reducible exact wanted_none | exact wanted_guard rfl rfl); exact ev_tmp rfl; (repeat (with_reducible exact mem_hd)); rfl; decide +kernel; (try simp only [Act.put, q1, q2, q3])) | (go_at_call 114; refine MC.mono ?_; clear MC hS hS0; rintro e w ⟨rfl, hq1, hS⟩) | (go_at_call 37; refine (AC _ hq1 hS).mono ?_; clear AC hS; rintro e w ⟨rfl, hDd⟩) | (go_at_call 151; refine (lvD_aft text _ hD B _ _ w0 _ _ hDd).mono ?_; clear hDd; rintro e w ⟨rfl, h0, k, n, tat, te, fin, o, nd, h1, h2, h3, h4, hS⟩; have hd2 : (d == 0) = false := (by simpa using h0); unfold psV at hS; dsimp only at hS))
            go_roundw
            case rel => exact ⟨.inl (d, a), .inr hi.form, hR _ (.loopA hk hth), H1, hx, h0, k, n, tat, te, fin, o, nd, by omega, h2, h3, h4, hS⟩
            case measure =>
              have := loopM_dead (text := text) h0 hS mem_hd
              omega
          · have hth : thenP (makesP q) (advP text) = .inr q2 := by rw [hmk]; exact had
            have AC := fun w hq1 hS => advC B text hl q1 hq1 w0 w hSig (fz H1 :: R) (List.mem_cons_of_mem _ hbm) hS
            rw [had] at AC
            have hms : ∀ hq1 : PsB text q1, meas text q2 < meas text q1 ∧ q2.opn = q1.opn ∧ q2.nds = q1.nds := fun hq1 => advP_meas hq1 (by rw [o4, hk]; decide) had
            have UA := fun w hq2 hm2 hS => hA B q2 w0 w R H1 hq2 hm2 hSig hbm hS
            clear hmk had
            go_wp2_with (first | ((with_reducible apply arm_load hS); (first | with_reducible exact wanted_none | exact wanted_guard rfl rfl); exact ev_tmp rfl; (repeat (with_reducible exact mem_hd)); rfl; decide +kernel; (try simp only [Act.put, q1, q2, q3])) | (go_at_call 114; refine MC.mono ?_; clear MC hS hS0; rintro e w ⟨rfl, hq1, hS⟩) | (go_at_call 37; refine (AC _ hq1 hS).mono ?_; clear AC hS; rintro e w ⟨rfl, hq2, hS⟩; obtain ⟨m1, m2, m3⟩ := hms hq1; clear hms) | (go_at_call 151; refine (UA _ hq2 (by omega) hS).mono ?_; clear UA hS; rintro e w ⟨y, rfl, r3, hrd, hok3⟩; rcases r3 with ⟨d, a⟩ | ⟨t2, q3⟩; (focus (obtain ⟨hy, H3, hx3, h0, k, n, tat, te, fin, o, nd, h1, h2, h3, h4, hS⟩ := hok3)); (have hd2 : (d == 0) = false := (by simpa using h0)); (unfold psV at hS); (dsimp only at hS); rotate_left 1; (obtain ⟨c1, c2, c3, c4, c5, H3, hx3, hi3, hS⟩ := hok3); (unfold alV psV at hS); rotate_left 1) | (go_at_call 71; refine (joinM 8 (by unfold i64; omega) t t2 hok.ops c5.ops (by have := hq.2.1; omega) (by have := c1.2.1; omega) _ _ H3 (InT.ext hx3 hi) hi3 w0 _ (blk B 82 (alV text q3) :: R) (by unfold alV psV; exact hS.sb (by (repeat (first | with_reducible exact Sb.refl | (with_reducible refine Sb.take (by (repeat (with_reducible first | exact Rem.hd | apply Rem.tl)); done) ?_)))))).mono ?_; clear hS; rintro e w ⟨z, rfl, H4, hx4, hi4, hS⟩))
            · go_roundw
              case rel => exact ⟨.inl (d, a), .inr hi.form, hR _ (.loopE hk hth hrd), H3, hx.trans hx3, h0, k, n, tat, te, fin, o, nd, by omega, h2, h3, h4, hS⟩
              case measure =>
                have := loopM_dead (text := text) h0 hS mem_hd
                omega
            · have hS4 : Sat w0 _ (blk B 82 (alV text q3) :: fz H4 :: R) := hS.sb (by (repeat (first | with_reducible exact Sb.refl | (with_reducible refine Sb.take (by (repeat (with_reducible first | exact Rem.hd | apply Rem.tl)); done) ?_))))
              go_roundw
              case rel => exact ⟨.inr (.bin 8 t t2, q3, H4), (hx.trans hx3).trans hx4, hi4, c1, by omega, by omega, by simp only [size]; omega, ⟨by decide, by decide, hok, c5⟩, fun r h => hR r (.loopK hk hth hrd h), hS4⟩
              case measure =>
                have := loopM_al hS4 mem_hd
                omega
      · have hkk : ((tokE q.tk).1 == 6) = false := by simpa [knd] using hk
        go_wp2_with ((with_reducible apply arm_load hS); (first | with_reducible exact wanted_none | exact wanted_guard rfl rfl); exact ev_tmp rfl; (repeat (with_reducible exact mem_hd)); rfl; decide +kernel; (try simp only [Act.put, q1, q2, q3]))
        go_ret
        exact ⟨_, rfl, .inr (t, q), hR _ (.loopN hk), hq, ho, hmm, hsz, hok, H1, hx, hi, hS0⟩
theorem chainD3 (text : List UInt8) (hD : LvD text 139) (B : Nat) (k n tat te fin o nd d a c op : Int) (w0 w : World) (R : List HP) (hd : d ≠ 0) (hS : Sat w0 w (blk B 82 (psV text k n tat te fin o nd d a) :: R)) :
    Calls Tryz.prog 81 #[.pointer (some ⟨B, 0, none⟩), .int .i64 c, .int .i64 op, .func (.func 139) #[.pointer (some ⟨B, 0, none⟩)] #[]] w fun e w' => e = .returned .nilIface ∧ Sat w0 w' (blk B 82 (psV text k n tat te fin o nd d a) :: R) := by
  have GD := fun w R hS => hD B k n tat te fin o nd d a w0 w R hd hS
  unfold psV at hS GD
  have hd2 : (d == 0) = false := by simp [hd]
  go_enter Tryz.func81, Tryz.ntmps81
  go_wp2_with (go_at_call 139; refine (GD _ _ hS).mono ?_; clear hS; rintro e w ⟨rfl, hS⟩)
  go_loopw [9] (fun x wr => x = .nilIface ∧ Sat w0 wr (blk B 82 [.string ⟨text.toArray⟩, .int .i64 k, .int .i64 n, .int .i64 tat, .int .i64 te, .int .i64 fin, .int .i64 o, .int .i64 nd, .int .i64 d, .int .i64 a] :: R)) (fun _ _ => 0)
  case atStart => exact ⟨rfl, hS⟩
  case round =>
    clear hS
    obtain ⟨rfl, hS⟩ := hrel
    go_wp2_with ((with_reducible apply arm_load hS); exact wanted_none; exact ev_tmp rfl; (repeat (with_reducible exact mem_hd)); rfl; decide +kernel; (try simp only [Act.put, q1, q2, q3]))
    go_ret
    exact ⟨rfl, hS⟩
set_option maxHeartbeats 4000000 in
theorem chainA3 (text : List UInt8) (hl : text.length ≤ 1048576) (n : Nat) (hA : LvA text 139 4 n) (hD : LvD text 139) (B : Nat) (p : Ps) (w0 w : World) (R : List HP) (H : Hp) (hp : PsB text p) (hm : meas text p ≤ n) (hSig : SigE w0) (hbm : base w0 ∈ R)
    (hS : Sat w0 w (blk B 82 (alV text p) :: fz H :: R)) :
    Calls Tryz.prog 81 #[.pointer (some ⟨B, 0, none⟩), .int .i64 5, .int .i64 7, .func (.func 139) #[.pointer (some ⟨B, 0, none⟩)] #[]] w fun e w' => ∃ v, e = .returned v ∧ ∃ r, RD text (.lvl 3) p r ∧ okR w0 w' R H B text p v r := by
  have UA := hA B p w0 w R H hp hm hSig hbm hS
  go_enter Tryz.func81, Tryz.ntmps81
  go_wp2_with (go_at_call 139; refine UA.mono ?_; clear hS UA; rintro e w ⟨v, rfl, r, hrd, hok⟩)
  go_loopw [9] (fun x wr => ∃ s, chSt w0 R H B text 3 p x wr s) (fun _ wr => loopM text B wr)
  case atStart =>
    rcases r with x | ⟨t, q⟩
    · exact ⟨.inl x, hok.1, .lvlE (by decide) hrd, hok.2⟩
    · obtain ⟨h1, h2, h3, h4, h5, H', h6, h7, hS⟩ := hok
      exact ⟨.inr (t, q, H'), h6, h7, h1, h2, h3, h4, h5, fun r h => .lvlK (by decide) hrd h, hS⟩
  case round =>
    clear hok hrd
    obtain ⟨s, hs⟩ := hrel
    rcases s with x | ⟨t, q, H1⟩
    · obtain ⟨hv, hrd, H1, hx, h0, k, n, tat, te, fin, o, nd, h1, h2, h3, h4, hS⟩ := hs
      have hd2 : (x.1 == 0) = false := by simp [h0]
      unfold psV at hS
      have HX : Hid (x.1 = x.1) := hid rfl
      obtain ⟨d, a⟩ := x
      dsimp only at *
      go_wp2_with ((with_reducible apply arm_load hS); exact wanted_none; exact ev_tmp rfl; (repeat (with_reducible exact mem_hd)); rfl; decide +kernel; (try simp only [Act.put, q1, q2, q3]))
      go_ret
      exact ⟨_, rfl, .inl (d, a), hrd, hv, H1, hx, h0, k, n, tat, te, fin, o, nd, h1, h2, h3, h4, hS⟩
    · obtain ⟨hx, hi, hq, ho, hmm, hsz, hok, hR, hS⟩ := hs
      have hM := loopM_al hS mem_hd
      have hS0 := hS
      unfold alV psV at hS
      by_cases hk : knd q = 5
      · have hkk : ((tokE q.tk).1 == 5) = true := by simpa [knd] using hk
        have MC := makesC B text q hq w0 wr (fz H1 :: R) hS0
        rcases hmk : makesP q with ⟨d, a⟩ | q1
        · rw [hmk] at MC
          have hth : thenP (makesP q) (advP text) = .inl (d, a) := by rw [hmk]; rfl
          clear hmk
          go_wp2_with (first | ((with_reducible apply arm_load hS); (first | with_reducible exact wanted_none | exact wanted_guard rfl rfl); exact ev_tmp rfl; (repeat (with_reducible exact mem_hd)); rfl; decide +kernel; (try simp only [Act.put, q1, q2, q3])) | (go_at_call 114; refine MC.mono ?_; clear MC hS hS0; rintro e w ⟨rfl, hDd⟩) | (go_at_call 37; refine (advD_aft B text _ _ w0 _ _ hDd).mono ?_; clear hDd; rintro e w ⟨rfl, hDd⟩) | (go_at_call 139; refine (lvD_aft text _ hD B _ _ w0 _ _ hDd).mono ?_; clear hDd; rintro e w ⟨rfl, h0, k, n, tat, te, fin, o, nd, h1, h2, h3, h4, hS⟩; have hd2 : (d == 0) = false := (by simpa using h0); unfold psV at hS; dsimp only at hS))
          go_roundw
          case rel => exact ⟨.inl (d, a), .inr hi.form, hR _ (.loopA hk hth), H1, hx, h0, k, n, tat, te, fin, o, nd, by omega, h2, h3, h4, hS⟩
          case measure =>
            have := loopM_dead (text := text) h0 hS mem_hd
            omega
        · have hq1o : q1.opn = q.opn ∧ q1.nds = q.nds + 1 ∧ meas text q1 = meas text q ∧ knd q1 = knd q := by
            unfold makesP at hmk
            split at hmk
            · cases hmk
            · injection hmk with hmk
              subst hmk
              exact ⟨rfl, rfl, rfl, rfl⟩
          obtain ⟨o1, o2, o3, o4⟩ := hq1o
          rw [hmk] at MC
          rcases had : advP text q1 with ⟨d, a⟩ | q2
          · have hth : thenP (makesP q) (advP text) = .inl (d, a) := by rw [hmk]; exact had
            have AC := fun w hq1 hS => advC B text hl q1 hq1 w0 w hSig (fz H1 :: R) (List.mem_cons_of_mem _ hbm) hS
            rw [had] at AC
            clear hmk had
            go_wp2_with (first | ((with_reducible apply arm_load hS); (first | with_reducible exact wanted_none | exact wanted_guard rfl rfl); exact ev_tmp rfl; (repeat (with_reducible exact mem_hd)); rfl; decide +kernel; (try simp only [Act.put, q1, q2, q3])) | (go_at_call 114; refine MC.mono ?_; clear MC hS hS0; rintro e w ⟨rfl, hq1, hS⟩) | (go_at_call 37; refine (AC _ hq1 hS).mono ?_; clear AC hS; rintro e w ⟨rfl, hDd⟩) | (go_at_call 139; refine (lvD_aft text _ hD B _ _ w0 _ _ hDd).mono ?_; clear hDd; rintro e w ⟨rfl, h0, k, n, tat, te, fin, o, nd, h1, h2, h3, h4, hS⟩; have hd2 : (d == 0) = false := (by simpa using h0); unfold psV at hS; dsimp only at hS))
            go_roundw
            case rel => exact ⟨.inl (d, a), .inr hi.form, hR _ (.loopA hk hth), H1, hx, h0, k, n, tat, te, fin, o, nd, by omega, h2, h3, h4, hS⟩
            case measure =>
              have := loopM_dead (text := text) h0 hS mem_hd
              omega
          · have hth : thenP (makesP q) (advP text) = .inr q2 := by rw [hmk]; exact had
            have AC := fun w hq1 hS => advC B text hl q1 hq1 w0 w hSig (fz H1 :: R) (List.mem_cons_of_mem _ hbm) hS
            rw [had] at AC
            have hms : ∀ hq1 : PsB text q1, meas text q2 < meas text q1 ∧ q2.opn = q1.opn ∧ q2.nds = q1.nds := fun hq1 => advP_meas hq1 (by rw [o4, hk]; decide) had
            have UA := fun w hq2 hm2 hS => hA B q2 w0 w R H1 hq2 hm2 hSig hbm hS
            clear hmk had
            go_wp2_with (first | ((with_reducible apply arm_load hS); (first | with_reducible exact wanted_none | exact wanted_guard rfl rfl); exact ev_tmp rfl; (repeat (with_reducible exact mem_hd)); rfl; decide +kernel; (try simp only [Act.put, q1, q2, q3])) | (go_at_call 114; refine MC.mono ?_; clear MC hS hS0; rintro e w ⟨rfl, hq1, hS⟩) | (go_at_call 37; refine (AC _ hq1 hS).mono ?_; clear AC hS; rintro e w ⟨rfl, hq2, hS⟩; obtain ⟨m1, m2, m3⟩ := hms hq1; clear hms) | (go_at_call 139; refine (UA _ hq2 (by omega) hS).mono ?_; clear UA hS; rintro e w ⟨y, rfl, r3, hrd, hok3⟩; rcases r3 with ⟨d, a⟩ | ⟨t2, q3⟩; (focus (obtain ⟨hy, H3, hx3, h0, k, n, tat, te, fin, o, nd, h1, h2, h3, h4, hS⟩ := hok3)); (have hd2 : (d == 0) = false := (by simpa using h0)); (unfold psV at hS); (dsimp only at hS); rotate_left 1; (obtain ⟨c1, c2, c3, c4, c5, H3, hx3, hi3, hS⟩ := hok3); (unfold alV psV at hS); rotate_left 1) | (go_at_call 71; refine (joinM 7 (by unfold i64; omega) t t2 hok.ops c5.ops (by have := hq.2.1; omega) (by have := c1.2.1; omega) _ _ H3 (InT.ext hx3 hi) hi3 w0 _ (blk B 82 (alV text q3) :: R) (by unfold alV psV; exact hS.sb (by (repeat (first | with_reducible exact Sb.refl | (with_reducible refine Sb.take (by (repeat (with_reducible first | exact Rem.hd | apply Rem.tl)); done) ?_)))))).mono ?_; clear hS; rintro e w ⟨z, rfl, H4, hx4, hi4, hS⟩))
            · go_roundw
              case rel => exact ⟨.inl (d, a), .inr hi.form, hR _ (.loopE hk hth hrd), H3, hx.trans hx3, h0, k, n, tat, te, fin, o, nd, by omega, h2, h3, h4, hS⟩
              case measure =>
                have := loopM_dead (text := text) h0 hS mem_hd
                omega
            · have hS4 : Sat w0 _ (blk B 82 (alV text q3) :: fz H4 :: R) := hS.sb (by (repeat (first | with_reducible exact Sb.refl | (with_reducible refine Sb.take (by (repeat (with_reducible first | exact Rem.hd | apply Rem.tl)); done) ?_))))
              go_roundw
              case rel => exact ⟨.inr (.bin 7 t t2, q3, H4), (hx.trans hx3).trans hx4, hi4, c1, by omega, by omega, by simp only [size]; omega, ⟨by decide, by decide, hok, c5⟩, fun r h => hR r (.loopK hk hth hrd h), hS4⟩
              case measure =>
                have := loopM_al hS4 mem_hd
                omega
      · have hkk : ((tokE q.tk).1 == 5) = false := by simpa [knd] using hk
        go_wp2_with ((with_reducible apply arm_load hS); (first | with_reducible exact wanted_none | exact wanted_guard rfl rfl); exact ev_tmp rfl; (repeat (with_reducible exact mem_hd)); rfl; decide +kernel; (try simp only [Act.put, q1, q2, q3]))
        go_ret
        exact ⟨_, rfl, .inr (t, q), hR _ (.loopN hk), hq, ho, hmm, hsz, hok, H1, hx, hi, hS0⟩
theorem chainD1 (text : List UInt8) (hD : LvD text 82) (B : Nat) (k n tat te fin o nd d a c op : Int) (w0 w : World) (R : List HP) (hd : d ≠ 0) (hS : Sat w0 w (blk B 82 (psV text k n tat te fin o nd d a) :: R)) :
    Calls Tryz.prog 81 #[.pointer (some ⟨B, 0, none⟩), .int .i64 c, .int .i64 op, .func (.func 82) #[.pointer (some ⟨B, 0, none⟩)] #[]] w fun e w' => e = .returned .nilIface ∧ Sat w0 w' (blk B 82 (psV text k n tat te fin o nd d a) :: R) := by
  have GD := fun w R hS => hD B k n tat te fin o nd d a w0 w R hd hS
  unfold psV at hS GD
  have hd2 : (d == 0) = false := by simp [hd]
  go_enter Tryz.func81, Tryz.ntmps81
  go_wp2_with (go_at_call 82; refine (GD _ _ hS).mono ?_; clear hS; rintro e w ⟨rfl, hS⟩)
  go_loopw [9] (fun x wr => x = .nilIface ∧ Sat w0 wr (blk B 82 [.string ⟨text.toArray⟩, .int .i64 k, .int .i64 n, .int .i64 tat, .int .i64 te, .int .i64 fin, .int .i64 o, .int .i64 nd, .int .i64 d, .int .i64 a] :: R)) (fun _ _ => 0)
  case atStart => exact ⟨rfl, hS⟩
  case round =>
    clear hS
    obtain ⟨rfl, hS⟩ := hrel
    go_wp2_with ((with_reducible apply arm_load hS); exact wanted_none; exact ev_tmp rfl; (repeat (with_reducible exact mem_hd)); rfl; decide +kernel; (try simp only [Act.put, q1, q2, q3]))
    go_ret
    exact ⟨rfl, hS⟩
set_option maxHeartbeats 4000000 in
theorem chainA1 (text : List UInt8) (hl : text.length ≤ 1048576) (n : Nat) (hA : LvA text 82 2 n) (hD : LvD text 82) (B : Nat) (p : Ps) (w0 w : World) (R : List HP) (H : Hp) (hp : PsB text p) (hm : meas text p ≤ n) (hSig : SigE w0) (hbm : base w0 ∈ R)
    (hS : Sat w0 w (blk B 82 (alV text p) :: fz H :: R)) :
    Calls Tryz.prog 81 #[.pointer (some ⟨B, 0, none⟩), .int .i64 8, .int .i64 10, .func (.func 82) #[.pointer (some ⟨B, 0, none⟩)] #[]] w fun e w' => ∃ v, e = .returned v ∧ ∃ r, RD text (.lvl 1) p r ∧ okR w0 w' R H B text p v r := by
  have UA := hA B p w0 w R H hp hm hSig hbm hS
  go_enter Tryz.func81, Tryz.ntmps81
  go_wp2_with (go_at_call 82; refine UA.mono ?_; clear hS UA; rintro e w ⟨v, rfl, r, hrd, hok⟩)
  go_loopw [9] (fun x wr => ∃ s, chSt w0 R H B text 1 p x wr s) (fun _ wr => loopM text B wr)
  case atStart =>
    rcases r with x | ⟨t, q⟩
    · exact ⟨.inl x, hok.1, .lvlE (by decide) hrd, hok.2⟩
    · obtain ⟨h1, h2, h3, h4, h5, H', h6, h7, hS⟩ := hok
      exact ⟨.inr (t, q, H'), h6, h7, h1, h2, h3, h4, h5, fun r h => .lvlK (by decide) hrd h, hS⟩
  case round =>
    clear hok hrd
    obtain ⟨s, hs⟩ := hrel
    rcases s with x | ⟨t, q, H1⟩
    · obtain ⟨hv, hrd, H1, hx, h0, k, n, tat, te, fin, o, nd, h1, h2, h3, h4, hS⟩ := hs
      have hd2 : (x.1 == 0) = false := by simp [h0]
      unfold psV at hS
      have HX : Hid (x.1 = x.1) := hid rfl
      obtain ⟨d, a⟩ := x
      dsimp only at *
      go_wp2_with ((with_reducible apply arm_load hS); exact wanted_none; exact ev_tmp rfl; (repeat (with_reducible exact mem_hd)); rfl; decide +kernel; (try simp only [Act.put, q1, q2, q3]))
      go_ret
      exact ⟨_, rfl, .inl (d, a), hrd, hv, H1, hx, h0, k, n, tat, te, fin, o, nd, h1, h2, h3, h4, hS⟩
    · obtain ⟨hx, hi, hq, ho, hmm, hsz, hok, hR, hS⟩ := hs
      have hM := loopM_al hS mem_hd
      have hS0 := hS
      unfold alV psV at hS
      by_cases hk : knd q = 8
      · have hkk : ((tokE q.tk).1 == 8) = true := by simpa [knd] using hk
        have MC := makesC B text q hq w0 wr (fz H1 :: R) hS0
        rcases hmk : makesP q with ⟨d, a⟩ | q1
        · rw [hmk] at MC
          have hth : thenP (makesP q) (advP text) = .inl (d, a) := by rw [hmk]; rfl
          clear hmk
          go_wp2_with (first | ((with_reducible apply arm_load hS); (first | with_reducible exact wanted_none | exact wanted_guard rfl rfl); exact ev_tmp rfl; (repeat (with_reducible exact mem_hd)); rfl; decide +kernel; (try simp only [Act.put, q1, q2, q3])) | (go_at_call 114; refine MC.mono ?_; clear MC hS hS0; rintro e w ⟨rfl, hDd⟩) | (go_at_call 37; refine (advD_aft B text _ _ w0 _ _ hDd).mono ?_; clear hDd; rintro e w ⟨rfl, hDd⟩) | (go_at_call 82; refine (lvD_aft text _ hD B _ _ w0 _ _ hDd).mono ?_; clear hDd; rintro e w ⟨rfl, h0, k, n, tat, te, fin, o, nd, h1, h2, h3, h4, hS⟩; have hd2 : (d == 0) = false := (by simpa using h0); unfold psV at hS; dsimp only at hS))
          go_roundw
          case rel => exact ⟨.inl (d, a), .inr hi.form, hR _ (.loopA hk hth), H1, hx, h0, k, n, tat, te, fin, o, nd, by omega, h2, h3, h4, hS⟩
          case measure =>
            have := loopM_dead (text := text) h0 hS mem_hd
            omega
        · have hq1o : q1.opn = q.opn ∧ q1.nds = q.nds + 1 ∧ meas text q1 = meas text q ∧ knd q1 = knd q := by
            unfold makesP at hmk
            split at hmk
            · cases hmk
            · injection hmk with hmk
              subst hmk
              exact ⟨rfl, rfl, rfl, rfl⟩
          obtain ⟨o1, o2, o3, o4⟩ := hq1o
          rw [hmk] at MC
          rcases had : advP text q1 with ⟨d, a⟩ | q2
          · have hth : thenP (makesP q) (advP text) = .inl (d, a) := by rw [hmk]; exact had
            have AC := fun w hq1 hS => advC B text hl q1 hq1 w0 w hSig (fz H1 :: R) (List.mem_cons_of_mem _ hbm) hS
            rw [had] at AC
            clear hmk had
            go_wp2_with (first | ((with_reducible apply arm_load hS); (first | with_reducible exact wanted_none | exact wanted_guard rfl rfl); exact ev_tmp rfl; (repeat (with_reducible exact mem_hd)); rfl; decide +kernel; (try simp only [Act.put, q1, q2, q3])) | (go_at_call 114; refine MC.mono ?_; clear MC hS hS0; rintro e w ⟨rfl, hq1, hS⟩) | (go_at_call 37; refine (AC _ hq1 hS).mono ?_; clear AC hS; rintro e w ⟨rfl, hDd⟩) | (go_at_call 82; refine (lvD_aft text _ hD B _ _ w0 _ _ hDd).mono ?_; clear hDd; rintro e w ⟨rfl, h0, k, n, tat, te, fin, o, nd, h1, h2, h3, h4, hS⟩; have hd2 : (d == 0) = false := (by simpa using h0); unfold psV at hS; dsimp only at hS))
            go_roundw
            case rel => exact ⟨.inl (d, a), .inr hi.form, hR _ (.loopA hk hth), H1, hx, h0, k, n, tat, te, fin, o, nd, by omega, h2, h3, h4, hS⟩
            case measure =>
              have := loopM_dead (text := text) h0 hS mem_hd
              omega
          · have hth : thenP (makesP q) (advP text) = .inr q2 := by rw [hmk]; exact had
            have AC := fun w hq1 hS => advC B text hl q1 hq1 w0 w hSig (fz H1 :: R) (List.mem_cons_of_mem _ hbm) hS
            rw [had] at AC
            have hms : ∀ hq1 : PsB text q1, meas text q2 < meas text q1 ∧ q2.opn = q1.opn ∧ q2.nds = q1.nds := fun hq1 => advP_meas hq1 (by rw [o4, hk]; decide) had
            have UA := fun w hq2 hm2 hS => hA B q2 w0 w R H1 hq2 hm2 hSig hbm hS
            clear hmk had
            go_wp2_with (first | ((with_reducible apply arm_load hS); (first | with_reducible exact wanted_none | exact wanted_guard rfl rfl); exact ev_tmp rfl; (repeat (with_reducible exact mem_hd)); rfl; decide +kernel; (try simp only [Act.put, q1, q2, q3])) | (go_at_call 114; refine MC.mono ?_; clear MC hS hS0; rintro e w ⟨rfl, hq1, hS⟩) | (go_at_call 37; refine (AC _ hq1 hS).mono ?_; clear AC hS; rintro e w ⟨rfl, hq2, hS⟩; obtain ⟨m1, m2, m3⟩ := hms hq1; clear hms) | (go_at_call 82; refine (UA _ hq2 (by omega) hS).mono ?_; clear UA hS; rintro e w ⟨y, rfl, r3, hrd, hok3⟩; rcases r3 with ⟨d, a⟩ | ⟨t2, q3⟩; (focus (obtain ⟨hy, H3, hx3, h0, k, n, tat, te, fin, o, nd, h1, h2, h3, h4, hS⟩ := hok3)); (have hd2 : (d == 0) = false := (by simpa using h0)); (unfold psV at hS); (dsimp only at hS); rotate_left 1; (obtain ⟨c1, c2, c3, c4, c5, H3, hx3, hi3, hS⟩ := hok3); (unfold alV psV at hS); rotate_left 1) | (go_at_call 71; refine (joinM 10 (by unfold i64; omega) t t2 hok.ops c5.ops (by have := hq.2.1; omega) (by have := c1.2.1; omega) _ _ H3 (InT.ext hx3 hi) hi3 w0 _ (blk B 82 (alV text q3) :: R) (by unfold alV psV; exact hS.sb (by (repeat (first | with_reducible exact Sb.refl | (with_reducible refine Sb.take (by (repeat (with_reducible first | exact Rem.hd | apply Rem.tl)); done) ?_)))))).mono ?_; clear hS; rintro e w ⟨z, rfl, H4, hx4, hi4, hS⟩))
            · go_roundw
              case rel => exact ⟨.inl (d, a), .inr hi.form, hR _ (.loopE hk hth hrd), H3, hx.trans hx3, h0, k, n, tat, te, fin, o, nd, by omega, h2, h3, h4, hS⟩
              case measure =>
                have := loopM_dead (text := text) h0 hS mem_hd
                omega
            · have hS4 : Sat w0 _ (blk B 82 (alV text q3) :: fz H4 :: R) := hS.sb (by (repeat (first | with_reducible exact Sb.refl | (with_reducible refine Sb.take (by (repeat (with_reducible first | exact Rem.hd | apply Rem.tl)); done) ?_))))
              go_roundw
              case rel => exact ⟨.inr (.bin 10 t t2, q3, H4), (hx.trans hx3).trans hx4, hi4, c1, by omega, by omega, by simp only [size]; omega, ⟨by decide, by decide, hok, c5⟩, fun r h => hR r (.loopK hk hth hrd h), hS4⟩
              case measure =>
                have := loopM_al hS4 mem_hd
                omega
      · have hkk : ((tokE q.tk).1 == 8) = false := by simpa [knd] using hk
        go_wp2_with ((with_reducible apply arm_load hS); (first | with_reducible exact wanted_none | exact wanted_guard rfl rfl); exact ev_tmp rfl; (repeat (with_reducible exact mem_hd)); rfl; decide +kernel; (try simp only [Act.put, q1, q2, q3]))
        go_ret
        exact ⟨_, rfl, .inr (t, q), hR _ (.loopN hk), hq, ho, hmm, hsz, hok, H1, hx, hi, hS0⟩
end Go.Proofs.YthackanffcaejaaGreatDoor
end
section
set_option linter.unusedSimpArgs false
set_option linter.unusedVariables false
set_option maxRecDepth 20000
namespace Go.Proofs.YthackanffcaejaaGreatDoor
open Go Go.RowKit Go.SL Go.ClauseP Go.LexP

theorem andD (text : List UInt8) (hD : LvD text 162) : LvD text 151 := by
  intro B k n tat te fin o nd d a w0 w R hd hS
  have CD := chainD5 text hD B k n tat te fin o nd d a 4 6 w0 w R hd hS
  go_enter Tryz.func151, Tryz.ntmps151
  go_wp2_with (first | (go_at_call 81; refine CD.mono ?_; clear hS CD; rintro e w ⟨rfl, hS⟩))
  go_ret
  exact ⟨rfl, hS⟩
theorem andA (text : List UInt8) (hl : text.length ≤ 1048576) (n : Nat) (hA : LvA text 162 6 n) (hD : LvD text 162) : LvA text 151 5 n := by
  intro B p w0 w R H hp hm hSig hbm hS
  have CA := chainA5 text hl n hA hD B p w0 w R H hp hm hSig hbm hS
  go_enter Tryz.func151, Tryz.ntmps151
  go_wp2_with (first | (go_at_call 81; refine CA.mono ?_; clear hS CA; rintro e w ⟨v, rfl, r, hrd, hok⟩))
  go_ret
  exact ⟨_, rfl, r, hrd, hok⟩
theorem xorD (text : List UInt8) (hD : LvD text 151) : LvD text 139 := by
  intro B k n tat te fin o nd d a w0 w R hd hS
  have CD := chainD4 text hD B k n tat te fin o nd d a 6 8 w0 w R hd hS
  go_enter Tryz.func139, Tryz.ntmps139
  go_wp2_with (first | (go_at_call 81; refine CD.mono ?_; clear hS CD; rintro e w ⟨rfl, hS⟩))
  go_ret
  exact ⟨rfl, hS⟩
theorem xorA (text : List UInt8) (hl : text.length ≤ 1048576) (n : Nat) (hA : LvA text 151 5 n) (hD : LvD text 151) : LvA text 139 4 n := by
  intro B p w0 w R H hp hm hSig hbm hS
  have CA := chainA4 text hl n hA hD B p w0 w R H hp hm hSig hbm hS
  go_enter Tryz.func139, Tryz.ntmps139
  go_wp2_with (first | (go_at_call 81; refine CA.mono ?_; clear hS CA; rintro e w ⟨v, rfl, r, hrd, hok⟩))
  go_ret
  exact ⟨_, rfl, r, hrd, hok⟩
theorem orD (text : List UInt8) (hD : LvD text 139) : LvD text 115 := by
  intro B k n tat te fin o nd d a w0 w R hd hS
  have CD := chainD3 text hD B k n tat te fin o nd d a 5 7 w0 w R hd hS
  go_enter Tryz.func115, Tryz.ntmps115
  go_wp2_with (first | (go_at_call 81; refine CD.mono ?_; clear hS CD; rintro e w ⟨rfl, hS⟩))
  go_ret
  exact ⟨rfl, hS⟩
theorem orA (text : List UInt8) (hl : text.length ≤ 1048576) (n : Nat) (hA : LvA text 139 4 n) (hD : LvD text 139) : LvA text 115 3 n := by
  intro B p w0 w R H hp hm hSig hbm hS
  have CA := chainA3 text hl n hA hD B p w0 w R H hp hm hSig hbm hS
  go_enter Tryz.func115, Tryz.ntmps115
  go_wp2_with (first | (go_at_call 81; refine CA.mono ?_; clear hS CA; rintro e w ⟨v, rfl, r, hrd, hok⟩))
  go_ret
  exact ⟨_, rfl, r, hrd, hok⟩
theorem formulaD (text : List UInt8) (hD : LvD text 82) : LvD text 38 := by
  intro B k n tat te fin o nd d a w0 w R hd hS
  have CD := chainD1 text hD B k n tat te fin o nd d a 8 10 w0 w R hd hS
  go_enter Tryz.func38, Tryz.ntmps38
  go_wp2_with (first | (go_at_call 81; refine CD.mono ?_; clear hS CD; rintro e w ⟨rfl, hS⟩))
  go_ret
  exact ⟨rfl, hS⟩
theorem formulaA (text : List UInt8) (hl : text.length ≤ 1048576) (n : Nat) (hA : LvA text 82 2 n) (hD : LvD text 82) : LvA text 38 1 n := by
  intro B p w0 w R H hp hm hSig hbm hS
  have CA := chainA1 text hl n hA hD B p w0 w R H hp hm hSig hbm hS
  go_enter Tryz.func38, Tryz.ntmps38
  go_wp2_with (first | (go_at_call 81; refine CA.mono ?_; clear hS CA; rintro e w ⟨v, rfl, r, hrd, hok⟩))
  go_ret
  exact ⟨_, rfl, r, hrd, hok⟩
end Go.Proofs.YthackanffcaejaaGreatDoor
end
