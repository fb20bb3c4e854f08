/- The document's world: an assignment by variable that grows; what it says, and a quantifier's two tries. -/
import Derived.Test.YthackanffcaejaaGreatDoorY1
import Derived.Test.YthackanffcaejaaGreatDoorYEm1
set_option linter.unusedSimpArgs false
set_option linter.unusedVariables false
set_option linter.unusedSectionVars false
set_option maxRecDepth 20000
namespace Go.Proofs.YthackanffcaejaaGreatDoor
open Go Go.RowKit Go.SL

theorem BV_length (l : List Bool) : (BV l).length = l.length := by simp [BV]
theorem BV_at {l : List Bool} {k : Nat} {b : Bool} (h : l[k]? = some b) : (BV l)[k]? = some (.bool b) := by simp [BV, h]
theorem BV_set (l : List Bool) (k : Nat) (b : Bool) : (BV l).set k (.bool b) = BV (l.set k b) := by simp [BV, List.map_set]
theorem BV_append (l m : List Bool) : BV (l ++ m) = BV l ++ BV m := by simp [BV]
theorem BV_one (l : List Bool) : ∀ u ∈ BV l, u.oneCell' = true := by
  intro u hu
  obtain ⟨b, _, rfl⟩ := List.mem_map.1 hu
  rfl
/-- A world whose bits are l. -/
def wl (p : Nat) (x y : Value) (l : List Bool) : HP := fun h => ∃ (ad : Option Addr) (cap : Nat), sep (blk p 109 [x, y, .slice ad l.length cap]) (own 4 1 ad l.length cap (BV l)) h
section
variable {w0 w : World} {R : List HP} {p : Nat} {x y : Value} {l : List Bool}
theorem open_wl (hS : Sat w0 w (wl p x y l :: R)) :
    ∃ (ad : Option Addr) (cap : Nat), Sat w0 w (blk p 109 [x, y, .slice ad l.length cap] :: own 4 1 ad l.length cap (BV l) :: R) := by
  obtain ⟨ad, hS⟩ := hS.ex
  obtain ⟨cap, hS⟩ := hS.ex
  exact ⟨ad, cap, hS.split⟩
theorem shut_wl {ad : Option Addr} {n cap : Nat} (hn : n = l.length)
    (hS : Sat w0 w (blk p 109 [x, y, .slice ad n cap] :: own 4 1 ad n cap (BV l) :: R)) : Sat w0 w (wl p x y l :: R) := by
  subst hn
  exact (hS.join).turn fun g h => ⟨ad, cap, h⟩
theorem shut_set {ad : Option Addr} {n cap m : Nat} {b : Bool} (hn : n = l.length)
    (hS : Sat w0 w (blk p 109 [x, y, .slice ad n cap] :: own 4 1 ad n cap ((BV l).set m (.bool b)) :: R)) : Sat w0 w (wl p x y (l.set m b) :: R) := by
  rw [BV_set] at hS
  exact shut_wl (by simpa using hn) hS
end
def wlen (p : Nat) (w : World) : Nat := match w.cell? ⟨p, 2, none⟩ with
  | some (.slice _ n _) => n
  | _ => 0
theorem wlen_is {w0 w : World} {R : List HP} {p : Nat} {x y : Value} {ad : Option Addr} {n cap : Nat} (hS : Sat w0 w R) (hm : blk p 109 [x, y, .slice ad n cap] ∈ R) : wlen p w = n := by
  have h := hS.cell hm (show [x, y, Value.slice ad n cap][2]? = some (.slice ad n cap) from rfl)
  unfold wlen
  rw [h]
theorem saysC (p : Nat) (x y : Value) (l : List Bool) (v : Int) (hv : 0 ≤ v) (w0 w : World) (R : List HP) (hS : Sat w0 w (wl p x y l :: R)) :
    Calls Tryz.prog 94 #[.pointer (some ⟨p, 0, none⟩), .int .i64 v] w fun e w' => e = .returned (.bool (envD l v)) ∧ Sat w0 w' (wl p x y l :: R) := by
  obtain ⟨PA, PC, hS⟩ := open_wl hS
  obtain ⟨m, rfl⟩ : ∃ m : Nat, v = m := ⟨v.toNat, by omega⟩
  by_cases hlt : m < l.length
  · obtain ⟨b, hb⟩ : ∃ b, l[m]? = some b := ⟨_, List.getElem?_eq_getElem hlt⟩
    have hc : (BV l)[m]? = some (.bool b) := BV_at hb
    have hmi : (m : Int) < (l.length : Int) := by omega
    have hE : envD l m = b := by unfold envD; rw [decide_eq_true hmi]; simp [hb]
    have hne : ∃ aa, PA = some aa ∧ aa.spot = none := hS.ownNN (.tail _ (.head _)) (by omega)
    rw [hE]
    clear hE hb
    go_enter Tryz.func94, Tryz.ntmps94
    go_wp2_with (first | ((with_reducible apply arm_load hS); (first | with_reducible exact wanted_none | exact wanted_guard rfl rfl); (first | exact ev_tmp rfl | exact ev_const); (repeat (with_reducible first | exact mem_hd | apply mem_tl)); rfl; decide +kernel; (try simp only [Act.put, q1, q2, q3])) | ((with_reducible apply arm_indexAddr); (first | with_reducible exact wanted_none | exact wanted_guard rfl rfl); (first | exact ev_tmp rfl | exact ev_const); (first | exact ev_tmp rfl | exact ev_const); (with_reducible first | exact E22 | exact E35 | exact E42); (first | omega | (focus (simp; done)) | (simp; omega)); (first | omega | (focus (simp; done)) | (simp; omega)); (first | exact hS.ownNN (by (repeat (with_reducible first | exact mem_hd | apply mem_tl))) (by omega) | exact Sat.rdAd2 (by assumption) hS (by ((repeat (with_reducible first | exact mem_hd | apply mem_tl))); try assumption) (by first | (simp only [Is_length, Bs_length, List.length_take, List.length_drop]; omega) | omega | (simp; omega) | (simp; done)) | assumption); (first | (simp only [Int.toNat_natCast, Nat.mul_one, Nat.zero_add, tn_sub, tn_sub1, tn_sub2, tn_sub3, tn_add, tn_add1, tn_add2]; rfl) | rfl); (try simp only [Act.put, q1, q2, q3])) | ((with_reducible apply arm_loadE); (first | with_reducible exact wanted_none | exact wanted_guard rfl rfl); (first | exact ev_tmp rfl | exact ev_const); (first | exact (hS.ownCell (by (repeat (with_reducible first | exact mem_hd | apply mem_tl))) (by (first | assumption | exact Is_at (by assumption) | exact Bs_at (by assumption) | rfl | (simp; done)))).1 | exact Sat.rdCell2 (by assumption) hS (by ((repeat (with_reducible first | exact mem_hd | apply mem_tl))); try assumption) (by (first | assumption | exact Is_at (by assumption) | exact Bs_at (by assumption) | rfl | (simp; done)))); decide +kernel; (try simp only [Act.put, q1, q2, q3])))
    go_ret
    exact ⟨rfl, shut_wl rfl hS⟩
  · have hmi : ¬ (m : Int) < (l.length : Int) := by omega
    have hE : envD l m = false := by unfold envD; rw [decide_eq_false hmi]; rfl
    rw [hE]
    clear hE
    go_enter Tryz.func94, Tryz.ntmps94
    go_wp2_with (first | ((with_reducible apply arm_load hS); (first | with_reducible exact wanted_none | exact wanted_guard rfl rfl); (first | exact ev_tmp rfl | exact ev_const); (repeat (with_reducible first | exact mem_hd | apply mem_tl)); rfl; decide +kernel; (try simp only [Act.put, q1, q2, q3])) | ((with_reducible apply arm_indexAddr); (first | with_reducible exact wanted_none | exact wanted_guard rfl rfl); (first | exact ev_tmp rfl | exact ev_const); (first | exact ev_tmp rfl | exact ev_const); (with_reducible first | exact E22 | exact E35 | exact E42); (first | omega | (focus (simp; done)) | (simp; omega)); (first | omega | (focus (simp; done)) | (simp; omega)); (first | exact hS.ownNN (by (repeat (with_reducible first | exact mem_hd | apply mem_tl))) (by omega) | exact Sat.rdAd2 (by assumption) hS (by ((repeat (with_reducible first | exact mem_hd | apply mem_tl))); try assumption) (by first | (simp only [Is_length, Bs_length, List.length_take, List.length_drop]; omega) | omega | (simp; omega) | (simp; done)) | assumption); (first | (simp only [Int.toNat_natCast, Nat.mul_one, Nat.zero_add, tn_sub, tn_sub1, tn_sub2, tn_sub3, tn_add, tn_add1, tn_add2]; rfl) | rfl); (try simp only [Act.put, q1, q2, q3])) | ((with_reducible apply arm_loadE); (first | with_reducible exact wanted_none | exact wanted_guard rfl rfl); (first | exact ev_tmp rfl | exact ev_const); (first | exact (hS.ownCell (by (repeat (with_reducible first | exact mem_hd | apply mem_tl))) (by (first | assumption | exact Is_at (by assumption) | exact Bs_at (by assumption) | rfl | (simp; done)))).1 | exact Sat.rdCell2 (by assumption) hS (by ((repeat (with_reducible first | exact mem_hd | apply mem_tl))); try assumption) (by (first | assumption | exact Is_at (by assumption) | exact Bs_at (by assumption) | rfl | (simp; done)))); decide +kernel; (try simp only [Act.put, q1, q2, q3])))
    go_ret
    exact ⟨rfl, shut_wl rfl hS⟩
/-- What truth does at the subtree t. -/
def TrM (fs : List (Int × Int)) (fr : List Int) (t : T) : Prop := ∀ (s : Nat) (x : Int) (p : Nat) (af ar : Option Addr) (cf cr : Nat) (AF AR : HP) (l : List Bool) (w0 w : World) (R : List HP),
  Sub fs fr s t → s + size t ≤ fs.length → x = ((s + size t - 1 : Nat) : Int) → PgIn fs fr af ar AF AR R →
  Sat w0 w (wl p (.slice af fs.length cf) (.slice ar fs.length cr) l :: R) →
  Calls Tryz.prog 57 #[.pointer (some ⟨p, 0, none⟩), .int .i64 x] w fun e w' => e = .returned (.bool (evT t (envD l))) ∧ ∃ l', Grw l l' ∧ Sat w0 w' (wl p (.slice af fs.length cf) (.slice ar fs.length cr) l' :: R)
set_option maxHeartbeats 4000000 in
theorem triesC (fs : List (Int × Int)) (fr : List Int) (op : Int) (m : Nat) (a : T) (hk : okT (.qu op (m : Int) a)) (ih : TrM fs fr a) (s : Nat) (x : Int) (p : Nat) (af ar : Option Addr) (cf cr : Nat) (AF AR : HP) (l : List Bool) (w0 w : World) (R : List HP)
    (hs : Sub fs fr s (.qu op (m : Int) a)) (hb : s + size (.qu op (m : Int) a) ≤ fs.length) (hx : x = ((s + size (.qu op (m : Int) a) - 1 : Nat) : Int)) (hP : PgIn fs fr af ar AF AR R)
    (hS : Sat w0 w (wl p (.slice af fs.length cf) (.slice ar fs.length cr) l :: R)) :
    Calls Tryz.prog 95 #[.pointer (some ⟨p, 0, none⟩), .int .i64 x] w fun e w' => e = .returned (.bool (evT (.qu op (m : Int) a) (envD l))) ∧ ∃ l', Grw l l' ∧ Sat w0 w' (wl p (.slice af fs.length cf) (.slice ar fs.length cr) l' :: R) := by
  obtain ⟨x0, x1, xN, xO, xM, xF, nf, nr⟩ := treeFacts hs hb hx (hP.tail _) hS
  obtain ⟨hop, _, hm1, ka⟩ := hk
  simp only [rootOp, rootN] at xN xO xM
  simp only [size] at hb hx
  have hpa := size_pos a
  have rf := hP.rf
  have mf := hP.mf
  have hm65 : m < 65536 := by omega
  have hnn := hP.hn
  have hev : evT (.qu op (m : Int) a) (envD l) = if op = 4 then evT a (setF (envD l) m false) || evT a (setF (envD l) m true) else evT a (setF (envD l) m false) && evT a (setF (envD l) m true) := rfl
  have IH : ∀ (l1 : List Bool) (b : Bool) (h1 : Grw l l1) (h2 : m < l1.length) (l2 : List Bool) (h3 : Grw (l1.set m b) l2) (w : World), Sat w0 w (wl p (.slice af fs.length cf) (.slice ar fs.length cr) l2 :: R) →
      Calls Tryz.prog 57 #[.pointer (some ⟨p, 0, none⟩), .int .i64 (x - 1)] w fun e w' => e = .returned (.bool (evT a (setF (envD l) m b))) ∧ ∃ l', Grw l2 l' ∧ Sat w0 w' (wl p (.slice af fs.length cf) (.slice ar fs.length cr) l' :: R) := by
    intro l1 b h1 h2 l2 h3 w hS
    have h := ih s (x - 1) p af ar cf cr AF AR l2 w0 w R hs.1 (by omega) (by omega) hP hS
    rw [h3.env, ev_set ka h2, h1.env] at h
    exact h
  have I0 := fun L h1 h2 => IH L false h1 h2 _ (Grw.refl _)
  have I1 := fun L h1 h2 => IH L true h1 h2
  obtain ⟨E, hE⟩ : ∃ E, E = evT (.qu op (m : Int) a) (envD l) := ⟨_, rfl⟩
  rw [← hE]
  rw [hev] at hE
  clear hev ih hs IH xF
  generalize evT a (setF (envD l) m false) = b0 at *
  generalize evT a (setF (envD l) m true) = b1 at *
  have HN := hid hx
  have HE := hid hE
  clear hx hE
  obtain ⟨PA, PC, hS⟩ := open_wl hS
  rcases hop with rfl | rfl
  all_goals
    go_enter Tryz.func95, Tryz.ntmps95
    go_wp2_with (first | ((with_reducible apply arm_load hS); (first | with_reducible exact wanted_none | exact wanted_guard rfl rfl); (first | exact ev_tmp rfl | exact ev_const); (repeat (with_reducible first | exact mem_hd | apply mem_tl)); rfl; decide +kernel; (try simp only [Act.put, q1, q2, q3])) | ((with_reducible apply arm_indexAddr); (first | with_reducible exact wanted_none | exact wanted_guard rfl rfl); (first | exact ev_tmp rfl | exact ev_const); (first | exact ev_tmp rfl | exact ev_const); (with_reducible first | exact E22 | exact E35 | exact E42); (first | omega | (focus (simp; done)) | (simp; omega)); (first | omega | (focus (simp; done)) | (simp; omega)); (first | exact hS.ownNN (by (repeat (with_reducible first | exact mem_hd | apply mem_tl))) (by omega) | exact Sat.rdAd2 (by assumption) hS (by ((repeat (with_reducible first | exact mem_hd | apply mem_tl))); try assumption) (by first | (simp only [Is_length, Bs_length, List.length_take, List.length_drop]; omega) | omega | (simp; omega) | (simp; done)) | assumption); (first | (simp only [Int.toNat_natCast, Nat.mul_one, Nat.zero_add, tn_sub, tn_sub1, tn_sub2, tn_sub3, tn_add, tn_add1, tn_add2]; rfl) | rfl); (try simp only [Act.put, q1, q2, q3])) | ((with_reducible apply arm_fieldAddrE); (first | with_reducible exact wanted_none | exact wanted_guard rfl rfl); (first | exact ev_tmp rfl | exact ev_const); (first | exact hS.ownNN (by (repeat (with_reducible first | exact mem_hd | apply mem_tl))) (by omega) | exact Sat.rdAd2 (by assumption) hS (by ((repeat (with_reducible first | exact mem_hd | apply mem_tl))); try assumption) (by first | (simp only [Is_length, Bs_length, List.length_take, List.length_drop]; omega) | omega | (simp; omega) | (simp; done)) | assumption); (with_reducible first | exact fo50_0 | exact fo50_1 | exact fo109_0 | exact fo109_1 | exact fo109_2); (try simp only [Act.put, q1, q2, q3])) | ((with_reducible apply arm_loadE); (first | with_reducible exact wanted_none | exact wanted_guard rfl rfl); (first | exact ev_tmp rfl | exact ev_const); (first | exact (hS.ownCell (by (repeat (with_reducible first | exact mem_hd | apply mem_tl))) (by (first | assumption | exact Is_at (by assumption) | exact Bs_at (by assumption) | rfl | (simp; done)))).1 | exact Sat.rdCell2 (by assumption) hS (by ((repeat (with_reducible first | exact mem_hd | apply mem_tl))); try assumption) (by (first | assumption | exact Is_at (by assumption) | exact Bs_at (by assumption) | rfl | (simp; done)))); decide +kernel; (try simp only [Act.put, q1, q2, q3])))
    go_loopw [] (fun wr => ∃ (L : List Bool) (ad' : Option Addr) (cap' : Nat), Grw l L ∧ Sat w0 wr (blk p 109 [.slice af fs.length cf, .slice ar fs.length cr, .slice ad' L.length cap'] :: own 4 1 ad' L.length cap' (BV L) :: R)) (fun wr => m + 1 - wlen p wr)
    case atStart => exact ⟨l, PA, PC, Grw.refl _, hS⟩
    case round =>
      clear hS
      obtain ⟨L, AD0, CAP0, hg, hS⟩ := hrel
      by_cases hlt : L.length ≤ m
      · have hmi : (L.length : Int) ≤ (m : Int) := by omega
        have hlen := wlen_is hS mem_hd
        go_wp2_with (first | ((with_reducible apply arm_load hS); (first | with_reducible exact wanted_none | exact wanted_guard rfl rfl); (first | exact ev_tmp rfl | exact ev_const); (repeat (with_reducible first | exact mem_hd | apply mem_tl)); rfl; decide +kernel; (try simp only [Act.put, q1, q2, q3])) | ((with_reducible apply arm_build1 hS); (first | with_reducible exact wanted_none | exact wanted_guard rfl rfl); (with_reducible first | exact E22 | exact E35 | exact E42); (first | exact ev_tmp rfl | exact ev_const); (first | with_reducible exact cells_agg | exact cells_one rfl); rfl; decide; clear hS; intro NB w hS; (try simp only [Act.put, q1, q2, q3])) | ((with_reducible apply arm_appendB hS); (first | with_reducible exact wanted_none | exact wanted_guard rfl rfl); (first | exact ev_tmp rfl | exact ev_const); (first | exact ev_tmp rfl | exact ev_const); (with_reducible first | exact E22 | exact E35 | exact E42); (repeat (with_reducible first | exact Rem.hd | apply Rem.tl)); (repeat (with_reducible first | exact Rem.hd | apply Rem.tl)); rfl; rfl; (first | omega | (focus (simp; done)) | (simp; omega)); (first | omega | (focus (simp; done)) | (simp; omega)); clear hS; intro AD CAP w hS; (try simp only [Nat.zero_add, List.nil_append] at hS); (try simp only [Act.put, q1, q2, q3])) | ((with_reducible apply arm_store hS); (first | with_reducible exact wanted_none | exact wanted_guard rfl rfl); (first | exact ev_tmp rfl | exact ev_const); (first | exact ev_tmp rfl | exact ev_const); (repeat (with_reducible first | exact mem_hd | apply mem_tl)); rfl; (first | (focus (simp; done)) | (simp; omega) | omega); (repeat (with_reducible first | exact Upd.hd | apply Upd.tl)); rfl; decide +kernel; clear hS; intro w hS; (try simp only [q2, q3] at hS); (try simp only [Act.put, q1, q2, q3])))
        have e : BV L ++ [Value.bool false] = BV (L ++ [false]) := by rw [BV_append]; rfl
        rw [e] at hS
        replace hS := hS.front (Rem.tl Rem.hd)
        have hlen2 := wlen_is hS mem_hd
        go_roundw
        case rel => exact ⟨L ++ [false], _, _, hg.trans (Grw.more L), by rw [List.length_append]; exact hS⟩
        case measure => rw [hlen, hlen2]; omega
      · have hmi : ¬ (L.length : Int) ≤ (m : Int) := by omega
        have hmt : (m : Int) < (L.length : Int) := by omega
        have hmL : m < L.length := by omega
        obtain ⟨was, hwas⟩ : ∃ b, L[m]? = some b := ⟨_, List.getElem?_eq_getElem hmL⟩
        have hc := BV_at hwas
        have J0 := I0 L hg hmL
        have J1 := I1 L hg hmL
        have HW := hid hwas
        have hbL := BV_length L
        have HG := hid hg
        clear I0 I1 hwas hg xN HN hb
        cases b0 <;> cases b1
        all_goals
          go_wp2_with (first | ((with_reducible apply arm_load hS); (first | with_reducible exact wanted_none | exact wanted_guard rfl rfl); (first | exact ev_tmp rfl | exact ev_const); (repeat (with_reducible first | exact mem_hd | apply mem_tl)); rfl; decide +kernel; (try simp only [Act.put, q1, q2, q3])) | ((with_reducible apply arm_indexAddr); (first | with_reducible exact wanted_none | exact wanted_guard rfl rfl); (first | exact ev_tmp rfl | exact ev_const); (first | exact ev_tmp rfl | exact ev_const); (with_reducible first | exact E22 | exact E35 | exact E42); (first | omega | (focus (simp; done)) | (simp; omega)); (first | omega | (focus (simp; done)) | (simp; omega)); (first | exact hS.ownNN (by (repeat (with_reducible first | exact mem_hd | apply mem_tl))) (by omega) | exact Sat.rdAd2 (by assumption) hS (by ((repeat (with_reducible first | exact mem_hd | apply mem_tl))); try assumption) (by first | (simp only [Is_length, Bs_length, List.length_take, List.length_drop]; omega) | omega | (simp; omega) | (simp; done)) | assumption); (first | (simp only [Int.toNat_natCast, Nat.mul_one, Nat.zero_add, tn_sub, tn_sub1, tn_sub2, tn_sub3, tn_add, tn_add1, tn_add2]; rfl) | rfl); (try simp only [Act.put, q1, q2, q3])) | ((with_reducible apply arm_fieldAddrE); (first | with_reducible exact wanted_none | exact wanted_guard rfl rfl); (first | exact ev_tmp rfl | exact ev_const); (first | exact hS.ownNN (by (repeat (with_reducible first | exact mem_hd | apply mem_tl))) (by omega) | exact Sat.rdAd2 (by assumption) hS (by ((repeat (with_reducible first | exact mem_hd | apply mem_tl))); try assumption) (by first | (simp only [Is_length, Bs_length, List.length_take, List.length_drop]; omega) | omega | (simp; omega) | (simp; done)) | assumption); (with_reducible first | exact fo50_0 | exact fo50_1 | exact fo109_0 | exact fo109_1 | exact fo109_2); (try simp only [Act.put, q1, q2, q3])) | ((with_reducible apply arm_loadE); (first | with_reducible exact wanted_none | exact wanted_guard rfl rfl); (first | exact ev_tmp rfl | exact ev_const); (first | exact (hS.ownCell (by (repeat (with_reducible first | exact mem_hd | apply mem_tl))) (by (first | assumption | exact Is_at (by assumption) | exact Bs_at (by assumption) | rfl | (simp; done)))).1 | exact Sat.rdCell2 (by assumption) hS (by ((repeat (with_reducible first | exact mem_hd | apply mem_tl))); try assumption) (by (first | assumption | exact Is_at (by assumption) | exact Bs_at (by assumption) | rfl | (simp; done)))); decide +kernel; (try simp only [Act.put, q1, q2, q3])) | ((with_reducible apply arm_storeE hS); (first | with_reducible exact wanted_none | exact wanted_guard rfl rfl); (first | exact ev_tmp rfl | exact ev_const); (first | exact ev_tmp rfl | exact ev_const); (repeat (with_reducible first | exact mem_hd | apply mem_tl)); (first | (simp only [Is_length, Bs_length, List.length_take, List.length_drop]; omega) | omega | (focus (simp; done)) | (simp; omega)); (repeat (with_reducible first | exact Upd.hd | apply Upd.tl)); rfl; decide +kernel; clear hS; intro w hS; (try simp only [Act.put, q1, q2, q3])) | ((go_at_call 57); (first | (refine (J0 _ (shut_set rfl hS)).mono ?_; clear J0 hS; rintro e w ⟨rfl, l1, hg1, hS⟩; (have hle1 := hg1.le; rw [List.length_set] at hle1); (have hm1 : (m : Int) < (l1.length : Int) := by omega); (have hbL1 := BV_length l1); obtain ⟨PA1, PC1, hS⟩ := open_wl hS) | (refine (J1 _ (hg1.two hmL) _ (shut_set rfl hS)).mono ?_; clear J1 hS; rintro e w ⟨rfl, l2, hg2, hS⟩; (have hle2 := hg2.le; rw [List.length_set] at hle2); (have hm2 : (m : Int) < (l2.length : Int) := by omega); (have hbL2 := BV_length l2); obtain ⟨PA2, PC2, hS⟩ := open_wl hS))))
          go_ret
          exact ⟨by rw [HE.out]; rfl, l2.set m was, HG.out.trans (Grw.back HW.out hg1 hg2), shut_set rfl hS⟩
end Go.Proofs.YthackanffcaejaaGreatDoor
