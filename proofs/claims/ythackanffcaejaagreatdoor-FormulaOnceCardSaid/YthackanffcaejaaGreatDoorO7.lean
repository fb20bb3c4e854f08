/- A part of the proof: Form4 Form5 FormP Ps Rd1. -/
import Derived.Test.YthackanffcaejaaGreatDoorO1
import Derived.Test.YthackanffcaejaaGreatDoorO6
set_option linter.unusedSimpArgs false
set_option linter.unusedVariables false
set_option linter.unusedSectionVars false
namespace Go.Proofs.YthackanffcaejaaGreatDoor
section
set_option maxRecDepth 20000
open Go Go.RowKit Go.SL

def i64 (n : Int) : Prop := -9223372036854775808 ≤ n ∧ n ≤ 9223372036854775807
def uE : T → Prop
  | .bin op _ _ => i64 op
  | _ => True
set_option maxHeartbeats 1000000 in
theorem UY (op side : Int) (hop : i64 op) (t : T) (ht : uE t) (last : Bool) (v : Value) (H : Hp) (hT : InT H t v) (w0 w : World) (Hs : List HP) (hS : Sat w0 w Hs) (hm : fz H ∈ Hs) :
    Calls Tryz.prog 111 #[.int .i64 op, .int .i64 side, v, .bool last] w fun e w' => e = .returned (.bool (YO op side t last)) ∧ Sat w0 w' Hs := by
  unfold i64 at hop
  cases t with
  | cst n =>
    obtain ⟨b, rfl, hb⟩ := hT
    go_enter Tryz.func111, Tryz.ntmps111
    go_wp2_with ((with_reducible apply Yu);exact ya;exact yb rfl;(decide);(with_reducible first|exact Tryz.underlying156|exact Tryz.underlying160);kernel_rfl;(try simp only [Act.put,q1,q2,q3]))
    go_ret
    exact ⟨rfl, hS⟩
  | var n =>
    obtain ⟨b, rfl, hb⟩ := hT
    go_enter Tryz.func111, Tryz.ntmps111
    go_wp2_with ((with_reducible apply Yu);exact ya;exact yb rfl;(decide);(with_reducible first|exact Tryz.underlying156|exact Tryz.underlying160);kernel_rfl;(try simp only [Act.put,q1,q2,q3]))
    go_ret
    exact ⟨rfl, hS⟩
  | neg n =>
    obtain ⟨_, _, b, rfl, hb⟩ := hT
    go_enter Tryz.func111, Tryz.ntmps111
    go_wp2_with ((with_reducible apply Yu);exact ya;exact yb rfl;(decide);(with_reducible first|exact Tryz.underlying156|exact Tryz.underlying160);kernel_rfl;(try simp only [Act.put,q1,q2,q3]))
    go_ret
    exact ⟨rfl, hS⟩
  | ite _ _ _ =>
    obtain ⟨_, _, _, _, _, _, b, rfl, hb⟩ := hT
    go_enter Tryz.func111, Tryz.ntmps111
    go_wp2_with ((with_reducible apply Yu);exact ya;exact yb rfl;(decide);(with_reducible first|exact Tryz.underlying156|exact Tryz.underlying160);kernel_rfl;(try simp only [Act.put,q1,q2,q3]))
    go_ret
    exact ⟨rfl, hS⟩
  | qu o n a =>
    obtain ⟨_, _, b, rfl, hb⟩ := hT
    go_enter Tryz.func111, Tryz.ntmps111
    go_wp2_with ((with_reducible apply Yq);exact ya;exact yb rfl;exact Tryz.underlying156;(try simp only [Act.put,q1,q2,q3]))
    go_ret
    exact ⟨rfl, hS⟩
  | bin o x y =>
    obtain ⟨va, vb, _, _, b, rfl, hb⟩ := hT
    have ho : i64 o := ht
    unfold i64 at ho
    have c2 : celH H b 2 = some (.int .i64 o) := by simp [celH, hb]
    clear hb
    obtain ⟨t1, ht1⟩ : ∃ t1, t1 = kh o := ⟨_, rfl⟩
    obtain ⟨t2, ht2⟩ : ∃ t2, t2 = kh op := ⟨_, rfl⟩
    have TO := tight o ho.1 ho.2
    have TP := tight op hop.1 hop.2
    rw [← ht1] at TO
    rw [← ht2] at TP
    have hbp : YO op side (.bin o x y) last = if op = 3 then true else if op = 9 ∧ side = 0 then decide (t1 ≤ t2) else if op = 9 then decide (t1 < t2) else if side = 0 then decide (t1 < t2) else decide (t1 ≤ t2) := by simp only [YO, ht1, ht2]
    obtain ⟨B0, hB0⟩ : ∃ B0, B0 = YO op side (.bin o x y) last := ⟨_, rfl⟩
    rw [← hB0] at hbp ⊢
    have HB := hid hbp
    clear hbp hB0 ht1 ht2
    go_enter Tryz.func111, Tryz.ntmps111
    go_wp2_with (first|((with_reducible apply Yq);exact ya;exact yb rfl;exact Tryz.underlying160;(try simp only [Act.put,q1,q2,q3]))|((with_reducible apply Yu);exact ya;exact yb rfl;(decide);exact Tryz.underlying156;kernel_rfl;(try simp only [Act.put,q1,q2,q3]))|((with_reducible apply YV hS);exact ya;exact yb rfl;assumption;(((repeat (with_reducible apply ye)));(try assumption));decide +kernel;(try simp only [Act.put,q1,q2,q3]))|(go_at_call 131;(first|with_reducible refine (TO _ _ _ hS).mono ?_|with_reducible refine (TP _ _ _ hS).mono ?_);clear hS;rintro e w ⟨rfl, hS⟩))
    all_goals (go_ret; refine ⟨?_, hS⟩; have hb := HB.out; clear HB TO TP c2 hS hop ho ht hm; subst hb; simp_all)

theorem JP (op side : Int) (hop : i64 op) (t : T) (ht : uE t) (hsz : size t ≤ 1000000) (last : Bool) (v : Value) (H : Hp) (hT : InT H t v) (w0 w : World) (Hs : List HP) (hS : Sat w0 w Hs) (hm : fz H ∈ Hs) :
    Calls Tryz.prog 107 #[.int .i64 op, .int .i64 side, v, .bool last] w fun e w' => e = .returned (.int .i64 (cnt op side t last (look t))) ∧ Sat w0 w' Hs := by
  obtain ⟨l1, l2, l3, l4⟩ := YC t
  have BR := UY op side hop t ht last v H hT
  have hc : cnt op side t last (look t) = if YO op side t last then 1 + (look t).1 else if last then (look t).1 else (look t).2 := rfl
  rw [hc]
  clear hc
  generalize YO op side t last = b0 at *
  cases b0 <;> cases last
  all_goals
    simp only [if_true, if_false, Bool.false_eq_true]
    go_enter Tryz.func107, Tryz.ntmps107
    go_wp2_with (first|(go_at_call 111;refine (BR _ _ _ hS hm).mono ?_;clear hS;rintro e w ⟨rfl, hS⟩)|((with_reducible apply jE hS);rfl;exact yb rfl;assumption;assumption;clear hS;intro w hS;(try simp only [Act.put,q1,q2,q3]))|((with_reducible apply KG);exact ya;exact yb rfl;(with_reducible first|exact Jn|exact fc134_1);rfl;(try simp only [Act.put,q1,q2,q3])))
    go_ret
    exact ⟨rfl, hS⟩
end
section
set_option maxRecDepth 20000
open Go Go.RowKit Go.SL

theorem InT.form {H : Hp} {t : T} {v : Value} (h : InT H t v) : ∃ K b, v = .iface K (.pointer (some ⟨b, 0, none⟩)) := by
  obtain ⟨K, S, cs, _, ⟨b, rfl, _⟩, _⟩ := h.head; exact ⟨K, b, rfl⟩
theorem notM (a : T) (ha : uE a) (hsz : size a ≤ 1000000) (va : Value) (H : Hp) (hT : InT H a va) (w0 w : World) (R : List HP) (hS : Sat w0 w (fz H :: R)) :
    Calls Tryz.prog 69 #[va] w fun e w' => ∃ v, e = .returned v ∧ ∃ H', Ext H H' ∧ InT H' (.neg a) v ∧ Sat w0 w' (fz H' :: R) := by
  obtain ⟨l1, l2, l3, l4⟩ := YC a
  obtain ⟨Ka, ba, rfl⟩ := hT.form
  have C1 := JP 3 0 (by unfold i64; omega) a ha hsz true _ H hT
  have C2 := JP 3 0 (by unfold i64; omega) a ha hsz false _ H hT
  have b1 := KC (op := 3) (side := 0) (x := a) (last := true) (lk := look a) (n := 2 * size a) l1 (by omega) l3 (by omega)
  have b2 := KC (op := 3) (side := 0) (x := a) (last := false) (lk := look a) (n := 2 * size a) l1 (by omega) l3 (by omega)
  have e1 : (look (.neg a)).1 = 1 + cnt 3 0 a true (look a) := rfl
  have e2 : (look (.neg a)).2 = 1 + cnt 3 0 a false (look a) := rfl
  generalize cnt 3 0 a true (look a) = n1 at *
  generalize cnt 3 0 a false (look a) = n2 at *
  have E1 := hid e1
  have E2 := hid e2
  clear e1 e2
  go_enter Tryz.func69, Tryz.ntmps69
  go_wp2_with (first|(go_at_call 107;(first|with_reducible refine (C1 _ _ _ hS (by ((repeat (with_reducible exact yf));(try assumption)))).mono ?_|with_reducible refine (C2 _ _ _ hS (by ((repeat (with_reducible exact yf));(try assumption)))).mono ?_);clear hS;rintro e w ⟨rfl, hS⟩)|((with_reducible apply yY hS);exact ya;exact yb rfl;exact yt;clear hS;intro NB w hS;(try simp only [Act.put,q1,q2,q3])))
  go_ret
  rw [← E1.out, ← E2.out] at hS
  obtain ⟨H', x1, x2, hS⟩ := hS.fzBlk
  exact ⟨_, rfl, H', x1, ⟨_, hT.ext x1, _, rfl, x2⟩, hS⟩
theorem JU (op n : Int) (a : T) (hsz : size a ≤ 1000000) (va : Value) (H : Hp) (hT : InT H a va) (w0 w : World) (R : List HP) (hS : Sat w0 w (fz H :: R)) :
    Calls Tryz.prog 70 #[.int .i64 op, .int .i64 n, va] w fun e w' => ∃ v, e = .returned v ∧ ∃ H', Ext H H' ∧ InT H' (.qu op n a) v ∧ Sat w0 w' (fz H' :: R) := by
  obtain ⟨l1, l2, l3, l4⟩ := YC a
  obtain ⟨Ka, ba, rfl⟩ := hT.form
  have e1 : (look (.qu op n a)).1 = 1 + (look a).1 := rfl
  have e2 : (look (.qu op n a)).2 = 1 + (look a).1 := rfl
  have E1 := hid e1
  have E2 := hid e2
  clear e1 e2
  go_enter Tryz.func70, Tryz.ntmps70
  go_wp2_with (first|((with_reducible apply jE hS);rfl;exact yb rfl;assumption;exact yf;clear hS;intro w hS;(try simp only [Act.put,q1,q2,q3]))|((with_reducible apply KG);exact ya;exact yb rfl;exact Jn;rfl;(try simp only [Act.put,q1,q2,q3]))|((with_reducible apply yY hS);exact ya;exact yb rfl;exact yt;clear hS;intro NB w hS;(try simp only [Act.put,q1,q2,q3])))
  go_ret
  rw [show Value.int .i64 (1 + (look a).1) = .int .i64 (look (.qu op n a)).1 by rw [E1.out]] at hS
  obtain ⟨H', x1, x2, hS⟩ := hS.fzBlk
  exact ⟨_, rfl, H', x1, ⟨_, hT.ext x1, _, rfl, by rw [E2.out, ← E1.out]; exact x2⟩, hS⟩
theorem xf (op : Int) (hop : i64 op) (a b : T) (ha : uE a) (hb : uE b) (hsz : size a ≤ 1000000) (hsz2 : size b ≤ 1000000) (va vb : Value) (H : Hp) (hT : InT H a va) (hT2 : InT H b vb) (w0 w : World) (R : List HP) (hS : Sat w0 w (fz H :: R)) :
    Calls Tryz.prog 71 #[.int .i64 op, va, vb] w fun e w' => ∃ v, e = .returned v ∧ ∃ H', Ext H H' ∧ InT H' (.bin op a b) v ∧ Sat w0 w' (fz H' :: R) := by
  obtain ⟨l1, l2, l3, l4⟩ := YC a
  obtain ⟨m1, m2, m3, m4⟩ := YC b
  obtain ⟨Ka, ba, rfl⟩ := hT.form
  obtain ⟨Kb, bb, rfl⟩ := hT2.form
  have C1 := JP op 0 hop a ha hsz false _ H hT
  have C2 := JP op 1 hop b hb hsz2 true _ H hT2
  have C3 := JP op 1 hop b hb hsz2 false _ H hT2
  have b1 := KC (op := op) (side := 0) (x := a) (last := false) (lk := look a) (n := 2 * size a) l1 (by omega) l3 (by omega)
  have b2 := KC (op := op) (side := 1) (x := b) (last := true) (lk := look b) (n := 2 * size b) m1 (by omega) m3 (by omega)
  have b3 := KC (op := op) (side := 1) (x := b) (last := false) (lk := look b) (n := 2 * size b) m1 (by omega) m3 (by omega)
  have e1 : (look (.bin op a b)).1 = max (cnt op 0 a false (look a)) (cnt op 1 b true (look b)) := rfl
  have e2 : (look (.bin op a b)).2 = max (cnt op 0 a false (look a)) (cnt op 1 b false (look b)) := rfl
  generalize cnt op 0 a false (look a) = n1 at *
  generalize cnt op 1 b true (look b) = n2 at *
  generalize cnt op 1 b false (look b) = n3 at *
  have E1 := hid e1
  have E2 := hid e2
  clear e1 e2
  go_enter Tryz.func71, Tryz.ntmps71
  go_wp2_with (first|(go_at_call 107;(first|with_reducible refine (C1 _ _ _ hS (by ((repeat (with_reducible exact yf));(try assumption)))).mono ?_|with_reducible refine (C2 _ _ _ hS (by ((repeat (with_reducible exact yf));(try assumption)))).mono ?_|with_reducible refine (C3 _ _ _ hS (by ((repeat (with_reducible exact yf));(try assumption)))).mono ?_);clear hS;rintro e w ⟨rfl, hS⟩)|((with_reducible apply yY hS);exact ya;exact yb rfl;exact yt;clear hS;intro NB w hS;(try simp only [Act.put,q1,q2,q3])))
  go_ret
  rw [← E1.out, ← E2.out] at hS
  obtain ⟨H', x1, x2, hS⟩ := hS.fzBlk
  exact ⟨_, rfl, H', x1, ⟨_, _, hT.ext x1, hT2.ext x1, _, rfl, x2⟩, hS⟩
theorem iteM (c a b : T) (hsz0 : size c ≤ 1000000) (hsz : size a ≤ 1000000) (hsz2 : size b ≤ 1000000) (vc va vb : Value) (H : Hp) (hT0 : InT H c vc) (hT : InT H a va) (hT2 : InT H b vb) (w0 w : World) (R : List HP) (hS : Sat w0 w (fz H :: R)) :
    Calls Tryz.prog 72 #[vc, va, vb] w fun e w' => ∃ v, e = .returned v ∧ ∃ H', Ext H H' ∧ InT H' (.ite c a b) v ∧ Sat w0 w' (fz H' :: R) := by
  obtain ⟨k1, k2, k3, k4⟩ := YC c
  obtain ⟨l1, l2, l3, l4⟩ := YC a
  obtain ⟨m1, m2, m3, m4⟩ := YC b
  obtain ⟨Kc, bc, rfl⟩ := hT0.form
  obtain ⟨Ka, ba, rfl⟩ := hT.form
  obtain ⟨Kb, bb, rfl⟩ := hT2.form
  have e1 : (look (.ite c a b)).1 = 1 + max (max (look c).1 (look a).1) (look b).1 := rfl
  have e2 : (look (.ite c a b)).2 = 1 + max (max (look c).1 (look a).1) (look b).1 := rfl
  have hmx : 0 ≤ max (max (look c).1 (look a).1) (look b).1 ∧ max (max (look c).1 (look a).1) (look b).1 ≤ 2000000 := by omega
  have E1 := hid e1
  have E2 := hid e2
  clear e1 e2
  go_enter Tryz.func72, Tryz.ntmps72
  go_wp2_with (first|((with_reducible apply jE hS);rfl;exact yb rfl;(first|exact hT0|exact hT|exact hT2);exact yf;clear hS;intro w hS;(try simp only [Act.put,q1,q2,q3]))|((with_reducible apply KG);exact ya;exact yb rfl;exact Jn;rfl;(try simp only [Act.put,q1,q2,q3]))|((with_reducible apply yY hS);exact ya;exact yb rfl;exact yt;clear hS;intro NB w hS;(try simp only [Act.put,q1,q2,q3])))
  all_goals
    go_ret
    have hX : (1 + if (if (look c).1 < (look a).1 then (look a).1 else (look c).1) < (look b).1 then (look b).1 else if (look c).1 < (look a).1 then (look a).1 else (look c).1) = (look (.ite c a b)).1 := by
      rw [E1.out]
      clear E1 E2 hS hT0 hT hT2
      (repeat' split) <;> omega
    rw [hX] at hS
    obtain ⟨H', x1, x2, hS⟩ := hS.fzBlk
    exact ⟨_, rfl, H', x1, ⟨_, _, _, hT0.ext x1, hT.ext x1, hT2.ext x1, _, rfl, by rw [E2.out, ← E1.out]; exact x2⟩, hS⟩
end
section
open Go Go.RowKit Go.SL

/-! ### A list as a tree -/
def Ya (op n : Int) : Int :=
  if op = 1 ∧ (n = 0 ∨ n = 1) ∨ op = 2 ∧ 0 ≤ n ∧ n < 65536 then 0
  else if op = 3 ∧ n = 0 ∨ (op = 4 ∨ op = 5) ∧ 0 ≤ n ∧ n < 65536 then 1
  else if 6 ≤ op ∧ op ≤ 10 ∧ n = 0 then 2
  else if op = 11 ∧ n = 0 then 3 else -1
def YH (st : List T) (op n : Int) : Option (List T) :=
  if op = 1 ∧ (n = 0 ∨ n = 1) then some (.cst n :: st)
  else if op = 2 ∧ 0 ≤ n ∧ n < 65536 then some (.var n :: st)
  else if op = 3 ∧ n = 0 then (match st with | a :: r => some (.neg a :: r) | _ => none)
  else if (op = 4 ∨ op = 5) ∧ 0 ≤ n ∧ n < 65536 then (match st with | a :: r => some (.qu op n a :: r) | _ => none)
  else if 6 ≤ op ∧ op ≤ 10 ∧ n = 0 then (match st with | b :: a :: r => some (.bin op a b :: r) | _ => none)
  else if op = 11 ∧ n = 0 then (match st with | b :: a :: c :: r => some (.ite c a b :: r) | _ => none)
  else none
def Km (st : List T) : List (Int × Int) → Option (List T)
  | [] => some st
  | x :: xs => match YH st x.1 x.2 with | some st' => Km st' xs | none => none
def okT : T → Prop
  | .cst n => n = 0 ∨ n = 1
  | .var v => 0 ≤ v ∧ v < 65536
  | .neg a => okT a
  | .qu op v a => (op = 4 ∨ op = 5) ∧ 0 ≤ v ∧ v < 65536 ∧ okT a
  | .bin op a b => 6 ≤ op ∧ op ≤ 10 ∧ okT a ∧ okT b
  | .ite c a b => okT c ∧ okT a ∧ okT b
theorem okT.ops {t : T} (h : okT t) : uE t := by
  cases t <;> first | trivial | skip
  obtain ⟨h1, h2, _⟩ := h
  unfold uE i64; omega
def post : T → List (Int × Int)
  | .cst n => [(1, n)]
  | .var v => [(2, v)]
  | .neg a => post a ++ [(3, 0)]
  | .qu op v a => post a ++ [(op, v)]
  | .bin op a b => post a ++ post b ++ [(op, 0)]
  | .ite c a b => post c ++ post a ++ post b ++ [(11, 0)]
theorem YS : ∀ t : T, (post t).length = size t
  | .cst _ => rfl
  | .var _ => rfl
  | .neg a => by simp [post, size, YS a]
  | .qu _ _ a => by simp [post, size, YS a]
  | .bin _ a b => by simp [post, size, YS a, YS b]; omega
  | .ite c a b => by simp [post, size, YS a, YS b, YS c]; omega
theorem kg : ∀ t : T, 0 < size t := by intro t; cases t <;> simp [size]
def YW : List T → List (Int × Int)
  | [] => []
  | t :: st => YW st ++ post t
theorem gp {st st' : List T} {op n : Int} (h : YH st op n = some st') : YW st' = YW st ++ [(op, n)] := by
  unfold YH at h
  split at h
  · rename_i hc; simp at h; subst h; simp [YW, post, hc.1]
  split at h
  · rename_i hc; simp at h; subst h; simp [YW, post, hc.1]
  split at h
  · rename_i hc
    cases st <;> simp at h
    subst h; simp [YW, post, hc.1, hc.2]
  split at h
  · cases st <;> simp at h
    subst h; simp [YW, post]
  split at h
  · rename_i hc
    rcases st with _ | ⟨b, _ | ⟨a, r⟩⟩ <;> simp at h
    subst h; simp [YW, post, hc.2.2]
  split at h
  · rename_i hc
    rcases st with _ | ⟨b, _ | ⟨a, _ | ⟨c, r⟩⟩⟩ <;> simp at h
    subst h; simp [YW, post, hc.1, hc.2]
  · cases h
theorem stepT_ok {st st' : List T} {op n : Int} (h : YH st op n = some st') (hk : ∀ t ∈ st, okT t) : ∀ t ∈ st', okT t := by
  unfold YH at h
  split at h
  · rename_i hc; simp at h; subst h; simpa [okT] using ⟨hc.2, hk⟩
  split at h
  · rename_i hc; simp at h; subst h; simpa [okT] using ⟨hc.2, hk⟩
  split at h
  · rename_i hc
    cases st <;> simp at h
    subst h; simpa [okT] using hk
  split at h
  · rename_i hc
    cases st <;> simp at h
    subst h
    simp at hk
    simpa [okT] using ⟨⟨hc.1, hc.2.1, hc.2.2, hk.1⟩, hk.2⟩
  split at h
  · rename_i hc
    rcases st with _ | ⟨b, _ | ⟨a, r⟩⟩ <;> simp at h
    subst h
    simp at hk
    simpa [okT] using ⟨⟨hc.1, hc.2.1, hk.2.1, hk.1⟩, hk.2.2⟩
  split at h
  · rename_i hc
    rcases st with _ | ⟨b, _ | ⟨a, _ | ⟨c, r⟩⟩⟩ <;> simp at h
    subst h
    simp at hk
    simpa [okT] using ⟨⟨hk.2.2.1, hk.2.1, hk.1⟩, hk.2.2.2⟩
  · cases h
theorem YP : ∀ (xs ys : List (Int × Int)) (st : List T), Km st (xs ++ ys) = (Km st xs).bind fun st' => Km st' ys
  | [], ys, st => rfl
  | x :: xs, ys, st => by
    simp only [List.cons_append, Km]
    cases YH st x.1 x.2 with
    | none => rfl
    | some st' => simpa using YP xs ys st'
theorem jN : ∀ (xs : List (Int × Int)) (st st' : List T), Km st xs = some st' → YW st' = YW st ++ xs
  | [], st, st', h => by simp [Km] at h; subst h; simp
  | x :: xs, st, st', h => by
    simp only [Km] at h
    cases hs : YH st x.1 x.2 with
    | none => rw [hs] at h; cases h
    | some s2 =>
      rw [hs] at h
      rw [jN xs s2 st' h, gp hs]
      simp
theorem xm : ∀ (xs : List (Int × Int)) (st st' : List T), Km st xs = some st' → (∀ t ∈ st, okT t) → ∀ t ∈ st', okT t
  | [], st, st', h, hk => by simp [Km] at h; subst h; exact hk
  | x :: xs, st, st', h, hk => by
    simp only [Km] at h
    cases hs : YH st x.1 x.2 with
    | none => rw [hs] at h; cases h
    | some s2 =>
      rw [hs] at h
      exact xm xs s2 st' h (stepT_ok hs hk)
def kL (fs : List (Int × Int)) : Option T :=
  if fs.length > 65536 then none else match Km [] fs with
    | some [t] => some t
    | _ => none
def km (fs : List (Int × Int)) : Option T := (kL fs).bind fun t => if (look t).1 > 64 then none else some t
theorem Jd {fs : List (Int × Int)} {t : T} (h : kL fs = some t) : fs.length ≤ 65536 ∧ Km [] fs = some [t] ∧ okT t ∧ fs = post t ∧ size t ≤ 65536 := by
  unfold kL at h
  split at h
  · cases h
  · rename_i hl
    have hr : Km [] fs = some [t] := by
      split at h
      · rename_i u hu; simp at h; subst h; exact hu
      · cases h
    have hp := jN fs [] [t] hr
    simp [YW] at hp
    refine ⟨by omega, hr, xm fs [] [t] hr (by simp) t (by simp), hp.symm, ?_⟩
    rw [← YS t, hp]; omega
theorem Uq {fs : List (Int × Int)} {t : T} (h : km fs = some t) : kL fs = some t ∧ (look t).1 ≤ 64 := by
  unfold km at h
  cases hq : kL fs with
  | none => rw [hq] at h; cases h
  | some u =>
    rw [hq] at h
    simp only [Option.bind_some] at h
    split at h
    · cases h
    · simp at h; subst h; exact ⟨rfl, by omega⟩
def Ym (st : List T) : Nat := (st.map size).sum
theorem ub : ∀ st : List T, (YW st).length = Ym st
  | [] => rfl
  | t :: st => by simp [YW, Ym, ub st, YS t]; omega
theorem stack_le {xs : List (Int × Int)} {st : List T} (h : Km [] xs = some st) : st.length ≤ xs.length ∧ ∀ t ∈ st, size t ≤ xs.length := by
  have h1 := congrArg List.length (jN xs [] st h)
  simp only [ub, YW, List.nil_append] at h1
  rw [← h1]
  clear h h1
  induction st with
  | nil => simp [Ym]
  | cons t st ih =>
    have := kg t
    simp only [Ym, List.map_cons, List.sum_cons, List.length_cons, List.mem_cons, forall_eq_or_imp] at ih ⊢
    refine ⟨by omega, by omega, fun u hu => ?_⟩
    have := ih.2 u hu
    omega

/-! ### A tree's text -/
def Yv (op : Int) : List UInt8 :=
  if op = 6 then [32, 38, 32] else if op = 7 then [32, 124, 32] else if op = 8 then [32, 94, 32] else if op = 9 then [32, 45, 62, 32] else if op = 10 then [32, 60, 45, 62, 32]
  else if op = 4 then [101, 120, 105, 115, 116, 115, 32] else if op = 5 then [102, 111, 114, 97, 108, 108, 32] else []
def brT (t : List UInt8 × List UInt8) (br last : Bool) : List UInt8 := if br then [40] ++ t.1 ++ [41] else if last then t.1 else t.2
def W : T → (List UInt8 × List UInt8) × (Int → List UInt8)
  | .cst n => let s : List UInt8 := if n = 1 then [116, 114, 117, 101] else [102, 97, 108, 115, 101]; ((s, s), fun _ => [58, 32] ++ s)
  | .var v => let s : List UInt8 := [120] ++ Lib.itoa v; ((s, s), fun _ => [58, 32] ++ s)
  | .neg a =>
    let s (last : Bool) : List UInt8 := [33] ++ brT (W a).1 (YO 3 0 a last) last
    ((s true, s false), fun _ => [58, 32] ++ s true)
  | .qu op v a =>
    let s : List UInt8 := Yv op ++ [120] ++ Lib.itoa v ++ (W a).2 op
    ((s, s), fun op' => if op' = op then [44, 32, 120] ++ Lib.itoa v ++ (W a).2 op' else [58, 32] ++ s)
  | .bin op a b =>
    let s (last : Bool) : List UInt8 := brT (W a).1 (YO op 0 a false) false ++ Yv op ++ brT (W b).1 (YO op 1 b last) last
    ((s true, s false), fun _ => [58, 32] ++ s true)
  | .ite c a b =>
    let s : List UInt8 := [105, 116, 101, 40] ++ (W c).1.1 ++ [44, 32] ++ (W a).1.1 ++ [44, 32] ++ (W b).1.1 ++ [41]
    ((s, s), fun _ => [58, 32] ++ s)
def wr (t : T) (last : Bool) : List UInt8 := if last then (W t).1.1 else (W t).1.2
def opd (op side : Int) (x : T) (last : Bool) : List UInt8 := if YO op side x last then [40] ++ wr x true ++ [41] else wr x last
def kE (op : Int) (t : T) : List UInt8 := (W t).2 op
def jw (op : Int) : T → Bool
  | .qu o _ _ => decide (o = op)
  | _ => false
theorem brT_eq (t : T) (br last : Bool) : brT (W t).1 br last = if br then [40] ++ wr t true ++ [41] else wr t last := by
  cases br <;> cases last <;> rfl
theorem ua (n : Int) (last : Bool) : wr (.cst n) last = if n = 1 then [116, 114, 117, 101] else [102, 97, 108, 115, 101] := by cases last <;> rfl
theorem Jh (v : Int) (last : Bool) : wr (.var v) last = [120] ++ Lib.itoa v := by cases last <;> rfl
theorem jH (a : T) (last : Bool) : wr (.neg a) last = [33] ++ opd 3 0 a last := by
  cases last <;> simp only [wr, W, brT_eq, opd, if_true, if_false, Bool.false_eq_true]
theorem uc (op v : Int) (a : T) (last : Bool) : wr (.qu op v a) last = Yv op ++ [120] ++ Lib.itoa v ++ kE op a := by cases last <;> rfl
theorem jB (op : Int) (a b : T) (last : Bool) : wr (.bin op a b) last = opd op 0 a false ++ Yv op ++ opd op 1 b last := by
  cases last <;> simp only [wr, W, brT_eq, opd, if_true, if_false, Bool.false_eq_true]
theorem Jf (c a b : T) (last : Bool) : wr (.ite c a b) last = [105, 116, 101, 40] ++ wr c true ++ [44, 32] ++ wr a true ++ [44, 32] ++ wr b true ++ [41] := by cases last <;> rfl
theorem KF (op v : Int) (a : T) : kE op (.qu op v a) = [44, 32, 120] ++ Lib.itoa v ++ kE op a := by simp [kE, W]
theorem kC {op : Int} {t : T} (h : jw op t = false) : kE op t = [58, 32] ++ wr t true := by
  cases t with
  | qu o v a =>
    simp only [jw, decide_eq_false_iff_not] at h
    have h2 : ¬ op = o := fun e => h e.symm
    simp [kE, W, wr, h2]
  | _ => rfl
theorem kW : ∀ t : T, okT t → size t ≤ 1000000 → (wr t true).length ≤ 40 * size t ∧ (wr t false).length ≤ 40 * size t ∧ ∀ op, (kE op t).length ≤ 40 * size t + 2
  | .cst n, h, hs => by
    simp only [ua, size, kE, W]
    split <;> simp
  | .var v, h, hs => by
    have h1 := Lib.itoa_length_le v (by have := h.1; omega) (by have := h.2; omega)
    simp only [Jh, size, kE, W]
    simp; omega
  | .neg a, h, hs => by
    simp only [size] at hs ⊢
    obtain ⟨h1, h2, h3⟩ := kW a h (by omega)
    have k1 : (opd 3 0 a true).length ≤ 40 * size a + 2 := by unfold opd; split <;> (try simp only [List.length_append, List.length_cons, List.length_nil]) <;> omega
    have k2 : (opd 3 0 a false).length ≤ 40 * size a + 2 := by unfold opd; split <;> (try simp only [List.length_append, List.length_cons, List.length_nil]) <;> omega
    refine ⟨by rw [jH]; simp; omega, by rw [jH]; simp; omega, fun op => ?_⟩
    rw [kC rfl, jH]; simp; omega
  | .qu op v a, h, hs => by
    simp only [size] at hs ⊢
    obtain ⟨h1, h2, h3⟩ := kW a h.2.2.2 (by omega)
    have k1 := Lib.itoa_length_le v (by have := h.2.1; omega) (by have := h.2.2.1; omega)
    have k2 : (Yv op).length ≤ 7 := by rcases h.1 with rfl | rfl <;> decide
    have k3 := h3 op
    refine ⟨by rw [uc]; simp; omega, by rw [uc]; simp; omega, fun op' => ?_⟩
    by_cases e : op' = op
    · subst e; rw [KF]; simp; omega
    · rw [kC (by simp [jw]; exact fun x => e x.symm), uc]; simp; omega
  | .bin op a b, h, hs => by
    simp only [size] at hs ⊢
    obtain ⟨h1, h2, h3⟩ := kW a h.2.2.1 (by omega)
    obtain ⟨g1, g2, g3⟩ := kW b h.2.2.2 (by omega)
    have k0 : (opd op 0 a false).length ≤ 40 * size a + 2 := by unfold opd; split <;> (try simp only [List.length_append, List.length_cons, List.length_nil]) <;> omega
    have k1 : (opd op 1 b true).length ≤ 40 * size b + 2 := by unfold opd; split <;> (try simp only [List.length_append, List.length_cons, List.length_nil]) <;> omega
    have k2 : (opd op 1 b false).length ≤ 40 * size b + 2 := by unfold opd; split <;> (try simp only [List.length_append, List.length_cons, List.length_nil]) <;> omega
    have k3 : (Yv op).length ≤ 7 := by unfold Yv; (repeat' split) <;> (decide)
    refine ⟨by rw [jB]; simp; omega, by rw [jB]; simp; omega, fun op' => ?_⟩
    rw [kC rfl, jB]; simp; omega
  | .ite c a b, h, hs => by
    simp only [size] at hs ⊢
    obtain ⟨h1, h2, h3⟩ := kW a h.2.1 (by omega)
    obtain ⟨g1, g2, g3⟩ := kW b h.2.2 (by omega)
    obtain ⟨f1, f2, f3⟩ := kW c h.1 (by omega)
    refine ⟨by rw [Jf]; simp; omega, by rw [Jf]; simp; omega, fun op' => ?_⟩
    rw [kC rfl, Jf]; simp; omega

def ke (fs : List (Int × Int)) : List UInt8 × Int := match km fs with
  | none => ([], 134)
  | some t => if (wr t true).length > 1048576 then ([], 5) else (wr t true, 0)
end
section
open Go Go.RowKit Go.SL Go.ClauseP Go.LexP

structure Ps where
  tk : Tk
  at_ : Nat
  fin : Nat
  opn : Nat
  nds : Nat
def knd (p : Ps) : Int := (Yk p.tk).1
abbrev Rp := (Int × Nat) ⊕ Ps
def yV (text : List UInt8) (p : Ps) : Rp := match (yS text p.fin).tk with
  | .bad e => .inl (e, (yS text p.fin).at_)
  | t => .inr ⟨t, (yS text p.fin).at_, (yS text p.fin).fin, p.opn, p.nds⟩
def Ye (p : Ps) : Rp := if p.opn = 64 then .inl (132, p.at_) else .inr { p with opn := p.opn + 1 }
def yD (p : Ps) : Rp := if p.nds = 65536 then .inl (8, p.at_) else .inr { p with nds := p.nds + 1 }
def yU (text : List UInt8) (k : Int) (p : Ps) : Rp := if knd p = k then yV text p else .inl (131, p.at_)
def yu (r : Rp) (f : Ps → Rp) : Rp := match r with
  | .inl e => .inl e
  | .inr p => f p
def Ks : List T → T
  | [] => .cst 0
  | x :: rest => rest.foldl (fun acc y => .bin 9 y acc) x
def kOf : Nat → Int
  | 1 => 8
  | 3 => 5
  | 4 => 6
  | 5 => 4
  | _ => 7
def oOf : Nat → Int
  | 1 => 10
  | 3 => 7
  | 4 => 8
  | 5 => 6
  | _ => 9
inductive Tsk
  | lvl (b : Nat)
  | loop (b : Nat) (x : T)
  | imps (xs : List T)
abbrev Rt := (Int × Nat) ⊕ (T × Ps)
inductive Vars (text : List UInt8) : Ps → List Int → (Int × Nat) ⊕ (List Int × Ps) → Prop
  | adv {p vs e} : yV text p = .inl e → Vars text p vs (.inl e)
  | tok {p vs q} : yV text p = .inr q → (∀ n, q.tk ≠ .var n) → Vars text p vs (.inl (131, q.at_))
  | open_ {p vs q n e} : yV text p = .inr q → q.tk = .var n → yu (yu (Ye q) yD) (yV text) = .inl e → Vars text p vs (.inl e)
  | more {p vs q n q' r} : yV text p = .inr q → q.tk = .var n → yu (yu (Ye q) yD) (yV text) = .inr q' → q'.tk = .comma → Vars text q' (vs ++ [n]) r → Vars text p vs r
  | done {p vs q n q'} : yV text p = .inr q → q.tk = .var n → yu (yu (Ye q) yD) (yV text) = .inr q' → q'.tk ≠ .comma → Vars text p vs (match yU text 12 q' with | .inl e => .inl e | .inr q'' => .inr (vs ++ [n], q''))
def quT (op : Int) (vs : List Int) (x : T) : T := vs.foldr (fun v a => .qu op v a) x
inductive RD (text : List UInt8) : Tsk → Ps → Rt → Prop
  | lvlE {b p e} : b = 1 ∨ b = 3 ∨ b = 4 ∨ b = 5 → RD text (.lvl (b + 1)) p (.inl e) → RD text (.lvl b) p (.inl e)
  | lvlK {b p x q r} : b = 1 ∨ b = 3 ∨ b = 4 ∨ b = 5 → RD text (.lvl (b + 1)) p (.inr (x, q)) → RD text (.loop b x) q r → RD text (.lvl b) p r
  | loopN {b x q} : knd q ≠ kOf b → RD text (.loop b x) q (.inr (x, q))
  | loopA {b x q e} : knd q = kOf b → yu (yD q) (yV text) = .inl e → RD text (.loop b x) q (.inl e)
  | loopE {b x q q' e} : knd q = kOf b → yu (yD q) (yV text) = .inr q' → RD text (.lvl (b + 1)) q' (.inl e) → RD text (.loop b x) q (.inl e)
  | loopK {b x q q' y q'' r} : knd q = kOf b → yu (yD q) (yV text) = .inr q' → RD text (.lvl (b + 1)) q' (.inr (y, q'')) → RD text (.loop b (.bin (oOf b) x y)) q'' r → RD text (.loop b x) q r
  | impE {p e} : RD text (.lvl 3) p (.inl e) → RD text (.lvl 2) p (.inl e)
  | impK {p x q r} : RD text (.lvl 3) p (.inr (x, q)) → RD text (.imps [x]) q r → RD text (.lvl 2) p r
  | impsN {xs q} : knd q ≠ 7 → RD text (.imps xs) q (.inr (Ks xs, q))
  | impsA {xs q e} : knd q = 7 → yu (yD q) (yV text) = .inl e → RD text (.imps xs) q (.inl e)
  | impsE {xs q q' e} : knd q = 7 → yu (yD q) (yV text) = .inr q' → RD text (.lvl 3) q' (.inl e) → RD text (.imps xs) q (.inl e)
  | impsK {xs q q' y q'' r} : knd q = 7 → yu (yD q) (yV text) = .inr q' → RD text (.lvl 3) q' (.inr (y, q'')) → RD text (.imps (y :: xs)) q'' r → RD text (.imps xs) q r
  | notA {p e} : p.tk = .not → yu (yu (Ye p) yD) (yV text) = .inl e → RD text (.lvl 6) p (.inl e)
  | notE {p q e} : p.tk = .not → yu (yu (Ye p) yD) (yV text) = .inr q → RD text (.lvl 6) q (.inl e) → RD text (.lvl 6) p (.inl e)
  | notK {p q x q'} : p.tk = .not → yu (yu (Ye p) yD) (yV text) = .inr q → RD text (.lvl 6) q (.inr (x, q')) → RD text (.lvl 6) p (.inr (.neg x, { q' with opn := q'.opn - 1 }))
  | quA {p op e} : p.tk = .quant op → Vars text p [] (.inl e) → RD text (.lvl 6) p (.inl e)
  | quE {p op vs q e} : p.tk = .quant op → Vars text p [] (.inr (vs, q)) → RD text (.lvl 1) q (.inl e) → RD text (.lvl 6) p (.inl e)
  | quK {p op vs q x q'} : p.tk = .quant op → Vars text p [] (.inr (vs, q)) → RD text (.lvl 1) q (.inr (x, q')) → RD text (.lvl 6) p (.inr (quT op vs x, { q' with opn := q'.opn - vs.length }))
  | cst {p n} : p.tk = .const n → RD text (.lvl 6) p (match yu (yD p) (yV text) with | .inl e => .inl e | .inr q => .inr (.cst n, q))
  | var {p n} : p.tk = .var n → RD text (.lvl 6) p (match yu (yD p) (yV text) with | .inl e => .inl e | .inr q => .inr (.var n, q))
  | opnA {p e} : p.tk = .opn → yu (Ye p) (yV text) = .inl e → RD text (.lvl 6) p (.inl e)
  | opnE {p q e} : p.tk = .opn → yu (Ye p) (yV text) = .inr q → RD text (.lvl 1) q (.inl e) → RD text (.lvl 6) p (.inl e)
  | opnK {p q x q'} : p.tk = .opn → yu (Ye p) (yV text) = .inr q → RD text (.lvl 1) q (.inr (x, q')) → RD text (.lvl 6) p (match yU text 10 q' with | .inl e => .inl e | .inr q'' => .inr (x, { q'' with opn := q''.opn - 1 }))
  | iteA {p e} : p.tk = .ite → yu (yu (yu (Ye p) yD) (yV text)) (yU text 9) = .inl e → RD text (.lvl 6) p (.inl e)
  | iteC {p q e} : p.tk = .ite → yu (yu (yu (Ye p) yD) (yV text)) (yU text 9) = .inr q → RD text (.lvl 1) q (.inl e) → RD text (.lvl 6) p (.inl e)
  | iteD {p q c q1 e} : p.tk = .ite → yu (yu (yu (Ye p) yD) (yV text)) (yU text 9) = .inr q → RD text (.lvl 1) q (.inr (c, q1)) → yU text 11 q1 = .inl e → RD text (.lvl 6) p (.inl e)
  | iteE {p q c q1 q2 e} : p.tk = .ite → yu (yu (yu (Ye p) yD) (yV text)) (yU text 9) = .inr q → RD text (.lvl 1) q (.inr (c, q1)) → yU text 11 q1 = .inr q2 → RD text (.lvl 1) q2 (.inl e) → RD text (.lvl 6) p (.inl e)
  | iteF {p q c q1 q2 a q3 e} : p.tk = .ite → yu (yu (yu (Ye p) yD) (yV text)) (yU text 9) = .inr q → RD text (.lvl 1) q (.inr (c, q1)) → yU text 11 q1 = .inr q2 → RD text (.lvl 1) q2 (.inr (a, q3)) → yU text 11 q3 = .inl e → RD text (.lvl 6) p (.inl e)
  | iteG {p q c q1 q2 a q3 q4 e} : p.tk = .ite → yu (yu (yu (Ye p) yD) (yV text)) (yU text 9) = .inr q → RD text (.lvl 1) q (.inr (c, q1)) → yU text 11 q1 = .inr q2 → RD text (.lvl 1) q2 (.inr (a, q3)) → yU text 11 q3 = .inr q4 → RD text (.lvl 1) q4 (.inl e) → RD text (.lvl 6) p (.inl e)
  | iteK {p q c q1 q2 a q3 q4 b q5} : p.tk = .ite → yu (yu (yu (Ye p) yD) (yV text)) (yU text 9) = .inr q → RD text (.lvl 1) q (.inr (c, q1)) → yU text 11 q1 = .inr q2 → RD text (.lvl 1) q2 (.inr (a, q3)) → yU text 11 q3 = .inr q4 → RD text (.lvl 1) q4 (.inr (b, q5)) →
      RD text (.lvl 6) p (match yU text 10 q5 with | .inl e => .inl e | .inr q6 => .inr (.ite c a b, { q6 with opn := q6.opn - 1 }))
  | else_ {p} : (∀ t, t ∈ [p.tk] → t ≠ .not ∧ t ≠ .opn ∧ t ≠ .ite) → (∀ n, p.tk ≠ .const n) → (∀ n, p.tk ≠ .var n) → (∀ o, p.tk ≠ .quant o) → RD text (.lvl 6) p (.inl (131, p.at_))
end
section
open Go Go.RowKit Go.SL Go.ClauseP Go.LexP

/-! ### The machine -/
inductive Wt
  | not
  | quant (op n : Int)
  | opn
  | ite (n : Nat)
  | op (o : Int)
structure MS where
  st : List Wt
  out : List (Int × Int)
  opn : Nat
  nds : Nat
def YI (o : Int) : Nat := if o = 6 then 5 else if o = 8 then 4 else if o = 7 then 3 else if o = 9 then 2 else 1
def ndW : Wt → List (Int × Int)
  | .not => [(3, 0)]
  | .quant o n => [(o, n)]
  | .opn => []
  | .ite _ => [(11, 0)]
  | .op o => [(o, 0)]
def opW : Wt → Nat
  | .not => 1
  | .quant _ _ => 1
  | .opn => 1
  | .ite _ => 1
  | .op _ => 0
def Yd : List Wt → List (Int × Int) → Nat → List Wt × List (Int × Int) × Nat
  | [], o, k => ([], o, k)
  | w :: s, o, k => match w with
    | .opn => (.opn :: s, o, k)
    | .ite n => (.ite n :: s, o, k)
    | w => Yd s (o ++ ndW w) (k - opW w)
def YE (op : Int) : List Wt → List (Int × Int) → Nat → List Wt × List (Int × Int) × Nat
  | [], o, k => ([], o, k)
  | w :: s, o, k => match w with
    | .not => YE op s (o ++ [(3, 0)]) (k - 1)
    | .op x => if YI x < YI op ∨ YI x = YI op ∧ op = 9 then (.op x :: s, o, k) else YE op s (o ++ [(x, 0)]) k
    | w => (w :: s, o, k)
inductive Nx
  | err (e : Int)
  | done (o : List (Int × Int))
  | go (m : MS) (want q : Int)
def YK (m : MS) (w : Wt) (f : MS → Nx) : Nx := if 64 ≤ m.opn then .err 132 else f ⟨w :: m.st, m.out, m.opn + 1, m.nds⟩
def Yw (m : MS) (f : MS → Nx) : Nx := if 65536 ≤ m.nds then .err 8 else f ⟨m.st, m.out, m.opn, m.nds + 1⟩
def kY (m : MS) (q : Int) : List Wt × List (Int × Int) × Nat → Nx
  | (.opn :: s, o, k) => .go ⟨s, o, k - 1, m.nds⟩ 1 q
  | (.ite n :: s, o, k) => if n = 2 then .go ⟨s, o ++ [(11, 0)], k - 1, m.nds⟩ 1 q else .err 131
  | _ => .err 131
def KB (m : MS) (q : Int) : List Wt × List (Int × Int) × Nat → Nx
  | (.ite n :: s, o, k) => if 2 ≤ n then .err 131 else .go ⟨.ite (n + 1) :: s, o, k, m.nds⟩ 0 q
  | _ => .err 131
def finM : List Wt × List (Int × Int) × Nat → Nx
  | ([], o, _) => .done o
  | _ => .err 131
def yB (m : MS) (want q : Int) : Tk → Nx
  | .bad e => .err e
  | .const n => if want = 0 then Yw m fun m => .go ⟨m.st, m.out ++ [(1, n)], m.opn, m.nds⟩ 1 q else .err 131
  | .var n => if want = 0 then Yw m fun m => .go ⟨m.st, m.out ++ [(2, n)], m.opn, m.nds⟩ 1 q else if want = 3 then YK m (.quant q n) fun m => Yw m fun m => .go m 4 q else .err 131
  | .quant o => if want = 0 then .go m 3 o else .err 131
  | .opn => if want = 0 then YK m .opn fun m => .go m 0 q else if want = 2 then .go m 0 q else .err 131
  | .ite => if want = 0 then YK m (.ite 0) fun m => Yw m fun m => .go m 2 q else .err 131
  | .not => if want = 0 then YK m .not fun m => Yw m fun m => .go m 0 q else .err 131
  | .op o => if want = 1 then Yw m fun m => .go ⟨.op o :: (YE o m.st m.out m.opn).1, (YE o m.st m.out m.opn).2.1, (YE o m.st m.out m.opn).2.2, m.nds⟩ 0 q else .err 131
  | .cls => if want = 1 then kY m q (Yd m.st m.out m.opn) else .err 131
  | .comma => if want = 1 then KB m q (Yd m.st m.out m.opn) else if want = 4 then .go m 3 q else .err 131
  | .colon => if want = 4 then .go m 0 q else .err 131
  | .fin => if want = 1 then finM (Yd m.st m.out m.opn) else .err 131
abbrev Ans := (Int × Nat) ⊕ List (Int × Int)
inductive MRun (text : List UInt8) : MS → Int → Int → TokR → Ans → Prop
  | err {m w q t e} : yB m w q t.tk = .err e → MRun text m w q t (.inl (e, t.at_))
  | done {m w q t o} : yB m w q t.tk = .done o → MRun text m w q t (.inr o)
  | go {m w q t m' w' q' r} : yB m w q t.tk = .go m' w' q' → MRun text m' w' q' (yS text t.fin) r → MRun text m w q t r
theorem MRun.det {text : List UInt8} {m : MS} {w q : Int} {t : TokR} {r r' : Ans} (h : MRun text m w q t r) (h' : MRun text m w q t r') : r = r' := by
  induction h generalizing r' with
  | err h => cases h' with
    | err h2 => rw [h] at h2; injection h2 with h2; rw [h2]
    | done h2 => rw [h] at h2; cases h2
    | go h2 _ => rw [h] at h2; cases h2
  | done h => cases h' with
    | err h2 => rw [h] at h2; cases h2
    | done h2 => rw [h] at h2; injection h2 with h2; rw [h2]
    | go h2 _ => rw [h] at h2; cases h2
  | go h _ ih => cases h' with
    | err h2 => rw [h] at h2; cases h2
    | done h2 => rw [h] at h2; cases h2
    | go h2 h3 =>
      rw [h] at h2
      injection h2 with e1 e2 e3
      subst e1; subst e2; subst e3
      exact ih h3

/-! ### Tokens -/
def YU : Tk → Prop
  | .bad _ => False
  | .const n => n = 0 ∨ n = 1
  | .var n => 0 ≤ n ∧ n < 65536
  | .op o => 6 ≤ o ∧ o ≤ 10
  | .quant o => o = 4 ∨ o = 5
  | _ => True
theorem tokW_ok (w : List UInt8) : YU (kU w) ∨ ∃ e, kU w = .bad e := by
  unfold kU
  split; exact .inl (.inr rfl)
  split; exact .inl (.inl rfl)
  split; exact .inl (.inl rfl)
  split; exact .inl (.inr rfl)
  split; exact .inl trivial
  split
  · rename_i t _ _ _ _ _
    have := uy 65535 t
    have key : ∀ b : Bool, YU (if b = true then Tk.bad 131 else if kj 65535 t < 0 then Tk.bad 133 else Tk.var (kj 65535 t)) ∨ ∃ e, (if b = true then Tk.bad 131 else if kj 65535 t < 0 then Tk.bad 133 else Tk.var (kj 65535 t)) = .bad e := by
      intro b
      cases b
      · simp only [Bool.false_eq_true, if_false]
        split
        · exact .inr ⟨_, rfl⟩
        · exact .inl ⟨by omega, by omega⟩
      · exact .inr ⟨_, rfl⟩
    exact key _
  · exact .inr ⟨_, rfl⟩
theorem sign_ok (l : List UInt8) (s : List UInt8 × Tk) (h : kD l = some s) : YU s.2 := by
  have hm := List.mem_of_find?_eq_some h
  simp only [signs11, signs10, List.cons_append, List.nil_append, List.mem_cons, List.not_mem_nil, or_false] at hm
  rcases hm with rfl | rfl | rfl | rfl | rfl | rfl | rfl | rfl | rfl | rfl | rfl | rfl | rfl | rfl | rfl | rfl | rfl | rfl | rfl | rfl | rfl <;> simp [YU]
theorem pieceT_ok (l : List UInt8) : YU (Yj l).1 ∨ ∃ e, (Yj l).1 = .bad e := by
  unfold Yj
  split
  · exact .inl trivial
  · split
    · exact tokW_ok _
    · split
      · dsimp only
        split
        · exact .inr ⟨_, rfl⟩
        · rename_i c cs _ _ h
          have := uy 1 ((c :: cs).takeWhile Yn)
          exact .inl (by show _ ∨ _; omega)
      · split
        · rename_i s hs
          exact .inl (sign_ok _ _ hs)
        · exact .inr ⟨_, rfl⟩
theorem JB (text : List UInt8) (k : Nat) : YU (yS text k).tk ∨ ∃ e, (yS text k).tk = .bad e := by
  unfold yS
  split
  · exact .inl trivial
  · exact pieceT_ok _
theorem jb (text : List UInt8) (k : Nat) (hk : k ≤ text.length) : Yh text k ≤ text.length := by
  have := KZ (text.drop k) false
  rw [List.length_drop] at this
  unfold Yh
  omega
theorem ldP_of (c : UInt8) (h : kK c = true) : ldP c = true := by simp [ldP, h]
theorem tokW_fin (w : List UInt8) : kU w ≠ .fin := by
  unfold kU
  (repeat' split) <;> ((intro h; cases h))
theorem gy (c : UInt8) (l : List UInt8) : (Yj (c :: l)).1 ≠ .fin := by
  unfold Yj
  dsimp only
  split
  · exact tokW_fin _
  · split
    · dsimp only; split <;> (intro h; cases h)
    · split
      · rename_i s hs
        have hm := List.mem_of_find?_eq_some hs
        simp only [signs11, signs10, List.cons_append, List.nil_append, List.mem_cons, List.not_mem_nil, or_false] at hm
        rcases hm with rfl | rfl | rfl | rfl | rfl | rfl | rfl | rfl | rfl | rfl | rfl | rfl | rfl | rfl | rfl | rfl | rfl | rfl | rfl | rfl | rfl <;> (intro h; cases h)
      · intro h; cases h
theorem UU (text : List UInt8) : Yh text text.length = text.length := by
  unfold Yh
  rw [List.drop_eq_nil_of_le (Nat.le_refl _)]
  simp [Yx]
theorem nextT_end (text : List UInt8) : yS text text.length = ⟨.fin, text.length, text.length⟩ := by
  unfold yS; rw [if_pos (UU text)]
theorem nextT_fin (text : List UInt8) (k : Nat) (hk : k ≤ text.length) (h : (yS text k).tk = .fin) : (yS text k).fin = text.length := by
  unfold yS at h ⊢
  split
  · rfl
  · rename_i hne
    rw [if_neg hne] at h
    exfalso
    have h1 := jb text k hk
    obtain ⟨c, l, hl⟩ : ∃ c l, text.drop (Yh text k) = c :: l := by
      cases hd : text.drop (Yh text k) with
      | nil => have := congrArg List.length hd; simp at this; omega
      | cons c l => exact ⟨c, l, rfl⟩
    dsimp only at h
    rw [hl] at h
    exact gy c l h
def KK (p : Ps) : TokR := ⟨p.tk, p.at_, p.fin⟩
def Ok (text : List UInt8) (p : Ps) : Prop := YU p.tk ∧ p.opn ≤ 64 ∧ p.nds ≤ 65536 ∧ p.fin ≤ text.length ∧ (p.tk = .fin → p.fin = text.length)
end
end Go.Proofs.YthackanffcaejaaGreatDoor
