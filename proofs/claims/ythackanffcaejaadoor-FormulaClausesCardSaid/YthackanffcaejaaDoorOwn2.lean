/- Append, make and the conversions between strings and bytes under a list of assertions on the heap (Sl, Arm, Own). -/
import Derived.Test.YthackanffcaejaaDoorOwn
import Derived.Lib.AppendStr
import Derived.Laws.IdiomStrings
set_option linter.unusedVariables false
set_option linter.unusedSimpArgs false
namespace Go.SL
open Go Go.RowKit Go.Lib

section
variable {P : Program} {ops : Array Oper} {Q : Exit → Act → World → Prop} {rest : List Oper} {a : Act} {w w0 : World} {Hs R : List HP} {e : TypeId} {size n cap : Nat} {ad : Option Addr} {xs : List Value}

theorem Sat.newOwn {A : HP} {w' : World} {v : Value} (hS : Sat w0 w (A :: R)) (hg : w.grownBy w' none) (ho : w'.ownsRow w.heap.size e size v n xs) :
    ∃ ad cap, v = .slice ad n cap ∧ Sat w0 w' (own e size ad n cap xs :: R) := by
  obtain ⟨hlen, ho⟩ := ho
  rcases ho with ⟨rfl, rfl⟩ | ⟨g, cap, cur, rfl, hb, hh, hnc, hcm, hcs, hcur⟩
  · refine ⟨none, 0, rfl, ?_⟩
    exact (hS.step (B := own e size none 0 0 xs) hg.os hg.tape hg.output hg.size fun g hA hw => ⟨fun _ => none, ⟨hlen, .inl ⟨rfl, rfl, rfl, fun _ => rfl⟩⟩, fun b o h => (by cases h), fun b h => absurd rfl h, fun b hb _ => hg.block b hb (by simp)⟩)
  · refine ⟨some ⟨g, 0, none⟩, cap, rfl, ?_⟩
    refine hS.step hg.os hg.tape hg.output hg.size fun k hA hw => ⟨fun c => if c = g then some (.cells cur e (0, 0)) else none, ⟨hlen, .inr ⟨g, cur.toList, rfl, hnc, hcm, by simpa using hcs, hcur, fun c => ?_⟩⟩, fun b o h => ?_, fun b h => .inr ?_, fun b hb _ => hg.block b hb (by simp)⟩
    · simp
    · by_cases hbg : b = g
      · simp [hbg] at h; subst h; rw [hbg]; exact hh
      · simp [hbg] at h
    · by_cases hbg : b = g
      · omega
      · simp [hbg] at h
/-- The array is written within its capacity: more of it counts. -/
theorem own_more {news : List Value} {m g : Nat} (hl : news.length = m * size) (hroom : n + m ≤ cap) {w' : World} (hS : Sat w0 w (own e size (some ⟨g, 0, none⟩) n cap xs :: R)) (hos : w'.os = w.os) (htp : w'.tape = w.tape) (hou : w'.output = w.output) (hsz : w'.heap.size = w.heap.size)
    (hst : ∀ cur : List Value, cur.length = cap * size → cur.take (n * size) = xs → w.heap[g]? = some (.cells cur.toArray e (0, 0)) →
      w'.heap[g]? = some (.cells (cur.take (n * size) ++ news ++ cur.drop (n * size + news.length)).toArray e (0, 0)) ∧ ∀ c, c ≠ g → w'.heap[c]? = w.heap[c]?) :
    Sat w0 w' (own e size (some ⟨g, 0, none⟩) (n + m) cap (xs ++ news) :: R) := by
  refine hS.step hos htp hou (by omega) fun k hg hw => ?_
  obtain ⟨hlen, h⟩ := hg
  rcases h with ⟨h0, _⟩ | ⟨b, cur, hb, hnc, hcm, hcl, hcur, hblk⟩
  · cases h0
  · have hbe : g = b := by simpa using hb
    subst hbe
    obtain ⟨h3, h4⟩ := hst cur hcl hcur (hw g _ (by rw [hblk g]; simp))
    have hxl : (xs ++ news).length = (n + m) * size := by rw [List.length_append, hlen, hl, Nat.add_mul]
    have hfit : (n + m) * size ≤ cap * size := Nat.mul_le_mul_right _ hroom
    rw [hcur] at h3
    refine ⟨fun c => if c = g then some (.cells (xs ++ news ++ cur.drop (n * size + news.length)).toArray e (0, 0)) else none, ⟨hxl, .inr ⟨g, _, rfl, hroom, hcm, ?_, ?_, fun c => rfl⟩⟩, fun c o hc => ?_, fun c hc => .inl ?_, fun c _ hcn => h4 c ?_⟩
    · rw [List.length_append, hxl, List.length_drop, hcl, hl, ← Nat.add_mul]; omega
    · rw [← hxl]; exact List.take_left
    · by_cases hcg : c = g
      · simp only [hcg, if_true, Option.some.injEq] at hc; subst hc; rw [hcg]; exact h3
      · simp [hcg] at hc
    · by_cases hcg : c = g
      · rw [hblk c, if_pos hcg]; simp
      · simp [hcg] at hc
    · intro hcg
      rw [hblk c, if_pos hcg] at hcn
      cases hcn
theorem setRow_heap_other (w : World) (g : Nat) (cs : Array Value) (c : Nat) (h : c ≠ g) : (w.setRow g cs).heap[c]? = w.heap[c]? := by
  simp only [World.setRow, Array.getElem?_modify]
  rw [if_neg (Ne.symm h)]

/-- append(v, src...): v owns its array, src is a slice whose cells are known. -/
theorem run_append_sl {t ty : TypeId} {bytes : Nat} (E : ElemTy P t e size bytes) (hS : Sat w0 w (own e size ad n cap xs :: R)) {sd : Option Addr} {m c : Nat} {news : List Value} (hl : news.length = m * size)
    (hnews : ∀ (j : Nat) u, news[j]? = some u → (∃ aa, sd = some aa ∧ aa.spot = none) ∧ w.cell? (adr sd j) = some u) (h1 : ∀ u ∈ news, u.oneCell' = true) (hsd : sd = none → c = 0 ∧ m = 0) (h63 : n + m ≤ maxLen) (hb : (n + m) * bytes ≤ 140737488355328) :
    ∃ ad' cap' w', (Builtin.append_ #[t, t] ty #[.slice ad n cap, .slice sd m c]).run P w = .ok (.slice ad' (n + m) cap') w' ∧ Sat w0 w' (own e size ad' (n + m) cap' (xs ++ news) :: R) := by
  obtain ⟨i, z, hi, hz, hsz, hby, hzs⟩ := E.parts
  have hlen := hS.ownLen mem_hd
  obtain ⟨hnc, hcm⟩ := hS.ownCap mem_hd
  cases sd with
  | none =>
    obtain ⟨rfl, rfl⟩ := hsd rfl
    have hn0 : news = [] := by simpa using hl
    subst hn0
    refine ⟨ad, cap, w, ?_, by simpa using hS⟩
    cases ad <;> simp [Builtin.append_, run_underlying E.ht, sizeOf, typeInfo, hi, Builtin.lenOf, hnc, Builtin.firstCells, storeCells]
  | some sa =>
    have hnews' : ∀ (j : Nat) u, news[j]? = some u → w.cell? (sa.add j) = some u := fun j u h => by simpa [adr] using (hnews j u h).2
    rcases hS.ownAd mem_hd with ⟨rfl, rfl, rfl, rfl⟩ | ⟨g, rfl⟩
    · obtain ⟨v', w', hr, ho, hg, _⟩ := run_append_own (P := P) w w.heap.size t ty e i z size bytes E.ht hi hz hsz hby hzs E.pos (.slice none 0 0) 0 [] (World.ownsRow_nil _ _ _ _) sa m c news hl hnews' h1 h63 hb (Nat.le_refl _)
      obtain ⟨ad', cap', rfl, hS'⟩ := hS.newOwn (by simpa [Value.ownBlock] using hg) ho
      exact ⟨ad', cap', w', hr, hS'⟩
    · by_cases hroom : n + m ≤ cap
      · obtain ⟨k, hk, hw⟩ := hS.get mem_hd
        obtain ⟨_, hk⟩ := hk
        rcases hk with ⟨h0, _⟩ | ⟨g', cur, hgg, _, _, hcl, hcur, hblk⟩
        · cases h0
        · have hge : g = g' := by simpa using hgg
          subst hge
          have hh : w.heap[g]? = some (.cells cur.toArray e (0, 0)) := hw g _ (by rw [hblk g]; simp)
          have hfit : n * i.size + news.length ≤ cur.toArray.size := by
            rw [hl, hsz, ← Nat.add_mul, List.size_toArray, hcl]; exact Nat.mul_le_mul_right _ hroom
          have hr := run_append_room (P := P) w t ty e i E.ht hi g n cap cur.toArray hh sa m c news (by rw [hsz]; exact hl) hnews' h1 hroom hfit
          refine ⟨_, _, _, hr, own_more hl hroom hS rfl rfl rfl (by simp) fun cur2 hc2 ht2 hh2 => ?_⟩
          have : cur2 = cur := by rw [hh] at hh2; simpa using hh2.symm
          subst this
          refine ⟨?_, fun c hc => setRow_heap_other _ _ _ _ hc⟩
          have := setRow_heap w g cur2.toArray (cur2.take (n * size) ++ news ++ cur2.drop (n * size + news.length)).toArray e (0, 0) hh
          simpa [hsz] using this
      · have holds : ∀ (j : Nat) u, xs[j]? = some u → w.cell? ((⟨g, 0, none⟩ : Addr).add j) = some u := fun j u h => by
          have := (hS.ownCell mem_hd h).1
          simpa [adr] using this
        obtain ⟨v', w', hr, ho, hg⟩ := run_append_arg_grows (P := P) w t ty e i z size bytes E.ht hi hz hsz hby hzs E.pos ⟨g, 0, none⟩ n cap xs hlen holds sa m c news hl hnews' (by omega) h63 hb
        obtain ⟨ad', cap', rfl, hS'⟩ := hS.newOwn hg ho
        exact ⟨ad', cap', w', hr, hS'⟩
/-- append(b, s...), s a string. -/
theorem run_append_str {t u ty : TypeId} (E : ElemTy P t e 1 1) (hu : P.underlying u = some .string) (hz0 : (P.info? e).bind (·.zero) = some (.int .u8 0)) (hS : Sat w0 w (own e 1 ad n cap xs :: R)) (s : ByteArray) (h63 : n + s.size ≤ maxLen) (hb : n + s.size ≤ 140737488355328) :
    ∃ ad' cap' w', (Builtin.append_ #[t, u] ty #[.slice ad n cap, .string s]).run P w = .ok (.slice ad' (n + s.size) cap') w' ∧ Sat w0 w' (own e 1 ad' (n + s.size) cap' (xs ++ strCells s) :: R) := by
  obtain ⟨i, z, hi, hz, hsz, hby, hzs⟩ := E.parts
  have hzz : i.zero = some (.int .u8 0) := by simpa [hi] using hz0
  have hlen := hS.ownLen mem_hd
  obtain ⟨hnc, hcm⟩ := hS.ownCap mem_hd
  have hsl := strCells_length s
  rcases hS.ownAd mem_hd with ⟨rfl, rfl, rfl, rfl⟩ | ⟨g, rfl⟩
  · obtain ⟨v', w', hr, ho, hg, _⟩ := run_append_own_string (P := P) w w.heap.size t u ty e i E.ht hu hi hzz hsz hby (.slice none 0 0) 0 [] (World.ownsRow_nil _ _ _ _) s h63 hb (Nat.le_refl _)
    obtain ⟨ad', cap', rfl, hS'⟩ := hS.newOwn (by simpa [Value.ownBlock] using hg) ho
    exact ⟨ad', cap', w', hr, hS'⟩
  · by_cases hroom : n + s.size ≤ cap
    · obtain ⟨k, hk, hw⟩ := hS.get mem_hd
      obtain ⟨_, hk⟩ := hk
      rcases hk with ⟨h0, _⟩ | ⟨g', cur, hgg, _, _, hcl, hcur, hblk⟩
      · cases h0
      · have hge : g = g' := by simpa using hgg
        subst hge
        have hh : w.heap[g]? = some (.cells cur.toArray e (0, 0)) := hw g _ (by rw [hblk g]; simp)
        have hr := run_append_room_string (P := P) w t u ty e i E.ht hu hi hsz g n cap cur.toArray hh s hroom (by simpa [hcl] using hroom)
        refine ⟨_, _, _, hr, own_more (by rw [hsl, Nat.mul_one]) hroom hS rfl rfl rfl (by simp) fun cur2 hc2 ht2 hh2 => ?_⟩
        have : cur2 = cur := by rw [hh] at hh2; simpa using hh2.symm
        subst this
        refine ⟨?_, fun c hc => setRow_heap_other _ _ _ _ hc⟩
        have := setRow_heap w g cur2.toArray (cur2.take (n * 1) ++ strCells s ++ cur2.drop (n * 1 + (strCells s).length)).toArray e (0, 0) hh
        simpa [hsl] using this
    · have holds : ∀ (j : Nat) u, xs[j]? = some u → w.cell? ((⟨g, 0, none⟩ : Addr).add j) = some u := fun j u h => by
        have := (hS.ownCell mem_hd h).1
        simpa [adr] using this
      have hgr : cap < n + s.size := by omega
      have hr := run_append_grow_string (P := P) w t u ty e i (.int .u8 0) E.ht hu hi hzz ⟨g, 0, none⟩ n cap xs (by rw [hsz]; exact hlen) holds s hgr (by unfold maxLen at h63; omega) (growslice_fits hgr (by rw [hby]; omega))
      have hge := grownCap_ge w (n + s.size) cap e
      have hcm2 := grownCap_le_maxLen w (n + s.size) cap e h63
      have hxl : (xs ++ strCells s).length = (n + s.size) * 1 := by rw [List.length_append, hlen, hsl]; omega
      obtain ⟨ad', cap', hv, hS'⟩ := hS.newOwn (e := e) (size := 1) (n := n + s.size) (xs := xs ++ strCells s) (v := .slice (some ⟨w.heap.size, 0, none⟩) (n + s.size) (grownCap w (n + s.size) cap e))
        (w' := w.drew.alloc (.cells (xs.toArray ++ (strCells s).toArray ++ Builtin.zeroCells (Value.int .u8 0).cells (grownCap w (n + s.size) cap e - (n + s.size))) e))
        ⟨rfl, rfl, rfl, by simp, fun k hk _ => Below.heap_alloc w.drew _ k hk⟩
        ⟨hxl, .inr ⟨w.heap.size, _, _, rfl, Nat.le_refl _, heap_alloc_new w.drew _, hge, hcm2, by simp [size_zeroCells, Value.cells, hlen, hsl]; omega, by
          simp only [Array.toList_append, List.append_assoc]
          rw [← List.append_assoc, ← hxl]
          exact List.take_left⟩⟩
      exact ⟨_, _, _, hr, by cases hv; exact hS'⟩
end
end Go.SL
