/- Clauses that are formed, printed and read: plain Lean: they are the same again. -/
import Derived.Test.YthackanffcaejaaDoorCl7
import Derived.Test.YthackanffcaejaaDoorCnfP
set_option linter.unusedSimpArgs false
set_option linter.unusedVariables false
set_option maxRecDepth 20000
namespace Go.Proofs.YthackanffcaejaaDoor
open Go Go.ClauseP Go.LinesP

theorem ofNat_dig (d : Nat) (h : d < 10) : digP (UInt8.ofNat (48 + d)) = true ∧ (UInt8.ofNat (48 + d)).toNat = 48 + d := by
  have : d = 0 ∨ d = 1 ∨ d = 2 ∨ d = 3 ∨ d = 4 ∨ d = 5 ∨ d = 6 ∨ d = 7 ∨ d = 8 ∨ d = 9 := by omega
  rcases this with rfl | rfl | rfl | rfl | rfl | rfl | rfl | rfl | rfl | rfl <;> decide
theorem dec_ok (n : Nat) : (Lib.decDigits n).all digP = true ∧ Lib.decDigits n ≠ [] ∧ valD 0 (Lib.decDigits n) = n ∧ (n ≠ 0 → (Lib.decDigits n).head? ≠ some 48) ∧ (n = 0 → Lib.decDigits n = [48]) := by
  induction n using Nat.strongRecOn with
  | ind n ih =>
    by_cases h : n < 10
    · rw [Lib.decDigits_one h]
      obtain ⟨h1, h2⟩ := ofNat_dig n h
      generalize hd : UInt8.ofNat (48 + n) = d at *
      refine ⟨by simp [h1], by simp, by simp [valD, h2], fun h0 e => ?_, fun h0 => by rw [← hd, h0]; rfl⟩
      have : d = 48 := by simpa using e
      rw [this] at h2
      have : (48 : UInt8).toNat = 48 := rfl
      omega
    · obtain ⟨i1, i2, i3, i4, _⟩ := ih (n / 10) (by omega)
      obtain ⟨h1, h2⟩ := ofNat_dig (n % 10) (by omega)
      have e : Lib.decDigits n = Lib.decDigits (n / 10) ++ [UInt8.ofNat (48 + n % 10)] := by rw [Lib.decDigits, dif_neg h]
      rw [e]
      clear e
      generalize UInt8.ofNat (48 + n % 10) = d at *
      refine ⟨by rw [List.all_append, i1]; simp [h1], by simp, by rw [valD_snoc, i3, h2]; omega, fun _ => ?_, fun h0 => by omega⟩
      cases hl : Lib.decDigits (n / 10) with
      | nil => exact absurd hl i2
      | cons a b =>
        have := i4 (by omega)
        rw [hl] at this
        simpa using this
theorem num_dec (most n : Nat) (h : n ≤ most) : numM most (Lib.decDigits n) = n := by
  obtain ⟨h1, h2, h3, h4, h5⟩ := dec_ok n
  rw [numM_val h2 ?_ h1, h3, if_neg (by omega)]
  rintro ⟨a, b⟩
  by_cases h0 : n = 0
  · rw [h5 h0] at a; simp at a
  · exact h4 h0 b
theorem lit_itoa (n : Int) (h0 : n ≠ 0) (h1 : -65536 ≤ n) (h2 : n ≤ 65536) : litP (Lib.itoa n) = some n := by
  by_cases hn : 0 < n
  · obtain ⟨k, rfl⟩ : ∃ k : Nat, n = k := ⟨n.toNat, by omega⟩
    rw [Lib.itoa_nonneg]
    obtain ⟨g1, g2, _⟩ := dec_ok k
    have hd : (Lib.decDigits k).head? ≠ some 45 := by
      intro e
      cases hl : Lib.decDigits k with
      | nil => exact g2 hl
      | cons c cs =>
        rw [hl] at e g1
        obtain rfl : c = 45 := by simpa using e
        simp [digP] at g1
    rw [litP, if_neg hd, num_dec _ _ (by omega), if_neg (by omega)]
  · obtain ⟨k, rfl⟩ : ∃ k : Nat, n = -(k : Int) := ⟨(-n).toNat, by omega⟩
    rw [Lib.itoa_neg k (by omega), litP, if_pos (by simp), List.drop_succ_cons, List.drop_zero, num_dec _ _ (by omega), if_neg (by omega)]
theorem lit_zero : litP [48] = some 0 := by
  have : [48] = Lib.decDigits 0 := ((dec_ok 0).2.2.2.2 rfl).symm
  rw [litP, if_neg (by simp), this, num_dec _ _ (by omega), if_neg (by omega)]
  rfl
theorem dig_word {c : UInt8} (h : digP c = true) : wordP c = true := by
  have := digP_le h
  have h2 : ∀ d : UInt8, d.toNat < 48 → (c == d) = false := fun d hd => by
    simp only [beq_eq_false_iff_ne]
    intro e; rw [e] at this; omega
  simp [wordP, gapP, h2 32 (by decide), h2 9 (by decide), h2 13 (by decide), bne, h2 10 (by decide)]
/-- A word. -/
def IsW (w : List UInt8) : Prop := w ≠ [] ∧ w.all wordP = true
theorem itoa_w (n : Int) : IsW (Lib.itoa n) := by
  by_cases hn : 0 ≤ n
  · obtain ⟨k, rfl⟩ : ∃ k : Nat, n = k := ⟨n.toNat, by omega⟩
    rw [Lib.itoa_nonneg]
    obtain ⟨g1, g2, _⟩ := dec_ok k
    refine ⟨g2, List.all_eq_true.2 fun c hc => dig_word (List.all_eq_true.1 g1 c hc)⟩
  · obtain ⟨k, rfl⟩ : ∃ k : Nat, n = -(k : Int) := ⟨(-n).toNat, by omega⟩
    rw [Lib.itoa_neg k (by omega)]
    obtain ⟨g1, g2, _⟩ := dec_ok k
    refine ⟨by simp, List.all_eq_true.2 fun c hc => ?_⟩
    rcases List.mem_cons.1 hc with rfl | hc
    · rfl
    · exact dig_word (List.all_eq_true.1 g1 c hc)
theorem itoa_first (n : Int) : ∀ c, (Lib.itoa n).head? = some c → c ≠ 99 := by
  intro c hc e
  subst e
  by_cases hn : 0 ≤ n
  · obtain ⟨k, rfl⟩ : ∃ k : Nat, n = k := ⟨n.toNat, by omega⟩
    rw [Lib.itoa_nonneg] at hc
    have := List.all_eq_true.1 (dec_ok k).1 99 (List.mem_of_head? hc)
    simp [digP] at this
  · obtain ⟨k, rfl⟩ : ∃ k : Nat, n = -(k : Int) := ⟨(-n).toNat, by omega⟩
    rw [Lib.itoa_neg k (by omega)] at hc
    simp at hc
theorem takeW (w : List UInt8) (h : w.all wordP = true) (c : UInt8) (hc : wordP c = false) (rest : List UInt8) : (w ++ c :: rest).takeWhile wordP = w := by
  induction w with
  | nil => simp [hc]
  | cons a w ih =>
    simp only [List.all_cons, Bool.and_eq_true] at h
    simp [h.1, ih h.2]
theorem wordsL_tok (w : List UInt8) (h : IsW w) (c : UInt8) (hc : wordP c = false) (rest : List UInt8) (off : Nat) : wordsL off (w ++ c :: rest) = (w, off) :: wordsL (off + w.length) (c :: rest) := by
  obtain ⟨h1, h2⟩ := h
  obtain ⟨a, t, rfl⟩ : ∃ a t, w = a :: t := by cases w with | nil => exact absurd rfl h1 | cons a t => exact ⟨a, t, rfl⟩
  simp only [List.all_cons, Bool.and_eq_true] at h2
  rw [List.cons_append, wordsL_word h2.1, takeW t h2.2 c hc rest, List.drop_left]
  simp only [List.length_cons]
  congr 2
  omega
/-- A word and a blank behind it. -/
theorem wordsL_sp (w : List UInt8) (h : IsW w) (rest : List UInt8) (off : Nat) : (wordsL off (w ++ 32 :: rest)) = (w, off) :: wordsL (off + w.length + 1) rest := by
  rw [wordsL_tok w h 32 rfl, wordsL_gap rfl]
theorem line_words : ∀ (ns : List Int) (off : Nat), (wordsL off (CnfP.line ns ++ [48, 10])).map Prod.fst = ns.map Lib.itoa ++ [[48]]
  | [], off => by
    have : wordsL off ([48] ++ 10 :: []) = ([48], off) :: wordsL (off + 1) [10] := wordsL_tok [48] ⟨by simp, rfl⟩ 10 rfl [] off
    show (wordsL off ([48] ++ 10 :: [])).map Prod.fst = _
    rw [this, wordsL_gap rfl, wordsL_nil]
    rfl
  | n :: ns, off => by
    have e : CnfP.line (n :: ns) ++ [48, 10] = Lib.itoa n ++ 32 :: (CnfP.line ns ++ [48, 10]) := by simp [CnfP.line]
    rw [e, wordsL_sp _ (itoa_w n), List.map_cons, line_words ns]
    rfl
theorem head_words (v : Int) (n : Nat) (off : Nat) : (wordsL off (CnfP.head v n)).map Prod.fst = [[112], [99, 110, 102], Lib.itoa v, Lib.itoa n] := by
  have e : CnfP.head v n = [112] ++ 32 :: ([99, 110, 102] ++ 32 :: (Lib.itoa v ++ 32 :: (Lib.itoa n ++ 10 :: []))) := by simp [CnfP.head]
  rw [e, wordsL_sp _ ⟨by simp, rfl⟩, wordsL_sp _ ⟨by simp, rfl⟩, wordsL_sp _ (itoa_w v), wordsL_tok _ (itoa_w n) 10 rfl, wordsL_gap rfl, wordsL_nil]
  rfl
theorem linesL_cut : ∀ (l : List UInt8), 10 ∉ l → ∀ rest, linesL (l ++ 10 :: rest) = (l ++ [10]) :: linesL rest
  | [], _, rest => by simp [linesL]
  | c :: l, h, rest => by
    simp only [List.mem_cons, not_or] at h
    rw [List.cons_append, linesL, if_neg (fun e => h.1 e.symm), linesL_cut l h.2 rest]
    rfl
theorem word_no10 {w : List UInt8} (h : w.all wordP = true) : 10 ∉ w := fun hm => by
  have := List.all_eq_true.1 h 10 hm
  simp [wordP] at this
theorem line_no10 (ns : List Int) : 10 ∉ CnfP.line ns := by
  intro h
  simp only [CnfP.line, List.mem_flatMap, List.mem_append, List.mem_singleton] at h
  obtain ⟨n, _, h | h⟩ := h
  · exact word_no10 (itoa_w n).2 h
  · cases h
theorem kept_of {ws : List Wd} {w : List UInt8} {W : List (List UInt8)} (h : ws.map Prod.fst = w :: W) (hw : w ≠ []) (h99 : ∀ c, w.head? = some c → c ≠ 99) : keptL ws = true := by
  cases ws with
  | nil => cases h
  | cons x xs =>
    simp only [List.map_cons, List.cons.injEq] at h
    obtain ⟨x1, x2⟩ := x
    simp only at h
    rw [← h.1] at hw h99
    cases x1 with
    | nil => exact absurd rfl hw
    | cons c cs =>
      have := h99 c rfl
      simp [keptL, remark, this]
/-- The clauses' words. -/
def cw (ls : List Int) : Nat → List Int → List (List (List UInt8))
  | _, [] => []
  | fr, e :: es => (((ls.drop fr).take (e.toNat - fr)).map Lib.itoa ++ [[48]]) :: cw ls e.toNat es
theorem body_items (ls : List Int) : ∀ (es : List Int) (fr off : Nat), (itemsL off (linesL (CnfP.body ls fr es))).map (fun l => l.map Prod.fst) = cw ls fr es
  | [], fr, off => by simp [CnfP.body, linesL, itemsL, wordsL_nil, keptL, cw]
  | e :: es, fr, off => by
    have e1 : CnfP.body ls fr (e :: es) = (CnfP.line ((ls.drop fr).take (e.toNat - fr)) ++ [48]) ++ 10 :: CnfP.body ls e.toNat es := by simp [CnfP.body]
    rw [e1, linesL_cut _ (by
      intro h
      rcases List.mem_append.1 h with h | h
      · exact line_no10 _ h
      · simp at h)]
    have e2 : CnfP.line ((ls.drop fr).take (e.toNat - fr)) ++ [48] ++ [10] = CnfP.line ((ls.drop fr).take (e.toNat - fr)) ++ [48, 10] := by simp
    rw [e2, itemsL]
    have hw := line_words ((ls.drop fr).take (e.toNat - fr)) off
    have hk : keptL (wordsL off (CnfP.line ((ls.drop fr).take (e.toNat - fr)) ++ [48, 10])) = true := by
      cases hns : (ls.drop fr).take (e.toNat - fr) with
      | nil =>
        rw [hns] at hw
        exact kept_of (w := [48]) (W := []) hw (by simp) (fun c hc => by
          have : (48 : UInt8) = c := by simpa using hc
          rw [← this]
          decide)
      | cons n ns =>
        rw [hns] at hw
        exact kept_of (w := Lib.itoa n) hw (itoa_w n).1 (itoa_first n)
    rw [if_pos hk, List.map_append, body_items ls es, List.map_cons, List.map_nil, hw, cw]
    rfl
theorem body_lits {v c : Int} (hv : v ≤ 65536) : ∀ (ns : List Int) (W1 W2 : List Wd) (es ls : List Int), W1.map Prod.fst = ns.map Lib.itoa → ¬ (es.length : Int) = c → (∀ n ∈ ns, n ≠ 0 ∧ -v ≤ n ∧ n ≤ v) → ls.length + ns.length ≤ 1048576 →
    bodyP v c (W1 ++ W2) es ls = bodyP v c W2 es (ls ++ ns)
  | [], W1, W2, es, ls, h, _, _, _ => by
    obtain rfl : W1 = [] := by simpa using h
    simp
  | n :: ns, [], W2, es, ls, h, _, _, _ => by cases h
  | n :: ns, w :: W1, W2, es, ls, h, hc, hn, hl => by
    simp only [List.map_cons, List.cons.injEq] at h
    obtain ⟨g1, g2, g3⟩ := hn n (.head _)
    have hlit : litP w.1 = some n := by rw [h.1]; exact lit_itoa n g1 (by omega) (by omega)
    simp only [List.length_cons] at hl
    rw [List.cons_append, body_lit hc hlit (by omega) g1 (by omega), body_lits hv ns W1 W2 es (ls ++ [n]) h.2 hc (fun m hm => hn m (.tail _ hm)) (by simp; omega)]
    simp
/-- What stands behind the head is read as it was printed. -/
theorem body_back (v : Int) (hv0 : 0 ≤ v) (hv : v ≤ 65536) (ls : List Int) (hls : ∀ n ∈ ls, n ≠ 0 ∧ -v ≤ n ∧ n ≤ v) (hl : ls.length ≤ 1048576) : ∀ (es done : List Int) (fr : Nat) (c : Int) (W : List (List Wd)), (c : Int) = done.length + es.length → CnfP.chk (fr : Int) es = some (ls.length : Int) →
    W.map (fun l => l.map Prod.fst) = cw ls fr es → bodyP v c W.flatten done (ls.take fr) = .inl (done ++ es, ls)
  | [], done, fr, c, W, hc, hk, hW => by
    simp only [cw, List.map_eq_nil_iff] at hW
    subst hW
    simp only [CnfP.chk, Option.some.injEq] at hk
    have : fr = ls.length := by omega
    rw [this, List.take_length]
    simp [bodyP]
  | e :: es, done, fr, c, W, hc, hk, hW => by
    obtain ⟨h1, h2, h3⟩ := CnfP.chk_cons hk
    have he : ((e.toNat : Nat) : Int) = e := by omega
    cases W with
    | nil => cases hW
    | cons w W =>
      simp only [List.map_cons, cw, List.cons.injEq] at hW
      obtain ⟨hw, hW⟩ := hW
      obtain ⟨W1, W0, rfl, hW1, hW0⟩ := List.map_eq_append_iff.1 hw
      obtain ⟨w0, hw0, rfl⟩ : ∃ w0 : Wd, w0.1 = [48] ∧ W0 = [w0] := by
        cases W0 with
        | nil => cases hW0
        | cons w0 W0 =>
          simp only [List.map_cons, List.cons.injEq, List.map_eq_nil_iff] at hW0
          exact ⟨w0, hW0.1, by rw [hW0.2]⟩
      simp only [List.length_cons] at hc
      have hne : ¬ (done.length : Int) = c := by omega
      have hlen : ((ls.drop fr).take (e.toNat - fr)).length = e.toNat - fr := by rw [List.length_take, List.length_drop]; omega
      have ht : (ls.take fr).length = fr := by rw [List.length_take]; omega
      rw [List.flatten_cons, List.append_assoc, body_lits hv _ W1 _ done _ hW1 hne (fun n hn => hls n (List.mem_of_mem_drop (List.mem_of_mem_take hn))) (by rw [ht, hlen]; omega)]
      have hcat : ls.take fr ++ (ls.drop fr).take (e.toNat - fr) = ls.take e.toNat := by
        rw [← List.take_add]
        congr 1
        omega
      rw [hcat, List.singleton_append, body_zero hne (by rw [hw0]; exact lit_zero) (by omega)]
      have hte : (ls.take e.toNat).length = e.toNat := by rw [List.length_take]; omega
      rw [hte, he, body_back v hv0 hv ls hls hl es (done ++ [e]) e.toNat c W (by simp; omega) (by rw [he]; exact h3) hW]
      simp
theorem chk_last : ∀ (es : List Int) (fr L : Int), CnfP.chk fr es = some L → es.getLast?.getD fr = L
  | [], fr, L, h => by simpa [CnfP.chk] using h
  | e :: es, fr, L, h => by
    obtain ⟨_, _, h3⟩ := CnfP.chk_cons h
    have := chk_last es e L h3
    cases es with
    | nil => simpa using this
    | cons a b =>
      rw [List.getLast?_cons_cons]
      cases hg : (a :: b).getLast? with
      | none => simp at hg
      | some x => rw [hg] at this; simpa using this
theorem num_back (n : Int) (h0 : 0 ≤ n) (h : n ≤ 65536) (k : Nat) : num65536 (Lib.itoa n, k) = .inl n := by
  obtain ⟨m, rfl⟩ : ∃ m : Nat, n = m := ⟨n.toNat, by omega⟩
  unfold num65536
  rw [Lib.itoa_nonneg]
  simp only
  rw [num_dec _ _ (by omega), if_neg (by omega), if_neg (by omega)]
/-- Clauses that are formed, printed and read, are the same again. -/
theorem cnf_back (v : Int) (es ls : List Int) (hf : CnfP.formed v es ls = true) (ht : (CnfP.text v es ls).length ≤ 1048576) : resP (CnfP.text v es ls) = .inl ⟨v, es, ls⟩ := by
  obtain ⟨b1, b2, b3, b4, b5, b6⟩ := CnfP.formed_parts hf
  rw [resP, if_neg (by omega)]
  obtain ⟨X, hX, h10⟩ : ∃ X, CnfP.head v es.length = X ++ [10] ∧ 10 ∉ X := by
    refine ⟨[112, 32, 99, 110, 102, 32] ++ Lib.itoa v ++ [32] ++ Lib.itoa es.length, rfl, fun h => ?_⟩
    simp only [List.mem_append] at h
    rcases h with ((h | h) | h) | h
    · simp at h
    · exact word_no10 (itoa_w v).2 h
    · simp at h
    · exact word_no10 (itoa_w es.length).2 h
  have hw := head_words v es.length 0
  have hl : linesL (CnfP.text v es ls) = CnfP.head v es.length :: linesL (CnfP.body ls 0 es) := by
    rw [CnfP.text, hX, List.append_assoc, List.singleton_append, linesL_cut X h10]
  have hk : keptL (wordsL 0 (CnfP.head v es.length)) = true := kept_of hw (by simp) (fun c hc => by
    have : (112 : UInt8) = c := by simpa using hc
    rw [← this]
    decide)
  rw [hl, itemsL, if_pos hk]
  have hbi := body_items ls es 0 (0 + (CnfP.head v es.length).length)
  generalize itemsL (0 + (CnfP.head v es.length).length) (linesL (CnfP.body ls 0 es)) = W at *
  generalize wordsL 0 (CnfP.head v es.length) = hd at *
  simp only [List.singleton_append, cnfP]
  obtain ⟨w0, w1, w2, w3, rfl, e0, e1, e2, e3⟩ : ∃ w0 w1 w2 w3 : Wd, hd = [w0, w1, w2, w3] ∧ w0.1 = [112] ∧ w1.1 = [99, 110, 102] ∧ w2.1 = Lib.itoa v ∧ w3.1 = Lib.itoa es.length := by
    have hlen : hd.length = 4 := by
      have := congrArg List.length hw
      simpa using this
    obtain ⟨w0, w1, w2, w3, rfl⟩ : ∃ w0 w1 w2 w3, hd = [w0, w1, w2, w3] := by
      match hd, hlen with
      | [w0, w1, w2, w3], _ => exact ⟨w0, w1, w2, w3, rfl⟩
    simp only [List.map_cons, List.map_nil, List.cons.injEq, and_true] at hw
    exact ⟨w0, w1, w2, w3, rfl, hw.1, hw.2.1, hw.2.2.1, hw.2.2.2⟩
  obtain ⟨x2, k2⟩ := w2
  obtain ⟨x3, k3⟩ := w3
  simp only at e2 e3
  subst e2
  subst e3
  have hh : headP (behindP [w0, w1, (Lib.itoa v, k2), (Lib.itoa es.length, k3)]) [w0, w1, (Lib.itoa v, k2), (Lib.itoa es.length, k3)] = .inl (v, es.length) := by
    rw [head_h]
    simp only [h0, h1, h2, h3, h4, e0, e1, num_back v b1 b2 k2, num_back es.length (by omega) (by omega) k3]
    simp
  rw [hh]
  simp only
  have hb := body_back v b1 b2 ls b6 b4 es [] 0 es.length W (by simp) b5 hbi
  rw [List.take_zero, List.nil_append] at hb
  rw [hb]
  simp only
  have hlast := chk_last es 0 ls.length b5
  rw [if_neg (by rw [hlast]; omega)]
def liveT : List UInt8 := [112, 32, 99, 110, 102, 32, 50, 32, 50, 10, 49, 32, 45, 50, 32, 48, 32, 50, 32, 48, 10]
theorem live_words (off : Nat) : (wordsL off [49, 32, 45, 50, 32, 48, 32, 50, 32, 48, 10]).map Prod.fst = [[49], [45, 50], [48], [50], [48]] := by
  have e : ([49, 32, 45, 50, 32, 48, 32, 50, 32, 48, 10] : List UInt8) = [49] ++ 32 :: ([45, 50] ++ 32 :: ([48] ++ 32 :: ([50] ++ 32 :: ([48] ++ 10 :: [])))) := rfl
  rw [e, wordsL_sp _ ⟨by simp, rfl⟩, wordsL_sp _ ⟨by simp, rfl⟩, wordsL_sp _ ⟨by simp, rfl⟩, wordsL_sp _ ⟨by simp, rfl⟩, wordsL_tok _ ⟨by simp, rfl⟩ 10 rfl, wordsL_gap rfl, wordsL_nil]
  rfl
theorem live_head (off : Nat) : (wordsL off [112, 32, 99, 110, 102, 32, 50, 32, 50, 10]).map Prod.fst = [[112], [99, 110, 102], [50], [50]] := by
  have e : ([112, 32, 99, 110, 102, 32, 50, 32, 50, 10] : List UInt8) = [112] ++ 32 :: ([99, 110, 102] ++ 32 :: ([50] ++ 32 :: ([50] ++ 10 :: []))) := rfl
  rw [e, wordsL_sp _ ⟨by simp, rfl⟩, wordsL_sp _ ⟨by simp, rfl⟩, wordsL_sp _ ⟨by simp, rfl⟩, wordsL_tok _ ⟨by simp, rfl⟩ 10 rfl, wordsL_gap rfl, wordsL_nil]
  rfl
/-- The text that must be read. -/
theorem live_is : resP liveT = .inl ⟨2, [2, 3], [1, -2, 2]⟩ := by
  rw [resP, if_neg (by decide)]
  have hl : linesL liveT = [[112, 32, 99, 110, 102, 32, 50, 32, 50, 10], [49, 32, 45, 50, 32, 48, 32, 50, 32, 48, 10], []] := rfl
  have hw := live_head 0
  have hw2 := live_words (0 + 10)
  have hk : keptL (wordsL 0 [112, 32, 99, 110, 102, 32, 50, 32, 50, 10]) = true := kept_of hw (by simp) (fun c hc => by
    have : (112 : UInt8) = c := by simpa using hc
    rw [← this]
    decide)
  have hk2 : keptL (wordsL (0 + 10) [49, 32, 45, 50, 32, 48, 32, 50, 32, 48, 10]) = true := kept_of hw2 (by simp) (fun c hc => by
    have : (49 : UInt8) = c := by simpa using hc
    rw [← this]
    decide)
  have hk3 : keptL (wordsL (0 + 10 + 11) []) = false := by rw [wordsL_nil]; rfl
  have hit : itemsL 0 (linesL liveT) = [wordsL 0 [112, 32, 99, 110, 102, 32, 50, 32, 50, 10], wordsL (0 + 10) [49, 32, 45, 50, 32, 48, 32, 50, 32, 48, 10]] := by
    rw [hl]
    simp only [itemsL]
    rw [if_pos hk]
    simp only [List.length_cons, List.length_nil, Nat.reduceAdd]
    rw [if_pos hk2, if_neg (by rw [hk3]; simp)]
    rfl
  rw [hit]
  clear hit hk hk2 hk3 hl
  generalize wordsL 0 [112, 32, 99, 110, 102, 32, 50, 32, 50, 10] = hd at *
  generalize wordsL (0 + 10) [49, 32, 45, 50, 32, 48, 32, 50, 32, 48, 10] = bd at *
  obtain ⟨w0, w1, w2, w3, rfl, e0, e1, e2, e3⟩ : ∃ w0 w1 w2 w3 : Wd, hd = [w0, w1, w2, w3] ∧ w0.1 = [112] ∧ w1.1 = [99, 110, 102] ∧ w2.1 = [50] ∧ w3.1 = [50] := by
    have hlen : hd.length = 4 := by
      have := congrArg List.length hw
      simpa using this
    obtain ⟨w0, w1, w2, w3, rfl⟩ : ∃ w0 w1 w2 w3, hd = [w0, w1, w2, w3] := by
      match hd, hlen with
      | [w0, w1, w2, w3], _ => exact ⟨w0, w1, w2, w3, rfl⟩
    simp only [List.map_cons, List.map_nil, List.cons.injEq, and_true] at hw
    exact ⟨w0, w1, w2, w3, rfl, hw.1, hw.2.1, hw.2.2.1, hw.2.2.2⟩
  obtain ⟨u0, u1, u2, u3, u4, rfl, f0, f1, f2, f3, f4⟩ : ∃ u0 u1 u2 u3 u4 : Wd, bd = [u0, u1, u2, u3, u4] ∧ u0.1 = [49] ∧ u1.1 = [45, 50] ∧ u2.1 = [48] ∧ u3.1 = [50] ∧ u4.1 = [48] := by
    have hlen : bd.length = 5 := by
      have := congrArg List.length hw2
      simpa using this
    obtain ⟨w0, w1, w2, w3, w4, rfl⟩ : ∃ w0 w1 w2 w3 w4, bd = [w0, w1, w2, w3, w4] := by
      match bd, hlen with
      | [w0, w1, w2, w3, w4], _ => exact ⟨w0, w1, w2, w3, w4, rfl⟩
    simp only [List.map_cons, List.map_nil, List.cons.injEq, and_true] at hw2
    exact ⟨w0, w1, w2, w3, w4, rfl, hw2.1, hw2.2.1, hw2.2.2.1, hw2.2.2.2.1, hw2.2.2.2.2⟩
  have n50 : ∀ w : Wd, w.1 = [50] → num65536 w = .inl 2 := fun w h => by
    unfold num65536
    rw [h]
    decide
  have hh : headP (behindP [w0, w1, w2, w3]) [w0, w1, w2, w3] = .inl (2, 2) := by
    rw [head_h]
    simp only [h0, h1, h2, h3, h4, e0, e1, n50 w2 e2, n50 w3 e3]
    simp
  have l0 : litP u0.1 = some 1 := by rw [f0]; decide
  have l1 : litP u1.1 = some (-2) := by rw [f1]; decide
  have l2 : litP u2.1 = some 0 := by rw [f2]; decide
  have l3 : litP u3.1 = some 2 := by rw [f3]; decide
  have l4 : litP u4.1 = some 0 := by rw [f4]; decide
  have hb : bodyP 2 2 ([[u0, u1, u2, u3, u4]] : List (List Wd)).flatten [] [] = .inl ([2, 3], [1, -2, 2]) := by
    simp [bodyP, l0, l1, l2, l3, l4]
  simp only [cnfP]
  rw [hh]
  simp only
  rw [hb]
  simp
end Go.Proofs.YthackanffcaejaaDoor
