/- Numbers as hexadecimal digits: plain lists of bytes. -/
namespace Go.Proofs.Hex

def hexd (j : Nat) : UInt8 := if j < 10 then UInt8.ofNat (48 + j) else UInt8.ofNat (87 + j)
def hexs (n : Nat) : List UInt8 := if n < 16 then [hexd n] else hexs (n / 16) ++ [hexd (n % 16)]
termination_by n
decreasing_by omega
def hexN : Nat → Nat → List UInt8
  | 0, _ => []
  | k + 1, n => hexN k (n / 16) ++ [hexd (n % 16)]

theorem hexs_small {n : Nat} (h : n < 16) : hexs n = [hexd n] := by rw [hexs, if_pos h]
theorem hexs_big {n : Nat} (h : 16 ≤ n) : hexs n = hexs (n / 16) ++ [hexd (n % 16)] := by rw [hexs, if_neg (by omega)]
theorem hexN_len (k : Nat) : ∀ n, (hexN k n).length = k := by
  induction k with
  | zero => intro n; rfl
  | succ k ih => intro n; simp [hexN, ih]
theorem hexN_zero (k : Nat) : hexN k 0 = List.replicate k 48 := by
  induction k with
  | zero => rfl
  | succ k ih => rw [hexN, Nat.zero_div, ih, List.replicate_succ']; rfl
theorem hexN_get (k : Nat) : ∀ n j, j < k → (hexN k n)[j]? = some (hexd (n / 16 ^ (k - 1 - j) % 16)) := by
  induction k with
  | zero => intro n j h; omega
  | succ k ih =>
    intro n j h
    rw [hexN, List.getElem?_append, hexN_len]
    by_cases hj : j < k
    · rw [if_pos hj, ih _ _ hj, Nat.div_div_eq_div_mul, ← Nat.pow_succ']
      congr 5
      omega
    · have : j = k := by omega
      subst this
      simp
theorem pad (k : Nat) : ∀ n, n < 16 ^ (k + 1) → (hexs n).length ≤ k + 1 ∧ List.replicate (k + 1 - (hexs n).length) 48 ++ hexs n = hexN (k + 1) n := by
  induction k with
  | zero =>
    intro n h
    have h16 : n < 16 := by simpa using h
    rw [hexs_small h16]
    refine ⟨Nat.le_refl _, ?_⟩
    simp [hexN, Nat.mod_eq_of_lt h16]
  | succ k ih =>
    intro n h
    by_cases h16 : n < 16
    · rw [hexs_small h16]
      refine ⟨by simp, ?_⟩
      rw [hexN, Nat.div_eq_of_lt h16, hexN_zero, Nat.mod_eq_of_lt h16]
      simp
    · rw [hexs_big (by omega)]
      obtain ⟨h1, h2⟩ := ih (n / 16) (by rw [Nat.pow_succ] at h; omega)
      refine ⟨by simp only [List.length_append, List.length_singleton]; omega, ?_⟩
      rw [hexN, ← h2, List.length_append, List.length_singleton, ← List.append_assoc]
      congr 3
      omega
theorem hexs_len {n : Nat} (h : n < 18446744073709551616) : (hexs n).length ≤ 16 := (pad 15 n (by simpa using h)).1
theorem hexs_pos (n : Nat) : 1 ≤ (hexs n).length := by
  by_cases h : n < 16
  · simp [hexs_small h]
  · simp [hexs_big (Nat.le_of_not_lt h)]

@[irreducible] def hex16 (n : Nat) : List UInt8 := hexN 16 n
theorem hex16_eq (n : Nat) : hex16 n = hexN 16 n := by unfold hex16; rfl
theorem hex16_len (n : Nat) : (hex16 n).length = 16 := by rw [hex16_eq, hexN_len]
theorem pad_bytes {n : Nat} (h : n < 18446744073709551616) : (⟨#[48, 48, 48, 48, 48, 48, 48, 48, 48, 48, 48, 48, 48, 48, 48, 48]⟩ : ByteArray).extract (hexs n).length 16 ++ ⟨(hexs n).toArray⟩ = ⟨(hex16 n).toArray⟩ := by
  rw [hex16_eq]
  obtain ⟨h1, h2⟩ := pad 15 n (by simpa using h)
  apply ByteArray.ext
  rw [← h2]
  simp only [ByteArray.data_append, ByteArray.data_extract]
  apply Array.ext'
  simp only [Array.toList_append, Array.toList_extract]
  congr 1
  have : ([48, 48, 48, 48, 48, 48, 48, 48, 48, 48, 48, 48, 48, 48, 48, 48] : List UInt8) = List.replicate 16 48 := rfl
  rw [this]
  simp only [List.extract_eq_take_drop, List.drop_replicate, List.take_replicate]
  congr 1
  omega

/-- The digits' table of package strconv. -/
def tab : ByteArray := ⟨#[48, 49, 50, 51, 52, 53, 54, 55, 56, 57, 97, 98, 99, 100, 101, 102, 103, 104, 105, 106, 107, 108, 109, 110, 111, 112, 113, 114, 115, 116, 117, 118, 119, 120, 121, 122]⟩
theorem tab_at (j : Nat) (h : j < 16) (hj : j < tab.size) : tab[j]'hj = hexd j := by
  have : ∀ i : Fin 16, ∀ h : i.val < tab.size, tab[i.val]'h = hexd i.val := by decide
  exact this ⟨j, h⟩ hj
def tab16 : ByteArray := ⟨#[48, 49, 50, 51, 52, 53, 54, 55, 56, 57, 97, 98, 99, 100, 101, 102]⟩
theorem tab16_at (j : Nat) (h : j < 16) (hj : j < tab16.size) : tab16[j]'hj = hexd j := by
  have : ∀ i : Fin 16, ∀ h : i.val < tab16.size, tab16[i.val]'h = hexd i.val := by decide
  exact this ⟨j, h⟩ hj
end Go.Proofs.Hex
