/-
  Numbers out of bits: what base's letters are, in plain Lean.
-/
import Derived.Test.YtmfpahnncalcaaaBase2
set_option linter.unusedVariables false
namespace Go.Proofs.Ytmfpahnncalcaaa
/-- The number of so many bits from a place on. -/
def P (bit : Nat → Nat) (a : Nat) : Nat → Nat
  | 0 => 0
  | m + 1 => 2 * P bit a m + bit (a + m)
theorem P_add (bit : Nat → Nat) (a x : Nat) : ∀ y, P bit a (x + y) = P bit a x * 2 ^ y + P bit (a + x) y
  | 0 => by simp [P]
  | y + 1 => by
    rw [← Nat.add_assoc, P, P_add bit a x y, P, Nat.pow_succ, ← Nat.add_assoc]
    have : P bit a x * (2 ^ y * 2) = 2 * (P bit a x * 2 ^ y) := by rw [← Nat.mul_assoc, Nat.mul_comm]
    omega
theorem P_lt (bit : Nat → Nat) (hb : ∀ k, bit k < 2) (a : Nat) : ∀ m, P bit a m < 2 ^ m
  | 0 => by simp [P]
  | m + 1 => by
    have h1 := P_lt bit hb a m
    have h2 := hb (a + m)
    rw [P, Nat.pow_succ]; omega
theorem P_congr {f g : Nat → Nat} (a : Nat) : ∀ m, (∀ k, a ≤ k → k < a + m → f k = g k) → P f a m = P g a m
  | 0, _ => rfl
  | m + 1, h => by rw [P, P, P_congr a m (fun k h1 h2 => h k h1 (by omega)), h (a + m) (by omega) (by omega)]
theorem P_zero {bit : Nat → Nat} (a : Nat) : ∀ m, (∀ k, a ≤ k → k < a + m → bit k = 0) → P bit a m = 0
  | 0, _ => rfl
  | m + 1, h => by rw [P, P_zero a m (fun k h1 h2 => h k h1 (by omega)), h (a + m) (by omega) (by omega)]
theorem P_zero_inv {bit : Nat → Nat} (a : Nat) : ∀ m, P bit a m = 0 → ∀ k, a ≤ k → k < a + m → bit k = 0
  | 0, _, k, h1, h2 => by omega
  | m + 1, h, k, h1, h2 => by
    rw [P] at h
    by_cases e : k = a + m
    · subst e; omega
    · exact P_zero_inv a m (by omega) k h1 (by omega)
/-- The first five of more bits; the others. -/
theorem P_split (bit : Nat → Nat) (hb : ∀ k, bit k < 2) (a x y : Nat) : P bit a (x + y) / 2 ^ y = P bit a x ∧ P bit a (x + y) % 2 ^ y = P bit (a + x) y := by
  have h1 := P_add bit a x y
  have h2 := P_lt bit hb (a + x) y
  rw [h1]
  constructor
  · rw [Nat.mul_comm, Nat.mul_add_div (by omega), Nat.div_eq_of_lt h2, Nat.add_zero]
  · rw [Nat.mul_comm, Nat.mul_add_mod, Nat.mod_eq_of_lt h2]
/-- The bits of bytes, the highest first; behind them there are only noughts. -/
def bitL (l : List Nat) (k : Nat) : Nat := (l.getD (k / 8) 0 / 2 ^ (7 - k % 8)) % 2
theorem bitL_lt (l : List Nat) (k : Nat) : bitL l k < 2 := Nat.mod_lt _ (by omega)
theorem byte_bits (c : Nat) (h : c < 256) : 2 * (2 * (2 * (2 * (2 * (2 * (2 * (c / 128 % 2) + c / 64 % 2) + c / 32 % 2) + c / 16 % 2) + c / 8 % 2) + c / 4 % 2) + c / 2 % 2) + c % 2 = c := by omega
theorem bitL_at (l : List Nat) (j i : Nat) (hi : i < 8) : bitL l (8 * j + i) = (l.getD j 0 / 2 ^ (7 - i)) % 2 := by
  unfold bitL
  rw [show (8 * j + i) / 8 = j by omega, show (8 * j + i) % 8 = i by omega]
theorem bitL_byte (l : List Nat) (hl : ∀ c ∈ l, c < 256) (j : Nat) (hj : j < l.length) : P (bitL l) (8 * j) 8 = l.getD j 0 := by
  have hc : l.getD j 0 < 256 := by
    rw [List.getD_eq_getElem?_getD, List.getElem?_eq_getElem hj]
    exact hl _ (List.getElem_mem hj)
  simp only [P, Nat.mul_zero, Nat.zero_add]
  rw [bitL_at l j 1 (by omega), bitL_at l j 2 (by omega), bitL_at l j 3 (by omega), bitL_at l j 4 (by omega), bitL_at l j 5 (by omega), bitL_at l j 6 (by omega), bitL_at l j 7 (by omega), bitL_at l j 0 (by omega)]
  simpa using byte_bits _ hc
theorem bitL_end (l : List Nat) (k : Nat) (h : 8 * l.length ≤ k) : bitL l k = 0 := by
  unfold bitL
  rw [List.getD_eq_getElem?_getD, List.getElem?_eq_none (by omega)]
  simp
/-- The bits of numbers below 32, five each. -/
def bitD (l : List Nat) (k : Nat) : Nat := (l.getD (k / 5) 0 / 2 ^ (4 - k % 5)) % 2
theorem bitD_lt (l : List Nat) (k : Nat) : bitD l k < 2 := Nat.mod_lt _ (by omega)
theorem five_bits (c : Nat) (h : c < 32) : 2 * (2 * (2 * (2 * (c / 16 % 2) + c / 8 % 2) + c / 4 % 2) + c / 2 % 2) + c % 2 = c := by omega
theorem bitD_at (l : List Nat) (j i : Nat) (hi : i < 5) : bitD l (5 * j + i) = (l.getD j 0 / 2 ^ (4 - i)) % 2 := by
  unfold bitD
  rw [show (5 * j + i) / 5 = j by omega, show (5 * j + i) % 5 = i by omega]
theorem bitD_digit (l : List Nat) (hl : ∀ c ∈ l, c < 32) (j : Nat) (hj : j < l.length) : P (bitD l) (5 * j) 5 = l.getD j 0 := by
  have hc : l.getD j 0 < 32 := by
    rw [List.getD_eq_getElem?_getD, List.getElem?_eq_getElem hj]
    exact hl _ (List.getElem_mem hj)
  simp only [P, Nat.mul_zero, Nat.zero_add]
  rw [bitD_at l j 1 (by omega), bitD_at l j 2 (by omega), bitD_at l j 3 (by omega), bitD_at l j 4 (by omega), bitD_at l j 0 (by omega)]
  simpa using five_bits _ hc
theorem bitD_end (l : List Nat) (k : Nat) (h : 5 * l.length ≤ k) : bitD l k = 0 := by
  unfold bitD
  rw [List.getD_eq_getElem?_getD, List.getElem?_eq_none (by omega)]
  simp
/-- So many digits of five bits; so many bytes. -/
def dig (bit : Nat → Nat) (n : Nat) : List Nat := (List.range n).map fun j => P bit (5 * j) 5
def byt (bit : Nat → Nat) (n : Nat) : List Nat := (List.range n).map fun j => P bit (8 * j) 8
theorem dig_succ (bit : Nat → Nat) (n : Nat) : dig bit (n + 1) = dig bit n ++ [P bit (5 * n) 5] := by simp [dig, List.range_succ]
theorem byt_succ (bit : Nat → Nat) (n : Nat) : byt bit (n + 1) = byt bit n ++ [P bit (8 * n) 8] := by simp [byt, List.range_succ]
theorem dig_len (bit : Nat → Nat) (n : Nat) : (dig bit n).length = n := by simp [dig]
theorem byt_len (bit : Nat → Nat) (n : Nat) : (byt bit n).length = n := by simp [byt]
theorem dig_get (bit : Nat → Nat) (n j : Nat) (h : j < n) : (dig bit n).getD j 0 = P bit (5 * j) 5 := by
  simp [dig, List.getD_eq_getElem?_getD, h]
theorem byt_get (bit : Nat → Nat) (n j : Nat) (h : j < n) : (byt bit n).getD j 0 = P bit (8 * j) 8 := by
  simp [byt, List.getD_eq_getElem?_getD, h]
theorem dig_lt (bit : Nat → Nat) (hb : ∀ k, bit k < 2) (n : Nat) : ∀ c ∈ dig bit n, c < 32 := by
  intro c hc
  simp only [dig, List.mem_map, List.mem_range] at hc
  obtain ⟨j, _, rfl⟩ := hc
  exact P_lt bit hb _ 5
theorem byt_lt (bit : Nat → Nat) (hb : ∀ k, bit k < 2) (n : Nat) : ∀ c ∈ byt bit n, c < 256 := by
  intro c hc
  simp only [byt, List.mem_map, List.mem_range] at hc
  obtain ⟨j, _, rfl⟩ := hc
  exact P_lt bit hb _ 8
/-- A bit out of a number of bits. -/
theorem P_bit (bit : Nat → Nat) (hb : ∀ k, bit k < 2) (a : Nat) : ∀ (m i : Nat), i < m → P bit a m / 2 ^ (m - 1 - i) % 2 = bit (a + i)
  | 0, i, h => by omega
  | m + 1, i, h => by
    by_cases e : i = m
    · subst e
      have := hb (a + i)
      rw [show i + 1 - 1 - i = 0 by omega, Nat.pow_zero, Nat.div_one, P]; omega
    · rw [P, show m + 1 - 1 - i = (m - 1 - i) + 1 by omega, Nat.pow_succ, Nat.mul_comm (2 ^ (m - 1 - i)) 2, ← Nat.div_div_eq_div_mul]
      have := hb (a + m)
      rw [show (2 * P bit a m + bit (a + m)) / 2 = P bit a m by omega]
      exact P_bit bit hb a m i (by omega)
theorem bitD_dig (bit : Nat → Nat) (hb : ∀ k, bit k < 2) (n k : Nat) (h : k < 5 * n) : bitD (dig bit n) k = bit k := by
  unfold bitD
  rw [dig_get bit n (k / 5) (by omega)]
  have := P_bit bit hb (5 * (k / 5)) 5 (k % 5) (by omega)
  rw [show 5 - 1 - k % 5 = 4 - k % 5 by omega] at this
  rw [this]; congr 1; omega
theorem bitL_byt (bit : Nat → Nat) (hb : ∀ k, bit k < 2) (n k : Nat) (h : k < 8 * n) : bitL (byt bit n) k = bit k := by
  unfold bitL
  rw [byt_get bit n (k / 8) (by omega)]
  have := P_bit bit hb (8 * (k / 8)) 8 (k % 8) (by omega)
  rw [show 8 - 1 - k % 8 = 7 - k % 8 by omega] at this
  rw [this]; congr 1; omega
/-- How many digits bytes have. -/
def many5 (n : Nat) : Nat := (8 * n + 4) / 5
/-- BYTES COME BACK FROM THEIR DIGITS. -/
theorem back_bytes (l : List Nat) (hl : ∀ c ∈ l, c < 256) : byt (bitD (dig (bitL l) (many5 l.length))) l.length = l := by
  apply List.ext_getElem
  · rw [byt_len]
  · intro j h1 h2
    have h3 := byt_get (bitD (dig (bitL l) (many5 l.length))) l.length j h2
    rw [List.getD_eq_getElem?_getD, List.getElem?_eq_getElem h1] at h3
    have h4 := bitL_byte l hl j h2
    rw [List.getD_eq_getElem?_getD, List.getElem?_eq_getElem h2] at h4
    have h5 : P (bitD (dig (bitL l) (many5 l.length))) (8 * j) 8 = P (bitL l) (8 * j) 8 := P_congr _ _ (fun k h1 h2 => bitD_dig _ (bitL_lt l) _ k (by unfold many5; omega))
    simp only [Option.getD_some] at h3 h4
    rw [h3, h5, h4]
/-- What is left behind the bytes is nought. -/
theorem back_rest (l : List Nat) : ∀ k, 8 * l.length ≤ k → bitD (dig (bitL l) (many5 l.length)) k = 0 := by
  intro k hk
  by_cases h : k < 5 * many5 l.length
  · rw [bitD_dig _ (bitL_lt l) _ k h]; exact bitL_end l k hk
  · exact bitD_end _ k (by rw [dig_len]; omega)
/-- DIGITS COME BACK FROM THEIR BYTES, where what is left is nought. -/
theorem back_digits (d : List Nat) (hd : ∀ c ∈ d, c < 32) (n : Nat) (h1 : 8 * n ≤ 5 * d.length) (h2 : 5 * d.length < 8 * n + 5) (hz : P (bitD d) (8 * n) (5 * d.length - 8 * n) = 0) :
    dig (bitL (byt (bitD d) n)) (many5 n) = d := by
  have hm : many5 n = d.length := by unfold many5; omega
  rw [hm]
  apply List.ext_getElem
  · rw [dig_len]
  · intro j g1 g2
    have h3 := dig_get (bitL (byt (bitD d) n)) d.length j g2
    rw [List.getD_eq_getElem?_getD, List.getElem?_eq_getElem g1] at h3
    have h4 := bitD_digit d hd j g2
    rw [List.getD_eq_getElem?_getD, List.getElem?_eq_getElem g2] at h4
    have h5 : P (bitL (byt (bitD d) n)) (5 * j) 5 = P (bitD d) (5 * j) 5 := P_congr _ _ (fun k k1 k2 => by
      by_cases h : k < 8 * n
      · exact bitL_byt _ (bitD_lt d) n k h
      · rw [bitL_end _ k (by rw [byt_len]; omega)]
        exact (P_zero_inv _ _ hz k (by omega) (by omega)).symm)
    simp only [Option.getD_some] at h3 h4
    rw [h3, h5, h4]
end Go.Proofs.Ytmfpahnncalcaaa
