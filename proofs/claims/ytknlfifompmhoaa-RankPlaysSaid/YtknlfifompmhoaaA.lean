/-
  The plain law of sums by lowest bits.
-/
import Derived.Test.YtknlfifompmhoaaBase2
set_option linter.unusedVariables false
set_option linter.unusedSimpArgs false
namespace Go.Proofs.Ytknlfifompmhoaa
open Go.RowKit
def lb (k : Nat) : Nat := if h : k = 0 then 0 else if k % 2 = 1 then 1 else 2 * lb (k / 2)
theorem lb_zero : lb 0 = 0 := by rw [lb]; rfl
theorem lb_odd {k : Nat} (h : k % 2 = 1) : lb k = 1 := by rw [lb, dif_neg (by omega), if_pos h]
theorem lb_even {k : Nat} (h0 : 0 < k) (h : k % 2 = 0) : lb k = 2 * lb (k / 2) := by
  conv => lhs; rw [lb]
  rw [dif_neg (by omega), if_neg (by omega)]
theorem lb_pos : ∀ (n k : Nat), k ≤ n → 0 < k → 1 ≤ lb k ∧ lb k ≤ k
  | 0, k, h, h0 => by omega
  | n + 1, k, h, h0 => by
    by_cases ho : k % 2 = 1
    · rw [lb_odd ho]; omega
    · rw [lb_even h0 (by omega)]
      have := lb_pos n (k / 2) (by omega) (by omega)
      omega
theorem lb_ge {k : Nat} (h : 0 < k) : 1 ≤ lb k := (lb_pos k k (Nat.le_refl _) h).1
theorem lb_le {k : Nat} (h : 0 < k) : lb k ≤ k := (lb_pos k k (Nat.le_refl _) h).2
theorem lb_add : ∀ (n p d : Nat), p ≤ n → 0 < p → 0 < d → d < lb p → lb (p + d) = lb d
  | 0, p, d, h, h0, _, _ => by omega
  | n + 1, p, d, h, h0, hd, hl => by
    by_cases ho : p % 2 = 1
    · rw [lb_odd ho] at hl; omega
    · rw [lb_even h0 (by omega)] at hl
      by_cases hdo : d % 2 = 1
      · rw [lb_odd hdo, lb_odd (by omega)]
      · rw [lb_even hd (by omega), lb_even (by omega) (by omega), show (p + d) / 2 = p / 2 + d / 2 by omega, lb_add n (p / 2) (d / 2) (by omega) (by omega) (by omega) (by omega)]
theorem lb_up : ∀ (n p : Nat), p ≤ n → 0 < p → 2 * lb p ≤ lb (p + lb p)
  | 0, p, h, h0 => by omega
  | n + 1, p, h, h0 => by
    by_cases ho : p % 2 = 1
    · rw [lb_odd ho, lb_even (by omega) (by omega)]
      have := lb_ge (k := (p + 1) / 2) (by omega)
      omega
    · have e1 := lb_even h0 (by omega)
      have ih := lb_up n (p / 2) (by omega) (by omega)
      obtain ⟨q, hq⟩ : ∃ q, q = lb (p / 2) := ⟨_, rfl⟩
      rw [← hq] at e1 ih
      have e2 : lb (p + 2 * q) = 2 * lb ((p + 2 * q) / 2) := lb_even (by omega) (by omega)
      rw [show (p + 2 * q) / 2 = p / 2 + q by omega] at e2
      rw [e1, e2]; omega
theorem lb_bit : ∀ (n k : Nat), k ≤ n → ∀ i, (lb k).testBit i = (k.testBit i && decide (∀ j, j < i → k.testBit j = false))
  | n, 0, h, i => by rw [lb_zero]; simp
  | 0, k + 1, h, i => by omega
  | n + 1, k + 1, h, i => by
    obtain ⟨m, hm⟩ : ∃ m, m = k + 1 := ⟨_, rfl⟩
    rw [← hm] at h ⊢
    by_cases ho : m % 2 = 1
    · rw [lb_odd ho]
      cases i with
      | zero => simp [Nat.testBit_zero, ho]
      | succ i =>
        rw [Nat.testBit_succ]
        have e : (decide (∀ j, j < i + 1 → m.testBit j = false)) = false := by
          rw [decide_eq_false_iff_not]
          intro hc
          have := hc 0 (by omega)
          simp [Nat.testBit_zero, ho] at this
        rw [e]; simp
    · rw [lb_even (by omega) (by omega)]
      cases i with
      | zero => simp [Nat.testBit_zero]; omega
      | succ i =>
        rw [Nat.testBit_succ, Nat.testBit_succ, show 2 * lb (m / 2) / 2 = lb (m / 2) by omega, lb_bit n (m / 2) (by omega) i]
        congr 1
        rw [decide_eq_decide]
        constructor
        · intro hc j hj
          cases j with
          | zero => simp [Nat.testBit_zero]; omega
          | succ j => rw [Nat.testBit_succ]; exact hc j (by omega)
        · intro hc j hj
          have := hc (j + 1) (by omega)
          rw [Nat.testBit_succ] at this
          exact this
theorem and_neg (k : Nat) (h : k < 4611686018427387904) : bits .and .i64 (k : Int) (-(k : Int)) = ((lb k : Nat) : Int) := by
  have hl : lb k ≤ k := by
    by_cases h0 : k = 0
    · subst h0; rw [lb_zero]; omega
    · exact lb_le (by omega)
  have key : (BitVec.ofInt 64 (k : Int) &&& BitVec.ofInt 64 (-(k : Int))).toNat = lb k := by
    have e : BitVec.ofInt 64 (-(k : Int)) = -BitVec.ofNat 64 k := by
      rw [BitVec.ofInt_neg, BitVec.ofInt_natCast]
    rw [BitVec.ofInt_natCast, e]
    apply Nat.eq_of_testBit_eq
    intro i
    rw [lb_bit k k (Nat.le_refl _) i, BitVec.testBit_toNat, BitVec.getLsbD_and, BitVec.getLsbD_neg]
    simp only [BitVec.getLsbD_ofNat]
    by_cases hi : i < 64
    · by_cases hk : k.testBit i = true
      · simp only [hi, hk, decide_true, Bool.true_and, Bool.and_true]
        rw [Bool.eq_iff_iff]
        simp
        constructor
        · intro hc j hj
          have := hc j hj
          cases hb : k.testBit j with
          | false => rfl
          | true => exact absurd (this (by omega)) (by simp [hb])
        · intro hc j hj h64
          exact hc j hj
      · simp [hk]
    · have hz : k.testBit i = false := Nat.testBit_lt_two_pow (Nat.lt_of_lt_of_le h (by
        have : (2 : Nat) ^ 62 ≤ 2 ^ i := Nat.pow_le_pow_right (by omega) (by omega)
        exact this))
      simp [hi, hz]
  show IntKind.i64.wrap ((BitVec.ofInt 64 (k : Int) &&& BitVec.ofInt 64 (-(k : Int))).toNat : Int) = _
  rw [key, IntKind.wrap_i64]
  omega
/-- What the sum at a place has: the numbers from here on, up to it. -/
def lo (k : Nat) : Nat := k - lb k
theorem lo_up {p : Nat} (h : 0 < p) : lo (p + lb p) ≤ lo p := by
  have h1 := lb_up p p (Nat.le_refl _) h
  have h2 := lb_le h
  unfold lo; omega
theorem lo_between {p k : Nat} (h : 0 < p) (h1 : p < k) (h2 : k < p + lb p) : p ≤ lo k := by
  have e := lb_add p p (k - p) (Nat.le_refl _) h (by omega) (by omega)
  rw [show p + (k - p) = k by omega] at e
  have := lb_le (k := k - p) (by omega)
  unfold lo; omega
def pre (l : List Int) (k : Nat) : Int := (l.take k).sum
theorem pre_zero (l : List Int) : pre l 0 = 0 := rfl
theorem pre_succ (l : List Int) (k : Nat) (h : k < l.length) : pre l (k + 1) = pre l k + l.getD k 0 := by
  unfold pre
  rw [List.take_succ_eq_append_getElem h, List.sum_append, List.getD_eq_getElem?_getD, List.getElem?_eq_getElem h]
  simp
theorem pre_set : ∀ (l : List Int) (i : Nat) (x : Int) (k : Nat), i < l.length → pre (l.set i x) k = pre l k + if i < k then x - l.getD i 0 else 0
  | [], i, x, k, h => by simp at h
  | a :: l, 0, x, k, h => by
    cases k with
    | zero => simp [pre]
    | succ k => simp [pre]; omega
  | a :: l, i + 1, x, k, h => by
    cases k with
    | zero => simp [pre]
    | succ k =>
      have := pre_set l i x k (by simpa using h)
      simp only [pre] at this
      simp only [pre, List.set_cons_succ, List.take_succ_cons, List.sum_cons, this]
      simp only [List.getD_cons_succ, Nat.add_lt_add_iff_right]
      omega
/-- Each place's sum is that of the numbers that it has. -/
def Fen (l sums : List Int) : Prop := sums.length = l.length + 1 ∧ ∀ k, 0 < k → k ≤ l.length → sums.getD k 0 = pre l k - pre l (lo k)
/-- The sums while a number gets more: the places ahead of p have it already. -/
def Mid (l sums : List Int) (i : Nat) (by_ : Int) (p : Nat) : Prop := sums.length = l.length + 1 ∧ ∀ k, 0 < k → k ≤ l.length → sums.getD k 0 = pre l k - pre l (lo k) + if lo k ≤ i ∧ i < k ∧ k < p then by_ else 0
theorem mid_start {l sums : List Int} (h : Fen l sums) (i : Nat) (b : Int) : Mid l sums i b (i + 1) :=
  ⟨h.1, fun k h1 h2 => by rw [h.2 k h1 h2, if_neg (by omega)]; omega⟩
theorem getD_setI (l : List Int) (i j : Nat) (x : Int) (hi : i < l.length) : (l.set i x).getD j 0 = if j = i then x else l.getD j 0 := by
  rw [List.getD_eq_getElem?_getD, List.getD_eq_getElem?_getD, List.getElem?_set]
  by_cases h : i = j
  · subst h; simp [hi]
  · rw [if_neg h, if_neg (fun e => h e.symm)]
theorem mid_step {l sums : List Int} {i p : Nat} {b : Int} (h : Mid l sums i b p) (hp : 0 < p) (hpl : p ≤ l.length) (h1 : lo p ≤ i) (h2 : i < p) :
    Mid l (sums.set p (sums.getD p 0 + b)) i b (p + lb p) ∧ lo (p + lb p) ≤ i ∧ i < p + lb p := by
  refine ⟨⟨by rw [List.length_set]; exact h.1, fun k hk1 hk2 => ?_⟩, Nat.le_trans (lo_up hp) h1, by omega⟩
  have hb := lb_ge hp
  rw [getD_setI _ _ _ _ (by rw [h.1]; omega)]
  by_cases e : k = p
  · subst e
    rw [if_pos rfl, h.2 k hk1 hk2, if_neg (by omega), if_pos (by omega)]; omega
  · rw [if_neg e, h.2 k hk1 hk2]
    by_cases hlt : k < p
    · by_cases hc : lo k ≤ i ∧ i < k
      · rw [if_pos (by omega), if_pos (by omega)]
      · rw [if_neg (by omega), if_neg (by omega)]
    · by_cases hge : k < p + lb p
      · have := lo_between hp (by omega) hge
        rw [if_neg (by omega), if_neg (by omega)]
      · rw [if_neg (by omega), if_neg (by omega)]
theorem mid_end {l sums : List Int} {i p : Nat} {b : Int} (h : Mid l sums i b p) (hp : l.length < p) (hi : i < l.length) : Fen (l.set i (l.getD i 0 + b)) sums := by
  refine ⟨by rw [List.length_set]; exact h.1, fun k hk1 hk2 => ?_⟩
  rw [List.length_set] at hk2
  rw [h.2 k hk1 hk2, pre_set _ _ _ _ hi, pre_set _ _ _ _ hi]
  have : lo k ≤ k := Nat.sub_le _ _
  by_cases h1 : i < k
  · by_cases h2 : i < lo k
    · rw [if_neg (by omega), if_pos h1, if_pos h2]; omega
    · rw [if_pos (by omega), if_pos h1, if_neg h2]; omega
  · rw [if_neg (by omega), if_neg h1, if_neg (by omega)]; omega
end Go.Proofs.Ytknlfifompmhoaa

