/-
  One whole number by another one as floats: what is no less than the other one is, divided by it, no less than one.
-/
import Derived.Test.YtoimlaaakkfifaaA
import Derived.Laws.FloatArith
set_option linter.unusedVariables false
set_option linter.unusedSimpArgs false
namespace Go.Proofs.Ytoimlaaakkfifaa
open Ieee
theorem d_fr : double.fractionBits = 52 := rfl
theorem d_lp : double.leastPlace = -1074 := by decide
theorem d_bi : double.binade = 4503599627370496 := by decide
theorem d_ir : double.infRung = 9218868437227405312 := by decide
theorem d_sw : double.signWeight = 9223372036854775808 := by decide
theorem cut_zero (n : Nat) : Toward.even.cut false n 0 = n := by
  unfold Toward.cut
  simp [Nat.shiftLeft_eq, Nat.mod_one]
theorem cut_ge (n d : Nat) (h : d ≤ n.log2 + 2) : n / 2 ^ d ≤ Toward.even.cut false n d := by
  unfold Toward.cut
  simp only [Nat.min_eq_left h, Nat.shiftLeft_eq, Nat.one_mul]
  omega
/-- A whole number's significand, filled up to its full length. -/
theorem sig_bound {n : Nat} (h0 : 0 < n) (h1 : n < 9007199254740992) : n.log2 ≤ 52 ∧ 4503599627370496 ≤ n * 2 ^ (52 - n.log2) ∧ n * 2 ^ (52 - n.log2) < 9007199254740992 := by
  have hl : n.log2 ≤ 52 := by
    have : n.log2 < 53 := (Nat.log2_lt (by omega)).2 (by simpa using h1)
    omega
  have e1 := Nat.log2_self_le (n := n) (by omega)
  have e2 := Nat.lt_log2_self (n := n)
  refine ⟨hl, ?_, ?_⟩
  · have : 2 ^ n.log2 * 2 ^ (52 - n.log2) = 4503599627370496 := by rw [← Nat.pow_add, show n.log2 + (52 - n.log2) = 52 by omega]
    rw [← this]
    exact Nat.mul_le_mul_right _ e1
  · have : 2 ^ (n.log2 + 1) * 2 ^ (52 - n.log2) = 9007199254740992 := by rw [← Nat.pow_add, show n.log2 + 1 + (52 - n.log2) = 53 by omega]
    rw [← this]
    exact Nat.mul_lt_mul_of_pos_right e2 (Nat.pow_pos (by omega))
theorem near_exact {n : Nat} (h0 : 0 < n) (h1 : n < 9007199254740992) : double.nearest false n 0 = (n.log2 + 1022) * 4503599627370496 + n * 2 ^ (52 - n.log2) := by
  obtain ⟨hl, _, hb⟩ := sig_bound h0 h1
  unfold Format.nearest
  rw [if_neg (by omega)]
  simp only [d_fr, d_lp, d_bi, d_ir]
  have e1 : max ((0 : Int) + n.log2 - ((52 : Nat) : Int)) (-1074) = (n.log2 : Int) - 52 := by omega
  rw [e1]
  have e2 : ((0 : Int) - ((n.log2 : Int) - 52)).toNat = 52 - n.log2 := by omega
  have e3 : ((n.log2 : Int) - 52 - 0).toNat = 0 := by omega
  have e4 : ((n.log2 : Int) - 52 - -1074).toNat = n.log2 + 1022 := by omega
  rw [e2, e3, e4, cut_zero, Nat.shiftLeft_eq]
  unfold Format.word
  simp only [Bool.false_eq_true, if_false]
  exact Nat.min_eq_left (by omega)
theorem num_eq {m m' : Nat} {p p' : Int} (h : m = m') (h2 : p = p') : Datum.number false m p = .number false m' p' := by rw [h, h2]
theorem read_exact {n : Nat} (h0 : 0 < n) (h1 : n < 9007199254740992) : double.read (double.nearest false n 0) = .number false (n * 2 ^ (52 - n.log2)) ((n.log2 : Int) - 52) := by
  obtain ⟨hl, ha, hb⟩ := sig_bound h0 h1
  rw [near_exact h0 h1]
  generalize n * 2 ^ (52 - n.log2) = m at *
  generalize n.log2 = L at *
  unfold Format.read
  simp only [d_sw, d_bi, d_ir, d_lp]
  have e1 : ((L + 1022) * 4503599627370496 + m) / 9223372036854775808 = 0 := Nat.div_eq_of_lt (by omega)
  have e2 : ((L + 1022) * 4503599627370496 + m) % 9223372036854775808 = (L + 1022) * 4503599627370496 + m := Nat.mod_eq_of_lt (by omega)
  rw [e1, e2, if_neg (by omega), if_pos (by omega)]
  have e3 : ((L + 1022) * 4503599627370496 + m) % 4503599627370496 = m - 4503599627370496 := by omega
  have e4 : ((L + 1022) * 4503599627370496 + m) / 4503599627370496 = L + 1023 := by omega
  rw [e3, e4]
  simp only [Nat.zero_mod]
  rw [show ((0 : Nat) == 1) = false from rfl]
  exact num_eq (by omega) (by omega)
theorem near_ge {M L : Nat} {p : Int} (hL : M.log2 = L) (h54 : 54 ≤ L) (hM : 0 < M) (hp : 0 ≤ p + L) : 4607182418800017408 ≤ double.nearest false M p ∧ double.nearest false M p ≤ 9218868437227405312 := by
  unfold Format.nearest
  rw [if_neg (by omega)]
  simp only [d_fr, d_lp, d_bi, d_ir, hL]
  have e1 : max (p + (L : Int) - ((52 : Nat) : Int)) (-1074) = p + L - 52 := by omega
  rw [e1]
  have e2 : (p - (p + (L : Int) - 52)).toNat = 0 := by omega
  have e3 : (p + (L : Int) - 52 - p).toNat = L - 52 := by omega
  rw [e2, e3, Nat.shiftLeft_zero]
  unfold Format.word
  simp only [Bool.false_eq_true, if_false]
  have h1 := cut_ge M (L - 52) (by omega)
  have h2 : 4503599627370496 ≤ M / 2 ^ (L - 52) := by
    rw [Nat.le_div_iff_mul_le (Nat.pow_pos (by omega))]
    have h3 := Nat.log2_self_le (n := M) (by omega)
    rw [hL] at h3
    have : 4503599627370496 * 2 ^ (L - 52) = 2 ^ L := by
      rw [show (4503599627370496 : Nat) = 2 ^ 52 by decide, ← Nat.pow_add, show 52 + (L - 52) = L by omega]
    omega
  have h4 : 1022 ≤ (p + (L : Int) - 52 - -1074).toNat := by omega
  constructor
  · rw [Nat.le_min]; omega
  · exact Nat.min_le_right _ _
def isNo (r : Nat) : Prop := 4607182418800017408 ≤ r ∧ r ≤ 9218868437227405312
theorem read_no {r : Nat} (h : isNo r) : (∃ m p, double.read r = .number false m p ∧ 4503599627370496 ≤ m ∧ (-52 : Int) ≤ p) ∨ double.read r = .infinity false := by
  unfold isNo at h
  unfold Format.read
  simp only [d_sw, d_bi, d_ir, d_lp]
  have e1 : r / 9223372036854775808 = 0 := Nat.div_eq_of_lt (by omega)
  have e2 : r % 9223372036854775808 = r := Nat.mod_eq_of_lt (by omega)
  rw [e1, e2, if_neg (by omega)]
  by_cases hr : r < 9218868437227405312
  · rw [if_pos hr]
    simp only [Nat.zero_mod]
    exact Or.inl ⟨_, _, rfl, by omega, by omega⟩
  · rw [if_neg hr, if_pos (by omega)]
    exact Or.inr rfl
theorem order_self {r : Nat} (h : isNo r) : double.order r r = some .eq := by
  unfold Format.order
  rcases read_no h with ⟨m, p, e, _⟩ | e
  · rw [e]; simp [Datum.order]
  · rw [e]; simp [Datum.order]
theorem read_one : double.read 4607182418800017408 = .number false 4503599627370496 (-52) := by decide +kernel
theorem order_one {r : Nat} (h : isNo r) : double.order r 4607182418800017408 = some .gt ∨ double.order r 4607182418800017408 = some .eq := by
  unfold Format.order
  rw [read_one]
  rcases read_no h with ⟨m, p, e, hm, hp⟩ | e
  · rw [e]
    simp only [Datum.order]
    have e1 : min p (-52 : Int) = -52 := by omega
    rw [e1]
    have hx : (4503599627370496 : Int) ≤ signed false m (p - -52).toNat := by
      unfold signed
      simp only [Bool.false_eq_true, if_false, Nat.shiftLeft_eq]
      have h3 : m * 1 ≤ m * 2 ^ (p - -52).toNat := Nat.mul_le_mul_left _ (Nat.pow_pos (by omega))
      omega
    have hy : signed false 4503599627370496 ((-52 : Int) - -52).toNat = 4503599627370496 := by decide
    rw [hy]
    rcases Int.lt_or_eq_of_le hx with h1 | h1
    · left
      exact congrArg some (Int.compare_eq_gt.2 h1)
    · right
      rw [← h1]
      exact congrArg some (Int.compare_eq_eq.2 rfl)
  · rw [e]; left; rfl
/-- What is no less than another one is, divided by it, no less than one. -/
theorem div_no {a b : Nat} (hb : 0 < b) (hab : b ≤ a) (ha : a < 9007199254740992) : ∃ r, double.div (double.nearest false a 0) (double.nearest false b 0) = some r ∧ isNo r := by
  obtain ⟨la, ma1, ma2⟩ := sig_bound (n := a) (by omega) ha
  obtain ⟨lb, mb1, mb2⟩ := sig_bound (n := b) (by omega) (by omega)
  have hlog : b.log2 ≤ a.log2 := by
    have h1 := Nat.log2_self_le (n := b) (by omega)
    have h2 := Nat.lt_log2_self (n := a)
    have h3 : 2 ^ b.log2 < 2 ^ (a.log2 + 1) := by omega
    have := (Nat.pow_lt_pow_iff_right (a := 2) (by omega)).1 h3
    omega
  have hsame : a.log2 = b.log2 → b * 2 ^ (52 - b.log2) ≤ a * 2 ^ (52 - a.log2) := by
    intro e; rw [e]; exact Nat.mul_le_mul_right _ hab
  unfold Format.div
  rw [read_exact (by omega) ha, read_exact hb (by omega)]
  generalize a * 2 ^ (52 - a.log2) = A at *
  generalize b * 2 ^ (52 - b.log2) = B at *
  generalize a.log2 = i at *
  generalize b.log2 = j at *
  have hA : A.log2 = 52 := by
    have h1 : A.log2 < 53 := (Nat.log2_lt (by omega)).2 (by omega)
    have h2 : 52 ≤ A.log2 := (Nat.le_log2 (by omega)).2 (by omega)
    omega
  have hB : B.log2 = 52 := by
    have h1 : B.log2 < 53 := (Nat.log2_lt (by omega)).2 (by omega)
    have h2 : 52 ≤ B.log2 := (Nat.le_log2 (by omega)).2 (by omega)
    omega
  have hq : Datum.quotient (double.fractionBits + 2) (.number false A ((i : Int) - 52)) (.number false B ((j : Int) - 52)) = some (.number false (2 * (A * 18014398509481984 / B) + (A * 18014398509481984 % B != 0).toNat) ((i : Int) - j - 55)) := by
    unfold Datum.quotient
    simp only [d_fr, hA, hB]
    rw [if_neg (by omega)]
    simp only [Nat.shiftLeft_eq]
    have e1 : A * 2 ^ (52 + 2 + 52 - 52) = A * 18014398509481984 := rfl
    rw [e1]
    have e2 : ((i : Int) - 52 - ((j : Int) - 52) - ((52 + 2 + 52 - 52 : Nat) : Int) - 1) = (i : Int) - j - 55 := by omega
    rw [e2]
    rfl
  rw [hq]
  refine ⟨_, rfl, ?_⟩
  have q1 : 9007199254740992 ≤ A * 18014398509481984 / B := by
    rw [Nat.le_div_iff_mul_le (by omega)]; omega
  have q2 : i = j → 18014398509481984 ≤ A * 18014398509481984 / B := by
    intro e
    have := hsame e
    rw [Nat.le_div_iff_mul_le (by omega)]; omega
  generalize A * 18014398509481984 / B = Q at *
  generalize (A * 18014398509481984 % B != 0).toNat = t at *
  have hM : (2 * Q + t).log2 = (2 * Q + t).log2 := rfl
  have h54 : 54 ≤ (2 * Q + t).log2 := (Nat.le_log2 (by omega)).2 (by omega)
  have hp : (0 : Int) ≤ (i : Int) - j - 55 + (2 * Q + t).log2 := by
    by_cases e : i = j
    · have := q2 e
      have h55 : 55 ≤ (2 * Q + t).log2 := (Nat.le_log2 (by omega)).2 (by omega)
      omega
    · omega
  exact near_ge hM h54 (by omega) hp
end Go.Proofs.Ytoimlaaakkfifaa

