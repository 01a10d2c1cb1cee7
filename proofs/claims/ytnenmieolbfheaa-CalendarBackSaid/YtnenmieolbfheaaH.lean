/-
  The plain mathematics of CalendarBack: a day comes back from its date, and what the next day's date is.
-/
import Derived.Test.YtnenmieolbfheaaE
namespace Go.Proofs.Ytnenmieolbfheaa
open Go.RowKit
theorem cy_unique (n y : Int) (h0 : 0 ≤ n) (h1 : n ≤ 3652364) (hy : 0 ≤ y) (ha : yr y ≤ n) (hb : n < yr (y + 1)) : cy n = y ∧ cr n = n - yr y := by
  obtain ⟨c0, c1, r0, r1, hs, hn⟩ := cy_spec n h0 h1
  have e : cy n = y := by
    rcases Int.lt_trichotomy (cy n) y with h | h | h
    · have := yr_le (cy n + 1) y (by omega) (by omega); omega
    · exact h
    · have := yr_le (y + 1) (cy n) (by omega) (by omega); omega
  rw [e] at hs
  exact ⟨e, by omega⟩
theorem mi_unique (r k : Int) (h0 : 0 ≤ r) (h1 : r ≤ 365) (_hk0 : 0 ≤ k) (_hk : k ≤ 11) (ha : st k ≤ r) (hb : r < st (k + 1)) : mi r = k := by
  have l := mi_low r h0
  have u := mi_high r h1
  have b := mi_bd r
  rcases Int.lt_trichotomy (mi r) k with h | h | h
  · have := st_mono (a := mi r + 1) (b := k) (by omega); omega
  · exact h
  · have := st_mono (a := k + 1) (b := mi r) (by omega); omega
theorem lim (n : Int) (h0 : 0 ≤ n) (h1 : n ≤ 3652000) : cy n ≤ 9998 := by
  obtain ⟨c0, c1, r0, r1, hs, hn⟩ := cy_spec n h0 (by omega)
  rcases Int.lt_or_le 9998 (cy n) with h | h
  · have := yr_le 9999 (cy n) (by omega) (by omega)
    have e : yr 9999 = 3652059 := by decide
    omega
  · exact h
/-- All that is to be known of a day's year, month, and place in the month. -/
theorem parts (n : Int) (h0 : 0 ≤ n) (h1 : n ≤ 3652000) :
    0 ≤ mi (cr n) ∧ mi (cr n) ≤ 11 ∧ st (mi (cr n)) ≤ cr n ∧ cr n < st (mi (cr n) + 1) ∧ 0 ≤ cy n ∧ cy n ≤ 9998 ∧ yr (cy n) + cr n = n ∧ n < yr (cy n + 1) ∧ 0 ≤ cr n ∧ cr n ≤ 365 := by
  obtain ⟨c0, c1, r0, r1, hs, hn⟩ := cy_spec n h0 (by omega)
  have b := mi_bd (cr n)
  exact ⟨b.1, b.2, mi_low _ r0, mi_high _ r1, c0, lim n h0 h1, hs, hn, r0, r1⟩
theorem back_ok (n : Int) (h0 : 0 ≤ n) (h1 : n ≤ 3652000) : okD (dY n) (dM n) (dD n) = true := by
  obtain ⟨k0, k1, l, u, c0, c1, hs, hn, r0, r1⟩ := parts n h0 h1
  have hd := dim_k (cy n) (mi (cr n)) k0 k1
  have hy : dY n = if 10 ≤ mi (cr n) then cy n + 1 else cy n := rfl
  have hm : dM n = (mi (cr n) + 2) % 12 + 1 := rfl
  have hdd : dD n = cr n - st (mi (cr n)) + 1 := rfl
  rw [← hy, ← hm] at hd
  apply ok_true
  refine ⟨?_, ?_, by omega, by omega, by omega, ?_, ?_⟩
  · rw [hy]; split <;> omega
  · rw [hy]; split <;> omega
  · rw [hd, hdd]
    by_cases h11 : mi (cr n) = 11
    · rw [if_pos h11]
      have h2 := yr_succ (cy n) c0
      have e : st (mi (cr n)) = 337 := by rw [h11]; rfl
      rw [e]
      by_cases h5 : lpB (cy n + 1) = true
      · rw [if_pos h5] at h2 ⊢; omega
      · rw [if_neg h5] at h2 ⊢; omega
    · rw [if_neg h11]; omega
  · rw [hy, hm]
    split <;> omega
theorem back_num (n : Int) (h0 : 0 ≤ n) (h1 : n ≤ 3652000) : num (dY n) (dM n) (dD n) = n := by
  obtain ⟨k0, k1, l, u, c0, c1, hs, hn, r0, r1⟩ := parts n h0 h1
  have hy : dY n = if 10 ≤ mi (cr n) then cy n + 1 else cy n := rfl
  have hm : dM n = (mi (cr n) + 2) % 12 + 1 := rfl
  have hdd : dD n = cr n - st (mi (cr n)) + 1 := rfl
  have e1 : (if dM n < 3 then dY n - 1 else dY n) = cy n := by
    rw [hy, hm]
    by_cases h : 10 ≤ mi (cr n)
    · rw [if_pos h, if_pos (by omega)]; omega
    · rw [if_neg h, if_neg (by omega)]
  have e2 : (dM n + 9) % 12 = mi (cr n) := by rw [hm]; omega
  unfold num
  rw [e1, e2, hdd]
  omega
theorem next_day (n : Int) (h0 : 0 ≤ n) (h1 : n + 1 ≤ 3652000) :
    (dY (n + 1) = dY n ∧ dM (n + 1) = dM n ∧ dD (n + 1) = dD n + 1) ∨ (dY (n + 1) = dY n ∧ dM (n + 1) = dM n + 1 ∧ dD (n + 1) = 1) ∨
    (dM n = 12 ∧ dD n = 31 ∧ dY (n + 1) = dY n + 1 ∧ dM (n + 1) = 1 ∧ dD (n + 1) = 1) := by
  obtain ⟨k0, k1, l, u, c0, c1, hs, hn, r0, r1⟩ := parts n h0 (by omega)
  unfold dY dM dD
  generalize hK : mi (cr n) = k at *
  generalize hR : cr n = r at *
  generalize hC : cy n = y at *
  by_cases hy : n + 1 < yr (y + 1)
  · obtain ⟨e1, e2⟩ := cy_unique (n + 1) y (by omega) (by omega) c0 (by omega) hy
    have e3 : cr (n + 1) = r + 1 := by omega
    rw [e1, e3]
    by_cases hk : r + 1 < st (k + 1)
    · have hr : r + 1 ≤ 365 := by have := st_bd (k + 1); omega
      rw [mi_unique (r + 1) k (by omega) hr k0 k1 (by omega) hk]
      left
      exact ⟨rfl, rfl, by omega⟩
    · have ek : r + 1 = st (k + 1) := by omega
      have k10 : k ≤ 10 := by
        rcases Int.lt_or_le 10 k with h | h
        · have e : k = 11 := by omega
          have := yr_succ y c0
          have e2 : st (k + 1) = 366 := by rw [e]; rfl
          split at this <;> omega
        · exact h
      have hm : mi (r + 1) = k + 1 := by
        have hr : r + 1 ≤ 365 := by
          have := st_mono (a := k + 1) (b := 11) (by omega)
          have e : st 11 = 337 := rfl
          omega
        refine mi_unique (r + 1) (k + 1) (by omega) hr (by omega) (by omega) (by omega) ?_
        have b1 : st (k + 1) < st (k + 1 + 1) := by
          obtain rfl | rfl | rfl | rfl | rfl | rfl | rfl | rfl | rfl | rfl | rfl : k = 0 ∨ k = 1 ∨ k = 2 ∨ k = 3 ∨ k = 4 ∨ k = 5 ∨ k = 6 ∨ k = 7 ∨ k = 8 ∨ k = 9 ∨ k = 10 := by omega
          all_goals decide
        omega
      rw [hm]
      by_cases h9 : k = 9
      · right; right
        subst h9
        have a : st 9 = 275 := rfl
        have b : st (9 + 1) = 306 := rfl
        refine ⟨by omega, by omega, ?_, by omega, by omega⟩
        rw [if_pos (by omega), if_neg (by omega)]
      · right; left
        refine ⟨?_, by omega, by omega⟩
        by_cases h10 : 10 ≤ k
        · rw [if_pos (by omega), if_pos h10]
        · rw [if_neg (by omega), if_neg h10]
  · have en : n + 1 = yr (y + 1) := by omega
    have hs1 := yr_succ (y + 1) (by omega)
    obtain ⟨e1, e2⟩ := cy_unique (n + 1) (y + 1) (by omega) (by omega) (by omega) (by omega) (by rw [hs1]; split <;> omega)
    have e3 : cr (n + 1) = 0 := by omega
    have m0 : mi 0 = 0 := by decide
    rw [e1, e3, m0]
    have ek : k = 11 := by
      have h2 := yr_succ y c0
      have h3 : 364 ≤ r := by split at h2 <;> omega
      rcases Int.lt_or_le k 11 with h | h
      · have := st_mono (a := k + 1) (b := 11) (by omega)
        have e : st 11 = 337 := rfl
        omega
      · omega
    subst ek
    right; left
    refine ⟨by simp, by omega, by simp [st]⟩
end Go.Proofs.Ytnenmieolbfheaa
