/-
  The plain mathematics of dates: no program in sight.
-/
import Derived.IntWalk
namespace Go.Proofs.Ytnenmieolbfheaa
open Go
def lpB (y : Int) : Bool := decide ((y % 4 = 0 ∧ y % 100 ≠ 0) ∨ y % 400 = 0)
def dim (y m : Int) : Int := if m = 2 then (if lpB y = true then 29 else 28) else if m = 4 ∨ m = 6 ∨ m = 9 ∨ m = 11 then 30 else 31
/-- The day on which a month begins, March being 0. -/
def st (k : Int) : Int := if k ≤ 0 then 0 else if k = 1 then 31 else if k = 2 then 61 else if k = 3 then 92 else if k = 4 then 122 else if k = 5 then 153 else if k = 6 then 184 else if k = 7 then 214 else if k = 8 then 245 else if k = 9 then 275 else if k = 10 then 306 else if k = 11 then 337 else 366
/-- The first of March of a year. -/
def yr (y : Int) : Int := 365 * y + y / 4 - y / 100 + y / 400
/-- May a date be? -/
def okD (y m d : Int) : Bool := decide (0 ≤ y ∧ y ≤ 9999 ∧ 1 ≤ m ∧ m ≤ 12 ∧ 1 ≤ d ∧ d ≤ dim y m ∧ ¬ (y = 0 ∧ m < 3))
/-- A date's day. -/
def num (y m d : Int) : Int := yr (if m < 3 then y - 1 else y) + st ((m + 9) % 12) + d - 1
theorem lp_true {y : Int} (h : (y % 4 = 0 ∧ y % 100 ≠ 0) ∨ y % 400 = 0) : lpB y = true := decide_eq_true h
theorem lp_false {y : Int} (h : ¬ ((y % 4 = 0 ∧ y % 100 ≠ 0) ∨ y % 400 = 0)) : lpB y = false := decide_eq_false h
theorem dim_bd (y m : Int) : 28 ≤ dim y m ∧ dim y m ≤ 31 := by unfold dim; split <;> (try split) <;> omega
theorem yr_bd (y : Int) (h0 : 0 ≤ y) (h : y ≤ 10000) : 0 ≤ yr y ∧ yr y ≤ 3652425 := by unfold yr; omega
theorem yr_succ (y : Int) (_h0 : 0 ≤ y) : yr (y + 1) = yr y + 365 + (if lpB (y + 1) = true then 1 else 0) := by
  by_cases h : ((y + 1) % 4 = 0 ∧ (y + 1) % 100 ≠ 0) ∨ (y + 1) % 400 = 0
  · rw [lp_true h, if_pos rfl]; unfold yr; omega
  · rw [lp_false h]; simp; unfold yr; omega
theorem yr_mono (a : Int) (h0 : 0 ≤ a) : ∀ n : Nat, yr a ≤ yr (a + n)
  | 0 => by simp
  | n + 1 => by
    have h1 := yr_mono a h0 n
    have h2 := yr_succ (a + n) (by omega)
    have e : a + ((n + 1 : Nat) : Int) = a + n + 1 := by omega
    rw [e, h2]
    split <;> omega
theorem yr_le (a b : Int) (h0 : 0 ≤ a) (h : a ≤ b) : yr a ≤ yr b := by
  have := yr_mono a h0 (b - a).toNat
  rw [show a + ((b - a).toNat : Int) = b by omega] at this
  exact this
/-- The year of a day, as the program reckons it. -/
def cy (n : Int) : Int := n / 146097 * 400 + 100 * min (n % 146097 / 36524) 3 + 4 * ((n % 146097 - 36524 * min (n % 146097 / 36524) 3) / 1461) + min ((n % 146097 - 36524 * min (n % 146097 / 36524) 3 - 1461 * ((n % 146097 - 36524 * min (n % 146097 / 36524) 3) / 1461)) / 365) 3
def cr (n : Int) : Int := n % 146097 - 36524 * min (n % 146097 / 36524) 3 - 1461 * ((n % 146097 - 36524 * min (n % 146097 / 36524) 3) / 1461) - 365 * min ((n % 146097 - 36524 * min (n % 146097 / 36524) 3 - 1461 * ((n % 146097 - 36524 * min (n % 146097 / 36524) 3) / 1461)) / 365) 3
theorem cy_spec (n : Int) (h0 : 0 ≤ n) (h1 : n ≤ 3652364) : 0 ≤ cy n ∧ cy n ≤ 9999 ∧ 0 ≤ cr n ∧ cr n ≤ 365 ∧ yr (cy n) + cr n = n ∧ n < yr (cy n + 1) := by
  unfold cy cr
  generalize hc : n / 146097 = c
  generalize hr : n % 146097 = r
  have e1 : n = 146097 * c + r := by omega
  have e2 : 0 ≤ r ∧ r < 146097 := by omega
  generalize hq : min (r / 36524) 3 = q
  have q1 : 0 ≤ q ∧ q ≤ 3 ∧ 36524 * q ≤ r ∧ (q = 3 ∨ r < 36524 * (q + 1)) := by omega
  generalize hs : r - 36524 * q = s
  have s1 : 0 ≤ s ∧ s ≤ 36524 ∧ (q < 3 → s < 36524) := by omega
  generalize hf : s / 1461 = f
  have f1 : 0 ≤ f ∧ f ≤ 24 ∧ 1461 * f ≤ s ∧ s < 1461 * (f + 1) := by omega
  generalize ht : s - 1461 * f = t
  generalize hv : min (t / 365) 3 = v
  have v1 : 0 ≤ v ∧ v ≤ 3 ∧ 365 * v ≤ t ∧ (v = 3 ∨ t < 365 * (v + 1)) := by omega
  have c1 : 0 ≤ c ∧ c ≤ 24 := by omega
  clear hc hr hq hf hv
  have a4 : (c * 400 + 100 * q + 4 * f + v) / 4 = 100 * c + 25 * q + f := by clear s1 f1 e1 e2 q1; omega
  have a100 : (c * 400 + 100 * q + 4 * f + v) / 100 = 4 * c + q := by clear s1 e1 e2 q1; omega
  have a400 : (c * 400 + 100 * q + 4 * f + v) / 400 = c := by clear s1 e1 e2; omega
  have hy : yr (c * 400 + 100 * q + 4 * f + v) = 365 * (c * 400 + 100 * q + 4 * f + v) + (100 * c + 25 * q + f) - (4 * c + q) + c := by unfold yr; rw [a4, a100, a400]
  have hsum : yr (c * 400 + 100 * q + 4 * f + v) + (t - 365 * v) = n := by rw [hy]; omega
  refine ⟨by omega, by omega, by omega, by omega, hsum, ?_⟩
  rw [yr_succ _ (by omega)]
  by_cases ht2 : t - 365 * v < 365
  · split <;> omega
  · have hv3 : v = 3 := by omega
    have ht3 : t = 1460 := by omega
    rw [lp_true ?_, if_pos rfl]
    · omega
    · subst hv3
      clear hsum hy a4 a100 a400
      omega
end Go.Proofs.Ytnenmieolbfheaa
