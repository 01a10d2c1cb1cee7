/-
  The plain mathematics of stamps: no program in sight.
-/
import Derived.IntWalk
namespace Go.Proofs.Yteijamnihfhndaa
open Go
structure St where
  t : Int
  c : Int
  r : Int
def cmpI (x y : Int) : Int := if x < y then -1 else if y < x then 1 else 0
def or3 (a b c : Int) : Int := if a ≠ 0 then a else if b ≠ 0 then b else c
def ordS (a b : St) : Int := or3 (cmpI a.t b.t) (cmpI a.c b.c) (cmpI a.r b.r)
def lessB (a b : St) : Bool := decide (a.t < b.t ∨ (a.t = b.t ∧ (a.c < b.c ∨ (a.c = b.c ∧ a.r < b.r))))
def badB (n : Int) : Bool := decide (n < 0 ∨ 1099511627776 < n)
def okB (a : St) : Bool := decide (0 ≤ a.t ∧ a.t ≤ 1099511627776 ∧ 0 ≤ a.c ∧ a.c ≤ 1099511627776 ∧ 0 ≤ a.r ∧ a.r ≤ 15)
theorem cmpI_bd (x y : Int) : -1 ≤ cmpI x y ∧ cmpI x y ≤ 1 := by unfold cmpI; split <;> (try split) <;> omega
theorem less_ord (a b : St) : decide (ordS a b < 0) = lessB a b := by
  unfold ordS lessB or3 cmpI
  rw [decide_eq_decide]
  by_cases h1 : a.t < b.t <;> by_cases h2 : b.t < a.t <;> by_cases h3 : a.c < b.c <;> by_cases h4 : b.c < a.c <;> by_cases h5 : a.r < b.r <;> by_cases h6 : b.r < a.r <;> simp [h1, h2, h3, h4, h5, h6] <;> omega
theorem bad_iff {n : Int} : badB n = true ↔ n < 0 ∨ 1099511627776 < n := by unfold badB; exact decide_eq_true_iff
theorem ok_iff {a : St} : okB a = true ↔ 0 ≤ a.t ∧ a.t ≤ 1099511627776 ∧ 0 ≤ a.c ∧ a.c ≤ 1099511627776 ∧ 0 ≤ a.r ∧ a.r ≤ 15 := by unfold okB; exact decide_eq_true_iff
theorem less_iff {a b : St} : lessB a b = true ↔ a.t < b.t ∨ (a.t = b.t ∧ (a.c < b.c ∨ (a.c = b.c ∧ a.r < b.r))) := by unfold lessB; exact decide_eq_true_iff
theorem less_false {a b : St} : lessB a b = false ↔ ¬ (a.t < b.t ∨ (a.t = b.t ∧ (a.c < b.c ∨ (a.c = b.c ∧ a.r < b.r)))) := by unfold lessB; exact decide_eq_false_iff_not
end Go.Proofs.Yteijamnihfhndaa
