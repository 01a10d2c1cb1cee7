/-
  The plain mathematics of windows: no program in sight.
-/
import Derived.IntWalk
namespace Go.Proofs.Ytnfkhofcmjpfcaa
open Go
def okP (p : Int × Int) : Bool := decide (0 ≤ p.1 ∧ p.1 < 10080 ∧ 0 ≤ p.2 ∧ p.2 < 10080)
def chk (ps : List (Int × Int)) : Int := if 64 < ps.length then 3 else if ps.all okP = true then 0 else 2
/-- Is a minute of the week in a pair? -/
def lin (p : Int × Int) (m : Int) : Bool := if p.1 < p.2 then decide (p.1 ≤ m ∧ m < p.2) else decide (p.1 ≤ m ∨ m < p.2)
def anyIn (ps : List (Int × Int)) (m : Int) : Bool := ps.any fun p => lin p m
def some_ (ps : List (Int × Int)) (x : Int) : Bool := anyIn ps (x % 10080) && decide (chk ps = 0)
theorem okP_iff {p : Int × Int} : okP p = true ↔ 0 ≤ p.1 ∧ p.1 < 10080 ∧ 0 ≤ p.2 ∧ p.2 < 10080 := by unfold okP; exact decide_eq_true_iff
theorem lin_eq (p : Int × Int) (m : Int) (h : okP p = true) (m0 : 0 ≤ m) (m1 : m < 10080) :
    lin p m = decide ((p.2 - p.1) % 10080 = 0 ∨ (m - p.1) % 10080 < (p.2 - p.1) % 10080) := by
  obtain ⟨a, b, c, d⟩ := okP_iff.1 h
  unfold lin
  split <;> (rw [decide_eq_decide]; omega)
theorem anyIn_take (ps : List (Int × Int)) (m : Int) (k : Nat) (h : k < ps.length) : anyIn (ps.take (k + 1)) m = (anyIn (ps.take k) m || lin ps[k] m) := by
  unfold anyIn; rw [List.take_succ_eq_append_getElem h, List.any_append]; simp only [List.any_cons, List.any_nil, Bool.or_false]
theorem all_take (ps : List (Int × Int)) (k : Nat) (h : k < ps.length) : (ps.take (k + 1)).all okP = ((ps.take k).all okP && okP ps[k]) := by
  rw [List.take_succ_eq_append_getElem h, List.all_append]; simp only [List.all_cons, List.all_nil, Bool.and_true]
theorem all_not (ps : List (Int × Int)) (k : Nat) (h : k < ps.length) (hn : okP ps[k] = false) : ps.all okP = false := by
  rw [List.all_eq_false]; exact ⟨ps[k], List.getElem_mem h, by simp [hn]⟩
theorem any_yes (ps : List (Int × Int)) (m : Int) (k : Nat) (h : k < ps.length) (hn : lin ps[k] m = true) : anyIn ps m = true := by
  unfold anyIn; rw [List.any_eq_true]; exact ⟨ps[k], List.getElem_mem h, hn⟩
theorem chk_zero {ps : List (Int × Int)} (h : chk ps = 0) : ps.length ≤ 64 ∧ ps.all okP = true := by
  unfold chk at h
  split at h
  · cases h
  · split at h
    · exact ⟨by omega, by assumption⟩
    · cases h
theorem tmod_week (n : Int) : (n.tmod 10080 + 10080).tmod 10080 = n % 10080 := by
  rw [Int.tmod_eq_emod (a := n)]
  split <;> rw [Int.tmod_eq_emod_of_nonneg (by omega)] <;> omega
theorem lin_first (p : Int × Int) (h : okP p = true) : lin p p.1 = true := by
  obtain ⟨a, b, c, d⟩ := okP_iff.1 h
  unfold lin
  split <;> simp <;> omega
end Go.Proofs.Ytnfkhofcmjpfcaa
