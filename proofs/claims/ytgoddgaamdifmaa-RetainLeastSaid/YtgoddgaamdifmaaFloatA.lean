/-
  Numbers at their edges, as plain words of their bits: which is no number, the clean one, and the key that rises as the numbers do.
-/
import Derived.Test.YtgoddgaamdifmaaProg
import Derived.Laws.FloatArith
set_option linter.unusedVariables false
set_option linter.unusedSimpArgs false
namespace Go.Proofs.Ytgoddgaamdifmaa
open Ieee
theorem fd_bi : double.binade = 4503599627370496 := by decide
theorem fd_ir : double.infRung = 9218868437227405312 := by decide
theorem fd_sw : double.signWeight = 9223372036854775808 := by decide
theorem fd_lp : double.leastPlace = -1074 := by decide
def isN (x : Nat) : Bool := decide (9218868437227405312 < x % 9223372036854775808)
def rawN (x : Nat) : Nat := if isN x = true then 9221120237041090561 else x
def keyB (b : Nat) : Nat := if b < 9223372036854775808 then b + 9223372036854775808 else 18446744073709551615 - b
def keyN (x : Nat) : Nat := keyB (rawN x)
theorem rawN_lt {x : Nat} (h : x < 18446744073709551616) : rawN x < 18446744073709551616 := by unfold rawN; split <;> omega
theorem rawN_ge (x : Nat) : 0 ≤ rawN x := Nat.zero_le _
theorem isN_raw (x : Nat) : isN x = true → isN (rawN x) = true := fun h => by unfold rawN; rw [if_pos h]; decide
theorem rawN_idem (x : Nat) : rawN (rawN x) = rawN x := by
  unfold rawN
  by_cases h : isN x = true
  · rw [if_pos h]; decide
  · rw [if_neg h, if_neg h]
theorem read_nan {x : Nat} (h : isN x = true) : ∃ s f, double.read x = .nan s f := by
  have h1 : 9218868437227405312 < x % 9223372036854775808 := of_decide_eq_true h
  unfold Format.read
  simp only [fd_bi, fd_ir, fd_sw, fd_lp]
  rw [if_neg (by omega), if_neg (by omega), if_neg (by omega)]
  exact ⟨_, _, rfl⟩
theorem read_num {x : Nat} (h : isN x = false) : (∃ s, double.read x = .infinity s) ∨ ∃ s m i, double.read x = .number s m i := by
  have h1 : ¬ 9218868437227405312 < x % 9223372036854775808 := of_decide_eq_false h
  unfold Format.read
  simp only [fd_bi, fd_ir, fd_sw, fd_lp]
  split
  · exact Or.inr ⟨_, _, _, rfl⟩
  · split
    · exact Or.inr ⟨_, _, _, rfl⟩
    · rw [if_pos (by omega)]; exact Or.inl ⟨_, rfl⟩
theorem order_nan {x : Nat} (y : Nat) (h : isN x = true) : FloatKind.f64.format.order x y = none := by
  obtain ⟨s, f, e⟩ := read_nan h
  show (double.read x).order (double.read y) = none
  rw [e]; rfl
theorem order_nan2 (x : Nat) {y : Nat} (h : isN y = true) : FloatKind.f64.format.order x y = none := by
  obtain ⟨s, f, e⟩ := read_nan h
  show (double.read x).order (double.read y) = none
  rw [e]
  cases double.read x <;> rfl
theorem order_num {x : Nat} (h : isN x = false) : FloatKind.f64.format.order x x = some .eq := by
  show (double.read x).order (double.read x) = some .eq
  rcases read_num h with ⟨s, e⟩ | ⟨s, m, i, e⟩
  · rw [e]; simp [Datum.order, compare, compareOfLessAndEq]
  · rw [e]; simp [Datum.order, compare, compareOfLessAndEq]
theorem eq_some_of (x : Nat) : (FloatKind.f64.format.order x x == some .eq) = !isN x := by
  cases h : isN x with
  | true => rw [order_nan x h]; rfl
  | false => rw [order_num h]; rfl
theorem ne_some_of (x : Nat) : (FloatKind.f64.format.order x x != some .eq) = isN x := by
  cases h : isN x with
  | true => rw [order_nan x h]; rfl
  | false => rw [order_num h]; rfl
end Go.Proofs.Ytgoddgaamdifmaa

