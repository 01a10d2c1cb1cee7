/-
  Contracts of calendar's small functions and the reference's, in numbers.
-/
import Derived.Test.YtnenmieolbfheaaProg
import Derived.Test.YtnenmieolbfheaaM
import Derived.Test.YtnenmieolbfheaaBase
namespace Go.Proofs.Ytnenmieolbfheaa
open Go.RowKit
set_option maxHeartbeats 400000 in
theorem leap_any (y : Int) (w : World) (h0 : 0 ≤ y) (h1 : y ≤ 10000) : Calls Try.prog 15 #[.int .i64 y] w fun e w' => e = .returned (.bool (lpB y)) ∧ w = w' := by
  by_cases a : y % 4 = 0 <;> by_cases b : y % 100 = 0 <;> by_cases c : y % 400 = 0
  all_goals try (exfalso; omega)
  all_goals
    have HL : Hid (lpB y = decide ((y % 4 = 0 ∧ y % 100 ≠ 0) ∨ y % 400 = 0)) := Lib.hid rfl
    have HA := Lib.hid (And.intro a (And.intro b c))
    go_enter Try.func15, Try.ntmps15
    go_wp2
    go_ret
    refine ⟨rbool ?_, rfl⟩
    rw [HL.out]
    obtain ⟨a1, b1, c1⟩ := HA.out
    simp_all
set_option maxHeartbeats 400000 in
theorem leap2_any (y : Int) (w : World) (h0 : 0 ≤ y) (h1 : y ≤ 10000) : Calls Try.prog 16 #[.int .i64 y] w fun e w' => e = .returned (.bool (lpB y)) ∧ w = w' := by
  by_cases a : y % 4 = 0 <;> by_cases b : y % 100 = 0 <;> by_cases c : y % 400 = 0
  all_goals try (exfalso; omega)
  all_goals
    have HL : Hid (lpB y = decide ((y % 4 = 0 ∧ y % 100 ≠ 0) ∨ y % 400 = 0)) := Lib.hid rfl
    have HA := Lib.hid (And.intro a (And.intro b c))
    go_enter Try.func16, Try.ntmps16
    go_wp2
    go_ret
    refine ⟨rbool ?_, rfl⟩
    rw [HL.out]
    obtain ⟨a1, b1, c1⟩ := HA.out
    simp_all
def wk (n : Int) : Int := (wrap64 (n.tmod 7 + 7)).tmod 7
theorem week_any (n : Int) (w : World) : Calls Try.prog 9 #[.int .i64 n] w fun e w' => e = .returned (.int .i64 (wk n)) ∧ w = w' := by
  go_enter Try.func9, Try.ntmps9
  go_wp2
  go_ret
  exact ⟨rfl, rfl⟩
theorem week2_any (n : Int) (w : World) : Calls Try.prog 10 #[.int .i64 n] w fun e w' => e = .returned (.int .i64 (wk n)) ∧ w = w' := by
  go_enter Try.func10, Try.ntmps10
  go_wp2
  go_ret
  exact ⟨rfl, rfl⟩
theorem last_any (y m : Int) (w : World) (h0 : 0 ≤ y) (h1 : y ≤ 10000) : Calls Try.prog 14 #[.int .i64 y, .int .i64 m] w fun e w' => e = .returned (.int .i64 (dim y m)) ∧ w = w' := by
  by_cases e2 : m = 2
  · subst e2
    cases hl : lpB y
    all_goals
      have HL := Lib.hid hl
      go_enter Try.func14, Try.ntmps14
      go_wp2_with (go_at_call 16; refine (leap2_any _ _ h0 h1).mono ?_; rintro e w' ⟨rfl, rfl⟩; rw [HL.out])
      go_ret
      exact ⟨rint (by unfold dim; rw [HL.out]; rfl), rfl⟩
  · have HE := Lib.hid e2
    have h2 : (m == 2) = false := beq_eq_false_iff_ne.2 e2
    by_cases e4 : m = 4 ∨ m = 6 ∨ m = 9 ∨ m = 11
    · rcases e4 with rfl | rfl | rfl | rfl
      all_goals
        clear e2 HE h2
        go_enter Try.func14, Try.ntmps14
        go_wp2
        go_ret
        exact ⟨rint rfl, rfl⟩
    · have h4 : (m == 4) = false := beq_eq_false_iff_ne.2 (by omega)
      have h6 : (m == 6) = false := beq_eq_false_iff_ne.2 (by omega)
      have h9 : (m == 9) = false := beq_eq_false_iff_ne.2 (by omega)
      have h11 : (m == 11) = false := beq_eq_false_iff_ne.2 (by omega)
      have HF := Lib.hid e4
      clear e2 e4
      go_enter Try.func14, Try.ntmps14
      go_wp2
      go_ret
      exact ⟨rint (by unfold dim; rw [if_neg HE.out, if_neg HF.out]), rfl⟩
def table : Value := .agg #[.int .i64 0, .int .i64 31, .int .i64 61, .int .i64 92, .int .i64 122, .int .i64 153, .int .i64 184, .int .i64 214, .int .i64 245, .int .i64 275, .int .i64 306, .int .i64 337, .int .i64 366]
theorem starts_any (w : World) : Calls Try.prog 13 #[] w fun e w' => e = .returned (.agg #[.int .i64 0, .int .i64 31, .int .i64 61, .int .i64 92, .int .i64 122, .int .i64 153, .int .i64 184, .int .i64 214, .int .i64 245, .int .i64 275, .int .i64 306, .int .i64 337, .int .i64 366]) ∧ Below w.heap.size w w' := by
  go_enter Try.func13, Try.ntmps13
  go_wp2
  refine bodyPost_ret (v := .agg #[.int .i64 0, .int .i64 31, .int .i64 61, .int .i64 92, .int .i64 122, .int .i64 153, .int .i64 184, .int .i64 214, .int .i64 245, .int .i64 275, .int .i64 306, .int .i64 337, .int .i64 366]) (by simp [results, Try.results13, go_sem]) rfl ⟨rfl, ?_⟩
  exact (Below.refl _ _).alloc (Nat.le_refl _) _
set_option maxHeartbeats 800000 in
theorem long_any (y m : Int) (w : World) (h0 : 0 ≤ y) (h1 : y ≤ 10000) (m0 : 1 ≤ m) (m1 : m ≤ 12) : Calls Try.prog 12 #[.int .i64 y, .int .i64 m] w fun e w' => e = .returned (.int .i64 (dim y m)) ∧ Below w.heap.size w w' := by
  by_cases e2 : m = 2 ∧ lpB y = false
  · obtain ⟨rfl, hl⟩ := e2
    have HL := Lib.hid hl
    clear hl
    go_enter Try.func12, Try.ntmps12
    go_wp2_with (go_at_call 15; refine (leap_any _ _ h0 h1).mono ?_; rintro e w' ⟨rfl, rfl⟩; rw [HL.out])
    go_ret
    exact ⟨rint (by unfold dim; rw [HL.out]; rfl), Below.refl _ _⟩
  · have HE : Hid (dim y m = st ((m + 9) % 12 + 1) - st ((m + 9) % 12)) := Lib.hid (by
      obtain rfl | rfl | rfl | rfl | rfl | rfl | rfl | rfl | rfl | rfl | rfl | rfl : m = 1 ∨ m = 2 ∨ m = 3 ∨ m = 4 ∨ m = 5 ∨ m = 6 ∨ m = 7 ∨ m = 8 ∨ m = 9 ∨ m = 10 ∨ m = 11 ∨ m = 12 := by omega
      all_goals first | rfl | (have : lpB y = true := by cases h : lpB y <;> simp_all
                               unfold dim; rw [this]; rfl))
    have HL : Hid (m = 2 → lpB y = true) := Lib.hid (fun h => by cases h2 : lpB y <;> simp_all)
    clear e2
    obtain rfl | rfl | rfl | rfl | rfl | rfl | rfl | rfl | rfl | rfl | rfl | rfl : m = 1 ∨ m = 2 ∨ m = 3 ∨ m = 4 ∨ m = 5 ∨ m = 6 ∨ m = 7 ∨ m = 8 ∨ m = 9 ∨ m = 10 ∨ m = 11 ∨ m = 12 := by omega
    all_goals
      go_enter Try.func12, Try.ntmps12
      go_wp2_with (first | (go_at_call 15; refine (leap_any _ _ h0 h1).mono ?_; rintro e w' ⟨rfl, rfl⟩; rw [HL.out rfl]) | (go_at_call 13; refine (starts_any _).mono ?_; rintro e w1 ⟨rfl, hb1⟩))
      go_quiet (fail)
      go_wp2
      go_ret
      exact ⟨rint HE.out.symm, below_drewN (hb1.alloc hb1.size _) _⟩
end Go.Proofs.Ytnenmieolbfheaa
