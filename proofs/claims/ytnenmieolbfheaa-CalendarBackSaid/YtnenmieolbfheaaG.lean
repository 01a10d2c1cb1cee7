/-
  The walks of CalendarDays and CalendarBack: both laws' functions return true, for every input, without condition.
-/
import Derived.Test.YtnenmieolbfheaaF
import Derived.Test.YtnenmieolbfheaaO
namespace Go.Proofs.Ytnenmieolbfheaa
open Go.RowKit
theorem days_both (y m d : Int) : ∃ v e : Int, (∀ w, Calls Try.prog 5 #[.int .i64 y, .int .i64 m, .int .i64 d] w fun x w' => x = .returned (.tuple #[.int .i64 v, .int .i64 e]) ∧ Below w.heap.size w w') ∧
    (∀ w, Calls Try.prog 6 #[.int .i64 y, .int .i64 m, .int .i64 d] w fun x w' => x = .returned (.tuple #[.int .i64 v, .int .i64 e]) ∧ w = w') := by
  cases h : okD y m d with
  | false => exact ⟨0, 2, fun w => days_no y m d w h, fun w => refDays_no y m d w h⟩
  | true => exact ⟨num y m d, 0, fun w => days_ok y m d w h, fun w => refDays_ok y m d w h⟩
theorem date_both (n : Int) : ∃ a b c e : Int, (∀ w, Calls Try.prog 7 #[.int .i64 n] w fun x w' => x = .returned (.tuple #[.agg #[.int .i64 a, .int .i64 b, .int .i64 c], .int .i64 e]) ∧ Below w.heap.size w w') ∧
    (∀ w, Calls Try.prog 8 #[.int .i64 n] w fun x w' => x = .returned (.tuple #[.agg #[.int .i64 a, .int .i64 b, .int .i64 c], .int .i64 e]) ∧ Below w.heap.size w w') := by
  by_cases h : n < 0 ∨ 3652364 < n
  · exact ⟨0, 0, 0, 2, fun w => date_no n w h, fun w => refDate_no n w h⟩
  · exact ⟨dY n, dM n, dD n, 0, fun w => date_ok n w (by omega) (by omega), fun w => refDate_ok n w (by omega) (by omega)⟩
theorem eq3_self (a b c : Int) (w : World) : (binOp .eql 22 (.agg #[.int .i64 a, .int .i64 b, .int .i64 c]) (.agg #[.int .i64 a, .int .i64 b, .int .i64 c])).run Try.prog w = .ok (.bool true) w := by
  rw [eq3]; simp
set_option maxHeartbeats 1000000 in
theorem days_walk3 (y m d n : Int) (w : World) : Calls Try.prog 3 #[.agg #[.int .i64 y, .int .i64 m, .int .i64 d], .int .i64 n] w fun e w' => e = .returned (.bool true) ∧ Below w.heap.size w w' := by
  obtain ⟨v, e, hd1, hd2⟩ := days_both y m d
  obtain ⟨a, b, c, f, ht1, ht2⟩ := date_both n
  have HD1 := Lib.hid hd1; have HD2 := Lib.hid hd2; have HT1 := Lib.hid ht1; have HT2 := Lib.hid ht2
  clear hd1 hd2 ht1 ht2
  have heq := eq3_self a b c
  go_enter Try.func3, Try.ntmps3
  go_wp2_with fail
  go_quiet (fail)
  go_wp2_with fail
  refine (HD1.out _).mono ?_
  rintro x w1 ⟨rfl, hb1⟩
  go_wp2_with fail
  refine (HD2.out _).mono ?_
  rintro x w1' ⟨rfl, rfl⟩
  go_wp2_with fail
  refine (HT1.out _).mono ?_
  rintro x w2 ⟨rfl, hb2⟩
  go_wp2_with fail
  refine (HT2.out _).mono ?_
  rintro x w3 ⟨rfl, hb3⟩
  have q0 : w3.cell? ⟨w2.heap.size, 0, none⟩ = some (.int .i64 a) := kept_new hb3 0
  have q1 : w3.cell? ⟨w2.heap.size, 1, none⟩ = some (.int .i64 b) := kept_new hb3 1
  have q2 : w3.cell? ⟨w2.heap.size, 2, none⟩ = some (.int .i64 c) := kept_new hb3 2
  have hz := kept_lt hb3
  go_wp2_with fail
  refine (week_any _ _).mono ?_
  rintro x w4 ⟨rfl, rfl⟩
  go_wp2_with fail
  refine (week2_any _ _).mono ?_
  rintro x w5 ⟨rfl, rfl⟩
  go_wp2_with fail
  refine (awake_any _).mono ?_
  rintro x w6 ⟨rfl, hb6⟩
  go_wp2_with fail
  go_ret
  have k1 : Below w.heap.size w w1 := (below_drewN ((Below.refl _ _).alloc (Nat.le_refl _) _) _).trans (hb1.mono (by simp [World.drewN]))
  have k2 := below_step k1 (Nat.le_refl _) hb2
  have k3 := below_step k2 (Nat.le_refl _) (below_alloc hb3)
  have k4 := below_step (k3.alloc k3.size _) (Nat.le_refl _) hb6
  exact ⟨rfl, k4⟩
theorem days_walk (v0 : Value) (x0 : List Int) (a1 : Int) (w : World) (w0 : v0 = .agg (x0.map (Value.int .i64)).toArray ∧ x0.length = 3 ∧ ∀ z ∈ x0, (Lit.int .i64 z).wf = true) (_w1 : (Lit.int .i64 a1).wf = true) :
    Calls Try.prog 3 #[v0, .int .i64 a1] w fun e w' => e = .returned (.bool true) ∧ Below w.heap.size w w' := by
  obtain ⟨rfl, hl, _⟩ := w0
  obtain ⟨a, b, c, rfl⟩ := list3 hl
  exact days_walk3 a b c a1 w
end Go.Proofs.Ytnenmieolbfheaa
