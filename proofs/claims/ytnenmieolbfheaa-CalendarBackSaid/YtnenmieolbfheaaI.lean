/-
  The walk of CalendarBack: the law's function returns true, for every input, without condition.
-/
import Derived.Test.YtnenmieolbfheaaH
import Derived.Test.YtnenmieolbfheaaG
namespace Go.Proofs.Ytnenmieolbfheaa
open Go.RowKit
theorem eq3_false {a b c d e f : Int} (h : ¬ (a = d ∧ b = e ∧ c = f)) (w : World) : (binOp .eql 22 (.agg #[.int .i64 a, .int .i64 b, .int .i64 c]) (.agg #[.int .i64 d, .int .i64 e, .int .i64 f])).run Try.prog w = .ok (.bool false) w := by
  rw [eq3]
  have : (a == d && b == e && c == f) = false := by
    by_cases x : a = d <;> by_cases y : b = e <;> by_cases z : c = f <;> simp [x, y, z]
    exact h ⟨x, y, z⟩
  rw [this]
set_option maxHeartbeats 2000000 in
theorem back_walk (a0 : Int) (w : World) (w0 : (Lit.int .u32 a0).wf = true) : Calls Try.prog 4 #[.int .u32 a0] w fun e w' => e = .returned (.bool true) ∧ Below w.heap.size w w' := by
  obtain ⟨b0, b1⟩ := bounds_u32 w0
  have n0 : 0 ≤ a0 % 3652000 := by omega
  have n1 : a0 % 3652000 < 3652000 := by omega
  have HD1 := Lib.hid (fun w => date_ok (a0 % 3652000) w n0 (by omega))
  have HD2 := Lib.hid (fun w => date_ok (a0 % 3652000 + 1) w (by omega) (by omega))
  have HD3 := Lib.hid (fun w => days_ok _ _ _ w (back_ok (a0 % 3652000) n0 (by omega)))
  have hnx := next_day (a0 % 3652000) n0 (by omega)
  have hnum := back_num (a0 % 3652000) n0 (by omega)
  have hok := ok_iff.1 (back_ok (a0 % 3652000) n0 (by omega))
  rw [hnum] at HD3
  clear hnum w0
  have hm31 := dim_bd (dY (a0 % 3652000)) (dM (a0 % 3652000))
  generalize dim (dY (a0 % 3652000)) (dM (a0 % 3652000)) = E at *
  generalize dY (a0 % 3652000) = y at *
  generalize dM (a0 % 3652000) = m at *
  generalize dD (a0 % 3652000) = d at *
  generalize dY (a0 % 3652000 + 1) = y2 at *
  generalize dM (a0 % 3652000 + 1) = m2 at *
  generalize dD (a0 % 3652000 + 1) = d2 at *
  obtain ⟨y0, y1, m0, m1, d0, d1, _⟩ := hok
  have d3 : d ≤ 31 := by omega
  have hw : wrap64 (a0 % 3652000) = a0 % 3652000 := by unfold wrap64; omega
  rcases hnx with ⟨rfl, rfl, rfl⟩ | ⟨rfl, rfl, rfl⟩ | ⟨rfl, rfl, rfl, rfl, rfl⟩
  · have heq := eq3_self y2 m2 (d + 1)
    go_enter Try.func4, Try.ntmps4
    go_wp2_with fail
    refine (HD1.out _).mono ?_
    rintro x w1 ⟨rfl, hb1⟩
    go_wp2_with fail
    refine (HD2.out _).mono ?_
    rintro x w2 ⟨rfl, hb2⟩
    have p0 : w2.cell? ⟨w1.heap.size, 0, none⟩ = some (.int .i64 (y2)) := kept_new hb2 0
    have p1 : w2.cell? ⟨w1.heap.size, 1, none⟩ = some (.int .i64 (m2)) := kept_new hb2 1
    have p2 : w2.cell? ⟨w1.heap.size, 2, none⟩ = some (.int .i64 (d)) := kept_new hb2 2
    have hz := kept_lt hb2
    go_wp2_with fail
    refine (HD3.out _).mono ?_
    rintro x w3 ⟨rfl, hb3⟩
    have hz2 := kept_lt hb3
    have q0 : w3.cell? ⟨w2.heap.size, 0, none⟩ = some (.int .i64 (y2)) := kept_new hb3 0
    have q1 : w3.cell? ⟨w2.heap.size, 1, none⟩ = some (.int .i64 (m2)) := kept_new hb3 1
    have q2 : w3.cell? ⟨w2.heap.size, 2, none⟩ = some (.int .i64 (d + 1)) := kept_new hb3 2
    have r0 : w3.cell? ⟨w1.heap.size, 0, none⟩ = some (.int .i64 (y2)) := ((below_alloc hb3).cell (p := ⟨w1.heap.size, 0, none⟩) hz).trans p0
    have r1 : w3.cell? ⟨w1.heap.size, 1, none⟩ = some (.int .i64 (m2)) := ((below_alloc hb3).cell (p := ⟨w1.heap.size, 1, none⟩) hz).trans p1
    have r2 : w3.cell? ⟨w1.heap.size, 2, none⟩ = some (.int .i64 (d)) := ((below_alloc hb3).cell (p := ⟨w1.heap.size, 2, none⟩) hz).trans p2
    go_wp2_with fail
    refine (awake_any _).mono ?_
    rintro x w4 ⟨rfl, hb4⟩
    go_wp2_with fail
    go_ret
    have k3 := below_step (below_step hb1 (Nat.le_refl _) (below_alloc hb2)) (Nat.le_refl _) (below_alloc hb3)
    exact ⟨rfl, below_step k3 (Nat.le_refl _) hb4⟩
  · have h1 := eq3_false (a := y2) (b := m + 1) (c := 1) (d := y2) (e := m) (f := d + 1) (by omega)
    have heq := eq3_self y2 (m + 1) 1
    go_enter Try.func4, Try.ntmps4
    go_wp2_with fail
    refine (HD1.out _).mono ?_
    rintro x w1 ⟨rfl, hb1⟩
    go_wp2_with fail
    refine (HD2.out _).mono ?_
    rintro x w2 ⟨rfl, hb2⟩
    have p0 : w2.cell? ⟨w1.heap.size, 0, none⟩ = some (.int .i64 (y2)) := kept_new hb2 0
    have p1 : w2.cell? ⟨w1.heap.size, 1, none⟩ = some (.int .i64 (m)) := kept_new hb2 1
    have p2 : w2.cell? ⟨w1.heap.size, 2, none⟩ = some (.int .i64 (d)) := kept_new hb2 2
    have hz := kept_lt hb2
    go_wp2_with fail
    refine (HD3.out _).mono ?_
    rintro x w3 ⟨rfl, hb3⟩
    have hz2 := kept_lt hb3
    have q0 : w3.cell? ⟨w2.heap.size, 0, none⟩ = some (.int .i64 (y2)) := kept_new hb3 0
    have q1 : w3.cell? ⟨w2.heap.size, 1, none⟩ = some (.int .i64 (m + 1)) := kept_new hb3 1
    have q2 : w3.cell? ⟨w2.heap.size, 2, none⟩ = some (.int .i64 (1)) := kept_new hb3 2
    have r0 : w3.cell? ⟨w1.heap.size, 0, none⟩ = some (.int .i64 (y2)) := ((below_alloc hb3).cell (p := ⟨w1.heap.size, 0, none⟩) hz).trans p0
    have r1 : w3.cell? ⟨w1.heap.size, 1, none⟩ = some (.int .i64 (m)) := ((below_alloc hb3).cell (p := ⟨w1.heap.size, 1, none⟩) hz).trans p1
    have r2 : w3.cell? ⟨w1.heap.size, 2, none⟩ = some (.int .i64 (d)) := ((below_alloc hb3).cell (p := ⟨w1.heap.size, 2, none⟩) hz).trans p2
    go_wp2_with fail
    refine (awake_any _).mono ?_
    rintro x w4 ⟨rfl, hb4⟩
    go_wp2_with fail
    go_ret
    have k3 := below_step (below_step hb1 (Nat.le_refl _) (below_alloc hb2)) (Nat.le_refl _) (below_alloc hb3)
    exact ⟨rfl, below_step k3 (Nat.le_refl _) hb4⟩
  · have h1 := eq3_false (a := y + 1) (b := 1) (c := 1) (d := y) (e := 12) (f := 32) (by omega)
    have h2 := eq3_false (a := y + 1) (b := 1) (c := 1) (d := y) (e := 13) (f := 1) (by omega)
    have heq := eq3_self (y + 1) 1 1
    go_enter Try.func4, Try.ntmps4
    go_wp2_with fail
    refine (HD1.out _).mono ?_
    rintro x w1 ⟨rfl, hb1⟩
    go_wp2_with fail
    refine (HD2.out _).mono ?_
    rintro x w2 ⟨rfl, hb2⟩
    have p0 : w2.cell? ⟨w1.heap.size, 0, none⟩ = some (.int .i64 (y)) := kept_new hb2 0
    have p1 : w2.cell? ⟨w1.heap.size, 1, none⟩ = some (.int .i64 (12)) := kept_new hb2 1
    have p2 : w2.cell? ⟨w1.heap.size, 2, none⟩ = some (.int .i64 (31)) := kept_new hb2 2
    have hz := kept_lt hb2
    go_wp2_with fail
    refine (HD3.out _).mono ?_
    rintro x w3 ⟨rfl, hb3⟩
    have hz2 := kept_lt hb3
    have q0 : w3.cell? ⟨w2.heap.size, 0, none⟩ = some (.int .i64 (y + 1)) := kept_new hb3 0
    have q1 : w3.cell? ⟨w2.heap.size, 1, none⟩ = some (.int .i64 (1)) := kept_new hb3 1
    have q2 : w3.cell? ⟨w2.heap.size, 2, none⟩ = some (.int .i64 (1)) := kept_new hb3 2
    have r0 : w3.cell? ⟨w1.heap.size, 0, none⟩ = some (.int .i64 (y)) := ((below_alloc hb3).cell (p := ⟨w1.heap.size, 0, none⟩) hz).trans p0
    have r1 : w3.cell? ⟨w1.heap.size, 1, none⟩ = some (.int .i64 (12)) := ((below_alloc hb3).cell (p := ⟨w1.heap.size, 1, none⟩) hz).trans p1
    have r2 : w3.cell? ⟨w1.heap.size, 2, none⟩ = some (.int .i64 (31)) := ((below_alloc hb3).cell (p := ⟨w1.heap.size, 2, none⟩) hz).trans p2
    go_wp2_with fail
    refine (awake_any _).mono ?_
    rintro x w4 ⟨rfl, hb4⟩
    go_wp2_with fail
    go_ret
    have k3 := below_step (below_step hb1 (Nat.le_refl _) (below_alloc hb2)) (Nat.le_refl _) (below_alloc hb3)
    exact ⟨rfl, below_step k3 (Nat.le_refl _) hb4⟩
end Go.Proofs.Ytnenmieolbfheaa
