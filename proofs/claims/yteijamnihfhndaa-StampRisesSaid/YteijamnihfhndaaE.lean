/-
  The examples' function of chapter 14, and the walk of StampOrder: it returns true, for every input, without condition.
-/
import Derived.Test.YteijamnihfhndaaD
import Derived.Laws.StructEq
namespace Go.Proofs.Yteijamnihfhndaa
open Go.RowKit
theorem eqS_true {a b c d e f : Int} (h : a = d ∧ b = e ∧ c = f) (w : World) : (binOp .eql 23 (.agg #[.int .i64 a, .int .i64 b, .int .i64 c]) (.agg #[.int .i64 d, .int .i64 e, .int .i64 f])).run Try.prog w = .ok (.bool true) w := by
  obtain ⟨rfl, rfl, rfl⟩ := h
  go_simp
theorem eqS_false {a b c d e f : Int} (h : ¬ (a = d ∧ b = e ∧ c = f)) (w : World) : (binOp .eql 23 (.agg #[.int .i64 a, .int .i64 b, .int .i64 c]) (.agg #[.int .i64 d, .int .i64 e, .int .i64 f])).run Try.prog w = .ok (.bool false) w := by
  go_simp
  by_cases x : a = d <;> by_cases y : b = e <;> by_cases z : c = f <;> simp [x, y, z]
  exact h ⟨x, y, z⟩
set_option maxRecDepth 100000 in
set_option maxHeartbeats 2000000 in
theorem awake_any (w : World) : Calls Try.prog 14 #[] w fun e w' => e = .returned (.bool true) ∧ Below w.heap.size w w' := by
  go_enter Try.func14, Try.ntmps14
  go_wp2_with fail
  refine (next_any ⟨5, 3, 2⟩ 4 2 _).mono ?_
  rw [show nextS ⟨5, 3, 2⟩ 4 2 = (⟨5, 4, 2⟩, 0) by rfl]
  rintro e w1 ⟨rfl, hb1⟩
  have k1 : Below w.heap.size w w1 := below_alloc hb1
  have z1 : w.heap.size < w1.heap.size := kept_lt hb1
  have a0 : w1.cell? ⟨w.heap.size, 0, none⟩ = some (.int .i64 5) := (hb1.cell (p := ⟨w.heap.size, 0, none⟩) (by simp <;> omega)).trans (by go_simp)
  have a1 : w1.cell? ⟨w.heap.size, 1, none⟩ = some (.int .i64 3) := (hb1.cell (p := ⟨w.heap.size, 1, none⟩) (by simp <;> omega)).trans (by go_simp)
  have a2 : w1.cell? ⟨w.heap.size, 2, none⟩ = some (.int .i64 2) := (hb1.cell (p := ⟨w.heap.size, 2, none⟩) (by simp <;> omega)).trans (by go_simp)
  go_wp2_with fail
  refine (next_any ⟨5, 3, 2⟩ 6 2 _).mono ?_
  rw [show nextS ⟨5, 3, 2⟩ 6 2 = (⟨6, 0, 2⟩, 0) by rfl]
  rintro e w2 ⟨rfl, hb2⟩
  have k2 := below_step k1 (Nat.le_refl _) (below_alloc hb2)
  have z2 : w1.heap.size < w2.heap.size := kept_lt hb2
  have z2a : w.heap.size < w2.heap.size := by omega
  have b0 : w2.cell? ⟨w.heap.size, 0, none⟩ = some (.int .i64 5) := (hb2.cell (p := ⟨w.heap.size, 0, none⟩) (by simp <;> omega)).trans (by go_simp)
  have b1 : w2.cell? ⟨w.heap.size, 1, none⟩ = some (.int .i64 3) := (hb2.cell (p := ⟨w.heap.size, 1, none⟩) (by simp <;> omega)).trans (by go_simp)
  have b2 : w2.cell? ⟨w.heap.size, 2, none⟩ = some (.int .i64 2) := (hb2.cell (p := ⟨w.heap.size, 2, none⟩) (by simp <;> omega)).trans (by go_simp)
  have c0 : w2.cell? ⟨w1.heap.size, 0, none⟩ = some (.int .i64 5) := (hb2.cell (p := ⟨w1.heap.size, 0, none⟩) (by simp <;> omega)).trans (by go_simp)
  have c1 : w2.cell? ⟨w1.heap.size, 1, none⟩ = some (.int .i64 4) := (hb2.cell (p := ⟨w1.heap.size, 1, none⟩) (by simp <;> omega)).trans (by go_simp)
  have c2 : w2.cell? ⟨w1.heap.size, 2, none⟩ = some (.int .i64 2) := (hb2.cell (p := ⟨w1.heap.size, 2, none⟩) (by simp <;> omega)).trans (by go_simp)
  clear a0 a1 a2
  go_wp2_with fail
  refine (next_any ⟨5, 1099511627776, 0⟩ 5 0 _).mono ?_
  rw [show nextS ⟨5, 1099511627776, 0⟩ 5 0 = (⟨0, 0, 0⟩, 13) by rfl]
  rintro e w3 ⟨rfl, hb3⟩
  have k3 := below_step k2 (Nat.le_refl _) (below_alloc hb3)
  have z3 : w2.heap.size < w3.heap.size := kept_lt hb3
  have z3a : w.heap.size < w3.heap.size := by omega
  have z3b : w1.heap.size < w3.heap.size := by omega
  have d0 : w3.cell? ⟨w.heap.size, 0, none⟩ = some (.int .i64 5) := (hb3.cell (p := ⟨w.heap.size, 0, none⟩) (by simp <;> omega)).trans (by go_simp)
  have d1 : w3.cell? ⟨w.heap.size, 1, none⟩ = some (.int .i64 3) := (hb3.cell (p := ⟨w.heap.size, 1, none⟩) (by simp <;> omega)).trans (by go_simp)
  have d2 : w3.cell? ⟨w.heap.size, 2, none⟩ = some (.int .i64 2) := (hb3.cell (p := ⟨w.heap.size, 2, none⟩) (by simp <;> omega)).trans (by go_simp)
  have e0 : w3.cell? ⟨w1.heap.size, 0, none⟩ = some (.int .i64 5) := (hb3.cell (p := ⟨w1.heap.size, 0, none⟩) (by simp <;> omega)).trans (by go_simp)
  have e1 : w3.cell? ⟨w1.heap.size, 1, none⟩ = some (.int .i64 4) := (hb3.cell (p := ⟨w1.heap.size, 1, none⟩) (by simp <;> omega)).trans (by go_simp)
  have e2 : w3.cell? ⟨w1.heap.size, 2, none⟩ = some (.int .i64 2) := (hb3.cell (p := ⟨w1.heap.size, 2, none⟩) (by simp <;> omega)).trans (by go_simp)
  have f0 : w3.cell? ⟨w2.heap.size, 0, none⟩ = some (.int .i64 6) := (hb3.cell (p := ⟨w2.heap.size, 0, none⟩) (by simp <;> omega)).trans (by go_simp)
  have f1 : w3.cell? ⟨w2.heap.size, 1, none⟩ = some (.int .i64 0) := (hb3.cell (p := ⟨w2.heap.size, 1, none⟩) (by simp <;> omega)).trans (by go_simp)
  have f2 : w3.cell? ⟨w2.heap.size, 2, none⟩ = some (.int .i64 2) := (hb3.cell (p := ⟨w2.heap.size, 2, none⟩) (by simp <;> omega)).trans (by go_simp)
  clear b0 b1 b2 c0 c1 c2
  go_wp2_with fail
  refine (seen_any ⟨5, 3, 2⟩ ⟨7, 9, 1⟩ 6 _).mono ?_
  rw [show seenS ⟨5, 3, 2⟩ ⟨7, 9, 1⟩ 6 = (⟨7, 9, 2⟩, 0) by rfl]
  rintro e w4 ⟨rfl, hb4⟩
  have k4 := below_step k3 (Nat.le_refl _) (below_alloc hb4)
  have z4 : w3.heap.size < w4.heap.size := kept_lt hb4
  have z4a : w.heap.size < w4.heap.size := by omega
  have z4b : w1.heap.size < w4.heap.size := by omega
  have z4c : w2.heap.size < w4.heap.size := by omega
  have g0 : w4.cell? ⟨w.heap.size, 0, none⟩ = some (.int .i64 5) := (hb4.cell (p := ⟨w.heap.size, 0, none⟩) (by simp <;> omega)).trans (by go_simp)
  have g1 : w4.cell? ⟨w.heap.size, 1, none⟩ = some (.int .i64 3) := (hb4.cell (p := ⟨w.heap.size, 1, none⟩) (by simp <;> omega)).trans (by go_simp)
  have g2 : w4.cell? ⟨w.heap.size, 2, none⟩ = some (.int .i64 2) := (hb4.cell (p := ⟨w.heap.size, 2, none⟩) (by simp <;> omega)).trans (by go_simp)
  have h0 : w4.cell? ⟨w1.heap.size, 0, none⟩ = some (.int .i64 5) := (hb4.cell (p := ⟨w1.heap.size, 0, none⟩) (by simp <;> omega)).trans (by go_simp)
  have h1 : w4.cell? ⟨w1.heap.size, 1, none⟩ = some (.int .i64 4) := (hb4.cell (p := ⟨w1.heap.size, 1, none⟩) (by simp <;> omega)).trans (by go_simp)
  have h2 : w4.cell? ⟨w1.heap.size, 2, none⟩ = some (.int .i64 2) := (hb4.cell (p := ⟨w1.heap.size, 2, none⟩) (by simp <;> omega)).trans (by go_simp)
  have i0 : w4.cell? ⟨w2.heap.size, 0, none⟩ = some (.int .i64 6) := (hb4.cell (p := ⟨w2.heap.size, 0, none⟩) (by simp <;> omega)).trans (by go_simp)
  have i1 : w4.cell? ⟨w2.heap.size, 1, none⟩ = some (.int .i64 0) := (hb4.cell (p := ⟨w2.heap.size, 1, none⟩) (by simp <;> omega)).trans (by go_simp)
  have i2 : w4.cell? ⟨w2.heap.size, 2, none⟩ = some (.int .i64 2) := (hb4.cell (p := ⟨w2.heap.size, 2, none⟩) (by simp <;> omega)).trans (by go_simp)
  clear d0 d1 d2 e0 e1 e2 f0 f1 f2
  go_wp2_with fail
  refine (next_any ⟨5, 3, 2⟩ (-1) 0 _).mono ?_
  rw [show nextS ⟨5, 3, 2⟩ (-1) 0 = (⟨0, 0, 0⟩, 2) by rfl]
  rintro e w5 ⟨rfl, hb5⟩
  have k5 := below_step k4 (Nat.le_refl _) (below_alloc hb5)
  have z5 : w4.heap.size < w5.heap.size := kept_lt hb5
  have z5a : w.heap.size < w5.heap.size := by omega
  have z5b : w1.heap.size < w5.heap.size := by omega
  have z5c : w2.heap.size < w5.heap.size := by omega
  have j0 : w5.cell? ⟨w.heap.size, 0, none⟩ = some (.int .i64 5) := (hb5.cell (p := ⟨w.heap.size, 0, none⟩) (by simp <;> omega)).trans (by go_simp)
  have j1 : w5.cell? ⟨w.heap.size, 1, none⟩ = some (.int .i64 3) := (hb5.cell (p := ⟨w.heap.size, 1, none⟩) (by simp <;> omega)).trans (by go_simp)
  have j2 : w5.cell? ⟨w.heap.size, 2, none⟩ = some (.int .i64 2) := (hb5.cell (p := ⟨w.heap.size, 2, none⟩) (by simp <;> omega)).trans (by go_simp)
  have k0 : w5.cell? ⟨w1.heap.size, 0, none⟩ = some (.int .i64 5) := (hb5.cell (p := ⟨w1.heap.size, 0, none⟩) (by simp <;> omega)).trans (by go_simp)
  have k1 : w5.cell? ⟨w1.heap.size, 1, none⟩ = some (.int .i64 4) := (hb5.cell (p := ⟨w1.heap.size, 1, none⟩) (by simp <;> omega)).trans (by go_simp)
  have k2 : w5.cell? ⟨w1.heap.size, 2, none⟩ = some (.int .i64 2) := (hb5.cell (p := ⟨w1.heap.size, 2, none⟩) (by simp <;> omega)).trans (by go_simp)
  have l0 : w5.cell? ⟨w2.heap.size, 0, none⟩ = some (.int .i64 6) := (hb5.cell (p := ⟨w2.heap.size, 0, none⟩) (by simp <;> omega)).trans (by go_simp)
  have l1 : w5.cell? ⟨w2.heap.size, 1, none⟩ = some (.int .i64 0) := (hb5.cell (p := ⟨w2.heap.size, 1, none⟩) (by simp <;> omega)).trans (by go_simp)
  have l2 : w5.cell? ⟨w2.heap.size, 2, none⟩ = some (.int .i64 2) := (hb5.cell (p := ⟨w2.heap.size, 2, none⟩) (by simp <;> omega)).trans (by go_simp)
  have m0 : w5.cell? ⟨w4.heap.size, 0, none⟩ = some (.int .i64 7) := (hb5.cell (p := ⟨w4.heap.size, 0, none⟩) (by simp <;> omega)).trans (by go_simp)
  have m1 : w5.cell? ⟨w4.heap.size, 1, none⟩ = some (.int .i64 9) := (hb5.cell (p := ⟨w4.heap.size, 1, none⟩) (by simp <;> omega)).trans (by go_simp)
  have m2 : w5.cell? ⟨w4.heap.size, 2, none⟩ = some (.int .i64 2) := (hb5.cell (p := ⟨w4.heap.size, 2, none⟩) (by simp <;> omega)).trans (by go_simp)
  clear g0 g1 g2 h0 h1 h2 i0 i1 i2
  go_wp2_with fail
  refine (less_any ⟨5, 3, 2⟩ ⟨5, 4, 2⟩ _).mono ?_
  rw [show lessB ⟨5, 3, 2⟩ ⟨5, 4, 2⟩ = true by decide]
  rintro e w6 ⟨rfl, hb6⟩
  go_wp2_with fail
  go_ret
  exact ⟨rfl, below_step k5 (Nat.le_refl _) (below_alloc hb6)⟩
end Go.Proofs.Yteijamnihfhndaa

