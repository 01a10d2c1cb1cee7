/-
  The walks of WindowIn and WindowNext: both laws' functions return true, for every input, without condition.
-/
import Derived.Test.YtnfkhofcmjpfcaaD
namespace Go.Proofs.Ytnfkhofcmjpfcaa
open Go.RowKit
theorem Ps.one {w : World} {b : Nat} {x y : Int} (hb : b < w.heap.size) (h0 : w.cell? ⟨b, 0, none⟩ = some (.int .i64 x)) (h1 : w.cell? ⟨b, 1, none⟩ = some (.int .i64 y)) : Ps w (some ⟨b, 0, none⟩) [(x, y)] := by
  intro i hi
  obtain rfl : i = 0 := by simp at hi; omega
  exact ⟨b, 0, rfl, hb, h0, h1⟩
theorem Ps.nil (w : World) (a : Option Addr) : Ps w a [] := fun i h => by cases h
theorem Ps.new (w : World) (x y : Int) : Ps (w.alloc (.cells #[.int .i64 x, .int .i64 y] 29)) (some ⟨w.heap.size, 0, none⟩) [(x, y)] :=
  Ps.one (by simp) (cell_new _ _ _ _) (cell_new _ _ _ _)
def exPs : List (Int × Int) := [(10070, 10)]
theorem ex_next {w w' : World} {e : Ending} (h : NextIs [(10070, 10)] 20 w e w') : e = .returned (.tuple #[.int .i64 10070, .bool true]) ∧ Below w.heap.size w w' := by
  obtain ⟨hb, h⟩ := h
  have l : ∀ m : Int, anyIn [(10070, 10)] m = decide (10070 ≤ m ∨ m < 10) := fun m => by simp [anyIn, lin]
  rcases h with ⟨n, rfl, _, _, _, h1, h2, h3, h4⟩ | ⟨_, h | h | h | ⟨_, h⟩⟩
  · refine ⟨?_, hb⟩
    have : n = 10070 := by
      rw [l] at h3
      have h3' := of_decide_eq_true h3
      have h5 : ¬ 10070 < n := fun hlt => by
        have := h4 10070 (by omega) hlt
        rw [l] at this
        exact absurd (of_decide_eq_false this) (by omega)
      omega
    rw [this]
  · omega
  · omega
  · exact absurd (show chk [(10070, 10)] = 0 by decide) h
  · have := h 10070 (by omega) (by omega)
    rw [l] at this
    exact absurd (of_decide_eq_false this) (by omega)
theorem ex_none {w w' : World} {e : Ending} (h : NextIs [] 20 w e w') : e = .returned (.tuple #[.int .i64 0, .bool false]) ∧ Below w.heap.size w w' := by
  obtain ⟨hb, h⟩ := h
  rcases h with ⟨n, rfl, _, _, _, h1, h2, h3, h4⟩ | ⟨h, _⟩
  · simp [anyIn] at h3
  · exact ⟨h, hb⟩
set_option maxRecDepth 100000 in
set_option maxHeartbeats 2000000 in
theorem awake_any (w : World) : Calls Try.prog 5 #[] w fun e w' => e = .returned (.bool true) ∧ Below w.heap.size w w' := by
  go_enter Try.func5, Try.ntmps5
  go_wp2_with fail
  refine (next_any _ [(10070, 10)] 1 20 _ (Ps.new w 10070 10)).mono ?_
  rintro e w1 h1
  obtain ⟨rfl, hb1⟩ := ex_next h1
  clear h1
  have HP1 := Lib.hid ((Ps.new w 10070 10).keep hb1)
  have hz1 := kept_lt hb1
  go_wp2_with fail
  refine (next_any _ [] 0 20 _ (Ps.nil _ _)).mono ?_
  rintro e w2 h2
  obtain ⟨rfl, hb2⟩ := ex_none h2
  clear h2
  have HP2 := Lib.hid (HP1.out.keep hb2)
  go_wp2_with fail
  refine (In_any _ [(10070, 10)] 1 5 _ HP2.out).mono ?_
  rintro e w3 ⟨rfl, hb3⟩
  rw [show some_ [(10070, 10)] 5 = true by decide]
  have HP3 := Lib.hid (HP2.out.keep hb3)
  go_wp2_with fail
  refine (In_any _ [(10070, 10)] 1 (-1) _ HP3.out).mono ?_
  rintro e w4 ⟨rfl, hb4⟩
  rw [show some_ [(10070, 10)] (-1) = true by decide]
  have HP4 := Lib.hid (HP3.out.keep hb4)
  go_wp2_with fail
  refine (In_any _ [(10070, 10)] 1 10 _ HP4.out).mono ?_
  rintro e w5 ⟨rfl, hb5⟩
  rw [show some_ [(10070, 10)] 10 = false by decide]
  go_wp2_with fail
  refine (check_any _ [(0, 10080)] 1 _ (Ps.new w5 0 10080)).mono ?_
  rintro e w6 ⟨rfl, hb6⟩
  rw [show chk [(0, 10080)] = 2 by decide]
  go_wp2_with fail
  refine (In_any _ [(7, 7)] 1 3 _ (Ps.new w6 7 7)).mono ?_
  rintro e w7 ⟨rfl, hb7⟩
  rw [show some_ [(7, 7)] 3 = true by decide]
  go_wp2_with fail
  go_ret
  exact ⟨rfl, below_step (below_step (below_step (below_step (below_step (below_step (below_alloc hb1) (Nat.le_refl _) hb2) (Nat.le_refl _) hb3) (Nat.le_refl _) hb4) (Nat.le_refl _) hb5) (Nat.le_refl _) (below_alloc hb6)) (Nat.le_refl _) (below_alloc hb7)⟩
set_option maxHeartbeats 1000000 in
theorem in_walk (a : Option Addr) (ps : List (Int × Int)) (cap : Nat) (n : Int) (w : World) (hp : Ps w a ps) :
    Calls Try.prog 3 #[.slice a ps.length cap, .int .i64 n] w fun e w' => e = .returned (.bool true) ∧ Below w.heap.size w w' := by
  have HP := Lib.hid hp; clear hp
  by_cases hl : 80 < ps.length
  · go_enter Try.func3, Try.ntmps3
    go_wp2_with fail
    refine (awake_any _).mono ?_
    rintro e w1 ⟨rfl, hb1⟩
    go_wp2_with fail
    go_ret
    exact ⟨rfl, hb1⟩
  · go_enter Try.func3, Try.ntmps3
    go_wp2_with fail
    refine (check_any _ _ _ _ HP.out).mono ?_
    rintro e w1 ⟨rfl, hb1⟩
    have HP1 := Lib.hid (HP.out.keep hb1)
    go_wp2_with fail
    refine (check2_any _ _ _ _ HP1.out).mono ?_
    rintro e w1' ⟨rfl, rfl⟩
    go_wp2_with fail
    refine (In_any _ _ _ _ _ HP1.out).mono ?_
    rintro e w2 ⟨rfl, hb2⟩
    have HP2 := Lib.hid (HP1.out.keep hb2)
    go_wp2_with fail
    refine (some_any _ _ _ _ _ HP2.out (by omega)).mono ?_
    rintro e w3 ⟨rfl, hb3⟩
    go_wp2_with fail
    refine (awake_any _).mono ?_
    rintro e w4 ⟨rfl, hb4⟩
    go_wp2_with fail
    go_ret
    exact ⟨rfl, below_cons (below_cons (below_cons hb1 hb2) hb3) hb4⟩
end Go.Proofs.Ytnfkhofcmjpfcaa
