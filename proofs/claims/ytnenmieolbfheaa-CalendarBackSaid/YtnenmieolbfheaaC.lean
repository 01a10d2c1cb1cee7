/-
  The contract of the reference's Days: a date's day by counting the months, or the error.
-/
import Derived.Test.YtnenmieolbfheaaB
namespace Go.Proofs.Ytnenmieolbfheaa
open Go.RowKit
theorem dim_st (y k : Int) (h0 : 3 ≤ k) (h1 : k ≤ 12) : dim y k = st (k - 2) - st (k - 3) := by
  obtain rfl | rfl | rfl | rfl | rfl | rfl | rfl | rfl | rfl | rfl : k = 3 ∨ k = 4 ∨ k = 5 ∨ k = 6 ∨ k = 7 ∨ k = 8 ∨ k = 9 ∨ k = 10 ∨ k = 11 ∨ k = 12 := by omega
  all_goals rfl
set_option maxHeartbeats 1000000 in
theorem refDays_no (y m d : Int) (w : World) (h : okD y m d = false) : Calls Try.prog 6 #[.int .i64 y, .int .i64 m, .int .i64 d] w fun e w' => e = .returned (.tuple #[.int .i64 0, .int .i64 2]) ∧ w = w' := by
  have h' : ¬ (0 ≤ y ∧ y ≤ 9999 ∧ 1 ≤ m ∧ m ≤ 12 ∧ 1 ≤ d ∧ d ≤ dim y m ∧ ¬ (y = 0 ∧ m < 3)) := fun k => by rw [ok_true k] at h; cases h
  clear h
  by_cases a : y < 0
  · clear h'
    go_enter Try.func6, Try.ntmps6
    go_wp2
    go_ret2
    exact ⟨rfl, rfl⟩
  by_cases b : 9999 < y
  · clear h'
    go_enter Try.func6, Try.ntmps6
    go_wp2
    go_ret2
    exact ⟨rfl, rfl⟩
  by_cases c : m < 1
  · clear h'
    go_enter Try.func6, Try.ntmps6
    go_wp2
    go_ret2
    exact ⟨rfl, rfl⟩
  by_cases e : 12 < m
  · clear h'
    go_enter Try.func6, Try.ntmps6
    go_wp2
    go_ret2
    exact ⟨rfl, rfl⟩
  by_cases f : d < 1
  · clear h'
    go_enter Try.func6, Try.ntmps6
    go_wp2
    go_ret2
    exact ⟨rfl, rfl⟩
  have HD := last_any y m w (by omega) (by omega)
  generalize dim y m = D at h' HD
  have HH := Lib.hid HD; clear HD
  by_cases g : D < d
  · clear h'
    go_enter Try.func6, Try.ntmps6
    go_wp2_with (go_at_call 14; refine (HH.out).mono ?_; rintro e w1 ⟨rfl, rfl⟩)
    go_ret2
    exact ⟨rfl, rfl⟩
  · have k : y = 0 ∧ m < 3 := by omega
    obtain ⟨rfl, k2⟩ := k
    clear h'
    go_enter Try.func6, Try.ntmps6
    go_wp2_with (go_at_call 14; refine (HH.out).mono ?_; rintro e w1 ⟨rfl, rfl⟩)
    go_ret2
    exact ⟨rfl, rfl⟩
set_option maxHeartbeats 1000000 in
theorem refDays_ok (y m d : Int) (w : World) (h : okD y m d = true) : Calls Try.prog 6 #[.int .i64 y, .int .i64 m, .int .i64 d] w fun e w' => e = .returned (.tuple #[.int .i64 (num y m d), .int .i64 0]) ∧ w = w' := by
  obtain ⟨h0, h1, m0, m1, d0, d1, hz⟩ := ok_iff.1 h
  clear h
  have hd := dim_bd y m
  have HH := Lib.hid (last_any y m w h0 (by omega))
  have d2 : d ≤ 31 := by omega
  by_cases hm : m < 3
  · have hy1 : 1 ≤ y := by omega
    have HN : Hid (num y m d = yr (y - 1) + st ((m + 9) % 12) + d - 1) := Lib.hid (by unfold num; rw [if_pos hm])
    clear hz
    generalize dim y m = D at *
    go_enter Try.func6, Try.ntmps6
    go_wp2_with (go_at_call 14; refine (HH.out).mono ?_; rintro e w1 ⟨rfl, rfl⟩)
    go_loop [8, 9] (fun n i => i = .int .i64 3 ∧ n = .int .i64 (d - 1)) (fun _ _ => 0)
    case atStart => exact ⟨rfl, rfl⟩
    case round =>
      obtain ⟨rfl, rfl⟩ := hrel
      go_wp2
      go_loop [8, 10] (fun n i => ∃ k : Int, 3 ≤ k ∧ k ≤ 13 ∧ i = .int .i64 k ∧ n = .int .i64 (d - 1 + st (k - 3))) (fun _ i => (13 - intOf i).toNat)
      case atStart => exact ⟨3, by omega, by omega, rfl, vint (by simp [st])⟩
      case round =>
        obtain ⟨k, k0, k1, rfl, rfl⟩ := hrel
        have hs := st_bd (k - 3)
        by_cases hk : k ≤ 12
        · have HS := Lib.hid (dim_st (y - 1) k k0 hk)
          have hdk := dim_bd (y - 1) k
          generalize dim (y - 1) k = E at *
          have HL := HS.out
          generalize hX : st (k - 3) = X at *
          have HX := Lib.hid hX; clear hX
          have HV : Hid (Calls Try.prog 14 #[.int .i64 (y - 1), .int .i64 k] w fun e w' => e = .returned (.int .i64 (st (k - 2) - X)) ∧ w = w') := Lib.hid (by
            have := last_any (y - 1) k w (by omega) (by omega)
            rw [dim_st (y - 1) k k0 hk, HX.out] at this
            exact this)
          clear HL
          have hs2 := st_bd (k - 2)
          generalize hY : st (k - 2) = Y at *
          have HY := Lib.hid hY; clear hY
          go_wp2_with (go_at_call 14; refine (HV.out).mono ?_; rintro e w1 ⟨rfl, rfl⟩)
          go_round
          case rel => exact ⟨k + 1, by omega, by omega, rfl, vint (by rw [show k + 1 - 3 = k - 2 by omega, HY.out]; omega)⟩
          case measure => simp [intOf]; omega
        · obtain rfl : k = 13 := by omega
          have HX : Hid (st (13 - 3) = 306) := Lib.hid rfl
          rw [HX.out] at hs ⊢
          obtain rfl | rfl : m = 1 ∨ m = 2 := by omega
          all_goals
            go_wp2
            go_ret2
            exact ⟨ret2 (by rw [HN.out]; unfold yr; simp [st]; omega) rfl, rfl⟩
  · have HN : Hid (num y m d = yr y + st ((m + 9) % 12) + d - 1) := Lib.hid (by unfold num; rw [if_neg hm])
    clear hz
    generalize dim y m = D at *
    have hy0 : (y == 0) = false ∨ (y == 0) = true := by cases (y == 0) <;> simp
    rcases hy0 with hy0 | hy0
    all_goals
      go_enter Try.func6, Try.ntmps6
      go_wp2_with (go_at_call 14; refine (HH.out).mono ?_; rintro e w1 ⟨rfl, rfl⟩)
      go_loop [8, 9] (fun n i => ∃ k : Int, 3 ≤ k ∧ k ≤ m ∧ i = .int .i64 k ∧ n = .int .i64 (d - 1 + st (k - 3))) (fun _ i => (13 - intOf i).toNat)
      case atStart => exact ⟨3, by omega, by omega, rfl, vint (by simp [st])⟩
      case round =>
        obtain ⟨k, k0, k1, rfl, rfl⟩ := hrel
        have hs := st_bd (k - 3)
        by_cases hk : k < m
        · generalize hX : st (k - 3) = X at *
          have HX := Lib.hid hX; clear hX
          have HV : Hid (Calls Try.prog 14 #[.int .i64 y, .int .i64 k] w fun e w' => e = .returned (.int .i64 (st (k - 2) - X)) ∧ w = w') := Lib.hid (by
            have := last_any y k w (by omega) (by omega)
            rw [dim_st y k k0 (by omega), HX.out] at this
            exact this)
          have hs2 := st_bd (k - 2)
          generalize hY : st (k - 2) = Y at *
          have HY := Lib.hid hY; clear hY
          have hE : Hid (True) := Lib.hid trivial
          go_wp2_with (go_at_call 14; refine (HV.out).mono ?_; rintro e w1 ⟨rfl, rfl⟩)
          go_round
          case rel => exact ⟨k + 1, by omega, by omega, rfl, vint (by rw [show k + 1 - 3 = k - 2 by omega, HY.out]; omega)⟩
          case measure => simp [intOf]; omega
        · obtain rfl : k = m := by omega
          have HK : Hid (st ((k + 9) % 12) = st (k - 3)) := Lib.hid (by congr 1; omega)
          generalize hX : st (k - 3) = X at *
          have HX := Lib.hid hX; clear hX
          go_wp2
          go_ret2
          exact ⟨ret2 (by rw [HN.out, HK.out]; unfold yr; omega) rfl, rfl⟩
end Go.Proofs.Ytnenmieolbfheaa
