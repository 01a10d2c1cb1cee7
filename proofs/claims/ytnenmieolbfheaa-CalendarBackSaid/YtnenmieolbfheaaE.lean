/-
  The contract of the reference's Date: a day's date by search, or the error.
-/
import Derived.Test.YtnenmieolbfheaaD
namespace Go.Proofs.Ytnenmieolbfheaa
open Go.RowKit
theorem yr_up (y : Int) (h0 : 0 ≤ y) : yr y ≤ 366 * y := by unfold yr; omega
theorem num_march (y : Int) : num y 3 1 = yr y := by unfold num; simp [st]
theorem ok_march (y : Int) (h0 : 0 ≤ y) (h1 : y ≤ 9999) : okD y 3 1 = true := ok_true ⟨h0, h1, by omega, by omega, by omega, by have := dim_bd y 3; omega, by omega⟩
theorem no_march (y : Int) (h1 : 9999 < y) : okD y 3 1 = false := by
  cases h : okD y 3 1 with
  | false => rfl
  | true => have := ok_iff.1 h; omega
theorem march_any (y : Int) (w : World) (h0 : 0 ≤ y) (h1 : y ≤ 9999) : Calls Try.prog 6 #[.int .i64 y, .int .i64 3, .int .i64 1] w fun e w' => e = .returned (.tuple #[.int .i64 (yr y), .int .i64 0]) ∧ w = w' := by
  have := refDays_ok y 3 1 w (ok_march y h0 h1)
  rw [num_march] at this
  exact this
theorem top_any (w : World) : Calls Try.prog 6 #[.int .i64 9999, .int .i64 12, .int .i64 31] w fun e w' => e = .returned (.tuple #[.int .i64 3652364, .int .i64 0]) ∧ w = w' :=
  refDays_ok 9999 12 31 w (by decide)
theorem refDate_no (n : Int) (w : World) (h : n < 0 ∨ 3652364 < n) : Calls Try.prog 8 #[.int .i64 n] w fun e w' => e = .returned (.tuple #[.agg #[.int .i64 0, .int .i64 0, .int .i64 0], .int .i64 2]) ∧ Below w.heap.size w w' := by
  rcases h with h | h
  all_goals
    have h' : n < 0 ∨ 0 ≤ n := by omega
    rcases h' with h' | h'
    all_goals try (exfalso; omega)
    all_goals
      go_enter Try.func8, Try.ntmps8
      go_wp2_with (go_at_call 6; refine (top_any _).mono ?_; rintro e w1 ⟨rfl, rfl⟩)
      refine bodyPost_ret (v := .tuple #[.agg #[.int .i64 0, .int .i64 0, .int .i64 0], .int .i64 2]) (by simp [results, Try.results8, go_sem]) rfl ⟨rfl, ?_⟩
      exact (Below.refl _ _).alloc (Nat.le_refl _) _
/-- The days of the month that stands k behind March. -/
theorem dim_k (y k : Int) (h0 : 0 ≤ k) (h1 : k ≤ 11) : dim (if 10 ≤ k then y + 1 else y) ((k + 2) % 12 + 1) = if k = 11 then (if lpB (y + 1) = true then 29 else 28) else st (k + 1) - st k := by
  obtain rfl | rfl | rfl | rfl | rfl | rfl | rfl | rfl | rfl | rfl | rfl | rfl : k = 0 ∨ k = 1 ∨ k = 2 ∨ k = 3 ∨ k = 4 ∨ k = 5 ∨ k = 6 ∨ k = 7 ∨ k = 8 ∨ k = 9 ∨ k = 10 ∨ k = 11 := by omega
  all_goals rfl
set_option maxHeartbeats 2000000 in
theorem refDate_ok (n : Int) (w : World) (h0 : 0 ≤ n) (h1 : n ≤ 3652364) : Calls Try.prog 8 #[.int .i64 n] w fun e w' => e = .returned (.tuple #[.agg #[.int .i64 (dY n), .int .i64 (dM n), .int .i64 (dD n)], .int .i64 0]) ∧ Below w.heap.size w w' := by
  obtain ⟨cy0, cy1, cr0, cr1, hsum, hnext⟩ := cy_spec n h0 h1
  have hmb := mi_bd (cr n)
  have hml := mi_low (cr n) cr0
  have HMS := Lib.hid (mi_spec (cr n) cr0 cr1)
  have HY : Hid (dY n = if 10 ≤ mi (cr n) then cy n + 1 else cy n) := Lib.hid rfl
  have HM : Hid (dM n = (mi (cr n) + 2) % 12 + 1) := Lib.hid rfl
  have HDd : Hid (dD n = cr n - st (mi (cr n)) + 1) := Lib.hid rfl
  generalize cr n = r at *
  generalize cy n = y at *
  generalize hK : mi r = K at *
  clear hK
  have hyb := yr_bd y cy0 (by omega)
  have HSUM := Lib.hid hsum
  have hup := yr_up (y + 1) (by omega)
  have hstart : n / 366 ≤ y := by omega
  clear hsum hup
  go_enter Try.func8, Try.ntmps8
  go_wp2_with (go_at_call 6; refine (top_any _).mono ?_; rintro e w1 ⟨rfl, rfl⟩)
  go_loop [6, 7, 8] (fun a _ _ => ∃ x : Int, 0 ≤ x ∧ x ≤ y ∧ a = .int .i64 x) (fun a _ _ => (y - intOf a).toNat)
  case atStart => exact ⟨_, by omega, hstart, rfl⟩
  case round =>
    obtain ⟨x, x0, x1, rfl⟩ := hrel
    clear hstart
    by_cases hx : x < y
    · have hle := yr_le (x + 1) y (by omega) (by omega)
      have hxb := yr_bd (x + 1) (by omega) (by omega)
      have hs := HSUM.out
      have hle2 : yr (x + 1) ≤ n := by omega
      have HC : Hid (∀ w, Calls Try.prog 6 #[.int .i64 (x + 1), .int .i64 3, .int .i64 1] w fun e w' => e = .returned (.tuple #[.int .i64 (yr (x + 1)), .int .i64 0]) ∧ w = w') := Lib.hid (fun w => march_any (x + 1) w (by omega) (by omega))
      clear hs hle
      generalize yr (x + 1) = V at *
      go_wp2_with (go_at_call 6; refine (HC.out _).mono ?_; rintro e w1 ⟨rfl, rfl⟩)
      go_round
      case rel => exact ⟨x + 1, by omega, by omega, rfl⟩
      case measure => simp [intOf]; omega
    · obtain rfl : x = y := by omega
      have HC2 : Hid (∀ w, Calls Try.prog 6 #[.int .i64 x, .int .i64 3, .int .i64 1] w fun e w' => e = .returned (.tuple #[.int .i64 (yr x), .int .i64 0]) ∧ w = w') := Lib.hid (fun w => march_any x w cy0 cy1)
      have HNX := Lib.hid hnext
      clear hnext
      generalize hYR : yr x = YR at *
      have HYR := Lib.hid hYR; clear hYR
      by_cases h9 : x = 9999
      · have HC1 : Hid (∀ w, Calls Try.prog 6 #[.int .i64 (x + 1), .int .i64 3, .int .i64 1] w fun e w' => e = .returned (.tuple #[.int .i64 0, .int .i64 2]) ∧ w = w') := Lib.hid (fun w => refDays_no _ _ _ w (no_march _ (by omega)))
        have H9 := Lib.hid h9; clear h9
        go_wp2_with fail
        refine (HC1.out _).mono ?_
        rintro e w1 ⟨rfl, rfl⟩
        go_wp2_with fail
        refine (HC2.out _).mono ?_
        rintro e w1 ⟨rfl, rfl⟩
        go_wp2_with fail
        go_loop [11, 12, 13, 14] (fun l m _ _ => ∃ k : Int, 0 ≤ k ∧ k ≤ K ∧ m = .int .i64 (k + 3) ∧ l = .int .i64 (r - st k)) (fun _ m _ _ => (15 - intOf m).toNat)
        case atStart => exact ⟨0, by omega, by omega, rfl, vint (by have := HSUM.out; simp [st]; omega)⟩
        case round =>
          obtain ⟨k, k0, k1, rfl, rfl⟩ := hrel
          have hs := st_bd k
          obtain ⟨hA, hB⟩ := HMS.out k
          have HD := Lib.hid (dim_k x k k0 (by omega))
          have hdb := dim_bd (if 10 ≤ k then x + 1 else x) ((k + 2) % 12 + 1)
          have HL : Hid (∀ w, Calls Try.prog 14 #[.int .i64 (if 10 ≤ k then x + 1 else x), .int .i64 ((k + 2) % 12 + 1)] w fun e w' => e = .returned (.int .i64 (dim (if 10 ≤ k then x + 1 else x) ((k + 2) % 12 + 1))) ∧ w = w') := Lib.hid (fun w => last_any _ _ w (by split <;> omega) (by split <;> omega))
          generalize hE : dim (if 10 ≤ k then x + 1 else x) ((k + 2) % 12 + 1) = E at *
          clear hE
          by_cases hk : k < K
          · have hA' := hA hk
            have hE : E = st (k + 1) - st k := by rw [HD.out, if_neg (by omega)]
            have hlow : E ≤ r - st k := by omega
            have HE := Lib.hid hE
            clear hA hB hE hA'
            generalize hS : st k = S at *
            have HS := Lib.hid hS; clear hS
            by_cases hk10 : 10 ≤ k
            · obtain rfl : k = 10 := by omega
              rw [if_pos (by omega)] at HL
              go_wp2_with (go_at_call 14; refine (HL.out _).mono ?_; rintro e w1 ⟨rfl, rfl⟩)
              go_round
              case rel => exact ⟨11, by omega, by omega, rfl, vint (by have := HE.out; have e : st (10 + 1) = st 11 := rfl; rw [e] at this; omega)⟩
              case measure => simp [intOf]
            · rw [if_neg hk10, show (k + 2) % 12 + 1 = k + 3 by omega] at HL
              go_wp2_with (go_at_call 14; refine (HL.out _).mono ?_; rintro e w1 ⟨rfl, rfl⟩)
              go_round
              case rel => exact ⟨k + 1, by omega, by omega, by go_num, vint (by have := HE.out; omega)⟩
              case measure => simp [intOf]; omega
          · obtain rfl : k = K := by omega
            have hB' := hB (Int.le_refl _)
            have hlow : r - st k < E := by
              have h1 := HD.out
              by_cases h11 : k = 11
              · rw [if_pos h11] at h1
                have h2 := yr_succ x (by omega)
                rw [HYR.out] at h2
                have hnext := HNX.out
                have h3 := HSUM.out
                have h4 : st k = 337 := by rw [h11]; rfl
                by_cases h5 : lpB (x + 1) = true
                · rw [if_pos h5] at h1 h2; omega
                · rw [if_neg h5] at h1 h2; omega
              · rw [if_neg h11] at h1; omega
            clear hA hB hB'
            generalize hS : st k = S at *
            have HS := Lib.hid hS; clear hS
            by_cases hk10 : 10 ≤ k
            · rw [if_pos hk10] at HL
              have HY' : Hid (dY n = x + 1) := Lib.hid (by rw [HY.out, if_pos hk10])
              have hk11 : k = 10 ∨ k = 11 := by omega
              rcases hk11 with rfl | rfl
              all_goals
                go_wp2_with (go_at_call 14; refine (HL.out _).mono ?_; rintro e w1 ⟨rfl, rfl⟩)
                refine bodyPost_ret (v := .tuple #[.agg #[.int .i64 (dY n), .int .i64 (dM n), .int .i64 (dD n)], .int .i64 0]) ?_ rfl ⟨rfl, ?_⟩
                · rw [HY'.out, HM.out, HDd.out]
                  simp [results, Try.results8, go_sem]
                · exact (Below.refl _ _).alloc (Nat.le_refl _) _
            · rw [if_neg hk10, show (k + 2) % 12 + 1 = k + 3 by omega] at HL
              have HY' : Hid (dY n = x) := Lib.hid (by rw [HY.out, if_neg hk10])
              have HM' : Hid (dM n = k + 3) := Lib.hid (by rw [HM.out]; omega)
              go_wp2_with (go_at_call 14; refine (HL.out _).mono ?_; rintro e w1 ⟨rfl, rfl⟩)
              refine bodyPost_ret (v := .tuple #[.agg #[.int .i64 (dY n), .int .i64 (dM n), .int .i64 (dD n)], .int .i64 0]) ?_ rfl ⟨rfl, ?_⟩
              · rw [HY'.out, HM'.out, HDd.out]
                simp [results, Try.results8, go_sem]
              · exact (Below.refl _ _).alloc (Nat.le_refl _) _
      · have HC1 : Hid (∀ w, Calls Try.prog 6 #[.int .i64 (x + 1), .int .i64 3, .int .i64 1] w fun e w' => e = .returned (.tuple #[.int .i64 (yr (x + 1)), .int .i64 0]) ∧ w = w') := Lib.hid (fun w => march_any (x + 1) w (by omega) (by omega))
        have hgt := HNX.out
        have hb2 := yr_bd (x + 1) (by omega) (by omega)
        generalize hV : yr (x + 1) = V at HC1 hgt hb2
        have HV := Lib.hid hV; clear hV
        go_wp2_with fail
        refine (HC1.out _).mono ?_
        rintro e w1 ⟨rfl, rfl⟩
        go_wp2_with fail
        refine (HC2.out _).mono ?_
        rintro e w1 ⟨rfl, rfl⟩
        go_wp2_with fail
        go_loop [11, 12, 13, 14] (fun l m _ _ => ∃ k : Int, 0 ≤ k ∧ k ≤ K ∧ m = .int .i64 (k + 3) ∧ l = .int .i64 (r - st k)) (fun _ m _ _ => (15 - intOf m).toNat)
        case atStart => exact ⟨0, by omega, by omega, rfl, vint (by have := HSUM.out; simp [st]; omega)⟩
        case round =>
          obtain ⟨k, k0, k1, rfl, rfl⟩ := hrel
          have hs := st_bd k
          obtain ⟨hA, hB⟩ := HMS.out k
          have HD := Lib.hid (dim_k x k k0 (by omega))
          have hdb := dim_bd (if 10 ≤ k then x + 1 else x) ((k + 2) % 12 + 1)
          have HL : Hid (∀ w, Calls Try.prog 14 #[.int .i64 (if 10 ≤ k then x + 1 else x), .int .i64 ((k + 2) % 12 + 1)] w fun e w' => e = .returned (.int .i64 (dim (if 10 ≤ k then x + 1 else x) ((k + 2) % 12 + 1))) ∧ w = w') := Lib.hid (fun w => last_any _ _ w (by split <;> omega) (by split <;> omega))
          generalize hE : dim (if 10 ≤ k then x + 1 else x) ((k + 2) % 12 + 1) = E at *
          clear hE
          by_cases hk : k < K
          · have hA' := hA hk
            have hE : E = st (k + 1) - st k := by rw [HD.out, if_neg (by omega)]
            have hlow : E ≤ r - st k := by omega
            have HE := Lib.hid hE
            clear hA hB hE hA'
            generalize hS : st k = S at *
            have HS := Lib.hid hS; clear hS
            by_cases hk10 : 10 ≤ k
            · obtain rfl : k = 10 := by omega
              rw [if_pos (by omega)] at HL
              go_wp2_with (go_at_call 14; refine (HL.out _).mono ?_; rintro e w1 ⟨rfl, rfl⟩)
              go_round
              case rel => exact ⟨11, by omega, by omega, rfl, vint (by have := HE.out; have e : st (10 + 1) = st 11 := rfl; rw [e] at this; omega)⟩
              case measure => simp [intOf]
            · rw [if_neg hk10, show (k + 2) % 12 + 1 = k + 3 by omega] at HL
              go_wp2_with (go_at_call 14; refine (HL.out _).mono ?_; rintro e w1 ⟨rfl, rfl⟩)
              go_round
              case rel => exact ⟨k + 1, by omega, by omega, by go_num, vint (by have := HE.out; omega)⟩
              case measure => simp [intOf]; omega
          · obtain rfl : k = K := by omega
            have hB' := hB (Int.le_refl _)
            have hlow : r - st k < E := by
              have h1 := HD.out
              by_cases h11 : k = 11
              · rw [if_pos h11] at h1
                have h2 := yr_succ x (by omega)
                rw [HYR.out] at h2
                have hnext := HNX.out
                have h3 := HSUM.out
                have h4 : st k = 337 := by rw [h11]; rfl
                by_cases h5 : lpB (x + 1) = true
                · rw [if_pos h5] at h1 h2; omega
                · rw [if_neg h5] at h1 h2; omega
              · rw [if_neg h11] at h1; omega
            clear hA hB hB'
            generalize hS : st k = S at *
            have HS := Lib.hid hS; clear hS
            by_cases hk10 : 10 ≤ k
            · rw [if_pos hk10] at HL
              have HY' : Hid (dY n = x + 1) := Lib.hid (by rw [HY.out, if_pos hk10])
              have hk11 : k = 10 ∨ k = 11 := by omega
              rcases hk11 with rfl | rfl
              all_goals
                go_wp2_with (go_at_call 14; refine (HL.out _).mono ?_; rintro e w1 ⟨rfl, rfl⟩)
                refine bodyPost_ret (v := .tuple #[.agg #[.int .i64 (dY n), .int .i64 (dM n), .int .i64 (dD n)], .int .i64 0]) ?_ rfl ⟨rfl, ?_⟩
                · rw [HY'.out, HM.out, HDd.out]
                  simp [results, Try.results8, go_sem]
                · exact (Below.refl _ _).alloc (Nat.le_refl _) _
            · rw [if_neg hk10, show (k + 2) % 12 + 1 = k + 3 by omega] at HL
              have HY' : Hid (dY n = x) := Lib.hid (by rw [HY.out, if_neg hk10])
              have HM' : Hid (dM n = k + 3) := Lib.hid (by rw [HM.out]; omega)
              go_wp2_with (go_at_call 14; refine (HL.out _).mono ?_; rintro e w1 ⟨rfl, rfl⟩)
              refine bodyPost_ret (v := .tuple #[.agg #[.int .i64 (dY n), .int .i64 (dM n), .int .i64 (dD n)], .int .i64 0]) ?_ rfl ⟨rfl, ?_⟩
              · rw [HY'.out, HM'.out, HDd.out]
                simp [results, Try.results8, go_sem]
              · exact (Below.refl _ _).alloc (Nat.le_refl _) _
end Go.Proofs.Ytnenmieolbfheaa
