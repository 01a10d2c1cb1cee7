/-
  The walks of HexaPuts, HexaBack.
-/
import Derived.Test.YtjaeligooopbcaaX1
set_option linter.unusedVariables false
set_option linter.unusedSimpArgs false
namespace Go.Proofs.Ytjaeligooopbcaa
open Go.RowKit
theorem puts_walk (s t : ByteArray) (w : World) (w0 : s.size ≤ 140737488351232) (w1 : t.size ≤ 140737488351232) : Calls Try.prog 3 #[.string s, .string t] w fun e w' => e = .returned (.bool true) ∧ Below w.heap.size w w' := by
  by_cases hb : 2000 < s.size ∨ 2000 < t.size
  · by_cases hb1 : 2000 < s.size
    · have d1 : (2000 : Int) < (s.size : Int) := by omega
      go_enter Try.func3, Try.ntmps3
      go_wp2_with fail
      refine (awake_any _).mono ?_
      rintro e w1 ⟨rfl, hb1⟩
      go_wp2
      go_ret
      exact ⟨rfl, hb1⟩
    · have d1 : ¬ (2000 : Int) < (s.size : Int) := by omega
      have d2 : (2000 : Int) < (t.size : Int) := by omega
      go_enter Try.func3, Try.ntmps3
      go_wp2_with fail
      refine (awake_any _).mono ?_
      rintro e w1 ⟨rfl, hb1⟩
      go_wp2
      go_ret
      exact ⟨rfl, hb1⟩
  · have d1 : ¬ (2000 : Int) < (s.size : Int) := by omega
    have d2 : ¬ (2000 : Int) < (t.size : Int) := by omega
    have R1 : Hid (∀ w, Calls Try.prog 7 #[.string t] w fun e w' => e = readE t ∧ Below w.heap.size w w') := Lib.hid (fun w => read_any t w (by omega))
    have R2 : Hid (∀ w, Calls Try.prog 8 #[.string t] w fun e w' => e = readE t ∧ Below w.heap.size w w') := Lib.hid (fun w => rread_any t w (by omega))
    have R3 : Hid (∀ w, Calls Try.prog 9 #[.string s] w fun e w' => e = .returned (.string (putV s)) ∧ Below w.heap.size w w') := Lib.hid (fun w => put_any s w (by omega))
    have R4 : Hid (∀ w, Calls Try.prog 10 #[.string s] w fun e w' => e = .returned (.string (putV s)) ∧ Below w.heap.size w w') := Lib.hid (fun w => rput_any s w (by omega))
    have R5 : Hid (∀ w, Calls Try.prog 11 #[.string s] w fun e w' => e = .returned (.string (idV s)) ∧ Below w.heap.size w w') := Lib.hid (fun w => id_any s w (by omega))
    have R6 : Hid (∀ w, Calls Try.prog 12 #[.string s] w fun e w' => e = .returned (.string (idV s)) ∧ Below w.heap.size w w') := Lib.hid (fun w => rid_any s w (by omega))
    have R7 : Hid (∀ w, Calls Try.prog 13 #[.string t] w fun e w' => e = .returned (.int .i64 (checkX t)) ∧ Below w.heap.size w w') := Lib.hid (fun w => check_any t w (by omega))
    have R8 : Hid (∀ w, Calls Try.prog 14 #[.string t] w fun e w' => e = .returned (.int .i64 (checkX t)) ∧ Below w.heap.size w w') := Lib.hid (fun w => rcheck_any t w (by omega))
    unfold readE at R1 R2
    obtain ⟨A, hA⟩ : ∃ A, A = (readX t).1 := ⟨_, rfl⟩
    obtain ⟨B, hB⟩ : ∃ B, B = (readX t).2 := ⟨_, rfl⟩
    obtain ⟨C, hC⟩ : ∃ C, C = putV s := ⟨_, rfl⟩
    obtain ⟨D, hD⟩ : ∃ D, D = idV s := ⟨_, rfl⟩
    obtain ⟨E, hE⟩ : ∃ E, E = checkX t := ⟨_, rfl⟩
    rw [← hA, ← hB] at R1 R2
    rw [← hC] at R3 R4
    rw [← hD] at R5 R6
    rw [← hE] at R7 R8
    clear hA hB hC hD hE
    have e1 := str_eq (X := A) rfl
    have e2 := str_eq (X := C) rfl
    have e3 := str_eq (X := D) rfl
    go_enter Try.func3, Try.ntmps3
    go_wp2_with fail
    refine (R1.out _).mono ?_
    rintro e w1 ⟨rfl, hb1⟩
    go_wp2_with fail
    refine (R2.out _).mono ?_
    rintro e w2 ⟨rfl, hb2⟩
    have HB2 := Lib.hid (below_step hb1 (Nat.le_refl _) hb2)
    clear hb1 hb2
    go_wp2_with fail
    refine (R3.out _).mono ?_
    rintro e w3 ⟨rfl, hb3⟩
    have HB3 := Lib.hid (below_step HB2.out (Nat.le_refl _) hb3)
    clear hb3
    go_wp2_with fail
    refine (R4.out _).mono ?_
    rintro e w4 ⟨rfl, hb4⟩
    have HB4 := Lib.hid (below_step HB3.out (Nat.le_refl _) hb4)
    clear hb4
    go_wp2_with fail
    refine (R5.out _).mono ?_
    rintro e w5 ⟨rfl, hb5⟩
    have HB5 := Lib.hid (below_step HB4.out (Nat.le_refl _) hb5)
    clear hb5
    go_wp2_with fail
    refine (R6.out _).mono ?_
    rintro e w6 ⟨rfl, hb6⟩
    have HB6 := Lib.hid (below_step HB5.out (Nat.le_refl _) hb6)
    clear hb6
    go_wp2_with fail
    refine (R7.out _).mono ?_
    rintro e w7 ⟨rfl, hb7⟩
    have HB7 := Lib.hid (below_step HB6.out (Nat.le_refl _) hb7)
    clear hb7
    go_wp2_with fail
    refine (R8.out _).mono ?_
    rintro e w8 ⟨rfl, hb8⟩
    have HB8 := Lib.hid (below_step HB7.out (Nat.le_refl _) hb8)
    clear hb8
    go_wp2_with fail
    refine (awake_any _).mono ?_
    rintro e w9 ⟨rfl, hb9⟩
    have HB9 := Lib.hid (below_step HB8.out (Nat.le_refl _) hb9)
    clear hb9
    go_wp2
    go_ret
    exact ⟨rfl, HB9.out⟩
theorem read_put (s : ByteArray) : readX (putV s) = (s, 0) := by
  have h : readL (byB (putV s)) = some (byB s) := by rw [byB_putV, readL_put _ (byB_byte _)]
  rw [readX_ok h, txB_byB]
theorem put_read (t : ByteArray) : (readX t).2 = 5 ∨ ((readX t).2 = 0 ∧ putV (readX t).1 = t ∧ (readX t).1.size ≤ t.size) := by
  cases h : readL (byB t) with
  | none => rw [readX_bad h]; exact .inl rfl
  | some l =>
    obtain ⟨h1, h2⟩ := readL_of _ _ _ (Nat.le_refl _) h
    rw [readX_ok h]
    refine .inr ⟨rfl, ?_, ?_⟩
    · show putV (txB l) = t
      unfold putV
      rw [byB_txB h2, h1, txB_byB]
    · show (txB l).size ≤ t.size
      have h3 := congrArg List.length h1
      rw [putL_len, byB_len] at h3
      rw [txB_size]; omega
theorem back_walk (s t : ByteArray) (w : World) (w0 : s.size ≤ 140737488351232) (w1 : t.size ≤ 140737488351232) : Calls Try.prog 4 #[.string s, .string t] w fun e w' => e = .returned (.bool true) ∧ Below w.heap.size w w' := by
  by_cases hb : 2000 < s.size ∨ 2000 < t.size
  · by_cases hb1 : 2000 < s.size
    · have d1 : (2000 : Int) < (s.size : Int) := by omega
      go_enter Try.func4, Try.ntmps4
      go_wp2_with fail
      refine (awake_any _).mono ?_
      rintro e w1 ⟨rfl, hb1⟩
      go_wp2
      go_ret
      exact ⟨rfl, hb1⟩
    · have d1 : ¬ (2000 : Int) < (s.size : Int) := by omega
      have d2 : (2000 : Int) < (t.size : Int) := by omega
      go_enter Try.func4, Try.ntmps4
      go_wp2_with fail
      refine (awake_any _).mono ?_
      rintro e w1 ⟨rfl, hb1⟩
      go_wp2
      go_ret
      exact ⟨rfl, hb1⟩
  · have d1 : ¬ (2000 : Int) < (s.size : Int) := by omega
    have d2 : ¬ (2000 : Int) < (t.size : Int) := by omega
    have hpr := put_read t
    have R3 : Hid (∀ w, Calls Try.prog 9 #[.string s] w fun e w' => e = .returned (.string (putV s)) ∧ Below w.heap.size w w') := Lib.hid (fun w => put_any s w (by omega))
    have R0 : Hid (∀ w, Calls Try.prog 7 #[.string (putV s)] w fun e w' => e = .returned (.tuple #[.string s, .int .i64 0]) ∧ Below w.heap.size w w') := Lib.hid (fun w => by
      have h := read_any (putV s) w (by rw [putV_size]; omega)
      unfold readE at h; rw [read_put] at h; exact h)
    have R1 : Hid (∀ w, Calls Try.prog 7 #[.string t] w fun e w' => e = readE t ∧ Below w.heap.size w w') := Lib.hid (fun w => read_any t w (by omega))
    unfold readE at R1
    obtain ⟨A, hA⟩ : ∃ A, A = (readX t).1 := ⟨_, rfl⟩
    obtain ⟨B, hB⟩ : ∃ B, B = (readX t).2 := ⟨_, rfl⟩
    rw [← hA, ← hB] at R1 hpr
    have R5 : Hid (∀ w, Calls Try.prog 11 #[.string s] w fun e w' => e = .returned (.string (idV s)) ∧ Below w.heap.size w w') := Lib.hid (fun w => id_any s w (by omega))
    have R6 : Hid (∀ w, Calls Try.prog 13 #[.string (idV s)] w fun e w' => e = .returned (.int .i64 0) ∧ Below w.heap.size w w') := Lib.hid (fun w => by
      have h := check_any (idV s) w (by rw [idV_size]; decide)
      rw [checkX_id] at h; exact h)
    obtain ⟨C, hC⟩ : ∃ C, C = putV s := ⟨_, rfl⟩
    obtain ⟨D, hD⟩ : ∃ D, D = idV s := ⟨_, rfl⟩
    rw [← hC] at R3 R0
    rw [← hD] at R5 R6
    clear hA hB hC hD
    have e1 := str_eq (X := s) rfl
    have e2 := str_eq (X := t) rfl
    rcases hpr with rfl | ⟨rfl, hpt, hsz⟩
    · go_enter Try.func4, Try.ntmps4
      go_wp2_with fail
      refine (R3.out _).mono ?_
      rintro e w1 ⟨rfl, hb1⟩
      go_wp2_with fail
      refine (R0.out _).mono ?_
      rintro e w2 ⟨rfl, hb2⟩
      have HB2 := Lib.hid (below_step hb1 (Nat.le_refl _) hb2)
      clear hb1 hb2
      go_wp2_with fail
      refine (R1.out _).mono ?_
      rintro e w3 ⟨rfl, hb3⟩
      have HB3 := Lib.hid (below_step HB2.out (Nat.le_refl _) hb3)
      clear hb3
      go_wp2_with fail
      refine (R5.out _).mono ?_
      rintro e w4 ⟨rfl, hb4⟩
      have HB4 := Lib.hid (below_step HB3.out (Nat.le_refl _) hb4)
      clear hb4
      go_wp2_with fail
      refine (R6.out _).mono ?_
      rintro e w5 ⟨rfl, hb5⟩
      have HB5 := Lib.hid (below_step HB4.out (Nat.le_refl _) hb5)
      clear hb5
      go_wp2_with fail
      refine (awake_any _).mono ?_
      rintro e w9 ⟨rfl, hb9⟩
      have HB9 := Lib.hid (below_step HB5.out (Nat.le_refl _) hb9)
      clear hb9
      go_wp2
      go_ret
      exact ⟨rfl, HB9.out⟩
    · have R7 : Hid (∀ w, Calls Try.prog 9 #[.string A] w fun e w' => e = .returned (.string t) ∧ Below w.heap.size w w') := Lib.hid (fun w => by
        have h := put_any A w (by omega)
        rw [hpt] at h; exact h)
      clear hpt hsz
      go_enter Try.func4, Try.ntmps4
      go_wp2_with fail
      refine (R3.out _).mono ?_
      rintro e w1 ⟨rfl, hb1⟩
      go_wp2_with fail
      refine (R0.out _).mono ?_
      rintro e w2 ⟨rfl, hb2⟩
      have HB2 := Lib.hid (below_step hb1 (Nat.le_refl _) hb2)
      clear hb1 hb2
      go_wp2_with fail
      refine (R1.out _).mono ?_
      rintro e w3 ⟨rfl, hb3⟩
      have HB3 := Lib.hid (below_step HB2.out (Nat.le_refl _) hb3)
      clear hb3
      go_wp2_with fail
      refine (R7.out _).mono ?_
      rintro e w6 ⟨rfl, hb6⟩
      have HB6 := Lib.hid (below_step HB3.out (Nat.le_refl _) hb6)
      clear hb6
      go_wp2_with fail
      refine (R5.out _).mono ?_
      rintro e w4 ⟨rfl, hb4⟩
      have HB4 := Lib.hid (below_step HB6.out (Nat.le_refl _) hb4)
      clear hb4
      go_wp2_with fail
      refine (R6.out _).mono ?_
      rintro e w5 ⟨rfl, hb5⟩
      have HB5 := Lib.hid (below_step HB4.out (Nat.le_refl _) hb5)
      clear hb5
      go_wp2_with fail
      refine (awake_any _).mono ?_
      rintro e w9 ⟨rfl, hb9⟩
      have HB9 := Lib.hid (below_step HB5.out (Nat.le_refl _) hb9)
      clear hb9
      go_wp2
      go_ret
      exact ⟨rfl, HB9.out⟩
end Go.Proofs.Ytjaeligooopbcaa

