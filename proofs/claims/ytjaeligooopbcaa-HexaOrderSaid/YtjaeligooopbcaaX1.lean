/-
  The law's examples hold; the walks of HexaPuts, HexaBack.
-/
import Derived.Test.YtjaeligooopbcaaHxF
set_option linter.unusedVariables false
set_option linter.unusedSimpArgs false
namespace Go.Proofs.Ytjaeligooopbcaa
open Go.RowKit
theorem ex1 : readX ⟨#[48, 48, 102, 102]⟩ = (⟨#[0, 255]⟩, 0) := by decide +kernel
theorem ex2 : readX ⟨#[48]⟩ = (⟨#[]⟩, 5) := by decide +kernel
theorem ex3 : readX ⟨#[48, 70]⟩ = (⟨#[]⟩, 5) := by decide +kernel
theorem ex4 : putV ⟨#[0, 255]⟩ = ⟨#[48, 48, 102, 102]⟩ := by decide +kernel
theorem ex5 : checkX ⟨#[48, 48]⟩ = 5 := by decide +kernel
theorem l4 : (⟨#[48, 48, 102, 102]⟩ : ByteArray).toList = [48, 48, 102, 102] := by decide +kernel
theorem l2 : (⟨#[0, 255]⟩ : ByteArray).toList = [0, 255] := by decide +kernel
theorem awake_any (w : World) : Calls Try.prog 6 #[] w fun e w' => e = .returned (.bool true) ∧ Below w.heap.size w w' := by
  have R1 : Hid (∀ w, Calls Try.prog 7 #[.string ⟨#[48, 48, 102, 102]⟩] w fun e w' => e = .returned (.tuple #[.string ⟨#[0, 255]⟩, .int .i64 0]) ∧ Below w.heap.size w w') := Lib.hid (fun w => by
    have h := read_any ⟨#[48, 48, 102, 102]⟩ w (by decide)
    unfold readE at h; rw [ex1] at h; exact h)
  have R2 : Hid (∀ w, Calls Try.prog 7 #[.string ⟨#[48]⟩] w fun e w' => e = .returned (.tuple #[.string ⟨#[]⟩, .int .i64 5]) ∧ Below w.heap.size w w') := Lib.hid (fun w => by
    have h := read_any ⟨#[48]⟩ w (by decide)
    unfold readE at h; rw [ex2] at h; exact h)
  have R3 : Hid (∀ w, Calls Try.prog 7 #[.string ⟨#[48, 70]⟩] w fun e w' => e = .returned (.tuple #[.string ⟨#[]⟩, .int .i64 5]) ∧ Below w.heap.size w w') := Lib.hid (fun w => by
    have h := read_any ⟨#[48, 70]⟩ w (by decide)
    unfold readE at h; rw [ex3] at h; exact h)
  have R4 : Hid (∀ w, Calls Try.prog 9 #[.string ⟨#[0, 255]⟩] w fun e w' => e = .returned (.string ⟨#[48, 48, 102, 102]⟩) ∧ Below w.heap.size w w') := Lib.hid (fun w => by
    have h := put_any ⟨#[0, 255]⟩ w (by decide)
    rw [ex4] at h; exact h)
  have R6 : Hid (∀ w, Calls Try.prog 13 #[.string ⟨#[48, 48]⟩] w fun e w' => e = .returned (.int .i64 5) ∧ Below w.heap.size w w') := Lib.hid (fun w => by
    have h := check_any ⟨#[48, 48]⟩ w (by decide)
    rw [ex5] at h; exact h)
  have R7 : Hid (∀ w, Calls Try.prog 11 #[.string ⟨#[120]⟩] w fun e w' => e = .returned (.string (idV ⟨#[120]⟩)) ∧ Below w.heap.size w w') := Lib.hid (fun w => id_any ⟨#[120]⟩ w (by decide))
  have R8 : Hid (∀ w, Calls Try.prog 13 #[.string (idV ⟨#[120]⟩)] w fun e w' => e = .returned (.int .i64 0) ∧ Below w.heap.size w w') := Lib.hid (fun w => by
    have h := check_any (idV ⟨#[120]⟩) w (by rw [idV_size]; decide)
    rw [checkX_id] at h; exact h)
  obtain ⟨I, hI⟩ : ∃ I, I = idV ⟨#[120]⟩ := ⟨_, rfl⟩
  rw [← hI] at R7 R8
  clear hI
  have e1 := l4
  have e2 := l2
  go_enter Try.func6, Try.ntmps6
  go_wp2_with fail
  refine (R1.out _).mono ?_
  rintro e w1 ⟨rfl, hb1⟩
  go_wp2_with fail
  refine (R2.out _).mono ?_
  rintro e w2 ⟨rfl, hb2⟩
  have HB2 := Lib.hid (below_step hb1 (Nat.le_refl _) hb2)
  clear hb1 hb2
  go_wp2_with fail
  refine (R3.out _).mono ?_
  rintro e w3 ⟨rfl, hb3⟩
  have HB3 := Lib.hid (below_step HB2.out (Nat.le_refl _) hb3)
  clear hb3
  go_wp2_with fail
  refine (R4.out _).mono ?_
  rintro e w4 ⟨rfl, hb4⟩
  have HB4 := Lib.hid (below_step HB3.out (Nat.le_refl _) hb4)
  clear hb4
  go_wp2_with fail
  refine (R7.out _).mono ?_
  rintro e w5 ⟨rfl, hb5⟩
  have HB5 := Lib.hid (below_step HB4.out (Nat.le_refl _) hb5)
  clear hb5
  go_wp2_with fail
  refine (R8.out _).mono ?_
  rintro e w6 ⟨rfl, hb6⟩
  have HB6 := Lib.hid (below_step HB5.out (Nat.le_refl _) hb6)
  clear hb6
  go_wp2_with fail
  refine (R6.out _).mono ?_
  rintro e w7 ⟨rfl, hb7⟩
  have HB7 := Lib.hid (below_step HB6.out (Nat.le_refl _) hb7)
  clear hb7
  go_wp2
  go_ret
  exact ⟨rfl, HB7.out⟩
end Go.Proofs.Ytjaeligooopbcaa

