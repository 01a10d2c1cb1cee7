/-
  The law's examples hold; the walk of ShaSums.
-/
import Derived.Test.YtlibfejhdddkaaaShK
set_option linter.unusedVariables false
set_option linter.unusedSimpArgs false
namespace Go.Proofs.Ytlibfejhdddkaaa
open Go.RowKit
theorem sum_abc : sumV ⟨#[97, 98, 99]⟩ = ⟨#[186, 120, 22, 191, 143, 1, 207, 234, 65, 65, 64, 222, 93, 174, 34, 35, 176, 3, 97, 163, 150, 23, 122, 156, 180, 16, 255, 97, 242, 0, 21, 173]⟩ := by decide +kernel
theorem sum_none : (sumV ⟨#[]⟩).extract 0 4 = ⟨#[227, 176, 196, 66]⟩ := by decide +kernel
theorem awake_any (w : World) : Calls Try.prog 5 #[] w fun e w' => e = .returned (.bool true) ∧ Below w.heap.size w w' := by
  obtain ⟨A, hA⟩ : ∃ A, A = sumV ⟨#[97, 98, 99]⟩ := ⟨_, rfl⟩
  obtain ⟨B, hB⟩ : ∃ B, B = sumV ⟨#[]⟩ := ⟨_, rfl⟩
  have a1 : A.size = 32 := by rw [hA]; exact sumV_size _
  have a2 : B.size = 32 := by rw [hB]; exact sumV_size _
  have e1 := str_eq (X := A.extract 0 4) (Y := ⟨#[186, 120, 22, 191]⟩) (by rw [hA, sum_abc]; rfl)
  have e2 := str_eq (X := B.extract 0 4) (Y := ⟨#[227, 176, 196, 66]⟩) (by rw [hB]; exact sum_none)
  have e4 : ((B.extract 0 4).toList == [227, 176, 196, 66]) = true := by rw [hB, sum_none]; decide +kernel
  have e5 : ((A.extract 0 4).toList == [186, 120, 22, 191]) = true := by rw [hA, sum_abc]; decide +kernel
  have e3 := str_eq (X := A) rfl
  have HA := Lib.hid hA
  have HB := Lib.hid hB
  have p1 : (padB (0 : Nat)).size = 64 := by rw [padB_nat, txB_size, padL_len]; rfl
  have p2 : (padB (56 : Nat)).size = 72 := by rw [padB_nat, txB_size, padL_len]; rfl
  have P1 : Hid (∀ w, Calls Try.prog 10 #[.int .i64 0] w fun e w' => e = .returned (.string (padB (0 : Nat))) ∧ Below w.heap.size w w') := Lib.hid (fun w => pad_any 0 w (by decide))
  have P2 : Hid (∀ w, Calls Try.prog 10 #[.int .i64 56] w fun e w' => e = .returned (.string (padB (56 : Nat))) ∧ Below w.heap.size w w') := Lib.hid (fun w => pad_any 56 w (by decide))
  have P3 : Hid (∀ w, Calls Try.prog 10 #[.int .i64 (-1)] w fun e w' => e = .returned (.string ⟨#[]⟩) ∧ Below w.heap.size w w') := Lib.hid (fun w => by rw [← padB_neg (n := -1) (by decide)]; exact pad_any (-1) w (by decide))
  obtain ⟨C, hC⟩ : ∃ C, C = padB (0 : Nat) := ⟨_, rfl⟩
  obtain ⟨D, hD⟩ : ∃ D, D = padB (56 : Nat) := ⟨_, rfl⟩
  rw [← hC] at p1 P1
  rw [← hD] at p2 P2
  clear hA hB hC hD
  go_enter Try.func5, Try.ntmps5
  go_wp2_with fail
  refine (sum_any _ w (by decide)).mono ?_
  rintro e w1 ⟨rfl, hb1⟩
  rw [← HA.out]
  go_wp2_with fail
  refine (sum_any _ w1 (by decide)).mono ?_
  rintro e w2 ⟨rfl, hb2⟩
  rw [← HB.out]
  have HB2 := Lib.hid (below_step hb1 (Nat.le_refl _) hb2)
  clear hb1 hb2
  go_wp2_with fail
  refine (rsum_any _ w2 (by decide)).mono ?_
  rintro e w3 ⟨rfl, hb3⟩
  rw [← HA.out]
  have HB3 := Lib.hid (below_step HB2.out (Nat.le_refl _) hb3)
  clear hb3
  go_wp2_with fail
  refine (P1.out w3).mono ?_
  rintro e w4 ⟨rfl, hb4⟩
  have HB4 := Lib.hid (below_step HB3.out (Nat.le_refl _) hb4)
  clear hb4
  go_wp2_with fail
  refine (P2.out w4).mono ?_
  rintro e w5 ⟨rfl, hb5⟩
  have HB5 := Lib.hid (below_step HB4.out (Nat.le_refl _) hb5)
  clear hb5
  go_wp2_with fail
  refine (P3.out w5).mono ?_
  rintro e w6 ⟨rfl, hb6⟩
  have HB6 := Lib.hid (below_step HB5.out (Nat.le_refl _) hb6)
  clear hb6
  go_wp2
  go_ret
  exact ⟨rfl, HB6.out⟩
theorem sums_walk (s : ByteArray) (w : World) (w0 : s.size ≤ 140737488351232) : Calls Try.prog 3 #[.string s] w fun e w' => e = .returned (.bool true) ∧ Below w.heap.size w w' := by
  by_cases hb : 5000 < s.size
  · have d1 : (5000 : Int) < (s.size : Int) := by omega
    go_enter Try.func3, Try.ntmps3
    go_wp2_with fail
    refine (awake_any _).mono ?_
    rintro e w1 ⟨rfl, hb1⟩
    go_wp2
    go_ret
    exact ⟨rfl, hb1⟩
  · have d1 : ¬ (5000 : Int) < (s.size : Int) := by omega
    obtain ⟨A, hA⟩ : ∃ A, A = sumV s := ⟨_, rfl⟩
    have HA := Lib.hid hA
    have e3 := str_eq (X := A) rfl
    clear hA
    go_enter Try.func3, Try.ntmps3
    go_wp2_with fail
    refine (sum_any s w (by omega)).mono ?_
    rintro e w1 ⟨rfl, hb1⟩
    rw [← HA.out]
    go_wp2_with fail
    refine (rsum_any s w1 (by omega)).mono ?_
    rintro e w2 ⟨rfl, hb2⟩
    rw [← HA.out]
    have HB2 := Lib.hid (below_step hb1 (Nat.le_refl _) hb2)
    clear hb1 hb2
    go_wp2_with fail
    refine (awake_any _).mono ?_
    rintro e w3 ⟨rfl, hb3⟩
    go_wp2
    go_ret
    exact ⟨rfl, below_step HB2.out (Nat.le_refl _) hb3⟩
end Go.Proofs.Ytlibfejhdddkaaa

