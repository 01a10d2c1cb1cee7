/-
  The contract of the law's awake; the law of SizeBack. Conditions: none.
-/
import Derived.Test.YtlkemdcmlljfgaaE
set_option linter.unusedVariables false
set_option linter.unusedSimpArgs false
namespace Go.Proofs.Ytlkemdcmlljfgaa
open Go.RowKit
theorem put_2k : putS 2048 = ⟨#[50, 107]⟩ := by
  have h : norm 5 2048 0 = (2, 1) := by decide
  unfold putS
  rw [h, dec_nat (by omega), natDec_small (by decide)]; rfl
theorem put_0 : putS 0 = ⟨#[48]⟩ := by
  have h : norm 5 0 0 = (0, 0) := by decide
  unfold putS
  rw [h, dec_nat (by omega), natDec_small (by decide)]; rfl
set_option maxHeartbeats 4000000 in
theorem awake_any (w : World) : Calls Try.prog 6 #[] w fun e w' => e = .returned (.bool true) ∧ Below w.heap.size w w' := by
  have P1 := Lib.hid put_2k; have P2 := Lib.hid put_0
  have HR := fun w => read_put 2048 (by omega) w
  rw [show ((2048 : Nat) : Int) = 2048 from rfl, put_2k] at HR
  have HR2 := Lib.hid HR
  clear HR
  go_enter Try.func6, Try.ntmps6
  go_wp2_with fail
  refine (put_any 2048 _ (by omega) (by omega)).mono ?_
  rintro e w1 ⟨rfl, h1⟩
  rw [P1.out]
  have H1 := Lib.hid h1
  clear h1
  go_wp2_with fail
  refine (put_any 0 _ (by omega) (by omega)).mono ?_
  rintro e w2 ⟨rfl, h2⟩
  rw [P2.out]
  have H2 := Lib.hid (below_step H1.out (Nat.le_refl _) h2)
  clear h2
  go_wp2_with fail
  refine (HR2.out _).mono ?_
  rintro e w3 ⟨rfl, h3⟩
  have H3 := Lib.hid (below_step H2.out (Nat.le_refl _) h3)
  clear h3
  go_wp2_with fail
  refine (read_empty _).mono ?_
  rintro e w4 ⟨rfl, hx⟩
  obtain rfl : w3 = w4 := hx.symm
  clear hx
  go_wp2_with fail
  refine (read_02 _).mono ?_
  rintro e w4 ⟨rfl, hx⟩
  obtain rfl : w3 = w4 := hx.symm
  clear hx
  go_wp2_with fail
  refine (read_9p _).mono ?_
  rintro e w4 ⟨rfl, h4⟩
  have H4 := Lib.hid (below_step H3.out (Nat.le_refl _) h4)
  clear h4
  go_wp2_with fail
  refine (put_bad (-1) _ (by omega)).mono ?_
  rintro e w5 ⟨rfl, hx⟩
  obtain rfl : w4 = w5 := hx.symm
  clear hx
  go_wp2
  go_ret
  exact ⟨rfl, H4.out⟩
set_option maxHeartbeats 4000000 in
theorem back_law (n : Int) (w : World) (hn : (Lit.int .u64 n).wf = true) : Calls Try.prog 3 #[.int .u64 n] w fun e w' => e = .returned (.bool true) ∧ Below w.heap.size w w' := by
  have hb : 0 ≤ n ∧ n ≤ 18446744073709551615 := bounds_u64 hn
  obtain ⟨m, hm⟩ : ∃ m : Nat, n % 9007199254740993 = (m : Int) := ⟨(n % 9007199254740993).toNat, by omega⟩
  have hm2 : m ≤ 9007199254740992 := by omega
  have ht : Int.tmod n 9007199254740993 = (m : Int) := by rw [Int.tmod_eq_emod_of_nonneg hb.1]; exact hm
  have w1 : wrap64 (m : Int) = (m : Int) := wrap64_id (by omega) (by omega)
  have hpos := hb.1
  go_enter Try.func3, Try.ntmps3
  go_wp2_with fail
  refine (put_any m _ (by omega) (by omega)).mono ?_
  rintro e w2 ⟨rfl, h1⟩
  have H1 := Lib.hid h1
  clear h1
  have HR := Lib.hid (fun w => read_put m hm2 w)
  generalize putS (m : Int) = X at HR ⊢
  go_wp2_with fail
  refine (HR.out _).mono ?_
  rintro e w3 ⟨rfl, h2⟩
  have H2 := Lib.hid (below_step H1.out (Nat.le_refl _) h2)
  clear h2
  go_wp2_with fail
  refine (awake_any _).mono ?_
  rintro e w4 ⟨rfl, h3⟩
  have H3 := Lib.hid (below_step H2.out (Nat.le_refl _) h3)
  clear h3
  go_wp2
  go_ret
  exact ⟨rfl, H3.out⟩
end Go.Proofs.Ytlkemdcmlljfgaa
