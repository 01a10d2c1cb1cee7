/-
  The contracts of the words on floats: the program's, and the reference's.
-/
import Derived.Test.YtgoddgaamdifmaaBase2
import Derived.Test.YtgoddgaamdifmaaFloatA
import Derived.Laws.Externs
import Derived.Laws.BitsAllLaws
set_option linter.unusedVariables false
set_option linter.unusedSimpArgs false
namespace Go.Proofs.Ytgoddgaamdifmaa
open Go.RowKit
theorem call_bits (b : Nat) (w : World) : (callFunc 20 #[.float .f64 b]).run Try.prog w = .ok (.value (.int .u64 b)) w := by
  rw [run_callFunc_extern (e := Extern.MathFloatBits.float64bits) Try.func20 (by kernel_rfl) (by kernel_rfl) (by kernel_rfl) (by kernel_rfl)]
  rfl
theorem call_from (b : Nat) (w : World) : (callFunc 17 #[.int .u64 (b : Int)]).run Try.prog w = .ok (.value (.float .f64 b)) w := by
  rw [run_callFunc_extern (e := Extern.MathFloatBits.float64frombits) Try.func17 (by kernel_rfl) (by kernel_rfl) (by kernel_rfl) (by kernel_rfl)]
  rfl
theorem u64_top (b : Nat) (h : b < 18446744073709551616) : b &&& 9223372036854775808 = if b < 9223372036854775808 then 0 else 9223372036854775808 := by
  have := nat_bit 63 b
  rw [show (2 : Nat) ^ 63 = 9223372036854775808 from rfl] at this
  rw [this]
  split <;> omega
theorem u64_ortop (b : Nat) (h : b < 9223372036854775808) : b ||| 9223372036854775808 = b + 9223372036854775808 := by
  have := Nat.two_pow_add_eq_or_of_lt (i := 63) (b := b) (by omega) 1
  rw [Nat.or_comm]
  simp only [Nat.mul_one] at this
  rw [show (2 : Nat) ^ 63 = 9223372036854775808 from rfl] at this
  omega
theorem b_and0 (r : Nat) (h : r < 9223372036854775808) : Go.bits .and .u64 (r : Int) 9223372036854775808 = 0 := by
  have := Go.u64_and_nat r 9223372036854775808 (by omega) (by omega)
  rw [u64_top r (by omega), if_pos h] at this
  exact this
theorem b_and1 (r : Nat) (h : ¬ r < 9223372036854775808) (h2 : r < 18446744073709551616) : Go.bits .and .u64 (r : Int) 9223372036854775808 = 9223372036854775808 := by
  have := Go.u64_and_nat r 9223372036854775808 (by omega) (by omega)
  rw [u64_top r (by omega), if_neg h] at this
  exact this
theorem b_or (r : Nat) (h : r < 9223372036854775808) : Go.bits .or .u64 (r : Int) 9223372036854775808 = (r : Int) + 9223372036854775808 := by
  have := Go.u64_or_nat r 9223372036854775808 (by omega) (by omega)
  rw [u64_ortop r h] at this
  rw [show ((9223372036854775808 : Int)) = ((9223372036854775808 : Nat) : Int) from rfl, this]
  rfl
theorem nat_not (S r : Nat) (n : Nat) (hS : S = 2 ^ n - 1) (h : r < 2 ^ n) : S ^^^ r = S - r := by
  subst hS
  apply Nat.eq_of_testBit_eq
  intro j
  rw [Nat.testBit_xor, Nat.testBit_two_pow_sub_one, show 2 ^ n - 1 - r = 2 ^ n - (r + 1) by omega, Nat.testBit_two_pow_sub_succ h]
  by_cases hj : j < n
  · simp [hj]
  · have : r.testBit j = false := Nat.testBit_lt_two_pow (Nat.lt_of_lt_of_le h (Nat.pow_le_pow_right (by omega) (by omega)))
    simp [hj, this]
theorem b_xor (r : Nat) (h : r < 18446744073709551616) : Go.bits .xor .u64 IntKind.u64.max (r : Int) = 18446744073709551615 - (r : Int) := by
  have := Go.u64_xor_nat 18446744073709551615 r (by omega) h
  rw [nat_not _ r 64 rfl h] at this
  rw [show IntKind.u64.max = ((18446744073709551615 : Nat) : Int) from rfl, this]
  omega
set_option maxHeartbeats 1000000 in
theorem isnan_any (x : Nat) (w : World) : Calls Try.prog 21 #[.float .f64 x] w fun e w' => e = .returned (.bool (isN x)) ∧ w = w' := by
  have h := ne_some_of x
  go_enter Try.func21, Try.ntmps21
  go_wp2
  go_ret
  exact ⟨rfl, rfl⟩
set_option maxHeartbeats 1000000 in
theorem raw_any (x : Nat) (w : World) : Calls Try.prog 31 #[.float .f64 x] w fun e w' => e = .returned (.int .u64 (rawN x)) ∧ w = w' := by
  have hc := call_bits x
  cases h : isN x with
  | true =>
    have HR : Hid (rawN x = 9221120237041090561) := Lib.hid (by unfold rawN; rw [if_pos h])
    go_enter Try.func31, Try.ntmps31
    go_wp2_with fail
    refine (isnan_any x w).mono ?_
    rintro e w' ⟨rfl, rfl⟩
    rw [h]
    go_wp2
    go_ret
    exact ⟨by rw [HR.out]; rfl, rfl⟩
  | false =>
    have HR : Hid (rawN x = x) := Lib.hid (by unfold rawN; rw [if_neg (by rw [h]; simp)])
    go_enter Try.func31, Try.ntmps31
    go_wp2_with fail
    refine (isnan_any x w).mono ?_
    rintro e w' ⟨rfl, rfl⟩
    rw [h]
    go_wp2
    go_ret
    exact ⟨by rw [HR.out]; rfl, rfl⟩
set_option maxHeartbeats 1000000 in
theorem clean_any (x : Nat) (w : World) : Calls Try.prog 22 #[.float .f64 x] w fun e w' => e = .returned (.float .f64 (rawN x)) ∧ w = w' := by
  have T := Lib.hid (raw_any x w)
  obtain ⟨r, hr⟩ : ∃ r, r = rawN x := ⟨_, rfl⟩
  rw [← hr] at T ⊢
  clear hr
  have hc := call_from r
  go_enter Try.func22, Try.ntmps22
  go_wp2_with fail
  refine T.out.mono ?_
  rintro e w' ⟨rfl, rfl⟩
  go_wp2
  go_ret
  exact ⟨rfl, rfl⟩
set_option maxHeartbeats 1000000 in
theorem key_any (x : Nat) (w : World) (hx : x < 18446744073709551616) : Calls Try.prog 18 #[.float .f64 x] w fun e w' => e = .returned (.int .u64 (keyN x)) ∧ w = w' := by
  have hr := rawN_lt hx
  have HK : Hid (keyN x = keyB (rawN x)) := Lib.hid rfl
  have T := Lib.hid (raw_any x w)
  generalize rawN x = r at *
  by_cases h : r < 9223372036854775808
  · have ha := b_and0 r h
    have ho := b_or r h
    have HR : Hid ((keyN x : Int) = (r : Int) + 9223372036854775808) := Lib.hid (by rw [HK.out]; unfold keyB; rw [if_pos h]; rfl)
    clear HK
    go_enter Try.func18, Try.ntmps18
    go_wp2_with fail
    refine T.out.mono ?_
    rintro e w' ⟨rfl, rfl⟩
    go_wp2
    go_ret
    exact ⟨by rw [HR.out]; rfl, rfl⟩
  · have ha := b_and1 r h hr
    have ho := b_xor r hr
    have HR : Hid ((keyN x : Int) = 18446744073709551615 - (r : Int)) := Lib.hid (by rw [HK.out]; unfold keyB; rw [if_neg h]; omega)
    clear HK
    go_enter Try.func18, Try.ntmps18
    go_wp2_with fail
    refine T.out.mono ?_
    rintro e w' ⟨rfl, rfl⟩
    go_wp2
    go_ret
    exact ⟨by rw [HR.out]; rfl, rfl⟩
def zB (x : Nat) : Bool := FloatKind.f64.format.order x 0 == some .eq
def infB (x : Nat) : Bool := FloatKind.f64.format.order x 9218868437227405311 == some .gt
set_option maxHeartbeats 1000000 in
theorem isinf_any (x : Nat) (w : World) : Calls Try.prog 27 #[.float .f64 x, .int .i64 1] w fun e w' => e = .returned (.bool (infB x)) ∧ w = w' := by
  have h : (FloatKind.f64.format.order x 9218868437227405311 == some .gt) = infB x := rfl
  go_enter Try.func27, Try.ntmps27
  go_wp2
  go_ret
  exact ⟨rfl, rfl⟩
set_option maxHeartbeats 1000000 in
theorem nought_any (x : Nat) (w : World) : Calls Try.prog 24 #[.float .f64 x] w fun e w' => e = .returned (.bool (zB x)) ∧ w = w' := by
  have h : (FloatKind.f64.format.order x 0 == some .eq) = zB x := rfl
  go_enter Try.func24, Try.ntmps24
  go_wp2
  go_ret
  exact ⟨rfl, rfl⟩
set_option maxHeartbeats 1000000 in
theorem bits_any (x : Nat) (w : World) : Calls Try.prog 33 #[.float .f64 x] w fun e w' => e = .returned (.int .u64 (rawN x)) ∧ w = w' := by
  have hc := call_bits x
  have hn := ne_some_of x
  cases h : isN x with
  | true =>
    rw [h] at hn
    have HR : Hid (rawN x = 9221120237041090561) := Lib.hid (by unfold rawN; rw [if_pos h])
    clear h
    go_enter Try.func33, Try.ntmps33
    go_wp2
    go_ret
    exact ⟨by rw [HR.out]; rfl, rfl⟩
  | false =>
    rw [h] at hn
    have HR : Hid (rawN x = x) := Lib.hid (by unfold rawN; rw [if_neg (by rw [h]; simp)])
    clear h
    go_enter Try.func33, Try.ntmps33
    go_wp2
    go_ret
    exact ⟨by rw [HR.out]; rfl, rfl⟩
set_option maxHeartbeats 1000000 in
theorem rclean_any (x : Nat) (w : World) : Calls Try.prog 26 #[.float .f64 x] w fun e w' => e = .returned (.float .f64 (rawN x)) ∧ w = w' := by
  have T := Lib.hid (bits_any x w)
  obtain ⟨r, hr⟩ : ∃ r, r = rawN x := ⟨_, rfl⟩
  rw [← hr] at T ⊢
  clear hr
  have hc := call_from r
  go_enter Try.func26, Try.ntmps26
  go_wp2_with fail
  refine T.out.mono ?_
  rintro e w' ⟨rfl, rfl⟩
  go_wp2
  go_ret
  exact ⟨rfl, rfl⟩
set_option maxRecDepth 100000 in
set_option maxHeartbeats 1000000 in
theorem rkey_any (x : Nat) (w : World) (hx : x < 18446744073709551616) : Calls Try.prog 32 #[.float .f64 x] w fun e w' => e = .returned (.int .u64 (keyN x)) ∧ w = w' := by
  have hr := rawN_lt hx
  have HK : Hid (keyN x = keyB (rawN x)) := Lib.hid rfl
  have T := Lib.hid (bits_any x w)
  generalize rawN x = r at *
  by_cases h : r < 9223372036854775808
  · have g1 : (r : Int) < 9223372036854775808 := by omega
    have hw : IntKind.u64.wrap ((r : Int) + 9223372036854775808) = (r : Int) + 9223372036854775808 := by rw [IntKind.wrap_u64]; omega
    have HR : Hid ((keyN x : Int) = (r : Int) + 9223372036854775808) := Lib.hid (by rw [HK.out]; unfold keyB; rw [if_pos h]; rfl)
    clear HK
    go_enter Try.func32, Try.ntmps32
    go_wp2_with fail
    refine T.out.mono ?_
    rintro e w' ⟨rfl, rfl⟩
    go_wp2
    go_ret
    exact ⟨by rw [HR.out]; rfl, rfl⟩
  · obtain ⟨q, hq⟩ : ∃ q : Nat, (q : Int) = 18446744073709551615 - (r : Int) := ⟨18446744073709551615 - r, by omega⟩
    have ho := b_xor r hr
    rw [← hq] at ho
    have ho2 : Go.bits .xor .u64 (if IntKind.u64.signed = true then -1 else IntKind.u64.max) (r : Int) = (q : Int) := ho
    have g1 : decide ((r : Int) < 9223372036854775808) = false := decide_eq_false (by omega)
    have HR : Hid ((keyN x : Int) = (q : Int)) := Lib.hid (by rw [HK.out]; unfold keyB; rw [if_neg h]; omega)
    clear hq
    clear HK h hr hx
    go_enter Try.func32, Try.ntmps32
    go_wp2_with fail
    refine T.out.mono ?_
    rintro e w' ⟨rfl, rfl⟩
    go_wp2
    go_ret
    exact ⟨by rw [HR.out]; rfl, rfl⟩
set_option maxHeartbeats 1000000 in
theorem same_any (x y : Nat) (w : World) : Calls Try.prog 10 #[.float .f64 x, .float .f64 y] w fun e w' => e = .returned (.bool (decide (x = y))) ∧ w = w' := by
  have h1 := call_bits x
  have h2 := call_bits y
  have HE : Hid (((x : Int) == (y : Int)) = decide (x = y)) := Lib.hid (by
    rw [Bool.eq_iff_iff, beq_iff_eq, decide_eq_true_iff]; omega)
  go_enter Try.func10, Try.ntmps10
  go_wp2
  go_ret
  exact ⟨by rw [← HE.out]; rfl, rfl⟩
set_option maxHeartbeats 1000000 in
theorem less_any (x y : Nat) (w : World) (hx : x < 18446744073709551616) (hy : y < 18446744073709551616) : Calls Try.prog 19 #[.float .f64 x, .float .f64 y] w fun e w' => e = .returned (.bool (decide (keyN x < keyN y))) ∧ w = w' := by
  have T1 := Lib.hid (rkey_any x w hx)
  have T2 := Lib.hid (rkey_any y w hy)
  generalize keyN x = a at *
  generalize keyN y = b at *
  go_enter Try.func19, Try.ntmps19
  go_wp2_with fail
  refine T1.out.mono ?_
  rintro e w' ⟨rfl, rfl⟩
  go_wp2_with fail
  refine T2.out.mono ?_
  rintro e w' ⟨rfl, rfl⟩
  go_wp2
  go_ret
  exact ⟨rfl, rfl⟩
end Go.Proofs.Ytgoddgaamdifmaa

