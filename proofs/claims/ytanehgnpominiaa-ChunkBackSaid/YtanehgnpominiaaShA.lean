/-
  The contracts of the turns of a word, and of mix.
-/
import Derived.Test.YtanehgnpominiaaShM
import Derived.Test.YtanehgnpominiaaProg
set_option linter.unusedVariables false
set_option linter.unusedSimpArgs false
namespace Go.Proofs.Ytanehgnpominiaa
open Go.RowKit
theorem rotv_2 (x : Nat) (hx : x < 4294967296) : bits .or .u32 ((x : Int) * 1073741824 % 4294967296) ((x : Int) / 4) = ((rot 2 x : Nat) : Int) ∧ bits .or .u32 ((x : Int) / 4) ((x : Int) * 1073741824 % 4294967296) = ((rot 2 x : Nat) : Int) := by
  have h1 := u32_or_nat (x * 1073741824 % 4294967296) (x / 4) (Nat.mod_lt _ (by decide)) (by omega)
  have h2 := u32_or_nat (x / 4) (x * 1073741824 % 4294967296) (by omega) (Nat.mod_lt _ (by decide))
  have e : rot 2 x = (x * 1073741824 % 4294967296) ||| (x / 4) := rfl
  rw [e]
  refine ⟨?_, ?_⟩
  · rw [← h1]; rfl
  · rw [Nat.or_comm, ← h2]; rfl
theorem rotl_2 (x : Nat) (w : World) (hx : x < 4294967296) : Calls Try.prog 80 #[.int .u32 x, .int .i64 (-2)] w fun e w' => e = .returned (.int .u32 (rot 2 x : Nat)) ∧ w = w' := by
  have hw : IntKind.u64.wrap (-2) = 18446744073709551614 := by decide +kernel
  have h1 : bits .and .u64 18446744073709551614 31 = 30 := by decide +kernel
  have HO := Lib.hid (rotv_2 x hx).1
  go_enter Try.func80, Try.ntmps80
  go_wp2
  go_ret
  exact ⟨rint HO.out, rfl⟩
theorem turn_2 (x : Nat) (w : World) (hx : x < 4294967296) : Calls Try.prog 77 #[.int .u32 x, .int .i64 2] w fun e w' => e = .returned (.int .u32 (rot 2 x : Nat)) ∧ w = w' := by
  have HO := Lib.hid (rotv_2 x hx).2
  go_enter Try.func77, Try.ntmps77
  go_wp2
  go_ret
  exact ⟨rint HO.out, rfl⟩
theorem rotv_6 (x : Nat) (hx : x < 4294967296) : bits .or .u32 ((x : Int) * 67108864 % 4294967296) ((x : Int) / 64) = ((rot 6 x : Nat) : Int) ∧ bits .or .u32 ((x : Int) / 64) ((x : Int) * 67108864 % 4294967296) = ((rot 6 x : Nat) : Int) := by
  have h1 := u32_or_nat (x * 67108864 % 4294967296) (x / 64) (Nat.mod_lt _ (by decide)) (by omega)
  have h2 := u32_or_nat (x / 64) (x * 67108864 % 4294967296) (by omega) (Nat.mod_lt _ (by decide))
  have e : rot 6 x = (x * 67108864 % 4294967296) ||| (x / 64) := rfl
  rw [e]
  refine ⟨?_, ?_⟩
  · rw [← h1]; rfl
  · rw [Nat.or_comm, ← h2]; rfl
theorem rotl_6 (x : Nat) (w : World) (hx : x < 4294967296) : Calls Try.prog 80 #[.int .u32 x, .int .i64 (-6)] w fun e w' => e = .returned (.int .u32 (rot 6 x : Nat)) ∧ w = w' := by
  have hw : IntKind.u64.wrap (-6) = 18446744073709551610 := by decide +kernel
  have h1 : bits .and .u64 18446744073709551610 31 = 26 := by decide +kernel
  have HO := Lib.hid (rotv_6 x hx).1
  go_enter Try.func80, Try.ntmps80
  go_wp2
  go_ret
  exact ⟨rint HO.out, rfl⟩
theorem turn_6 (x : Nat) (w : World) (hx : x < 4294967296) : Calls Try.prog 77 #[.int .u32 x, .int .i64 6] w fun e w' => e = .returned (.int .u32 (rot 6 x : Nat)) ∧ w = w' := by
  have HO := Lib.hid (rotv_6 x hx).2
  go_enter Try.func77, Try.ntmps77
  go_wp2
  go_ret
  exact ⟨rint HO.out, rfl⟩
theorem rotv_7 (x : Nat) (hx : x < 4294967296) : bits .or .u32 ((x : Int) * 33554432 % 4294967296) ((x : Int) / 128) = ((rot 7 x : Nat) : Int) ∧ bits .or .u32 ((x : Int) / 128) ((x : Int) * 33554432 % 4294967296) = ((rot 7 x : Nat) : Int) := by
  have h1 := u32_or_nat (x * 33554432 % 4294967296) (x / 128) (Nat.mod_lt _ (by decide)) (by omega)
  have h2 := u32_or_nat (x / 128) (x * 33554432 % 4294967296) (by omega) (Nat.mod_lt _ (by decide))
  have e : rot 7 x = (x * 33554432 % 4294967296) ||| (x / 128) := rfl
  rw [e]
  refine ⟨?_, ?_⟩
  · rw [← h1]; rfl
  · rw [Nat.or_comm, ← h2]; rfl
theorem rotl_7 (x : Nat) (w : World) (hx : x < 4294967296) : Calls Try.prog 80 #[.int .u32 x, .int .i64 (-7)] w fun e w' => e = .returned (.int .u32 (rot 7 x : Nat)) ∧ w = w' := by
  have hw : IntKind.u64.wrap (-7) = 18446744073709551609 := by decide +kernel
  have h1 : bits .and .u64 18446744073709551609 31 = 25 := by decide +kernel
  have HO := Lib.hid (rotv_7 x hx).1
  go_enter Try.func80, Try.ntmps80
  go_wp2
  go_ret
  exact ⟨rint HO.out, rfl⟩
theorem turn_7 (x : Nat) (w : World) (hx : x < 4294967296) : Calls Try.prog 77 #[.int .u32 x, .int .i64 7] w fun e w' => e = .returned (.int .u32 (rot 7 x : Nat)) ∧ w = w' := by
  have HO := Lib.hid (rotv_7 x hx).2
  go_enter Try.func77, Try.ntmps77
  go_wp2
  go_ret
  exact ⟨rint HO.out, rfl⟩
theorem rotv_11 (x : Nat) (hx : x < 4294967296) : bits .or .u32 ((x : Int) * 2097152 % 4294967296) ((x : Int) / 2048) = ((rot 11 x : Nat) : Int) ∧ bits .or .u32 ((x : Int) / 2048) ((x : Int) * 2097152 % 4294967296) = ((rot 11 x : Nat) : Int) := by
  have h1 := u32_or_nat (x * 2097152 % 4294967296) (x / 2048) (Nat.mod_lt _ (by decide)) (by omega)
  have h2 := u32_or_nat (x / 2048) (x * 2097152 % 4294967296) (by omega) (Nat.mod_lt _ (by decide))
  have e : rot 11 x = (x * 2097152 % 4294967296) ||| (x / 2048) := rfl
  rw [e]
  refine ⟨?_, ?_⟩
  · rw [← h1]; rfl
  · rw [Nat.or_comm, ← h2]; rfl
theorem rotl_11 (x : Nat) (w : World) (hx : x < 4294967296) : Calls Try.prog 80 #[.int .u32 x, .int .i64 (-11)] w fun e w' => e = .returned (.int .u32 (rot 11 x : Nat)) ∧ w = w' := by
  have hw : IntKind.u64.wrap (-11) = 18446744073709551605 := by decide +kernel
  have h1 : bits .and .u64 18446744073709551605 31 = 21 := by decide +kernel
  have HO := Lib.hid (rotv_11 x hx).1
  go_enter Try.func80, Try.ntmps80
  go_wp2
  go_ret
  exact ⟨rint HO.out, rfl⟩
theorem turn_11 (x : Nat) (w : World) (hx : x < 4294967296) : Calls Try.prog 77 #[.int .u32 x, .int .i64 11] w fun e w' => e = .returned (.int .u32 (rot 11 x : Nat)) ∧ w = w' := by
  have HO := Lib.hid (rotv_11 x hx).2
  go_enter Try.func77, Try.ntmps77
  go_wp2
  go_ret
  exact ⟨rint HO.out, rfl⟩
theorem rotv_13 (x : Nat) (hx : x < 4294967296) : bits .or .u32 ((x : Int) * 524288 % 4294967296) ((x : Int) / 8192) = ((rot 13 x : Nat) : Int) ∧ bits .or .u32 ((x : Int) / 8192) ((x : Int) * 524288 % 4294967296) = ((rot 13 x : Nat) : Int) := by
  have h1 := u32_or_nat (x * 524288 % 4294967296) (x / 8192) (Nat.mod_lt _ (by decide)) (by omega)
  have h2 := u32_or_nat (x / 8192) (x * 524288 % 4294967296) (by omega) (Nat.mod_lt _ (by decide))
  have e : rot 13 x = (x * 524288 % 4294967296) ||| (x / 8192) := rfl
  rw [e]
  refine ⟨?_, ?_⟩
  · rw [← h1]; rfl
  · rw [Nat.or_comm, ← h2]; rfl
theorem rotl_13 (x : Nat) (w : World) (hx : x < 4294967296) : Calls Try.prog 80 #[.int .u32 x, .int .i64 (-13)] w fun e w' => e = .returned (.int .u32 (rot 13 x : Nat)) ∧ w = w' := by
  have hw : IntKind.u64.wrap (-13) = 18446744073709551603 := by decide +kernel
  have h1 : bits .and .u64 18446744073709551603 31 = 19 := by decide +kernel
  have HO := Lib.hid (rotv_13 x hx).1
  go_enter Try.func80, Try.ntmps80
  go_wp2
  go_ret
  exact ⟨rint HO.out, rfl⟩
theorem turn_13 (x : Nat) (w : World) (hx : x < 4294967296) : Calls Try.prog 77 #[.int .u32 x, .int .i64 13] w fun e w' => e = .returned (.int .u32 (rot 13 x : Nat)) ∧ w = w' := by
  have HO := Lib.hid (rotv_13 x hx).2
  go_enter Try.func77, Try.ntmps77
  go_wp2
  go_ret
  exact ⟨rint HO.out, rfl⟩
theorem rotv_17 (x : Nat) (hx : x < 4294967296) : bits .or .u32 ((x : Int) * 32768 % 4294967296) ((x : Int) / 131072) = ((rot 17 x : Nat) : Int) ∧ bits .or .u32 ((x : Int) / 131072) ((x : Int) * 32768 % 4294967296) = ((rot 17 x : Nat) : Int) := by
  have h1 := u32_or_nat (x * 32768 % 4294967296) (x / 131072) (Nat.mod_lt _ (by decide)) (by omega)
  have h2 := u32_or_nat (x / 131072) (x * 32768 % 4294967296) (by omega) (Nat.mod_lt _ (by decide))
  have e : rot 17 x = (x * 32768 % 4294967296) ||| (x / 131072) := rfl
  rw [e]
  refine ⟨?_, ?_⟩
  · rw [← h1]; rfl
  · rw [Nat.or_comm, ← h2]; rfl
theorem rotl_17 (x : Nat) (w : World) (hx : x < 4294967296) : Calls Try.prog 80 #[.int .u32 x, .int .i64 (-17)] w fun e w' => e = .returned (.int .u32 (rot 17 x : Nat)) ∧ w = w' := by
  have hw : IntKind.u64.wrap (-17) = 18446744073709551599 := by decide +kernel
  have h1 : bits .and .u64 18446744073709551599 31 = 15 := by decide +kernel
  have HO := Lib.hid (rotv_17 x hx).1
  go_enter Try.func80, Try.ntmps80
  go_wp2
  go_ret
  exact ⟨rint HO.out, rfl⟩
theorem turn_17 (x : Nat) (w : World) (hx : x < 4294967296) : Calls Try.prog 77 #[.int .u32 x, .int .i64 17] w fun e w' => e = .returned (.int .u32 (rot 17 x : Nat)) ∧ w = w' := by
  have HO := Lib.hid (rotv_17 x hx).2
  go_enter Try.func77, Try.ntmps77
  go_wp2
  go_ret
  exact ⟨rint HO.out, rfl⟩
theorem rotv_18 (x : Nat) (hx : x < 4294967296) : bits .or .u32 ((x : Int) * 16384 % 4294967296) ((x : Int) / 262144) = ((rot 18 x : Nat) : Int) ∧ bits .or .u32 ((x : Int) / 262144) ((x : Int) * 16384 % 4294967296) = ((rot 18 x : Nat) : Int) := by
  have h1 := u32_or_nat (x * 16384 % 4294967296) (x / 262144) (Nat.mod_lt _ (by decide)) (by omega)
  have h2 := u32_or_nat (x / 262144) (x * 16384 % 4294967296) (by omega) (Nat.mod_lt _ (by decide))
  have e : rot 18 x = (x * 16384 % 4294967296) ||| (x / 262144) := rfl
  rw [e]
  refine ⟨?_, ?_⟩
  · rw [← h1]; rfl
  · rw [Nat.or_comm, ← h2]; rfl
theorem rotl_18 (x : Nat) (w : World) (hx : x < 4294967296) : Calls Try.prog 80 #[.int .u32 x, .int .i64 (-18)] w fun e w' => e = .returned (.int .u32 (rot 18 x : Nat)) ∧ w = w' := by
  have hw : IntKind.u64.wrap (-18) = 18446744073709551598 := by decide +kernel
  have h1 : bits .and .u64 18446744073709551598 31 = 14 := by decide +kernel
  have HO := Lib.hid (rotv_18 x hx).1
  go_enter Try.func80, Try.ntmps80
  go_wp2
  go_ret
  exact ⟨rint HO.out, rfl⟩
theorem turn_18 (x : Nat) (w : World) (hx : x < 4294967296) : Calls Try.prog 77 #[.int .u32 x, .int .i64 18] w fun e w' => e = .returned (.int .u32 (rot 18 x : Nat)) ∧ w = w' := by
  have HO := Lib.hid (rotv_18 x hx).2
  go_enter Try.func77, Try.ntmps77
  go_wp2
  go_ret
  exact ⟨rint HO.out, rfl⟩
theorem rotv_19 (x : Nat) (hx : x < 4294967296) : bits .or .u32 ((x : Int) * 8192 % 4294967296) ((x : Int) / 524288) = ((rot 19 x : Nat) : Int) ∧ bits .or .u32 ((x : Int) / 524288) ((x : Int) * 8192 % 4294967296) = ((rot 19 x : Nat) : Int) := by
  have h1 := u32_or_nat (x * 8192 % 4294967296) (x / 524288) (Nat.mod_lt _ (by decide)) (by omega)
  have h2 := u32_or_nat (x / 524288) (x * 8192 % 4294967296) (by omega) (Nat.mod_lt _ (by decide))
  have e : rot 19 x = (x * 8192 % 4294967296) ||| (x / 524288) := rfl
  rw [e]
  refine ⟨?_, ?_⟩
  · rw [← h1]; rfl
  · rw [Nat.or_comm, ← h2]; rfl
theorem rotl_19 (x : Nat) (w : World) (hx : x < 4294967296) : Calls Try.prog 80 #[.int .u32 x, .int .i64 (-19)] w fun e w' => e = .returned (.int .u32 (rot 19 x : Nat)) ∧ w = w' := by
  have hw : IntKind.u64.wrap (-19) = 18446744073709551597 := by decide +kernel
  have h1 : bits .and .u64 18446744073709551597 31 = 13 := by decide +kernel
  have HO := Lib.hid (rotv_19 x hx).1
  go_enter Try.func80, Try.ntmps80
  go_wp2
  go_ret
  exact ⟨rint HO.out, rfl⟩
theorem turn_19 (x : Nat) (w : World) (hx : x < 4294967296) : Calls Try.prog 77 #[.int .u32 x, .int .i64 19] w fun e w' => e = .returned (.int .u32 (rot 19 x : Nat)) ∧ w = w' := by
  have HO := Lib.hid (rotv_19 x hx).2
  go_enter Try.func77, Try.ntmps77
  go_wp2
  go_ret
  exact ⟨rint HO.out, rfl⟩
theorem rotv_22 (x : Nat) (hx : x < 4294967296) : bits .or .u32 ((x : Int) * 1024 % 4294967296) ((x : Int) / 4194304) = ((rot 22 x : Nat) : Int) ∧ bits .or .u32 ((x : Int) / 4194304) ((x : Int) * 1024 % 4294967296) = ((rot 22 x : Nat) : Int) := by
  have h1 := u32_or_nat (x * 1024 % 4294967296) (x / 4194304) (Nat.mod_lt _ (by decide)) (by omega)
  have h2 := u32_or_nat (x / 4194304) (x * 1024 % 4294967296) (by omega) (Nat.mod_lt _ (by decide))
  have e : rot 22 x = (x * 1024 % 4294967296) ||| (x / 4194304) := rfl
  rw [e]
  refine ⟨?_, ?_⟩
  · rw [← h1]; rfl
  · rw [Nat.or_comm, ← h2]; rfl
theorem rotl_22 (x : Nat) (w : World) (hx : x < 4294967296) : Calls Try.prog 80 #[.int .u32 x, .int .i64 (-22)] w fun e w' => e = .returned (.int .u32 (rot 22 x : Nat)) ∧ w = w' := by
  have hw : IntKind.u64.wrap (-22) = 18446744073709551594 := by decide +kernel
  have h1 : bits .and .u64 18446744073709551594 31 = 10 := by decide +kernel
  have HO := Lib.hid (rotv_22 x hx).1
  go_enter Try.func80, Try.ntmps80
  go_wp2
  go_ret
  exact ⟨rint HO.out, rfl⟩
theorem turn_22 (x : Nat) (w : World) (hx : x < 4294967296) : Calls Try.prog 77 #[.int .u32 x, .int .i64 22] w fun e w' => e = .returned (.int .u32 (rot 22 x : Nat)) ∧ w = w' := by
  have HO := Lib.hid (rotv_22 x hx).2
  go_enter Try.func77, Try.ntmps77
  go_wp2
  go_ret
  exact ⟨rint HO.out, rfl⟩
theorem rotv_25 (x : Nat) (hx : x < 4294967296) : bits .or .u32 ((x : Int) * 128 % 4294967296) ((x : Int) / 33554432) = ((rot 25 x : Nat) : Int) ∧ bits .or .u32 ((x : Int) / 33554432) ((x : Int) * 128 % 4294967296) = ((rot 25 x : Nat) : Int) := by
  have h1 := u32_or_nat (x * 128 % 4294967296) (x / 33554432) (Nat.mod_lt _ (by decide)) (by omega)
  have h2 := u32_or_nat (x / 33554432) (x * 128 % 4294967296) (by omega) (Nat.mod_lt _ (by decide))
  have e : rot 25 x = (x * 128 % 4294967296) ||| (x / 33554432) := rfl
  rw [e]
  refine ⟨?_, ?_⟩
  · rw [← h1]; rfl
  · rw [Nat.or_comm, ← h2]; rfl
theorem rotl_25 (x : Nat) (w : World) (hx : x < 4294967296) : Calls Try.prog 80 #[.int .u32 x, .int .i64 (-25)] w fun e w' => e = .returned (.int .u32 (rot 25 x : Nat)) ∧ w = w' := by
  have hw : IntKind.u64.wrap (-25) = 18446744073709551591 := by decide +kernel
  have h1 : bits .and .u64 18446744073709551591 31 = 7 := by decide +kernel
  have HO := Lib.hid (rotv_25 x hx).1
  go_enter Try.func80, Try.ntmps80
  go_wp2
  go_ret
  exact ⟨rint HO.out, rfl⟩
theorem turn_25 (x : Nat) (w : World) (hx : x < 4294967296) : Calls Try.prog 77 #[.int .u32 x, .int .i64 25] w fun e w' => e = .returned (.int .u32 (rot 25 x : Nat)) ∧ w = w' := by
  have HO := Lib.hid (rotv_25 x hx).2
  go_enter Try.func77, Try.ntmps77
  go_wp2
  go_ret
  exact ⟨rint HO.out, rfl⟩
theorem mix_6 (x : Nat) (w : World) (hx : x < 4294967296) : Calls Try.prog 74 #[.int .u32 x, .int .i64 6, .int .i64 11, .int .i64 25] w fun e w' => e = .returned (.int .u32 (sg 6 11 25 x : Nat)) ∧ w = w' := by
  have ha := rot_lt (n := 6) hx
  have hb := rot_lt (n := 11) hx
  have hc := rot_lt (n := 25) hx
  have HX := Lib.hid (u32_xor_nat _ _ ha hb)
  have HY := Lib.hid (u32_xor_nat _ _ (xor_lt32 ha hb) hc)
  obtain ⟨A, hA⟩ : ∃ A, A = rot 6 x := ⟨_, rfl⟩
  obtain ⟨B, hB⟩ : ∃ B, B = rot 11 x := ⟨_, rfl⟩
  obtain ⟨C, hC⟩ : ∃ C, C = rot 25 x := ⟨_, rfl⟩
  have HS : Hid (sg 6 11 25 x = A ^^^ B ^^^ C) := Lib.hid (by rw [hA, hB, hC]; rfl)
  rw [← hA, ← hB] at HX
  rw [← hA, ← hB, ← hC] at HY
  rw [← hA] at ha
  rw [← hB] at hb
  rw [← hC] at hc
  have HA := Lib.hid hA
  have HB := Lib.hid hB
  have HC := Lib.hid hC
  clear hA hB hC
  go_enter Try.func74, Try.ntmps74
  go_wp2_with fail
  refine (rotl_6 x _ hx).mono ?_
  rintro e w1 ⟨rfl, rfl⟩
  rw [← HA.out]
  go_wp2_with fail
  refine (rotl_11 x _ hx).mono ?_
  rintro e w1 ⟨rfl, rfl⟩
  rw [← HB.out]
  go_wp2_with fail
  refine (rotl_25 x _ hx).mono ?_
  rintro e w1 ⟨rfl, rfl⟩
  rw [← HC.out]
  go_wp2
  go_ret
  exact ⟨rint (by rw [HX.out, HY.out, HS.out]), rfl⟩
theorem mix_2 (x : Nat) (w : World) (hx : x < 4294967296) : Calls Try.prog 74 #[.int .u32 x, .int .i64 2, .int .i64 13, .int .i64 22] w fun e w' => e = .returned (.int .u32 (sg 2 13 22 x : Nat)) ∧ w = w' := by
  have ha := rot_lt (n := 2) hx
  have hb := rot_lt (n := 13) hx
  have hc := rot_lt (n := 22) hx
  have HX := Lib.hid (u32_xor_nat _ _ ha hb)
  have HY := Lib.hid (u32_xor_nat _ _ (xor_lt32 ha hb) hc)
  obtain ⟨A, hA⟩ : ∃ A, A = rot 2 x := ⟨_, rfl⟩
  obtain ⟨B, hB⟩ : ∃ B, B = rot 13 x := ⟨_, rfl⟩
  obtain ⟨C, hC⟩ : ∃ C, C = rot 22 x := ⟨_, rfl⟩
  have HS : Hid (sg 2 13 22 x = A ^^^ B ^^^ C) := Lib.hid (by rw [hA, hB, hC]; rfl)
  rw [← hA, ← hB] at HX
  rw [← hA, ← hB, ← hC] at HY
  rw [← hA] at ha
  rw [← hB] at hb
  rw [← hC] at hc
  have HA := Lib.hid hA
  have HB := Lib.hid hB
  have HC := Lib.hid hC
  clear hA hB hC
  go_enter Try.func74, Try.ntmps74
  go_wp2_with fail
  refine (rotl_2 x _ hx).mono ?_
  rintro e w1 ⟨rfl, rfl⟩
  rw [← HA.out]
  go_wp2_with fail
  refine (rotl_13 x _ hx).mono ?_
  rintro e w1 ⟨rfl, rfl⟩
  rw [← HB.out]
  go_wp2_with fail
  refine (rotl_22 x _ hx).mono ?_
  rintro e w1 ⟨rfl, rfl⟩
  rw [← HC.out]
  go_wp2
  go_ret
  exact ⟨rint (by rw [HX.out, HY.out, HS.out]), rfl⟩
end Go.Proofs.Ytanehgnpominiaa

