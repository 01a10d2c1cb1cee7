/-
  The contracts of both Scores.
-/
import Derived.Test.YtgoddgaamdifmaaFloatB
set_option linter.unusedVariables false
set_option linter.unusedSimpArgs false
namespace Go.Proofs.Ytgoddgaamdifmaa
open Go.RowKit Ieee
def scoreN (x y : Nat) : Nat := if isN x = true ∨ isN y = true then 9221120237041090561 else if zB x = true ∨ zB y = true then 0 else rawN ((double.mul x y).getD 0)
theorem zero_read : double.read 0 = .number false 0 (-1074) := by decide +kernel
theorem zB_zero {x : Nat} {s : Bool} {i : Int} (h : double.read x = .number s 0 i) : zB x = true := by
  unfold zB
  show ((double.read x).order (double.read 0) == some .eq) = true
  rw [h, zero_read]
  unfold Datum.order
  simp [signed, compare, compareOfLessAndEq]
theorem mul_some {x y : Nat} (hx : isN x = false) (hy : isN y = false) (zx : zB x = false) (zy : zB y = false) : ∃ r, double.mul x y = some r := by
  unfold Format.mul
  have : ∃ d, (double.read x).product (double.read y) = some d := by
    rcases read_num hx with ⟨s, ex⟩ | ⟨s, m, i, ex⟩ <;> rcases read_num hy with ⟨t, ey⟩ | ⟨t, n, j, ey⟩
    · rw [ex, ey]; exact ⟨_, rfl⟩
    · have hn : n ≠ 0 := by
        rintro rfl
        rw [zB_zero ey] at zy; cases zy
      rw [ex, ey]; exact ⟨_, by simp only [Datum.product]; rw [if_neg hn]⟩
    · have hm : m ≠ 0 := by
        rintro rfl
        rw [zB_zero ex] at zx; cases zx
      rw [ex, ey]; exact ⟨_, by simp only [Datum.product]; rw [if_neg hm]⟩
    · rw [ex, ey]; exact ⟨_, rfl⟩
  obtain ⟨d, e⟩ := this
  exact ⟨_, by rw [e]; rfl⟩
theorem nan_any (w : World) : Calls Try.prog 23 #[] w fun e w' => e = .returned (.float .f64 9221120237041090561) ∧ w = w' := by
  have hc : ∀ w, (callFunc 17 #[.int .u64 9221120237041090561]).run Try.prog w = .ok (.value (.float .f64 9221120237041090561)) w := call_from 9221120237041090561
  go_enter Try.func23, Try.ntmps23
  go_wp2
  go_ret
  exact ⟨rfl, rfl⟩
theorem num_any (n : Nat) (w : World) : Calls Try.prog 7 #[.int .u64 (n : Int)] w fun e w' => e = .returned (.float .f64 n) ∧ w = w' := by
  have hc := call_from n
  go_enter Try.func7, Try.ntmps7
  go_wp2
  go_ret
  exact ⟨rfl, rfl⟩
set_option maxHeartbeats 2000000 in
theorem of_nan (w : World) : Calls Try.prog 25 #[.int .u64 18444492273895866369] w fun e w' => e = .returned (.float .f64 9221120237041090561) ∧ w = w' := by
  have hc : ∀ w, (callFunc 17 #[.int .u64 9221120237041090561]).run Try.prog w = .ok (.value (.float .f64 9221120237041090561)) w := call_from 9221120237041090561
  have T := Lib.hid (rclean_any 9221120237041090561 w)
  rw [show rawN 9221120237041090561 = 9221120237041090561 from by decide] at T
  go_enter Try.func25, Try.ntmps25
  go_wp2_with fail
  refine T.out.mono ?_
  rintro e w' ⟨rfl, rfl⟩
  go_wp2
  go_ret
  exact ⟨rfl, rfl⟩
set_option maxHeartbeats 4000000 in
theorem score_any (x y : Nat) (w : World) : Calls Try.prog 11 #[.float .f64 x, .float .f64 y] w fun e w' => e = .returned (.float .f64 (scoreN x y)) ∧ w = w' := by
  have TN := Lib.hid (fun w => clean_any 9221120237041090561 w)
  rw [show rawN 9221120237041090561 = 9221120237041090561 from by decide] at TN
  cases hx : isN x with
  | true =>
    have HR : Hid (scoreN x y = 9221120237041090561) := Lib.hid (by unfold scoreN; rw [if_pos (Or.inl hx)])
    have HX := Lib.hid hx
    clear hx
    go_enter Try.func11, Try.ntmps11
    go_wp2_with fail
    refine (isnan_any x w).mono ?_
    rintro e w' ⟨rfl, rfl⟩
    rw [HX.out]
    go_wp2_with fail
    refine (nan_any w).mono ?_
    rintro e w' ⟨rfl, rfl⟩
    go_wp2_with fail
    refine (TN.out w).mono ?_
    rintro e w' ⟨rfl, rfl⟩
    go_wp2
    go_ret
    exact ⟨by rw [HR.out]; rfl, rfl⟩
  | false =>
    cases hy : isN y with
    | true =>
      have HR : Hid (scoreN x y = 9221120237041090561) := Lib.hid (by unfold scoreN; rw [if_pos (Or.inr hy)])
      have HX := Lib.hid hx; have HY := Lib.hid hy
      clear hx hy
      go_enter Try.func11, Try.ntmps11
      go_wp2_with fail
      refine (isnan_any x w).mono ?_
      rintro e w' ⟨rfl, rfl⟩
      rw [HX.out]
      go_wp2_with fail
      refine (isnan_any y w).mono ?_
      rintro e w' ⟨rfl, rfl⟩
      rw [HY.out]
      go_wp2_with fail
      refine (nan_any w).mono ?_
      rintro e w' ⟨rfl, rfl⟩
      go_wp2_with fail
      refine (TN.out w).mono ?_
      rintro e w' ⟨rfl, rfl⟩
      go_wp2
      go_ret
      exact ⟨by rw [HR.out]; rfl, rfl⟩
    | false =>
      have HNN : Hid (¬ (isN x = true ∨ isN y = true)) := Lib.hid (by rw [hx, hy]; simp)
      cases zx : zB x with
      | true =>
        have HR : Hid (scoreN x y = 0) := Lib.hid (by unfold scoreN; rw [if_neg HNN.out, if_pos (Or.inl zx)])
        have HX := Lib.hid hx; have HY := Lib.hid hy; have ZX := Lib.hid zx
        clear hx hy zx
        go_enter Try.func11, Try.ntmps11
        go_wp2_with fail
        refine (isnan_any x w).mono ?_
        rintro e w' ⟨rfl, rfl⟩
        rw [HX.out]
        go_wp2_with fail
        refine (isnan_any y w).mono ?_
        rintro e w' ⟨rfl, rfl⟩
        rw [HY.out]
        go_wp2_with fail
        refine (nought_any x w).mono ?_
        rintro e w' ⟨rfl, rfl⟩
        rw [ZX.out]
        go_wp2
        go_ret
        exact ⟨by rw [HR.out]; rfl, rfl⟩
      | false =>
        cases zy : zB y with
        | true =>
          have HR : Hid (scoreN x y = 0) := Lib.hid (by unfold scoreN; rw [if_neg HNN.out, if_pos (Or.inr zy)])
          have HX := Lib.hid hx; have HY := Lib.hid hy; have ZX := Lib.hid zx; have ZY := Lib.hid zy
          clear hx hy zx zy
          go_enter Try.func11, Try.ntmps11
          go_wp2_with fail
          refine (isnan_any x w).mono ?_
          rintro e w' ⟨rfl, rfl⟩
          rw [HX.out]
          go_wp2_with fail
          refine (isnan_any y w).mono ?_
          rintro e w' ⟨rfl, rfl⟩
          rw [HY.out]
          go_wp2_with fail
          refine (nought_any x w).mono ?_
          rintro e w' ⟨rfl, rfl⟩
          rw [ZX.out]
          go_wp2_with fail
          refine (nought_any y w).mono ?_
          rintro e w' ⟨rfl, rfl⟩
          rw [ZY.out]
          go_wp2
          go_ret
          exact ⟨by rw [HR.out]; rfl, rfl⟩
        | false =>
          obtain ⟨r, hr⟩ := mul_some hx hy zx zy
          have HR : Hid (scoreN x y = rawN r) := Lib.hid (by unfold scoreN; rw [if_neg HNN.out, if_neg (by rw [zx, zy]; simp), hr]; rfl)
          have hm : ∀ w : World, (binOp .mul 26 (.float .f64 x) (.float .f64 y)).run Try.prog w = .ok (.float .f64 r) w := fun w => run_float_arith (P := Try.prog) w .mul 26 .f64 x y r hr
          have HX := Lib.hid hx; have HY := Lib.hid hy; have ZX := Lib.hid zx; have ZY := Lib.hid zy
          clear hx hy zx zy hr
          go_enter Try.func11, Try.ntmps11
          go_wp2_with fail
          refine (isnan_any x w).mono ?_
          rintro e w' ⟨rfl, rfl⟩
          rw [HX.out]
          go_wp2_with fail
          refine (isnan_any y w).mono ?_
          rintro e w' ⟨rfl, rfl⟩
          rw [HY.out]
          go_wp2_with fail
          refine (nought_any x w).mono ?_
          rintro e w' ⟨rfl, rfl⟩
          rw [ZX.out]
          go_wp2_with fail
          refine (nought_any y w).mono ?_
          rintro e w' ⟨rfl, rfl⟩
          rw [ZY.out]
          go_wp2_with fail
          refine (clean_any r w).mono ?_
          rintro e w' ⟨rfl, rfl⟩
          go_wp2
          go_ret
          exact ⟨by rw [HR.out]; rfl, rfl⟩
set_option maxHeartbeats 4000000 in
theorem rscore_any (x y : Nat) (w : World) : Calls Try.prog 12 #[.float .f64 x, .float .f64 y] w fun e w' => e = .returned (.float .f64 (scoreN x y)) ∧ w = w' := by
  have nx := ne_some_of x
  have ny := ne_some_of y
  cases hx : isN x with
  | true =>
    have HR : Hid (scoreN x y = 9221120237041090561) := Lib.hid (by unfold scoreN; rw [if_pos (Or.inl hx)])
    rw [hx] at nx
    clear hx ny
    go_enter Try.func12, Try.ntmps12
    go_wp2_with fail
    refine (of_nan w).mono ?_
    rintro e w' ⟨rfl, rfl⟩
    go_wp2
    go_ret
    exact ⟨by rw [HR.out]; rfl, rfl⟩
  | false =>
    cases hy : isN y with
    | true =>
      have HR : Hid (scoreN x y = 9221120237041090561) := Lib.hid (by unfold scoreN; rw [if_pos (Or.inr hy)])
      rw [hx] at nx
      rw [hy] at ny
      clear hx hy
      go_enter Try.func12, Try.ntmps12
      go_wp2_with fail
      refine (of_nan w).mono ?_
      rintro e w' ⟨rfl, rfl⟩
      go_wp2
      go_ret
      exact ⟨by rw [HR.out]; rfl, rfl⟩
    | false =>
      have HNN : Hid (¬ (isN x = true ∨ isN y = true)) := Lib.hid (by rw [hx, hy]; simp)
      rw [hx] at nx
      rw [hy] at ny
      cases zx : zB x with
      | true =>
        have HR : Hid (scoreN x y = 0) := Lib.hid (by unfold scoreN; rw [if_neg HNN.out, if_pos (Or.inl zx)])
        have z1 : (FloatKind.f64.format.order x 0 == some .eq) = true := zx
        clear hx hy zx
        go_enter Try.func12, Try.ntmps12
        go_wp2
        go_ret
        exact ⟨by rw [HR.out]; rfl, rfl⟩
      | false =>
        have z1 : (FloatKind.f64.format.order x 0 == some .eq) = false := zx
        cases zy : zB y with
        | true =>
          have HR : Hid (scoreN x y = 0) := Lib.hid (by unfold scoreN; rw [if_neg HNN.out, if_pos (Or.inr zy)])
          have z2 : (FloatKind.f64.format.order y 0 == some .eq) = true := zy
          clear hx hy zx zy
          go_enter Try.func12, Try.ntmps12
          go_wp2
          go_ret
          exact ⟨by rw [HR.out]; rfl, rfl⟩
        | false =>
          have z2 : (FloatKind.f64.format.order y 0 == some .eq) = false := zy
          obtain ⟨r, hr⟩ := mul_some hx hy zx zy
          have HR : Hid (scoreN x y = rawN r) := Lib.hid (by unfold scoreN; rw [if_neg HNN.out, if_neg (by rw [zx, zy]; simp), hr]; rfl)
          have hm : ∀ w : World, (binOp .mul 26 (.float .f64 x) (.float .f64 y)).run Try.prog w = .ok (.float .f64 r) w := fun w => run_float_arith (P := Try.prog) w .mul 26 .f64 x y r hr
          clear hx hy zx zy hr
          go_enter Try.func12, Try.ntmps12
          go_wp2_with fail
          refine (rclean_any r w).mono ?_
          rintro e w' ⟨rfl, rfl⟩
          go_wp2
          go_ret
          exact ⟨by rw [HR.out]; rfl, rfl⟩
end Go.Proofs.Ytgoddgaamdifmaa

