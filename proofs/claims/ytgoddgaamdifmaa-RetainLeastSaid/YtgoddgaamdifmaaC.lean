/-
  The contracts of both Dues.
-/
import Derived.Test.YtgoddgaamdifmaaB
set_option linter.unusedVariables false
set_option linter.unusedSimpArgs false
namespace Go.Proofs.Ytgoddgaamdifmaa
open Go.RowKit Ieee
theorem read_bound {x : Nat} {s : Bool} {m : Nat} {i : Int} (h : double.read x = .number s m i) : m ≤ 9007199254740991 ∧ i ≤ 971 := by
  unfold Format.read at h
  simp only [fd_bi, fd_ir, fd_sw, fd_lp] at h
  split at h
  · simp only [Datum.number.injEq] at h
    omega
  · split at h
    · simp only [Datum.number.injEq] at h
      omega
    · split at h <;> cases h
theorem max_read : double.read 9218868437227405311 = .number false 9007199254740991 971 := by decide +kernel
theorem shl_le (a k : Nat) : a ≤ a <<< k := by
  rw [Nat.shiftLeft_eq]
  exact Nat.le_mul_of_pos_right _ (Nat.two_pow_pos _)
theorem inf_only {x : Nat} (h : infB x = true) : double.read x = .infinity false := by
  unfold infB at h
  have h1 : ((double.read x).order (double.read 9218868437227405311) == some .gt) = true := h
  rw [max_read] at h1
  cases hx : double.read x with
  | nan s f => rw [hx] at h1; cases h1
  | infinity s =>
    cases s with
    | false => rfl
    | true => rw [hx] at h1; cases h1
  | number s m i =>
    obtain ⟨b1, b2⟩ := read_bound hx
    rw [hx] at h1
    unfold Datum.order at h1
    simp only [beq_iff_eq, Option.some.injEq] at h1
    exfalso
    have e : min i 971 = i := by omega
    rw [e, Int.sub_self, Int.compare_eq_gt] at h1
    have h2 := shl_le 9007199254740991 (971 - i).toNat
    unfold signed at h1
    simp only [Bool.false_eq_true, if_false, Int.toNat_zero, Nat.shiftLeft_zero] at h1
    generalize 9007199254740991 <<< (971 - i).toNat = z at *
    split at h1 <;> omega
theorem inf_lt {x : Nat} (y : Nat) (h : infB x = true) : (FloatKind.f64.format.order x y == some .lt) = false := by
  show ((double.read x).order (double.read y) == some .lt) = false
  rw [inf_only h]
  cases double.read y with
  | nan s f => rfl
  | infinity s => cases s <;> decide
  | number s m i => rfl
def ltF (x y : Nat) : Bool := FloatKind.f64.format.order x y == some .lt
theorem ltF_nan {x : Nat} (y : Nat) (h : isN x = true) : ltF x y = false := by unfold ltF; rw [order_nan y h]; rfl
theorem ltF_nan2 (x : Nat) {y : Nat} (h : isN y = true) : ltF x y = false := by unfold ltF; rw [order_nan2 x h]; rfl
def dueB (l : List Nat) (y : Nat) : Bool := decide (0 < l.length) && ltF (l.getD (bestK l l.length) 0) y
set_option maxRecDepth 100000 in
set_option maxHeartbeats 4000000 in
theorem due_any (l : List Nat) (y : Nat) (a : Option Addr) (cap : Nat) (w : World) (hs : Sl fltC 1 w a l) (hok : fltOk l) (hl : l.length ≤ 40) :
    Calls Try.prog 13 #[.slice a l.length cap, .float .f64 y] w fun e w' => e = .returned (.bool (dueB l y)) ∧ ∃ n, w' = w.drewN n := by
  have T := Lib.hid (best_any l a cap w hs hok hl)
  by_cases h0 : 0 < l.length
  · have hb := bestK_lt l l.length h0
    obtain ⟨b, o, rfl, hb1, c1⟩ := flt_at hs (bestK l l.length) hb
    have HD : Hid (dueB l y = ltF (l.getD (bestK l l.length) 0) y) := Lib.hid (by unfold dueB; rw [decide_eq_true h0]; rfl)
    rw [decide_eq_true (show (0 : Int) < (l.length : Int) by omega)] at T
    obtain ⟨L, hL⟩ : ∃ L, L = l.length := ⟨_, rfl⟩
    rw [← hL] at T c1 HD hb hl ⊢
    obtain ⟨B, hB⟩ : ∃ B, B = bestK l L := ⟨_, rfl⟩
    rw [← hB] at T c1 HD hb
    obtain ⟨X, hX⟩ : ∃ X, X = l.getD B 0 := ⟨_, rfl⟩
    rw [← hX] at c1 HD
    clear hL hB hX hs hok h0 hb1
    have HC := Lib.hid c1
    clear c1
    have d4 : (B : Int) < (L : Int) := by omega
    cases hx : isN X with
    | true =>
      have HF : Hid (dueB l y = false) := Lib.hid (by rw [HD.out, ltF_nan y hx])
      have HX := Lib.hid hx
      clear hx HD
      go_enter Try.func13, Try.ntmps13
      go_wp2_with fail
      refine T.out.mono ?_
      rintro e w1 ⟨rfl, n, rfl⟩
      have c1 : (w.drewN n).cell? ⟨b, o + B, none⟩ = some (.float .f64 X) := HC.out
      go_wp2_with fail
      refine (isnan_any X _).mono ?_
      rintro e w' ⟨rfl, rfl⟩
      rw [HX.out]
      go_wp2
      go_ret
      exact ⟨by rw [HF.out]; rfl, n, rfl⟩
    | false =>
      have HX := Lib.hid hx
      clear hx
      cases hi : infB X with
      | true =>
        have HF : Hid (dueB l y = false) := Lib.hid (by rw [HD.out]; exact inf_lt y hi)
        have HI := Lib.hid hi
        clear hi HD
        go_enter Try.func13, Try.ntmps13
        go_wp2_with fail
        refine T.out.mono ?_
        rintro e w1 ⟨rfl, n, rfl⟩
        have c1 : (w.drewN n).cell? ⟨b, o + B, none⟩ = some (.float .f64 X) := HC.out
        go_wp2_with fail
        refine (isnan_any X _).mono ?_
        rintro e w' ⟨rfl, rfl⟩
        rw [HX.out]
        go_wp2_with fail
        refine (isinf_any X _).mono ?_
        rintro e w' ⟨rfl, rfl⟩
        rw [HI.out]
        go_wp2
        go_ret
        exact ⟨by rw [HF.out]; rfl, n, rfl⟩
      | false =>
        have HI := Lib.hid hi
        clear hi
        cases hy : isN y with
        | true =>
          have HF : Hid (dueB l y = false) := Lib.hid (by rw [HD.out, ltF_nan2 X hy])
          have HY := Lib.hid hy
          clear hy HD
          go_enter Try.func13, Try.ntmps13
          go_wp2_with fail
          refine T.out.mono ?_
          rintro e w1 ⟨rfl, n, rfl⟩
          have c1 : (w.drewN n).cell? ⟨b, o + B, none⟩ = some (.float .f64 X) := HC.out
          go_wp2_with fail
          refine (isnan_any X _).mono ?_
          rintro e w' ⟨rfl, rfl⟩
          rw [HX.out]
          go_wp2_with fail
          refine (isinf_any X _).mono ?_
          rintro e w' ⟨rfl, rfl⟩
          rw [HI.out]
          go_wp2_with fail
          refine (isnan_any y _).mono ?_
          rintro e w' ⟨rfl, rfl⟩
          rw [HY.out]
          go_wp2
          go_ret
          exact ⟨by rw [HF.out]; rfl, n, rfl⟩
        | false =>
          have HY := Lib.hid hy
          clear hy
          have h9 : (FloatKind.f64.format.order X y == some .lt) = ltF X y := rfl
          go_enter Try.func13, Try.ntmps13
          go_wp2_with fail
          refine T.out.mono ?_
          rintro e w1 ⟨rfl, n, rfl⟩
          have c1 : (w.drewN n).cell? ⟨b, o + B, none⟩ = some (.float .f64 X) := HC.out
          go_wp2_with fail
          refine (isnan_any X _).mono ?_
          rintro e w' ⟨rfl, rfl⟩
          rw [HX.out]
          go_wp2_with fail
          refine (isinf_any X _).mono ?_
          rintro e w' ⟨rfl, rfl⟩
          rw [HI.out]
          go_wp2_with fail
          refine (isnan_any y _).mono ?_
          rintro e w' ⟨rfl, rfl⟩
          rw [HY.out]
          go_wp2
          go_ret
          exact ⟨by rw [HD.out]; rfl, n, rfl⟩
  · have HF : Hid (dueB l y = false) := Lib.hid (by unfold dueB; rw [decide_eq_false h0]; rfl)
    rw [decide_eq_false (show ¬ (0 : Int) < (l.length : Int) by omega)] at T
    generalize bestK l l.length = B at T
    obtain ⟨L, hL⟩ : ∃ L, L = l.length := ⟨_, rfl⟩
    rw [← hL] at T ⊢
    clear hL hs hok h0 hl
    go_enter Try.func13, Try.ntmps13
    go_wp2_with fail
    refine T.out.mono ?_
    rintro e w1 ⟨rfl, n, rfl⟩
    go_wp2
    go_ret
    exact ⟨by rw [HF.out]; rfl, n, rfl⟩
set_option maxRecDepth 100000 in
set_option maxHeartbeats 4000000 in
theorem rdue_any (l : List Nat) (y : Nat) (a : Option Addr) (cap : Nat) (w : World) (hs : Sl fltC 1 w a l) (hok : fltOk l) (hl : l.length ≤ 40) :
    Calls Try.prog 14 #[.slice a l.length cap, .float .f64 y] w fun e w' => e = .returned (.bool (dueB l y)) ∧ ∃ n, w' = w.drewN n := by
  have T := Lib.hid (rbest_any l a cap w hs hok hl)
  have ny := ne_some_of y
  by_cases h0 : 0 < l.length
  · have hb := bestK_lt l l.length h0
    obtain ⟨b, o, rfl, hb1, c1⟩ := flt_at hs (bestK l l.length) hb
    have HD : Hid (dueB l y = ltF (l.getD (bestK l l.length) 0) y) := Lib.hid (by unfold dueB; rw [decide_eq_true h0]; rfl)
    rw [decide_eq_true (show (0 : Int) < (l.length : Int) by omega)] at T
    obtain ⟨L, hL⟩ : ∃ L, L = l.length := ⟨_, rfl⟩
    rw [← hL] at T c1 HD hb hl h0 ⊢
    obtain ⟨B, hB⟩ : ∃ B, B = bestK l L := ⟨_, rfl⟩
    rw [← hB] at T c1 HD hb
    obtain ⟨X, hX⟩ : ∃ X, X = l.getD B 0 := ⟨_, rfl⟩
    rw [← hX] at c1 HD
    clear hL hB hX hs hok hb1
    have HC := Lib.hid c1
    clear c1
    have d4 : (B : Int) < (L : Int) := by omega
    have d5 : ((L : Int) == 0) = false := by
      rw [beq_eq_false_iff_ne]; omega
    clear h0
    cases hy : isN y with
    | true =>
      have HF : Hid (dueB l y = false) := Lib.hid (by rw [HD.out, ltF_nan2 X hy])
      rw [hy] at ny
      clear hy HD
      go_enter Try.func14, Try.ntmps14
      go_wp2
      go_ret
      exact ⟨by rw [HF.out]; rfl, 0, rfl⟩
    | false =>
      rw [hy] at ny
      clear hy
      have nx := eq_some_of X
      cases hx : isN X with
      | true =>
        have HF : Hid (dueB l y = false) := Lib.hid (by rw [HD.out, ltF_nan y hx])
        rw [hx] at nx
        clear hx HD
        go_enter Try.func14, Try.ntmps14
        go_wp2_with fail
        refine T.out.mono ?_
        rintro e w1 ⟨rfl, n, rfl⟩
        have c1 : (w.drewN n).cell? ⟨b, o + B, none⟩ = some (.float .f64 X) := HC.out
        go_wp2
        go_ret
        exact ⟨by rw [HF.out]; rfl, n, rfl⟩
      | false =>
        rw [hx] at nx
        clear hx
        have h9 : (FloatKind.f64.format.order X y == some .lt) = ltF X y := rfl
        go_enter Try.func14, Try.ntmps14
        go_wp2_with fail
        refine T.out.mono ?_
        rintro e w1 ⟨rfl, n, rfl⟩
        have c1 : (w.drewN n).cell? ⟨b, o + B, none⟩ = some (.float .f64 X) := HC.out
        go_wp2
        go_ret
        exact ⟨by rw [HD.out]; rfl, n, rfl⟩
  · have HF : Hid (dueB l y = false) := Lib.hid (by unfold dueB; rw [decide_eq_false h0]; rfl)
    obtain rfl : l = [] := List.eq_nil_of_length_eq_zero (by omega)
    clear T h0 hs hok hl ny
    simp only [List.length_nil]
    go_enter Try.func14, Try.ntmps14
    go_wp2
    go_ret
    exact ⟨by rw [HF.out]; rfl, 0, rfl⟩
end Go.Proofs.Ytgoddgaamdifmaa

