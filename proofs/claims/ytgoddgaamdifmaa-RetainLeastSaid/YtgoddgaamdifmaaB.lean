/-
  The contracts of both Bests.
-/
import Derived.Test.YtgoddgaamdifmaaA
import Derived.Deep.Draws
set_option linter.unusedVariables false
set_option linter.unusedSimpArgs false
namespace Go.Proofs.Ytgoddgaamdifmaa
open Go.RowKit
def fltC (x : Nat) : List Value := [.float .f64 x]
def fltOk (l : List Nat) : Prop := ∀ i (h : i < l.length), l[i] < 18446744073709551616
def keyL (l : List Nat) (i : Nat) : Nat := keyN (l.getD i 0)
def bestK (l : List Nat) : Nat → Nat
  | 0 => 0
  | k + 1 => if keyL l (bestK l k) ≤ keyL l k then k else bestK l k
theorem bestK_le (l : List Nat) : ∀ k, bestK l k ≤ k
  | 0 => Nat.le_refl _
  | k + 1 => by
    have := bestK_le l k
    unfold bestK; split <;> omega
theorem bestK_lt (l : List Nat) (k : Nat) (h : 0 < k) : bestK l k < k := by
  cases k with
  | zero => omega
  | succ k =>
    have := bestK_le l k
    unfold bestK; split <;> omega
theorem flt_at {w : World} {a : Option Addr} {xs : List Nat} (h : Sl fltC 1 w a xs) (i : Nat) (hi : i < xs.length) : ∃ b o, a = some ⟨b, o, none⟩ ∧ b < w.heap.size ∧ w.cell? ⟨b, o + i, none⟩ = some (.float .f64 (xs.getD i 0)) := by
  obtain ⟨b, o, ha, hlt, hc⟩ := h i hi
  refine ⟨b, o, ha, hlt, ?_⟩
  have := hc 0 _ rfl
  rw [Nat.mul_one, Nat.add_zero] at this
  rw [this, List.getD_eq_getElem?_getD, List.getElem?_eq_getElem hi]; rfl
theorem getD_lt {l : List Nat} (h : fltOk l) (i : Nat) : l.getD i 0 < 18446744073709551616 := by
  rw [List.getD_eq_getElem?_getD]
  by_cases hi : i < l.length
  · rw [List.getElem?_eq_getElem hi]; exact h i hi
  · rw [List.getElem?_eq_none (by omega)]; decide
def fitsN (x : Nat) : Prop := x < 18446744073709551616
theorem key_q (x : Nat) (w : World) (hx : fitsN x) : Calls Try.prog 18 #[.float .f64 x] w fun e w' => e = .returned (.int .u64 (keyN x)) ∧ w' = w := (key_any x w hx).mono fun _ _ ⟨h1, h2⟩ => ⟨h1, h2.symm⟩
theorem less_q (x y : Nat) (w : World) (hx : fitsN x) (hy : fitsN y) : Calls Try.prog 19 #[.float .f64 x, .float .f64 y] w fun e w' => e = .returned (.bool (decide (keyN x < keyN y))) ∧ w' = w := (less_any x y w hx hy).mono fun _ _ ⟨h1, h2⟩ => ⟨h1, h2.symm⟩
set_option maxRecDepth 100000 in
set_option maxHeartbeats 4000000 in
theorem best_any (l : List Nat) (a : Option Addr) (cap : Nat) (w : World) (hs : Sl fltC 1 w a l) (hok : fltOk l) (hl : l.length ≤ 40) :
    Calls Try.prog 8 #[.slice a l.length cap] w fun e w' => e = .returned (.tuple #[.int .i64 (bestK l l.length), .bool (decide ((0 : Int) < (l.length : Int)))]) ∧ ∃ n, w' = w.drewN n := by
  obtain ⟨L, hL⟩ : ∃ L, L = l.length := ⟨_, rfl⟩
  have HS := Lib.hid hs; have HK := Lib.hid hok; have HL := Lib.hid hL
  rw [← hL] at hl ⊢
  clear hs hok hL
  go_enter Try.func8, Try.ntmps8
  go_wp2
  go_loopw [4, 9] (fun v i wr => ∃ k : Nat, i = .int .i64 k ∧ k ≤ L ∧ v = .int .i64 (bestK l k) ∧ ∃ n, wr = w.drewN n) (fun _ i _ => L - (intOf i).toNat)
  case atStart => exact ⟨0, rfl, by omega, rfl, 0, rfl⟩
  case round =>
    obtain ⟨k, rfl, hk, rfl, hw⟩ := hrel
    have HW := Lib.hid hw
    clear hw
    by_cases hlt : k < L
    · have hbl := bestK_le l k
      have HNX : Hid (bestK l (k + 1) = if keyL l (bestK l k) ≤ keyL l k then k else bestK l k) := Lib.hid rfl
      obtain ⟨B, hB⟩ : ∃ B, B = bestK l k := ⟨_, rfl⟩
      rw [← hB] at hbl HNX ⊢
      clear hB
      obtain ⟨b, o, rfl, hb1, c1⟩ := flt_at HS.out k (by rw [← HL.out]; exact hlt)
      obtain ⟨b2, o2, e2, hb2, c2⟩ := flt_at HS.out B (by rw [← HL.out]; omega)
      simp only [Option.some.injEq, Addr.mk.injEq, and_true] at e2
      obtain ⟨rfl, rfl⟩ := e2
      replace c1 : wr.cell? ⟨b, o + k, none⟩ = some (.float .f64 (l.getD k 0)) := by obtain ⟨n, rfl⟩ := HW.out; exact c1
      replace c2 : wr.cell? ⟨b, o + B, none⟩ = some (.float .f64 (l.getD B 0)) := by obtain ⟨n, rfl⟩ := HW.out; exact c2
      have h1 : fitsN (l.getD k 0) := getD_lt HK.out k
      have h2 : fitsN (l.getD B 0) := getD_lt HK.out B
      have HX : Hid (keyL l k = keyN (l.getD k 0)) := Lib.hid rfl
      have HY : Hid (keyL l B = keyN (l.getD B 0)) := Lib.hid rfl
      generalize l.getD k 0 = X at *
      generalize l.getD B 0 = Y at *
      have d2 : (k : Int) < (L : Int) := by omega
      have d3 : (0 : Int) ≤ (B : Int) := by omega
      have d4 : (B : Int) < (L : Int) := by omega
      clear hb1 hb2
      by_cases hle : keyN Y ≤ keyN X
      · have HN2 : Hid (bestK l (k + 1) = k) := Lib.hid (by rw [HNX.out, HX.out, HY.out, if_pos hle])
        have d5 : decide (keyN Y ≤ keyN X) = true := decide_eq_true hle
        clear HNX HX HY hle
        go_wp2
        go_quiet ((go_at_call 18; exact Calls.quiet_of_same (key_q _ _ (by assumption))))
        go_wp2
        go_roundw
        case rel => exact ⟨k + 1, by go_num, by omega, by rw [HN2.out], by obtain ⟨n, rfl⟩ := HW.out; exact ⟨n + nq, by simp only [World.drewN_drewN]⟩⟩
        case measure => simp [intOf]; omega
      · have HN2 : Hid (bestK l (k + 1) = B) := Lib.hid (by rw [HNX.out, HX.out, HY.out, if_neg hle])
        have d5 : decide (keyN Y ≤ keyN X) = false := decide_eq_false hle
        clear HNX HX HY hle
        go_wp2
        go_quiet ((go_at_call 18; exact Calls.quiet_of_same (key_q _ _ (by assumption))))
        go_wp2
        go_roundw
        case rel => exact ⟨k + 1, by go_num, by omega, by rw [HN2.out], by obtain ⟨n, rfl⟩ := HW.out; exact ⟨n + nq, by simp only [World.drewN_drewN]⟩⟩
        case measure => simp [intOf]; omega
    · obtain rfl : L = k := by omega
      have hkk : ¬ (L : Int) < (L : Int) := by omega
      go_wp2
      go_ret2
      exact ⟨rfl, HW.out⟩
set_option maxRecDepth 100000 in
set_option maxHeartbeats 4000000 in
theorem rbest_any (l : List Nat) (a : Option Addr) (cap : Nat) (w : World) (hs : Sl fltC 1 w a l) (hok : fltOk l) (hl : l.length ≤ 40) :
    Calls Try.prog 9 #[.slice a l.length cap] w fun e w' => e = .returned (.tuple #[.int .i64 (bestK l l.length), .bool (decide ((0 : Int) < (l.length : Int)))]) ∧ ∃ n, w' = w.drewN n := by
  obtain ⟨L, hL⟩ : ∃ L, L = l.length := ⟨_, rfl⟩
  have HS := Lib.hid hs; have HK := Lib.hid hok; have HL := Lib.hid hL
  rw [← hL] at hl ⊢
  clear hs hok hL
  go_enter Try.func9, Try.ntmps9
  go_wp2
  go_loopw [4, 5] (fun v i wr => ∃ k : Nat, i = .int .i64 k ∧ k ≤ L ∧ v = .int .i64 (bestK l k) ∧ ∃ n, wr = w.drewN n) (fun _ i _ => L - (intOf i).toNat)
  case atStart => exact ⟨0, rfl, by omega, rfl, 0, rfl⟩
  case round =>
    obtain ⟨k, rfl, hk, rfl, hw⟩ := hrel
    have HW := Lib.hid hw
    clear hw
    by_cases hlt : k < L
    · have hbl := bestK_le l k
      have HNX : Hid (bestK l (k + 1) = if keyL l (bestK l k) ≤ keyL l k then k else bestK l k) := Lib.hid rfl
      obtain ⟨B, hB⟩ : ∃ B, B = bestK l k := ⟨_, rfl⟩
      rw [← hB] at hbl HNX ⊢
      clear hB
      obtain ⟨b, o, rfl, hb1, c1⟩ := flt_at HS.out k (by rw [← HL.out]; exact hlt)
      obtain ⟨b2, o2, e2, hb2, c2⟩ := flt_at HS.out B (by rw [← HL.out]; omega)
      simp only [Option.some.injEq, Addr.mk.injEq, and_true] at e2
      obtain ⟨rfl, rfl⟩ := e2
      replace c1 : wr.cell? ⟨b, o + k, none⟩ = some (.float .f64 (l.getD k 0)) := by obtain ⟨n, rfl⟩ := HW.out; exact c1
      replace c2 : wr.cell? ⟨b, o + B, none⟩ = some (.float .f64 (l.getD B 0)) := by obtain ⟨n, rfl⟩ := HW.out; exact c2
      have h1 : fitsN (l.getD k 0) := getD_lt HK.out k
      have h2 : fitsN (l.getD B 0) := getD_lt HK.out B
      have HX : Hid (keyL l k = keyN (l.getD k 0)) := Lib.hid rfl
      have HY : Hid (keyL l B = keyN (l.getD B 0)) := Lib.hid rfl
      generalize l.getD k 0 = X at *
      generalize l.getD B 0 = Y at *
      have T1 := Lib.hid (fun W => less_q X Y W h1 h2)
      generalize keyN X = kx at *
      generalize keyN Y = ky at *
      have d1 : (0 : Int) ≤ (k : Int) := by omega
      have d2 : (k : Int) < (L : Int) := by omega
      have d3 : (0 : Int) ≤ (B : Int) := by omega
      have d4 : (B : Int) < (L : Int) := by omega
      clear hb1 hb2 h1 h2
      by_cases hle : ky ≤ kx
      · have HN2 : Hid (bestK l (k + 1) = k) := Lib.hid (by rw [HNX.out, HX.out, HY.out, if_pos hle])
        have d5 : decide (kx < ky) = false := decide_eq_false (by omega)
        rw [d5] at T1
        clear HNX HX HY hle
        go_wp2
        go_quiet ((go_at_call 19; exact Calls.quiet_of_same (T1.out _)))
        go_wp2
        go_roundw
        case rel => exact ⟨k + 1, by go_num, by omega, by rw [HN2.out], by obtain ⟨n, rfl⟩ := HW.out; exact ⟨n + nq, by simp only [World.drewN_drewN]⟩⟩
        case measure => simp [intOf]; omega
      · have HN2 : Hid (bestK l (k + 1) = B) := Lib.hid (by rw [HNX.out, HX.out, HY.out, if_neg hle])
        have d5 : decide (kx < ky) = true := decide_eq_true (by omega)
        rw [d5] at T1
        clear HNX HX HY hle
        go_wp2
        go_quiet ((go_at_call 19; exact Calls.quiet_of_same (T1.out _)))
        go_wp2
        go_roundw
        case rel => exact ⟨k + 1, by go_num, by omega, by rw [HN2.out], by obtain ⟨n, rfl⟩ := HW.out; exact ⟨n + nq, by simp only [World.drewN_drewN]⟩⟩
        case measure => simp [intOf]; omega
    · obtain rfl : L = k := by omega
      have hkk : ¬ (L : Int) < (L : Int) := by omega
      go_wp2
      go_ret2
      exact ⟨rfl, HW.out⟩
end Go.Proofs.Ytgoddgaamdifmaa

