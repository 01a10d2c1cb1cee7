/-
  The law of BaseBack. Conditions: none.
-/
import Derived.Test.YtmfpahnncalcaaaF
set_option linter.unusedVariables false
set_option linter.unusedSimpArgs false
namespace Go.Proofs.Ytmfpahnncalcaaa
open Go.RowKit
theorem back_long (s t : ByteArray) (w : World) (h : 500 < s.size ∨ 500 < t.size) : Calls Try.prog 4 #[.string s, .string t] w fun e w' => e = .returned (.bool true) ∧ Below w.heap.size w w' := by
  by_cases h1 : 500 < s.size
  · have g1 : decide ((500 : Int) < (s.size : Int)) = true := decide_eq_true (by omega)
    go_enter Try.func4, Try.ntmps4
    go_wp2_with fail
    refine (awake_any _).mono ?_
    rintro e w1 ⟨rfl, hb⟩
    go_wp2
    go_ret
    exact ⟨rfl, hb⟩
  · have g1 : decide ((500 : Int) < (s.size : Int)) = false := decide_eq_false (by omega)
    have g2 : decide ((500 : Int) < (t.size : Int)) = true := decide_eq_true (by omega)
    go_enter Try.func4, Try.ntmps4
    go_wp2_with fail
    refine (awake_any _).mono ?_
    rintro e w1 ⟨rfl, hb⟩
    go_wp2
    go_ret
    exact ⟨rfl, hb⟩
theorem many5_le (n : Nat) (h : n ≤ 500) : many5 n ≤ 900 := by unfold many5; omega
set_option maxHeartbeats 4000000 in
theorem back_short (s t : ByteArray) (w : World) (h1 : s.size ≤ 500) (h2 : t.size ≤ 500) : Calls Try.prog 4 #[.string s, .string t] w fun e w' => e = .returned (.bool true) ∧ Below w.heap.size w w' := by
  have g1 : decide ((500 : Int) < (s.size : Int)) = false := decide_eq_false (by omega)
  have g2 : decide ((500 : Int) < (t.size : Int)) = false := decide_eq_false (by omega)
  have HR : Hid (readV (readN (bys (putT s))) = .tuple #[.string s, .int .i64 0]) := Lib.hid (by rw [read_put]; simp [readV, txt_bys])
  have HPS : Hid ((putT s).size ≤ 100000) := Lib.hid (by
    unfold putT
    rw [txt_size, List.length_map, dig_len]
    have := many5_le s.size h1
    omega)
  go_enter Try.func4, Try.ntmps4
  go_wp2_with fail
  refine (Put_any s _ (by omega)).mono ?_
  rintro e w1 ⟨rfl, hb1⟩
  have H1 := Lib.hid hb1
  clear hb1
  go_wp2_with fail
  refine (read_any (putT s) _ HPS.out).mono ?_
  rintro e w2 ⟨rfl, hb2⟩
  rw [HR.out]
  have H2 := Lib.hid (below_step H1.out (Nat.le_refl _) hb2)
  clear hb2
  cases hr : readN (bys t) with
  | none =>
    have HRN : Hid (readV (readN (bys t)) = .tuple #[.string ⟨#[]⟩, .int .i64 5]) := Lib.hid (by rw [hr]; rfl)
    clear hr
    go_wp2_with fail
    refine (read_any t _ (by omega)).mono ?_
    rintro e w3 ⟨rfl, hb3⟩
    rw [HRN.out]
    have H3 := Lib.hid (below_step H2.out (Nat.le_refl _) hb3)
    clear hb3
    go_wp2_with fail
    refine (awake_any _).mono ?_
    rintro e w4 ⟨rfl, hb4⟩
    have H4 := Lib.hid (below_step H3.out (Nat.le_refl _) hb4)
    clear hb4
    go_wp2
    go_ret
    exact ⟨rfl, H4.out⟩
  | some bs =>
    have HRN : Hid (readV (readN (bys t)) = .tuple #[.string (txt bs), .int .i64 0]) := Lib.hid (by rw [hr]; rfl)
    have HPR := Lib.hid (put_read hr)
    clear hr
    go_wp2_with fail
    refine (read_any t _ (by omega)).mono ?_
    rintro e w3 ⟨rfl, hb3⟩
    rw [HRN.out]
    have H3 := Lib.hid (below_step H2.out (Nat.le_refl _) hb3)
    clear hb3
    generalize txt bs = b at HPR ⊢
    have HE : Hid (txt ((dig (bitL (bys b)) (many5 b.size)).map letN) = t) := Lib.hid HPR.out.1
    go_wp2_with fail
    refine (put_any b _ (by have := HPR.out.2; omega)).mono ?_
    rintro e w4 ⟨rfl, hb4⟩
    rw [HE.out]
    have H4 := Lib.hid (below_step H3.out (Nat.le_refl _) hb4)
    clear hb4
    go_wp2_with fail
    refine (awake_any _).mono ?_
    rintro e w5 ⟨rfl, hb5⟩
    have H5 := Lib.hid (below_step H4.out (Nat.le_refl _) hb5)
    clear hb5
    go_wp2
    go_ret
    exact ⟨rfl, H5.out⟩
theorem back_law (s t : ByteArray) (w : World) (_h : s.size ≤ 140737488351232) (_h2 : t.size ≤ 140737488351232) : Calls Try.prog 4 #[.string s, .string t] w fun e w' => e = .returned (.bool true) ∧ Below w.heap.size w w' := by
  by_cases h : 500 < s.size ∨ 500 < t.size
  · exact back_long s t w h
  · exact back_short s t w (by omega) (by omega)
end Go.Proofs.Ytmfpahnncalcaaa
