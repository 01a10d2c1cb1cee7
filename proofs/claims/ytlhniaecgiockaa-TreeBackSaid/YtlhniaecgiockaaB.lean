/-
  The contracts of half, the code's and the law's own, of few and of Apart.
-/
import Derived.Test.YtlhniaecgiockaaA
import Derived.Test.YtlhniaecgiockaaTexts
import Derived.Test.YtlhniaecgiockaaShelf
import Derived.Lib.ItoaNum
set_option linter.unusedVariables false
set_option linter.unusedSimpArgs false
namespace Go.Proofs.Ytlhniaecgiockaa
open Go.RowKit
theorem bl_of (m : Nat) (h : 1 ≤ m) (h2 : m < 1099511627776) : ∃ j, Lib.bitLen m = j + 1 ∧ 2 ^ j ≤ m ∧ m < 2 ^ j * 2 ∧ j ≤ 40 := by
  obtain ⟨h3, h4, h5⟩ := Lib.bitLenAux_bounds 64 m (by omega) (by omega)
  have h6 : Lib.bitLen m = Lib.bitLenAux 64 m := rfl
  obtain ⟨j, hj⟩ : ∃ j, Lib.bitLen m = j + 1 := ⟨Lib.bitLen m - 1, by omega⟩
  rw [← h6, hj] at h3 h4 h5
  rw [Nat.add_sub_cancel] at h4
  rw [Nat.pow_succ] at h5
  refine ⟨j, hj, h4, h5, ?_⟩
  have : 2 ^ j < 2 ^ 40 := by omega
  have := (Nat.pow_lt_pow_iff_right (a := 2) (by omega)).1 this
  omega
theorem half_any (n : Nat) (w : World) (h : 2 ≤ n) (h2 : n ≤ 1099511627776) : Calls Try.prog 19 #[.int .i64 n] w fun e w' => e = .returned (.int .i64 (hf n : Nat)) ∧ w = w' := by
  obtain ⟨j, hj, hj1, hj2, hj40⟩ := bl_of (n - 1) (by omega) (by omega)
  have HF : Hid (hf n = 2 ^ j) := Lib.hid (hf_of h (by omega) (by omega))
  have T : Hid (∀ w, Calls Try.prog 27 #[.int .u64 ((n : Int) - 1)] w fun e w' => e = .returned (.int .i64 ((j : Int) + 1)) ∧ w' = w) := Lib.hid (fun w => by
    have := Try.bits_Len ((n : Int) - 1) w (by omega) (by omega)
    rw [show ((n : Int) - 1).toNat = n - 1 by omega, hj] at this
    exact this)
  have hp : (2 : Nat) ^ j ≤ 2 ^ 40 := Nat.pow_le_pow_right (by omega) hj40
  have b1 : ((n : Int) - 1) % 18446744073709551616 = (n : Int) - 1 := by omega
  have b2 : (j : Int) + 1 - 1 = j := by omega
  have b3 : (0 : Int) ≤ (j : Int) := by omega
  have hjl : j < 64 := by omega
  clear hj hj1 hj2
  go_enter Try.func19, Try.ntmps19
  go_wp2_with fail
  refine (T.out _).mono ?_
  rintro e w1 ⟨rfl, rfl⟩
  go_wp2
  go_ret
  rw [HF.out]
  refine ⟨rint ?_, rfl⟩
  have e : ((2 ^ j : Nat) : Int) = (2 : Int) ^ j := by simp [Int.natCast_pow]
  show wrap64 ((2 : Int) ^ j) = _
  rw [← e]
  obtain ⟨q, hq⟩ : ∃ q : Nat, q = 2 ^ j := ⟨_, rfl⟩
  rw [← hq] at hp ⊢
  exact wrap64_id (by omega) (by omega)
theorem rhalf_any (n : Nat) (w : World) (h : 2 ≤ n) (h2 : n ≤ 1099511627776) : Calls Try.prog 20 #[.int .i64 n] w fun e w' => e = .returned (.int .i64 (hf n : Nat)) ∧ w = w' := by
  go_enter Try.func20, Try.ntmps20
  go_wp2
  go_loop [3] (fun i => ∃ k : Nat, i = .int .i64 k ∧ k < n ∧ ∃ j, k = 2 ^ j) (fun i => n - (intOf i).toNat)
  case atStart => exact ⟨1, rfl, by omega, 0, rfl⟩
  case round =>
    obtain ⟨k, rfl, hk, j, hj⟩ := hrel
    have hk1 : 1 ≤ k := by rw [hj]; exact Nat.one_le_two_pow
    have HJ := Lib.hid hj
    clear hj
    by_cases hlt : k * 2 < n
    · have d1 : (k : Int) * 2 < (n : Int) := by omega
      go_wp2
      go_round
      case rel => exact ⟨k * 2, by go_num, by omega, j + 1, by rw [HJ.out, Nat.pow_succ]⟩
      case measure => simp [intOf]; omega
    · have d1 : ¬ (k : Int) * 2 < (n : Int) := by omega
      have HF : Hid (hf n = k) := Lib.hid (by
        have h9 := HJ.out
        rw [hf_of (j := j) h (by rw [← h9]; omega) (by rw [← h9]; omega), h9])
      go_wp2
      go_ret
      rw [HF.out]
      exact ⟨rfl, rfl⟩
def fewB (l : List ByteArray) : Bool := decide (l.length ≤ 24 ∧ ∀ s ∈ l, s.size ≤ 100)
theorem few_any (l : List ByteArray) (a : Option Addr) (c : Nat) (w : World) (h : Sl strC 1 w a l) (hl : l.length ≤ 9223372036854775807) : Calls Try.prog 6 #[.slice a l.length c] w fun e w' => e = .returned (.bool (fewB l)) ∧ w = w' := by
  have HA := Lib.hid h
  clear h
  by_cases h24 : 24 < l.length
  · have HF : Hid (fewB l = false) := Lib.hid (decide_eq_false (fun e => by omega))
    have d1 : (24 : Int) < (l.length : Int) := by omega
    go_enter Try.func6, Try.ntmps6
    go_wp2
    go_ret
    rw [HF.out]
    exact ⟨rfl, rfl⟩
  · have d1 : ¬ (24 : Int) < (l.length : Int) := by omega
    obtain ⟨F, hF⟩ : ∃ F, F = fewB l := ⟨_, rfl⟩
    rw [← hF]
    have HF := Lib.hid hF
    clear hF
    go_enter Try.func6, Try.ntmps6
    go_wp2
    go_loop [3] (fun i => ∃ k : Nat, i = .int .i64 k ∧ k ≤ l.length ∧ ∀ s ∈ l.take k, s.size ≤ 100) (fun i => l.length - (intOf i).toNat)
    case atStart => exact ⟨0, rfl, by omega, by simp⟩
    case round =>
      obtain ⟨k, rfl, hk, hs⟩ := hrel
      have HS := Lib.hid hs
      clear hs
      by_cases hlt : k < l.length
      · have e1 : (k : Int) < (l.length : Int) := by omega
        have e2 : (0 : Int) ≤ (k : Int) := by omega
        obtain ⟨b1, o1, rfl, hb1, hc1⟩ := slT_str HA.out k hlt
        by_cases hx : l[k].size ≤ 100
        · have HS2 : Hid (∀ s ∈ l.take (k + 1), s.size ≤ 100) := Lib.hid (by
            intro s hs
            rw [takeT_next l k hlt] at hs
            rcases List.mem_append.1 hs with hs | hs
            · exact HS.out s hs
            · rw [List.mem_singleton.1 hs]; exact hx)
          obtain ⟨X, hX⟩ : ∃ X, X = l[k] := ⟨_, rfl⟩
          rw [← hX] at hc1 hx
          have e3 : ¬ (100 : Int) < (X.size : Int) := by omega
          clear hX
          go_wp2
          go_round
          case rel => exact ⟨k + 1, by go_num, by omega, HS2.out⟩
          case measure => simp [intOf]; omega
        · have HN : Hid (F = false) := Lib.hid (by
            rw [HF.out]
            exact decide_eq_false (fun e => hx (e.2 _ (List.getElem_mem hlt))))
          obtain ⟨X, hX⟩ : ∃ X, X = l[k] := ⟨_, rfl⟩
          rw [← hX] at hc1 hx
          have e3 : (100 : Int) < (X.size : Int) := by omega
          clear hX
          go_wp2
          go_ret
          rw [HN.out]
          exact ⟨rfl, rfl⟩
      · obtain rfl : k = l.length := by omega
        have e1 : ¬ (l.length : Int) < (l.length : Int) := by omega
        have HN : Hid (F = true) := Lib.hid (by
          rw [HF.out]
          refine decide_eq_true ⟨by omega, fun s hs => HS.out s ?_⟩
          rw [List.take_of_length_le (Nat.le_refl _)]; exact hs)
        go_wp2
        go_ret
        rw [HN.out]
        exact ⟨rfl, rfl⟩
end Go.Proofs.Ytlhniaecgiockaa

