/-
  How long the first chunk is: the law's.
-/
import Derived.Test.YtmjcbkjihdbhoaaA
set_option linter.unusedVariables false
set_option linter.unusedSimpArgs false
namespace Go.Proofs.Ytmjcbkjihdbhoaa
open Go.RowKit
/-- Does the chunk end behind n bytes? -/
def stops (s : ByteArray) (m : Int) (n : Nat) : Prop := bits .and .u32 (sumR (s.extract 0 n) : Nat) m = 0
instance (s : ByteArray) (m : Int) (n : Nat) : Decidable (stops s m n) := by unfold stops; exact inferInstance
def fstK (s : ByteArray) (m : Int) : Nat → Nat → Nat
  | n, 0 => n
  | n, k + 1 => if stops s m n then n else fstK s m (n + 1) k
def fstR (s : ByteArray) (a b : Nat) (m : Int) : Nat := fstK s m (min a (min b s.size)) (min b s.size - min a (min b s.size))
theorem fstK_le (s : ByteArray) (m : Int) : ∀ (k n : Nat), n ≤ fstK s m n k ∧ fstK s m n k ≤ n + k
  | 0, n => ⟨Nat.le_refl _, Nat.le_refl _⟩
  | k + 1, n => by
    unfold fstK
    split
    · omega
    · have := fstK_le s m k (n + 1); omega
set_option maxHeartbeats 4000000 in
theorem first_any (s : ByteArray) (a b : Nat) (m : Int) (w : World) (hs : s.size ≤ 100000) (ha : a ≤ 5000) (hb : b ≤ 5000) : Calls Try.prog 7 #[.string s, .int .i64 a, .int .i64 b, .int .u32 m] w fun e w' => e = .returned (.int .i64 (fstR s a b m : Nat)) ∧ w' = w := by
  obtain ⟨R, hR⟩ : ∃ R, R = fstR s a b m := ⟨_, rfl⟩
  rw [← hR]
  go_enter Try.func7, Try.ntmps7
  go_wp2
  go_loop [9] (fun i => ∃ j : Nat, i = .int .i64 j ∧ ((j = a ∧ min b s.size ≤ a) ∨ (a ≤ j ∧ j ≤ min b s.size)) ∧ R = fstK s m (min j (min b s.size)) (min b s.size - min j (min b s.size))) (fun i => min b s.size - (intOf i).toNat)
  case atStart => exact ⟨a, rfl, by omega, hR⟩
  case round =>
    obtain ⟨j, rfl, hj, hr⟩ := hrel
    by_cases h1 : j < b
    · by_cases h2 : j < s.size
      · have T := lawsum_any (s.extract 0 j) w (by rw [ByteArray.size_extract]; omega)
        have h3 : (j : Int) ≤ (s.size : Int) := by omega
        have hmj : min j (min b s.size) = j := by omega
        rw [hmj, show min b s.size - j = (min b s.size - (j + 1)) + 1 by omega] at hr
        have hRN := Lib.hid hr
        clear hr hR
        by_cases hS : bits .and .u32 (sumR (s.extract 0 j) : Nat) m = 0
        · have HR : Hid (R = j) := Lib.hid (by rw [hRN.out]; unfold fstK; rw [if_pos (show stops s m j from hS)])
          go_wp2_with fail
          refine T.mono ?_
          rintro e w1 ⟨rfl, rfl⟩
          generalize sumR (s.extract 0 j) = X at *
          go_wp2
          go_ret
          exact ⟨rint (by rw [HR.out]), rfl⟩
        · have HR : Hid (R = fstK s m (j + 1) (min b s.size - (j + 1))) := Lib.hid (by rw [hRN.out]; conv => lhs; unfold fstK; rw [if_neg (show ¬ stops s m j from hS)])
          go_wp2_with fail
          refine T.mono ?_
          rintro e w1 ⟨rfl, rfl⟩
          generalize sumR (s.extract 0 j) = X at *
          go_wp2
          go_round
          case rel => exact ⟨j + 1, by go_num, by omega, by rw [HR.out]; congr 1 <;> omega⟩
          case measure => simp [intOf]; omega
      · have hE : Hid (R = min b s.size) := Lib.hid (by
          rw [hr, show min b s.size - min j (min b s.size) = 0 by omega]
          show min j (min b s.size) = _
          omega)
        have h3 : (s.size : Int) ≤ (j : Int) := by omega
        have h4 : (s.size : Int) < (b : Int) := by omega
        have h5 : ¬ (b : Int) ≤ (s.size : Int) := by omega
        clear hr hR
        go_wp2
        go_ret
        exact ⟨rint (by rw [hE.out]; omega), rfl⟩
    · have hE : Hid (R = min b s.size) := Lib.hid (by
        rw [hr, show min b s.size - min j (min b s.size) = 0 by omega]
        show min j (min b s.size) = _
        omega)
      have hjb : (b : Int) ≤ (j : Int) := by omega
      clear hr hR
      by_cases h5 : (b : Int) ≤ (s.size : Int)
      · go_wp2
        go_ret
        exact ⟨rint (by rw [hE.out]; omega), rfl⟩
      · go_wp2
        go_ret
        exact ⟨rint (by rw [hE.out]; omega), rfl⟩
end Go.Proofs.Ytmjcbkjihdbhoaa

