/-
  The contract of sieve's New.
-/
import Derived.Test.YtogpjoenfcleoaaB0
set_option linter.unusedVariables false
set_option linter.unusedSimpArgs false
namespace Go.Proofs.Ytogpjoenfcleoaa
open Go.RowKit Go.Great
theorem new_bad (b t : Int) (w : World) (h : b < 1 ∨ 4096 < b ∨ t < 1 ∨ 16 < t) : Calls Try.prog 6 #[.int .i64 b, .int .i64 t] w fun e w' => e = .returned (.tuple #[.pointer none, .int .i64 1]) ∧ w = w' := by
  by_cases h1 : b < 1
  · go_enter Try.func6, Try.ntmps6
    go_wp2
    go_ret2
    exact ⟨rfl, rfl⟩
  · by_cases h2 : 4096 < b
    · go_enter Try.func6, Try.ntmps6
      go_wp2
      go_ret2
      exact ⟨rfl, rfl⟩
    · by_cases h3 : t < 1
      · go_enter Try.func6, Try.ntmps6
        go_wp2
        go_ret2
        exact ⟨rfl, rfl⟩
      · have h4 : 16 < t := by omega
        go_enter Try.func6, Try.ntmps6
        go_wp2
        go_ret2
        exact ⟨rfl, rfl⟩
set_option maxRecDepth 100000 in
theorem new_any (b t : Int) (w : World) (h1 : 1 ≤ b) (h2 : b ≤ 4096) (h3 : 1 ≤ t) (h4 : t ≤ 16) : Calls Try.prog 6 #[.int .i64 b, .int .i64 t] w fun e w' => e = .returned (.tuple #[.pointer (some ⟨w.heap.size, 0, none⟩), .int .i64 0]) ∧ Bk w.heap.size (svC (List.replicate 4096 false) b t) w' ∧ Below w.heap.size w w' := by
  have g1 : ¬ b < 1 := by omega
  have g2 : ¬ 4096 < b := by omega
  have g3 : ¬ t < 1 := by omega
  have g4 : ¬ 16 < t := by omega
  have hzv := zero_sv w
  have hzs : (svC (List.replicate 4096 false) 0 0).toArray.size = 4098 := by rw [List.size_toArray, svC_len, List.length_replicate]
  have hst := set_sv b t
  obtain ⟨Z, hZ⟩ : ∃ Z, Z = svC (List.replicate 4096 false) b t := ⟨_, rfl⟩
  rw [← hZ] at hst ⊢
  obtain ⟨Y, hY⟩ : ∃ Y, Y = (svC (List.replicate 4096 false) 0 0).toArray := ⟨_, rfl⟩
  rw [← hY] at hst hzv hzs
  have HST := Lib.hid hst
  clear hZ hY hst
  go_enter Try.func6, Try.ntmps6
  go_wp2
  go_ret2
  refine ⟨rfl, ?_, below_new _ _⟩
  rw [HST.out]
  have h := Bk.new w 38 Z.toArray
  simpa using h
end Go.Proofs.Ytogpjoenfcleoaa

