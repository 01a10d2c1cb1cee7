/-
  The contracts of ID and Check, the code's and the law's own.
-/
import Derived.Test.YtanehgnpominiaaHxE
set_option linter.unusedVariables false
set_option linter.unusedSimpArgs false
set_option maxRecDepth 100000
namespace Go.Proofs.Ytanehgnpominiaa
open Go.RowKit
def idV (s : ByteArray) : ByteArray := putV (sumV s)
theorem idV_size (s : ByteArray) : (idV s).size = 64 := by unfold idV; rw [putV_size, sumV_size]
theorem id_any (s : ByteArray) (w : World) (hs : s.size ≤ 1099511627000) : Calls Try.prog 26 #[.string s] w fun e w' => e = .returned (.string (idV s)) ∧ Below w.heap.size w w' := by
  have hz := sumV_size s
  unfold idV
  obtain ⟨A, hA⟩ : ∃ A, A = sumV s := ⟨_, rfl⟩
  rw [← hA] at hz ⊢
  have HA := Lib.hid hA
  clear hA
  go_enter Try.func26, Try.ntmps26
  go_wp2_with fail
  refine (sum_any s w hs).mono ?_
  rintro e w1 ⟨rfl, hb1⟩
  rw [← HA.out]
  go_wp2_with fail
  refine (put_any A w1 (by omega)).mono ?_
  rintro e w2 ⟨rfl, hb2⟩
  go_wp2
  go_ret
  exact ⟨rfl, below_step hb1 (Nat.le_refl _) hb2⟩
theorem rid_any (s : ByteArray) (w : World) (hs : s.size ≤ 1099511627000) : Calls Try.prog 27 #[.string s] w fun e w' => e = .returned (.string (idV s)) ∧ Below w.heap.size w w' := by
  have hz := sumV_size s
  unfold idV
  obtain ⟨A, hA⟩ : ∃ A, A = sumV s := ⟨_, rfl⟩
  rw [← hA] at hz ⊢
  have HA := Lib.hid hA
  clear hA
  go_enter Try.func27, Try.ntmps27
  go_wp2_with fail
  refine (rsum_any s w hs).mono ?_
  rintro e w1 ⟨rfl, hb1⟩
  rw [← HA.out]
  go_wp2_with fail
  refine (rput_any A w1 (by omega)).mono ?_
  rintro e w2 ⟨rfl, hb2⟩
  go_wp2
  go_ret
  exact ⟨rfl, below_step hb1 (Nat.le_refl _) hb2⟩
def checkX (s : ByteArray) : Int := if (readX s).2 = 0 ∧ s.size = 64 then 0 else 5
theorem readX_two (s : ByteArray) : (readX s).2 = 0 ∨ (readX s).2 = 5 := by
  unfold readX
  cases readL (byB s)
  · exact .inr rfl
  · exact .inl rfl
theorem check_any (s : ByteArray) (w : World) (hs : s.size ≤ 1099511627) : Calls Try.prog 40 #[.string s] w fun e w' => e = .returned (.int .i64 (checkX s)) ∧ Below w.heap.size w w' := by
  have h2 := readX_two s
  unfold checkX
  have T := Lib.hid (read_any s w hs)
  unfold readE at T
  obtain ⟨R, hR⟩ : ∃ R, R = readX s := ⟨_, rfl⟩
  rw [← hR] at T h2 ⊢
  clear hR
  obtain ⟨A, B⟩ := R
  simp only at h2 T ⊢
  rcases h2 with rfl | rfl
  · by_cases hz : s.size = 64
    · have d1 : (s.size : Int) = 64 := by omega
      rw [if_pos ⟨rfl, hz⟩]
      go_enter Try.func40, Try.ntmps40
      go_wp2_with fail
      refine (T.out).mono ?_
      rintro e w1 ⟨rfl, hb1⟩
      go_wp2
      go_ret
      exact ⟨rfl, hb1⟩
    · have d1 : ¬ (s.size : Int) = 64 := by omega
      rw [if_neg (fun h => hz h.2)]
      go_enter Try.func40, Try.ntmps40
      go_wp2_with fail
      refine (T.out).mono ?_
      rintro e w1 ⟨rfl, hb1⟩
      go_wp2
      go_ret
      exact ⟨rfl, hb1⟩
  · rw [if_neg (fun h => by cases h.1)]
    go_enter Try.func40, Try.ntmps40
    go_wp2_with fail
    refine (T.out).mono ?_
    rintro e w1 ⟨rfl, hb1⟩
    go_wp2
    go_ret
    exact ⟨rfl, hb1⟩
theorem rcheck_any (s : ByteArray) (w : World) (hs : s.size ≤ 1099511627) : Calls Try.prog 41 #[.string s] w fun e w' => e = .returned (.int .i64 (checkX s)) ∧ Below w.heap.size w w' := by
  have h2 := readX_two s
  unfold checkX
  have T := Lib.hid (rread_any s w hs)
  unfold readE at T
  obtain ⟨R, hR⟩ : ∃ R, R = readX s := ⟨_, rfl⟩
  rw [← hR] at T h2 ⊢
  clear hR
  obtain ⟨A, B⟩ := R
  simp only at h2 T ⊢
  rcases h2 with rfl | rfl
  · by_cases hz : s.size = 64
    · have d1 : (s.size : Int) = 64 := by omega
      rw [if_pos ⟨rfl, hz⟩]
      go_enter Try.func41, Try.ntmps41
      go_wp2_with fail
      refine (T.out).mono ?_
      rintro e w1 ⟨rfl, hb1⟩
      go_wp2
      go_ret
      exact ⟨rfl, hb1⟩
    · have d1 : ¬ (s.size : Int) = 64 := by omega
      rw [if_neg (fun h => hz h.2)]
      go_enter Try.func41, Try.ntmps41
      go_wp2_with fail
      refine (T.out).mono ?_
      rintro e w1 ⟨rfl, hb1⟩
      go_wp2
      go_ret
      exact ⟨rfl, hb1⟩
  · rw [if_neg (fun h => by cases h.1)]
    go_enter Try.func41, Try.ntmps41
    go_wp2_with fail
    refine (T.out).mono ?_
    rintro e w1 ⟨rfl, hb1⟩
    go_wp2
    go_ret
    exact ⟨rfl, hb1⟩
theorem checkX_id (s : ByteArray) : checkX (idV s) = 0 := by
  unfold checkX
  rw [if_pos]
  refine ⟨?_, idV_size s⟩
  have h : readL (byB (idV s)) = some (byB (sumV s)) := by unfold idV; rw [byB_putV, readL_put _ (byB_byte _)]
  rw [readX_ok h]
end Go.Proofs.Ytanehgnpominiaa

