/-
  The contract of sieve's Count.
-/
import Derived.Test.YtogpjoenfcleoaaF
set_option linter.unusedVariables false
set_option linter.unusedSimpArgs false
namespace Go.Proofs.Ytogpjoenfcleoaa
open Go.RowKit
set_option maxHeartbeats 2000000 in
theorem count_any (p : Nat) (m : List Bool) (b t : Int) (w : World) (h : Bk p (svC m b t) w) (hm : m.length = 4096) : Calls Try.prog 10 #[.pointer (some ⟨p, 0, none⟩)] w fun e w' => e = .returned (.int .i64 (cntM m 4096 : Nat)) ∧ w = w' := by
  have HLD := Lib.hid (sv_load h hm)
  have HIX := Lib.hid (fun k hk => sv_index m hm k hk)
  have HSC := Lib.hid (cntM_succ m)
  have HLE := Lib.hid (cntM_le m)
  have HML := Lib.hid hm
  obtain ⟨Z, hZ⟩ : ∃ Z, Z = (m.map Value.bool).toArray := ⟨_, rfl⟩
  rw [← hZ] at HLD HIX
  clear hZ h hm
  go_enter Try.func10, Try.ntmps10
  go_wp2_with (refine Go.Proofs.Ytogpjoenfcleoaa.wpList_load_run (by rfl) 36 _ (by rfl) (by rfl) HLD.out ?_)
  go_loop [3, 12] (fun c i => ∃ k : Nat, i = .int .i64 k ∧ k ≤ 4096 ∧ c = .int .i64 (cntM m k : Nat)) (fun _ i => 4096 - (intOf i).toNat)
  case atStart => exact ⟨0, rfl, by omega, rfl⟩
  case round =>
    obtain ⟨k, rfl, hk, rfl⟩ := hrel
    have hle := HLE.out k
    by_cases hkt : k < 4096
    · have d1 : (k : Int) < 4096 := by omega
      have hix := HIX.out k hkt
      have hsc := HSC.out k (by rw [HML.out]; exact hkt)
      obtain ⟨c, hc⟩ : ∃ c, c = cntM m k := ⟨_, rfl⟩
      rw [← hc] at hle hsc ⊢
      cases hb : m.getD k false with
      | true =>
        have HS : Hid (cntM m (k + 1) = c + 1) := Lib.hid (by rw [hsc, hb]; rfl)
        simp only [hb] at hix
        clear hsc hb hc
        go_wp2
        go_round
        case rel => exact ⟨k + 1, vint (by omega), by omega, by rw [HS.out]; exact vint (by omega)⟩
        case measure => simp [intOf]; omega
      | false =>
        have HS : Hid (cntM m (k + 1) = c) := Lib.hid (by rw [hsc, hb]; rfl)
        simp only [hb] at hix
        clear hsc hb hc
        go_wp2
        go_round
        case rel => exact ⟨k + 1, vint (by omega), by omega, by rw [HS.out]⟩
        case measure => simp [intOf]; omega
    · obtain rfl : k = 4096 := by omega
      go_wp2
      go_ret
      exact ⟨rfl, rfl⟩
end Go.Proofs.Ytogpjoenfcleoaa

