/-
  The contract of window.Next: the next minute that is in a pair, and none between.
-/
import Derived.Test.YtnfkhofcmjpfcaaC
namespace Go.Proofs.Ytnfkhofcmjpfcaa
open Go.RowKit
/-- What Next answers: some minute within a week, in a pair, the first one; or none. -/
def NextIs (ps : List (Int × Int)) (x : Int) (w : World) (e : Ending) (w' : World) : Prop :=
  Below w.heap.size w w' ∧
  ((∃ n : Int, e = .returned (.tuple #[.int .i64 n, .bool true]) ∧ chk ps = 0 ∧ 0 ≤ x ∧ x ≤ 1099511627776 ∧ x ≤ n ∧ n < x + 10080 ∧ anyIn ps (n % 10080) = true ∧ ∀ m, x ≤ m → m < n → anyIn ps (m % 10080) = false) ∨
   (e = .returned (.tuple #[.int .i64 0, .bool false]) ∧ (x < 0 ∨ 1099511627776 < x ∨ chk ps ≠ 0 ∨ (chk ps = 0 ∧ ∀ m, x ≤ m → m < x + 10080 → anyIn ps (m % 10080) = false))))
set_option maxHeartbeats 1000000 in
set_option maxRecDepth 100000 in
theorem next_any (a : Option Addr) (ps : List (Int × Int)) (cap : Nat) (x : Int) (w : World) (hp : Ps w a ps) :
    Calls Try.prog 10 #[.slice a ps.length cap, .int .i64 x] w (NextIs ps x w) := by
  have HP := Lib.hid hp; clear hp
  by_cases a1 : x < 0
  · go_enter Try.func10, Try.ntmps10
    go_wp2
    go_ret2
    exact ⟨Below.refl _ _, .inr ⟨rfl, .inl a1⟩⟩
  by_cases a2 : 1099511627776 < x
  · go_enter Try.func10, Try.ntmps10
    go_wp2
    go_ret2
    exact ⟨Below.refl _ _, .inr ⟨rfl, .inr (.inl a2)⟩⟩
  by_cases hc : chk ps = 0
  · have HC := Lib.hid hc
    obtain ⟨hl, hall⟩ := chk_zero hc
    have HALL := Lib.hid hall
    clear hc hall
    go_enter Try.func10, Try.ntmps10
    go_wp2_with fail
    refine (check_any _ _ _ _ HP.out).mono ?_
    rintro e w1 ⟨rfl, hb1⟩
    rw [HC.out]
    go_wp2_with fail
    go_loopw [6, 18] (fun _ i wr => ∃ k : Nat, k ≤ 10080 ∧ i = .int .i64 k ∧ (∀ m, x ≤ m → m < x + k → anyIn ps (m % 10080) = false) ∧ Below w.heap.size w wr) (fun _ i _ => 10080 - (intOf i).toNat)
    case atStart => exact ⟨0, by omega, rfl, fun m h1 h2 => by omega, hb1⟩
    case round =>
      obtain ⟨k, hk, rfl, hno, hb⟩ := hrel
      have HNO := Lib.hid hno; clear hno
      by_cases hlt : k < 10080
      · have HI := Lib.hid (in_any a ps cap ((x + k) % 10080) wr (HP.out.keep hb) HALL.out hl (by omega) (by omega))
        cases hA : anyIn ps ((x + k) % 10080) with
        | true =>
          have HA := Lib.hid hA; clear hA
          go_wp2_with fail
          refine HI.out.mono ?_
          rintro e w2 ⟨rfl, hb2⟩
          rw [HA.out]
          go_wp2_with fail
          go_ret2
          exact ⟨below_step hb (Nat.le_refl _) hb2, .inl ⟨x + k, rfl, HC.out, by omega, by omega, by omega, by omega, HA.out, HNO.out⟩⟩
        | false =>
          have HA := Lib.hid hA; clear hA
          go_wp2_with fail
          refine HI.out.mono ?_
          rintro e w2 ⟨rfl, hb2⟩
          rw [HA.out]
          go_wp2_with fail
          go_roundw
          case rel =>
            refine ⟨k + 1, by omega, by go_num, fun m h1 h2 => ?_, below_step hb (Nat.le_refl _) hb2⟩
            by_cases hm : m < x + k
            · exact HNO.out m h1 hm
            · obtain rfl : m = x + k := by omega
              exact HA.out
          case measure => simp [intOf]; omega
      · obtain rfl : k = 10080 := by omega
        go_wp2
        go_ret2
        exact ⟨hb, .inr ⟨rfl, .inr (.inr (.inr ⟨HC.out, HNO.out⟩))⟩⟩
  · have HC := Lib.hid hc
    have hc2 : (chk ps == 0) = false := beq_eq_false_iff_ne.2 hc
    have hc3 : (chk ps != 0) = true := bne_iff_ne.2 hc
    clear hc
    go_enter Try.func10, Try.ntmps10
    go_wp2_with fail
    refine (check_any _ _ _ _ HP.out).mono ?_
    rintro e w1 ⟨rfl, hb1⟩
    go_wp2_with fail
    go_ret2
    exact ⟨hb1, .inr ⟨rfl, .inr (.inr (.inl HC.out))⟩⟩
end Go.Proofs.Ytnfkhofcmjpfcaa
