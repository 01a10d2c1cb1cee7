/-
  Contracts of window.In, and of the law's in and some.
-/
import Derived.Test.YtnfkhofcmjpfcaaB
namespace Go.Proofs.Ytnfkhofcmjpfcaa
open Go.RowKit
set_option maxHeartbeats 1000000 in
theorem lawIn_any (x y n : Int) (w : World) :
    Calls Try.prog 12 #[.agg #[.int .i64 x, .int .i64 y], .int .i64 n] w fun e w' => e = .returned (.bool (lin (x, y) (n % 10080))) ∧ Below w.heap.size w w' := by
  have hb := below_new w (.cells #[.int .i64 x, .int .i64 y] 29)
  have hbd : -10080 < n.tmod 10080 ∧ n.tmod 10080 < 10080 := by rw [Int.tmod_eq_emod]; split <;> omega
  have hw : (wrap64 (n.tmod 10080 + 10080)).tmod 10080 = n % 10080 := by
    have h1 : wrap64 (n.tmod 10080 + 10080) = n.tmod 10080 + 10080 := wrap64_id (by omega) (by omega)
    rw [h1, tmod_week]
  have hw2 : wrap64 (n.tmod 10080 + 10080) = n.tmod 10080 + 10080 := wrap64_id (by omega) (by omega)
  have hw3 := tmod_week n
  have m0 : 0 ≤ n % 10080 := by omega
  have m1 : n % 10080 < 10080 := by omega
  generalize n % 10080 = m at *
  have HL : Hid (lin (x, y) m = if x < y then decide (x ≤ m ∧ m < y) else decide (x ≤ m ∨ m < y)) := Lib.hid rfl
  by_cases a : x < y
  · by_cases b : x ≤ m <;> by_cases c : m < y
    all_goals try (exfalso; omega)
    all_goals
      go_enter Try.func12, Try.ntmps12
      go_wp2
      go_ret
      refine ⟨rbool ?_, hb⟩
      rw [HL.out, if_pos (by omega)]
      first
        | (symm; exact decide_eq_true ⟨by omega, by omega⟩)
        | (symm; exact decide_eq_false (by omega))
        | (rw [decide_eq_decide]; omega)
        | simp
  · by_cases b : x ≤ m <;> by_cases c : m < y
    all_goals try (exfalso; omega)
    all_goals
      go_enter Try.func12, Try.ntmps12
      go_wp2
      go_ret
      refine ⟨rbool ?_, hb⟩
      rw [HL.out, if_neg (by omega)]
      first
        | (symm; exact decide_eq_true (by omega))
        | (symm; exact decide_eq_false (by omega))
        | (rw [decide_eq_decide]; omega)
        | simp
set_option maxHeartbeats 1000000 in
theorem some_any (a : Option Addr) (ps : List (Int × Int)) (cap : Nat) (n : Int) (w : World) (hp : Ps w a ps) (hlen : ps.length ≤ 80) :
    Calls Try.prog 9 #[.slice a ps.length cap, .int .i64 n] w fun e w' => e = .returned (.bool (some_ ps n)) ∧ Below w.heap.size w w' := by
  have HS : Hid (some_ ps n = (anyIn ps (n % 10080) && decide (chk ps = 0))) := Lib.hid rfl
  have HI : Hid (∀ x y w, Calls Try.prog 12 #[.agg #[.int .i64 x, .int .i64 y], .int .i64 n] w fun e w' => e = .returned (.bool (lin (x, y) (n % 10080))) ∧ Below w.heap.size w w') := Lib.hid (fun x y w => lawIn_any x y n w)
  generalize n % 10080 = m at *
  have HP := Lib.hid hp; clear hp
  go_enter Try.func9, Try.ntmps9
  go_wp2
  go_loopw [5, 6] (fun r i wr => ∃ k : Nat, k ≤ ps.length ∧ i = .int .i64 k ∧ r = .bool (anyIn (ps.take k) m) ∧ Below w.heap.size w wr) (fun _ i _ => ps.length - (intOf i).toNat)
  case atStart => exact ⟨0, by omega, rfl, rfl, Below.refl _ _⟩
  case round =>
    obtain ⟨k, hk, rfl, rfl, hb⟩ := hrel
    by_cases hlt : k < ps.length
    · obtain ⟨b, o, rfl, hbl, c0, c1⟩ := (HP.out.keep hb) k hlt
      have HT := Lib.hid (anyIn_take ps m k hlt)
      have HE : Hid (ps[k] = (ps[k].1, ps[k].2)) := Lib.hid rfl
      rw [HE.out] at HT
      generalize ps[k].1 = x at *
      generalize ps[k].2 = y at *
      cases hA : anyIn (ps.take k) m with
      | true =>
        have HR : Hid (anyIn (ps.take (k + 1)) m = true) := Lib.hid (by rw [HT.out, hA]; rfl)
        have HA := Lib.hid hA; clear hA
        go_wp2
        go_roundw
        case rel => exact ⟨k + 1, by omega, by go_num, vbool HR.out.symm, hb⟩
        case measure => simp [intOf]; omega
      | false =>
        have HR : Hid (anyIn (ps.take (k + 1)) m = lin (x, y) m) := Lib.hid (by rw [HT.out, hA]; rfl)
        have HA := Lib.hid hA; clear hA
        go_wp2_with fail
        refine (HI.out _ _ _).mono ?_
        rintro e w2 ⟨rfl, hb2⟩
        go_wp2_with fail
        go_roundw
        case rel => exact ⟨k + 1, by omega, by go_num, vbool HR.out.symm, below_step hb (Nat.le_refl _) hb2⟩
        case measure => simp [intOf]; omega
    · obtain rfl : k = ps.length := by omega
      rw [List.take_length]
      cases hA : anyIn ps m with
      | false =>
        have HR : Hid (some_ ps n = false) := Lib.hid (by rw [HS.out, hA]; rfl)
        have HA := Lib.hid hA; clear hA
        go_wp2
        go_ret
        exact ⟨rbool HR.out.symm, hb⟩
      | true =>
        have HR : Hid (some_ ps n = decide (chk ps = 0)) := Lib.hid (by rw [HS.out, hA]; rfl)
        have HA := Lib.hid hA; clear hA
        go_wp2_with fail
        refine (check2_any _ _ _ _ (HP.out.keep hb)).mono ?_
        rintro e w2 ⟨rfl, rfl⟩
        generalize chk ps = c at *
        have HC : Hid (decide (c = 0) = (c == 0)) := Lib.hid rfl
        go_wp2_with fail
        go_ret
        exact ⟨rbool (by rw [HR.out, HC.out]), hb⟩
set_option maxHeartbeats 1000000 in
theorem In_any (a : Option Addr) (ps : List (Int × Int)) (cap : Nat) (n : Int) (w : World) (hp : Ps w a ps) :
    Calls Try.prog 8 #[.slice a ps.length cap, .int .i64 n] w fun e w' => e = .returned (.bool (some_ ps n)) ∧ Below w.heap.size w w' := by
  have HS : Hid (some_ ps n = (anyIn ps (n % 10080) && decide (chk ps = 0))) := Lib.hid rfl
  have hbd : -10080 < n.tmod 10080 ∧ n.tmod 10080 < 10080 := by rw [Int.tmod_eq_emod]; split <;> omega
  have hw2 : wrap64 (n.tmod 10080 + 10080) = n.tmod 10080 + 10080 := wrap64_id (by omega) (by omega)
  have hw3 := tmod_week n
  have m0 : 0 ≤ n % 10080 := by omega
  have m1 : n % 10080 < 10080 := by omega
  generalize n % 10080 = m at *
  have HP := Lib.hid hp; clear hp
  by_cases hc : chk ps = 0
  · have HC := Lib.hid hc
    obtain ⟨hl, hall⟩ := chk_zero hc
    have HALL := Lib.hid hall
    clear hc hall
    go_enter Try.func8, Try.ntmps8
    go_wp2_with fail
    refine (check_any _ _ _ _ HP.out).mono ?_
    rintro e w1 ⟨rfl, hb1⟩
    rw [HC.out]
    go_wp2_with fail
    refine (in_any _ _ _ _ _ (HP.out.keep hb1) HALL.out hl (by omega) (by omega)).mono ?_
    rintro e w2 ⟨rfl, hb2⟩
    go_wp2_with fail
    go_ret
    exact ⟨rbool (by rw [HS.out, HC.out]; simp), below_cons hb1 hb2⟩
  · have HR : Hid (some_ ps n = false) := Lib.hid (by rw [HS.out, decide_eq_false hc]; simp)
    have hc2 : (chk ps == 0) = false := beq_eq_false_iff_ne.2 hc
    clear hc
    go_enter Try.func8, Try.ntmps8
    go_wp2_with fail
    refine (check_any _ _ _ _ HP.out).mono ?_
    rintro e w1 ⟨rfl, hb1⟩
    go_wp2_with fail
    go_ret
    exact ⟨rbool HR.out.symm, hb1⟩
end Go.Proofs.Ytnfkhofcmjpfcaa
