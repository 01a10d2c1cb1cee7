/-
  The walk of WindowNext: the law's function returns true, for every input, without condition.
-/
import Derived.Test.YtnfkhofcmjpfcaaE
import Derived.ProofKit
namespace Go.Proofs.Ytnfkhofcmjpfcaa
open Go.RowKit
theorem none_empty {ps : List (Int × Int)} {x : Int} (hc : chk ps = 0) (h : ∀ m, x ≤ m → m < x + 10080 → anyIn ps (m % 10080) = false) : ps = [] := by
  cases ps with
  | nil => rfl
  | cons p r =>
    exfalso
    obtain ⟨_, hall⟩ := chk_zero hc
    have hp : okP p = true := by simp at hall; exact hall.1
    obtain ⟨a, b, c, d⟩ := okP_iff.1 hp
    have e : (x + (p.1 - x) % 10080) % 10080 = p.1 := by omega
    have := h (x + (p.1 - x) % 10080) (by omega) (by omega)
    rw [e] at this
    simp [anyIn, lin_first p hp] at this
set_option maxRecDepth 100000 in
set_option maxHeartbeats 2000000 in
theorem next_walk (a : Option Addr) (ps : List (Int × Int)) (cap : Nat) (x : Int) (w : World) (hp : Ps w a ps) :
    Calls Try.prog 4 #[.slice a ps.length cap, .int .i64 x] w fun e w' => e = .returned (.bool true) ∧ Below w.heap.size w w' := by
  have HP := Lib.hid hp; clear hp
  by_cases hl : 10 < ps.length
  · go_enter Try.func4, Try.ntmps4
    go_wp2_with fail
    refine (awake_any _).mono ?_
    rintro e w1 ⟨rfl, hb1⟩
    go_wp2_with fail
    go_ret
    exact ⟨rfl, hb1⟩
  · go_enter Try.func4, Try.ntmps4
    go_wp2_with fail
    refine (next_any _ _ _ _ _ HP.out).mono ?_
    rintro e w1 ⟨hb1, ⟨n, rfl, hc, x0, x1, n0, n1, hin, hno⟩ | ⟨rfl, hwhy⟩⟩
    · have HP1 := Lib.hid (HP.out.keep hb1)
      have HS : Hid (some_ ps n = true) := Lib.hid (by unfold some_; rw [hin, hc]; rfl)
      have HNO : Hid (∀ m, x ≤ m → m < n → some_ ps m = false) := Lib.hid (fun m h1 h2 => by unfold some_; rw [hno m h1 h2]; rfl)
      clear hin hno hc
      go_wp2_with fail
      refine (some_any _ _ _ _ _ HP1.out (by omega)).mono ?_
      rintro e w2 ⟨rfl, hb2⟩
      rw [HS.out]
      have hb12 := below_cons hb1 hb2
      go_wp2_with fail
      go_loopw [7] (fun i wr => ∃ m : Int, x ≤ m ∧ m ≤ n ∧ i = .int .i64 m ∧ Below w.heap.size w wr) (fun i _ => (n - intOf i).toNat)
      case atStart => exact ⟨x, by omega, by omega, rfl, hb12⟩
      case round =>
        obtain ⟨m, m0, m1, rfl, hb⟩ := hrel
        by_cases hm : m < n
        · have HN := Lib.hid (HNO.out m m0 hm)
          have HPr := Lib.hid (HP.out.keep hb)
          go_wp2_with fail
          refine (some_any _ _ _ _ _ HPr.out (by omega)).mono ?_
          rintro e w3 ⟨rfl, hb3⟩
          rw [HN.out]
          go_wp2_with fail
          go_roundw
          case rel => exact ⟨m + 1, by omega, by omega, by go_num, below_step hb (Nat.le_refl _) hb3⟩
          case measure => simp [intOf]; omega
        · go_wp2_with fail
          refine (awake_any _).mono ?_
          rintro e w3 ⟨rfl, hb3⟩
          go_wp2_with fail
          go_ret
          exact ⟨rfl, below_step hb (Nat.le_refl _) hb3⟩
    · by_cases x0 : x < 0
      · go_wp2_with fail
        refine (awake_any _).mono ?_
        rintro e w3 ⟨rfl, hb3⟩
        go_wp2_with fail
        go_ret
        exact ⟨rfl, below_cons hb1 hb3⟩
      by_cases x1 : 1099511627776 < x
      · go_wp2_with fail
        refine (awake_any _).mono ?_
        rintro e w3 ⟨rfl, hb3⟩
        go_wp2_with fail
        go_ret
        exact ⟨rfl, below_cons hb1 hb3⟩
      by_cases hz : ps.length = 0
      · have hz1 : ((ps.length : Int) == 0) = true := beq_iff_eq.2 (by omega)
        have hz2 : (ps.length == 0) = true := beq_iff_eq.2 hz
        have HZ := Lib.hid hz; clear hz hwhy
        go_wp2_with fail
        refine (awake_any _).mono ?_
        rintro e w3 ⟨rfl, hb3⟩
        go_wp2_with fail
        go_ret
        exact ⟨rfl, below_cons hb1 hb3⟩
      · have hc : chk ps ≠ 0 := by
          rcases hwhy with h | h | h | ⟨h, h2⟩
          · exact absurd h x0
          · exact absurd h x1
          · exact h
          · exact absurd (by rw [none_empty h h2]; rfl) hz
        have hz1 : ((ps.length : Int) == 0) = false := beq_eq_false_iff_ne.2 (by omega)
        have hz2 : (ps.length == 0) = false := beq_eq_false_iff_ne.2 hz
        have hc3 : (chk ps != 0) = true := bne_iff_ne.2 hc
        have HZ := Lib.hid hz; clear hz hwhy hc
        have HP1 := Lib.hid (HP.out.keep hb1)
        go_wp2_with fail
        refine (check2_any _ _ _ _ HP1.out).mono ?_
        rintro e w2 ⟨rfl, rfl⟩
        go_wp2_with fail
        refine (awake_any _).mono ?_
        rintro e w3 ⟨rfl, hb3⟩
        go_wp2_with fail
        go_ret
        exact ⟨rfl, below_cons hb1 hb3⟩
end Go.Proofs.Ytnfkhofcmjpfcaa
