/-
  Contracts of the law's check, of window.in, window.In, and of the law's in and some.
-/
import Derived.Test.YtnfkhofcmjpfcaaA
namespace Go.Proofs.Ytnfkhofcmjpfcaa
open Go.RowKit
set_option maxHeartbeats 1000000 in
theorem check2_any (a : Option Addr) (ps : List (Int × Int)) (cap : Nat) (w : World) (hp : Ps w a ps) :
    Calls Try.prog 7 #[.slice a ps.length cap] w fun e w' => e = .returned (.int .i64 (chk ps)) ∧ w = w' := by
  by_cases hl : 64 < ps.length
  · have HC : Hid (chk ps = 3) := Lib.hid (by unfold chk; rw [if_pos hl])
    go_enter Try.func7, Try.ntmps7
    go_wp2
    go_ret
    exact ⟨rint HC.out.symm, rfl⟩
  · have HC : Hid (chk ps = if ps.all okP = true then 0 else 2) := Lib.hid (by unfold chk; rw [if_neg hl])
    have HP := Lib.hid hp; clear hp
    go_enter Try.func7, Try.ntmps7
    go_wp2
    go_loop [3] (fun i => ∃ k : Nat, k ≤ ps.length ∧ i = .int .i64 k ∧ (ps.take k).all okP = true) (fun i => ps.length - (intOf i).toNat)
    case atStart => exact ⟨0, by omega, rfl, rfl⟩
    case round =>
      obtain ⟨k, hk, rfl, hall⟩ := hrel
      have HA := Lib.hid hall; clear hall
      by_cases hlt : k < ps.length
      · obtain ⟨b, o, rfl, hbl, c0, c1⟩ := HP.out k hlt
        have HT := Lib.hid (all_take ps k hlt)
        have HNo := Lib.hid (all_not ps k hlt)
        have HOk : Hid (okP ps[k] = decide (0 ≤ ps[k].1 ∧ ps[k].1 < 10080 ∧ 0 ≤ ps[k].2 ∧ ps[k].2 < 10080)) := Lib.hid rfl
        generalize ps[k].1 = x at *
        generalize ps[k].2 = y at *
        have HAll : Hid (okP ps[k] = true → (ps.take (k + 1)).all okP = true) := Lib.hid (fun h => by rw [HT.out, HA.out, h]; rfl)
        have HBad : Hid (okP ps[k] = false → chk ps = 2) := Lib.hid (fun h => by rw [HC.out, if_neg (by rw [HNo.out h]; simp)])
        clear HT HNo HC HA
        by_cases g0 : x < 0
        · go_wp2
          go_ret
          exact ⟨rint (by rw [HBad.out (by rw [HOk.out]; exact decide_eq_false (by omega))]), rfl⟩
        by_cases g1 : 10079 < x
        · go_wp2
          go_ret
          exact ⟨rint (by rw [HBad.out (by rw [HOk.out]; exact decide_eq_false (by omega))]), rfl⟩
        by_cases g2 : y < 0
        · go_wp2
          go_ret
          exact ⟨rint (by rw [HBad.out (by rw [HOk.out]; exact decide_eq_false (by omega))]), rfl⟩
        by_cases g3 : 10079 < y
        · go_wp2
          go_ret
          exact ⟨rint (by rw [HBad.out (by rw [HOk.out]; exact decide_eq_false (by omega))]), rfl⟩
        have hok := HAll.out (by rw [HOk.out]; exact decide_eq_true (by omega))
        have HOK2 := Lib.hid hok; clear hok
        go_wp2
        go_round
        case rel => exact ⟨k + 1, by omega, by go_num, HOK2.out⟩
        case measure => simp [intOf]; omega
      · obtain rfl : k = ps.length := by omega
        have HE : Hid (chk ps = 0) := Lib.hid (by have := HA.out; rw [List.take_length] at this; rw [HC.out, if_pos this])
        go_wp2
        go_ret
        exact ⟨rint HE.out.symm, rfl⟩
set_option maxHeartbeats 1000000 in
theorem in_any (a : Option Addr) (ps : List (Int × Int)) (cap : Nat) (m : Int) (w : World) (hp : Ps w a ps) (hok : ps.all okP = true) (hlen : ps.length ≤ 64) (m0 : 0 ≤ m) (m1 : m < 10080) :
    Calls Try.prog 11 #[.slice a ps.length cap, .int .i64 m] w fun e w' => e = .returned (.bool (anyIn ps m)) ∧ Below w.heap.size w w' := by
  have HP := Lib.hid hp; clear hp
  have HO : Hid (∀ k (h : k < ps.length), okP ps[k] = true) := Lib.hid (fun k h => List.all_eq_true.1 hok _ (List.getElem_mem h))
  clear hok
  go_enter Try.func11, Try.ntmps11
  go_wp2
  go_loopw [6, 7, 8, 11] (fun _ _ _ i wr => ∃ k : Nat, k ≤ ps.length ∧ i = .int .i64 k ∧ anyIn (ps.take k) m = false ∧ Below w.heap.size w wr) (fun _ _ _ i _ => ps.length - (intOf i).toNat)
  case atStart => exact ⟨0, by omega, rfl, rfl, Below.refl _ _⟩
  case round =>
    obtain ⟨k, hk, rfl, hany, hb⟩ := hrel
    have HA := Lib.hid hany; clear hany
    by_cases hlt : k < ps.length
    · obtain ⟨b, o, rfl, hbl, c0, c1⟩ := (HP.out.keep hb) k hlt
      have HT := Lib.hid (anyIn_take ps m k hlt)
      have HYes := Lib.hid (any_yes ps m k hlt)
      have HL := Lib.hid (lin_eq ps[k] m (HO.out k hlt) m0 m1)
      obtain ⟨x0, x1, y0, y1⟩ := okP_iff.1 (HO.out k hlt)
      generalize ps[k].1 = x at *
      generalize ps[k].2 = y at *
      by_cases hin : (y - x) % 10080 = 0 ∨ (m - x) % 10080 < (y - x) % 10080
      · have HR := Lib.hid (HYes.out (by rw [HL.out]; exact decide_eq_true hin))
        have hb2 : Below w.heap.size w (wr.alloc (.cells #[.int .i64 x, .int .i64 y] 29)) := hb.alloc hb.size _
        rcases hin with h | h
        · have hz : ((y - x) % 10080 == 0) = true := beq_iff_eq.2 h
          have HH := Lib.hid h; clear h
          go_wp2
          go_quiet (fail)
          go_wp2
          all_goals
            go_ret
            exact ⟨rbool HR.out.symm, below_drewN hb2 _⟩
        · by_cases h0 : (y - x) % 10080 = 0
          · have hz : ((y - x) % 10080 == 0) = true := beq_iff_eq.2 h0
            have HH := Lib.hid h0; clear h0
            go_wp2
            go_quiet (fail)
            go_wp2
            all_goals
              go_ret
              exact ⟨rbool HR.out.symm, below_drewN hb2 _⟩
          · have hz : ((y - x) % 10080 == 0) = false := beq_eq_false_iff_ne.2 h0
            have HH := Lib.hid h0; clear h0
            go_wp2
            go_quiet (fail)
            go_wp2
            all_goals
              go_ret
              exact ⟨rbool HR.out.symm, below_drewN hb2 _⟩
      · have h0 : ¬ (y - x) % 10080 = 0 := fun h => hin (.inl h)
        have h1 : ¬ (m - x) % 10080 < (y - x) % 10080 := fun h => hin (.inr h)
        have hz : ((y - x) % 10080 == 0) = false := beq_eq_false_iff_ne.2 h0
        have HR : Hid (anyIn (ps.take (k + 1)) m = false) := Lib.hid (by rw [HT.out, HA.out, HL.out, decide_eq_false hin]; rfl)
        clear hin h0
        go_wp2
        go_quiet (fail)
        go_wp2
        go_roundw
        case rel => exact ⟨k + 1, by omega, by go_num, HR.out, below_drewN (hb.alloc hb.size _) _⟩
        case measure => simp [intOf]; omega
    · obtain rfl : k = ps.length := by omega
      have HR : Hid (anyIn ps m = false) := Lib.hid (by have := HA.out; rw [List.take_length] at this; exact this)
      go_wp2
      go_ret
      exact ⟨rbool HR.out.symm, hb⟩
end Go.Proofs.Ytnfkhofcmjpfcaa
