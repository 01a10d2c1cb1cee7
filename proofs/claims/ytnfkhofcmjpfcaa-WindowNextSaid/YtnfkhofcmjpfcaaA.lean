/-
  Contracts of window.Check and of the law's check: why pairs may not be.
-/
import Derived.Test.YtnfkhofcmjpfcaaBase2
import Derived.Test.YtnfkhofcmjpfcaaM
import Derived.Test.YtnfkhofcmjpfcaaProg
namespace Go.Proofs.Ytnfkhofcmjpfcaa
open Go.RowKit
def Ps (w : World) (a : Option Addr) (ps : List (Int × Int)) : Prop :=
  ∀ i (h : i < ps.length), ∃ b o, a = some ⟨b, o, none⟩ ∧ b < w.heap.size ∧ w.cell? ⟨b, o + i * 2, none⟩ = some (.int .i64 ps[i].1) ∧ w.cell? ⟨b, o + i * 2 + 1, none⟩ = some (.int .i64 ps[i].2)
theorem Ps.keep {w w' : World} {a : Option Addr} {ps : List (Int × Int)} (h : Ps w a ps) (hb : Below w.heap.size w w') : Ps w' a ps := by
  intro i hi
  obtain ⟨b, o, ha, hlt, h1, h2⟩ := h i hi
  exact ⟨b, o, ha, Nat.lt_of_lt_of_le hlt hb.size, (hb.cell (p := ⟨b, o + i * 2, none⟩) hlt).trans h1, (hb.cell (p := ⟨b, o + i * 2 + 1, none⟩) hlt).trans h2⟩
theorem idx0 (x y : Int) (w : World) : (Instr.index 29 (.agg #[.int .i64 x, .int .i64 y]) (.int .i64 0)).run Try.prog w = .ok (.int .i64 x) w := by kernel_rfl
theorem idx1 (x y : Int) (w : World) : (Instr.index 29 (.agg #[.int .i64 x, .int .i64 y]) (.int .i64 1)).run Try.prog w = .ok (.int .i64 y) w := by kernel_rfl
set_option maxHeartbeats 1000000 in
theorem check_any (a : Option Addr) (ps : List (Int × Int)) (cap : Nat) (w : World) (hp : Ps w a ps) :
    Calls Try.prog 6 #[.slice a ps.length cap] w fun e w' => e = .returned (.int .i64 (chk ps)) ∧ Below w.heap.size w w' := by
  by_cases hl : 64 < ps.length
  · have HC : Hid (chk ps = 3) := Lib.hid (by unfold chk; rw [if_pos hl])
    go_enter Try.func6, Try.ntmps6
    go_wp2
    go_ret
    exact ⟨rint HC.out.symm, Below.refl _ _⟩
  · have HC : Hid (chk ps = if ps.all okP = true then 0 else 2) := Lib.hid (by unfold chk; rw [if_neg hl])
    have HP := Lib.hid hp; clear hp
    go_enter Try.func6, Try.ntmps6
    go_wp2
    go_loopw [4, 6, 12, 15, 16, 17] (fun _ _ i _ _ _ wr => ∃ k : Nat, k ≤ ps.length ∧ i = .int .i64 k ∧ (ps.take k).all okP = true ∧ Below w.heap.size w wr) (fun _ _ i _ _ _ _ => ps.length - (intOf i).toNat)
    case atStart => exact ⟨0, by omega, rfl, rfl, Below.refl _ _⟩
    case round =>
      obtain ⟨k, hk, rfl, hall, hb⟩ := hrel
      have HA := Lib.hid hall; clear hall
      by_cases hlt : k < ps.length
      · obtain ⟨b, o, rfl, hbl, c0, c1⟩ := (HP.out.keep hb) k hlt
        have HT := Lib.hid (all_take ps k hlt)
        have HNo := Lib.hid (all_not ps k hlt)
        have HOk : Hid (okP ps[k] = decide (0 ≤ ps[k].1 ∧ ps[k].1 < 10080 ∧ 0 ≤ ps[k].2 ∧ ps[k].2 < 10080)) := Lib.hid rfl
        generalize ps[k].1 = x at *
        generalize ps[k].2 = y at *
        have i0 := idx0 x y
        have i1 := idx1 x y
        have HAll : Hid (okP ps[k] = true → (ps.take (k + 1)).all okP = true) := Lib.hid (fun h => by rw [HT.out, HA.out, h]; rfl)
        have HBad : Hid (okP ps[k] = false → chk ps = 2) := Lib.hid (fun h => by rw [HC.out, if_neg (by rw [HNo.out h]; simp)])
        clear HT HNo HC HA
        go_wp2
        go_loop [6, 17] (fun _ i => ∃ j : Nat, j ≤ 2 ∧ i = .int .i64 j ∧ (1 ≤ j → 0 ≤ x ∧ x < 10080) ∧ (2 ≤ j → 0 ≤ y ∧ y < 10080)) (fun _ i => 2 - (intOf i).toNat)
        case atStart => exact ⟨0, by omega, rfl, by omega, by omega⟩
        case round =>
          obtain ⟨j, hj, rfl, hx, hy⟩ := hrel
          obtain rfl | rfl | rfl : j = 0 ∨ j = 1 ∨ j = 2 := by omega
          · clear hx hy
            by_cases g0 : x < 0
            · go_wp2
              go_ret
              exact ⟨rint (by rw [HBad.out (by rw [HOk.out]; exact decide_eq_false (by omega))]), hb.alloc hb.size _⟩
            · by_cases g1 : 10080 ≤ x
              · go_wp2
                go_ret
                exact ⟨rint (by rw [HBad.out (by rw [HOk.out]; exact decide_eq_false (by omega))]), hb.alloc hb.size _⟩
              · go_wp2
                go_round
                case rel => exact ⟨1, by omega, rfl, fun _ => ⟨by omega, by omega⟩, by omega⟩
                case measure => simp [intOf]
          · obtain ⟨x0, x1⟩ := hx (by omega)
            clear hx hy
            by_cases g0 : y < 0
            · go_wp2
              go_ret
              exact ⟨rint (by rw [HBad.out (by rw [HOk.out]; exact decide_eq_false (by omega))]), hb.alloc hb.size _⟩
            · by_cases g1 : 10080 ≤ y
              · go_wp2
                go_ret
                exact ⟨rint (by rw [HBad.out (by rw [HOk.out]; exact decide_eq_false (by omega))]), hb.alloc hb.size _⟩
              · go_wp2
                go_round
                case rel => exact ⟨2, by omega, rfl, fun _ => ⟨x0, x1⟩, fun _ => ⟨by omega, by omega⟩⟩
                case measure => simp [intOf]
          · obtain ⟨x0, x1⟩ := hx (by omega)
            obtain ⟨y0, y1⟩ := hy (by omega)
            clear hx hy
            have hok := HAll.out (by rw [HOk.out]; exact decide_eq_true ⟨x0, x1, y0, y1⟩)
            have HOK2 := Lib.hid hok; clear hok
            go_wp2
            go_roundw
            case rel => exact ⟨k + 1, by omega, by go_num, HOK2.out, hb.alloc hb.size _⟩
            case measure => simp [intOf]; omega
      · obtain rfl : k = ps.length := by omega
        have HE : Hid (chk ps = 0) := Lib.hid (by have := HA.out; rw [List.take_length] at this; rw [HC.out, if_pos this])
        go_wp2
        go_ret
        exact ⟨rint HE.out.symm, hb⟩
end Go.Proofs.Ytnfkhofcmjpfcaa
