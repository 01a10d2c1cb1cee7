/-
  The contract of report.Status.
-/
import Derived.Test.YtmgmokbephkpbaaC
set_option linter.unusedVariables false
set_option linter.unusedSimpArgs false
namespace Go.Proofs.Ytmgmokbephkpbaa
open Go.RowKit
/-- The word with which a status' line begins. -/
def upOf (up : Bool) : List UInt8 := if up then [117, 112] else [100, 111, 119, 110]
def statusOf (up : Bool) (ns : List Int) : List UInt8 := upOf up ++ 32 :: lineOf (ns.map dec)
theorem upOf_len (up : Bool) : (upOf up).length ≤ 4 := by cases up <;> simp [upOf]
theorem small_sum (l : List Int) (h : ∀ v ∈ l, 0 ≤ v ∧ v ≤ 1099511627776) : 0 ≤ l.sum ∧ l.sum ≤ l.length * 1099511627776 := by
  induction l with
  | nil => simp
  | cons v l ih =>
    have h1 := ih (fun x hx => h x (by simp [hx]))
    have h2 := h v (by simp)
    simp only [List.sum_cons, List.length_cons]
    omega
theorem idx0 (v0 v1 v2 v3 v4 v5 v6 v7 v8 v9 v10 v11 v12 v13 v14 v15 : Int) (w : World) : (Instr.index 33 (.agg #[.int .i64 v0, .int .i64 v1, .int .i64 v2, .int .i64 v3, .int .i64 v4, .int .i64 v5, .int .i64 v6, .int .i64 v7, .int .i64 v8, .int .i64 v9, .int .i64 v10, .int .i64 v11, .int .i64 v12, .int .i64 v13, .int .i64 v14, .int .i64 v15]) (.int .i64 0)).run Try.prog w = .ok (.int .i64 v0) w := by kernel_rfl
theorem idx1 (v0 v1 v2 v3 v4 v5 v6 v7 v8 v9 v10 v11 v12 v13 v14 v15 : Int) (w : World) : (Instr.index 33 (.agg #[.int .i64 v0, .int .i64 v1, .int .i64 v2, .int .i64 v3, .int .i64 v4, .int .i64 v5, .int .i64 v6, .int .i64 v7, .int .i64 v8, .int .i64 v9, .int .i64 v10, .int .i64 v11, .int .i64 v12, .int .i64 v13, .int .i64 v14, .int .i64 v15]) (.int .i64 1)).run Try.prog w = .ok (.int .i64 v1) w := by kernel_rfl
theorem idx2 (v0 v1 v2 v3 v4 v5 v6 v7 v8 v9 v10 v11 v12 v13 v14 v15 : Int) (w : World) : (Instr.index 33 (.agg #[.int .i64 v0, .int .i64 v1, .int .i64 v2, .int .i64 v3, .int .i64 v4, .int .i64 v5, .int .i64 v6, .int .i64 v7, .int .i64 v8, .int .i64 v9, .int .i64 v10, .int .i64 v11, .int .i64 v12, .int .i64 v13, .int .i64 v14, .int .i64 v15]) (.int .i64 2)).run Try.prog w = .ok (.int .i64 v2) w := by kernel_rfl
theorem idx3 (v0 v1 v2 v3 v4 v5 v6 v7 v8 v9 v10 v11 v12 v13 v14 v15 : Int) (w : World) : (Instr.index 33 (.agg #[.int .i64 v0, .int .i64 v1, .int .i64 v2, .int .i64 v3, .int .i64 v4, .int .i64 v5, .int .i64 v6, .int .i64 v7, .int .i64 v8, .int .i64 v9, .int .i64 v10, .int .i64 v11, .int .i64 v12, .int .i64 v13, .int .i64 v14, .int .i64 v15]) (.int .i64 3)).run Try.prog w = .ok (.int .i64 v3) w := by kernel_rfl
theorem idx4 (v0 v1 v2 v3 v4 v5 v6 v7 v8 v9 v10 v11 v12 v13 v14 v15 : Int) (w : World) : (Instr.index 33 (.agg #[.int .i64 v0, .int .i64 v1, .int .i64 v2, .int .i64 v3, .int .i64 v4, .int .i64 v5, .int .i64 v6, .int .i64 v7, .int .i64 v8, .int .i64 v9, .int .i64 v10, .int .i64 v11, .int .i64 v12, .int .i64 v13, .int .i64 v14, .int .i64 v15]) (.int .i64 4)).run Try.prog w = .ok (.int .i64 v4) w := by kernel_rfl
theorem idx5 (v0 v1 v2 v3 v4 v5 v6 v7 v8 v9 v10 v11 v12 v13 v14 v15 : Int) (w : World) : (Instr.index 33 (.agg #[.int .i64 v0, .int .i64 v1, .int .i64 v2, .int .i64 v3, .int .i64 v4, .int .i64 v5, .int .i64 v6, .int .i64 v7, .int .i64 v8, .int .i64 v9, .int .i64 v10, .int .i64 v11, .int .i64 v12, .int .i64 v13, .int .i64 v14, .int .i64 v15]) (.int .i64 5)).run Try.prog w = .ok (.int .i64 v5) w := by kernel_rfl
theorem idx6 (v0 v1 v2 v3 v4 v5 v6 v7 v8 v9 v10 v11 v12 v13 v14 v15 : Int) (w : World) : (Instr.index 33 (.agg #[.int .i64 v0, .int .i64 v1, .int .i64 v2, .int .i64 v3, .int .i64 v4, .int .i64 v5, .int .i64 v6, .int .i64 v7, .int .i64 v8, .int .i64 v9, .int .i64 v10, .int .i64 v11, .int .i64 v12, .int .i64 v13, .int .i64 v14, .int .i64 v15]) (.int .i64 6)).run Try.prog w = .ok (.int .i64 v6) w := by kernel_rfl
theorem idx7 (v0 v1 v2 v3 v4 v5 v6 v7 v8 v9 v10 v11 v12 v13 v14 v15 : Int) (w : World) : (Instr.index 33 (.agg #[.int .i64 v0, .int .i64 v1, .int .i64 v2, .int .i64 v3, .int .i64 v4, .int .i64 v5, .int .i64 v6, .int .i64 v7, .int .i64 v8, .int .i64 v9, .int .i64 v10, .int .i64 v11, .int .i64 v12, .int .i64 v13, .int .i64 v14, .int .i64 v15]) (.int .i64 7)).run Try.prog w = .ok (.int .i64 v7) w := by kernel_rfl
theorem idx8 (v0 v1 v2 v3 v4 v5 v6 v7 v8 v9 v10 v11 v12 v13 v14 v15 : Int) (w : World) : (Instr.index 33 (.agg #[.int .i64 v0, .int .i64 v1, .int .i64 v2, .int .i64 v3, .int .i64 v4, .int .i64 v5, .int .i64 v6, .int .i64 v7, .int .i64 v8, .int .i64 v9, .int .i64 v10, .int .i64 v11, .int .i64 v12, .int .i64 v13, .int .i64 v14, .int .i64 v15]) (.int .i64 8)).run Try.prog w = .ok (.int .i64 v8) w := by kernel_rfl
theorem idx9 (v0 v1 v2 v3 v4 v5 v6 v7 v8 v9 v10 v11 v12 v13 v14 v15 : Int) (w : World) : (Instr.index 33 (.agg #[.int .i64 v0, .int .i64 v1, .int .i64 v2, .int .i64 v3, .int .i64 v4, .int .i64 v5, .int .i64 v6, .int .i64 v7, .int .i64 v8, .int .i64 v9, .int .i64 v10, .int .i64 v11, .int .i64 v12, .int .i64 v13, .int .i64 v14, .int .i64 v15]) (.int .i64 9)).run Try.prog w = .ok (.int .i64 v9) w := by kernel_rfl
theorem idx10 (v0 v1 v2 v3 v4 v5 v6 v7 v8 v9 v10 v11 v12 v13 v14 v15 : Int) (w : World) : (Instr.index 33 (.agg #[.int .i64 v0, .int .i64 v1, .int .i64 v2, .int .i64 v3, .int .i64 v4, .int .i64 v5, .int .i64 v6, .int .i64 v7, .int .i64 v8, .int .i64 v9, .int .i64 v10, .int .i64 v11, .int .i64 v12, .int .i64 v13, .int .i64 v14, .int .i64 v15]) (.int .i64 10)).run Try.prog w = .ok (.int .i64 v10) w := by kernel_rfl
theorem idx11 (v0 v1 v2 v3 v4 v5 v6 v7 v8 v9 v10 v11 v12 v13 v14 v15 : Int) (w : World) : (Instr.index 33 (.agg #[.int .i64 v0, .int .i64 v1, .int .i64 v2, .int .i64 v3, .int .i64 v4, .int .i64 v5, .int .i64 v6, .int .i64 v7, .int .i64 v8, .int .i64 v9, .int .i64 v10, .int .i64 v11, .int .i64 v12, .int .i64 v13, .int .i64 v14, .int .i64 v15]) (.int .i64 11)).run Try.prog w = .ok (.int .i64 v11) w := by kernel_rfl
theorem idx12 (v0 v1 v2 v3 v4 v5 v6 v7 v8 v9 v10 v11 v12 v13 v14 v15 : Int) (w : World) : (Instr.index 33 (.agg #[.int .i64 v0, .int .i64 v1, .int .i64 v2, .int .i64 v3, .int .i64 v4, .int .i64 v5, .int .i64 v6, .int .i64 v7, .int .i64 v8, .int .i64 v9, .int .i64 v10, .int .i64 v11, .int .i64 v12, .int .i64 v13, .int .i64 v14, .int .i64 v15]) (.int .i64 12)).run Try.prog w = .ok (.int .i64 v12) w := by kernel_rfl
theorem idx13 (v0 v1 v2 v3 v4 v5 v6 v7 v8 v9 v10 v11 v12 v13 v14 v15 : Int) (w : World) : (Instr.index 33 (.agg #[.int .i64 v0, .int .i64 v1, .int .i64 v2, .int .i64 v3, .int .i64 v4, .int .i64 v5, .int .i64 v6, .int .i64 v7, .int .i64 v8, .int .i64 v9, .int .i64 v10, .int .i64 v11, .int .i64 v12, .int .i64 v13, .int .i64 v14, .int .i64 v15]) (.int .i64 13)).run Try.prog w = .ok (.int .i64 v13) w := by kernel_rfl
theorem idx14 (v0 v1 v2 v3 v4 v5 v6 v7 v8 v9 v10 v11 v12 v13 v14 v15 : Int) (w : World) : (Instr.index 33 (.agg #[.int .i64 v0, .int .i64 v1, .int .i64 v2, .int .i64 v3, .int .i64 v4, .int .i64 v5, .int .i64 v6, .int .i64 v7, .int .i64 v8, .int .i64 v9, .int .i64 v10, .int .i64 v11, .int .i64 v12, .int .i64 v13, .int .i64 v14, .int .i64 v15]) (.int .i64 14)).run Try.prog w = .ok (.int .i64 v14) w := by kernel_rfl
theorem idx15 (v0 v1 v2 v3 v4 v5 v6 v7 v8 v9 v10 v11 v12 v13 v14 v15 : Int) (w : World) : (Instr.index 33 (.agg #[.int .i64 v0, .int .i64 v1, .int .i64 v2, .int .i64 v3, .int .i64 v4, .int .i64 v5, .int .i64 v6, .int .i64 v7, .int .i64 v8, .int .i64 v9, .int .i64 v10, .int .i64 v11, .int .i64 v12, .int .i64 v13, .int .i64 v14, .int .i64 v15]) (.int .i64 15)).run Try.prog w = .ok (.int .i64 v15) w := by kernel_rfl
set_option maxRecDepth 100000 in
set_option maxHeartbeats 8000000 in
theorem status_true (bk bl de bu us : Int) (v0 v1 v2 v3 v4 v5 v6 v7 v8 v9 v10 v11 v12 v13 v14 v15 : Int) (ca : Option Addr) (cl cc : Nat) (w : World) (hv : ∀ v ∈ ([v0, v1, v2, v3, v4, v5, v6, v7, v8, v9, v10, v11, v12, v13, v14, v15] : List Int), 0 ≤ v ∧ v ≤ 1099511627776)
    (hbk : (-9223372036854775808 ≤ bk ∧ bk ≤ 9223372036854775807)) (hbl : (-9223372036854775808 ≤ bl ∧ bl ≤ 9223372036854775807)) (hde : (-9223372036854775808 ≤ de ∧ de ≤ 9223372036854775807)) (hbu : (-9223372036854775808 ≤ bu ∧ bu ≤ 9223372036854775807)) (hus : (-9223372036854775808 ≤ us ∧ us ≤ 9223372036854775807)) (hcl : cl ≤ 9223372036854775807) :
    Calls Try.prog 9 #[.agg #[.bool true, .int .i64 bk, .int .i64 v0, .int .i64 v1, .int .i64 v2, .int .i64 v3, .int .i64 v4, .int .i64 v5, .int .i64 v6, .int .i64 v7, .int .i64 v8, .int .i64 v9, .int .i64 v10, .int .i64 v11, .int .i64 v12, .int .i64 v13, .int .i64 v14, .int .i64 v15, .slice ca cl cc, .int .i64 bl, .int .i64 de, .int .i64 bu, .int .i64 us]] w fun e w' => e = .returned (.string (str (statusOf true [bk, bl, de, bu, us, ([v0, v1, v2, v3, v4, v5, v6, v7, v8, v9, v10, v11, v12, v13, v14, v15] : List Int).sum, cl]))) ∧ Below w.heap.size w w' := by
  have HV := Lib.hid hv
  obtain ⟨S, hS⟩ : ∃ S, S = ([v0, v1, v2, v3, v4, v5, v6, v7, v8, v9, v10, v11, v12, v13, v14, v15] : List Int).sum := ⟨_, rfl⟩
  rw [← hS]
  have HSU := Lib.hid hS
  clear hS
  have HB0 : Below w.heap.size w (w.alloc (.cells #[.bool true, .int .i64 bk, .int .i64 v0, .int .i64 v1, .int .i64 v2, .int .i64 v3, .int .i64 v4, .int .i64 v5, .int .i64 v6, .int .i64 v7, .int .i64 v8, .int .i64 v9, .int .i64 v10, .int .i64 v11, .int .i64 v12, .int .i64 v13, .int .i64 v14, .int .i64 v15, .slice ca cl cc, .int .i64 bl, .int .i64 de, .int .i64 bu, .int .i64 us] 37)) := below_new w _
  have hP0 : Blk w.heap.size [.bool true, .int .i64 bk, .int .i64 v0, .int .i64 v1, .int .i64 v2, .int .i64 v3, .int .i64 v4, .int .i64 v5, .int .i64 v6, .int .i64 v7, .int .i64 v8, .int .i64 v9, .int .i64 v10, .int .i64 v11, .int .i64 v12, .int .i64 v13, .int .i64 v14, .int .i64 v15, .slice ca cl cc, .int .i64 bl, .int .i64 de, .int .i64 bu, .int .i64 us] (w.alloc (.cells #[.bool true, .int .i64 bk, .int .i64 v0, .int .i64 v1, .int .i64 v2, .int .i64 v3, .int .i64 v4, .int .i64 v5, .int .i64 v6, .int .i64 v7, .int .i64 v8, .int .i64 v9, .int .i64 v10, .int .i64 v11, .int .i64 v12, .int .i64 v13, .int .i64 v14, .int .i64 v15, .slice ca cl cc, .int .i64 bl, .int .i64 de, .int .i64 bu, .int .i64 us] 37)) := Blk.new w 37 _
  clear hv
  go_enter Try.func9, Try.ntmps9
  go_wp2
  go_loopw [4, 12] (fun t i wr => ∃ (k : Nat) (s : Int), k ≤ 16 ∧ i = .int .i64 k ∧ t = .int .i64 s ∧ s = (([v0, v1, v2, v3, v4, v5, v6, v7, v8, v9, v10, v11, v12, v13, v14, v15] : List Int).take k).sum ∧ wr = w.alloc (.cells #[.bool true, .int .i64 bk, .int .i64 v0, .int .i64 v1, .int .i64 v2, .int .i64 v3, .int .i64 v4, .int .i64 v5, .int .i64 v6, .int .i64 v7, .int .i64 v8, .int .i64 v9, .int .i64 v10, .int .i64 v11, .int .i64 v12, .int .i64 v13, .int .i64 v14, .int .i64 v15, .slice ca cl cc, .int .i64 bl, .int .i64 de, .int .i64 bu, .int .i64 us] 37)) (fun _ i _ => 16 - (intOf i).toNat)
  case atStart => exact ⟨0, 0, by omega, rfl, rfl, by simp, rfl⟩
  case round =>
    obtain ⟨k, s, hk, rfl, rfl, hs, rfl⟩ := hrel
    have hs2 : 0 ≤ s ∧ s ≤ 20000000000000 := by
      have := small_sum (([v0, v1, v2, v3, v4, v5, v6, v7, v8, v9, v10, v11, v12, v13, v14, v15] : List Int).take k) (fun v hv => HV.out v (List.mem_of_mem_take hv))
      rw [← hs, List.length_take] at this
      omega
    have HS := Lib.hid hs; clear hs
    by_cases hlt : k < 16
    · have hvk := HV.out _ (List.getElem_mem (l := ([v0, v1, v2, v3, v4, v5, v6, v7, v8, v9, v10, v11, v12, v13, v14, v15] : List Int)) (n := k) (by simpa using hlt))
      obtain rfl | rfl | rfl | rfl | rfl | rfl | rfl | rfl | rfl | rfl | rfl | rfl | rfl | rfl | rfl | rfl := (show k = 0 ∨ k = 1 ∨ k = 2 ∨ k = 3 ∨ k = 4 ∨ k = 5 ∨ k = 6 ∨ k = 7 ∨ k = 8 ∨ k = 9 ∨ k = 10 ∨ k = 11 ∨ k = 12 ∨ k = 13 ∨ k = 14 ∨ k = 15 by omega)
      · replace hvk : 0 ≤ v0 ∧ v0 ≤ 1099511627776 := hvk
        have ix := idx0 v0 v1 v2 v3 v4 v5 v6 v7 v8 v9 v10 v11 v12 v13 v14 v15
        go_wp2
        go_roundw
        case rel => exact ⟨1, s + v0, by omega, rfl, rfl, by rw [HS.out]; simp <;> omega, trivial⟩
        case measure => simp [intOf]
      · replace hvk : 0 ≤ v1 ∧ v1 ≤ 1099511627776 := hvk
        have ix := idx1 v0 v1 v2 v3 v4 v5 v6 v7 v8 v9 v10 v11 v12 v13 v14 v15
        go_wp2
        go_roundw
        case rel => exact ⟨2, s + v1, by omega, rfl, rfl, by rw [HS.out]; simp <;> omega, trivial⟩
        case measure => simp [intOf]
      · replace hvk : 0 ≤ v2 ∧ v2 ≤ 1099511627776 := hvk
        have ix := idx2 v0 v1 v2 v3 v4 v5 v6 v7 v8 v9 v10 v11 v12 v13 v14 v15
        go_wp2
        go_roundw
        case rel => exact ⟨3, s + v2, by omega, rfl, rfl, by rw [HS.out]; simp <;> omega, trivial⟩
        case measure => simp [intOf]
      · replace hvk : 0 ≤ v3 ∧ v3 ≤ 1099511627776 := hvk
        have ix := idx3 v0 v1 v2 v3 v4 v5 v6 v7 v8 v9 v10 v11 v12 v13 v14 v15
        go_wp2
        go_roundw
        case rel => exact ⟨4, s + v3, by omega, rfl, rfl, by rw [HS.out]; simp <;> omega, trivial⟩
        case measure => simp [intOf]
      · replace hvk : 0 ≤ v4 ∧ v4 ≤ 1099511627776 := hvk
        have ix := idx4 v0 v1 v2 v3 v4 v5 v6 v7 v8 v9 v10 v11 v12 v13 v14 v15
        go_wp2
        go_roundw
        case rel => exact ⟨5, s + v4, by omega, rfl, rfl, by rw [HS.out]; simp <;> omega, trivial⟩
        case measure => simp [intOf]
      · replace hvk : 0 ≤ v5 ∧ v5 ≤ 1099511627776 := hvk
        have ix := idx5 v0 v1 v2 v3 v4 v5 v6 v7 v8 v9 v10 v11 v12 v13 v14 v15
        go_wp2
        go_roundw
        case rel => exact ⟨6, s + v5, by omega, rfl, rfl, by rw [HS.out]; simp <;> omega, trivial⟩
        case measure => simp [intOf]
      · replace hvk : 0 ≤ v6 ∧ v6 ≤ 1099511627776 := hvk
        have ix := idx6 v0 v1 v2 v3 v4 v5 v6 v7 v8 v9 v10 v11 v12 v13 v14 v15
        go_wp2
        go_roundw
        case rel => exact ⟨7, s + v6, by omega, rfl, rfl, by rw [HS.out]; simp <;> omega, trivial⟩
        case measure => simp [intOf]
      · replace hvk : 0 ≤ v7 ∧ v7 ≤ 1099511627776 := hvk
        have ix := idx7 v0 v1 v2 v3 v4 v5 v6 v7 v8 v9 v10 v11 v12 v13 v14 v15
        go_wp2
        go_roundw
        case rel => exact ⟨8, s + v7, by omega, rfl, rfl, by rw [HS.out]; simp <;> omega, trivial⟩
        case measure => simp [intOf]
      · replace hvk : 0 ≤ v8 ∧ v8 ≤ 1099511627776 := hvk
        have ix := idx8 v0 v1 v2 v3 v4 v5 v6 v7 v8 v9 v10 v11 v12 v13 v14 v15
        go_wp2
        go_roundw
        case rel => exact ⟨9, s + v8, by omega, rfl, rfl, by rw [HS.out]; simp <;> omega, trivial⟩
        case measure => simp [intOf]
      · replace hvk : 0 ≤ v9 ∧ v9 ≤ 1099511627776 := hvk
        have ix := idx9 v0 v1 v2 v3 v4 v5 v6 v7 v8 v9 v10 v11 v12 v13 v14 v15
        go_wp2
        go_roundw
        case rel => exact ⟨10, s + v9, by omega, rfl, rfl, by rw [HS.out]; simp <;> omega, trivial⟩
        case measure => simp [intOf]
      · replace hvk : 0 ≤ v10 ∧ v10 ≤ 1099511627776 := hvk
        have ix := idx10 v0 v1 v2 v3 v4 v5 v6 v7 v8 v9 v10 v11 v12 v13 v14 v15
        go_wp2
        go_roundw
        case rel => exact ⟨11, s + v10, by omega, rfl, rfl, by rw [HS.out]; simp <;> omega, trivial⟩
        case measure => simp [intOf]
      · replace hvk : 0 ≤ v11 ∧ v11 ≤ 1099511627776 := hvk
        have ix := idx11 v0 v1 v2 v3 v4 v5 v6 v7 v8 v9 v10 v11 v12 v13 v14 v15
        go_wp2
        go_roundw
        case rel => exact ⟨12, s + v11, by omega, rfl, rfl, by rw [HS.out]; simp <;> omega, trivial⟩
        case measure => simp [intOf]
      · replace hvk : 0 ≤ v12 ∧ v12 ≤ 1099511627776 := hvk
        have ix := idx12 v0 v1 v2 v3 v4 v5 v6 v7 v8 v9 v10 v11 v12 v13 v14 v15
        go_wp2
        go_roundw
        case rel => exact ⟨13, s + v12, by omega, rfl, rfl, by rw [HS.out]; simp <;> omega, trivial⟩
        case measure => simp [intOf]
      · replace hvk : 0 ≤ v13 ∧ v13 ≤ 1099511627776 := hvk
        have ix := idx13 v0 v1 v2 v3 v4 v5 v6 v7 v8 v9 v10 v11 v12 v13 v14 v15
        go_wp2
        go_roundw
        case rel => exact ⟨14, s + v13, by omega, rfl, rfl, by rw [HS.out]; simp <;> omega, trivial⟩
        case measure => simp [intOf]
      · replace hvk : 0 ≤ v14 ∧ v14 ≤ 1099511627776 := hvk
        have ix := idx14 v0 v1 v2 v3 v4 v5 v6 v7 v8 v9 v10 v11 v12 v13 v14 v15
        go_wp2
        go_roundw
        case rel => exact ⟨15, s + v14, by omega, rfl, rfl, by rw [HS.out]; simp <;> omega, trivial⟩
        case measure => simp [intOf]
      · replace hvk : 0 ≤ v15 ∧ v15 ≤ 1099511627776 := hvk
        have ix := idx15 v0 v1 v2 v3 v4 v5 v6 v7 v8 v9 v10 v11 v12 v13 v14 v15
        go_wp2
        go_roundw
        case rel => exact ⟨16, s + v15, by omega, rfl, rfl, by rw [HS.out]; simp <;> omega, trivial⟩
        case measure => simp [intOf]
    · obtain rfl : k = 16 := by omega
      have HSS : Hid (s = S) := Lib.hid (by have := HS.out; rw [List.take_of_length_le (by simp)] at this; rw [this, HSU.out])
      go_wp2_with fail
      refine (numbers_any (some ⟨w.heap.size + 1, 0, none⟩) [bk, bl, de, bu, us, s, cl] 7 _ (by have := new_sl encI (Value.int .i64) (fun _ => rfl) (w.alloc (.cells #[.bool true, .int .i64 bk, .int .i64 v0, .int .i64 v1, .int .i64 v2, .int .i64 v3, .int .i64 v4, .int .i64 v5, .int .i64 v6, .int .i64 v7, .int .i64 v8, .int .i64 v9, .int .i64 v10, .int .i64 v11, .int .i64 v12, .int .i64 v13, .int .i64 v14, .int .i64 v15, .slice ca cl cc, .int .i64 bl, .int .i64 de, .int .i64 bu, .int .i64 us] 37)) 3 [bk, bl, de, bu, us, s, cl] _ rfl; simpa using this) (by simp) (by simp; omega)).mono ?_
      rintro e w3 ⟨rfl, hb3⟩
      have HB3 : Hid (Below w.heap.size w w3) := Lib.hid (below_step (below_step HB0 (Nat.le_refl _) (below_new _ _)) (Nat.le_refl _) hb3)
      clear hb3 hP0 HB0
      have HT : Hid (lineOf ([(⟨#[117, 112]⟩ : ByteArray), str (lineOf ([bk, bl, de, bu, us, s, cl].map dec))].map (·.data.toList)) = statusOf true [bk, bl, de, bu, us, s, cl]) := Lib.hid (by
        rw [List.map_cons, List.map_cons, List.map_nil, line2, str_data]; rfl)
      have HTL : Hid ((statusOf true [bk, bl, de, bu, us, s, cl]).length ≤ 140737488355328) := Lib.hid (by
        have h2 := upOf_len true
        have h3 := join_le ([bk, bl, de, bu, us, s, (cl : Int)].map dec) 20 (by
          intro y hy
          obtain ⟨n, hn, rfl⟩ := List.mem_map.1 hy
          have hn2 : -9223372036854775808 ≤ n ∧ n ≤ 9223372036854775807 := by
            simp only [List.mem_cons, List.mem_nil_iff, or_false] at hn
            omega
          exact dec_len2 (by omega) (by omega))
        simp only [List.length_map, List.length_cons, List.length_nil] at h3
        simp only [statusOf, List.length_append, List.length_cons]
        omega)
      go_wp2_with fail
      refine (line_any (some ⟨w3.heap.size, 0, none⟩) [⟨#[117, 112]⟩, str (lineOf ([bk, bl, de, bu, us, s, (cl : Int)].map dec))] 2 _ (new_sl encT Value.string (fun _ => rfl) w3 9 _ _ rfl) (by simp) (by simp) (by rw [HT.out]; exact HTL.out)).mono ?_
      rintro e w4 ⟨rfl, hb4⟩
      rw [HT.out]
      have HB4 : Hid (Below w.heap.size w w4) := Lib.hid (below_step (below_step HB3.out (Nat.le_refl _) (below_new w3 _)) (Nat.le_refl _) hb4)
      clear hb4
      rw [HSS.out]
      go_wp2
      go_ret
      exact ⟨rfl, HB4.out⟩
set_option maxRecDepth 100000 in
set_option maxHeartbeats 8000000 in
theorem status_false (bk bl de bu us : Int) (v0 v1 v2 v3 v4 v5 v6 v7 v8 v9 v10 v11 v12 v13 v14 v15 : Int) (ca : Option Addr) (cl cc : Nat) (w : World) (hv : ∀ v ∈ ([v0, v1, v2, v3, v4, v5, v6, v7, v8, v9, v10, v11, v12, v13, v14, v15] : List Int), 0 ≤ v ∧ v ≤ 1099511627776)
    (hbk : (-9223372036854775808 ≤ bk ∧ bk ≤ 9223372036854775807)) (hbl : (-9223372036854775808 ≤ bl ∧ bl ≤ 9223372036854775807)) (hde : (-9223372036854775808 ≤ de ∧ de ≤ 9223372036854775807)) (hbu : (-9223372036854775808 ≤ bu ∧ bu ≤ 9223372036854775807)) (hus : (-9223372036854775808 ≤ us ∧ us ≤ 9223372036854775807)) (hcl : cl ≤ 9223372036854775807) :
    Calls Try.prog 9 #[.agg #[.bool false, .int .i64 bk, .int .i64 v0, .int .i64 v1, .int .i64 v2, .int .i64 v3, .int .i64 v4, .int .i64 v5, .int .i64 v6, .int .i64 v7, .int .i64 v8, .int .i64 v9, .int .i64 v10, .int .i64 v11, .int .i64 v12, .int .i64 v13, .int .i64 v14, .int .i64 v15, .slice ca cl cc, .int .i64 bl, .int .i64 de, .int .i64 bu, .int .i64 us]] w fun e w' => e = .returned (.string (str (statusOf false [bk, bl, de, bu, us, ([v0, v1, v2, v3, v4, v5, v6, v7, v8, v9, v10, v11, v12, v13, v14, v15] : List Int).sum, cl]))) ∧ Below w.heap.size w w' := by
  have HV := Lib.hid hv
  obtain ⟨S, hS⟩ : ∃ S, S = ([v0, v1, v2, v3, v4, v5, v6, v7, v8, v9, v10, v11, v12, v13, v14, v15] : List Int).sum := ⟨_, rfl⟩
  rw [← hS]
  have HSU := Lib.hid hS
  clear hS
  have HB0 : Below w.heap.size w (w.alloc (.cells #[.bool false, .int .i64 bk, .int .i64 v0, .int .i64 v1, .int .i64 v2, .int .i64 v3, .int .i64 v4, .int .i64 v5, .int .i64 v6, .int .i64 v7, .int .i64 v8, .int .i64 v9, .int .i64 v10, .int .i64 v11, .int .i64 v12, .int .i64 v13, .int .i64 v14, .int .i64 v15, .slice ca cl cc, .int .i64 bl, .int .i64 de, .int .i64 bu, .int .i64 us] 37)) := below_new w _
  have hP0 : Blk w.heap.size [.bool false, .int .i64 bk, .int .i64 v0, .int .i64 v1, .int .i64 v2, .int .i64 v3, .int .i64 v4, .int .i64 v5, .int .i64 v6, .int .i64 v7, .int .i64 v8, .int .i64 v9, .int .i64 v10, .int .i64 v11, .int .i64 v12, .int .i64 v13, .int .i64 v14, .int .i64 v15, .slice ca cl cc, .int .i64 bl, .int .i64 de, .int .i64 bu, .int .i64 us] (w.alloc (.cells #[.bool false, .int .i64 bk, .int .i64 v0, .int .i64 v1, .int .i64 v2, .int .i64 v3, .int .i64 v4, .int .i64 v5, .int .i64 v6, .int .i64 v7, .int .i64 v8, .int .i64 v9, .int .i64 v10, .int .i64 v11, .int .i64 v12, .int .i64 v13, .int .i64 v14, .int .i64 v15, .slice ca cl cc, .int .i64 bl, .int .i64 de, .int .i64 bu, .int .i64 us] 37)) := Blk.new w 37 _
  clear hv
  go_enter Try.func9, Try.ntmps9
  go_wp2
  go_loopw [4, 12] (fun t i wr => ∃ (k : Nat) (s : Int), k ≤ 16 ∧ i = .int .i64 k ∧ t = .int .i64 s ∧ s = (([v0, v1, v2, v3, v4, v5, v6, v7, v8, v9, v10, v11, v12, v13, v14, v15] : List Int).take k).sum ∧ wr = w.alloc (.cells #[.bool false, .int .i64 bk, .int .i64 v0, .int .i64 v1, .int .i64 v2, .int .i64 v3, .int .i64 v4, .int .i64 v5, .int .i64 v6, .int .i64 v7, .int .i64 v8, .int .i64 v9, .int .i64 v10, .int .i64 v11, .int .i64 v12, .int .i64 v13, .int .i64 v14, .int .i64 v15, .slice ca cl cc, .int .i64 bl, .int .i64 de, .int .i64 bu, .int .i64 us] 37)) (fun _ i _ => 16 - (intOf i).toNat)
  case atStart => exact ⟨0, 0, by omega, rfl, rfl, by simp, rfl⟩
  case round =>
    obtain ⟨k, s, hk, rfl, rfl, hs, rfl⟩ := hrel
    have hs2 : 0 ≤ s ∧ s ≤ 20000000000000 := by
      have := small_sum (([v0, v1, v2, v3, v4, v5, v6, v7, v8, v9, v10, v11, v12, v13, v14, v15] : List Int).take k) (fun v hv => HV.out v (List.mem_of_mem_take hv))
      rw [← hs, List.length_take] at this
      omega
    have HS := Lib.hid hs; clear hs
    by_cases hlt : k < 16
    · have hvk := HV.out _ (List.getElem_mem (l := ([v0, v1, v2, v3, v4, v5, v6, v7, v8, v9, v10, v11, v12, v13, v14, v15] : List Int)) (n := k) (by simpa using hlt))
      obtain rfl | rfl | rfl | rfl | rfl | rfl | rfl | rfl | rfl | rfl | rfl | rfl | rfl | rfl | rfl | rfl := (show k = 0 ∨ k = 1 ∨ k = 2 ∨ k = 3 ∨ k = 4 ∨ k = 5 ∨ k = 6 ∨ k = 7 ∨ k = 8 ∨ k = 9 ∨ k = 10 ∨ k = 11 ∨ k = 12 ∨ k = 13 ∨ k = 14 ∨ k = 15 by omega)
      · replace hvk : 0 ≤ v0 ∧ v0 ≤ 1099511627776 := hvk
        have ix := idx0 v0 v1 v2 v3 v4 v5 v6 v7 v8 v9 v10 v11 v12 v13 v14 v15
        go_wp2
        go_roundw
        case rel => exact ⟨1, s + v0, by omega, rfl, rfl, by rw [HS.out]; simp <;> omega, trivial⟩
        case measure => simp [intOf]
      · replace hvk : 0 ≤ v1 ∧ v1 ≤ 1099511627776 := hvk
        have ix := idx1 v0 v1 v2 v3 v4 v5 v6 v7 v8 v9 v10 v11 v12 v13 v14 v15
        go_wp2
        go_roundw
        case rel => exact ⟨2, s + v1, by omega, rfl, rfl, by rw [HS.out]; simp <;> omega, trivial⟩
        case measure => simp [intOf]
      · replace hvk : 0 ≤ v2 ∧ v2 ≤ 1099511627776 := hvk
        have ix := idx2 v0 v1 v2 v3 v4 v5 v6 v7 v8 v9 v10 v11 v12 v13 v14 v15
        go_wp2
        go_roundw
        case rel => exact ⟨3, s + v2, by omega, rfl, rfl, by rw [HS.out]; simp <;> omega, trivial⟩
        case measure => simp [intOf]
      · replace hvk : 0 ≤ v3 ∧ v3 ≤ 1099511627776 := hvk
        have ix := idx3 v0 v1 v2 v3 v4 v5 v6 v7 v8 v9 v10 v11 v12 v13 v14 v15
        go_wp2
        go_roundw
        case rel => exact ⟨4, s + v3, by omega, rfl, rfl, by rw [HS.out]; simp <;> omega, trivial⟩
        case measure => simp [intOf]
      · replace hvk : 0 ≤ v4 ∧ v4 ≤ 1099511627776 := hvk
        have ix := idx4 v0 v1 v2 v3 v4 v5 v6 v7 v8 v9 v10 v11 v12 v13 v14 v15
        go_wp2
        go_roundw
        case rel => exact ⟨5, s + v4, by omega, rfl, rfl, by rw [HS.out]; simp <;> omega, trivial⟩
        case measure => simp [intOf]
      · replace hvk : 0 ≤ v5 ∧ v5 ≤ 1099511627776 := hvk
        have ix := idx5 v0 v1 v2 v3 v4 v5 v6 v7 v8 v9 v10 v11 v12 v13 v14 v15
        go_wp2
        go_roundw
        case rel => exact ⟨6, s + v5, by omega, rfl, rfl, by rw [HS.out]; simp <;> omega, trivial⟩
        case measure => simp [intOf]
      · replace hvk : 0 ≤ v6 ∧ v6 ≤ 1099511627776 := hvk
        have ix := idx6 v0 v1 v2 v3 v4 v5 v6 v7 v8 v9 v10 v11 v12 v13 v14 v15
        go_wp2
        go_roundw
        case rel => exact ⟨7, s + v6, by omega, rfl, rfl, by rw [HS.out]; simp <;> omega, trivial⟩
        case measure => simp [intOf]
      · replace hvk : 0 ≤ v7 ∧ v7 ≤ 1099511627776 := hvk
        have ix := idx7 v0 v1 v2 v3 v4 v5 v6 v7 v8 v9 v10 v11 v12 v13 v14 v15
        go_wp2
        go_roundw
        case rel => exact ⟨8, s + v7, by omega, rfl, rfl, by rw [HS.out]; simp <;> omega, trivial⟩
        case measure => simp [intOf]
      · replace hvk : 0 ≤ v8 ∧ v8 ≤ 1099511627776 := hvk
        have ix := idx8 v0 v1 v2 v3 v4 v5 v6 v7 v8 v9 v10 v11 v12 v13 v14 v15
        go_wp2
        go_roundw
        case rel => exact ⟨9, s + v8, by omega, rfl, rfl, by rw [HS.out]; simp <;> omega, trivial⟩
        case measure => simp [intOf]
      · replace hvk : 0 ≤ v9 ∧ v9 ≤ 1099511627776 := hvk
        have ix := idx9 v0 v1 v2 v3 v4 v5 v6 v7 v8 v9 v10 v11 v12 v13 v14 v15
        go_wp2
        go_roundw
        case rel => exact ⟨10, s + v9, by omega, rfl, rfl, by rw [HS.out]; simp <;> omega, trivial⟩
        case measure => simp [intOf]
      · replace hvk : 0 ≤ v10 ∧ v10 ≤ 1099511627776 := hvk
        have ix := idx10 v0 v1 v2 v3 v4 v5 v6 v7 v8 v9 v10 v11 v12 v13 v14 v15
        go_wp2
        go_roundw
        case rel => exact ⟨11, s + v10, by omega, rfl, rfl, by rw [HS.out]; simp <;> omega, trivial⟩
        case measure => simp [intOf]
      · replace hvk : 0 ≤ v11 ∧ v11 ≤ 1099511627776 := hvk
        have ix := idx11 v0 v1 v2 v3 v4 v5 v6 v7 v8 v9 v10 v11 v12 v13 v14 v15
        go_wp2
        go_roundw
        case rel => exact ⟨12, s + v11, by omega, rfl, rfl, by rw [HS.out]; simp <;> omega, trivial⟩
        case measure => simp [intOf]
      · replace hvk : 0 ≤ v12 ∧ v12 ≤ 1099511627776 := hvk
        have ix := idx12 v0 v1 v2 v3 v4 v5 v6 v7 v8 v9 v10 v11 v12 v13 v14 v15
        go_wp2
        go_roundw
        case rel => exact ⟨13, s + v12, by omega, rfl, rfl, by rw [HS.out]; simp <;> omega, trivial⟩
        case measure => simp [intOf]
      · replace hvk : 0 ≤ v13 ∧ v13 ≤ 1099511627776 := hvk
        have ix := idx13 v0 v1 v2 v3 v4 v5 v6 v7 v8 v9 v10 v11 v12 v13 v14 v15
        go_wp2
        go_roundw
        case rel => exact ⟨14, s + v13, by omega, rfl, rfl, by rw [HS.out]; simp <;> omega, trivial⟩
        case measure => simp [intOf]
      · replace hvk : 0 ≤ v14 ∧ v14 ≤ 1099511627776 := hvk
        have ix := idx14 v0 v1 v2 v3 v4 v5 v6 v7 v8 v9 v10 v11 v12 v13 v14 v15
        go_wp2
        go_roundw
        case rel => exact ⟨15, s + v14, by omega, rfl, rfl, by rw [HS.out]; simp <;> omega, trivial⟩
        case measure => simp [intOf]
      · replace hvk : 0 ≤ v15 ∧ v15 ≤ 1099511627776 := hvk
        have ix := idx15 v0 v1 v2 v3 v4 v5 v6 v7 v8 v9 v10 v11 v12 v13 v14 v15
        go_wp2
        go_roundw
        case rel => exact ⟨16, s + v15, by omega, rfl, rfl, by rw [HS.out]; simp <;> omega, trivial⟩
        case measure => simp [intOf]
    · obtain rfl : k = 16 := by omega
      have HSS : Hid (s = S) := Lib.hid (by have := HS.out; rw [List.take_of_length_le (by simp)] at this; rw [this, HSU.out])
      go_wp2_with fail
      refine (numbers_any (some ⟨w.heap.size + 1, 0, none⟩) [bk, bl, de, bu, us, s, cl] 7 _ (by have := new_sl encI (Value.int .i64) (fun _ => rfl) (w.alloc (.cells #[.bool false, .int .i64 bk, .int .i64 v0, .int .i64 v1, .int .i64 v2, .int .i64 v3, .int .i64 v4, .int .i64 v5, .int .i64 v6, .int .i64 v7, .int .i64 v8, .int .i64 v9, .int .i64 v10, .int .i64 v11, .int .i64 v12, .int .i64 v13, .int .i64 v14, .int .i64 v15, .slice ca cl cc, .int .i64 bl, .int .i64 de, .int .i64 bu, .int .i64 us] 37)) 3 [bk, bl, de, bu, us, s, cl] _ rfl; simpa using this) (by simp) (by simp; omega)).mono ?_
      rintro e w3 ⟨rfl, hb3⟩
      have HB3 : Hid (Below w.heap.size w w3) := Lib.hid (below_step (below_step HB0 (Nat.le_refl _) (below_new _ _)) (Nat.le_refl _) hb3)
      clear hb3 hP0 HB0
      have HT : Hid (lineOf ([(⟨#[100, 111, 119, 110]⟩ : ByteArray), str (lineOf ([bk, bl, de, bu, us, s, cl].map dec))].map (·.data.toList)) = statusOf false [bk, bl, de, bu, us, s, cl]) := Lib.hid (by
        rw [List.map_cons, List.map_cons, List.map_nil, line2, str_data]; rfl)
      have HTL : Hid ((statusOf false [bk, bl, de, bu, us, s, cl]).length ≤ 140737488355328) := Lib.hid (by
        have h2 := upOf_len false
        have h3 := join_le ([bk, bl, de, bu, us, s, (cl : Int)].map dec) 20 (by
          intro y hy
          obtain ⟨n, hn, rfl⟩ := List.mem_map.1 hy
          have hn2 : -9223372036854775808 ≤ n ∧ n ≤ 9223372036854775807 := by
            simp only [List.mem_cons, List.mem_nil_iff, or_false] at hn
            omega
          exact dec_len2 (by omega) (by omega))
        simp only [List.length_map, List.length_cons, List.length_nil] at h3
        simp only [statusOf, List.length_append, List.length_cons]
        omega)
      go_wp2_with fail
      refine (line_any (some ⟨w3.heap.size, 0, none⟩) [⟨#[100, 111, 119, 110]⟩, str (lineOf ([bk, bl, de, bu, us, s, (cl : Int)].map dec))] 2 _ (new_sl encT Value.string (fun _ => rfl) w3 9 _ _ rfl) (by simp) (by simp) (by rw [HT.out]; exact HTL.out)).mono ?_
      rintro e w4 ⟨rfl, hb4⟩
      rw [HT.out]
      have HB4 : Hid (Below w.heap.size w w4) := Lib.hid (below_step (below_step HB3.out (Nat.le_refl _) (below_new w3 _)) (Nat.le_refl _) hb4)
      clear hb4
      rw [HSS.out]
      go_wp2
      go_ret
      exact ⟨rfl, HB4.out⟩
theorem status_any (up : Bool) (bk bl de bu us : Int) (v0 v1 v2 v3 v4 v5 v6 v7 v8 v9 v10 v11 v12 v13 v14 v15 : Int) (ca : Option Addr) (cl cc : Nat) (w : World) (hv : ∀ v ∈ ([v0, v1, v2, v3, v4, v5, v6, v7, v8, v9, v10, v11, v12, v13, v14, v15] : List Int), 0 ≤ v ∧ v ≤ 1099511627776)
    (hbk : (-9223372036854775808 ≤ bk ∧ bk ≤ 9223372036854775807)) (hbl : (-9223372036854775808 ≤ bl ∧ bl ≤ 9223372036854775807)) (hde : (-9223372036854775808 ≤ de ∧ de ≤ 9223372036854775807)) (hbu : (-9223372036854775808 ≤ bu ∧ bu ≤ 9223372036854775807)) (hus : (-9223372036854775808 ≤ us ∧ us ≤ 9223372036854775807)) (hcl : cl ≤ 9223372036854775807) :
    Calls Try.prog 9 #[.agg #[.bool up, .int .i64 bk, .int .i64 v0, .int .i64 v1, .int .i64 v2, .int .i64 v3, .int .i64 v4, .int .i64 v5, .int .i64 v6, .int .i64 v7, .int .i64 v8, .int .i64 v9, .int .i64 v10, .int .i64 v11, .int .i64 v12, .int .i64 v13, .int .i64 v14, .int .i64 v15, .slice ca cl cc, .int .i64 bl, .int .i64 de, .int .i64 bu, .int .i64 us]] w fun e w' => e = .returned (.string (str (statusOf up [bk, bl, de, bu, us, ([v0, v1, v2, v3, v4, v5, v6, v7, v8, v9, v10, v11, v12, v13, v14, v15] : List Int).sum, cl]))) ∧ Below w.heap.size w w' := by
  cases up
  · exact status_false bk bl de bu us v0 v1 v2 v3 v4 v5 v6 v7 v8 v9 v10 v11 v12 v13 v14 v15 ca cl cc w hv hbk hbl hde hbu hus hcl
  · exact status_true bk bl de bu us v0 v1 v2 v3 v4 v5 v6 v7 v8 v9 v10 v11 v12 v13 v14 v15 ca cl cc w hv hbk hbl hde hbu hus hcl
end Go.Proofs.Ytmgmokbephkpbaa
