/-
  The contract of calendar.Date: a day's date, or the error.
-/
import Derived.Test.YtnenmieolbfheaaC
namespace Go.Proofs.Ytnenmieolbfheaa
open Go.RowKit
attribute [local go_sem] max2_int min2_int max_two min_two
theorem date_no (n : Int) (w : World) (h : n < 0 ∨ 3652364 < n) : Calls Try.prog 7 #[.int .i64 n] w fun e w' => e = .returned (.tuple #[.agg #[.int .i64 0, .int .i64 0, .int .i64 0], .int .i64 2]) ∧ Below w.heap.size w w' := by
  rcases h with h | h
  all_goals
    have h' : n < 0 ∨ 0 ≤ n := by omega
    rcases h' with h' | h'
    all_goals try (exfalso; omega)
    all_goals
      go_enter Try.func7, Try.ntmps7
      go_wp2
      refine bodyPost_ret (v := .tuple #[.agg #[.int .i64 0, .int .i64 0, .int .i64 0], .int .i64 2]) (by simp [results, Try.results7, go_sem]) rfl ⟨rfl, ?_⟩
      exact (Below.refl _ _).alloc (Nat.le_refl _) _
/-- The month of a day of the year, March being 0. -/
def mi (r : Int) : Int := if r < 31 then 0 else if r < 61 then 1 else if r < 92 then 2 else if r < 122 then 3 else if r < 153 then 4 else if r < 184 then 5 else if r < 214 then 6 else if r < 245 then 7 else if r < 275 then 8 else if r < 306 then 9 else if r < 337 then 10 else 11
theorem mi_bd (r : Int) : 0 ≤ mi r ∧ mi r ≤ 11 := by unfold mi; repeat' split <;> omega
theorem mi_low (r : Int) (h0 : 0 ≤ r) : st (mi r) ≤ r := by
  unfold mi
  repeat' split
  all_goals simp [st] <;> omega
theorem mi_high (r : Int) (h1 : r ≤ 365) : r < st (mi r + 1) := by
  unfold mi
  repeat' split
  all_goals simp [st] <;> omega
theorem st_succ (k : Int) : st k ≤ st (k + 1) := by
  by_cases h : k < 0
  · unfold st; rw [if_pos (by omega), if_pos (by omega)]; omega
  by_cases h2 : 12 < k
  · have e1 : st k = 366 := by unfold st; repeat' (rw [if_neg (by omega)])
    have e2 : st (k + 1) = 366 := by unfold st; repeat' (rw [if_neg (by omega)])
    omega
  obtain rfl | rfl | rfl | rfl | rfl | rfl | rfl | rfl | rfl | rfl | rfl | rfl | rfl : k = 0 ∨ k = 1 ∨ k = 2 ∨ k = 3 ∨ k = 4 ∨ k = 5 ∨ k = 6 ∨ k = 7 ∨ k = 8 ∨ k = 9 ∨ k = 10 ∨ k = 11 ∨ k = 12 := by omega
  all_goals decide
theorem st_add (k : Int) : ∀ n : Nat, st k ≤ st (k + n)
  | 0 => by simp
  | n + 1 => by
    have h1 := st_add k n
    have h2 := st_succ (k + n)
    have e : k + ((n + 1 : Nat) : Int) = k + n + 1 := by omega
    rw [e]; omega
theorem st_mono {a b : Int} (h : a ≤ b) : st a ≤ st b := by
  have := st_add a (b - a).toNat
  rw [show a + ((b - a).toNat : Int) = b by omega] at this
  exact this
theorem mi_spec (r : Int) (h0 : 0 ≤ r) (h1 : r ≤ 365) (k : Int) : (k < mi r → st (k + 1) ≤ r) ∧ (mi r ≤ k → r < st (k + 1)) := by
  have a := mi_low r h0
  have b := mi_high r h1
  refine ⟨fun h => ?_, fun h => ?_⟩
  · have := st_mono (a := k + 1) (b := mi r) (by omega); omega
  · have := st_mono (a := mi r + 1) (b := k + 1) (by omega); omega
def dY (n : Int) : Int := if 10 ≤ mi (cr n) then cy n + 1 else cy n
def dM (n : Int) : Int := (mi (cr n) + 2) % 12 + 1
def dD (n : Int) : Int := cr n - st (mi (cr n)) + 1
set_option maxHeartbeats 1000000 in
theorem date_ok (n : Int) (w : World) (h0 : 0 ≤ n) (h1 : n ≤ 3652364) : Calls Try.prog 7 #[.int .i64 n] w fun e w' => e = .returned (.tuple #[.agg #[.int .i64 (dY n), .int .i64 (dM n), .int .i64 (dD n)], .int .i64 0]) ∧ Below w.heap.size w w' := by
  obtain ⟨cy0, cy1, cr0, cr1, _, _⟩ := cy_spec n h0 h1
  have hq := mn_eq (n % 146097 / 36524) 3
  have hr : cr n = cr n := rfl
  have hy : cy n = cy n := rfl
  conv at hr => lhs; unfold cr
  conv at hy => lhs; unfold cy
  rw [← hq] at hr hy
  obtain ⟨q, hq'⟩ : ∃ q, mn (n % 146097 / 36524) 3 = q := ⟨_, rfl⟩
  rw [hq'] at hq hr hy
  have q0 : 0 ≤ q := by omega
  have q1 : q ≤ 3 := by omega
  have q2 : 36524 * q ≤ n % 146097 := by omega
  have q3 : n % 146097 - 36524 * q ≤ 36524 := by omega
  have hv := mn_eq ((n % 146097 - 36524 * q - 1461 * ((n % 146097 - 36524 * q) / 1461)) / 365) 3
  rw [← hv] at hr hy
  obtain ⟨v, hv'⟩ : ∃ v, mn ((n % 146097 - 36524 * q - 1461 * ((n % 146097 - 36524 * q) / 1461)) / 365) 3 = v := ⟨_, rfl⟩
  rw [hv'] at hv hr hy
  have v0 : 0 ≤ v := by omega
  have v1 : v ≤ 3 := by omega
  have v2 : 365 * v ≤ n % 146097 - 36524 * q - 1461 * ((n % 146097 - 36524 * q) / 1461) := by omega
  clear hq hv
  have hmb := mi_bd (cr n)
  have hml := mi_low (cr n) cr0
  have HMS := Lib.hid (mi_spec (cr n) cr0 cr1)
  have HY : Hid (dY n = if 10 ≤ mi (cr n) then cy n + 1 else cy n) := Lib.hid rfl
  have HM : Hid (dM n = (mi (cr n) + 2) % 12 + 1) := Lib.hid rfl
  have HDd : Hid (dD n = cr n - st (mi (cr n)) + 1) := Lib.hid rfl
  generalize cr n = r at *
  generalize cy n = y at *
  generalize mi r = k at *
  go_enter Try.func7, Try.ntmps7
  go_wp2_with (go_at_call 13; refine (starts_any _).mono ?_; rintro e w1 ⟨rfl, hb1⟩)
  have hz : w.heap.size < w1.heap.size := by have := hb1.size; simp at this; omega
  have q0 := (hb1.cell (p := ⟨w.heap.size, 0, none⟩) (by simp)).trans (cell_new _ _ _ _)
  have q1 := (hb1.cell (p := ⟨w.heap.size, 1, none⟩) (by simp)).trans (cell_new _ _ _ _)
  have q2 := (hb1.cell (p := ⟨w.heap.size, 2, none⟩) (by simp)).trans (cell_new _ _ _ _)
  have f0 := (hb1.frozen (p := ⟨w.heap.size, 0, none⟩) (by simp)).trans (frozen_new _ _ _ _)
  have f1 := (hb1.frozen (p := ⟨w.heap.size, 1, none⟩) (by simp)).trans (frozen_new _ _ _ _)
  have f2 := (hb1.frozen (p := ⟨w.heap.size, 2, none⟩) (by simp)).trans (frozen_new _ _ _ _)
  simp only [List.getElem?_toArray, List.getElem?_cons_zero, List.getElem?_cons_succ] at q0 q1 q2
  have hcl := fun W => table_cell W
  have h12 : (0 : Int) ≤ r := cr0
  go_loop [7] (fun i => ∃ j : Int, 0 ≤ j ∧ j ≤ k ∧ i = .int .i64 j) (fun i => (k - intOf i).toNat)
  case atStart => exact ⟨0, by omega, by omega, rfl⟩
  case round =>
    obtain ⟨j, j0, j1, rfl⟩ := hrel
    have hc := fun W => table_cell W (j + 1) (by omega) (by omega)
    clear hcl
    have hs := st_bd (j + 1)
    obtain ⟨hA, hB⟩ := HMS.out j
    by_cases hj : j < k
    · have hA' := hA hj
      clear hA hB
      generalize st (j + 1) = S at *
      go_wp2
      go_round
      case rel => exact ⟨j + 1, by omega, by omega, rfl⟩
      case measure => simp [intOf]; omega
    · obtain rfl : j = k := by omega
      have hB' := hB (Int.le_refl _)
      clear hA hB
      have hc2 := fun W => table_cell W j (by omega) (by omega)
      have hs2 := st_bd j
      generalize hS : st (j + 1) = S at *
      clear hS
      generalize hT : st j = T at *
      have HT := Lib.hid hT
      clear hT
      have HQ := Lib.hid (And.intro q0 (And.intro q1 (And.intro q2 hz)))
      have HB : Hid (Below w.heap.size w w1) := Lib.hid (((Below.refl _ _).alloc (Nat.le_refl _) _).trans (hb1.mono (by simp)))
      by_cases hk : 10 ≤ j
      · go_wp2
        refine bodyPost_ret (v := .tuple #[.agg #[.int .i64 (dY n), .int .i64 (dM n), .int .i64 (dD n)], .int .i64 0]) ?_ rfl ⟨rfl, ?_⟩
        · rw [HY.out, HM.out, HDd.out, if_pos hk]
          obtain ⟨a0, a1, a2, a3⟩ := HQ.out
          simp [results, Try.results7, go_sem, a0, a1, a2, a3]
        · exact (((HB.out.setCell (Nat.le_refl _) _).setCell (Nat.le_refl _) _).setCell (Nat.le_refl _) _).alloc (by have := HQ.out.2.2.2; simp [World.setCell]; omega) _
      · go_wp2
        refine bodyPost_ret (v := .tuple #[.agg #[.int .i64 (dY n), .int .i64 (dM n), .int .i64 (dD n)], .int .i64 0]) ?_ rfl ⟨rfl, ?_⟩
        · rw [HY.out, HM.out, HDd.out, if_neg (by omega : ¬ 10 ≤ j)]
          obtain ⟨a0, a1, a2, a3⟩ := HQ.out
          simp [results, Try.results7, go_sem, a0, a1, a2, a3]
        · exact (((HB.out.setCell (Nat.le_refl _) _).setCell (Nat.le_refl _) _).setCell (Nat.le_refl _) _).alloc (by have := HQ.out.2.2.2; simp [World.setCell]; omega) _
end Go.Proofs.Ytnenmieolbfheaa
