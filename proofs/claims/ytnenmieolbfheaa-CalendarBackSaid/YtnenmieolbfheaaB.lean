/-
  Contracts of calendar.Days and the reference's Days, in numbers: a date's day, or the error.
-/
import Derived.Test.YtnenmieolbfheaaA
namespace Go.Proofs.Ytnenmieolbfheaa
open Go.RowKit
theorem ok_true {y m d : Int} (h : 0 ≤ y ∧ y ≤ 9999 ∧ 1 ≤ m ∧ m ≤ 12 ∧ 1 ≤ d ∧ d ≤ dim y m ∧ ¬ (y = 0 ∧ m < 3)) : okD y m d = true := decide_eq_true h
theorem ok_iff {y m d : Int} : okD y m d = true ↔ 0 ≤ y ∧ y ≤ 9999 ∧ 1 ≤ m ∧ m ≤ 12 ∧ 1 ≤ d ∧ d ≤ dim y m ∧ ¬ (y = 0 ∧ m < 3) := by unfold okD; exact decide_eq_true_iff
set_option maxHeartbeats 1000000 in
theorem days_no (y m d : Int) (w : World) (h : okD y m d = false) : Calls Try.prog 5 #[.int .i64 y, .int .i64 m, .int .i64 d] w fun e w' => e = .returned (.tuple #[.int .i64 0, .int .i64 2]) ∧ Below w.heap.size w w' := by
  have h' : ¬ (0 ≤ y ∧ y ≤ 9999 ∧ 1 ≤ m ∧ m ≤ 12 ∧ 1 ≤ d ∧ d ≤ dim y m ∧ ¬ (y = 0 ∧ m < 3)) := fun k => by rw [ok_true k] at h; cases h
  clear h
  by_cases a : y < 0
  · clear h'
    go_enter Try.func5, Try.ntmps5
    go_wp2
    go_ret2
    exact ⟨rfl, Below.refl _ _⟩
  by_cases b : 9999 < y
  · clear h'
    go_enter Try.func5, Try.ntmps5
    go_wp2
    go_ret2
    exact ⟨rfl, Below.refl _ _⟩
  by_cases c : m < 1
  · clear h'
    go_enter Try.func5, Try.ntmps5
    go_wp2
    go_ret2
    exact ⟨rfl, Below.refl _ _⟩
  by_cases e : 12 < m
  · clear h'
    go_enter Try.func5, Try.ntmps5
    go_wp2
    go_ret2
    exact ⟨rfl, Below.refl _ _⟩
  by_cases f : d < 1
  · clear h'
    go_enter Try.func5, Try.ntmps5
    go_wp2
    go_ret2
    exact ⟨rfl, Below.refl _ _⟩
  have HD := long_any y m w (by omega) (by omega) (by omega) (by omega)
  generalize dim y m = D at h' HD
  have HH := Lib.hid HD; clear HD
  by_cases g : D < d
  · clear h'
    go_enter Try.func5, Try.ntmps5
    go_wp2_with (go_at_call 12; refine (HH.out).mono ?_; rintro e w1 ⟨rfl, hb1⟩)
    go_ret2
    exact ⟨rfl, hb1⟩
  · have k : y = 0 ∧ m < 3 := by omega
    obtain ⟨rfl, k2⟩ := k
    clear h'
    go_enter Try.func5, Try.ntmps5
    go_wp2_with (go_at_call 12; refine (HH.out).mono ?_; rintro e w1 ⟨rfl, hb1⟩)
    go_ret2
    exact ⟨rfl, hb1⟩
theorem ret2 {a b c d : Int} {k l : IntKind} (h : a = b) (h' : c = d) : Ending.returned (.tuple #[.int k a, .int l c]) = .returned (.tuple #[.int k b, .int l d]) := by rw [h, h']
theorem table_cell (W : World) (k : Int) (h0 : 0 ≤ k) (h1 : k ≤ 12) : (W.alloc (.cells #[.int .i64 0, .int .i64 31, .int .i64 61, .int .i64 92, .int .i64 122, .int .i64 153, .int .i64 184, .int .i64 214, .int .i64 245, .int .i64 275, .int .i64 306, .int .i64 337, .int .i64 366] 38)).cell? ⟨W.heap.size, k.toNat, none⟩ = some (.int .i64 (st k)) := by
  obtain rfl | rfl | rfl | rfl | rfl | rfl | rfl | rfl | rfl | rfl | rfl | rfl | rfl : k = 0 ∨ k = 1 ∨ k = 2 ∨ k = 3 ∨ k = 4 ∨ k = 5 ∨ k = 6 ∨ k = 7 ∨ k = 8 ∨ k = 9 ∨ k = 10 ∨ k = 11 ∨ k = 12 := by omega
  all_goals exact (cell_new _ _ _ _).trans rfl
theorem st_bd (k : Int) : 0 ≤ st k ∧ st k ≤ 366 := by unfold st; repeat' split <;> omega
set_option maxHeartbeats 1000000 in
theorem days_ok (y m d : Int) (w : World) (h : okD y m d = true) : Calls Try.prog 5 #[.int .i64 y, .int .i64 m, .int .i64 d] w fun e w' => e = .returned (.tuple #[.int .i64 (num y m d), .int .i64 0]) ∧ Below w.heap.size w w' := by
  obtain ⟨h0, h1, m0, m1, d0, d1, hz⟩ := ok_iff.1 h
  clear h
  have hd := dim_bd y m
  have HH := Lib.hid (long_any y m w h0 (by omega) m0 m1)
  generalize dim y m = D at *
  have hc := fun W => table_cell W ((m + 9) % 12) (by omega) (by omega)
  have hi0 : 0 ≤ (m + 9) % 12 := by omega
  have hi1 : (m + 9) % 12 < 13 := by omega
  have hs := st_bd ((m + 9) % 12)
  by_cases hm : m < 3
  · have hy1 : 1 ≤ y := by omega
    clear hz
    have HN : Hid (num y m d = yr (y - 1) + st ((m + 9) % 12) + d - 1) := Lib.hid (by unfold num; rw [if_pos hm])
    generalize st ((m + 9) % 12) = S at *
    go_enter Try.func5, Try.ntmps5
    go_wp2_with (first | (go_at_call 12; refine (HH.out).mono ?_; rintro e w1 ⟨rfl, hb1⟩) | (go_at_call 13; refine (starts_any _).mono ?_; rintro e w2 ⟨rfl, hb2⟩))
    go_ret2
    exact ⟨ret2 (by rw [HN.out]; unfold yr; rfl) rfl, (below_cons hb1 hb2).alloc (below_cons hb1 hb2).size _⟩
  · have HN : Hid (num y m d = yr y + st ((m + 9) % 12) + d - 1) := Lib.hid (by unfold num; rw [if_neg hm])
    clear hz
    generalize st ((m + 9) % 12) = S at *
    by_cases hy : y = 0
    · subst hy
      go_enter Try.func5, Try.ntmps5
      go_wp2_with (first | (go_at_call 12; refine (HH.out).mono ?_; rintro e w1 ⟨rfl, hb1⟩) | (go_at_call 13; refine (starts_any _).mono ?_; rintro e w2 ⟨rfl, hb2⟩))
      go_ret2
      exact ⟨ret2 (by rw [HN.out]; unfold yr; simp) rfl, (below_cons hb1 hb2).alloc (below_cons hb1 hb2).size _⟩
    · have hy1 : 1 ≤ y := by omega
      clear hy
      go_enter Try.func5, Try.ntmps5
      go_wp2_with (first | (go_at_call 12; refine (HH.out).mono ?_; rintro e w1 ⟨rfl, hb1⟩) | (go_at_call 13; refine (starts_any _).mono ?_; rintro e w2 ⟨rfl, hb2⟩))
      go_ret2
      exact ⟨ret2 (by rw [HN.out]; unfold yr; rfl) rfl, (below_cons hb1 hb2).alloc (below_cons hb1 hb2).size _⟩
end Go.Proofs.Ytnenmieolbfheaa
