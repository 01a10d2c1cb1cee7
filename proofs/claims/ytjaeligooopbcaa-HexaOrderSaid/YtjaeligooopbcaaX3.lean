/-
  The walk of HexaOrder.
-/
import Derived.Test.YtjaeligooopbcaaX2
set_option linter.unusedVariables false
set_option linter.unusedSimpArgs false
namespace Go.Proofs.Ytjaeligooopbcaa
open Go.RowKit
theorem dgN_lt_iff {a b : Nat} (ha : a < 16) (hb : b < 16) : dgN a < dgN b ↔ a < b := by
  unfold dgN; split <;> split <;> omega
def natLess : List Nat → List Nat → Bool
  | _, [] => false
  | [], _ :: _ => true
  | a :: x, b :: y => decide (a < b) || (decide (a = b) && natLess x y)
theorem less_nat : ∀ (x y : List UInt8), Op.bytesLess x y = natLess (x.map (·.toNat)) (y.map (·.toNat))
  | [], [] => rfl
  | _ :: _, [] => rfl
  | [], _ :: _ => rfl
  | a :: x, b :: y => by
    have ih := less_nat x y
    simp only [Op.bytesLess, List.map_cons, natLess, ih]
    congr 1
    congr 1
    by_cases h : a = b
    · subst h; simp
    · have h2 : ¬ a.toNat = b.toNat := fun e => h (UInt8.toNat_inj.1 e)
      simp [h, h2]
theorem less_two (a b c d : Nat) (x y : List Nat) : natLess (a :: b :: x) (c :: d :: y) = (decide (a < c ∨ (a = c ∧ b < d)) || (decide (a = c ∧ b = d) && natLess x y)) := by
  simp only [natLess]
  by_cases h1 : a < c
  · simp [h1]
  · by_cases h2 : a = c
    · subst h2
      by_cases h3 : b < d
      · simp [h3]
      · simp [h3]
    · simp [h1, h2]
theorem less_put : ∀ (l m : List Nat), (∀ c ∈ l, c < 256) → (∀ c ∈ m, c < 256) → natLess (putL l) (putL m) = natLess l m
  | [], [], _, _ => rfl
  | _ :: _, [], _, _ => rfl
  | [], _ :: _, _, _ => rfl
  | x :: l, y :: m, hl, hm => by
    have ih := less_put l m (fun c hc => hl c (by simp [hc])) (fun c hc => hm c (by simp [hc]))
    have hx := hl x (by simp)
    have hy := hm y (by simp)
    have e1 : putL (x :: l) = dgN (x / 16) :: dgN (x % 16) :: putL l := by simp [putL, putW]
    have e2 : putL (y :: m) = dgN (y / 16) :: dgN (y % 16) :: putL m := by simp [putL, putW]
    rw [e1, e2, less_two, ih, natLess]
    have q1 := dgN_lt_iff (a := x / 16) (b := y / 16) (by omega) (by omega)
    have q2 := dgN_lt_iff (a := x % 16) (b := y % 16) (by omega) (by omega)
    have q3 : dgN (x / 16) = dgN (y / 16) ↔ x / 16 = y / 16 := ⟨dgN_inj (by omega) (by omega), fun h => by rw [h]⟩
    have q4 : dgN (x % 16) = dgN (y % 16) ↔ x % 16 = y % 16 := ⟨dgN_inj (by omega) (by omega), fun h => by rw [h]⟩
    have f1 : (dgN (x / 16) < dgN (y / 16) ∨ (dgN (x / 16) = dgN (y / 16) ∧ dgN (x % 16) < dgN (y % 16))) ↔ x < y := by rw [q1, q2, q3]; omega
    have f2 : (dgN (x / 16) = dgN (y / 16) ∧ dgN (x % 16) = dgN (y % 16)) ↔ x = y := by rw [q3, q4]; omega
    rw [decide_eq_decide.2 f1, decide_eq_decide.2 f2]
theorem less_putV (s t : ByteArray) : Op.bytesLess (putV s).toList (putV t).toList = Op.bytesLess s.toList t.toList := by
  rw [less_nat, less_nat, Lib.toList_data, Lib.toList_data, Lib.toList_data, Lib.toList_data]
  have h := less_put (byB s) (byB t) (byB_byte s) (byB_byte t)
  rw [← byB_putV, ← byB_putV] at h
  exact h
theorem order_walk (s t : ByteArray) (w : World) (w0 : s.size ≤ 140737488351232) (w1 : t.size ≤ 140737488351232) : Calls Try.prog 5 #[.string s, .string t] w fun e w' => e = .returned (.bool true) ∧ Below w.heap.size w w' := by
  by_cases hb : 500 < s.size ∨ 500 < t.size
  · by_cases hb1 : 500 < s.size
    · have d1 : (500 : Int) < (s.size : Int) := by omega
      go_enter Try.func5, Try.ntmps5
      go_wp2_with fail
      refine (awake_any _).mono ?_
      rintro e w1 ⟨rfl, hb1⟩
      go_wp2
      go_ret
      exact ⟨rfl, hb1⟩
    · have d1 : ¬ (500 : Int) < (s.size : Int) := by omega
      have d2 : (500 : Int) < (t.size : Int) := by omega
      go_enter Try.func5, Try.ntmps5
      go_wp2_with fail
      refine (awake_any _).mono ?_
      rintro e w1 ⟨rfl, hb1⟩
      go_wp2
      go_ret
      exact ⟨rfl, hb1⟩
  · have d1 : ¬ (500 : Int) < (s.size : Int) := by omega
    have d2 : ¬ (500 : Int) < (t.size : Int) := by omega
    have R3 : Hid (∀ w, Calls Try.prog 9 #[.string s] w fun e w' => e = .returned (.string (putV s)) ∧ Below w.heap.size w w') := Lib.hid (fun w => put_any s w (by omega))
    have R4 : Hid (∀ w, Calls Try.prog 9 #[.string t] w fun e w' => e = .returned (.string (putV t)) ∧ Below w.heap.size w w') := Lib.hid (fun w => put_any t w (by omega))
    have hsz := putV_size s
    obtain ⟨C, hC⟩ : ∃ C, C = putV s := ⟨_, rfl⟩
    obtain ⟨D, hD⟩ : ∃ D, D = putV t := ⟨_, rfl⟩
    rw [← hC] at R3 hsz
    rw [← hD] at R4
    have hls : (Op.bytesLess C.toList D.toList == Op.bytesLess s.toList t.toList) = true := by rw [hC, hD, less_putV]; simp
    have HC := Lib.hid hC
    have HD := Lib.hid hD
    clear hC hD
    have hsz2 : (C.size : Int) = 2 * (s.size : Int) := by omega
    go_enter Try.func5, Try.ntmps5
    go_wp2_with fail
    refine (R3.out _).mono ?_
    rintro e w1 ⟨rfl, hb1⟩
    go_wp2_with fail
    refine (R4.out _).mono ?_
    rintro e w2 ⟨rfl, hb2⟩
    have HB2 := Lib.hid (below_step hb1 (Nat.le_refl _) hb2)
    clear hb1 hb2
    go_wp2_with fail
    refine (R3.out _).mono ?_
    rintro e w3 ⟨rfl, hb3⟩
    have HB3 := Lib.hid (below_step HB2.out (Nat.le_refl _) hb3)
    clear hb3
    go_wp2_with fail
    refine (awake_any _).mono ?_
    rintro e w9 ⟨rfl, hb9⟩
    have HB9 := Lib.hid (below_step HB3.out (Nat.le_refl _) hb9)
    clear hb9
    go_wp2
    go_ret
    exact ⟨rfl, HB9.out⟩
end Go.Proofs.Ytjaeligooopbcaa

