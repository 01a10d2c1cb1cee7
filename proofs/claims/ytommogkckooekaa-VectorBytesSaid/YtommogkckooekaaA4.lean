/-
  The contract of the law's own Compare.
-/
import Derived.Test.YtommogkckooekaaA3
set_option linter.unusedVariables false
set_option linter.unusedSimpArgs false
namespace Go.Proofs.Ytommogkckooekaa
open Go.RowKit
theorem below_drewN' {B : Nat} {a w : World} (h : Below B a w) (n : Nat) : Below B a (w.drewN n) := h.trans ⟨rfl, rfl, rfl, Nat.le_refl _, fun _ _ => rfl⟩
set_option maxHeartbeats 16000000 in
theorem rcompare_any (a b : List Int) (w : World) (ha : a.length = 16) (hb : b.length = 16) : Calls Try.prog 13 #[.agg (ints a).toArray, .agg (ints b).toArray] w fun e w' => e = .returned (.int .i64 (cmpV a b)) ∧ Below w.heap.size w w' := by
  have r1 : Bk w.heap.size (ints a) ((w.alloc (.cells (ints a).toArray 23)).alloc (.cells (ints b).toArray 23)) := (Bk.new w 23 (ints a).toArray).keep (below_new _ _)
  have r2 : Bk (w.heap.size + 1) (ints b) ((w.alloc (.cells (ints a).toArray 23)).alloc (.cells (ints b).toArray 23)) := by
    have := Bk.new (w.alloc (.cells (ints a).toArray 23)) 23 (ints b).toArray
    rw [show (w.alloc (.cells (ints a).toArray 23)).heap.size = w.heap.size + 1 by simp] at this
    exact this
  have r3 : Below w.heap.size w ((w.alloc (.cells (ints a).toArray 23)).alloc (.cells (ints b).toArray 23)) := ((Below.refl _ w).alloc (Nat.le_refl _) _).alloc (by simp) _
  have HAL := Lib.hid ha; have HBL := Lib.hid hb
  have HR1 := Lib.hid r1; have HR2 := Lib.hid r2; have HR3 := Lib.hid r3
  have HC := Lib.hid (cmp_ref ha hb)
  have HL1 : Hid (∀ k, ltB a b (k + 1) = (ltB a b k || decide (a.getD k 0 < b.getD k 0))) := Lib.hid (fun k => rfl)
  have HL2 : Hid (∀ k, ltB b a (k + 1) = (ltB b a k || decide (b.getD k 0 < a.getD k 0))) := Lib.hid (fun k => rfl)
  obtain ⟨C, hC⟩ : ∃ C, C = cmpV a b := ⟨_, rfl⟩
  rw [← hC] at HC ⊢
  obtain ⟨A, hA⟩ : ∃ A, A = (ints a).toArray := ⟨_, rfl⟩
  obtain ⟨B, hB⟩ : ∃ B, B = (ints b).toArray := ⟨_, rfl⟩
  rw [← hA] at HR1 HR2 HR3 ⊢
  rw [← hB] at HR1 HR2 HR3 ⊢
  clear hC hA hB r1 r2 r3 ha hb
  go_enter Try.func13, Try.ntmps13
  go_wp2
  obtain ⟨W1, hW1⟩ : ∃ W1, W1 = ((w.alloc (.cells A 23)).alloc (.cells B 23)) := ⟨_, rfl⟩
  rw [← hW1] at HR1 HR2 HR3 ⊢
  clear hW1
  go_loopw [5, 6, 7] (fun l m i wr => ∃ k : Nat, i = .int .i64 k ∧ k ≤ 16 ∧ l = .bool (ltB a b k) ∧ m = .bool (ltB b a k) ∧ ∃ n, wr = W1.drewN n) (fun _ _ i _ => 16 - (intOf i).toNat)
  case atStart => exact ⟨0, rfl, by omega, rfl, rfl, 0, rfl⟩
  case round =>
    obtain ⟨k, rfl, hk, rfl, rfl, n, rfl⟩ := hrel
    by_cases hkt : k < 16
    · have d1 : (k : Int) < 16 := by omega
      have d2 : (0 : Int) ≤ (k : Int) := by omega
      have ca := (HR1.out.2 k _ (ints_get a k (by rw [HAL.out]; exact hkt))).1
      have cb := (HR2.out.2 k _ (ints_get b k (by rw [HBL.out]; exact hkt))).1
      have h1 := HL1.out k
      have h2 := HL2.out k
      obtain ⟨x, hx⟩ : ∃ x, x = a.getD k 0 := ⟨_, rfl⟩
      obtain ⟨y, hy⟩ : ∃ y, y = b.getD k 0 := ⟨_, rfl⟩
      rw [← hx] at ca h1 h2
      rw [← hy] at cb h1 h2
      have H1 := Lib.hid h1; have H2 := Lib.hid h2
      clear h1 h2 hx hy
      generalize ltB a b k = p at *
      generalize ltB b a k = q at *
      cases p <;> cases q
      all_goals
        go_wp2
        go_quiet (fail)
        go_wp2
        go_quiet (fail)
        go_wp2
        go_roundw
        case rel => exact ⟨k + 1, by go_num, by omega, by rw [H1.out]; simp, by rw [H2.out]; simp, _, rfl⟩
        case measure => simp [intOf]; omega
    · obtain rfl : k = 16 := by omega
      generalize ltB a b 16 = p at *
      generalize ltB b a 16 = q at *
      cases p <;> cases q
      all_goals
        have HF := Lib.hid HC.out.symm
        simp only [rcmpV, Bool.and_self, Bool.false_and, Bool.and_false, if_true, Bool.false_eq_true, if_false] at HF
        go_wp2
        go_ret
        rw [HF.out]
        exact ⟨rfl, below_drewN' HR3.out n⟩
end Go.Proofs.Ytommogkckooekaa

