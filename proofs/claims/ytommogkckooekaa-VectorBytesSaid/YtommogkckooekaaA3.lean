/-
  The contracts of Compare, the code's and the law's own.
-/
import Derived.Test.YtommogkckooekaaA2
set_option linter.unusedVariables false
set_option linter.unusedSimpArgs false
namespace Go.Proofs.Ytommogkckooekaa
open Go.RowKit
theorem ext16 {a b : List Int} (ha : a.length = 16) (hb : b.length = 16) (h : ∀ j, j < 16 → a.getD j 0 = b.getD j 0) : a = b := by
  apply List.ext_getElem (by omega)
  intro i h1 h2
  have := h i (by omega)
  rw [List.getD_eq_getElem?_getD, List.getD_eq_getElem?_getD, List.getElem?_eq_getElem h1, List.getElem?_eq_getElem h2] at this
  exact this
def ltB (a b : List Int) : Nat → Bool
  | 0 => false
  | k + 1 => ltB a b k || decide (a.getD k 0 < b.getD k 0)
theorem ltB_iff (a b : List Int) : ∀ k, ltB a b k = true ↔ ∃ j, j < k ∧ a.getD j 0 < b.getD j 0
  | 0 => by simp [ltB]
  | k + 1 => by
    rw [ltB, Bool.or_eq_true, ltB_iff a b k, decide_eq_true_eq]
    constructor
    · rintro (⟨j, h1, h2⟩ | h)
      · exact ⟨j, by omega, h2⟩
      · exact ⟨k, by omega, h⟩
    · rintro ⟨j, h1, h2⟩
      by_cases e : j = k
      · subst e; exact .inr h2
      · exact .inl ⟨j, by omega, h2⟩
theorem ltB_not (a b : List Int) (k : Nat) : ltB a b k = false ↔ ∀ j, j < k → b.getD j 0 ≤ a.getD j 0 := by
  rw [← Bool.not_eq_true, ltB_iff]
  constructor
  · intro h j hj
    apply Classical.byContradiction
    intro hc
    exact h ⟨j, hj, by omega⟩
  · rintro h ⟨j, hj, h2⟩
    have := h j hj
    omega
def cmpV (a b : List Int) : Int := if jnV mx a b = a then (if a = b then 0 else 1) else if jnV mx a b = b then -1 else 2
theorem join_left {a b : List Int} (ha : a.length = 16) (hb : b.length = 16) : jnV mx a b = a ↔ ltB a b 16 = false := by
  rw [ltB_not]
  constructor
  · intro h j hj
    have := jnV_get mx b ha j hj
    rw [h, mx_eq] at this
    omega
  · intro h
    refine ext16 (jnV_len _ _ ha) ha (fun j hj => ?_)
    have := h j hj
    rw [jnV_get mx b ha j hj, mx_eq]; omega
theorem join_right {a b : List Int} (ha : a.length = 16) (hb : b.length = 16) : jnV mx a b = b ↔ ltB b a 16 = false := by
  rw [ltB_not]
  constructor
  · intro h j hj
    have := jnV_get mx b ha j hj
    rw [h, mx_eq] at this
    omega
  · intro h
    refine ext16 (jnV_len _ _ ha) hb (fun j hj => ?_)
    have := h j hj
    rw [jnV_get mx b ha j hj, mx_eq]; omega
theorem eq_both {a b : List Int} (ha : a.length = 16) (hb : b.length = 16) : a = b ↔ ltB a b 16 = false ∧ ltB b a 16 = false := by
  rw [ltB_not, ltB_not]
  constructor
  · rintro rfl; exact ⟨fun _ _ => Int.le_refl _, fun _ _ => Int.le_refl _⟩
  · rintro ⟨h1, h2⟩
    exact ext16 ha hb (fun j hj => by have := h1 j hj; have := h2 j hj; omega)
def rcmpV (l m : Bool) : Int := if l && m then 2 else if l then -1 else if m then 1 else 0
theorem cmp_ref {a b : List Int} (ha : a.length = 16) (hb : b.length = 16) : rcmpV (ltB a b 16) (ltB b a 16) = cmpV a b := by
  unfold cmpV rcmpV
  have h1 := join_left ha hb
  have h2 := join_right ha hb
  have h3 := eq_both ha hb
  cases x : ltB a b 16 <;> cases y : ltB b a 16 <;> simp [x, y, h1, h2, h3]
set_option maxHeartbeats 8000000 in
theorem compare_any (a b : List Int) (w : World) (ha : a.length = 16) (hb : b.length = 16) : Calls Try.prog 12 #[.agg (ints a).toArray, .agg (ints b).toArray] w fun e w' => e = .returned (.int .i64 (cmpV a b)) ∧ Below w.heap.size w w' := by
  obtain ⟨q1, q2, q3, q4⟩ := bk_three w (ints a) (ints b) [] 23 23 23
  have r1 : Bk w.heap.size (ints a) ((w.alloc (.cells (ints a).toArray 23)).alloc (.cells (ints b).toArray 23)) := (Bk.new w 23 (ints a).toArray).keep (below_new _ _)
  have r2 : Bk (w.heap.size + 1) (ints b) ((w.alloc (.cells (ints a).toArray 23)).alloc (.cells (ints b).toArray 23)) := by
    have := Bk.new (w.alloc (.cells (ints a).toArray 23)) 23 (ints b).toArray
    rw [show (w.alloc (.cells (ints a).toArray 23)).heap.size = w.heap.size + 1 by simp] at this
    exact this
  have r3 : Below w.heap.size w ((w.alloc (.cells (ints a).toArray 23)).alloc (.cells (ints b).toArray 23)) := ((Below.refl _ w).alloc (Nat.le_refl _) _).alloc (by simp) _
  clear q1 q2 q3 q4
  have T := Lib.hid (fun w => join_any a b w ha hb)
  have HAL := Lib.hid ha; have HBL := Lib.hid hb
  have HL1 := Lib.hid (vec_load r1 ha); have HL2 := Lib.hid (vec_load r2 hb)
  have HR1 := Lib.hid r1; have HR2 := Lib.hid r2; have HR3 := Lib.hid r3
  have hJl := jnV_len mx b ha
  have HE1 := Lib.hid (vec_eql (jnV mx a b) a hJl ha); have HE2 := Lib.hid (vec_eql a b ha hb); have HE3 := Lib.hid (vec_eql (jnV mx a b) b hJl hb)
  have HC : Hid (cmpV a b = if jnV mx a b = a then (if a = b then 0 else 1) else if jnV mx a b = b then -1 else 2) := Lib.hid rfl
  obtain ⟨C, hC⟩ : ∃ C, C = cmpV a b := ⟨_, rfl⟩
  rw [← hC] at HC ⊢
  obtain ⟨J, hJ⟩ : ∃ J, J = jnV mx a b := ⟨_, rfl⟩
  rw [← hJ] at HC T HE1 HE3
  obtain ⟨A, hA⟩ : ∃ A, A = (ints a).toArray := ⟨_, rfl⟩
  obtain ⟨B, hB⟩ : ∃ B, B = (ints b).toArray := ⟨_, rfl⟩
  obtain ⟨Q, hQ⟩ : ∃ Q, Q = (ints J).toArray := ⟨_, rfl⟩
  have HAE := Lib.hid hA; have HBE := Lib.hid hB
  rw [← hA] at T HL1 HL2 HR1 HR2 HR3 HE1 HE2 ⊢
  rw [← hB] at T HL1 HL2 HR1 HR2 HR3 HE2 HE3 ⊢
  rw [← hQ] at T HE1 HE3
  clear hC hJ hA hB hQ r1 r2 r3 hJl ha hb
  go_enter Try.func12, Try.ntmps12
  go_wp2_with (first | (refine Go.Proofs.Ytommogkckooekaa.wpList_load_run (by rfl) 23 _ (by rfl) (by rfl) HL1.out ?_) | (refine Go.Proofs.Ytommogkckooekaa.wpList_load_run (by rfl) 23 _ (by rfl) (by rfl) HL2.out ?_))
  refine (T.out _).mono ?_
  rintro e w2 ⟨rfl, hb2⟩
  have HB2 := Lib.hid (below_step HR3.out (Nat.le_refl _) hb2)
  have HM1 : Hid ((Instr.loadAt 23 (.pointer (some ⟨w.heap.size, 0, none⟩))).run Try.prog w2 = .ok (.agg A) w2) := Lib.hid (by rw [HAE.out]; exact vec_load (HR1.out.keep hb2) HAL.out)
  have HM2 : Hid ((Instr.loadAt 23 (.pointer (some ⟨w.heap.size + 1, 0, none⟩))).run Try.prog w2 = .ok (.agg B) w2) := Lib.hid (by rw [HBE.out]; exact vec_load (HR2.out.keep hb2) HBL.out)
  clear hb2
  by_cases h1 : J = a
  · have e1 := HE1.out
    rw [decide_eq_true h1] at e1
    by_cases h2 : a = b
    · have e2 := HE2.out
      rw [decide_eq_true h2] at e2
      have HF : Hid (C = 0) := Lib.hid (by rw [HC.out, if_pos h1, if_pos h2])
      clear h1 h2
      go_wp2_with (first | (refine Go.Proofs.Ytommogkckooekaa.wpList_load_run (by rfl) 23 _ (by rfl) (by rfl) HM1.out ?_) | (refine Go.Proofs.Ytommogkckooekaa.wpList_load_run (by rfl) 23 _ (by rfl) (by rfl) HM2.out ?_))
      go_ret
      rw [HF.out]
      exact ⟨rfl, HB2.out⟩
    · have e2 := HE2.out
      rw [decide_eq_false h2] at e2
      have HF : Hid (C = 1) := Lib.hid (by rw [HC.out, if_pos h1, if_neg h2])
      clear h1 h2
      go_wp2_with (first | (refine Go.Proofs.Ytommogkckooekaa.wpList_load_run (by rfl) 23 _ (by rfl) (by rfl) HM1.out ?_) | (refine Go.Proofs.Ytommogkckooekaa.wpList_load_run (by rfl) 23 _ (by rfl) (by rfl) HM2.out ?_))
      go_ret
      rw [HF.out]
      exact ⟨rfl, HB2.out⟩
  · have e1 := HE1.out
    rw [decide_eq_false h1] at e1
    by_cases h2 : J = b
    · have e2 := HE3.out
      rw [decide_eq_true h2] at e2
      have HF : Hid (C = -1) := Lib.hid (by rw [HC.out, if_neg h1, if_pos h2])
      clear h1 h2
      go_wp2_with (first | (refine Go.Proofs.Ytommogkckooekaa.wpList_load_run (by rfl) 23 _ (by rfl) (by rfl) HM1.out ?_) | (refine Go.Proofs.Ytommogkckooekaa.wpList_load_run (by rfl) 23 _ (by rfl) (by rfl) HM2.out ?_))
      go_ret
      rw [HF.out]
      exact ⟨rfl, HB2.out⟩
    · have e2 := HE3.out
      rw [decide_eq_false h2] at e2
      have HF : Hid (C = 2) := Lib.hid (by rw [HC.out, if_neg h1, if_neg h2])
      clear h1 h2
      go_wp2_with (first | (refine Go.Proofs.Ytommogkckooekaa.wpList_load_run (by rfl) 23 _ (by rfl) (by rfl) HM1.out ?_) | (refine Go.Proofs.Ytommogkckooekaa.wpList_load_run (by rfl) 23 _ (by rfl) (by rfl) HM2.out ?_))
      go_ret
      rw [HF.out]
      exact ⟨rfl, HB2.out⟩
end Go.Proofs.Ytommogkckooekaa

