/-
  The contract of the law's awake.
-/
import Derived.Test.YtogpjoenfcleoaaL
set_option linter.unusedVariables false
set_option linter.unusedSimpArgs false
namespace Go.Proofs.Ytogpjoenfcleoaa
open Go.RowKit
theorem count_set : ∀ (l : List Bool) (i : Nat), (l.set i true).count true ≤ l.count true + 1
  | [], i => by simp
  | a :: l, 0 => by
    rw [List.set_cons_zero, List.count_cons, List.count_cons]
    split <;> simp <;> omega
  | a :: l, i + 1 => by
    rw [List.set_cons_succ, List.count_cons, List.count_cons]
    have := count_set l i
    omega
theorem count_add (m : List Bool) (s : ByteArray) (b : Nat) : ∀ t, (addN m s b t).count true ≤ m.count true + t
  | 0 => by simp [addN]
  | t + 1 => by
    have := count_add m s b t
    have := count_set (addN m s b t) (mk s t b)
    rw [addN]; omega
theorem count_one (m : List Bool) (j : Nat) (h : m.getD j false = true) : 1 ≤ m.count true := by
  rw [Nat.succ_le_iff, List.count_pos_iff]
  by_cases hj : j < m.length
  · rw [List.getD_eq_getElem?_getD, List.getElem?_eq_getElem hj] at h
    simp only [Option.getD_some] at h
    rw [← h]
    exact List.getElem_mem hj
  · rw [List.getD_eq_getElem?_getD, List.getElem?_eq_none (by omega)] at h
    simp at h
theorem noM_has (s : ByteArray) (b t : Nat) : hasN noM s b (t + 1) = false := hasN_no _ _ _ _ 0 (by omega) (noM_get _)
theorem noM_count : noM.count true = 0 := by unfold noM; rw [List.count_replicate]; rfl
def zx : ByteArray := ⟨#[120]⟩
theorem cnt_awake : 1 ≤ cntM (addN noM zx 64 3) 4096 ∧ cntM (addN noM zx 64 3) 4096 ≤ 3 := by
  have hl : (addN noM zx 64 3).length = 4096 := by rw [addN_len, noM_len]
  unfold cntM
  rw [List.take_of_length_le (by omega)]
  refine ⟨count_one _ (mk zx 0 64) (addN_new noM zx 64 (by omega) (by rw [noM_len]; omega) 3 0 (by omega)), ?_⟩
  have := count_add noM zx 64 3
  rw [noM_count] at this
  omega
theorem Bk.drewN {p : Nat} {vs : List Value} {w : World} (h : Bk p vs w) (n : Nat) : Bk p vs (w.drewN n) := h
theorem below_drewN' {B : Nat} {a w : World} (h : Below B a w) (n : Nat) : Below B a (w.drewN n) := h.trans ⟨rfl, rfl, rfl, Nat.le_refl _, fun _ _ => rfl⟩
theorem kp_drewN (S : Nat → Prop) (w : World) (n : Nat) : Kp S w (w.drewN n) := ⟨rfl, rfl, rfl, Nat.le_refl _, fun _ _ _ => rfl⟩
set_option maxHeartbeats 4000000 in
theorem awake_any (w : World) : Calls Try.prog 5 #[] w fun e w' => e = .returned (.bool true) ∧ Below w.heap.size w w' := by
  have HC := Lib.hid cnt_awake
  have HL : Hid ((addN noM zx 64 3).length = 4096) := Lib.hid (by rw [addN_len, noM_len])
  have HH : Hid (hasN (addN noM zx 64 3) zx 64 3 = true) := Lib.hid (has_add _ _ _ _ (by omega) (by rw [noM_len]; omega))
  obtain ⟨M, hM⟩ : ∃ M, M = addN noM zx 64 3 := ⟨_, rfl⟩
  rw [← hM] at HC HL HH
  have HM := Lib.hid hM
  clear hM
  go_enter Try.func5, Try.ntmps5
  go_wp2_with fail
  refine (new_any 64 3 w (by omega) (by omega) (by omega) (by omega)).mono ?_
  rintro e w1 ⟨rfl, hq, hb⟩
  obtain ⟨p, hp⟩ : ∃ p, p = w.heap.size := ⟨_, rfl⟩
  rw [← hp] at hq ⊢
  have hq : Bk p (svC noM 64 3) w1 := hq
  have HQ := Lib.hid hq; have HB := Lib.hid hb; have HP := Lib.hid hp
  clear hq hb hp
  go_wp2_with fail
  refine (new_any 64 2 w1 (by omega) (by omega) (by omega) (by omega)).mono ?_
  rintro e w2 ⟨rfl, hq, hb⟩
  have hpq : p < w1.heap.size := HQ.out.1
  obtain ⟨q, hp⟩ : ∃ q, q = w1.heap.size := ⟨_, rfl⟩
  rw [← hp] at hq hpq ⊢
  have hq : Bk q (svC noM 64 2) w2 := hq
  have HO := Lib.hid hq; have HQ2 := Lib.hid (HQ.out.keep hb); have HB2 := Lib.hid (below_step HB.out (Nat.le_refl _) hb); have HPQ := Lib.hid hpq
  clear hq hb hp hpq
  go_wp2_with fail
  refine (new_bad 0 3 w2 (by omega)).mono ?_
  rintro e w3 ⟨rfl, rfl⟩
  have hx : (⟨#[120]⟩ : ByteArray) = zx := rfl
  go_wp2_with fail
  have T := has_any p noM 64 3 zx w2 HQ2.out noM_len (by omega) (by omega) (by omega) (by decide)
  rw [noM_has zx 64 2] at T
  refine T.mono ?_
  clear T
  rintro e w3 ⟨rfl, hb⟩
  have HQ3 := Lib.hid (HQ2.out.keep hb); have HO3 := Lib.hid (HO.out.keep hb); have HB3 := Lib.hid (below_step HB2.out (Nat.le_refl _) hb)
  clear hb
  go_wp2_with fail
  refine (add_any p noM 64 3 zx w3 HQ3.out noM_len (by omega) (by omega) (by omega) (by decide)).mono ?_
  rintro e w4 ⟨rfl, hq, hk⟩
  have HQ4 : Hid (Bk p (svC M 64 3) w4) := Lib.hid (by rw [HM.out]; exact hq)
  have HO4 := Lib.hid (HO3.out.kp hk (fun e => by have := HPQ.out; omega))
  have HB4 := Lib.hid (HB3.out.trans (hk.below (B := w.heap.size) (by have := HQ3.out.1; have := HP.out; omega) (fun j hj => by rw [hj, HP.out]; exact Nat.le_refl _)))
  clear hq hk
  go_wp2_with fail
  have T := has_any p M 64 3 zx w4 HQ4.out HL.out (by omega) (by omega) (by omega) (by decide)
  rw [HH.out] at T
  refine T.mono ?_
  clear T
  rintro e w5 ⟨rfl, hb⟩
  have HQ5 := Lib.hid (HQ4.out.keep hb); have HO5 := Lib.hid (HO4.out.keep hb); have HB5 := Lib.hid (below_step HB4.out (Nat.le_refl _) hb)
  clear hb
  have hc1 := HC.out.1; have hc2 := HC.out.2
  have T := Lib.hid (fun w h => count_any p M 64 3 w h HL.out)
  obtain ⟨C, hC⟩ : ∃ C, C = cntM M 4096 := ⟨_, rfl⟩
  rw [← hC] at hc1 hc2 T
  clear hC
  have d1 : (1 : Int) ≤ (C : Int) := by omega
  have d2 : (C : Int) ≤ 3 := by omega
  go_wp2_with fail
  refine (T.out _ HQ5.out).mono ?_
  rintro e w6 ⟨rfl, rfl⟩
  go_wp2_with fail
  refine (T.out _ HQ5.out).mono ?_
  rintro e w6 ⟨rfl, rfl⟩
  go_wp2_with fail
  refine (join_no p q M noM 64 3 2 w5 HQ5.out HL.out HO5.out noM_len (by omega)).mono ?_
  rintro e w6 ⟨rfl, n, rfl⟩
  go_wp2_with fail
  refine (join_yes p p M M 64 3 _ (HQ5.out.drewN n) HL.out (HQ5.out.drewN n) HL.out).mono ?_
  rintro e w7 ⟨rfl, hq, hk⟩
  have HB6 := Lib.hid (below_drewN' HB5.out n)
  have HB7 := Lib.hid (HB6.out.trans (hk.below (B := w.heap.size) (by have := HQ5.out.1; have := HP.out; simp; omega) (fun j hj => by rw [hj, HP.out]; exact Nat.le_refl _)))
  clear hq hk
  go_wp2
  go_ret
  exact ⟨rfl, HB7.out⟩
end Go.Proofs.Ytogpjoenfcleoaa

