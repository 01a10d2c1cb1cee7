/-
  The law's examples hold.
-/
import Derived.Test.YtabpgbenkngpkaaK
set_option linter.unusedVariables false
set_option linter.unusedSimpArgs false
namespace Go.Proofs.Ytabpgbenkngpkaa
open Go.RowKit
theorem sl_two (w : World) (x y : ByteArray) (E : TypeId) : Sl strC 1 (w.alloc (.cells #[.string x, .string y] E)) (some ⟨w.heap.size, 0, none⟩) [x, y] := by
  intro i hi
  refine ⟨_, 0, rfl, by simp, fun j v hv => ?_⟩
  rw [cell_new]
  match i, hi with
  | 0, _ => cases j with
    | zero => simpa [strC] using hv
    | succ j => simp [strC] at hv
  | 1, _ => cases j with
    | zero => simpa [strC] using hv
    | succ j => simp [strC] at hv
  | i + 2, h => simp at h; omega
theorem nb300 : nb 300 = [172, 2] := by rw [nb_ge (by decide), nb_lt (by decide)]
theorem nb0 : nb 0 = [0] := nb_lt (by decide)
theorem nb1 : nb 1 = [1] := nb_lt (by decide)
theorem nb2 : nb 2 = [2] := nb_lt (by decide)
theorem ex_num : numR 300 = .returned (.tuple #[.string ⟨#[172, 2]⟩, .int .i64 0]) := num_ok (m := 300) (by decide) nb300
theorem ex_neg : numR (-1) = .returned (.tuple #[.string ⟨#[]⟩, .int .i64 2]) := by unfold numR; rw [numV_bad (by decide)]
theorem ex_list : listR [⟨#[120]⟩, ⟨#[]⟩] = .returned (.tuple #[.string ⟨#[2, 1, 120, 0]⟩, .int .i64 0]) := by
  rw [listR_ok (by
    rintro (h | ⟨s, hs, h⟩)
    · simp at h
    · simp only [List.mem_cons, List.not_mem_nil, or_false] at hs
      rcases hs with rfl | rfl
      · exact absurd h (by decide)
      · exact absurd h (by decide))]
  have h1 : (⟨#[120]⟩ : ByteArray).size = 1 := rfl
  have h2 : (⟨#[]⟩ : ByteArray).size = 0 := rfl
  simp only [catB, textB, List.length_cons, List.length_nil, h1, h2, Nat.zero_add, Nat.reduceAdd, nb0, nb1, nb2]
  rfl
theorem ex_r1 : numO ⟨#[172, 2, 1, 120, 2, 0, 1, 121]⟩ 0 = (300, ⟨#[1, 120, 2, 0, 1, 121]⟩, 0) := by
  rw [numO_ok (n := 300) (k := 2) (by decide)]; rfl
theorem ex_r2 : txtO ⟨#[1, 120, 2, 0, 1, 121]⟩ 0 = (⟨#[120]⟩, ⟨#[2, 0, 1, 121]⟩, 0) := by
  rw [txtO_ok (t := ⟨#[120]⟩) (k := 2) (by rw [txtV_ok (n := 1) (k := 1) (by decide)]; rfl)]; rfl
theorem ex_r3 : lstO ⟨#[2, 0, 1, 121]⟩ 0 = ([⟨#[]⟩, ⟨#[121]⟩], ⟨#[]⟩, 0) := by
  rw [lstO_ok (l := [⟨#[]⟩, ⟨#[121]⟩]) (k := 4)]
  · rfl
  · rw [lstV_ok (n := 2) (k := 1) (by decide) (by decide)]
    rw [lstG_ok (t := ⟨#[]⟩) (k := 1) (by rw [txtV_ok (n := 0) (k := 1) (by decide)]; rfl)]
    rw [lstG_ok (t := ⟨#[121]⟩) (k := 2) (by rw [txtV_ok (n := 1) (k := 1) (by decide)]; rfl)]
    rfl
theorem ex_r4 : numO ⟨#[128, 0]⟩ 0 = (0, ⟨#[128, 0]⟩, 5) := numO_bad (by decide) (by decide)
theorem awake_any (w : World) : Calls Try.prog 9 #[] w fun e w' => e = .returned (.bool true) ∧ Below w.heap.size w w' := by
  go_enter Try.func9, Try.ntmps9
  go_wp2_with fail
  refine (num_any 300 w).mono ?_
  rintro e w1 ⟨rfl, hb1⟩
  rw [ex_num]
  go_wp2_with fail
  refine (num_any (-1) w1).mono ?_
  rintro e w2 ⟨rfl, hb2⟩
  rw [ex_neg]
  go_wp2_with fail
  refine (list_put [⟨#[120]⟩, ⟨#[]⟩] _ 2 _ (sl_two w2 _ _ _)).mono ?_
  rintro e w3 ⟨rfl, hb3⟩
  rw [ex_list]
  have hB3 := Lib.hid (below_step (below_step hb1 (Nat.le_refl _) hb2) (Nat.le_refl _) (below_alloc hb3))
  clear hb1 hb2 hb3
  go_wp2_with fail
  refine (new_any _ w3).mono ?_
  rintro e w4 ⟨rfl, hr4, hb4⟩
  have hB4 := Lib.hid (below_step hB3.out (Nat.le_refl _) hb4)
  have HB30 := Lib.hid hB3.out
  clear hb4 hB3
  have s1 : (⟨#[172, 2, 1, 120, 2, 0, 1, 121]⟩ : ByteArray).size ≤ 1099511627776 := by decide
  have s2 : (⟨#[1, 120, 2, 0, 1, 121]⟩ : ByteArray).size ≤ 1099511627776 := by decide
  have s3 : (⟨#[2, 0, 1, 121]⟩ : ByteArray).size ≤ 1099511627776 := by decide
  have s4 : (⟨#[128, 0]⟩ : ByteArray).size ≤ 1099511627776 := by decide
  have hlt : w.heap.size ≤ w3.heap.size := by
    have h1 := hB4.out.size
    exact Nat.le_trans HB30.out.size (Nat.le_refl _)
  go_wp2_with fail
  refine (rd_num _ _ _ _ s1 hr4).mono ?_
  rintro e w5 ⟨rfl, hr5, hk5⟩
  rw [ex_r1] at hr5 ⊢
  go_wp2_with fail
  refine (rd_text _ _ _ _ s2 hr5).mono ?_
  rintro e w6 ⟨rfl, hr6, hk6⟩
  rw [ex_r2] at hr6 ⊢
  go_wp2_with fail
  refine (rd_list _ _ _ _ s3 hr6).mono ?_
  rw [ex_r3]
  rintro e w7 ⟨⟨a, cap, rfl, hcap, hsl, hnew⟩, hr7, hk7⟩
  have hB7 := Lib.hid (hB4.out.trans (((hk5.trans hk6).trans hk7).below (Nat.le_trans hlt (by have := hr4.1; omega)) (fun k hk => by subst hk; exact hlt)))
  clear hk5 hk6 hk7 hB4 hnew
  go_wp2_with fail
  refine (done_any _ _ _ _ hr7).mono ?_
  rintro e w8 ⟨rfl, hx⟩
  obtain rfl : w7 = w8 := hx.symm
  clear hx
  go_wp2_with fail
  refine (new_any _ w7).mono ?_
  rintro e w9 ⟨rfl, hr9, hb9⟩
  go_wp2_with fail
  refine (rd_num _ _ _ _ s4 hr9).mono ?_
  rintro e w10 ⟨rfl, hr10, hk10⟩
  rw [ex_r4] at hr10 ⊢
  have hB10 : Below w7.heap.size w7 w10 := hb9.trans (hk10.below (Nat.le_of_lt hr9.1) (fun k hk => by subst hk; exact Nat.le_refl _))
  have HSL := Lib.hid (hsl.keep hB10)
  have HB10 := Lib.hid (below_step hB7.out (by have := hB7.out.size; omega) hB10)
  have HW7 : Hid (w.heap.size ≤ w7.heap.size) := Lib.hid hB7.out.size
  clear hB10 hb9 hk10 hB7 hsl
  have e1 := str_eq (X := ⟨#[172, 2]⟩) rfl
  have HY : Hid (Sl strC 1 (w10.alloc (.cells #[.string ⟨#[]⟩, .string ⟨#[121]⟩] 9)) (some ⟨w10.heap.size, 0, none⟩) [⟨#[]⟩, ⟨#[121]⟩]) := Lib.hid (sl_two _ _ _ _)
  have HZ : Hid (Sl strC 1 (w10.alloc (.cells #[.string ⟨#[]⟩, .string ⟨#[121]⟩] 9)) a [⟨#[]⟩, ⟨#[121]⟩]) := Lib.hid (HSL.out.keep (below_new _ _))
  go_wp2_with fail
  refine (texts_any [⟨#[]⟩, ⟨#[121]⟩] [⟨#[]⟩, ⟨#[121]⟩] a _ cap 2 _ HZ.out HY.out (by decide)).mono ?_
  rintro e w11 ⟨rfl, n11, rfl⟩
  rw [decide_eq_true rfl]
  have hr11 : Rd w7.heap.size ⟨#[128, 0]⟩ 5 ((w10.alloc (.cells #[.string ⟨#[]⟩, .string ⟨#[121]⟩] 9)).drewN n11) := hr10.keep (below_drewN (below_new _ _) _)
  go_wp2_with fail
  refine (err_any _ _ _ _ hr11).mono ?_
  rintro e w12 ⟨rfl, hx⟩
  obtain rfl := hx.symm
  clear hx
  go_wp2_with fail
  refine (rd_num _ _ _ _ s4 hr11).mono ?_
  rw [numO_err (by decide)]
  rintro e w13 ⟨rfl, hr13, hk13⟩
  go_wp2
  go_ret
  refine ⟨rfl, ?_⟩
  refine ((below_drewN (HB10.out.alloc HB10.out.size _) _)).trans (hk13.below (by have := HB10.out.size; simp; omega) (fun k hk => by subst hk; exact HW7.out))
end Go.Proofs.Ytabpgbenkngpkaa

