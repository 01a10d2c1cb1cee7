/-
  The law's examples hold; the walk of FramePuts.
-/
import Derived.Test.YtfgoobanjobjgaaX4
set_option linter.unusedVariables false
set_option linter.unusedSimpArgs false
namespace Go.Proofs.Ytfgoobanjobjgaa
open Go.RowKit Go.WideShapes Go.ChangeShapes Go.ChangeAt Go.Deep
theorem sl_one (w : World) (x : ByteArray) (E : TypeId) : Sl strC 1 (w.alloc (.cells #[.string x] E)) (some ⟨w.heap.size, 0, none⟩) [x] := by
  intro i hi
  refine ⟨_, 0, rfl, by simp, fun j v hv => ?_⟩
  rw [cell_new]
  match i, hi with
  | 0, _ => cases j with
    | zero => simpa [strC] using hv
    | succ j => simp [strC] at hv
  | i + 1, h => simp at h
theorem ex_bad : readF ⟨#[1, 97, 0, 0, 0, 0]⟩ = (⟨#[]⟩, 0, 6) := by
  have h1 : txtV ⟨#[1, 97, 0, 0, 0, 0]⟩ = (⟨#[97]⟩, ((2 : Nat) : Int), 0) := by rw [txtV_ok (n := 1) (k := 1) (by decide)]; rfl
  rw [readF_ok h1]
  unfold readF2
  rw [if_neg (by decide), if_neg ?_]
  have h2 : textB ⟨#[97]⟩ = ⟨#[1, 97]⟩ := by
    unfold textB
    rw [show (⟨#[97]⟩ : ByteArray).size = 1 from rfl, nb_lt (by decide)]; rfl
  rw [h2]
  unfold sumB
  have h3 : crc 0 (⟨#[1, 97]⟩ : ByteArray).data.toList ≠ 0 ∧ crc 0 (⟨#[1, 97]⟩ : ByteArray).data.toList < 4294967296 := by decide +kernel
  have h4 : ∀ n : Nat, n ≠ 0 → n < 4294967296 → le4 n ≠ [0, 0, 0, 0] := by
    intro n h0 h1 e
    unfold le4 at e
    simp only [List.cons.injEq, and_true] at e
    omega
  intro e
  have e2 := congrArg bys e
  rw [bys_txt (by intro c hc; unfold le4 at hc; simp at hc; omega)] at e2
  have e3 : bys ((⟨#[1, 97, 0, 0, 0, 0]⟩ : ByteArray).extract 2 (2 + 4)) = [0, 0, 0, 0] := by decide
  rw [e3] at e2
  exact h4 _ h3.1 h3.2 e2.symm
theorem awake_any (w : World) : Calls Try.prog 5 #[] w fun e w' => e = .returned (.bool true) ∧ Below w.heap.size w w' := by
  obtain ⟨A, hA⟩ : ∃ A, A = recB ⟨#[97]⟩ := ⟨_, rfl⟩
  obtain ⟨B, hB⟩ : ∃ B, B = recB ⟨#[98]⟩ := ⟨_, rfl⟩
  have h6 : ∀ c : UInt8, (recB ⟨#[c]⟩).size = 6 := fun c => by
    unfold recB textB
    rw [ByteArray.size_append, sumB_size, ByteArray.size_append, show (⟨#[c]⟩ : ByteArray).size = 1 from rfl, txt_size, nb_lt (by decide)]; rfl
  have hA6 : A.size = 6 := by rw [hA]; exact h6 _
  have hB6 : B.size = 6 := by rw [hB]; exact h6 _
  have hE5 : (B.extract 0 5).size ≤ 5 := by rw [ByteArray.size_extract]; omega
  have HP1 := Lib.hid (putR_ok (s := ⟨#[97]⟩) (by decide))
  have HP2 := Lib.hid (putR_ok (s := ⟨#[98]⟩) (by decide))
  have HR1 := Lib.hid (show readFR (A ++ ⟨#[120]⟩) = _ by unfold readFR; rw [hA, readF_rec (by decide), ← hA, hA6])
  have HR2 := Lib.hid (show readFR ⟨#[1, 97, 0, 0, 0, 0]⟩ = _ by unfold readFR; rw [ex_bad])
  have HF : Hid (allF (A ++ B.extract 0 5) = ([⟨#[97]⟩], 6)) := Lib.hid (by
    have := allF_cat (l := [⟨#[97]⟩]) (tail := B.extract 0 5) (fun s hs => by rw [List.mem_singleton.1 hs]; decide) (by rw [hB]; exact readF_torn (by decide) (by rw [h6]; omega))
    rw [show catR [⟨#[97]⟩] = A by rw [catR, catR, app_empty, hA], hA6] at this
    exact this)
  rw [← hA] at HP1
  rw [← hB] at HP2
  have e0 := str_eq (X := ⟨#[97]⟩) rfl
  clear hA hB h6
  go_enter Try.func5, Try.ntmps5
  go_wp2_with fail
  refine (fput_any _ w).mono ?_
  rintro e w1 ⟨rfl, hb1⟩
  rw [HP1.out]
  go_wp2_with fail
  refine (fput_any _ w1).mono ?_
  rintro e w2 ⟨rfl, hb2⟩
  rw [HP2.out]
  have HB2 := Lib.hid (below_step hb1 (Nat.le_refl _) hb2)
  clear hb1 hb2
  go_wp2_with fail
  refine (fread_any _ w2 (by rw [ByteArray.size_append]; have : (⟨#[120]⟩ : ByteArray).size = 1 := rfl; omega)).mono ?_
  rintro e w3 ⟨rfl, hb3⟩
  rw [HR1.out]
  have HB3 := Lib.hid (below_step HB2.out (Nat.le_refl _) hb3)
  clear hb3
  go_wp2_with fail
  refine (fread_any _ w3 (by decide)).mono ?_
  rintro e w4 ⟨rfl, hb4⟩
  rw [HR2.out]
  have HB4 := Lib.hid (below_step HB3.out (Nat.le_refl _) hb4)
  clear hb4
  go_wp2_with fail
  refine (fall_any _ w4 (by rw [ByteArray.size_append]; omega)).mono ?_
  rintro e w5 ⟨a, cap, rfl, hcap, hl, hsl, hb5⟩
  rw [HF.out] at hsl hcap ⊢
  have HB5 := Lib.hid (below_step HB4.out (Nat.le_refl _) hb5)
  have HY : Hid (Sl strC 1 (w5.alloc (.cells #[.string ⟨#[97]⟩] 9)) (some ⟨w5.heap.size, 0, none⟩) [⟨#[97]⟩]) := Lib.hid (sl_one _ _ _)
  have HZ : Hid (Sl strC 1 (w5.alloc (.cells #[.string ⟨#[97]⟩] 9)) a [⟨#[97]⟩]) := Lib.hid (hsl.keep (below_new _ _))
  clear hb5 hsl hl
  go_wp2_with fail
  refine (texts_any [⟨#[97]⟩] [⟨#[97]⟩] a _ cap 1 _ HZ.out HY.out (by decide)).mono ?_
  rintro e w6 ⟨rfl, n6, rfl⟩
  rw [decide_eq_true rfl]
  go_wp2
  go_ret
  exact ⟨rfl, below_drewN (HB5.out.alloc HB5.out.size _) _⟩
theorem putR_is (s : ByteArray) : ∃ (A : ByteArray) (E : Int), putR s = .returned (.tuple #[.string A, .int .i64 E]) := by
  unfold putR; split <;> exact ⟨_, _, rfl⟩
theorem readFR_is (s : ByteArray) : ∃ (A : ByteArray) (k E : Int), readFR s = .returned (.tuple #[.string A, .int .i64 k, .int .i64 E]) := ⟨_, _, _, rfl⟩
theorem puts_walk (s t : ByteArray) (w : World) (w0 : s.size ≤ 140737488351232) (w1 : t.size ≤ 140737488351232) : Calls Try.prog 3 #[.string s, .string t] w fun e w' => e = .returned (.bool true) ∧ Below w.heap.size w w' := by
  by_cases hb : 3000 < s.size ∨ 3000 < t.size
  · have hd : (3000 : Int) < (s.size : Int) ∨ (¬ (3000 : Int) < (s.size : Int) ∧ (3000 : Int) < (t.size : Int)) := by omega
    go_enter Try.func3, Try.ntmps3
    rcases hd with hd | ⟨hd, hd2⟩
    all_goals
      go_wp2_with fail
      refine (awake_any _).mono ?_
      rintro e w3 ⟨rfl, hb3⟩
      go_wp2
      go_ret
      exact ⟨rfl, hb3⟩
  · have hd : ¬ (3000 : Int) < (s.size : Int) := by omega
    have hd2 : ¬ (3000 : Int) < (t.size : Int) := by omega
    have hts : t.size ≤ 1099511627776 := by omega
    obtain ⟨A, E, hA⟩ := putR_is s
    obtain ⟨C, k, F, hC⟩ := readFR_is t
    obtain ⟨V, hV⟩ : ∃ V, V = allF t := ⟨_, rfl⟩
    have HA := Lib.hid hA
    have HC := Lib.hid hC
    have HV := Lib.hid hV
    clear hA hC hV hb
    have e0 := str_eq (X := A) rfl
    have e1 := str_eq (X := C) rfl
    go_enter Try.func3, Try.ntmps3
    go_wp2_with fail
    refine (fput_any s w).mono ?_
    rintro e w1 ⟨rfl, hb1⟩
    rw [HA.out]
    go_wp2_with fail
    refine (rput_any s w1).mono ?_
    rintro e w2 ⟨rfl, hb2⟩
    rw [HA.out]
    have HB2 := Lib.hid (below_step hb1 (Nat.le_refl _) hb2)
    clear hb1 hb2
    go_wp2_with fail
    refine (fread_any t w2 hts).mono ?_
    rintro e w3 ⟨rfl, hb3⟩
    rw [HC.out]
    go_wp2_with fail
    refine (rread_any t w3 hts).mono ?_
    rintro e w4 ⟨rfl, hb4⟩
    rw [HC.out]
    have HB4 := Lib.hid (below_step (below_step HB2.out (Nat.le_refl _) hb3) (Nat.le_refl _) hb4)
    clear hb3 hb4
    go_wp2_with fail
    refine (fall_any t w4 hts).mono ?_
    rintro e w5 ⟨a, cap, rfl, hcap, hl, hsl, hb5⟩
    rw [← HV.out] at hsl hcap hl ⊢
    have HB5 := Lib.hid (below_step HB4.out (Nat.le_refl _) hb5)
    have HS5 := Lib.hid hsl
    clear hb5 hsl
    go_wp2_with fail
    refine (rall_any t w5 hts).mono ?_
    rintro e w6 ⟨a2, cap2, rfl, hcap2, hl2, hsl2, hb6⟩
    rw [← HV.out] at hsl2 hcap2 hl2 ⊢
    have HB6 := Lib.hid (below_step HB5.out (Nat.le_refl _) hb6)
    have HS6 := Lib.hid hsl2
    have HS5b := Lib.hid (HS5.out.keep hb6)
    clear hb6 hsl2
    go_wp2_with fail
    refine (texts_any V.1 V.1 a a2 cap cap2 _ HS5b.out HS6.out (by omega)).mono ?_
    rintro e w7 ⟨rfl, n7, rfl⟩
    rw [decide_eq_true rfl]
    go_wp2_with fail
    refine (awake_any _).mono ?_
    rintro e w8 ⟨rfl, hb8⟩
    go_wp2
    go_ret
    exact ⟨rfl, below_step (below_drewN HB6.out _) (Nat.le_refl _) hb8⟩
end Go.Proofs.Ytfgoobanjobjgaa

