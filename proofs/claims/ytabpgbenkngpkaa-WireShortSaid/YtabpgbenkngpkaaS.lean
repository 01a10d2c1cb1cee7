/-
  The walk of WireShort, and the plain law of numbers' bytes.
-/
import Derived.Test.YtabpgbenkngpkaaL
set_option linter.unusedVariables false
set_option linter.unusedSimpArgs false
namespace Go.Proofs.Ytabpgbenkngpkaa
open Go.RowKit
theorem nb_mono : ∀ (a b : Nat), a ≤ b → (nb a).length ≤ (nb b).length := by
  intro a
  induction a using nb.induct with
  | case1 a h => intro b hb; rw [nb_lt h]; have := nb_ne b; have h2 : 0 < (nb b).length := List.length_pos_iff.2 this; simp only [List.length_cons, List.length_nil]; omega
  | case2 a h ih =>
    intro b hb
    rw [nb_ge (by omega), nb_ge (n := b) (by omega)]
    have := ih (b / 128) (by omega)
    simp only [List.length_cons]; omega
theorem nb_prefix : ∀ (a b : Nat), (nb b).take (nb a).length = nb a → a = b := by
  intro a
  induction a using nb.induct with
  | case1 a h =>
    intro b hb
    rw [nb_lt h] at hb
    by_cases h2 : b < 128
    · rw [nb_lt h2] at hb; simpa using hb.symm
    · rw [nb_ge (by omega)] at hb; simp at hb; omega
  | case2 a h ih =>
    intro b hb
    rw [nb_ge (n := a) (by omega)] at hb
    by_cases h2 : b < 128
    · rw [nb_lt h2] at hb; simp at hb; omega
    · rw [nb_ge (n := b) (by omega)] at hb
      simp only [List.length_cons, List.take_succ_cons, List.cons.injEq] at hb
      have := ih (b / 128) hb.2
      omega
theorem nb_inj {a b : Nat} (h : nb a = nb b) : a = b := nb_prefix a b (by rw [← h, List.take_length])
theorem txt_extract (l : List Nat) (i j : Nat) : (txt l).extract i j = txt ((l.take j).drop i) := by
  apply ByteArray.ext
  apply Array.toList_inj.1
  simp only [txt, ByteArray.data_extract, Array.toList_extract, List.extract_eq_take_drop, List.map_drop, List.map_take]
  try rw [List.drop_take]
theorem txt_inj {a b : List Nat} (ha : ∀ c ∈ a, c < 256) (hb : ∀ c ∈ b, c < 256) (h : txt a = txt b) : a = b := by rw [← bys_txt ha, ← bys_txt hb, h]
theorem nbs_ne {a b : Nat} (h : a ≠ b) : ¬ txt (nb a) = txt (nb b) := fun e => h (nb_inj (txt_inj (nb_byte a) (nb_byte b) e))
theorem nbs_pre {a b : Nat} (h : a ≠ b) : ¬ (txt (nb b)).extract 0 (txt (nb a)).size = txt (nb a) := by
  intro e
  rw [txt_extract, txt_size, List.drop_zero] at e
  exact h (nb_prefix a b (txt_inj (fun c hc => nb_byte b c (List.mem_of_mem_take hc)) (nb_byte a) e))
theorem nbs_pos (a : Nat) : 0 < (txt (nb a)).size := by rw [txt_size]; exact List.length_pos_iff.2 (nb_ne a)
theorem short_walk (a0 a1 : Int) (w : World) (w0 : (Lit.int .u32 a0).wf = true) (w1 : (Lit.int .u32 a1).wf = true) : Calls Try.prog 6 #[.int .u32 a0, .int .u32 a1] w fun e w' => e = .returned (.bool true) ∧ Below w.heap.size w w' := by
  obtain ⟨h0, h1⟩ := bounds_u32 w0
  obtain ⟨a, rfl⟩ := Int.eq_ofNat_of_zero_le h0
  obtain ⟨g0, g1⟩ := bounds_u32 w1
  obtain ⟨b, rfl⟩ := Int.eq_ofNat_of_zero_le g0
  clear w0 w1
  obtain ⟨S, hS⟩ : ∃ S, S = txt (nb a) := ⟨_, rfl⟩
  obtain ⟨T, hT⟩ : ∃ T, T = txt (nb b) := ⟨_, rfl⟩
  have HA := Lib.hid (num_ok (m := a) (by omega) rfl)
  have HB := Lib.hid (num_ok (m := b) (by omega) rfl)
  have hSs : S.size ≤ 8 := by rw [hS, txt_size]; exact nb_len8 (by omega)
  have hTs : T.size ≤ 8 := by rw [hT, txt_size]; exact nb_len8 (by omega)
  have hSp : S.toList.isEmpty = false := nonempty_of_pos (by rw [hS]; exact nbs_pos a)
  have hTp : T.toList.isEmpty = false := nonempty_of_pos (by rw [hT]; exact nbs_pos b)
  have HP1 : Hid (a ≤ b → S.size ≤ T.size) := Lib.hid (fun h => by rw [hS, hT, txt_size, txt_size]; exact nb_mono a b h)
  have HN : Hid (a ≠ b → ¬ S = T) := Lib.hid (fun h => by rw [hS, hT]; exact nbs_ne h)
  have HE : Hid (a ≠ b → ¬ T.extract 0 S.size = S) := Lib.hid (fun h => by rw [hS, hT]; exact nbs_pre h)
  rw [← hS] at HA
  rw [← hT] at HB
  have HST : Hid (a = b → S = T) := Lib.hid (fun h => by rw [hS, hT, h])
  clear hS hT
  go_enter Try.func6, Try.ntmps6
  go_wp2_with fail
  refine (num_any a w).mono ?_
  rintro e w1 ⟨rfl, hb1⟩
  rw [HA.out]
  go_wp2_with fail
  refine (num_any b w1).mono ?_
  rintro e w2 ⟨rfl, hb2⟩
  rw [HB.out]
  have HB2 := Lib.hid (below_step hb1 (Nat.le_refl _) hb2)
  clear hb1 hb2
  by_cases hab : a = b
  · subst hab
    obtain rfl := HST.out rfl
    clear HST HE HN HP1
    have e0 := str_eq (X := S) rfl
    have d1 : ¬ (a : Int) < (a : Int) := by omega
    go_wp2_with fail
    refine (awake_any _).mono ?_
    rintro e w3 ⟨rfl, hb3⟩
    go_wp2
    go_ret
    exact ⟨rfl, below_step HB2.out (Nat.le_refl _) hb3⟩
  · have e0 := str_ne (HN.out hab)
    have e1 := str_ne (HE.out hab)
    have e2 : ((a : Int) == (b : Int)) = false := by simp; omega
    by_cases hlt : a < b
    · have hle := HP1.out (by omega)
      have d1 : (a : Int) < (b : Int) := by omega
      have d2 : ¬ (T.size : Int) < (S.size : Int) := by omega
      clear HST HE HN HP1
      go_wp2_with fail
      refine (awake_any _).mono ?_
      rintro e w3 ⟨rfl, hb3⟩
      go_wp2
      go_ret
      exact ⟨rfl, below_step HB2.out (Nat.le_refl _) hb3⟩
    · have d1 : ¬ (a : Int) < (b : Int) := by omega
      clear HST HE HN HP1
      by_cases hss : T.size < S.size
      · have d2 : (T.size : Int) < (S.size : Int) := by omega
        go_wp2_with fail
        refine (awake_any _).mono ?_
        rintro e w3 ⟨rfl, hb3⟩
        go_wp2
        go_ret
        exact ⟨rfl, below_step HB2.out (Nat.le_refl _) hb3⟩
      · have d2 : ¬ (T.size : Int) < (S.size : Int) := by omega
        go_wp2_with fail
        refine (awake_any _).mono ?_
        rintro e w3 ⟨rfl, hb3⟩
        go_wp2
        go_ret
        exact ⟨rfl, below_step HB2.out (Nat.le_refl _) hb3⟩
end Go.Proofs.Ytabpgbenkngpkaa

