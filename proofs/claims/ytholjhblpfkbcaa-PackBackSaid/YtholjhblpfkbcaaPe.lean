/-
  The law's examples hold; the walk of PackBack.
-/
import Derived.Test.YtholjhblpfkbcaaPd
set_option linter.unusedVariables false
set_option linter.unusedSimpArgs false
namespace Go.Proofs.Ytholjhblpfkbcaa
open Go.RowKit
def rdV (s : ByteArray) : List Nat × Int := rdP s.size (bys s) []
def ptV (s : ByteArray) : ByteArray := txt (ptP s.size (bys s))
theorem rd_any (s : ByteArray) (A : ByteArray) (e : Int) (h : (txt (rdV s).1, (rdV s).2) = (A, e)) (hs : s.size ≤ 1099511627) (w : World) : Calls Try.prog 6 #[.string s] w fun r w' => r = .returned (.tuple #[.string A, .int .i64 e]) ∧ Below w.heap.size w w' := by
  obtain ⟨rfl, rfl⟩ := Prod.mk.inj h
  exact read_any s w hs
theorem pt_any (s : ByteArray) (A : ByteArray) (h : ptV s = A) (hs : s.size ≤ 1099511627) (w : World) : Calls Try.prog 5 #[.string s] w fun r w' => r = .returned (.string A) ∧ Below w.heap.size w w' := by
  subst h
  exact put_any s w hs
theorem ptP_byte : ∀ (f : Nat) (l : List Nat), (∀ c ∈ l, c < 256) → ∀ c ∈ ptP f l, c < 256
  | 0, l, _, c, hc => by simp [ptP] at hc
  | f + 1, [], _, c, hc => by simp [ptP] at hc
  | f + 1, d :: l, h, c, hc => by
    simp only [ptP, List.mem_append, List.mem_cons] at hc
    rcases hc with hc | rfl | hc
    · exact nb_byte _ c hc
    · exact h c (by simp)
    · exact ptP_byte f _ (fun c hc => h c (by simp [List.mem_of_mem_drop hc])) c hc
theorem bys_ptV (s : ByteArray) : bys (ptV s) = ptP s.size (bys s) := bys_txt (ptP_byte _ _ (bys_lt s))
theorem ptV_size (s : ByteArray) : (ptV s).size ≤ 2 * s.size := by
  have := ptP_len s.size (bys s)
  rw [bys_len] at this
  unfold ptV; rw [txt_size]; exact this
theorem rd_pt (s : ByteArray) (h : s.size ≤ 65536) : (txt (rdV (ptV s)).1, (rdV (ptV s)).2) = (s, 0) := by
  have h1 : rdV (ptV s) = (bys s, 0) := by
    unfold rdV
    rw [bys_ptV, ptP_read s.size (bys s) [] (ptV s).size (by rw [bys_len]; exact Nat.le_refl _) (by rw [← bys_ptV, bys_len]; exact Nat.le_refl _) (by rw [bys_len]; simpa using h) (by simp)]
    rfl
  rw [h1, txt_bys]
theorem pt_rd (t : ByteArray) : (rdV t).2 ≠ 0 ∨ ((rdV t).2 = 0 ∧ ptV (txt (rdV t).1) = t ∧ (txt (rdV t).1).size ≤ 65536) := by
  by_cases h : (rdV t).2 = 0
  · obtain ⟨m, h1, h2, h3, h4, h5⟩ := rdP_put t.size (bys t) [] (rdV t).1 (by rw [bys_len]; exact Nat.le_refl _) (by rw [← h]; rfl) (bys_lt t) (by simp)
    refine .inr ⟨h, ?_, ?_⟩
    · rw [List.nil_append] at h1
      unfold ptV
      rw [h1, bys_txt h4, txt_size, h5 _ (Nat.le_refl _), txt_bys]
    · rw [txt_size]; exact h2
  · exact .inl h
theorem ex1 : (txt (rdV ⟨#[2, 97, 1, 98]⟩).1, (rdV ⟨#[2, 97, 1, 98]⟩).2) = (⟨#[97, 97, 98]⟩, 0) := by decide +kernel
theorem ex2 : (txt (rdV ⟨#[1, 97, 1, 97]⟩).1, (rdV ⟨#[1, 97, 1, 97]⟩).2) = (⟨#[]⟩, 5) := by decide +kernel
theorem ex3 : (txt (rdV ⟨#[1]⟩).1, (rdV ⟨#[1]⟩).2) = (⟨#[]⟩, 4) := by decide +kernel
theorem ex4 : (txt (rdV ⟨#[129, 128, 4, 97]⟩).1, (rdV ⟨#[129, 128, 4, 97]⟩).2) = (⟨#[]⟩, 3) := by decide +kernel
theorem ex5 : ptV ⟨#[97, 97, 98]⟩ = ⟨#[2, 97, 1, 98]⟩ := by decide +kernel
theorem ex6 : ptV ⟨#[]⟩ = ⟨#[]⟩ := by decide +kernel
theorem l4 : (⟨#[2, 97, 1, 98]⟩ : ByteArray).toList = [2, 97, 1, 98] := by decide +kernel
theorem l3 : (⟨#[97, 97, 98]⟩ : ByteArray).toList = [97, 97, 98] := by decide +kernel
theorem awake_any (w : World) : Calls Try.prog 4 #[] w fun e w' => e = .returned (.bool true) ∧ Below w.heap.size w w' := by
  have R1 := Lib.hid (rd_any _ _ _ ex1 (by decide))
  have R2 := Lib.hid (rd_any _ _ _ ex2 (by decide))
  have R3 := Lib.hid (rd_any _ _ _ ex3 (by decide))
  have R4 := Lib.hid (rd_any _ _ _ ex4 (by decide))
  have R5 := Lib.hid (pt_any _ _ ex5 (by decide))
  have R6 := Lib.hid (pt_any _ _ ex6 (by decide))
  have e1 := l4
  have e2 := l3
  go_enter Try.func4, Try.ntmps4
  go_wp2_with fail
  refine (R1.out _).mono ?_
  rintro e w1 ⟨rfl, hb1⟩
  go_wp2_with fail
  refine (R2.out _).mono ?_
  rintro e w2 ⟨rfl, hb2⟩
  have HB2 := Lib.hid (below_step hb1 (Nat.le_refl _) hb2)
  clear hb1 hb2
  go_wp2_with fail
  refine (R3.out _).mono ?_
  rintro e w3 ⟨rfl, hb3⟩
  have HB3 := Lib.hid (below_step HB2.out (Nat.le_refl _) hb3)
  clear hb3
  go_wp2_with fail
  refine (R4.out _).mono ?_
  rintro e w4 ⟨rfl, hb4⟩
  have HB4 := Lib.hid (below_step HB3.out (Nat.le_refl _) hb4)
  clear hb4
  go_wp2_with fail
  refine (R5.out _).mono ?_
  rintro e w5 ⟨rfl, hb5⟩
  have HB5 := Lib.hid (below_step HB4.out (Nat.le_refl _) hb5)
  clear hb5
  go_wp2_with fail
  refine (R6.out _).mono ?_
  rintro e w6 ⟨rfl, hb6⟩
  have HB6 := Lib.hid (below_step HB5.out (Nat.le_refl _) hb6)
  clear hb6
  go_wp2
  go_ret
  exact ⟨rfl, HB6.out⟩
theorem back_walk (s t : ByteArray) (w : World) (w0 : s.size ≤ 140737488351232) (w1 : t.size ≤ 140737488351232) : Calls Try.prog 3 #[.string s, .string t] w fun e w' => e = .returned (.bool true) ∧ Below w.heap.size w w' := by
  by_cases hb : 2000 < s.size ∨ 400 < t.size
  · by_cases hb1 : 2000 < s.size
    · have d1 : (2000 : Int) < (s.size : Int) := by omega
      go_enter Try.func3, Try.ntmps3
      go_wp2_with fail
      refine (awake_any _).mono ?_
      rintro e w1 ⟨rfl, hb1⟩
      go_wp2
      go_ret
      exact ⟨rfl, hb1⟩
    · have d1 : ¬ (2000 : Int) < (s.size : Int) := by omega
      have d2 : (400 : Int) < (t.size : Int) := by omega
      go_enter Try.func3, Try.ntmps3
      go_wp2_with fail
      refine (awake_any _).mono ?_
      rintro e w1 ⟨rfl, hb1⟩
      go_wp2
      go_ret
      exact ⟨rfl, hb1⟩
  · have d1 : ¬ (2000 : Int) < (s.size : Int) := by omega
    have d2 : ¬ (400 : Int) < (t.size : Int) := by omega
    have hpz := ptV_size s
    have R1 := Lib.hid (pt_any s _ rfl (by omega))
    have R2 := Lib.hid (rd_any (ptV s) _ _ (rd_pt s (by omega)) (by omega))
    have R3 := Lib.hid (rd_any t (txt (rdV t).1) (rdV t).2 rfl (by omega))
    have hpr := pt_rd t
    obtain ⟨P, hP⟩ : ∃ P, P = ptV s := ⟨_, rfl⟩
    obtain ⟨A, hA⟩ : ∃ A, A = txt (rdV t).1 := ⟨_, rfl⟩
    obtain ⟨B, hB⟩ : ∃ B, B = (rdV t).2 := ⟨_, rfl⟩
    rw [← hP] at R1 R2 hpz
    rw [← hA, ← hB] at R3 hpr
    clear hP hA hB
    have d3 : (P.size : Int) ≤ 2 * (s.size : Int) := by omega
    have d4 : ¬ 2 * (s.size : Int) < (P.size : Int) := by omega
    have e1 := str_eq (X := s) rfl
    have e2 := str_eq (X := t) rfl
    rcases hpr with hbn | ⟨rfl, hpt, hsz⟩
    · have d5 : (B == 0) = false := by simp only [beq_eq_false_iff_ne, ne_eq]; exact hbn
      go_enter Try.func3, Try.ntmps3
      go_wp2_with fail
      refine (R1.out _).mono ?_
      rintro e w1 ⟨rfl, hb1⟩
      go_wp2_with fail
      refine (R2.out _).mono ?_
      rintro e w2 ⟨rfl, hb2⟩
      have HB2 := Lib.hid (below_step hb1 (Nat.le_refl _) hb2)
      clear hb1 hb2
      go_wp2_with fail
      refine (R3.out _).mono ?_
      rintro e w3 ⟨rfl, hb3⟩
      have HB3 := Lib.hid (below_step HB2.out (Nat.le_refl _) hb3)
      clear hb3
      go_wp2_with fail
      refine (awake_any _).mono ?_
      rintro e w9 ⟨rfl, hb9⟩
      have HB9 := Lib.hid (below_step HB3.out (Nat.le_refl _) hb9)
      clear hb9
      go_wp2
      go_ret
      exact ⟨rfl, HB9.out⟩
    · have R4 := Lib.hid (pt_any A _ hpt (by omega))
      clear hpt hsz
      go_enter Try.func3, Try.ntmps3
      go_wp2_with fail
      refine (R1.out _).mono ?_
      rintro e w1 ⟨rfl, hb1⟩
      go_wp2_with fail
      refine (R2.out _).mono ?_
      rintro e w2 ⟨rfl, hb2⟩
      have HB2 := Lib.hid (below_step hb1 (Nat.le_refl _) hb2)
      clear hb1 hb2
      go_wp2_with fail
      refine (R3.out _).mono ?_
      rintro e w3 ⟨rfl, hb3⟩
      have HB3 := Lib.hid (below_step HB2.out (Nat.le_refl _) hb3)
      clear hb3
      go_wp2_with fail
      refine (R4.out _).mono ?_
      rintro e w4 ⟨rfl, hb4⟩
      have HB4 := Lib.hid (below_step HB3.out (Nat.le_refl _) hb4)
      clear hb4
      go_wp2_with fail
      refine (awake_any _).mono ?_
      rintro e w9 ⟨rfl, hb9⟩
      have HB9 := Lib.hid (below_step HB4.out (Nat.le_refl _) hb9)
      clear hb9
      go_wp2
      go_ret
      exact ⟨rfl, HB9.out⟩
end Go.Proofs.Ytholjhblpfkbcaa

