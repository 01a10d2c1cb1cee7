/-
  A size comes back from its text; the contract of the law's awake; the law of SizeBack. Conditions: none.
-/
import Derived.Test.YtlkemdcmlljfgaaD
set_option linter.unusedVariables false
set_option linter.unusedSimpArgs false
namespace Go.Proofs.Ytlkemdcmlljfgaa
open Go.RowKit
theorem norm_spec : ∀ (f : Nat) (n : Nat) (k : Nat), ∃ (a : Nat) (j : Nat), norm f (n : Int) k = ((a : Int), k + j) ∧ j ≤ f ∧ a * 1024 ^ j = n
  | 0, n, k => ⟨n, 0, rfl, Nat.le_refl _, by simp⟩
  | f + 1, n, k => by
    by_cases h : 0 < (n : Int) ∧ (n : Int) % 1024 = 0
    · rw [norm_pos h]
      obtain ⟨a, j, h1, h2, h3⟩ := norm_spec f (n / 1024) (k + 1)
      have e : ((n / 1024 : Nat) : Int) = (n : Int) / 1024 := by omega
      rw [e] at h1
      refine ⟨a, j + 1, by rw [h1, Nat.add_assoc, Nat.add_comm 1 j], by omega, ?_⟩
      rw [Nat.pow_succ, ← Nat.mul_assoc, h3]
      omega
    · rw [norm_neg h]
      exact ⟨n, 0, rfl, by omega, by simp⟩
theorem put_text (m : Nat) : ∃ a k : Nat, putS m = str (natDec a ++ sufx k) ∧ k ≤ 5 ∧ a * 1024 ^ k = m := by
  obtain ⟨a, j, h1, h2, h3⟩ := norm_spec 5 m 0
  refine ⟨a, j, ?_, h2, h3⟩
  unfold putS
  rw [h1]
  simp only [Nat.zero_add]
  rw [dec_nat (by omega)]
  simp
theorem a_le {a k m : Nat} (h : a * 1024 ^ k = m) : a ≤ m := by
  rw [← h]
  exact Nat.le_mul_of_pos_right _ (Nat.pos_of_ne_zero (by simp))
theorem idx_digit (c : UInt8) (h : 48 ≤ c.toNat ∧ c.toNat ≤ 57) : Lib.indexByte [107, 109, 103, 116, 112] c = -1 := by
  have hne : ∀ x : UInt8, 58 ≤ x.toNat → (x == c) = false := by
    intro x hx
    simp only [beq_eq_false_iff_ne, ne_eq]
    intro e
    rw [e] at hx; omega
  simp [Lib.indexByte, hne 107 (by decide), hne 109 (by decide), hne 103 (by decide), hne 116 (by decide), hne 112 (by decide)]
theorem read_put (m : Nat) (hm : m ≤ 9007199254740992) (w : World) : Calls Try.prog 5 #[.string (putS m)] w fun e w' => e = .returned (.tuple #[.int .i64 m, .int .i64 0]) ∧ Below w.heap.size w w' := by
  obtain ⟨a, k, h1, h2, h3⟩ := put_text m
  have ha := a_le h3
  have hl : (natDec a).length ≤ 16 := natDec_len 16 a (by omega) (by omega)
  rw [h1]
  have hkc : k = 0 ∨ k = 1 ∨ k = 2 ∨ k = 3 ∨ k = 4 ∨ k = 5 := by omega
  have big : ∀ (k : Nat) (c : UInt8), 1 ≤ k → k ≤ 5 → a * 1024 ^ k = m → Lib.indexByte [107, 109, 103, 116, 112] c = (k : Int) - 1 → Calls Try.prog 5 #[.string (str (natDec a ++ [c]))] w fun e w' => e = .returned (.tuple #[.int .i64 m, .int .i64 0]) ∧ Below w.heap.size w w' := by
    intro k c hk1 hk5 hk3 hi
    have := read_ok (str (natDec a ++ [c])) (str (natDec a)) (natDec a).length k a c w (by rw [size_str]; simp) (by rw [size_str]; simp; omega) (ext_last _ _) (by rw [if_neg (by omega)]; exact ext_body _ _) hi hk5 (by rw [hk3]; exact hm) (fun w => whole_yes a (by omega) w)
    rw [hk3] at this
    exact this
  rcases hkc with rfl | rfl | rfl | rfl | rfl | rfl
  · have hp := nat_pos a
    have hne : natDec a ≠ [] := fun e => by rw [e] at hp; simp at hp
    have hd := nat_dig a _ (List.getLast_mem hne)
    have he := List.dropLast_concat_getLast hne
    have hlen : (natDec a).length = (natDec a).dropLast.length + 1 := by rw [List.length_dropLast]; omega
    have hx := ext_last (natDec a).dropLast ((natDec a).getLast hne)
    rw [he] at hx
    have := read_ok (str (natDec a)) (str (natDec a)) (natDec a).dropLast.length 0 a ((natDec a).getLast hne) w (by rw [size_str]; exact hlen) (by rw [size_str]; omega) hx (by rw [if_pos rfl]) (by rw [idx_digit _ hd]; rfl) (by omega) (by rw [h3]; exact hm) (fun w => whole_yes a (by omega) w)
    rw [h3] at this
    simpa [sufx] using this
  · exact big 1 107 (by omega) (by omega) h3 rfl
  · exact big 2 109 (by omega) (by omega) h3 rfl
  · exact big 3 103 (by omega) (by omega) h3 rfl
  · exact big 4 116 (by omega) (by omega) h3 rfl
  · exact big 5 112 (by omega) (by omega) h3 rfl
theorem read_02 (w : World) : Calls Try.prog 5 #[.string ⟨#[48, 50]⟩] w fun e w' => e = .returned (.tuple #[.int .i64 0, .int .i64 5]) ∧ w' = w :=
  read_bad ⟨#[48, 50]⟩ ⟨#[48]⟩ 1 0 50 w rfl (by decide) rfl rfl rfl rfl whole_02
theorem nine : (⟨#[57]⟩ : ByteArray) = str (natDec 9) := by rw [natDec_small (by omega)]; rfl
set_option maxHeartbeats 4000000 in
theorem read_9p (w : World) : Calls Try.prog 5 #[.string ⟨#[57, 112]⟩] w fun e w' => e = .returned (.tuple #[.int .i64 0, .int .i64 2]) ∧ Below w.heap.size w w' := by
  have HI := fun w => Try.strings_Index_one ⟨#[107, 109, 103, 116, 112]⟩ 112 w
  have hq : Lib.indexByte ((⟨#[107, 109, 103, 116, 112]⟩ : ByteArray).data.toList) 112 = 4 := rfl
  rw [hq] at HI
  have hx : (⟨#[57, 112]⟩ : ByteArray).extract 1 2 = ⟨#[112]⟩ := rfl
  have hb : (⟨#[57, 112]⟩ : ByteArray).extract 0 1 = ⟨#[57]⟩ := rfl
  have HW := fun w => whole_yes 9 (by omega) w
  rw [← nine] at HW
  have HI2 := Lib.hid HI; have HW2 := Lib.hid HW
  clear HI hq HW
  go_enter Try.func5, Try.ntmps5
  go_wp2_with fail
  refine (HI2.out _).mono ?_
  rintro e w1 ⟨rfl, hx2⟩
  subst hx2
  go_wp2_with fail
  refine (HW2.out _).mono ?_
  rintro e w9 ⟨rfl, hb2⟩
  have HB := Lib.hid hb2
  clear hb2
  go_wp2
  go_loopw [4, 5] (fun tv v wr => ∃ i : Nat, i ≤ 4 ∧ tv = .int .i64 (5 - (i : Int)) ∧ v = .int .i64 (9 * 1024 ^ i : Nat) ∧ wr = w9) (fun tv _ _ => (intOf tv).toNat)
  case atStart => exact ⟨0, by omega, by simp, by simp, rfl⟩
  case round =>
    obtain ⟨i, hi, rfl, rfl, rfl⟩ := hrel
    have hic : i = 0 ∨ i = 1 ∨ i = 2 ∨ i = 3 ∨ i = 4 := by omega
    rcases hic with rfl | rfl | rfl | rfl | rfl
    · go_wp2
      go_roundw
      case rel => exact ⟨1, by omega, by simp, by simp, trivial⟩
      case measure => simp [intOf]
    · go_wp2
      go_roundw
      case rel => exact ⟨2, by omega, by simp, by simp, trivial⟩
      case measure => simp [intOf]
    · go_wp2
      go_roundw
      case rel => exact ⟨3, by omega, by simp, by simp, trivial⟩
      case measure => simp [intOf]
    · go_wp2
      go_roundw
      case rel => exact ⟨4, by omega, by simp, by simp, trivial⟩
      case measure => simp [intOf]
    · go_wp2
      (try rw [Exit.noGoto_ret])
      go_ret2
      exact ⟨rfl, HB.out⟩
end Go.Proofs.Ytlkemdcmlljfgaa
