/-
  The contract of size.Read.
-/
import Derived.Test.YtlkemdcmlljfgaaC
import Derived.Test.YtlkemdcmlljfgaaShelf
set_option linter.unusedVariables false
set_option linter.unusedSimpArgs false
namespace Go.Proofs.Ytlkemdcmlljfgaa
open Go.RowKit
theorem read_empty (w : World) : Calls Try.prog 5 #[.string ⟨#[]⟩] w fun e w' => e = .returned (.tuple #[.int .i64 0, .int .i64 4]) ∧ w' = w := by
  go_enter Try.func5, Try.ntmps5
  go_wp2
  go_ret2
  exact ⟨rfl, rfl⟩
theorem ext_last (l : List UInt8) (c : UInt8) : (str (l ++ [c])).extract l.length (l.length + 1) = ⟨#[c]⟩ := by
  apply ByteArray.ext
  rw [ByteArray.data_extract]
  simp [str]
theorem ext_body (l : List UInt8) (c : UInt8) : (str (l ++ [c])).extract 0 l.length = str l := by
  apply ByteArray.ext
  rw [ByteArray.data_extract]
  simp [str]
set_option maxHeartbeats 4000000 in
theorem read_bad (s B : ByteArray) (p times : Nat) (c : UInt8) (w : World) (hsz : s.size = p + 1) (hs : s.size ≤ 100) (hx : s.extract p (p + 1) = ⟨#[c]⟩) (hb : s.extract 0 p = B) (ht : (Lib.indexByte [107, 109, 103, 116, 112] c : Int) = (times : Int) - 1) (h0 : times = 0)
    (hw : ∀ w, Calls Try.prog 9 #[.string s] w fun e w' => e = .returned (.tuple #[.int .i64 0, .bool false]) ∧ w' = w) :
    Calls Try.prog 5 #[.string s] w fun e w' => e = .returned (.tuple #[.int .i64 0, .int .i64 5]) ∧ w' = w := by
  have hne := nonempty_of_pos (b := s) (by omega)
  have w1 : wrap64 ((s.size : Int) - 1) = (p : Int) := by rw [wrap64_id (by omega) (by omega)]; omega
  have hpl : p ≤ s.size := by omega
  have HI := fun w => Try.strings_Index_one ⟨#[107, 109, 103, 116, 112]⟩ c w
  have hq : ((⟨#[107, 109, 103, 116, 112]⟩ : ByteArray).data.toList) = [107, 109, 103, 116, 112] := rfl
  rw [hq, ht, h0] at HI
  have HI2 := Lib.hid HI
  clear HI ht hq
  go_enter Try.func5, Try.ntmps5
  go_wp2_with fail
  refine (HI2.out _).mono ?_
  rintro e w1 ⟨rfl, hx2⟩
  subst hx2
  go_wp2_with fail
  refine (hw _).mono ?_
  rintro e w1 ⟨rfl, hx2⟩
  subst hx2
  go_wp2
  go_ret2
  exact ⟨rfl, rfl⟩
theorem pow_le {V i j t : Nat} (h : i + j = t) (hj : 0 < j) (hm : V * 1024 ^ t ≤ 9007199254740992) : V * 1024 ^ i ≤ 8796093022208 := by
  obtain ⟨q, rfl⟩ : ∃ q, t = i + 1 + q := ⟨t - i - 1, by omega⟩
  rw [Nat.pow_add, Nat.pow_succ] at hm
  have h1 : 1 ≤ 1024 ^ q := Nat.one_le_pow _ _ (by omega)
  have h2 : V * (1024 ^ i * 1024) ≤ V * (1024 ^ i * 1024 * 1024 ^ q) := Nat.mul_le_mul_left _ (Nat.le_mul_of_pos_right _ h1)
  have h3 : V * (1024 ^ i * 1024) = (V * 1024 ^ i) * 1024 := by rw [Nat.mul_assoc]
  omega
set_option maxHeartbeats 8000000 in
theorem read_ok (s B : ByteArray) (p times V : Nat) (c : UInt8) (w : World) (hsz : s.size = p + 1) (hs : s.size ≤ 100) (hx : s.extract p (p + 1) = ⟨#[c]⟩) (hb : (if times = 0 then s else s.extract 0 p) = B) (ht : (Lib.indexByte [107, 109, 103, 116, 112] c : Int) = (times : Int) - 1) (h5 : times ≤ 5)
    (hm : V * 1024 ^ times ≤ 9007199254740992)
    (hw : ∀ w, Calls Try.prog 9 #[.string B] w fun e w' => e = .returned (.tuple #[.int .i64 V, .bool true]) ∧ Below w.heap.size w w') :
    Calls Try.prog 5 #[.string s] w fun e w' => e = .returned (.tuple #[.int .i64 (V * 1024 ^ times : Nat), .int .i64 0]) ∧ Below w.heap.size w w' := by
  have hne := nonempty_of_pos (b := s) (by omega)
  have w1 : wrap64 ((s.size : Int) - 1) = (p : Int) := by rw [wrap64_id (by omega) (by omega)]; omega
  have hpl : p ≤ s.size := by omega
  have HI := fun w => Try.strings_Index_one ⟨#[107, 109, 103, 116, 112]⟩ c w
  have hq : ((⟨#[107, 109, 103, 116, 112]⟩ : ByteArray).data.toList) = [107, 109, 103, 116, 112] := rfl
  rw [hq, ht] at HI
  have HI2 := Lib.hid HI
  have w2 : wrap64 ((times : Int) - 1 + 1) = (times : Int) := by rw [wrap64_id (by omega) (by omega)]; omega
  have w3 : (times : Int) - 1 + 1 = (times : Int) := by omega
  have HM := Lib.hid hm; have HX := Lib.hid hx
  clear HI ht hq hm
  by_cases h0 : times = 0
  · rw [if_pos h0] at hb
    subst hb
    have w4 : wrap64 ((times : Int) - 1 + 1) = 0 := by rw [w2, h0]; rfl
    have w5 : (times : Int) - 1 + 1 = 0 := by omega
    have w6 : (times : Int) = 0 := by omega
    clear w2 w3
    go_enter Try.func5, Try.ntmps5
    go_wp2_with fail
    refine (HI2.out _).mono ?_
    rintro e w1 ⟨rfl, hx2⟩
    rw [show (times : Int) - 1 = -1 by omega]
    subst hx2
    clear w4 w5 w6
    go_wp2_with fail
    refine (hw _).mono ?_
    rintro e w9 ⟨rfl, hb2⟩
    have HB := Lib.hid hb2
    clear hb2
    subst h0
    go_wp2
    go_loopw [4, 5] (fun tv v wr => ∃ i j : Nat, i + j = 0 ∧ tv = .int .i64 j ∧ v = .int .i64 (V * 1024 ^ i : Nat) ∧ wr = w9) (fun tv _ _ => (intOf tv).toNat)
    case atStart => exact ⟨0, 0, by omega, rfl, by simp, rfl⟩
    case round =>
      obtain ⟨i, j, hij, rfl, rfl, rfl⟩ := hrel
      by_cases hj : 0 < j
      · have hpl := pow_le hij hj HM.out
        have HN : Hid (V * 1024 ^ (i + 1) = V * 1024 ^ i * 1024) := Lib.hid (by rw [Nat.pow_succ, Nat.mul_assoc])
        generalize V * 1024 ^ i = X at hpl HN ⊢
        have g1 : (0 : Int) < (j : Int) := by omega
        have g2 : ¬ ((8796093022208 : Int) < (X : Int)) := by omega
        have g3 : decide ((8796093022208 : Int) < (X : Int)) = false := decide_eq_false g2
        have g4 : decide ((0 : Int) < (j : Int)) = true := decide_eq_true g1
        go_wp2
        go_roundw
        case rel => exact ⟨i + 1, j - 1, by omega, by refine vint ?_; omega, by rw [HN.out]; refine vint ?_; omega, trivial⟩
        case measure => simp [intOf]; omega
      · obtain rfl : j = 0 := by omega
        obtain rfl : i = 0 := by omega
        have hV := HM.out
        obtain ⟨X, hX⟩ : ∃ X, X = V * 1024 ^ 0 := ⟨_, rfl⟩
        rw [← hX] at hV ⊢
        have HXX := Lib.hid hX
        clear hX
        have gV : decide ((9007199254740992 : Int) < (X : Int)) = false := decide_eq_false (by omega)
        go_wp2
        go_ret2
        exact ⟨by have h9 := HXX.out; first | (rw [← h9]; rfl) | (simp only [Nat.pow_zero, Nat.mul_one] at h9; subst h9; simp; done) | (simp only [Nat.pow_zero, Nat.mul_one] at h9; subst h9; rfl), HB.out⟩
  · rw [if_neg h0] at hb
    have gt : decide ((0 : Int) < (times : Int)) = true := decide_eq_true (by omega)
    go_enter Try.func5, Try.ntmps5
    go_wp2_with fail
    refine (HI2.out _).mono ?_
    rintro e w1 ⟨rfl, hx2⟩
    subst hx2
    go_wp2_with fail
    refine (hw _).mono ?_
    rintro e w9 ⟨rfl, hb2⟩
    have HB := Lib.hid hb2
    clear hb2
    go_wp2
    go_loopw [4, 5] (fun tv v wr => ∃ i j : Nat, i + j = times ∧ tv = .int .i64 j ∧ v = .int .i64 (V * 1024 ^ i : Nat) ∧ wr = w9) (fun tv _ _ => (intOf tv).toNat)
    case atStart => exact ⟨0, times, by omega, rfl, by simp, rfl⟩
    case round =>
      obtain ⟨i, j, hij, rfl, rfl, rfl⟩ := hrel
      by_cases hj : 0 < j
      · have hpl := pow_le hij hj HM.out
        have HN : Hid (V * 1024 ^ (i + 1) = V * 1024 ^ i * 1024) := Lib.hid (by rw [Nat.pow_succ, Nat.mul_assoc])
        generalize V * 1024 ^ i = X at hpl HN ⊢
        have g1 : (0 : Int) < (j : Int) := by omega
        have g2 : ¬ ((8796093022208 : Int) < (X : Int)) := by omega
        have g3 : decide ((8796093022208 : Int) < (X : Int)) = false := decide_eq_false g2
        have g4 : decide ((0 : Int) < (j : Int)) = true := decide_eq_true g1
        go_wp2
        go_roundw
        case rel => exact ⟨i + 1, j - 1, by omega, by refine vint ?_; omega, by rw [HN.out]; refine vint ?_; omega, trivial⟩
        case measure => simp [intOf]; omega
      · obtain rfl : j = 0 := by omega
        obtain rfl : i = times := by omega
        have hV := HM.out
        obtain ⟨X, hX⟩ : ∃ X, X = V * 1024 ^ i := ⟨_, rfl⟩
        rw [← hX] at hV ⊢
        have HXX := Lib.hid hX
        clear hX
        have gV : decide ((9007199254740992 : Int) < (X : Int)) = false := decide_eq_false (by omega)
        go_wp2
        go_ret2
        exact ⟨by have h9 := HXX.out; first | (rw [← h9]; rfl) | (simp only [Nat.pow_zero, Nat.mul_one] at h9; subst h9; simp; done) | (simp only [Nat.pow_zero, Nat.mul_one] at h9; subst h9; rfl), HB.out⟩
end Go.Proofs.Ytlkemdcmlljfgaa
