/-
  The walk of GlobSelf, and the plain law of escaped texts.
-/
import Derived.Test.YtdpgbcogoilniaaD
set_option linter.unusedVariables false
set_option linter.unusedSimpArgs false
namespace Go.Proofs.Ytdpgbcogoilniaa
open Go.RowKit
def esc (l : List UInt8) : List UInt8 := l.flatMap fun c => [92, c]
def lits (l : List UInt8) : List Part := l.map fun c => (0, c)
theorem partsOf_escs (l r : List UInt8) : partsOf (esc l ++ r) = (partsOf r).map (lits l ++ ·) := by
  induction l with
  | nil => simp [esc, lits]
  | cons c l ih =>
    have : esc (c :: l) ++ r = 92 :: c :: (esc l ++ r) := by simp [esc]
    rw [this, partsOf_esc, ih, Option.map_map]
    congr 1
theorem ones_lits (l : List UInt8) : ones (lits l) l = true := by
  induction l with
  | nil => rfl
  | cons c l ih => simpa [lits, ones, one] using ih
theorem mat_lits (l s : List UInt8) : mat (lits l) s = decide (l = s) := by
  induction l generalizing s with
  | nil => rw [show lits [] = [] from rfl, mat_nil]; cases s <;> simp
  | cons c l ih =>
    cases s with
    | nil => rw [show lits (c :: l) = (0, c) :: lits l from rfl, mat_one_nil _ _ (by simp)]; simp
    | cons d s => rw [show lits (c :: l) = (0, c) :: lits l from rfl, mat_one _ _ (by simp), ih]; simp [one, Bool.decide_and]; congr
theorem mat_all (t : List UInt8) : mat [(42, 0)] t = true := (mat_star _ _ rfl t).2 ⟨t.length, Nat.le_refl _, by simp [mat]⟩
theorem isB_self (l s : List UInt8) : isB (esc l) s = decide (l = s) := by
  have := partsOf_escs l []
  rw [List.append_nil] at this
  unfold isB
  rw [this]
  simp [partsOf, mat_lits]
theorem isB_all (t : List UInt8) : isB [42] t = true := by
  have : partsOf [42] = some [(42, 0)] := by decide
  unfold isB
  rw [this]
  exact mat_all t
theorem isB_mid (l t : List UInt8) : isB ([42] ++ esc l ++ [42]) (t ++ l ++ t) = true := by
  have h : partsOf ([42] ++ esc l ++ [42]) = some ((42, 0) :: (lits l ++ [(42, 0)])) := by
    have : partsOf [42] = some [(42, 0)] := by decide
    rw [show [42] ++ esc l ++ [42] = 42 :: (esc l ++ [42]) by simp, partsOf_star _ _ (.inl rfl), partsOf_escs, this]; rfl
  unfold isB
  rw [h]
  show mat ((42, 0) :: (lits l ++ [(42, 0)])) (t ++ l ++ t) = true
  refine (mat_star _ _ rfl _).2 ⟨t.length, by simp, ?_⟩
  rw [List.append_assoc, List.drop_left, mat_ones _ _ _ _ (ones_lits l)]
  exact mat_all t
theorem esc_snoc (l : List UInt8) (c : UInt8) : esc (l ++ [c]) = esc l ++ [92, c] := by simp [esc]
theorem isB_self2 (p s t : ByteArray) (h : p.data.toList = esc s.data.toList) : isB p.data.toList t.data.toList = (s.toList == t.toList) := by
  rw [h, isB_self]
  rw [Lib.toList_data, Lib.toList_data]
  exact Bool.eq_iff_iff.2 (by simp)
theorem isB_mid2 (p s t : ByteArray) (h : p.data.toList = esc s.data.toList) : isB ((⟨#[42]⟩ ++ p ++ ⟨#[42]⟩ : ByteArray)).data.toList (t ++ s ++ t).data.toList = true := by
  simp only [ByteArray.data_append, Array.toList_append]
  rw [h]
  exact isB_mid s.data.toList t.data.toList
set_option maxHeartbeats 2000000 in
theorem self_any (s t : ByteArray) (w : World) (hs : s.size ≤ 60) (ht : t.size ≤ 60) : Calls Try.prog 3 #[.string s, .string t] w fun e w' => e = .returned (.bool true) ∧ Below w.heap.size w w' := by
  have g1 : decide ((60:Int) < (s.size : Int)) = false := by simp; omega
  have g2 : decide ((60:Int) < (t.size : Int)) = false := by simp; omega
  go_enter Try.func3, Try.ntmps3
  go_wp2
  go_loopw [5, 6] (fun q i wr => ∃ (k : Nat) (p : ByteArray), k ≤ s.size ∧ i = .int .i64 k ∧ q = .string p ∧ p.data.toList = esc (s.data.toList.take k) ∧ p.size = 2 * k ∧ wr = w) (fun _ i _ => s.size - (intOf i).toNat)
  case atStart => exact ⟨0, ⟨#[]⟩, by omega, rfl, rfl, rfl, rfl, rfl⟩
  case round =>
    obtain ⟨k, p, hk, rfl, rfl, hp, hps, rfl⟩ := hrel
    have HP := Lib.hid hp; clear hp
    by_cases hlt : k < s.size
    · have gi : (k : Int) < (s.size : Int) := by omega
      go_wp2
      go_roundw
      case rel =>
        refine ⟨k + 1, _, by omega, by go_num, rfl, ?_, ?_, trivial⟩
        · rw [take_snoc _ _ hlt, esc_snoc, ← HP.out, ByteArray.data_append, ByteArray.data_append, Array.toList_append, Array.toList_append, Lib.extract_data, show k + 1 - k = 1 by omega,
            show s.data.toList.drop k = s[k] :: s.data.toList.drop (k + 1) from List.drop_eq_getElem_cons (by rw [length_data]; exact hlt)]
          simp
        · simp only [ByteArray.size_append, ByteArray.size_extract, hps]
          have : (⟨#[92]⟩ : ByteArray).size = 1 := rfl
          rw [this]; omega
      case measure => simp [intOf]; omega
    · obtain rfl : k = s.size := by omega
      have HP2 : Hid (p.data.toList = esc s.data.toList) := Lib.hid (by have := HP.out; rwa [List.take_of_length_le (by rw [length_data]; omega)] at this)
      have e1 : (s.toList == s.toList) = true := by simp
      have H1 := Lib.hid (isB_self2 p s s HP2.out)
      have H2 := Lib.hid (isB_self2 p s t HP2.out)
      have H3 := Lib.hid (isB_all t.data.toList)
      have H4 := Lib.hid (isB_mid2 p s t HP2.out)
      have hm : (⟨#[42]⟩ ++ p ++ ⟨#[42]⟩ : ByteArray).size ≤ 256 := by
        simp only [ByteArray.size_append, hps]
        have : (⟨#[42]⟩ : ByteArray).size = 1 := rfl
        rw [this]; omega
      have ht : (t ++ s ++ t).size ≤ 140737488351232 := by simp only [ByteArray.size_append]; omega
      go_wp2_with fail
      refine (Is_any _ _ _ (by omega) (by omega)).mono ?_
      rintro e w1 ⟨rfl, hb1⟩
      rw [H1.out, e1]
      go_wp2_with fail
      refine (Is_any _ _ _ (by omega) (by omega)).mono ?_
      rintro e w2 ⟨rfl, hb2⟩
      rw [H2.out]
      have HB2 := Lib.hid (below_cons hb1 hb2)
      clear hb1 hb2
      have e3 : ((s.toList == t.toList) == (s.toList == t.toList)) = true := by simp
      go_wp2_with fail
      refine (Is_any _ _ _ (by decide) (by omega)).mono ?_
      rintro e w3 ⟨rfl, hb3⟩
      rw [H3.out]
      have HB3 := Lib.hid (below_cons HB2.out hb3)
      clear hb3
      go_wp2_with fail
      refine (Is_any _ _ _ hm ht).mono ?_
      rintro e w4 ⟨rfl, hb4⟩
      rw [H4.out]
      have HB4 := Lib.hid (below_cons HB3.out hb4)
      clear hb4
      go_wp2_with fail
      refine (awake_any _).mono ?_
      rintro e w5 ⟨rfl, hb5⟩
      go_wp2_with fail
      go_ret
      exact ⟨rfl, below_cons HB4.out hb5⟩
set_option maxHeartbeats 2000000 in
theorem self_walk (s t : ByteArray) (w : World) (w0 : s.size ≤ 140737488351232) (w1 : t.size ≤ 140737488351232) : Calls Try.prog 3 #[.string s, .string t] w fun e w' => e = .returned (.bool true) ∧ Below w.heap.size w w' := by
  by_cases hs : s.size ≤ 60
  · by_cases ht : t.size ≤ 60
    · exact self_any s t w hs ht
    · have g1 : decide ((60:Int) < (s.size : Int)) = false := by simp; omega
      have g2 : decide ((60:Int) < (t.size : Int)) = true := by simp; omega
      go_enter Try.func3, Try.ntmps3
      go_wp2_with fail
      refine (awake_any _).mono ?_
      rintro e w1 ⟨rfl, hb1⟩
      go_wp2_with fail
      go_ret
      exact ⟨rfl, hb1⟩
  · have g1 : decide ((60:Int) < (s.size : Int)) = true := by simp; omega
    go_enter Try.func3, Try.ntmps3
    go_wp2_with fail
    refine (awake_any _).mono ?_
    rintro e w1 ⟨rfl, hb1⟩
    go_wp2_with fail
    go_ret
    exact ⟨rfl, hb1⟩
end Go.Proofs.Ytdpgbcogoilniaa
