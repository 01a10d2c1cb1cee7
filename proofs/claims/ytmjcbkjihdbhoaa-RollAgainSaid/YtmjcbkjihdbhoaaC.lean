/-
  The chunks of bytes, plain.
-/
import Derived.Test.YtmjcbkjihdbhoaaB
set_option linter.unusedVariables false
set_option linter.unusedSimpArgs false
namespace Go.Proofs.Ytmjcbkjihdbhoaa
open Go.RowKit
def cutF (a b : Nat) (m : Int) : Nat → ByteArray → List ByteArray
  | 0, _ => []
  | k + 1, s => if s.size = 0 then [] else s.extract 0 (fstR s a b m) :: cutF a b m k (s.extract (fstR s a b m) s.size)
def cuts (a b : Nat) (m : Int) (s : ByteArray) : List ByteArray := cutF a b m s.size s
theorem fstR_le (s : ByteArray) (a b : Nat) (m : Int) : fstR s a b m ≤ b ∧ fstR s a b m ≤ s.size ∧ min a (min b s.size) ≤ fstR s a b m := by
  unfold fstR
  have := fstK_le s m (min b s.size - min a (min b s.size)) (min a (min b s.size))
  omega
theorem fstR_pos (s : ByteArray) {a b : Nat} (m : Int) (ha : 1 ≤ a) (hab : a ≤ b) (hs : s.size ≠ 0) : 1 ≤ fstR s a b m := by
  have := fstR_le s a b m; omega
theorem rest_size (s : ByteArray) {n : Nat} (hn : n ≤ s.size) : (s.extract n s.size).size = s.size - n := by rw [ByteArray.size_extract]; omega
theorem head_size (s : ByteArray) {n : Nat} (hn : n ≤ s.size) : (s.extract 0 n).size = n := by rw [ByteArray.size_extract]; omega
theorem cutF_more {a b : Nat} {m : Int} (ha : 1 ≤ a) (hab : a ≤ b) : ∀ (k j : Nat) (s : ByteArray), s.size ≤ k → s.size ≤ j → cutF a b m k s = cutF a b m j s
  | 0, 0, s, _, _ => rfl
  | 0, j + 1, s, h, _ => by
    unfold cutF; rw [if_pos (by omega)]
  | k + 1, 0, s, _, h => by
    conv => lhs; unfold cutF
    rw [if_pos (by omega)]; rfl
  | k + 1, j + 1, s, h1, h2 => by
    unfold cutF
    by_cases h : s.size = 0
    · rw [if_pos h, if_pos h]
    · rw [if_neg h, if_neg h]
      have p := fstR_pos s m ha hab h
      have q := (fstR_le s a b m).2.1
      rw [cutF_more ha hab k j _ (by rw [rest_size s q]; omega) (by rw [rest_size s q]; omega)]
theorem cuts_nil (a b : Nat) (m : Int) (s : ByteArray) (h : s.size = 0) : cuts a b m s = [] := by unfold cuts; rw [h]; rfl
theorem cuts_cons {a b : Nat} {m : Int} (ha : 1 ≤ a) (hab : a ≤ b) (s : ByteArray) (h : s.size ≠ 0) : cuts a b m s = s.extract 0 (fstR s a b m) :: cuts a b m (s.extract (fstR s a b m) s.size) := by
  have p := fstR_pos s m ha hab h
  have q := (fstR_le s a b m).2.1
  unfold cuts
  conv => lhs; rw [show s.size = (s.size - 1) + 1 by omega]; unfold cutF
  rw [if_neg h, cutF_more ha hab (s.size - 1) (s.extract (fstR s a b m) s.size).size _ (by rw [rest_size s q]; omega) (Nat.le_refl _)]
theorem cuts_len {a b : Nat} {m : Int} (ha : 1 ≤ a) (hab : a ≤ b) : ∀ (k : Nat) (s : ByteArray), s.size ≤ k → (cuts a b m s).length ≤ s.size
  | k, s, hk => by
    by_cases h : s.size = 0
    · rw [cuts_nil a b m s h]; exact Nat.zero_le _
    · rw [cuts_cons ha hab s h]
      have p := fstR_pos s m ha hab h
      have q := (fstR_le s a b m).2.1
      match k, hk with
      | 0, hk => omega
      | k + 1, hk =>
        have := cuts_len (m := m) ha hab k (s.extract (fstR s a b m) s.size) (by rw [rest_size s q]; omega)
        rw [rest_size s q] at this
        rw [List.length_cons]; omega
def catB (l : List ByteArray) : ByteArray := l.foldr (· ++ ·) ByteArray.empty
theorem ext_cat (s : ByteArray) (n : Nat) (hn : n ≤ s.size) : s.extract 0 n ++ s.extract n s.size = s := by
  rw [ByteArray.extract_append_extract, Nat.min_eq_left (Nat.zero_le _), Nat.max_eq_right hn, ext_zero]
theorem cuts_cat {a b : Nat} {m : Int} (ha : 1 ≤ a) (hab : a ≤ b) : ∀ (k : Nat) (s : ByteArray), s.size ≤ k → catB (cuts a b m s) = s
  | k, s, hk => by
    by_cases h : s.size = 0
    · rw [cuts_nil a b m s h]
      apply ByteArray.ext
      have : s.data.size = 0 := h
      exact (Array.eq_empty_of_size_eq_zero this).symm
    · rw [cuts_cons ha hab s h]
      have p := fstR_pos s m ha hab h
      have q := (fstR_le s a b m).2.1
      match k, hk with
      | 0, hk => omega
      | k + 1, hk =>
        have := cuts_cat (m := m) ha hab k (s.extract (fstR s a b m) s.size) (by rw [rest_size s q]; omega)
        show s.extract 0 (fstR s a b m) ++ catB _ = s
        rw [this, ext_cat s _ q]
/-- Behind any chunk the rest is cut as if it stood alone. -/
theorem cuts_drop {a b : Nat} {m : Int} (ha : 1 ≤ a) (hab : a ≤ b) : ∀ (k : Nat) (s : ByteArray), k ≤ (cuts a b m s).length → cuts a b m (catB ((cuts a b m s).drop k)) = (cuts a b m s).drop k
  | 0, s, _ => by rw [List.drop_zero, cuts_cat ha hab s.size s (Nat.le_refl _)]
  | k + 1, s, hk => by
    by_cases h : s.size = 0
    · rw [cuts_nil a b m s h] at hk; cases hk
    · rw [cuts_cons ha hab s h] at hk ⊢
      rw [List.drop_succ_cons]
      exact cuts_drop ha hab k _ (by simpa using hk)
theorem cuts_sizes {a b : Nat} {m : Int} (ha : 1 ≤ a) (hab : a ≤ b) : ∀ (j : Nat) (s : ByteArray) (hj : j < (cuts a b m s).length), (cuts a b m s)[j].size ≤ b ∧ (j + 1 < (cuts a b m s).length → a ≤ (cuts a b m s)[j].size)
  | j, s, hj => by
    by_cases h : s.size = 0
    · rw [List.length_eq_zero_iff.2 (cuts_nil a b m s h)] at hj; cases hj
    · have q := fstR_le s a b m
      have e := cuts_cons (m := m) ha hab s h
      obtain ⟨L, hL⟩ : ∃ L, L = cuts a b m s := ⟨_, rfl⟩
      simp only [← hL] at hj ⊢
      rw [← hL] at e
      subst e
      cases j with
      | zero =>
        show (s.extract 0 (fstR s a b m)).size ≤ b ∧ (_ → a ≤ (s.extract 0 (fstR s a b m)).size)
        rw [head_size s q.2.1]
        refine ⟨q.1, fun h2 => ?_⟩
        have h3 : cuts a b m (s.extract (fstR s a b m) s.size) ≠ [] := by
          intro e; rw [e] at h2; simp at h2
        have h4 : (s.extract (fstR s a b m) s.size).size ≠ 0 := fun e => h3 (cuts_nil a b m _ e)
        rw [rest_size s q.2.1] at h4
        omega
      | succ j =>
        have := cuts_sizes (m := m) ha hab j (s.extract (fstR s a b m) s.size) (by simpa using hj)
        simpa using this
end Go.Proofs.Ytmjcbkjihdbhoaa

