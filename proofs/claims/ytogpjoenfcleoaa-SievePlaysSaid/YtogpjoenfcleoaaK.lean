/-
  The plain law of sieves: what is set stays set, and what is put together has what was in either.
-/
import Derived.Test.YtogpjoenfcleoaaJ
set_option linter.unusedVariables false
set_option linter.unusedSimpArgs false
namespace Go.Proofs.Ytogpjoenfcleoaa
open Go.RowKit
theorem getD_set (l : List Bool) (i j : Nat) (x : Bool) (hi : i < l.length) : (l.set i x).getD j false = if j = i then x else l.getD j false := by
  rw [List.getD_eq_getElem?_getD, List.getD_eq_getElem?_getD, List.getElem?_set]
  by_cases h : i = j
  · subst h; simp [hi]
  · rw [if_neg h, if_neg (fun e => h e.symm)]
theorem hasN_iff (m : List Bool) (s : ByteArray) (b : Nat) : ∀ t, hasN m s b t = true ↔ ∀ k, k < t → m.getD (mk s k b) false = true
  | 0 => by simp [hasN]
  | t + 1 => by
    rw [hasN, Bool.and_eq_true, hasN_iff m s b t]
    constructor
    · rintro ⟨h1, h2⟩ k hk
      by_cases e : k = t
      · subst e; exact h2
      · exact h1 k (by omega)
    · intro h
      exact ⟨fun k hk => h k (by omega), h t (by omega)⟩
theorem addN_keep (m : List Bool) (s : ByteArray) (b : Nat) (hb1 : 1 ≤ b) (hb2 : b ≤ m.length) (j : Nat) (h : m.getD j false = true) : ∀ t, (addN m s b t).getD j false = true
  | 0 => h
  | t + 1 => by
    have := mk_lt s t hb1
    rw [addN, getD_set _ _ _ _ (by rw [addN_len]; omega)]
    split
    · rfl
    · exact addN_keep m s b hb1 hb2 j h t
theorem addN_new (m : List Bool) (s : ByteArray) (b : Nat) (hb1 : 1 ≤ b) (hb2 : b ≤ m.length) : ∀ t k, k < t → (addN m s b t).getD (mk s k b) false = true
  | 0, k, h => by omega
  | t + 1, k, h => by
    have := mk_lt s t hb1
    rw [addN, getD_set _ _ _ _ (by rw [addN_len]; omega)]
    split
    · rfl
    · exact addN_new m s b hb1 hb2 t k (by
        apply Classical.byContradiction
        intro hc
        obtain rfl : k = t := by omega
        contradiction)
theorem addN_out (m : List Bool) (s : ByteArray) (b : Nat) (hb1 : 1 ≤ b) (hb2 : b ≤ m.length) (j : Nat) (hj : b ≤ j) : ∀ t, (addN m s b t).getD j false = m.getD j false
  | 0 => rfl
  | t + 1 => by
    have := mk_lt s t hb1
    rw [addN, getD_set _ _ _ _ (by rw [addN_len]; omega), if_neg (by omega)]
    exact addN_out m s b hb1 hb2 j hj t
theorem has_add (m : List Bool) (s : ByteArray) (b t : Nat) (hb1 : 1 ≤ b) (hb2 : b ≤ m.length) : hasN (addN m s b t) s b t = true :=
  (hasN_iff _ _ _ _).2 (fun k hk => addN_new m s b hb1 hb2 t k hk)
theorem has_keep (m : List Bool) (s x : ByteArray) (b t : Nat) (hb1 : 1 ≤ b) (hb2 : b ≤ m.length) (h : hasN m s b t = true) : hasN (addN m x b t) s b t = true :=
  (hasN_iff _ _ _ _).2 (fun k hk => addN_keep m x b hb1 hb2 _ ((hasN_iff _ _ _ _).1 h k hk) t)
def joinN (m n : List Bool) : Nat → List Bool
  | 0 => m
  | k + 1 => (joinN m n k).set k (m.getD k false || n.getD k false)
theorem joinN_len (m n : List Bool) : ∀ k, (joinN m n k).length = m.length
  | 0 => rfl
  | k + 1 => by rw [joinN, List.length_set, joinN_len m n k]
theorem joinN_get (m n : List Bool) (j : Nat) : ∀ k, k ≤ m.length → (joinN m n k).getD j false = if j < k then (m.getD j false || n.getD j false) else m.getD j false
  | 0, _ => by simp [joinN]
  | k + 1, hk => by
    rw [joinN, getD_set _ _ _ _ (by rw [joinN_len]; omega), joinN_get m n j k (by omega)]
    by_cases h : j = k
    · subst h; simp
    · rw [if_neg h]
      by_cases h2 : j < k
      · rw [if_pos h2, if_pos (by omega)]
      · rw [if_neg h2, if_neg (by omega)]
theorem join_left (m n : List Bool) (s : ByteArray) (b t : Nat) (hb1 : 1 ≤ b) (hb2 : b ≤ m.length) (h : hasN m s b t = true) : hasN (joinN m n m.length) s b t = true :=
  (hasN_iff _ _ _ _).2 (fun k hk => by
    have h1 := (hasN_iff _ _ _ _).1 h k hk
    have := mk_lt s k hb1
    rw [joinN_get _ _ _ _ (Nat.le_refl _), if_pos (by omega), h1]; rfl)
theorem join_right (m n : List Bool) (s : ByteArray) (b t : Nat) (hb1 : 1 ≤ b) (hb2 : b ≤ m.length) (h : hasN n s b t = true) : hasN (joinN m n m.length) s b t = true :=
  (hasN_iff _ _ _ _).2 (fun k hk => by
    have h1 := (hasN_iff _ _ _ _).1 h k hk
    have := mk_lt s k hb1
    rw [joinN_get _ _ _ _ (Nat.le_refl _), if_pos (by omega), h1]; simp)
theorem count_getD (m : List Bool) : ∀ k, k ≤ m.length → (∀ j, k ≤ j → m.getD j false = false) → (m.take k).count true = m.count true := by
  intro k hk h
  have e : m = m.take k ++ m.drop k := (List.take_append_drop k m).symm
  have h0 : (m.drop k).count true = 0 := by
    rw [List.count_eq_zero]
    intro hm
    obtain ⟨i, hi, he⟩ := List.mem_iff_getElem.1 hm
    rw [List.getElem_drop] at he
    have := h (k + i) (by omega)
    rw [List.getD_eq_getElem?_getD, List.getElem?_eq_getElem (by rw [List.length_drop] at hi; omega)] at this
    simp only [Option.getD_some] at this
    rw [he] at this
    cases this
  conv => rhs; rw [e, List.count_append, h0]
  rfl
theorem cnt_all (m : List Bool) (b : Nat) (hm : m.length = 4096) (hb : b ≤ 4096) (h : ∀ j, b ≤ j → m.getD j false = false) : cntM m 4096 = cntM m b := by
  unfold cntM
  rw [count_getD m b (by omega) h, List.take_of_length_le (by omega)]
theorem take_set (m : List Bool) (b i : Nat) (x : Bool) (h : i < b) : (m.set i x).take b = (m.take b).set i x := by
  rw [List.take_set]
theorem take_getD (m : List Bool) (b i : Nat) (h : i < b) (hm : b ≤ m.length) : ((m.take b).map Value.bool)[i]? = some (.bool (m.getD i false)) := by
  rw [List.getElem?_map, List.getElem?_take, if_pos h, List.getElem?_eq_getElem (by omega), List.getD_eq_getElem?_getD, List.getElem?_eq_getElem (by omega)]
  rfl
theorem map_set (m : List Bool) (b i : Nat) (x : Bool) (h : i < b) : ((m.take b).map Value.bool).set i (.bool x) = ((m.set i x).take b).map Value.bool := by
  rw [List.take_set, List.map_set]
def noM : List Bool := List.replicate 4096 false
theorem noM_len : noM.length = 4096 := List.length_replicate
theorem noM_get (j : Nat) : noM.getD j false = false := by
  unfold noM
  rw [List.getD_eq_getElem?_getD, List.getElem?_replicate]
  split <;> rfl
theorem noM_take (b : Nat) (h : b ≤ 4096) : noM.take b = List.replicate b false := by
  unfold noM
  rw [List.take_replicate, Nat.min_eq_left h]
end Go.Proofs.Ytogpjoenfcleoaa

