/-
  The walk of QuotaPlays: it returns true, for every input, without condition.
-/
import Derived.Test.YtbilnkgicpkdnaaE
set_option linter.unusedVariables false
set_option linter.unusedSimpArgs false
namespace Go.Proofs.Ytbilnkgicpkdnaa
open Go.RowKit
/-- What all have together. -/
def total (l : List Deed) : Int := (l.map fun d => if d.1 then -d.2.2 else d.2.2).sum
theorem total_snoc (l : List Deed) (d : Deed) : total (l ++ [d]) = total l + (if d.1 then -d.2.2 else d.2.2) := by simp [total]
theorem total_split (l : List Deed) (s : ByteArray) : total l = ofL l s + total (l.filter fun d => decide (d.2.1 ≠ s)) := by
  induction l with
  | nil => rfl
  | cons d l ih =>
    have h1 : total (d :: l) = (if d.1 then -d.2.2 else d.2.2) + total l := by simp [total]
    have h2 : ofL (d :: l) s = part d s + ofL l s := by simp [ofL]
    by_cases h : d.2.1 = s
    · have h3 : (d :: l).filter (fun d => decide (d.2.1 ≠ s)) = l.filter fun d => decide (d.2.1 ≠ s) := by rw [List.filter_cons_of_neg (by simp [h])]
      have h4 : part d s = if d.1 then -d.2.2 else d.2.2 := by simp [part, h]
      rw [h3, h1, h2, h4]; omega
    · have h3 : (d :: l).filter (fun d => decide (d.2.1 ≠ s)) = d :: l.filter fun d => decide (d.2.1 ≠ s) := by rw [List.filter_cons_of_pos (by simp [h])]
      have h4 : part d s = 0 := by simp [part, h]
      have h5 : ∀ r : List Deed, total (d :: r) = (if d.1 then -d.2.2 else d.2.2) + total r := by intro r; simp [total]
      rw [h3, h1, h2, h4, h5]; omega
theorem ofL_filter (l : List Deed) (s t : ByteArray) : ofL (l.filter fun d => decide (d.2.1 ≠ s)) t = if t = s then 0 else ofL l t := by
  induction l with
  | nil => simp [ofL]
  | cons d l ih =>
    have h2 : ∀ r : List Deed, ofL (d :: r) t = part d t + ofL r t := by intro r; simp [ofL]
    by_cases h : d.2.1 = s
    · rw [List.filter_cons_of_neg (by simp [h]), ih, h2]
      by_cases ht : t = s
      · simp [ht]
      · have : part d t = 0 := by simp [part, h, Ne.symm ht]
        simp [ht, this]
    · rw [List.filter_cons_of_pos (by simp [h]), h2, ih, h2]
      by_cases ht : t = s
      · have : part d t = 0 := by simp [part, ht, h]
        simp [ht] at this ⊢
        rw [this]
      · simp [ht]
theorem total_pos : ∀ (n : Nat) (l : List Deed), l.length ≤ n → (∀ s, 0 ≤ ofL l s) → 0 ≤ total l
  | 0, l, hl, _ => by
    obtain rfl : l = [] := List.eq_nil_of_length_eq_zero (by omega)
    exact Int.le_refl _
  | n + 1, [], _, _ => Int.le_refl _
  | n + 1, d :: l, hl, h => by
    have h1 := total_split (d :: l) d.2.1
    have h2 : ((d :: l).filter fun x => decide (x.2.1 ≠ d.2.1)).length ≤ n := by
      rw [List.filter_cons_of_neg (by simp)]
      have := List.length_filter_le (fun x : Deed => decide (x.2.1 ≠ d.2.1)) l
      simp at hl
      omega
    have h3 := total_pos n _ h2 (fun s => by
      rw [ofL_filter]
      split
      · omega
      · exact h s)
    have h4 := h d.2.1
    omega
theorem of_le_total (l : List Deed) (h : ∀ s, 0 ≤ ofL l s) (s : ByteArray) : ofL l s ≤ total l := by
  have h1 := total_split l s
  have h3 := total_pos _ (l.filter fun d => decide (d.2.1 ≠ s)) (Nat.le_refl _) (fun t => by
    rw [ofL_filter]
    split
    · omega
    · exact h t)
  omega
theorem ofL_upd (l : List Deed) (d : Deed) : ofL (l ++ [d]) = upd (ofL l) d.2.1 (ofL l d.2.1 + if d.1 then -d.2.2 else d.2.2) := by
  funext s
  rw [ofL_snoc]
  by_cases h : s = d.2.1
  · subst h; rw [upd_same]; simp [part]
  · rw [upd_other _ _ h]
    have : part d s = 0 := by simp [part, Ne.symm h]
    omega
end Go.Proofs.Ytbilnkgicpkdnaa
