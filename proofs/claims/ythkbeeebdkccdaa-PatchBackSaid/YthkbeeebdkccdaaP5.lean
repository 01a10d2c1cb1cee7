/-
  What Make does, plain; its loop.
-/
import Derived.Test.YthkbeeebdkccdaaP4
set_option linter.unusedVariables false
set_option linter.unusedSimpArgs false
namespace Go.Proofs.Ythkbeeebdkccdaa
open Go.RowKit
theorem eqB {a b : ByteArray} (h : a.data.toList = b.data.toList) : a = b := ByteArray.ext (by rw [← Array.toArray_toList (xs := a.data), h])
theorem ext_list (s : ByteArray) (i j : Nat) : (s.extract i j).data.toList = (s.data.toList.take j).drop i := by
  rw [ByteArray.data_extract, Array.toList_extract, List.extract_eq_take_drop, ← List.drop_take]
theorem cat_list (a b : ByteArray) : (a ++ b).data.toList = a.data.toList ++ b.data.toList := by simp [ByteArray.data_append]
def psOf (o h : Nat) (mid : ByteArray) (t : Nat) : List Part := (if 0 < h then [.old 0 h] else []) ++ ((if mid.size = 0 then [] else [.fresh mid]) ++ (if 0 < t then [.old (o - t) t] else []))
theorem outsP_append (old : ByteArray) (l m : List Part) : outsP old (l ++ m) = outsP old l ++ outsP old m := by
  induction l with
  | nil => show outsP old m = ByteArray.empty ++ outsP old m; rw [ByteArray.empty_append]
  | cons x l ih => show outP old x ++ outsP old (l ++ m) = outP old x ++ outsP old l ++ outsP old m; rw [ih, ByteArray.append_assoc]
theorem outs_psOf (old now : ByteArray) (h t : Nat) (h1 : h + t ≤ old.size) (h2 : h + t ≤ now.size) (HH : old.data.toList.take h = now.data.toList.take h) (TT : old.data.toList.drop (old.size - t) = now.data.toList.drop (now.size - t)) :
    outsP old (psOf old.size h (now.extract h (now.size - t)) t) = now := by
  have a1 : outsP old (if 0 < h then [.old 0 h] else []) = now.extract 0 h := by
    by_cases q : 0 < h
    · rw [if_pos q]
      show old.extract 0 (0 + h) ++ ByteArray.empty = _
      rw [ByteArray.append_empty, Nat.zero_add]
      apply eqB
      rw [ext_list, ext_list, List.drop_zero, List.drop_zero, HH]
    · rw [if_neg q]
      obtain rfl : h = 0 := by omega
      apply eqB
      rw [ext_list]; rfl
  have a2 : outsP old (if (now.extract h (now.size - t)).size = 0 then [] else [.fresh (now.extract h (now.size - t))]) = now.extract h (now.size - t) := by
    by_cases q : (now.extract h (now.size - t)).size = 0
    · rw [if_pos q]
      apply ByteArray.ext
      have : (now.extract h (now.size - t)).data.size = 0 := q
      exact (Array.eq_empty_of_size_eq_zero this).symm
    · rw [if_neg q]
      show _ ++ ByteArray.empty = _
      rw [ByteArray.append_empty]; rfl
  have a3 : outsP old (if 0 < t then [.old (old.size - t) t] else []) = now.extract (now.size - t) now.size := by
    by_cases q : 0 < t
    · rw [if_pos q]
      show old.extract (old.size - t) (old.size - t + t) ++ ByteArray.empty = _
      rw [ByteArray.append_empty, Nat.sub_add_cancel (by omega)]
      apply eqB
      rw [ext_list, ext_list, List.take_of_length_le (by rw [length_data]; exact Nat.le_refl _), List.take_of_length_le (by rw [length_data]; exact Nat.le_refl _), TT]
    · rw [if_neg q]
      obtain rfl : t = 0 := by omega
      apply eqB
      rw [ext_list, Nat.sub_zero, List.take_of_length_le (by rw [length_data]; exact Nat.le_refl _), List.drop_of_length_le (by rw [length_data]; exact Nat.le_refl _)]; rfl
  unfold psOf
  rw [outsP_append, outsP_append, a1, a2, a3]
  apply eqB
  rw [cat_list, cat_list, ext_list, ext_list, ext_list, List.drop_zero, List.take_of_length_le (l := now.data.toList) (i := now.size) (by rw [length_data]; exact Nat.le_refl _)]
  have e1 : (now.data.toList.take (now.size - t)).drop h ++ now.data.toList.drop (now.size - t) = now.data.toList.drop h := by
    have := congrArg (List.drop h) (List.take_append_drop (now.size - t) now.data.toList)
    rw [List.drop_append_of_le_length (by rw [List.length_take, length_data]; omega)] at this
    exact this
  rw [e1, List.take_append_drop]
theorem ok_psOf (old mid : ByteArray) (h t : Nat) (h1 : h + t ≤ old.size) (hm : mid.size ≤ 65536) : ∀ x ∈ psOf old.size h mid t, okP old x := by
  intro x hx
  unfold psOf at hx
  rcases List.mem_append.1 hx with hx | hx
  · split at hx
    · rw [List.mem_singleton.1 hx]; show 0 + h ≤ old.size; omega
    · cases hx
  · rcases List.mem_append.1 hx with hx | hx
    · split at hx
      · cases hx
      · rw [List.mem_singleton.1 hx]; exact hm
    · split at hx
      · rw [List.mem_singleton.1 hx]; show old.size - t + t ≤ old.size; omega
      · cases hx
theorem partF_size (x : ByteArray) (hx : x.size ≤ 4096) : (partF x).size ≤ x.size + 4 := by
  unfold partF textB
  rw [ByteArray.size_append, ByteArray.size_append, txt_size]
  have h1 : (catN [0]).size ≤ 1 := by decide +kernel
  have h2 := nb_len 1 x.size (by omega)
  omega
theorem drop_get (s : ByteArray) (t : Nat) (h : t < s.size) : s.data.toList.drop (s.size - (t + 1)) = (s[s.size - 1 - t]'(by omega)) :: s.data.toList.drop (s.size - t) := by
  have hl : s.size - (t + 1) < s.data.toList.length := by rw [length_data]; omega
  rw [List.drop_eq_getElem_cons hl, show s.size - (t + 1) + 1 = s.size - t by omega]
  congr 1
  simp only [show s.size - 1 - t = s.size - (t + 1) by omega]
  rfl
theorem get_of_drop {a b : ByteArray} {t : Nat} (h1 : t < a.size) (h2 : t < b.size) (h : a.data.toList.drop (a.size - t) = b.data.toList.drop (b.size - t)) (e : (a[a.size - 1 - t]'(by omega)) = (b[b.size - 1 - t]'(by omega))) : a.data.toList.drop (a.size - (t + 1)) = b.data.toList.drop (b.size - (t + 1)) := by
  rw [drop_get a t h1, drop_get b t h2, h, e]
end Go.Proofs.Ythkbeeebdkccdaa

