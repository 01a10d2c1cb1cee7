/-
  The plain law of sums of sums: roots, paths, and what leads from a path to a root.
-/
import Derived.Test.YtlhniaecgiockaaHxF
set_option linter.unusedVariables false
set_option linter.unusedSimpArgs false
namespace Go.Proofs.Ytlhniaecgiockaa
open Go.RowKit
def hf (n : Nat) : Nat := 2 ^ Nat.log2 (n - 1)
theorem hf_pos (n : Nat) : 1 ≤ hf n := Nat.one_le_two_pow
theorem hf_lt {n : Nat} (h : 2 ≤ n) : hf n < n := by
  have := Nat.log2_self_le (n := n - 1) (by omega)
  unfold hf; omega
theorem hf_of {n j : Nat} (h : 2 ≤ n) (h1 : 2 ^ j < n) (h2 : n ≤ 2 ^ j * 2) : hf n = 2 ^ j := by
  have e1 : j ≤ Nat.log2 (n - 1) := (Nat.le_log2 (by omega)).2 (by omega)
  have e2 : Nat.log2 (n - 1) < j + 1 := (Nat.log2_lt (by omega)).2 (by rw [Nat.pow_succ]; omega)
  unfold hf
  rw [show Nat.log2 (n - 1) = j by omega]
def leafV (x : ByteArray) : ByteArray := idV (⟨#[0]⟩ ++ x)
def nodeV (a b : ByteArray) : ByteArray := idV (⟨#[1]⟩ ++ a ++ b)
theorem leafV_size (x : ByteArray) : (leafV x).size = 64 := idV_size _
theorem nodeV_size (a b : ByteArray) : (nodeV a b).size = 64 := idV_size _
def rootL (l : List ByteArray) : ByteArray :=
  if h : l.length ≤ 1 then (match l with | [] => idV ⟨#[]⟩ | x :: _ => leafV x)
  else nodeV (rootL (l.take (hf l.length))) (rootL (l.drop (hf l.length)))
termination_by l.length
decreasing_by
  · have := hf_lt (n := l.length) (by omega); rw [List.length_take]; omega
  · have := hf_pos l.length; rw [List.length_drop]; omega
theorem rootL_nil : rootL [] = idV ⟨#[]⟩ := by rw [rootL]; rfl
theorem rootL_one (x : ByteArray) : rootL [x] = leafV x := by rw [rootL]; rfl
theorem rootL_more {l : List ByteArray} (h : 2 ≤ l.length) : rootL l = nodeV (rootL (l.take (hf l.length))) (rootL (l.drop (hf l.length))) := by
  conv => lhs; rw [rootL]
  rw [dif_neg (by omega)]
theorem rootL_size (l : List ByteArray) : (rootL l).size = 64 := by
  by_cases h : 2 ≤ l.length
  · rw [rootL_more h, nodeV_size]
  · match l, h with
    | [], _ => rw [rootL_nil, idV_size]
    | [x], _ => rw [rootL_one, leafV_size]
    | _ :: _ :: _, h => exact absurd (by simp) h
def pathL (l : List ByteArray) (i : Nat) : List ByteArray :=
  if h : l.length ≤ 1 then []
  else if i < hf l.length then rootL (l.drop (hf l.length)) :: pathL (l.take (hf l.length)) i
  else rootL (l.take (hf l.length)) :: pathL (l.drop (hf l.length)) (i - hf l.length)
termination_by l.length
decreasing_by
  · have := hf_lt (n := l.length) (by omega); rw [List.length_take]; omega
  · have := hf_pos l.length; rw [List.length_drop]; omega
theorem pathL_one {l : List ByteArray} (i : Nat) (h : l.length ≤ 1) : pathL l i = [] := by rw [pathL, dif_pos h]
theorem pathL_left {l : List ByteArray} {i : Nat} (h : 2 ≤ l.length) (hi : i < hf l.length) : pathL l i = rootL (l.drop (hf l.length)) :: pathL (l.take (hf l.length)) i := by
  conv => lhs; rw [pathL]
  rw [dif_neg (by omega), if_pos hi]
theorem pathL_right {l : List ByteArray} {i : Nat} (h : 2 ≤ l.length) (hi : ¬ i < hf l.length) : pathL l i = rootL (l.take (hf l.length)) :: pathL (l.drop (hf l.length)) (i - hf l.length) := by
  conv => lhs; rw [pathL]
  rw [dif_neg (by omega), if_neg hi]
def sidesL (n i : Nat) : List Bool :=
  if h : n ≤ 1 then []
  else if i < hf n then false :: sidesL (hf n) i else true :: sidesL (n - hf n) (i - hf n)
termination_by n
decreasing_by
  · exact hf_lt (by omega)
  · have := hf_pos n; omega
theorem sidesL_one {n : Nat} (i : Nat) (h : n ≤ 1) : sidesL n i = [] := by rw [sidesL, dif_pos h]
theorem sidesL_left {n i : Nat} (h : 2 ≤ n) (hi : i < hf n) : sidesL n i = false :: sidesL (hf n) i := by
  conv => lhs; rw [sidesL]
  rw [dif_neg (by omega), if_pos hi]
theorem sidesL_right {n i : Nat} (h : 2 ≤ n) (hi : ¬ i < hf n) : sidesL n i = true :: sidesL (n - hf n) (i - hf n) := by
  conv => lhs; rw [sidesL]
  rw [dif_neg (by omega), if_neg hi]
def foldW : List Bool → List ByteArray → ByteArray → ByteArray
  | b :: w, p :: ps, s => if b then nodeV p (foldW w ps s) else nodeV (foldW w ps s) p
  | _, _, s => s
theorem foldW_nil (ps : List ByteArray) (s : ByteArray) : foldW [] ps s = s := by unfold foldW; rfl
theorem foldW_cons (b : Bool) (w : List Bool) (p : ByteArray) (ps : List ByteArray) (s : ByteArray) : foldW (b :: w) (p :: ps) s = if b then nodeV p (foldW w ps s) else nodeV (foldW w ps s) p := rfl
theorem foldW_size : ∀ (w : List Bool) (ps : List ByteArray) (s : ByteArray), s.size = 64 → (foldW w ps s).size = 64
  | [], ps, s, h => by rw [foldW_nil]; exact h
  | b :: w, [], s, h => by unfold foldW; exact h
  | b :: w, p :: ps, s, h => by
    rw [foldW_cons]; split <;> exact nodeV_size _ _
theorem sides_len : ∀ (n : Nat) (l : List ByteArray) (i : Nat), l.length ≤ n → (pathL l i).length = (sidesL l.length i).length
  | 0, l, i, h => by rw [pathL_one i (by omega), sidesL_one i (by omega)]; rfl
  | n + 1, l, i, h => by
    by_cases h1 : 2 ≤ l.length
    · have h2 := hf_lt h1
      have h3 := hf_pos l.length
      by_cases hi : i < hf l.length
      · rw [pathL_left h1 hi, sidesL_left h1 hi, List.length_cons, List.length_cons, sides_len n _ _ (by rw [List.length_take]; omega), List.length_take, Nat.min_eq_left (by omega)]
      · rw [pathL_right h1 hi, sidesL_right h1 hi, List.length_cons, List.length_cons, sides_len n _ _ (by rw [List.length_drop]; omega), List.length_drop]
    · rw [pathL_one i (by omega), sidesL_one i (by omega)]; rfl
theorem path_len (l : List ByteArray) (i : Nat) : (pathL l i).length = (sidesL l.length i).length := sides_len l.length l i (Nat.le_refl _)
theorem path_leads : ∀ (n : Nat) (l : List ByteArray) (i : Nat) (x : ByteArray) (hi : l[i]? = some x), l.length ≤ n → foldW (sidesL l.length i) (pathL l i) (leafV x) = rootL l
  | 0, l, i, x, hi, h => by
    have := (List.getElem?_eq_some_iff.1 hi).1; omega
  | n + 1, l, i, x, hi, h => by
    have hil := (List.getElem?_eq_some_iff.1 hi).1
    by_cases h1 : 2 ≤ l.length
    · have h2 := hf_lt h1
      have h3 := hf_pos l.length
      by_cases hk : i < hf l.length
      · have ih := path_leads n (l.take (hf l.length)) i x (by rw [List.getElem?_take, if_pos hk]; exact hi) (by rw [List.length_take]; omega)
        rw [List.length_take, Nat.min_eq_left (by omega)] at ih
        rw [pathL_left h1 hk, sidesL_left h1 hk, foldW_cons, if_neg (by simp), ih, ← rootL_more h1]
      · have ih := path_leads n (l.drop (hf l.length)) (i - hf l.length) x (by rw [List.getElem?_drop, show hf l.length + (i - hf l.length) = i by omega]; exact hi) (by rw [List.length_drop]; omega)
        rw [List.length_drop] at ih
        rw [pathL_right h1 hk, sidesL_right h1 hk, foldW_cons, if_pos rfl, ih, ← rootL_more h1]
    · match l, hi, hil, h1 with
      | [y], hi, hil, _ =>
        obtain rfl : i = 0 := by simp at hil; omega
        obtain rfl : y = x := by simpa using hi
        rw [pathL_one 0 (by simp), sidesL_one 0 (by simp), foldW_nil, rootL_one]
      | _ :: _ :: _, _, _, h1 => exact absurd (by simp) h1
theorem path_sizes : ∀ (n : Nat) (l : List ByteArray) (i : Nat), l.length ≤ n → ∀ s ∈ pathL l i, s.size = 64
  | 0, l, i, h => by rw [pathL_one i (by omega)]; simp
  | n + 1, l, i, h => by
    by_cases h1 : 2 ≤ l.length
    · have h2 := hf_lt h1
      have h3 := hf_pos l.length
      by_cases hk : i < hf l.length
      · rw [pathL_left h1 hk]
        intro s hs
        rcases List.mem_cons.1 hs with rfl | hs
        · exact rootL_size _
        · exact path_sizes n _ _ (by rw [List.length_take]; omega) s hs
      · rw [pathL_right h1 hk]
        intro s hs
        rcases List.mem_cons.1 hs with rfl | hs
        · exact rootL_size _
        · exact path_sizes n _ _ (by rw [List.length_drop]; omega) s hs
    · rw [pathL_one i (by omega)]; simp
theorem sides_le : ∀ (n m i : Nat), n ≤ m → (sidesL n i).length ≤ m
  | n, 0, i, h => by rw [sidesL_one i (by omega)]; simp
  | n, m + 1, i, h => by
    by_cases h1 : 2 ≤ n
    · have h2 := hf_lt h1
      have h3 := hf_pos n
      by_cases hk : i < hf n
      · rw [sidesL_left h1 hk, List.length_cons]
        have := sides_le (hf n) m i (by omega); omega
      · rw [sidesL_right h1 hk, List.length_cons]
        have := sides_le (n - hf n) m (i - hf n) (by omega); omega
    · rw [sidesL_one i (by omega)]; simp
def checkV (root : ByteArray) (n i : Int) (s : ByteArray) (path : List ByteArray) : Bool :=
  if i < 0 ∨ n ≤ i ∨ 1048576 < n then false
  else decide (path.length = (sidesL n.toNat i.toNat).length) && (foldW (sidesL n.toNat i.toNat) path (leafV s)).toList == root.toList
def apF (a b : List ByteArray) : Nat → Nat → Int
  | 0, _ => -1
  | f + 1, i => if i < a.length ∧ i < b.length ∧ a.getD i ⟨#[]⟩ = b.getD i ⟨#[]⟩ then apF a b f (i + 1) else i
def apV (a b : List ByteArray) : Int := apF a b (max a.length b.length) 0
end Go.Proofs.Ytlhniaecgiockaa

