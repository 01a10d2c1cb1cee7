/-
  Plain words on lists of texts: how often each is there, what is left behind others that are gone, how many different ones there are.
-/
import Derived.Test.YtopifdcokfdhlaaHmap
set_option linter.unusedVariables false
set_option linter.unusedSimpArgs false
namespace Go.Proofs.Ytopifdcokfdhlaa
/-- How often a text is in a list. -/
def cnt (l : List ByteArray) (s : ByteArray) : Nat := (l.filter fun t => decide (t = s)).length
theorem cnt_nil (s : ByteArray) : cnt [] s = 0 := rfl
theorem cnt_app (l m : List ByteArray) (s : ByteArray) : cnt (l ++ m) s = cnt l s + cnt m s := by simp [cnt]
theorem cnt_one (t s : ByteArray) : cnt [t] s = if t = s then 1 else 0 := by
  unfold cnt
  by_cases h : t = s <;> simp [h]
theorem cnt_snoc (l : List ByteArray) (t s : ByteArray) : cnt (l ++ [t]) s = cnt l s + if t = s then 1 else 0 := by rw [cnt_app, cnt_one]
theorem cnt_cons (l : List ByteArray) (t s : ByteArray) : cnt (t :: l) s = (if t = s then 1 else 0) + cnt l s := by rw [← cnt_one, ← cnt_app]; rfl
theorem cnt_le (l : List ByteArray) (s : ByteArray) : cnt l s ≤ l.length := List.length_filter_le _ _
theorem cnt_pos (l : List ByteArray) (s : ByteArray) : 0 < cnt l s ↔ s ∈ l := by
  unfold cnt
  rw [List.length_pos_iff_exists_mem]
  constructor
  · rintro ⟨t, ht⟩
    obtain ⟨h1, h2⟩ := List.mem_filter.1 ht
    simp at h2; subst h2; exact h1
  · intro h
    exact ⟨s, List.mem_filter.2 ⟨h, by simp⟩⟩
theorem cnt_zero (l : List ByteArray) (s : ByteArray) : cnt l s = 0 ↔ s ∉ l := by
  rw [← cnt_pos]; omega
theorem take_snocL {α : Type} (l : List α) (k : Nat) (h : k < l.length) : l.take (k + 1) = l.take k ++ [l[k]] := by
  rw [List.take_succ_eq_append_getElem h]
theorem cnt_take_snoc (l : List ByteArray) (k : Nat) (h : k < l.length) (s : ByteArray) : cnt (l.take (k + 1)) s = cnt (l.take k) s + if l[k] = s then 1 else 0 := by
  rw [take_snocL l k h, cnt_snoc]
theorem cnt_take_le (l : List ByteArray) (k : Nat) (s : ByteArray) : cnt (l.take k) s ≤ cnt l s := by
  have h := cnt_app (l.take k) (l.drop k) s
  rw [List.take_append_drop] at h
  omega
/-- What is left of a list's first texts, others being gone. -/
def outK (l gone : List ByteArray) : Nat → List ByteArray
  | 0 => []
  | k + 1 => if h : k < l.length then (if cnt gone l[k] ≤ cnt (l.take k) l[k] then outK l gone k ++ [l[k]] else outK l gone k) else outK l gone k
theorem outK_cnt (l gone : List ByteArray) (s : ByteArray) : ∀ k, k ≤ l.length → cnt (outK l gone k) s = cnt (l.take k) s - cnt gone s
  | 0, _ => by simp [outK, cnt_nil]
  | k + 1, h => by
    have ih := outK_cnt l gone s k (by omega)
    rw [outK, dif_pos (by omega : k < l.length), cnt_take_snoc l k (by omega)]
    by_cases e : l[k] = s
    · subst e
      rw [if_pos rfl]
      split
      · rw [cnt_snoc, if_pos rfl, ih]; omega
      · rw [ih]; omega
    · rw [if_neg e]
      split
      · rw [cnt_snoc, if_neg e, ih]; omega
      · rw [ih]; omega
theorem outK_len (l gone : List ByteArray) : ∀ k, (outK l gone k).length ≤ k
  | 0 => Nat.le_refl _
  | k + 1 => by
    have ih := outK_len l gone k
    rw [outK]
    split
    · split
      · simp; omega
      · omega
    · omega
theorem outK_mem (l gone : List ByteArray) : ∀ k s, s ∈ outK l gone k → s ∈ l
  | 0, s, h => by simp [outK] at h
  | k + 1, s, h => by
    rw [outK] at h
    split at h
    · split at h
      · rcases List.mem_append.1 h with h1 | h1
        · exact outK_mem l gone k s h1
        · rw [List.mem_singleton.1 h1]; exact List.getElem_mem _
      · exact outK_mem l gone k s h
    · exact outK_mem l gone k s h
/-- Has a list as many of each as another one? -/
def okB (l gone : List ByteArray) : Bool := gone.all fun s => decide (cnt gone s ≤ cnt l s)
def okK (l gone : List ByteArray) (k : Nat) : Bool := (gone.take k).all fun s => decide (cnt gone s ≤ cnt l s)
def outL (l gone : List ByteArray) : List ByteArray := if okB l gone then outK l gone l.length else l
theorem okB_iff (l gone : List ByteArray) : okB l gone = true ↔ ∀ s, cnt gone s ≤ cnt l s := by
  unfold okB
  rw [List.all_eq_true]
  constructor
  · intro h s
    by_cases hs : s ∈ gone
    · simpa using h s hs
    · rw [(cnt_zero gone s).2 hs]; omega
  · intro h s _
    simpa using h s
theorem outL_cnt {l gone : List ByteArray} (h : okB l gone = true) (s : ByteArray) : cnt (outL l gone) s = cnt l s - cnt gone s := by
  unfold outL
  rw [if_pos h, outK_cnt l gone s l.length (Nat.le_refl _), List.take_length]
theorem outL_len (l gone : List ByteArray) : (outL l gone).length ≤ l.length := by
  unfold outL
  split
  · exact outK_len _ _ _
  · exact Nat.le_refl _
theorem outL_mem (l gone : List ByteArray) (s : ByteArray) (h : s ∈ outL l gone) : s ∈ l := by
  unfold outL at h
  split at h
  · exact outK_mem _ _ _ _ h
  · exact h
/-- Those that do not count. -/
def zeroL (x l : List ByteArray) : List ByteArray := l.filter fun s => decide (cnt x s = 0)
theorem zeroL_snoc (x l : List ByteArray) (k : Nat) (h : k < l.length) : zeroL x (l.take (k + 1)) = if cnt x l[k] = 0 then zeroL x (l.take k) ++ [l[k]] else zeroL x (l.take k) := by
  rw [take_snocL l k h]
  unfold zeroL
  rw [List.filter_append]
  by_cases e : cnt x l[k] = 0 <;> simp [e]
/-- How many different ones are among a list's first texts. -/
def onceK (x : List ByteArray) : Nat → Nat
  | 0 => 0
  | k + 1 => if h : k < x.length then (if cnt (x.take k) x[k] = 0 then onceK x k + 1 else onceK x k) else onceK x k
theorem onceK_le (x : List ByteArray) : ∀ k, onceK x k ≤ k
  | 0 => Nat.le_refl _
  | k + 1 => by
    have := onceK_le x k
    rw [onceK]
    split
    · split <;> omega
    · omega
def keysK (x : List ByteArray) : Nat → List ByteArray
  | 0 => []
  | k + 1 => if h : k < x.length then addK (keysK x k) x[k] else keysK x k
theorem keysK_mem (x : List ByteArray) : ∀ k, k ≤ x.length → ∀ s, s ∈ keysK x k ↔ s ∈ x.take k
  | 0, _, s => by simp [keysK]
  | k + 1, h, s => by
    rw [keysK, dif_pos (by omega : k < x.length), mem_addK, keysK_mem x k (by omega) s, take_snocL x k (by omega), List.mem_append, List.mem_singleton]
theorem keysK_nodup (x : List ByteArray) : ∀ k, (keysK x k).Nodup
  | 0 => List.nodup_nil
  | k + 1 => by
    rw [keysK]
    split
    · exact addK_nodup (keysK_nodup x k) _
    · exact keysK_nodup x k
theorem keysK_len (x : List ByteArray) : ∀ k, k ≤ x.length → (keysK x k).length = onceK x k
  | 0, _ => rfl
  | k + 1, h => by
    rw [keysK, onceK, dif_pos (by omega : k < x.length), dif_pos (by omega : k < x.length), addK_len, keysK_len x k (by omega)]
    by_cases e : x[k] ∈ keysK x k
    · rw [if_pos e, if_neg]
      rw [cnt_zero]
      intro h2
      exact h2 ((keysK_mem x k (by omega) _).1 e)
    · rw [if_neg e, if_pos]
      rw [cnt_zero]
      intro h2
      exact e ((keysK_mem x k (by omega) _).2 h2)
theorem nodup_sub {α : Type} [DecidableEq α] : ∀ {l m : List α}, l.Nodup → (∀ x ∈ l, x ∈ m) → l.length ≤ m.length
  | [], m, _, _ => by simp
  | x :: l, m, hn, h => by
    obtain ⟨h1, h2⟩ := List.nodup_cons.1 hn
    have hx := h x (by simp)
    have := nodup_sub (l := l) (m := m.erase x) h2 (fun y hy => (List.mem_erase_of_ne (fun e => h1 (by rw [← e]; exact hy))).2 (h y (by simp [hy])))
    rw [List.length_erase_of_mem hx] at this
    have hp : 0 < m.length := List.length_pos_of_mem hx
    simp only [List.length_cons]
    omega
theorem nodup_len {α : Type} [DecidableEq α] {l m : List α} (h1 : l.Nodup) (h2 : m.Nodup) (h : ∀ x, x ∈ l ↔ x ∈ m) : l.length = m.length :=
  Nat.le_antisymm (nodup_sub h1 (fun x hx => (h x).1 hx)) (nodup_sub h2 (fun x hx => (h x).2 hx))
theorem len_once {x ks : List ByteArray} (hn : ks.Nodup) (h : ∀ s, s ∈ ks ↔ s ∈ x) : ks.length = onceK x x.length := by
  rw [← keysK_len x x.length (Nat.le_refl _)]
  refine nodup_len hn (keysK_nodup x _) (fun s => ?_)
  rw [h s, keysK_mem x x.length (Nat.le_refl _) s, List.take_length]
end Go.Proofs.Ytopifdcokfdhlaa

