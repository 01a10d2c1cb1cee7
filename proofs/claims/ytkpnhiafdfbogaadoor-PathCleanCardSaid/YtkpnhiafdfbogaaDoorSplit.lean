/-
  strings.Split at a separator of one byte, as a plain cut.
-/
import Derived.Test.YtkpnhiafdfbogaaDoorBase2
import Derived.Lib.Split
set_option linter.unusedVariables false
set_option linter.unusedSimpArgs false
namespace Go.Proofs.YtkpnhiafdfbogaaDoor
open Go.RowKit
abbrev Bs := List UInt8
def cutC (c : UInt8) (part : Bs) : Bs → List Bs
  | [] => [part]
  | x :: r => if x = c then part :: cutC c [] r else cutC c (part ++ [x]) r
theorem cutC_hit (c : UInt8) (part r : Bs) : cutC c part (c :: r) = part :: cutC c [] r := by rw [cutC, if_pos rfl]
theorem cutC_other {c x : UInt8} (part r : Bs) (h : ¬ x = c) : cutC c part (x :: r) = cutC c (part ++ [x]) r := by rw [cutC, if_neg h]
theorem cutC_free (c : UInt8) : ∀ (x part r : Bs), (∀ y ∈ x, ¬ y = c) → cutC c part (x ++ r) = cutC c (part ++ x) r
  | [], part, r, _ => by simp
  | y :: x, part, r, h => by
    rw [List.cons_append, cutC_other _ _ (h y (by simp)), cutC_free c x _ r (fun d hd => h d (by simp [hd]))]
    simp
theorem index_one (c : UInt8) (x : UInt8) (r : Bs) : Lib.index (x :: r) [c] = if c = x then 0 else if Lib.index r [c] == -1 then -1 else Lib.index r [c] + 1 := by
  rw [Lib.index]
  by_cases h : c = x
  · rw [if_pos h, if_pos (by simp [List.isPrefixOf, h])]
  · rw [if_neg h, if_neg (by simp [List.isPrefixOf, h])]
theorem index_cases (c : UInt8) : ∀ s : Bs, (Lib.index s [c] = -1 ∧ ∀ x ∈ s, ¬ x = c) ∨ ∃ i : Nat, Lib.index s [c] = i ∧ ∃ a b, s = a ++ c :: b ∧ a.length = i ∧ ∀ x ∈ a, ¬ x = c
  | [] => Or.inl ⟨rfl, by simp⟩
  | x :: r => by
    rw [index_one]
    by_cases h : c = x
    · rw [if_pos h]
      exact Or.inr ⟨0, rfl, [], r, by rw [h]; rfl, rfl, by simp⟩
    · rw [if_neg h]
      rcases index_cases c r with ⟨h1, h2⟩ | ⟨i, h1, a, b, h2, h3, h4⟩
      · rw [h1]
        refine Or.inl ⟨rfl, fun y hy => ?_⟩
        rcases List.mem_cons.1 hy with rfl | hy
        · exact fun e => h e.symm
        · exact h2 y hy
      · rw [h1, if_neg (by rw [beq_iff_eq]; omega)]
        refine Or.inr ⟨i + 1, by omega, x :: a, b, by rw [h2]; rfl, by simp [h3], fun y hy => ?_⟩
        rcases List.mem_cons.1 hy with rfl | hy
        · exact fun e => h e.symm
        · exact h4 y hy
theorem split_cut (c : UInt8) : ∀ (n : Nat) (s : Bs), s.length ≤ n → Lib.splitK [c] 0 (Lib.count s [c]) s = cutC c [] s := by
  intro n
  induction n with
  | zero =>
    intro s hs
    obtain rfl : s = [] := List.eq_nil_of_length_eq_zero (by omega)
    rfl
  | succ n ih =>
    intro s hs
    rcases index_cases c s with ⟨h1, h2⟩ | ⟨i, h1, a, b, h2, h3, h4⟩
    · rw [Lib.count_miss h1]
      have := cutC_free c s [] [] h2
      rw [List.append_nil, List.nil_append] at this
      rw [this]; rfl
    · rw [Lib.count_hit (by simp) h1, Nat.add_comm, Lib.splitK, if_neg (by rw [h1, beq_iff_eq]; omega), h1]
      have hd : s.drop ((i : Int).toNat + [c].length) = b := by
        rw [h2, Int.toNat_natCast, ← h3]
        simp [List.drop_append]
      have hd2 : s.drop (i + [c].length) = b := hd
      have ht : s.take ((i : Int).toNat + 0) = a := by
        rw [h2, Int.toNat_natCast, Nat.add_zero, ← h3, List.take_left]
      have hl : b.length ≤ n := by
        have := congrArg List.length h2
        simp at this
        omega
      rw [hd, hd2, ht, ih b hl, h2, cutC_free c a [] (c :: b) h4, List.nil_append, cutC_hit]
def toB (l : Bs) : ByteArray := ⟨l.toArray⟩
theorem toB_data (s : ByteArray) : toB s.data.toList = s := by unfold toB; simp
theorem data_toB (l : Bs) : (toB l).data.toList = l := by unfold toB; simp
/-- The parts of a text, in the words of the shelf's contract. -/
def splitT (c : UInt8) (s : ByteArray) : List ByteArray := (cutC c [] s.data.toList).map toB
theorem split_text (c : UInt8) (s : ByteArray) : Lib.splitB ⟨#[c]⟩ 0 (Lib.countB s ⟨#[c]⟩) s = splitT c s := by
  have h := Lib.splitB_data ⟨#[c]⟩ 0 (Lib.countB s ⟨#[c]⟩) s
  have h2 : (Lib.splitB ⟨#[c]⟩ 0 (Lib.countB s ⟨#[c]⟩) s).map (·.data.toList) = cutC c [] s.data.toList := h.trans (split_cut c _ s.data.toList (Nat.le_refl _))
  unfold splitT
  rw [← h2, List.map_map]
  have : (toB ∘ fun x : ByteArray => x.data.toList) = id := funext fun x => toB_data x
  rw [this, List.map_id]
theorem cutC_len (c : UInt8) : ∀ (s part : Bs), (cutC c part s).length ≤ s.length + 1
  | [], part => by simp [cutC]
  | x :: r, part => by
    unfold cutC
    split
    · have := cutC_len c r []
      simp only [List.length_cons]; omega
    · have := cutC_len c r (part ++ [x])
      simp only [List.length_cons]; omega
theorem splitT_len (c : UInt8) (s : ByteArray) : (splitT c s).length ≤ s.size + 1 := by
  unfold splitT
  rw [List.length_map, ← length_data]
  exact cutC_len c _ _
theorem splitT_count (c : UInt8) (s : ByteArray) : (splitT c s).length = Lib.countB s ⟨#[c]⟩ + 1 := by
  have key : ∀ (n : Nat) (s : Bs), s.length ≤ n → (cutC c [] s).length = Lib.count s [c] + 1 := by
    intro n
    induction n with
    | zero =>
      intro s hs
      obtain rfl : s = [] := List.eq_nil_of_length_eq_zero (by omega)
      rfl
    | succ n ih =>
      intro s hs
      rcases index_cases c s with ⟨h1, h2⟩ | ⟨i, h1, a, b, h2, h3, h4⟩
      · rw [Lib.count_miss h1]
        have := cutC_free c s [] [] h2
        rw [List.append_nil, List.nil_append] at this
        rw [this]; rfl
      · have hd2 : s.drop (i + [c].length) = b := by
          rw [h2, ← h3]; simp [List.drop_append]
        have hl : b.length ≤ n := by
          have := congrArg List.length h2
          simp at this
          omega
        rw [Lib.count_hit (by simp) h1, hd2, h2, cutC_free c a [] (c :: b) h4, List.nil_append, cutC_hit, List.length_cons, ih b hl]
        omega
  unfold splitT
  rw [List.length_map]
  exact key _ _ (Nat.le_refl _)
end Go.Proofs.YtkpnhiafdfbogaaDoor

