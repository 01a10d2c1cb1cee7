/-
  In which order names come, plain.
-/
import Derived.Test.YtddonekagmnokaaD
set_option linter.unusedVariables false
set_option linter.unusedSimpArgs false
namespace Go.Proofs.Ytddonekagmnokaa
open Go.RowKit
def inD (d : List Nat) (x : Int) : Bool := decide (x ∈ d.map Int.ofNat)
theorem inD_iff (d : List Nat) (x : Int) : inD d x = true ↔ ∃ i ∈ d, (i : Int) = x := by
  unfold inD; rw [decide_eq_true_iff, List.mem_map]; rfl
theorem inD_nat (d : List Nat) (i : Nat) : inD d (i : Int) = true ↔ i ∈ d := by
  rw [inD_iff]
  constructor
  · rintro ⟨j, hj, e⟩
    have : j = i := by omega
    exact this ▸ hj
  · intro h; exact ⟨i, h, rfl⟩
theorem inD_snoc (d : List Nat) (i : Nat) (x : Int) : inD (d ++ [i]) x = true ↔ inD d x = true ∨ x = (i : Int) := by
  rw [inD_iff, inD_iff]
  constructor
  · rintro ⟨j, hj, e⟩
    rcases List.mem_append.1 hj with h | h
    · exact Or.inl ⟨j, h, e⟩
    · rw [List.mem_singleton.1 h] at e; exact Or.inr e.symm
  · rintro (⟨j, hj, e⟩ | e)
    · exact ⟨j, by simp [hj], e⟩
    · exact ⟨i, by simp, e.symm⟩
/-- May a place come next? -/
def isFree (E : List (Int × Int)) (d : List Nat) (i : Nat) : Bool := !inD d i && E.all fun p => !decide (p.1 = (i : Int)) || inD d p.2
theorem isFree_iff (E : List (Int × Int)) (d : List Nat) (i : Nat) : isFree E d i = true ↔ i ∉ d ∧ ∀ x, ((i : Int), x) ∈ E → inD d x = true := by
  unfold isFree
  rw [Bool.and_eq_true, Bool.not_eq_true', List.all_eq_true]
  constructor
  · rintro ⟨h1, h2⟩
    refine ⟨fun h => (by rw [(inD_nat d i).2 h] at h1; cases h1), fun x hx => ?_⟩
    have := h2 _ hx
    simpa using this
  · rintro ⟨h1, h2⟩
    refine ⟨?_, fun p hp => ?_⟩
    · rw [Bool.eq_false_iff]; exact fun h => h1 ((inD_nat d i).1 h)
    · by_cases e : p.1 = (i : Int)
      · have := h2 p.2 (by rw [← e]; exact hp)
        simp [this]
      · simp [e]
def ordF (E : List (Int × Int)) (n : Nat) : Nat → List Nat → List Nat
  | 0, d => d
  | f + 1, d => match (List.range n).find? (isFree E d) with
    | none => d
    | some i => ordF E n f (d ++ [i])
def ordL (E : List (Int × Int)) (n : Nat) : List Nat := ordF E n n []
/-- What is known of the places that came. -/
def Came2 (n : Nat) (d : List Nat) : Prop := d.Nodup ∧ ∀ i ∈ d, i < n
theorem Came2.len {n : Nat} {d : List Nat} (h : Came2 n d) : d.length ≤ n := by
  have := nodup_sub h.1 (m := List.range n) (fun i hi => List.mem_range.2 (h.2 i hi))
  simpa using this
theorem Came2.snoc {n : Nat} {d : List Nat} (h : Came2 n d) {i : Nat} (hi : i < n) (hn : i ∉ d) : Came2 n (d ++ [i]) := by
  refine ⟨?_, fun j hj => ?_⟩
  · rw [List.nodup_append]
    refine ⟨h.1, by simp, fun a ha b hb e => ?_⟩
    rw [List.mem_singleton] at hb
    subst hb e; exact hn ha
  · rcases List.mem_append.1 hj with h1 | h1
    · exact h.2 j h1
    · rw [List.mem_singleton.1 h1]; exact hi
/-- d is what has come of what will come. -/
def Run (E : List (Int × Int)) (n : Nat) (d : List Nat) : Prop := Came2 n d ∧ ordF E n (n - d.length) d = ordL E n
theorem Run.start (E : List (Int × Int)) (n : Nat) : Run E n [] := ⟨⟨List.nodup_nil, fun i h => by cases h⟩, rfl⟩
theorem find_first {n i : Nat} {p : Nat → Bool} (hi : i < n) (hp : p i = true) (hn : ∀ j < i, p j = false) : (List.range n).find? p = some i := by
  rw [List.find?_range_eq_some]
  exact ⟨hp, by simpa using hi, fun j hj => by simp [hn j hj]⟩
theorem Run.step {E : List (Int × Int)} {n : Nat} {d : List Nat} (h : Run E n d) {i : Nat} (hi : i < n) (hp : isFree E d i = true) (hn : ∀ j < i, isFree E d j = false) : Run E n (d ++ [i]) := by
  have hni := ((isFree_iff E d i).1 hp).1
  have hc := h.1.snoc hi hni
  have hl := hc.len
  rw [List.length_append] at hl
  simp only [List.length_cons, List.length_nil] at hl
  refine ⟨hc, ?_⟩
  rw [← h.2, show n - d.length = (n - (d ++ [i]).length) + 1 by rw [List.length_append]; simp only [List.length_cons, List.length_nil]; omega, ordF, find_first hi hp hn]
theorem Run.stop {E : List (Int × Int)} {n : Nat} {d : List Nat} (h : Run E n d) (hn : ∀ j < n, isFree E d j = false) : ordL E n = d := by
  have hf : (List.range n).find? (isFree E d) = none := by
    rw [List.find?_eq_none]
    intro x hx
    rw [hn x (List.mem_range.1 hx)]; simp
  rw [← h.2]
  cases n - d.length with
  | zero => rfl
  | succ f => rw [ordF, hf]
theorem Run.full {E : List (Int × Int)} {n : Nat} {d : List Nat} (h : Run E n d) (hl : d.length = n) : ordL E n = d := by
  rw [← h.2, hl, Nat.sub_self]; rfl
/-- What is left: as many as have not come. -/
theorem left_len {n : Nat} {d : List Nat} {l : List Int} (hc : Came2 n d) (hn : l.Nodup) (h : ∀ x, x ∈ l ↔ (∃ i : Nat, i < n ∧ i ∉ d ∧ (i : Int) = x)) : l.length + d.length = n := by
  have h1 : (l ++ d.map Int.ofNat).Nodup := by
    rw [List.nodup_append]
    refine ⟨hn, ?_, fun a ha b hb e => ?_⟩
    · unfold List.Nodup; rw [List.pairwise_map]
      exact hc.1.imp (fun hne e => hne (Int.ofNat.inj e))
    · obtain ⟨i, _, hi, e1⟩ := (h a).1 ha
      obtain ⟨j, hj, rfl⟩ := List.mem_map.1 hb
      have : i = j := by
        have : (i : Int) = Int.ofNat j := by rw [e1, e]
        exact Int.ofNat.inj this
      exact hi (this ▸ hj)
  have h2 : ((List.range n).map Int.ofNat).Nodup := by
    unfold List.Nodup; rw [List.pairwise_map]
    exact (List.nodup_range (n := n)).imp (fun hne e => hne (Int.ofNat.inj e))
  have h3 : ∀ x, x ∈ l ++ d.map Int.ofNat ↔ x ∈ (List.range n).map Int.ofNat := by
    intro x
    rw [List.mem_append, h x, List.mem_map, List.mem_map]
    constructor
    · rintro (⟨i, h1, _, rfl⟩ | ⟨i, h1, rfl⟩)
      · exact ⟨i, List.mem_range.2 h1, rfl⟩
      · exact ⟨i, List.mem_range.2 (hc.2 i h1), rfl⟩
    · rintro ⟨i, h1, rfl⟩
      by_cases e : i ∈ d
      · exact Or.inr ⟨i, e, rfl⟩
      · exact Or.inl ⟨i, List.mem_range.1 h1, e, rfl⟩
  have h4 := nodup_sub h1 (fun x hx => (h3 x).1 hx)
  have h5 := nodup_sub h2 (fun x hx => (h3 x).2 hx)
  rw [List.length_append, List.length_map, List.length_map, List.length_range] at h4 h5
  omega
/-- The names that came. -/
def outD (l : List ByteArray) (d : List Nat) : List ByteArray := d.map fun i => l.getD i ByteArray.empty
theorem outD_snoc (l : List ByteArray) (d : List Nat) (i : Nat) (h : i < l.length) : outD l (d ++ [i]) = outD l d ++ [l[i]] := by
  unfold outD
  rw [List.map_append]
  simp [h]
theorem outD_len (l : List ByteArray) (d : List Nat) : (outD l d).length = d.length := by unfold outD; simp
end Go.Proofs.Ytddonekagmnokaa

