/-
  The plain mathematics of patterns: what the parts of a pattern are, and for which texts they stand. No program in sight.
-/
import Derived.IntWalk
namespace Go.Proofs.Ytdpgbcogoilniaa
open Go
abbrev Part := UInt8 × UInt8
/-- The parts of a pattern, or none. -/
def partsOf : List UInt8 → Option (List Part)
  | [] => some []
  | [c] => if c = 42 ∨ c = 63 then some [(c, 0)] else if c = 92 then none else some [(0, c)]
  | c :: d :: r => if c = 42 ∨ c = 63 then (partsOf (d :: r)).map ((c, 0) :: ·) else if c = 92 then (partsOf r).map ((0, d) :: ·) else (partsOf (d :: r)).map ((0, c) :: ·)
theorem partsOf_star (c : UInt8) (r : List UInt8) (h : c = 42 ∨ c = 63) : partsOf (c :: r) = (partsOf r).map ((c, 0) :: ·) := by
  cases r with
  | nil => simp [partsOf, h]
  | cons d r => simp [partsOf, h]
theorem partsOf_lit (c : UInt8) (r : List UInt8) (h : ¬ (c = 42 ∨ c = 63)) (h2 : c ≠ 92) : partsOf (c :: r) = (partsOf r).map ((0, c) :: ·) := by
  cases r with
  | nil => simp [partsOf, h, h2]
  | cons d r => simp [partsOf, h, h2]
theorem partsOf_esc (d : UInt8) (r : List UInt8) : partsOf (92 :: d :: r) = (partsOf r).map ((0, d) :: ·) := by
  have h : ¬ ((92 : UInt8) = 42 ∨ (92 : UInt8) = 63) := by decide
  simp [partsOf, h]
theorem partsOf_cut : partsOf [92] = none := by decide
/-- Does a part that is no star stand for a byte? -/
def one (p : Part) (c : UInt8) : Bool := p.1 == 63 || (p.1 == 0 && p.2 == c)
/-- Do parts stand for a text? -/
def mat : List Part → List UInt8 → Bool
  | [], s => s.isEmpty
  | p :: l, [] => p.1 == 42 && mat l []
  | p :: l, c :: s => if p.1 == 42 then mat l (c :: s) || mat (p :: l) s else one p c && mat l s
  termination_by l s => (l.length, s.length)
theorem mat_nil (s : List UInt8) : mat [] s = s.isEmpty := by unfold mat; rfl
theorem mat_star_nil (p : Part) (l : List Part) : mat (p :: l) [] = (p.1 == 42 && mat l []) := by rw [mat]
theorem mat_star (p : Part) (l : List Part) (h : p.1 = 42) (s : List UInt8) : mat (p :: l) s = true ↔ ∃ j, j ≤ s.length ∧ mat l (s.drop j) = true := by
  induction s with
  | nil =>
    rw [mat_star_nil, h]
    constructor
    · intro k; exact ⟨0, by simp, by simpa using k⟩
    · rintro ⟨j, _, k⟩; simpa using k
  | cons c s ih =>
    rw [mat, h]
    simp only [beq_self_eq_true, if_true, Bool.or_eq_true]
    rw [ih]
    constructor
    · rintro (k | ⟨j, hj, k⟩)
      · exact ⟨0, by simp, k⟩
      · exact ⟨j + 1, by simp; omega, by simpa using k⟩
    · rintro ⟨j, hj, k⟩
      cases j with
      | zero => exact .inl k
      | succ j => exact .inr ⟨j, by simp at hj; omega, by simpa using k⟩
theorem mat_one (p : Part) (l : List Part) (h : p.1 ≠ 42) (c : UInt8) (s : List UInt8) : mat (p :: l) (c :: s) = (one p c && mat l s) := by
  rw [mat]; simp [h]
theorem mat_one_nil (p : Part) (l : List Part) (h : p.1 ≠ 42) : mat (p :: l) [] = false := by
  rw [mat_star_nil]; simp [h]
/-- Parts that are no stars stand, one by one, for bytes. -/
def ones : List Part → List UInt8 → Bool
  | [], [] => true
  | p :: l, c :: s => p.1 != 42 && one p c && ones l s
  | _, _ => false
theorem mat_ones (x : List Part) : ∀ (l : List Part) (a b : List UInt8), ones x a = true → mat (x ++ l) (a ++ b) = mat l b := by
  induction x with
  | nil =>
    intro l a b h
    cases a with
    | nil => rfl
    | cons c a => simp [ones] at h
  | cons p x ih =>
    intro l a b h
    cases a with
    | nil => simp [ones] at h
    | cons c a =>
      simp only [ones, Bool.and_eq_true, bne_iff_ne, ne_eq] at h
      obtain ⟨⟨h1, h2⟩, h3⟩ := h
      rw [List.cons_append, List.cons_append, mat_one p _ h1, h2, Bool.true_and]
      exact ih l a b h3
/-- If such parts stand at the head of what a text is made of, they take so many bytes. -/
theorem mat_skip (x : List Part) : ∀ (l : List Part) (s : List UInt8), (∀ p ∈ x, p.1 ≠ 42) → mat (x ++ l) s = true → x.length ≤ s.length ∧ mat l (s.drop x.length) = true := by
  induction x with
  | nil => intro l s _ h; exact ⟨by simp, h⟩
  | cons p x ih =>
    intro l s hx h
    cases s with
    | nil => rw [List.cons_append, mat_one_nil p _ (hx p (by simp))] at h; cases h
    | cons c s =>
      rw [List.cons_append, mat_one p _ (hx p (by simp)), Bool.and_eq_true] at h
      obtain ⟨h1, h2⟩ := ih l s (fun q hq => hx q (by simp [hq])) h.2
      exact ⟨by simp; omega, by simpa using h2⟩
theorem ones_no_star (x : List Part) : ∀ (a : List UInt8), ones x a = true → (∀ p ∈ x, p.1 ≠ 42) ∧ x.length = a.length := by
  induction x with
  | nil => intro a h; cases a with | nil => simp | cons c a => simp [ones] at h
  | cons p x ih =>
    intro a h
    cases a with
    | nil => simp [ones] at h
    | cons c a =>
      simp only [ones, Bool.and_eq_true, bne_iff_ne, ne_eq] at h
      obtain ⟨h1, h2⟩ := ih a h.2
      refine ⟨?_, by simp [h2]⟩
      intro q hq
      rcases List.mem_cons.1 hq with rfl | hq
      · exact h.1.1
      · exact h1 q hq
/-- From some place on, do parts stand for what is left, behind any bytes? -/
def Ex (l : List Part) (s : List UInt8) (j : Nat) : Prop := ∃ i, j ≤ i ∧ i ≤ s.length ∧ mat l (s.drop i) = true
theorem Ex_star (p : Part) (l : List Part) (h : p.1 = 42) (s : List UInt8) (k : Nat) (hk : k ≤ s.length) : mat (p :: l) (s.drop k) = true ↔ Ex l s k := by
  rw [mat_star p l h]
  constructor
  · rintro ⟨j, hj, h⟩
    rw [List.length_drop] at hj
    rw [List.drop_drop] at h
    exact ⟨k + j, by omega, by omega, h⟩
  · rintro ⟨i, h1, h2, h3⟩
    exact ⟨i - k, by rw [List.length_drop]; omega, by rw [List.drop_drop, show k + (i - k) = i by omega]; exact h3⟩
/-- The step at a star: it is enough to look from here on. -/
theorem Ex_next (x : List Part) (p : Part) (l : List Part) (h : p.1 = 42) (s : List UInt8) (f : Nat) (hx : ones x ((s.drop f).take x.length) = true) (hf : f + x.length ≤ s.length) :
    Ex (x ++ p :: l) s f ↔ Ex l s (f + x.length) := by
  obtain ⟨hns, _⟩ := ones_no_star x _ hx
  constructor
  · rintro ⟨i, h1, h2, h3⟩
    obtain ⟨h4, h5⟩ := mat_skip x _ _ hns h3
    rw [List.length_drop] at h4
    rw [List.drop_drop, Ex_star p l h s (i + x.length) (by omega)] at h5
    obtain ⟨j, a, b, c⟩ := h5
    exact ⟨j, by omega, b, c⟩
  · rintro ⟨j, a, b, c⟩
    refine ⟨f, Nat.le_refl _, by omega, ?_⟩
    have e : s.drop f = (s.drop f).take x.length ++ (s.drop f).drop x.length := (List.take_append_drop _ _).symm
    rw [e, mat_ones x _ _ _ hx, List.drop_drop, Ex_star p l h s (f + x.length) hf]
    exact ⟨j, a, b, c⟩
/-- The step where what follows does not fit: one byte more. -/
theorem Ex_more (l : List Part) (s : List UInt8) (f : Nat) (h : mat l (s.drop f) = false) : Ex l s f ↔ Ex l s (f + 1) := by
  constructor
  · rintro ⟨i, h1, h2, h3⟩
    by_cases e : i = f
    · subst e; rw [h] at h3; cases h3
    · exact ⟨i, by omega, h2, h3⟩
  · rintro ⟨i, h1, h2, h3⟩; exact ⟨i, by omega, h2, h3⟩
end Go.Proofs.Ytdpgbcogoilniaa
