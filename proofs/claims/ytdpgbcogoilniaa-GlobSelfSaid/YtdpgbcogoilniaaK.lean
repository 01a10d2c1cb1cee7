/-
  The plain mathematics of the search for a pattern in a text: what holds at the head of each round. No program in sight.
-/
import Derived.Test.YtdpgbcogoilniaaM
namespace Go.Proofs.Ytdpgbcogoilniaa
open Go
def Inv (l : List Part) (s : List UInt8) (i k : Nat) (b f : Int) : Prop :=
  i ≤ l.length ∧ k ≤ s.length ∧
  ((b = -1 ∧ f = 0 ∧ mat l s = mat (l.drop i) (s.drop k)) ∨
   (∃ β φ : Nat, b = β ∧ f = φ ∧ β < i ∧ φ ≤ k ∧ i = β + 1 + (k - φ) ∧ ones ((l.drop (β + 1)).take (k - φ)) ((s.drop φ).take (k - φ)) = true ∧ (mat l s = true ↔ Ex (l.drop (β + 1)) s φ)))
theorem Inv.start (l : List Part) (s : List UInt8) : Inv l s 0 0 (-1) 0 := ⟨by simp, by simp, .inl ⟨rfl, rfl, rfl⟩⟩
theorem drop_split (l : List Part) (β n : Nat) (_h : β + 1 + n ≤ l.length) : l.drop (β + 1) = (l.drop (β + 1)).take n ++ l.drop (β + 1 + n) := by
  conv => lhs; rw [← List.take_append_drop n (l.drop (β + 1))]
  rw [List.drop_drop]
theorem Inv.star {l : List Part} {s : List UInt8} {i k : Nat} {b f : Int} (h : Inv l s i k b f) (hi : i < l.length) (hs : l[i].1 = 42) : Inv l s (i + 1) k i k := by
  obtain ⟨_, hk, h⟩ := h
  refine ⟨by omega, hk, .inr ⟨i, k, rfl, rfl, by omega, Nat.le_refl _, by omega, by simp [ones], ?_⟩⟩
  have hd : l.drop i = l[i] :: l.drop (i + 1) := List.drop_eq_getElem_cons hi
  rcases h with ⟨_, _, h⟩ | ⟨β, φ, _, _, hb, hf, hik, ho, h⟩
  · rw [h, hd]; exact Ex_star _ _ hs s k hk
  · rw [h]
    have e := drop_split l β (k - φ) (by omega)
    rw [← hik, hd] at e
    have hlen : ((l.drop (β + 1)).take (k - φ)).length = k - φ := by rw [List.length_take, List.length_drop]; omega
    have := Ex_next ((l.drop (β + 1)).take (k - φ)) l[i] (l.drop (i + 1)) hs s φ (by rw [hlen]; exact ho) (by rw [hlen]; omega)
    rw [← e, hlen, show φ + (k - φ) = k by omega] at this
    exact this
theorem ones_snoc (x : List Part) : ∀ (a : List UInt8) (p : Part) (c : UInt8), ones x a = true → p.1 ≠ 42 → one p c = true → ones (x ++ [p]) (a ++ [c]) = true := by
  induction x with
  | nil => intro a p c h h1 h2; cases a with | nil => simp [ones, h1, h2] | cons d a => simp [ones] at h
  | cons q x ih =>
    intro a p c h h1 h2
    cases a with
    | nil => simp [ones] at h
    | cons d a =>
      simp only [ones, Bool.and_eq_true] at h
      simp only [List.cons_append, ones, Bool.and_eq_true]
      exact ⟨h.1, ih a p c h.2 h1 h2⟩
theorem Inv.one {l : List Part} {s : List UInt8} {i k : Nat} {b f : Int} (h : Inv l s i k b f) (hi : i < l.length) (hk : k < s.length) (hn : l[i].1 ≠ 42) (ho : one l[i] s[k] = true) : Inv l s (i + 1) (k + 1) b f := by
  obtain ⟨_, _, h⟩ := h
  refine ⟨by omega, by omega, ?_⟩
  have hd : l.drop i = l[i] :: l.drop (i + 1) := List.drop_eq_getElem_cons hi
  have hd2 : s.drop k = s[k] :: s.drop (k + 1) := List.drop_eq_getElem_cons hk
  rcases h with ⟨h1, h2, h⟩ | ⟨β, φ, h1, h2, hb, hf, hik, hon, h⟩
  · left; exact ⟨h1, h2, by rw [h, hd, hd2, mat_one _ _ hn, ho, Bool.true_and]⟩
  · right
    refine ⟨β, φ, h1, h2, by omega, by omega, by omega, ?_, h⟩
    have e1 : k + 1 - φ = k - φ + 1 := by omega
    rw [e1, List.take_succ_eq_append_getElem (by rw [List.length_drop]; omega), List.take_succ_eq_append_getElem (by rw [List.length_drop]; omega)]
    have g1 : (l.drop (β + 1))[k - φ]'(by rw [List.length_drop]; omega) = l[i] := by rw [List.getElem_drop]; congr 1; omega
    have g2 : (s.drop φ)[k - φ]'(by rw [List.length_drop]; omega) = s[k] := by rw [List.getElem_drop]; congr 1; omega
    rw [g1, g2]
    exact ones_snoc _ _ _ _ hon hn ho
theorem mat_bad {l : List Part} {s : List UInt8} {i k : Nat} (hk : k < s.length) (hi : i ≤ l.length) (hbad : ∀ h : i < l.length, l[i].1 ≠ 42 ∧ Go.Proofs.Ytdpgbcogoilniaa.one l[i] s[k] = false) : mat (l.drop i) (s.drop k) = false := by
  have hd2 : s.drop k = s[k] :: s.drop (k + 1) := List.drop_eq_getElem_cons hk
  rw [hd2]
  by_cases h : i < l.length
  · rw [List.drop_eq_getElem_cons h, mat_one _ _ (hbad h).1, (hbad h).2]; rfl
  · rw [List.drop_eq_nil_of_le (by omega), mat_nil]; rfl
theorem Inv.fail {l : List Part} {s : List UInt8} {i k : Nat} {b f : Int} (h : Inv l s i k b f) (hb : b < 0) (hk : k < s.length) (hbad : ∀ h : i < l.length, l[i].1 ≠ 42 ∧ Go.Proofs.Ytdpgbcogoilniaa.one l[i] s[k] = false) : mat l s = false := by
  obtain ⟨hi, _, ⟨_, _, h⟩ | ⟨β, φ, h1, _⟩⟩ := h
  · rw [h]; exact mat_bad hk hi hbad
  · omega
theorem Inv.more {l : List Part} {s : List UInt8} {i k : Nat} {b f : Int} (h : Inv l s i k b f) (hb : ¬ b < 0) (hk : k < s.length) (hbad : ∀ h : i < l.length, l[i].1 ≠ 42 ∧ Go.Proofs.Ytdpgbcogoilniaa.one l[i] s[k] = false) :
    ∃ β φ : Nat, b = β ∧ f = φ ∧ β < l.length ∧ φ ≤ k ∧ Inv l s (β + 1) (φ + 1) β ((φ + 1 : Nat) : Int) := by
  obtain ⟨hi, _, ⟨h1, _⟩ | ⟨β, φ, h1, h2, hbi, hf, hik, hon, h⟩⟩ := h
  · omega
  · refine ⟨β, φ, h1, h2, by omega, hf, by omega, by omega, .inr ⟨β, φ + 1, rfl, rfl, by omega, Nat.le_refl _, by omega, by simp [ones], ?_⟩⟩
    rw [h]
    apply Ex_more
    have e := drop_split l β (k - φ) (by omega)
    rw [← hik] at e
    have e2 : s.drop φ = (s.drop φ).take (k - φ) ++ s.drop k := by
      conv => lhs; rw [← List.take_append_drop (k - φ) (s.drop φ)]
      rw [List.drop_drop, show φ + (k - φ) = k by omega]
    rw [e, e2, mat_ones _ _ _ _ hon]
    exact mat_bad hk hi hbad
theorem Inv.fin {l : List Part} {s : List UInt8} {i : Nat} {b f : Int} (h : Inv l s i s.length b f) : mat l s = mat (l.drop i) [] := by
  obtain ⟨hi, _, ⟨_, _, h⟩ | ⟨β, φ, h1, h2, hbi, hf, hik, hon, h⟩⟩ := h
  · rw [h, List.drop_length]
  · have e := drop_split l β (s.length - φ) (by omega)
    rw [← hik] at e
    have key : Ex (l.drop (β + 1)) s φ ↔ mat (l.drop i) [] = true := by
      constructor
      · rintro ⟨j, h3, h4, h5⟩
        rw [e] at h5
        obtain ⟨hns, _⟩ := ones_no_star _ _ hon
        obtain ⟨h6, h7⟩ := mat_skip _ _ _ hns h5
        rw [List.length_take, List.length_drop, List.length_drop] at h6
        rw [List.length_take, List.length_drop, List.drop_drop] at h7
        have e3 : s.drop (j + min (s.length - φ) (l.length - (β + 1))) = [] := List.drop_eq_nil_of_le (by omega)
        rw [e3] at h7
        exact h7
      · intro h5
        refine ⟨φ, Nat.le_refl _, hf, ?_⟩
        have e2 : s.drop φ = (s.drop φ).take (s.length - φ) ++ [] := by rw [List.append_nil, List.take_of_length_le (by rw [List.length_drop]; omega)]
        rw [e, e2, mat_ones _ _ _ _ hon]
        exact h5
    cases h3 : mat l s with
    | true => exact (key.1 (h.1 h3)).symm
    | false =>
      cases h4 : mat (l.drop i) [] with
      | false => rfl
      | true => rw [h.2 (key.2 h4)] at h3; cases h3
/-- Stars at the end stand for nothing, and only they do. -/
theorem mat_end_star {l : List Part} {i : Nat} (h : i < l.length) (hs : l[i].1 = 42) : mat (l.drop i) [] = mat (l.drop (i + 1)) [] := by
  rw [List.drop_eq_getElem_cons h, mat_star_nil, hs]; simp
theorem mat_end_other {l : List Part} {i : Nat} (h : i < l.length) (hs : l[i].1 ≠ 42) : mat (l.drop i) [] = false := by
  rw [List.drop_eq_getElem_cons h, mat_one_nil _ _ hs]
theorem mat_end_nil {l : List Part} : mat (l.drop l.length) [] = true := by rw [List.drop_length, mat_nil]; rfl
/-- A number that each round lowers. -/
def meas (n S i k b f : Nat) : Nat := (n - b) * ((S + 2) * (S + 2)) + (S + 1 - f) * (S + 2) + (S + 1 - k) + i * 0
theorem meas_one {n S i k b f : Nat} (hk : k < S) : meas n S (i + 1) (k + 1) b f < meas n S i k b f := by unfold meas; omega
theorem meas_star {n S i k b f k2 : Nat} (hb : b < i + 1) (hi : i < n) : meas n S (i + 1) k (i + 1) k2 < meas n S i k b f := by
  unfold meas
  have h1 : (S + 1 - k2) * (S + 2) ≤ (S + 1) * (S + 2) := Nat.mul_le_mul_right _ (by omega)
  have h2 : (n - (i + 1) + 1) * ((S + 2) * (S + 2)) ≤ (n - b) * ((S + 2) * (S + 2)) := Nat.mul_le_mul_right _ (by omega)
  rw [Nat.add_mul, Nat.one_mul] at h2
  have h3 : (S + 2) * (S + 2) = (S + 1) * (S + 2) + (S + 2) := by rw [show S + 2 = (S + 1) + 1 by omega, Nat.add_mul, Nat.one_mul]
  omega
theorem meas_more {n S i k b f i2 : Nat} (hf : f ≤ S) : meas n S i2 (f + 1) b (f + 1) < meas n S i k b f := by
  unfold meas
  have h2 : (S + 1 - (f + 1) + 1) * (S + 2) ≤ (S + 1 - f) * (S + 2) := Nat.mul_le_mul_right _ (by omega)
  rw [Nat.add_mul, Nat.one_mul] at h2
  omega
end Go.Proofs.Ytdpgbcogoilniaa
