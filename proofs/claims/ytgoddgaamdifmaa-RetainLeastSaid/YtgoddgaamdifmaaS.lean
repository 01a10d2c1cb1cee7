/-
  How many stay, and that the least one does, plain.
-/
import Derived.Test.YtgoddgaamdifmaaQ
set_option linter.unusedVariables false
set_option linter.unusedSimpArgs false
namespace Go.Proofs.Ytgoddgaamdifmaa
open Go.RowKit
theorem stayB_mono {l : List Int} {D : Nat} {keep : Int} {i : Nat} (h : stayB l D keep i = true) : stayB l D (keep + 1) i = true := by
  unfold stayB at h ⊢
  rw [Bool.and_eq_true, decide_eq_true_iff] at h ⊢
  exact ⟨h.1, by omega⟩
theorem stay3_mono {l : List Int} {k0 k1 k2 : Int} {i : Nat} (h : stay3 l k0 k1 k2 3 i = true) : stay3 l (k0 + 1) (k1 + 1) (k2 + 1) 3 i = true := by
  show (stayB l 1 (k0 + 1) i || stayB l 7 (k1 + 1) i || stayB l 30 (k2 + 1) i) = true
  have h2 : (stayB l 1 k0 i || stayB l 7 k1 i || stayB l 30 k2 i) = true := h
  rw [Bool.or_eq_true, Bool.or_eq_true] at h2 ⊢
  rcases h2 with (h | h) | h
  · exact Or.inl (Or.inl (stayB_mono h))
  · exact Or.inl (Or.inr (stayB_mono h))
  · exact Or.inr (stayB_mono h)
theorem rank_lt {l : List Int} {D p q n : Nat} (h : p < q) (hp : ∃ i < n, pt l D i = p) : (lessK l D p n).length < (lessK l D q n).length := by
  have h1 : (p :: lessK l D p n).Nodup := List.nodup_cons.2 ⟨fun hm => by have := ((lessK_mem l D p n p).1 hm).1; omega, lessK_nodup l D p n⟩
  have := nodup_sub h1 (m := lessK l D q n) (fun x hx => by
    rcases List.mem_cons.1 hx with rfl | hx
    · exact (lessK_mem _ _ _ _ _).2 ⟨h, hp⟩
    · obtain ⟨a, b⟩ := (lessK_mem _ _ _ _ _).1 hx
      exact (lessK_mem _ _ _ _ _).2 ⟨by omega, b⟩)
  simp only [List.length_cons] at this
  omega
def stays (l : List Int) (D : Nat) (keep : Int) : List Nat := (List.range l.length).filter (stayB l D keep)
theorem stays_len (l : List Int) (D : Nat) (keep : Nat) : (stays l D (keep : Int)).length ≤ keep := by
  have hmem : ∀ i ∈ stays l D (keep : Int), yg l D l.length (pt l D i) = some i ∧ (lessK l D (pt l D i) l.length).length < keep ∧ i < l.length := fun i hi => by
    obtain ⟨h1, h2⟩ := List.mem_filter.1 hi
    unfold stayB at h2
    rw [Bool.and_eq_true, beq_iff_eq, decide_eq_true_iff] at h2
    exact ⟨h2.1, by omega, List.mem_range.1 h1⟩
  have hnd : ((stays l D (keep : Int)).map fun i => (lessK l D (pt l D i) l.length).length).Nodup := by
    unfold List.Nodup
    rw [List.pairwise_map]
    have hn : (stays l D (keep : Int)).Nodup := List.nodup_range.sublist List.filter_sublist
    refine List.Pairwise.imp_of_mem (fun {a b} ha hb hne e => ?_) hn
    obtain ⟨a1, a2, a3⟩ := hmem a ha
    obtain ⟨b1, b2, b3⟩ := hmem b hb
    have hp : pt l D a ≠ pt l D b := fun e2 => by
      rw [e2, b1] at a1
      exact hne (by simpa using a1.symm)
    rcases Nat.lt_or_gt_of_ne hp with h | h
    · have := rank_lt (n := l.length) h ⟨a, a3, rfl⟩
      omega
    · have := rank_lt (n := l.length) h ⟨b, b3, rfl⟩
      omega
  have := nodup_sub hnd (m := List.range keep) (fun x hx => by
    obtain ⟨i, hi, rfl⟩ := List.mem_map.1 hx
    exact List.mem_range.2 (hmem i hi).2.1)
  simpa using this
def cntB (p : Nat → Bool) (k : Nat) : Nat := ((List.range k).filter p).length
theorem cntB_next (p : Nat → Bool) (k : Nat) : cntB p (k + 1) = cntB p k + (if p k = true then 1 else 0) := by
  unfold cntB
  rw [List.range_succ, List.filter_append, List.length_append]
  by_cases h : p k = true
  · rw [List.filter_cons, if_pos h, if_pos h]; rfl
  · rw [List.filter_cons, if_neg h, if_neg h]; rfl
theorem cntB_le (p : Nat → Bool) (k : Nat) : cntB p k ≤ k := by
  unfold cntB
  have := List.length_filter_le p (List.range k)
  rwa [List.length_range] at this
theorem filter_or_len (p q : Nat → Bool) : ∀ l : List Nat, (l.filter fun i => p i || q i).length ≤ (l.filter p).length + (l.filter q).length
  | [] => by simp
  | x :: l => by
    have ih := filter_or_len p q l
    simp only [List.filter_cons]
    cases p x <;> cases q x <;> simp <;> omega
theorem stay3_cnt (l : List Int) (k0 k1 k2 : Nat) : cntB (stay3 l k0 k1 k2 3) l.length ≤ k0 + k1 + k2 := by
  have e : stay3 l k0 k1 k2 3 = fun i => (stayB l 1 k0 i || stayB l 7 k1 i) || stayB l 30 k2 i := rfl
  unfold cntB
  rw [e]
  have h1 := filter_or_len (fun i => stayB l 1 k0 i || stayB l 7 k1 i) (stayB l 30 k2) (List.range l.length)
  have h2 := filter_or_len (stayB l 1 k0) (stayB l 7 k1) (List.range l.length)
  have a := stays_len l 1 k0
  have b := stays_len l 7 k1
  have c := stays_len l 30 k2
  unfold stays at a b c
  omega
/-- The first place of the least age: all ages in one part. -/
theorem least_stays {l : List Int} {j : Nat} (h : yg l 0 l.length 0 = some j) (D : Nat) (keep : Int) : stayB l D keep j = decide (0 < keep) := by
  obtain ⟨h1, _, h3⟩ := yg_some h
  have h4 : ∀ i < l.length, ag l j < ag l i ∨ ag l j = ag l i ∧ j ≤ i := fun i hi => h3 i hi (Nat.div_zero _)
  have hy : yg l D l.length (pt l D j) = some j := yg_iff.2 ⟨h1, rfl, fun i hi _ => h4 i hi⟩
  have hl : lessK l D (pt l D j) l.length = [] := by
    rw [List.eq_nil_iff_forall_not_mem]
    intro x hx
    obtain ⟨a, i, b, c⟩ := (lessK_mem _ _ _ _ _).1 hx
    have : pt l D j ≤ pt l D i := Nat.div_le_div_right (by have := h4 i b; omega)
    omega
  unfold stayB
  rw [hy, hl]
  simp
theorem least_stay3 {l : List Int} {j : Nat} (h : yg l 0 l.length 0 = some j) (k0 k1 k2 : Nat) : stay3 l k0 k1 k2 3 j = decide ((0 : Int) < (k0 : Int) + k1 + k2) := by
  show (stayB l 1 k0 j || stayB l 7 k1 j || stayB l 30 k2 j) = _
  rw [least_stays h, least_stays h, least_stays h, Bool.eq_iff_iff, Bool.or_eq_true, Bool.or_eq_true, decide_eq_true_iff, decide_eq_true_iff, decide_eq_true_iff, decide_eq_true_iff]
  omega
theorem yg0_next (l : List Int) (k : Nat) : yg l 0 (k + 1) 0 = (match yg l 0 k 0 with
    | none => some k
    | some j => if ag l k < ag l j then some k else some j) := by
  show (if pt l 0 k = 0 then _ else _) = _
  rw [if_pos (show pt l 0 k = 0 from Nat.div_zero _)]
  cases yg l 0 k 0 <;> rfl
def lstV : Option Nat → Int
  | none => -1
  | some j => (j : Int)
theorem yg0_none {l : List Int} {k : Nat} (h : yg l 0 k 0 = none) : k = 0 := by
  cases k with
  | zero => rfl
  | succ k => exact absurd (Nat.div_zero _) (yg_none h k (by omega))
end Go.Proofs.Ytgoddgaamdifmaa

