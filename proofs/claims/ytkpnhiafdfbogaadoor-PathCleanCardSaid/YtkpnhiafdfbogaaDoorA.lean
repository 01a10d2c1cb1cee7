/-
  The plain law of ways: the parts of any way, and that what is clean is itself when it is made clean.
-/
import Derived.Test.YtkpnhiafdfbogaaDoorBase2
import Derived.Lib.Join
import Derived.Test.YtkpnhiafdfbogaaDoorSplit
set_option linter.unusedVariables false
set_option linter.unusedSimpArgs false
namespace Go.Proofs.YtkpnhiafdfbogaaDoor
open Go.RowKit
def cutP (part l : Bs) : List Bs := cutC 47 part l
theorem cutP_nil (part : Bs) : cutP part [] = [part] := rfl
theorem cutP_slash (part r : Bs) : cutP part (47 :: r) = part :: cutP [] r := cutC_hit 47 part r
theorem cutP_other (part r : Bs) {c : UInt8} (h : ¬ c = 47) : cutP part (c :: r) = cutP (part ++ [c]) r := cutC_other part r h
theorem cutP_free (x part r : Bs) (h : ∀ c ∈ x, ¬ c = 47) : cutP part (x ++ r) = cutP (part ++ x) r := cutC_free 47 x part r h
def stepP (out : List Bs) (part : Bs) : List Bs := if part = [46, 46] then out.dropLast else if part = [46] ∨ part = [] then out else out ++ [part]
theorem stepP_up (out : List Bs) : stepP out [46, 46] = out.dropLast := by rw [stepP, if_pos rfl]
theorem stepP_dot (out : List Bs) {part : Bs} (h : part = [46] ∨ part = []) : stepP out part = out := by
  rw [stepP, if_neg, if_pos h]
  rintro rfl
  rcases h with h | h <;> simp at h
theorem stepP_new (out : List Bs) {part : Bs} (h1 : ¬ part = [46, 46]) (h2 : ¬ part = [46]) (h3 : ¬ part = []) : stepP out part = out ++ [part] := by
  rw [stepP, if_neg h1, if_neg]
  rintro (h | h)
  · exact h2 h
  · exact h3 h
def partsP (l : Bs) : List Bs := (cutP [] l).foldl stepP []
/-- A part that counts. -/
def good (p : Bs) : Prop := (∀ c ∈ p, ¬ c = 47) ∧ ¬ p = [46, 46] ∧ ¬ p = [46] ∧ ¬ p = []
theorem cutP_good : ∀ (l part : Bs), (∀ c ∈ part, ¬ c = 47) → ∀ p ∈ cutP part l, ∀ c ∈ p, ¬ c = 47
  | [], part, h => by rw [cutP_nil]; simpa using h
  | c :: r, part, h => by
    by_cases hc : c = 47
    · subst hc
      rw [cutP_slash]
      intro p hp
      rcases List.mem_cons.1 hp with rfl | hp
      · exact h
      · exact cutP_good r [] (by simp) p hp
    · rw [cutP_other _ _ hc]
      exact cutP_good r _ (by
        intro d hd
        rcases List.mem_append.1 hd with hd | hd
        · exact h d hd
        · rw [List.mem_singleton.1 hd]; exact hc)
theorem fold_good : ∀ (l out : List Bs), (∀ p ∈ out, good p) → (∀ p ∈ l, ∀ c ∈ p, ¬ c = 47) → ∀ p ∈ l.foldl stepP out, good p
  | [], out, h, _ => h
  | x :: l, out, h, hl => by
    rw [List.foldl_cons]
    refine fold_good l _ ?_ (fun p hp => hl p (by simp [hp]))
    by_cases h1 : x = [46, 46]
    · subst h1; rw [stepP_up]
      exact fun p hp => h p (List.dropLast_subset _ hp)
    · by_cases h2 : x = [46] ∨ x = []
      · rw [stepP_dot _ h2]; exact h
      · have h3 : ¬ x = [46] := fun e => h2 (.inl e)
        have h4 : ¬ x = [] := fun e => h2 (.inr e)
        rw [stepP_new _ h1 h3 h4]
        intro p hp
        rcases List.mem_append.1 hp with hp | hp
        · exact h p hp
        · rw [List.mem_singleton.1 hp]; exact ⟨hl x (by simp), h1, h3, h4⟩
theorem parts_good (l : Bs) : ∀ p ∈ partsP l, good p := fold_good _ _ (by simp) (cutP_good l [] (by simp))
theorem fold_same : ∀ (l out : List Bs), (∀ p ∈ l, good p) → l.foldl stepP out = out ++ l
  | [], out, _ => by simp
  | x :: l, out, h => by
    have hx := h x (by simp)
    rw [List.foldl_cons, stepP_new _ hx.2.1 hx.2.2.1 hx.2.2.2, fold_same l _ (fun p hp => h p (by simp [hp]))]
    simp
/-- The parts with a slash ahead of each; one slash alone for none. -/
def tailP : List Bs → Bs
  | [] => []
  | x :: l => 47 :: x ++ tailP l
def cleanP (l : Bs) : Bs := if partsP l = [] then [47] else tailP (partsP l)
theorem cut_tail : ∀ (l : List Bs) (part : Bs), (∀ p ∈ l, good p) → cutP part (tailP l) = part :: l
  | [], part, _ => rfl
  | x :: l, part, h => by
    have hx := h x (by simp)
    rw [tailP, List.cons_append, cutP_slash, cutP_free x [] _ hx.1, List.nil_append, cut_tail l x (fun p hp => h p (by simp [hp]))]
theorem parts_clean (l : Bs) : partsP (cleanP l) = partsP l := by
  unfold cleanP
  split
  · next h =>
    rw [h]; rfl
  · have hg := parts_good l
    obtain ⟨q, hq⟩ : ∃ q, q = partsP l := ⟨_, rfl⟩
    rw [← hq] at hg ⊢
    unfold partsP
    rw [cut_tail q [] hg, List.foldl_cons, stepP_dot _ (.inr rfl), fold_same q [] hg]
    rfl
theorem clean_clean (l : Bs) : cleanP (cleanP l) = cleanP l := by
  have h : ∀ x, cleanP x = if partsP x = [] then [47] else tailP (partsP x) := fun x => rfl
  rw [h (cleanP l), parts_clean, ← h l]
/-- No two slashes, and none at the end. -/
def tidy : Bs → Prop
  | [] => True
  | [c] => ¬ c = 47
  | c :: d :: r => (c = 47 → ¬ d = 47) ∧ tidy (d :: r)
theorem tidy_free : ∀ (x r : Bs), (∀ c ∈ x, ¬ c = 47) → ¬ x = [] → (r = [] ∨ tidy r) → tidy (x ++ r)
  | [c], r, h, _, hr => by
    have hc := h c (by simp)
    rcases r with _ | ⟨d, r⟩
    · exact hc
    · rcases hr with hr | hr
      · simp at hr
      · exact ⟨fun e => absurd e hc, hr⟩
  | c :: d :: x, r, h, _, hr => ⟨fun e => absurd e (h c (by simp)), tidy_free (d :: x) r (fun e he => h e (by simp at he ⊢; right; exact he)) (by simp) hr⟩
theorem tidy_tail : ∀ (l : List Bs), (∀ p ∈ l, good p) → tidy (tailP l)
  | [], _ => trivial
  | x :: l, h => by
    have hx := h x (by simp)
    have ih := tidy_tail l (fun p hp => h p (by simp [hp]))
    have ht := tidy_free x (tailP l) hx.1 hx.2.2.2 (.inr ih)
    rw [tailP]
    rcases x with _ | ⟨c, x⟩
    · exact absurd rfl hx.2.2.2
    · exact ⟨fun _ => hx.1 c (by simp), ht⟩
theorem tidy_get : ∀ (l : Bs), tidy l → ∀ i, (h : i + 1 < l.length) → l[i + 1] = 47 → ¬ l[i] = 47 ∧ i + 2 < l.length
  | [], _, i, h, _ => by simp at h
  | [c], _, i, h, _ => by simp at h
  | c :: d :: r, ht, 0, h, e => by
    simp at e
    refine ⟨fun ec => ht.1 ec e, ?_⟩
    rcases r with _ | ⟨f, r⟩
    · exact absurd e ht.2
    · simp
  | c :: d :: r, ht, i + 1, h, e => by
    have := tidy_get (d :: r) ht.2 i (by simpa using h) (by simpa using e)
    simp only [List.length_cons] at this ⊢
    exact ⟨this.1, by omega⟩
theorem clean_head (l : Bs) : ∃ r, cleanP l = 47 :: r := by
  unfold cleanP
  split
  · exact ⟨[], rfl⟩
  · next h =>
    cases hp : partsP l with
    | nil => exact absurd hp h
    | cons x r => exact ⟨x ++ tailP r, rfl⟩
theorem clean_tidy (l : Bs) (i : Nat) (h : i + 1 < (cleanP l).length) (e : (cleanP l)[i + 1] = 47) : ¬ (cleanP l)[i] = 47 ∧ i + 2 < (cleanP l).length := by
  by_cases hp : partsP l = []
  · have hc : cleanP l = [47] := by unfold cleanP; rw [if_pos hp]
    rw [hc] at h; simp at h
  · have hc : cleanP l = tailP (partsP l) := by unfold cleanP; rw [if_neg hp]
    exact tidy_get _ (by rw [hc]; exact tidy_tail _ (parts_good l)) i h e
end Go.Proofs.YtkpnhiafdfbogaaDoor

