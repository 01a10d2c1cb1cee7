/-
  The plain law of records, whole and torn.
-/
import Derived.Test.YtfgoobanjobjgaaX3
set_option linter.unusedVariables false
set_option linter.unusedSimpArgs false
namespace Go.Proofs.Ytfgoobanjobjgaa
open Go.RowKit
theorem readF_rec {t : ByteArray} (h : t.size ≤ 65536) (r : ByteArray) : readF (recB t ++ r) = (t, ((recB t).size : Int), 0) := by
  have h1 : txtV (recB t ++ r) = (t, ((textB t).size : Int), 0) := by
    unfold recB
    rw [ByteArray.append_assoc]; exact txtV_txt h _
  rw [readF_ok h1]
  unfold readF2
  have hs := sumB_size (textB t)
  have h2 : (recB t).size = (textB t).size + 4 := by unfold recB; rw [ByteArray.size_append, hs]
  have h3 := ext_mid (textB t) (sumB (textB t)) r
  rw [hs] at h3
  have h4 : (recB t ++ r).extract (textB t).size ((textB t).size + 4) = sumB (textB t) := h3
  rw [if_neg (by rw [ByteArray.size_append]; omega), if_pos h4, h2]
theorem readF_inv {s t : ByteArray} {k : Nat} (h : readF s = (t, (k : Int), 0)) (hk : 1 ≤ k) : ∃ q : Nat, txtV s = (t, (q : Int), 0) ∧ k = q + 4 ∧ k ≤ s.size := by
  rcases txtV_cases s with ⟨t', q, g, h1, h2, h3⟩ | ⟨e, he, g⟩
  · rw [readF_ok g] at h
    unfold readF2 at h
    split at h
    · simp at h
    · split at h
      · simp only [Prod.mk.injEq, and_true] at h
        obtain ⟨rfl, e2⟩ := h
        exact ⟨q, g, by omega, by omega⟩
      · simp at h
  · rw [readF_bad he g] at h
    simp at h; omega
theorem ext_all (s : ByteArray) : s.extract 0 s.size = s := by
  apply bys_inj
  rw [bys_extract, ← bys_len, List.take_length, List.drop_zero]
theorem readF_torn {t : ByteArray} (h : t.size ≤ 65536) {j : Nat} (hj : j < (recB t).size) : ∃ e : Int, e ≠ 0 ∧ readF ((recB t).extract 0 j) = (⟨#[]⟩, 0, e) := by
  rcases readF_cases ((recB t).extract 0 j) with ⟨t', k, g, g1, g2⟩ | he
  · exfalso
    obtain ⟨q, e1, e2, e3⟩ := readF_inv g (by omega)
    obtain ⟨f1, f2, f3, _⟩ := txtV_text e1
    have hx := ext_two (recB t) j (recB t).size (by omega)
    rw [ext_all] at hx
    obtain ⟨x, hxx⟩ : ∃ x, x = (recB t).extract 0 j := ⟨_, rfl⟩
    rw [← hxx] at hx e1 f1 f2 e3
    have hxs : x.size = j := by rw [hxx, ByteArray.size_extract]; omega
    have hy := ext_two x q x.size (by omega)
    rw [ext_all, ← f1] at hy
    have a1 : txtV (recB t) = (t', ((textB t').size : Int), 0) := by
      rw [← hx, ← hy, ByteArray.append_assoc]; exact txtV_txt f3 _
    have a2 : txtV (recB t) = (t, ((textB t).size : Int), 0) := txtV_txt h _
    rw [a2] at a1
    simp only [Prod.mk.injEq, and_true] at a1
    obtain ⟨rfl, _⟩ := a1
    have h2 : (recB t).size = (textB t).size + 4 := by unfold recB; rw [ByteArray.size_append, sumB_size]
    have h3 : (textB t).size = q := by rw [f1, ByteArray.size_extract]; omega
    omega
  · exact he
theorem readF_empty : ∃ e : Int, e ≠ 0 ∧ readF ⟨#[]⟩ = (⟨#[]⟩, 0, e) := ⟨4, by decide, readF_bad (by decide) (txtV_bad (by decide) (by decide))⟩
/-- Records, one behind the other. -/
def catR : List ByteArray → ByteArray
  | [] => ⟨#[]⟩
  | t :: l => recB t ++ catR l
theorem empty_app (b : ByteArray) : (⟨#[]⟩ : ByteArray) ++ b = b := by apply ByteArray.ext; simp
theorem app_empty (b : ByteArray) : b ++ (⟨#[]⟩ : ByteArray) = b := by apply ByteArray.ext; simp
theorem catR_app (a b : List ByteArray) : catR (a ++ b) = catR a ++ catR b := by
  induction a with
  | nil => rw [List.nil_append, catR, empty_app]
  | cons x a ih => simp only [List.cons_append, catR, ih, ByteArray.append_assoc]
theorem catR_snoc (l : List ByteArray) (s : ByteArray) : catR (l ++ [s]) = catR l ++ recB s := by rw [catR_app]; simp only [catR]; rw [app_empty]
theorem recB_size (s : ByteArray) (h : s.size ≤ 9007199254740992) : (recB s).size ≤ s.size + 12 ∧ 4 ≤ (recB s).size := by
  have := textB_size s h
  have h2 : (recB s).size = (textB s).size + 4 := by unfold recB; rw [ByteArray.size_append, sumB_size]
  omega
theorem allG_cat : ∀ (l : List ByteArray) (s : ByteArray) (p m : Nat) (out : List ByteArray) (tail : ByteArray), okT l → p ≤ s.size → s.extract p s.size = catR l ++ tail → l.length < m → (∃ e : Int, e ≠ 0 ∧ readF tail = (⟨#[]⟩, 0, e)) → allG s m p out = (out ++ l, p + (catR l).size)
  | [], s, p, m, out, tail, _, hp, h, hm, ⟨e, he, ht⟩ => by
    obtain ⟨m, rfl⟩ : ∃ m', m = m' + 1 := ⟨m - 1, by omega⟩
    rw [catR, empty_app] at h
    rw [allG_bad he (by rw [h]; exact ht), List.append_nil]
    rfl
  | t :: l, s, p, m, out, tail, ho, hp, h, hm, ht => by
    obtain ⟨m, rfl⟩ : ∃ m', m = m' + 1 := ⟨m - 1, by omega⟩
    have h2 : s.extract p s.size = recB t ++ (catR l ++ tail) := by rw [h]; simp only [catR, ByteArray.append_assoc]
    have h3 := readF_rec (ho t (by simp)) (catR l ++ tail)
    rw [← h2] at h3
    have hsz : s.size - p = (recB t).size + ((catR l).size + tail.size) := by
      have := congrArg ByteArray.size h2
      rw [ByteArray.size_extract, ByteArray.size_append, ByteArray.size_append] at this
      omega
    have h4 : s.extract (p + (recB t).size) s.size = catR l ++ tail := by
      have e := ext_ext s p (recB t).size (s.size - p) (by omega)
      rw [show p + (s.size - p) = s.size by omega] at e
      rw [← e, h2, show s.size - p = (recB t ++ (catR l ++ tail)).size by rw [ByteArray.size_append, ByteArray.size_append]; omega]
      exact ext_right _ _
    rw [allG_ok h3, allG_cat l s (p + (recB t).size) m (out ++ [t]) tail (fun x hx => ho x (by simp [hx])) (by omega) h4 (by simp at hm; omega) ht]
    simp only [List.append_assoc, List.singleton_append, catR, ByteArray.size_append, Nat.add_assoc]
theorem catR_len : ∀ (l : List ByteArray), l.length ≤ (catR l).size
  | [] => by simp
  | t :: l => by
    have := catR_len l
    have h2 : (recB t).size = (textB t).size + 4 := by unfold recB; rw [ByteArray.size_append, sumB_size]
    simp only [catR, ByteArray.size_append, List.length_cons]; omega
theorem allF_cat {l : List ByteArray} {tail : ByteArray} (ho : okT l) (ht : ∃ e : Int, e ≠ 0 ∧ readF tail = (⟨#[]⟩, 0, e)) : allF (catR l ++ tail) = (l, (catR l).size) := by
  unfold allF
  rw [allG_cat l _ 0 _ [] tail ho (by omega) (ext_all _) (by have := catR_len l; rw [ByteArray.size_append]; omega) ht]
  simp
/-- The bytes of records of which some at the end lack. -/
theorem torn_split {l : List ByteArray} (ho : okT l) {k m : Nat} (hm : m ≤ l.length) (h1 : (catR (l.take m)).size ≤ k) (hk : k ≤ (catR l).size) (h2 : m = l.length ∨ k < (catR (l.take (m + 1))).size) :
    allF ((catR l).extract 0 k) = (l.take m, (catR (l.take m)).size) := by
  by_cases e : m = l.length
  · subst e
    rw [List.take_length] at h1 ⊢
    obtain rfl : k = (catR l).size := by omega
    rw [ext_all]
    have := allF_cat (l := l) (tail := ⟨#[]⟩) ho readF_empty
    rw [app_empty] at this
    exact this
  · have hlt : m < l.length := by omega
    have h3 := h2.resolve_left e
    rw [take_next l m hlt, catR_snoc, ByteArray.size_append] at h3
    have hsplit : catR l = catR (l.take m) ++ (recB l[m] ++ catR (l.drop (m + 1))) := by
      conv => lhs; rw [← List.take_append_drop m l, catR_app, List.drop_eq_getElem_cons hlt]
      rfl
    have hx : (catR l).extract 0 k = catR (l.take m) ++ (recB l[m]).extract 0 (k - (catR (l.take m)).size) := by
      rw [hsplit]
      apply bys_inj
      rw [bys_extract, bys_app, bys_app, bys_app, bys_extract, List.drop_zero, List.drop_zero]
      rw [← bys_len] at h1 h3 ⊢
      rw [← bys_len] at h3
      rw [List.take_append, List.take_of_length_le (by omega)]
      congr 1
      rw [List.take_append_of_le_length (by omega)]
    rw [hx, allF_cat (fun x hx => ho x (List.mem_of_mem_take hx)) (readF_torn (ho _ (List.getElem_mem hlt)) (by omega))]
end Go.Proofs.Ytfgoobanjobjgaa

