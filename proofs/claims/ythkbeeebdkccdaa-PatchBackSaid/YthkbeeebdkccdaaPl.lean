/-
  The plain law of numbers, texts and lists as bytes: what is put is read, and what is read was put so.
-/
import Derived.Test.YthkbeeebdkccdaaK
set_option linter.unusedVariables false
set_option linter.unusedSimpArgs false
namespace Go.Proofs.Ythkbeeebdkccdaa
open Go.RowKit
theorem low_nb : ∀ (n : Nat) (r : List Nat), low (nb n ++ r) = some ((nb n).length - 1) := by
  intro n
  induction n using nb.induct with
  | case1 n h => intro r; rw [nb_lt h]; simp [low, h]
  | case2 n h ih =>
    intro r
    rw [nb_ge (by omega)]
    simp only [List.cons_append, low, List.length_cons]
    rw [if_neg (by omega), ih r]
    have := List.length_pos_iff.2 (nb_ne (n / 128))
    simp only [Option.map_some, Option.some.injEq]; omega
theorem val_nb : ∀ (n : Nat), val (nb n) = n := by
  intro n
  induction n using nb.induct with
  | case1 n h => rw [nb_lt h]; simp only [val]; omega
  | case2 n h ih => rw [nb_ge (by omega)]; simp only [val]; rw [ih]; omega
theorem last_nb : ∀ (n : Nat), 0 < (nb n).length - 1 → (nb n).getD ((nb n).length - 1) 0 ≠ 0 := by
  intro n
  induction n using nb.induct with
  | case1 n h => rw [nb_lt h]; simp
  | case2 n h ih =>
    intro _
    rw [nb_ge (by omega)]
    have hp := List.length_pos_iff.2 (nb_ne (n / 128))
    simp only [List.length_cons]
    rw [show (nb (n / 128)).length + 1 - 1 = ((nb (n / 128)).length - 1) + 1 by omega, List.getD_cons_succ]
    by_cases h2 : 0 < (nb (n / 128)).length - 1
    · exact ih h2
    · by_cases h3 : n / 128 < 128
      · rw [nb_lt h3]; simp; omega
      · rw [nb_ge (n := n / 128) (by omega)] at h2
        have := List.length_pos_iff.2 (nb_ne (n / 128 / 128))
        simp only [List.length_cons] at h2; omega
theorem readV_nb {n : Nat} (h : n ≤ 9007199254740992) (r : List Nat) : readV (nb n ++ r) = ((n : Int), ((nb n).length : Int), 0) := by
  have hp := List.length_pos_iff.2 (nb_ne n)
  have h8 := nb_len8 h
  unfold readV
  rw [low_nb]
  dsimp only
  unfold readI
  have e1 : (nb n ++ r).take ((nb n).length - 1 + 1) = nb n := by rw [show (nb n).length - 1 + 1 = (nb n).length by omega]; exact List.take_left
  have e2 : (nb n ++ r).getD ((nb n).length - 1) 0 = (nb n).getD ((nb n).length - 1) 0 := by
    simp only [List.getD_eq_getElem?_getD]
    rw [List.getElem?_append_left (by omega)]
  rw [if_neg (by omega), if_neg (by rw [e2]; rintro ⟨h1, h2⟩; exact last_nb n h1 h2), e1, val_nb, if_neg (by omega)]
  congr 2
  omega
theorem nb_of_low : ∀ {l : List Nat} {i : Nat}, (∀ c ∈ l, c < 256) → low l = some i → (i = 0 ∨ l.getD i 0 ≠ 0) → nb (val (l.take (i + 1))) = l.take (i + 1)
  | [], i, _, h, _ => by cases h
  | c :: l, i, hb, h, hz => by
    have hc := hb c (by simp)
    unfold low at h
    split at h
    · rename_i hlt
      cases h
      simp only [Nat.zero_add, List.take_succ_cons, List.take_zero, val]
      rw [show c % 128 + 128 * 0 = c by omega, nb_lt hlt]
    · rename_i hge
      cases hl : low l with
      | none => rw [hl] at h; cases h
      | some j =>
        rw [hl] at h
        simp only [Option.map_some, Option.some.injEq] at h
        subst h
        have hj : l.getD j 0 ≠ 0 := by
          rcases hz with hz | hz
          · omega
          · simpa using hz
        have ih := nb_of_low (fun x hx => hb x (by simp [hx])) hl (.inr hj)
        have hlow := low_some hl
        have hv : val (l.take (j + 1)) ≠ 0 := by
          intro e
          rw [e, nb_lt (by omega)] at ih
          have h1 : (l.take (j + 1)).length = 1 := by rw [← ih]; rfl
          rw [List.length_take] at h1
          have hj0 : j = 0 := by have := hlow.1; omega
          subst hj0
          have h2 : (l.take 1).getD 0 0 = 0 := by rw [show (1 : Nat) = 0 + 1 from rfl, ← ih]; rfl
          apply hj
          simp only [List.getD_eq_getElem?_getD] at h2 ⊢
          rw [List.getElem?_take, if_pos (by omega)] at h2
          exact h2
        simp only [List.take_succ_cons, val]
        rw [nb_ge (by omega), show (c % 128 + 128 * val (l.take (j + 1))) % 128 + 128 = c by omega, show (c % 128 + 128 * val (l.take (j + 1))) / 128 = val (l.take (j + 1)) by omega, ih]
/-- A number is read just as it is put. -/
theorem nb_of_read {l : List Nat} {n k : Nat} (hb : ∀ c ∈ l, c < 256) (h : readV l = ((n : Int), (k : Int), 0)) (hk : 1 ≤ k) : nb n = l.take k ∧ k ≤ l.length := by
  unfold readV at h
  cases hl : low l with
  | none => rw [hl] at h; simp at h
  | some i =>
    rw [hl] at h
    dsimp only at h
    unfold readI at h
    have h1 := (low_some hl).1
    split at h
    · simp at h
    · split at h
      · simp at h
      · rename_i h2
        split at h
        · simp at h
        · simp only [Prod.mk.injEq, and_true] at h
          obtain ⟨e1, e2⟩ := h
          have ek : k = i + 1 := by omega
          have en : n = val (l.take (i + 1)) := by omega
          subst ek en
          exact ⟨nb_of_low hb hl (by
            by_cases hi : i = 0
            · exact .inl hi
            · exact .inr (fun e => h2 ⟨by omega, e⟩)), by omega⟩
theorem txt_extract (l : List Nat) (i j : Nat) : (txt l).extract i j = txt ((l.take j).drop i) := by
  apply ByteArray.ext
  apply Array.toList_inj.1
  simp only [txt, ByteArray.data_extract, Array.toList_extract, List.extract_eq_take_drop, List.map_drop, List.map_take]
  try rw [List.drop_take]
theorem ext_right (a b : ByteArray) : (a ++ b).extract a.size (a ++ b).size = b := by
  apply bys_inj
  rw [bys_extract, bys_app, ByteArray.size_append, ← bys_len, ← bys_len, ← List.length_append, List.take_length, List.drop_left]
theorem ext_mid (a b c : ByteArray) : (a ++ b ++ c).extract a.size (a.size + b.size) = b := by
  apply bys_inj
  rw [bys_extract, bys_app, bys_app, ← bys_len a, ← bys_len b, ← List.length_append, List.take_left, List.drop_left]
theorem readV_txt {n : Nat} (h : n ≤ 9007199254740992) (r : ByteArray) : readV (bys (txt (nb n) ++ r)) = ((n : Int), ((nb n).length : Int), 0) := by
  rw [bys_app, bys_txt (nb_byte n)]; exact readV_nb h _
theorem numO_txt {n : Nat} (h : n ≤ 9007199254740992) (r : ByteArray) : numO (txt (nb n) ++ r) 0 = ((n : Int), r, 0) := by
  rw [numO_ok (readV_txt h r)]
  have := ext_right (txt (nb n)) r
  rw [txt_size] at this
  rw [this]
theorem txtV_txt {t : ByteArray} (h : t.size ≤ 65536) (r : ByteArray) : txtV (textB t ++ r) = (t, ((textB t).size : Int), 0) := by
  unfold textB
  rw [ByteArray.append_assoc, txtV_ok (readV_txt (by omega) (t ++ r))]
  unfold txtI
  rw [if_neg (by omega), if_neg (by rw [ByteArray.size_append, ByteArray.size_append, txt_size]; omega), ← ByteArray.append_assoc]
  have := ext_mid (txt (nb t.size)) t r
  rw [txt_size] at this
  rw [this, ByteArray.size_append, txt_size]
theorem lstG_txt : ∀ (l : List ByteArray) (s : ByteArray) (p : Nat) (out : List ByteArray) (r : ByteArray), okT l → p ≤ s.size → s.extract p s.size = catB l ++ r → lstG s l.length p out = (out ++ l, p + (catB l).size, 0)
  | [], s, p, out, r, _, _, _ => by simp [lstG, catB]
  | t :: l, s, p, out, r, ho, hp, h => by
    have ht := ho t (by simp)
    have h2 : s.extract p s.size = textB t ++ (catB l ++ r) := by rw [h]; simp only [catB, ByteArray.append_assoc]
    have h3 := txtV_txt ht (catB l ++ r)
    rw [← h2] at h3
    have hsz : s.size - p = (textB t).size + ((catB l).size + r.size) := by
      have := congrArg ByteArray.size h2
      rw [ByteArray.size_extract, ByteArray.size_append, ByteArray.size_append] at this
      omega
    have h4 : s.extract (p + (textB t).size) s.size = catB l ++ r := by
      have e := ext_ext s p (textB t).size (s.size - p) (by omega)
      rw [show p + (s.size - p) = s.size by omega] at e
      rw [← e, h2, show s.size - p = (textB t ++ (catB l ++ r)).size by rw [ByteArray.size_append, ByteArray.size_append]; omega]
      exact ext_right _ _
    rw [List.length_cons, lstG_ok h3, lstG_txt l s (p + (textB t).size) (out ++ [t]) r (fun x hx => ho x (by simp [hx])) (by omega) h4]
    simp only [List.append_assoc, List.singleton_append, catB, ByteArray.size_append, Nat.add_assoc]
theorem lstO_txt {l : List ByteArray} (h : l.length ≤ 4096) (ho : okT l) (r : ByteArray) : lstO (txt (nb l.length) ++ catB l ++ r) 0 = (l, r, 0) := by
  have h1 : readV (bys (txt (nb l.length) ++ catB l ++ r)) = ((l.length : Int), ((nb l.length).length : Int), 0) := by rw [ByteArray.append_assoc]; exact readV_txt (by omega) _
  have hV : lstV (txt (nb l.length) ++ catB l ++ r) = (l, (nb l.length).length + (catB l).size, 0) := by
    rw [lstV_ok h1 (by omega), lstG_txt l _ _ [] r ho (by rw [ByteArray.size_append, ByteArray.size_append, txt_size]; omega) ?_]
    · rfl
    · have := ext_right (txt (nb l.length)) (catB l ++ r)
      rw [txt_size, ← ByteArray.append_assoc] at this
      exact this
  rw [lstO_ok hV]
  have := ext_right (txt (nb l.length) ++ catB l) r
  rw [ByteArray.size_append (a := txt (nb l.length)) (b := catB l), txt_size] at this
  rw [this]
end Go.Proofs.Ythkbeeebdkccdaa

