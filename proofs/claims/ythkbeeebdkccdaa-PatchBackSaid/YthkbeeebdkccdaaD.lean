/-
  The contracts of wire.Text, the law's own Text, and wire.text, which reads a text.
-/
import Derived.Test.YthkbeeebdkccdaaC
set_option linter.unusedVariables false
set_option linter.unusedSimpArgs false
namespace Go.Proofs.Ythkbeeebdkccdaa
open Go.RowKit
theorem val_le {l : List Nat} : val l < 128 ^ l.length := val_lt l
/-- A number was read, and how; or it was not. -/
theorem readV_cases (l : List Nat) : (∃ n k : Nat, readV l = ((n : Int), (k : Int), 0) ∧ n ≤ 9007199254740992 ∧ 1 ≤ k ∧ k ≤ 8 ∧ k ≤ l.length) ∨ (∃ e : Int, e ≠ 0 ∧ readV l = (0, 0, e)) := by
  unfold readV
  cases h : low l with
  | none => exact .inr ⟨4, by decide, rfl⟩
  | some i =>
    have h1 := (low_some h).1
    dsimp only
    unfold readI
    split
    · exact .inr ⟨2, by decide, rfl⟩
    · split
      · exact .inr ⟨5, by decide, rfl⟩
      · split
        · exact .inr ⟨2, by decide, rfl⟩
        · exact .inl ⟨val (l.take (i + 1)), i + 1, rfl, by omega, by omega, by omega, by omega⟩
/-- What wire.Text answers. -/
def textB (s : ByteArray) : ByteArray := txt (nb s.size) ++ s
def textR (s : ByteArray) : Ending := if 65536 < s.size then .returned (.tuple #[.string ⟨#[]⟩, .int .i64 3]) else .returned (.tuple #[.string (textB s), .int .i64 0])
theorem textR_bad {s : ByteArray} (h : 65536 < s.size) : textR s = .returned (.tuple #[.string ⟨#[]⟩, .int .i64 3]) := by unfold textR; rw [if_pos h]
theorem textR_ok {s : ByteArray} (h : ¬ 65536 < s.size) : textR s = .returned (.tuple #[.string (textB s), .int .i64 0]) := by unfold textR; rw [if_neg h]
theorem textB_size (s : ByteArray) (h : s.size ≤ 9007199254740992) : (textB s).size ≤ s.size + 8 := by
  have := nb_len8 h
  unfold textB
  rw [ByteArray.size_append, txt_size]; omega
theorem text_put (s : ByteArray) (w : World) : Calls Try.prog 13 #[.string s] w fun e w' => e = textR s ∧ Below w.heap.size w w' := by
  by_cases h : 65536 < s.size
  · rw [textR_bad h]
    have d1 : (65536 : Int) < (s.size : Int) := by omega
    go_enter Try.func13, Try.ntmps13
    go_wp2
    go_ret2
    exact ⟨rfl, Below.refl _ _⟩
  · rw [textR_ok h]
    have d1 : ¬ (65536 : Int) < (s.size : Int) := by omega
    have hs1 : (txt (nb s.size)).size ≤ 8 := by rw [txt_size]; exact nb_len8 (by omega)
    go_enter Try.func13, Try.ntmps13
    go_wp2_with fail
    refine (num_nat s.size _ (by omega)).mono ?_
    rintro e w1 ⟨rfl, hb1⟩
    rw [num_ok (by omega) rfl]
    go_wp2
    go_ret2
    exact ⟨rfl, hb1⟩
/-- What wire.text answers: the text, how many bytes it has, the error. -/
def txtI (s : ByteArray) (n k : Nat) : ByteArray × Int × Int := if 65536 < n then (⟨#[]⟩, 0, 3) else if s.size < k + n then (⟨#[]⟩, 0, 4) else (s.extract k (k + n), (k + n : Nat), 0)
def txtV (s : ByteArray) : ByteArray × Int × Int := if (readV (bys s)).2.2 = 0 then txtI s (readV (bys s)).1.toNat (readV (bys s)).2.1.toNat else (⟨#[]⟩, 0, (readV (bys s)).2.2)
theorem txtV_bad {s : ByteArray} {e : Int} (he : e ≠ 0) (h : readV (bys s) = (0, 0, e)) : txtV s = (⟨#[]⟩, 0, e) := by unfold txtV; rw [h, if_neg he]
theorem txtV_ok {s : ByteArray} {n k : Nat} (h : readV (bys s) = ((n : Int), (k : Int), 0)) : txtV s = txtI s n k := by unfold txtV; rw [h, if_pos rfl]; rfl
theorem txtV_cases (s : ByteArray) : (∃ (t : ByteArray) (k : Nat), txtV s = (t, (k : Int), 0) ∧ 1 ≤ k ∧ k ≤ s.size ∧ t.size ≤ 65536) ∨ (∃ e : Int, e ≠ 0 ∧ txtV s = (⟨#[]⟩, 0, e)) := by
  rcases readV_cases (bys s) with ⟨n, k, h, h1, h2, h3, h4⟩ | ⟨e, he, h⟩
  · rw [txtV_ok h]
    unfold txtI
    split
    · exact .inr ⟨3, by decide, rfl⟩
    · split
      · exact .inr ⟨4, by decide, rfl⟩
      · rw [bys_len] at h4
        refine .inl ⟨s.extract k (k + n), k + n, rfl, by omega, by omega, ?_⟩
        rw [ByteArray.size_extract]; omega
  · exact .inr ⟨e, he, txtV_bad he h⟩
def txtR (s : ByteArray) : Ending := .returned (.tuple #[.string (txtV s).1, .int .i64 (txtV s).2.1, .int .i64 (txtV s).2.2])
theorem text_read (s : ByteArray) (w : World) (hs : s.size ≤ 1099511627776) : Calls Try.prog 24 #[.string s] w fun e w' => e = txtR s ∧ w' = w := by
  unfold txtR
  rcases readV_cases (bys s) with ⟨n, k, h, h1, h2, h3, h4⟩ | ⟨e, he, h⟩
  · obtain ⟨V, hV⟩ : ∃ V, V = txtV s := ⟨_, rfl⟩
    rw [← hV]
    rw [txtV_ok h] at hV
    unfold txtI at hV
    rw [bys_len] at h4
    go_enter Try.func24, Try.ntmps24
    go_wp2_with fail
    refine (number_any s _ hs).mono ?_
    rintro e w1 ⟨rfl, hx⟩
    obtain rfl : w = w1 := hx.symm
    unfold readR
    rw [h]
    clear hx h
    dsimp only
    by_cases h8 : 65536 < n
    · rw [if_pos h8] at hV
      subst hV
      have d8 : (65536 : Int) < (n : Int) := by omega
      go_wp2
      go_ret3
      exact ⟨rfl, rfl⟩
    · rw [if_neg h8] at hV
      have d8 : ¬ (65536 : Int) < (n : Int) := by omega
      by_cases h9 : s.size < k + n
      · rw [if_pos h9] at hV
        subst hV
        have d9 : (s.size : Int) - (k : Int) < (n : Int) := by omega
        go_wp2
        go_ret3
        exact ⟨rfl, rfl⟩
      · rw [if_neg h9] at hV
        have d9 : ¬ (s.size : Int) - (k : Int) < (n : Int) := by omega
        subst hV
        go_wp2
        go_ret3
        exact ⟨rfl, rfl⟩
  · rw [txtV_bad he h]
    have e1 : (e == 0) = false := by simp [he]
    go_enter Try.func24, Try.ntmps24
    go_wp2_with fail
    refine (number_any s _ hs).mono ?_
    rintro e' w1 ⟨rfl, hx⟩
    obtain rfl : w = w1 := hx.symm
    unfold readR
    rw [h]
    clear hx h
    dsimp only
    go_wp2
    go_ret3
    exact ⟨rfl, rfl⟩
end Go.Proofs.Ythkbeeebdkccdaa

