/-
  The contracts of wire.List and the law's own List, which write texts.
-/
import Derived.Test.YthkbeeebdkccdaaD
import Derived.Test.YthkbeeebdkccdaaStrs
set_option linter.unusedVariables false
set_option linter.unusedSimpArgs false
namespace Go.Proofs.Ythkbeeebdkccdaa
open Go.RowKit
theorem sl_str {w : World} {a : Option Addr} {xs : List ByteArray} (h : Sl strC 1 w a xs) (i : Nat) (hi : i < xs.length) : ∃ b o, a = some ⟨b, o, none⟩ ∧ b < w.heap.size ∧ w.cell? ⟨b, o + i, none⟩ = some (.string xs[i]) := by
  obtain ⟨b, o, ha, hb, hc⟩ := h i hi
  refine ⟨b, o, ha, hb, ?_⟩
  have := hc 0 (.string xs[i]) rfl
  simpa using this
/-- The bytes of texts, one behind the other. -/
def catB : List ByteArray → ByteArray
  | [] => ByteArray.empty
  | s :: l => textB s ++ catB l
theorem catB_snoc (l : List ByteArray) (s : ByteArray) : catB (l ++ [s]) = catB l ++ textB s := by
  induction l with
  | nil => simp [catB]
  | cons x l ih => simp only [List.cons_append, catB, ih, ByteArray.append_assoc]
def okT (l : List ByteArray) : Prop := ∀ s ∈ l, s.size ≤ 65536
def listR (l : List ByteArray) : Ending := if 4096 < l.length ∨ (∃ s ∈ l, 65536 < s.size) then .returned (.tuple #[.string ⟨#[]⟩, .int .i64 3]) else .returned (.tuple #[.string (txt (nb l.length) ++ catB l), .int .i64 0])
theorem listR_bad {l : List ByteArray} (h : 4096 < l.length ∨ (∃ s ∈ l, 65536 < s.size)) : listR l = .returned (.tuple #[.string ⟨#[]⟩, .int .i64 3]) := by unfold listR; rw [if_pos h]
theorem listR_ok {l : List ByteArray} (h : ¬ (4096 < l.length ∨ (∃ s ∈ l, 65536 < s.size))) : listR l = .returned (.tuple #[.string (txt (nb l.length) ++ catB l), .int .i64 0]) := by unfold listR; rw [if_neg h]
theorem catB_size : ∀ (l : List ByteArray), okT l → (catB l).size ≤ 65544 * l.length
  | [], _ => by simp [catB]
  | s :: l, h => by
    have h1 := catB_size l (fun x hx => h x (by simp [hx]))
    have h2 := h s (by simp)
    have h3 := textB_size s (by omega)
    simp only [catB, ByteArray.size_append, List.length_cons]; omega
theorem take_next {α : Type} (l : List α) (k : Nat) (h : k < l.length) : l.take (k + 1) = l.take k ++ [l[k]] := by rw [List.take_succ_eq_append_getElem h]
end Go.Proofs.Ythkbeeebdkccdaa

