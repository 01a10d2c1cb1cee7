/-
  The contracts of the law's Texts, which compares two lists, and of its own reader of texts.
-/
import Derived.Test.YthkbeeebdkccdaaI
set_option linter.unusedVariables false
set_option linter.unusedSimpArgs false
namespace Go.Proofs.Ythkbeeebdkccdaa
open Go.RowKit
theorem eq_of_take {α : Type} {l m : List α} (hl : l.length = m.length) (h : l.take l.length = m.take l.length) : l = m := by
  rw [List.take_of_length_le (Nat.le_refl _), List.take_of_length_le (by omega)] at h
  exact h
end Go.Proofs.Ythkbeeebdkccdaa

