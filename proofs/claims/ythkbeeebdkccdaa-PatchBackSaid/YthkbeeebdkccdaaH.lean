/-
  The contract of the law's own reader of a number.
-/
import Derived.Test.YthkbeeebdkccdaaG
import Derived.Test.YthkbeeebdkccdaaLoad
set_option linter.unusedVariables false
set_option linter.unusedSimpArgs false
namespace Go.Proofs.Ythkbeeebdkccdaa
open Go.RowKit
def numRR (s : ByteArray) (e : Int) : Ending := .returned (.tuple #[.agg #[.string (numO s e).2.1, .int .i64 (numO s e).2.2], .int .i64 (numO s e).1])
theorem val_drop (l : List Nat) (k : Nat) (h : k < l.length) : val (l.drop k) = l.getD k 0 % 128 + 128 * val (l.drop (k + 1)) := by
  rw [List.drop_eq_getElem_cons h, val, List.getD_eq_getElem?_getD, List.getElem?_eq_getElem h]; rfl
end Go.Proofs.Ythkbeeebdkccdaa

