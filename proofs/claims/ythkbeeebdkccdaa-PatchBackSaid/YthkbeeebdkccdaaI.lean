/-
  The contracts of the law's own readers of a text and of texts, and of its Done.
-/
import Derived.Test.YthkbeeebdkccdaaH
set_option linter.unusedVariables false
set_option linter.unusedSimpArgs false
namespace Go.Proofs.Ythkbeeebdkccdaa
open Go.RowKit
theorem ext_ext (s : ByteArray) (k n m : Nat) (h : k + m ≤ s.size) : (s.extract k s.size).extract n m = s.extract (k + n) (k + m) := by
  apply ByteArray.ext
  simp only [ByteArray.data_extract, Array.extract_extract]
  congr 1
  have : s.data.size = s.size := rfl
  omega
def txtRR (s : ByteArray) (e : Int) : Ending := .returned (.tuple #[.agg #[.string (txtO s e).2.1, .int .i64 (txtO s e).2.2], .string (txtO s e).1])
end Go.Proofs.Ythkbeeebdkccdaa

