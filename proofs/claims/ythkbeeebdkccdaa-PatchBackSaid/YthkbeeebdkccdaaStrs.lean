/-
  A list of texts that came in.
-/
import Derived.Test.YthkbeeebdkccdaaOpen
import Derived.Test.YthkbeeebdkccdaaProg
set_option linter.unusedVariables false
set_option linter.unusedSimpArgs false
namespace Go.Proofs.Ythkbeeebdkccdaa
open Go.RowKit Go.WideShapes Go.ChangeShapes Go.ChangeAt Go.Deep
def strC (s : ByteArray) : List Value := [.string s]
def StrsOk (l : List ByteArray) (w : World) (v : Value) : Prop := ∃ a cap, v = .slice a l.length cap ∧ l.length ≤ cap ∧ l.length ≤ maxLen ∧ Sl strC 1 w a l ∧ ∀ s ∈ l, s.size ≤ maxLen
end Go.Proofs.Ythkbeeebdkccdaa
