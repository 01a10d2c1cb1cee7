/-
  The walk of StampReckons at arguments as they come in.
-/
import Derived.Test.YteijamnihfhndaaG
namespace Go.Proofs.Yteijamnihfhndaa
open Go.RowKit
theorem reckons_law (v0 : Value) (a : St) (v1 : Value) (b : St) (v2 : Value) (l : List Int) (w : World) (w0 : IsSt v0 a) (w1 : IsSt v1 b) (w2 : v2 = .agg (l.map (Value.int .i64)).toArray ∧ l.length = 2 ∧ ∀ z ∈ l, (Lit.int .i64 z).wf = true) :
    Calls Try.prog 3 #[v0, v1, v2] w fun e w' => e = .returned (.bool true) ∧ Below w.heap.size w w' := by
  obtain ⟨rfl, _⟩ := w0
  obtain ⟨rfl, _⟩ := w1
  obtain ⟨rfl, hl, _⟩ := w2
  obtain ⟨m, n, rfl⟩ := list2 hl
  exact reckons_walk a b m n w
end Go.Proofs.Yteijamnihfhndaa
