/-
  The law of VectorLattice for any arguments.
-/
import Derived.Test.YtommogkckooekaaV5
set_option linter.unusedVariables false
set_option linter.unusedSimpArgs false
namespace Go.Proofs.Ytommogkckooekaa
open Go.RowKit
theorem lattice_law (u : Value) (_x : Unit) (v : Value) (_y : Unit) (d : Value) (_z : Unit) (w : World) (hu : VecOk u) (hv : VecOk v) (hd : VecOk d) : Calls Try.prog 5 #[u, v, d] w fun e w' => e = .returned (.bool true) ∧ Below w.heap.size w w' := by
  obtain ⟨a, rfl, ha⟩ := hu
  obtain ⟨b, rfl, hb⟩ := hv
  obtain ⟨c, rfl, hc⟩ := hd
  exact lattice_walk a b c w ha hb hc
end Go.Proofs.Ytommogkckooekaa

