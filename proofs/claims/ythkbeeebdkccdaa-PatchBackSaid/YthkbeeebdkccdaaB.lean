/-
  The contract of the law's own Num, which writes a number's bytes.
-/
import Derived.Test.YthkbeeebdkccdaaA
set_option linter.unusedVariables false
set_option linter.unusedSimpArgs false
namespace Go.Proofs.Ythkbeeebdkccdaa
open Go.RowKit
theorem conv_one (w : World) (x : Nat) (z : Int) (h : z = (x : Int)) : (convert 33 9 (.slice (some ⟨w.heap.size, 0, none⟩) 1 1)).run Try.prog (w.alloc (.cells #[.int .u8 z] 5)) = .ok (.string (txt [x])) (w.alloc (.cells #[.int .u8 z] 5)) := by
  subst h
  have := run_convert_bytes_arg (P := Try.prog) (w.alloc (.cells #[.int .u8 (x : Int)] 5)) 33 5 Try.underlying33 Try.underlying5 w.heap.size 0 1 1 [(x : Int)] rfl (fun i hi => by
    obtain rfl : i = 0 := by simp at hi; exact hi
    rw [cell_new]; rfl) 9 Try.underlying9
  rw [this]
  congr 2
theorem num_any (n : Int) (w : World) : Calls Try.prog 20 #[.int .i64 n] w fun e w' => e = numR n ∧ Below w.heap.size w w' := by
  by_cases h : n < 0 ∨ 9007199254740992 < n
  · exact num_bad n w h
  · obtain ⟨m, rfl⟩ : ∃ m : Nat, n = m := ⟨n.toNat, by omega⟩
    exact num_nat m w (by omega)
end Go.Proofs.Ythkbeeebdkccdaa

