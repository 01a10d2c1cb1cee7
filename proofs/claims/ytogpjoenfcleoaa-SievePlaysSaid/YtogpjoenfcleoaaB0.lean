/-
  The built value of sieve's New.
-/
import Derived.Test.YtogpjoenfcleoaaA
import Derived.Great.Ranges
import Derived.Great.BuildSlice
set_option linter.unusedVariables false
set_option linter.unusedSimpArgs false
namespace Go.Proofs.Ytogpjoenfcleoaa
open Go.RowKit Go.Great
def svC (m : List Bool) (b t : Int) : List Value := m.map Value.bool ++ [.int .i64 b, .int .i64 t]
set_option maxRecDepth 100000 in
theorem built_sv (b t : Int) : Try.prog.built 38 [(1, .int .i64 b), (2, .int .i64 t)] = some (svC (List.replicate 4096 false) b t).toArray := by kernel_rfl
set_option maxRecDepth 100000 in
theorem zero_sv (w : World) : (zeroValue 38).run Try.prog w = .ok (.agg (svC (List.replicate 4096 false) 0 0).toArray) w := by kernel_rfl
set_option maxRecDepth 100000 in
theorem set_sv (b t : Int) : ((svC (List.replicate 4096 false) 0 0).toArray.setIfInBounds 4096 (.int .i64 b)).setIfInBounds 4097 (.int .i64 t) = (svC (List.replicate 4096 false) b t).toArray := by kernel_rfl
theorem svC_len (m : List Bool) (b t : Int) : (svC m b t).length = m.length + 2 := by simp [svC]
end Go.Proofs.Ytogpjoenfcleoaa

