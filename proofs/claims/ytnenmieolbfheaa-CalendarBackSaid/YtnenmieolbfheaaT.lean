/-
  What '==' gives on two arrays of three numbers.
-/
import Derived.Test.YtnenmieolbfheaaBase
import Derived.Test.YtnenmieolbfheaaProg
import Derived.Laws.StructEq
import Derived.KernelRfl
namespace Go.Proofs.Ytnenmieolbfheaa
open Go.RowKit
theorem size3 (w : World) : (sizeOf 3).run Try.prog w = .ok 1 w := by kernel_rfl
theorem eqIn3 (k : Nat) (a b c d e f : Int) (w : World) : (Op.equalIn (k + 2) 22 (.agg #[.int .i64 a, .int .i64 b, .int .i64 c]) (.agg #[.int .i64 d, .int .i64 e, .int .i64 f])).run Try.prog w = .ok (a == d && b == e && c == f) w := by
  have hu := Try.underlying22
  have hu3 := Try.underlying3
  have h0 : ∀ w, (part 3 #[.int .i64 a, .int .i64 b, .int .i64 c] 0).run Try.prog w = .ok (.int .i64 a) w := fun w => by kernel_rfl
  have h1 : ∀ w, (part 3 #[.int .i64 a, .int .i64 b, .int .i64 c] 1).run Try.prog w = .ok (.int .i64 b) w := fun w => by kernel_rfl
  have h2 : ∀ w, (part 3 #[.int .i64 a, .int .i64 b, .int .i64 c] 2).run Try.prog w = .ok (.int .i64 c) w := fun w => by kernel_rfl
  have g0 : ∀ w, (part 3 #[.int .i64 d, .int .i64 e, .int .i64 f] 0).run Try.prog w = .ok (.int .i64 d) w := fun w => by kernel_rfl
  have g1 : ∀ w, (part 3 #[.int .i64 d, .int .i64 e, .int .i64 f] 1).run Try.prog w = .ok (.int .i64 e) w := fun w => by kernel_rfl
  have g2 : ∀ w, (part 3 #[.int .i64 d, .int .i64 e, .int .i64 f] 2).run Try.prog w = .ok (.int .i64 f) w := fun w => by kernel_rfl
  have hi : ∀ x y w, (Op.equalIn (k + 1) 3 (.int .i64 x) (.int .i64 y)).run Try.prog w = .ok (x == y) w := fun x y w => run_equalIn_int w k 3 .i64 .i64 x y hu3
  rw [Op.equalIn]
  simp [run_underlying hu, Std.Legacy.Range.forIn_eq_forIn_range', List.range', h0, h1, h2, g0, g1, g2, hi]
  by_cases x : a = d <;> by_cases y : b = e <;> by_cases z : c = f <;> simp [x, y, z]
theorem eq3 (a b c d e f : Int) (w : World) : (binOp .eql 22 (.agg #[.int .i64 a, .int .i64 b, .int .i64 c]) (.agg #[.int .i64 d, .int .i64 e, .int .i64 f])).run Try.prog w = .ok (.bool (a == d && b == e && c == f)) w := by
  simp only [binOp]
  have h := eqIn3 9998 a b c d e f w
  unfold Op.equal
  rw [show Op.maxDepth = 9998 + 2 from rfl]
  simp [h]
end Go.Proofs.Ytnenmieolbfheaa
