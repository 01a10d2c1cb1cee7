/-
  No cell of these rows narrows 'for every input' (looked for: loops, veiled, ifaces, maps, wideKeys, modest, calm, conditions, laid).
  DERIVED. THE GIVEN ROWS OF THIS SEAT. 3 by the template 'for every input the law returns true; each argument reads behind the call as it read before'; 0 by the template 'total and deterministic' (their statements: YtgoddgaamdifmaaTotals.lean).
  GIVEN WITH THE SEED: the statements are not yours to turn. If you find one false, say at which input.
  Laid BY PROGRAM, IN A SANDBOX (cutbox-rows.mjs): the forced cells as the released guide's own fill.sh prints them over the translation 52d8fa7ea69d08bc… (all of the seat's roots in one cut). By AI agents, Wed Nov 11 2026. No macro, syntax, notation, axiom, sorry.
-/
import Derived.Test.YtgoddgaamdifmaaChecked
import GoSem.Claim
import GoSem.ClaimJoined
import GoSem.ClaimMapViews
import Derived.JoinedTies
import Derived.KernelRfl
namespace Go.Proofs.Ytgoddgaamdifmaa
/- THE CELL 'sum', in the pinned program and in every row, IS THE sha256 OF THE DUMP (.gsa) THAT YtgoddgaamdifmaaProg.lean LOADS. Nothing in Lean hashes anything: it is a label: what it is worth is what the hold of that sum in a sandbox is worth. -/
noncomputable def Try.pinned : Pinned := { name := "ytgoddgaamdifmaa", sum := "52d8fa7ea69d08bca72c1f207c809c55f25bee877472ef1f325ee3720258c777", checked := Try.checked }
namespace Rows
def none {H : Type} : Left H := { results := [], args := [] }

/-- 'almonrylaw32.RetainScores': WHATEVER THE INPUT: true; the input reads as it did. -/
def retainScoresSpec : ChangeSpec := { name := "retainScores", fn := fun _ => fun
  | [d1, d2, d3] => { results := [.lit (.bool true)], args := [d1, d2, d3] }
  | _ => none }
def retainScoresRow : OpenClaim := { program := "ytgoddgaamdifmaa", sum := "52d8fa7ea69d08bca72c1f207c809c55f25bee877472ef1f325ee3720258c777", func := "almonry/almonrylaw32.RetainScores", spec := "retainScores", inPlace := ["math.Float64frombits", "math.Float64bits"], apart := false }
def RetainScoresSaid : Prop := retainScoresRow.holds Try.pinned (OpenSpec.ofChange retainScoresSpec)

/-- ITS FALSE NEIGHBOUR: 'it returns false'. Refute it at one input. -/
def retainScoresWrong : ChangeSpec := { name := "retainScores", fn := fun _ => fun
  | [d1, d2, d3] => { results := [.lit (.bool false)], args := [d1, d2, d3] }
  | _ => none }
def RetainScoresWrongFalsely : Prop := retainScoresRow.holds Try.pinned (OpenSpec.ofChange retainScoresWrong)

/-- 'almonrylaw32.RetainPlans': WHATEVER THE INPUT: true; the input reads as it did. -/
def retainPlansSpec : ChangeSpec := { name := "retainPlans", fn := fun _ => fun
  | [d1, d2] => { results := [.lit (.bool true)], args := [d1, d2] }
  | _ => none }
def retainPlansRow : OpenClaim := { program := "ytgoddgaamdifmaa", sum := "52d8fa7ea69d08bca72c1f207c809c55f25bee877472ef1f325ee3720258c777", func := "almonry/almonrylaw32.RetainPlans", spec := "retainPlans", inPlace := ["math.Float64frombits", "math.Float64bits"], apart := false }
def RetainPlansSaid : Prop := retainPlansRow.holds Try.pinned (OpenSpec.ofChange retainPlansSpec)

/-- ITS FALSE NEIGHBOUR: 'it returns false'. Refute it at one input. -/
def retainPlansWrong : ChangeSpec := { name := "retainPlans", fn := fun _ => fun
  | [d1, d2] => { results := [.lit (.bool false)], args := [d1, d2] }
  | _ => none }
def RetainPlansWrongFalsely : Prop := retainPlansRow.holds Try.pinned (OpenSpec.ofChange retainPlansWrong)

/-- 'almonrylaw32.RetainLeast': WHATEVER THE INPUT: true; the input reads as it did. -/
def retainLeastSpec : ChangeSpec := { name := "retainLeast", fn := fun _ => fun
  | [d1, d2] => { results := [.lit (.bool true)], args := [d1, d2] }
  | _ => none }
def retainLeastRow : OpenClaim := { program := "ytgoddgaamdifmaa", sum := "52d8fa7ea69d08bca72c1f207c809c55f25bee877472ef1f325ee3720258c777", func := "almonry/almonrylaw32.RetainLeast", spec := "retainLeast", inPlace := ["math.Float64frombits", "math.Float64bits"], apart := false }
def RetainLeastSaid : Prop := retainLeastRow.holds Try.pinned (OpenSpec.ofChange retainLeastSpec)

/-- ITS FALSE NEIGHBOUR: 'it returns false'. Refute it at one input. -/
def retainLeastWrong : ChangeSpec := { name := "retainLeast", fn := fun _ => fun
  | [d1, d2] => { results := [.lit (.bool false)], args := [d1, d2] }
  | _ => none }
def RetainLeastWrongFalsely : Prop := retainLeastRow.holds Try.pinned (OpenSpec.ofChange retainLeastWrong)

/- THE SECOND FORM. 'bulk': how many values and letters a reading holds, each counted each time it is reached (what is shared counts as often as it is met; a slice's spare places count too). A statement '..UptoSaid' is the law's where the arguments, and the package variables that the reading takes, are together of bulk at most 1048576: NARROWER than '..Said'. Prove '..Said' where nothing that the law and all that it calls make is longer than what came in: it says more and counts as full. Else prove '..UptoSaid'. A law counts once. -/
mutual
def uptoBulk {H : Type} : DataW H → Nat
  | .lit (.string bytes) => bytes.length + 1
  | .lit _ => 1
  | .nil => 1
  | .ptr d => uptoBulk d + 1
  | .slice elems spare => uptoBulkAll elems + uptoBulkAll spare + 1
  | .agg parts => uptoBulkAll parts + 1
  | .iface _ d => uptoBulk d + 1
  | .map entries => uptoBulkEntries entries + 1
  | .held _ => 1
def uptoBulkAll {H : Type} : List (DataW H) → Nat
  | [] => 0
  | d :: r => uptoBulk d + uptoBulkAll r
def uptoBulkEntries {H : Type} : List (Lit × DataW H) → Nat
  | [] => 0
  | x :: r => uptoBulkEntry x + uptoBulkEntries r
def uptoBulkEntry {H : Type} : Lit × DataW H → Nat
  | (.string bytes, d) => bytes.length + uptoBulk d + 1
  | (_, d) => uptoBulk d + 1
 end
def uptoSmall : (H : Type) → List (DataW H) → Bool := fun _ ds => decide (uptoBulkAll ds ≤ 1048576)
def OpenSpec.upto (s : _root_.Go.ChangeSpec) : _root_.Go.OpenSpec := { _root_.Go.OpenSpec.ofChange s with cond := some uptoSmall }

/-- 'almonrylaw32.RetainScores', WHERE WHAT IT READS IS OF BULK AT MOST 1048576: true; the input reads as it did. -/
def retainScoresUptoRow : OpenClaim := { program := "ytgoddgaamdifmaa", sum := "52d8fa7ea69d08bca72c1f207c809c55f25bee877472ef1f325ee3720258c777", func := "almonry/almonrylaw32.RetainScores", spec := "retainScores", inPlace := ["math.Float64frombits", "math.Float64bits"], apart := false, narrowed := true }
def RetainScoresUptoSaid : Prop := retainScoresUptoRow.holds Try.pinned (OpenSpec.upto retainScoresSpec)

/-- 'almonrylaw32.RetainPlans', WHERE WHAT IT READS IS OF BULK AT MOST 1048576: true; the input reads as it did. -/
def retainPlansUptoRow : OpenClaim := { program := "ytgoddgaamdifmaa", sum := "52d8fa7ea69d08bca72c1f207c809c55f25bee877472ef1f325ee3720258c777", func := "almonry/almonrylaw32.RetainPlans", spec := "retainPlans", inPlace := ["math.Float64frombits", "math.Float64bits"], apart := false, narrowed := true }
def RetainPlansUptoSaid : Prop := retainPlansUptoRow.holds Try.pinned (OpenSpec.upto retainPlansSpec)

/-- 'almonrylaw32.RetainLeast', WHERE WHAT IT READS IS OF BULK AT MOST 1048576: true; the input reads as it did. -/
def retainLeastUptoRow : OpenClaim := { program := "ytgoddgaamdifmaa", sum := "52d8fa7ea69d08bca72c1f207c809c55f25bee877472ef1f325ee3720258c777", func := "almonry/almonrylaw32.RetainLeast", spec := "retainLeast", inPlace := ["math.Float64frombits", "math.Float64bits"], apart := false, narrowed := true }
def RetainLeastUptoSaid : Prop := retainLeastUptoRow.holds Try.pinned (OpenSpec.upto retainLeastSpec)

end Rows
end Go.Proofs.Ytgoddgaamdifmaa
