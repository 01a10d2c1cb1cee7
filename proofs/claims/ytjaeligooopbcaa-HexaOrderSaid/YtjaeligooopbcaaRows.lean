/-
  No cell of these rows narrows 'for every input' (looked for: loops, veiled, ifaces, maps, wideKeys, modest, calm, conditions, laid).
  DERIVED. THE GIVEN ROWS OF THIS SEAT. 3 by the template 'for every input the law returns true; each argument reads behind the call as it read before'; 0 by the template 'total and deterministic' (their statements: YtjaeligooopbcaaTotals.lean).
  GIVEN WITH THE SEED: the statements are not yours to turn. If you find one false, say at which input.
  Laid BY PROGRAM, IN A SANDBOX (cutbox-rows.mjs): the forced cells as the released guide's own fill.sh prints them over the translation 623124568d2a247a… (all of the seat's roots in one cut). By AI agents, Wed Nov 11 2026. No macro, syntax, notation, axiom, sorry.
-/
import Derived.Test.YtjaeligooopbcaaChecked
import GoSem.Claim
import GoSem.ClaimJoined
import GoSem.ClaimMapViews
import Derived.JoinedTies
import Derived.KernelRfl
namespace Go.Proofs.Ytjaeligooopbcaa
/- THE CELL 'sum', in the pinned program and in every row, IS THE sha256 OF THE DUMP (.gsa) THAT YtjaeligooopbcaaProg.lean LOADS. Nothing in Lean hashes anything: it is a label: what it is worth is what the hold of that sum in a sandbox is worth. -/
noncomputable def Try.pinned : Pinned := { name := "ytjaeligooopbcaa", sum := "623124568d2a247a203ee1d3344a536ef792c0c47cb49a1a406499180166a18e", checked := Try.checked }
namespace Rows
def none {H : Type} : Left H := { results := [], args := [] }

/-- 'almonrylaw03.HexaPuts': WHATEVER THE INPUT: true; the input reads as it did. -/
def hexaPutsSpec : ChangeSpec := { name := "hexaPuts", fn := fun _ => fun
  | [d1, d2] => { results := [.lit (.bool true)], args := [d1, d2] }
  | _ => none }
def hexaPutsRow : OpenClaim := { program := "ytjaeligooopbcaa", sum := "623124568d2a247a203ee1d3344a536ef792c0c47cb49a1a406499180166a18e", func := "almonry/almonrylaw03.HexaPuts", spec := "hexaPuts", apart := false }
def HexaPutsSaid : Prop := hexaPutsRow.holds Try.pinned (OpenSpec.ofChange hexaPutsSpec)

/-- ITS FALSE NEIGHBOUR: 'it returns false'. Refute it at one input. -/
def hexaPutsWrong : ChangeSpec := { name := "hexaPuts", fn := fun _ => fun
  | [d1, d2] => { results := [.lit (.bool false)], args := [d1, d2] }
  | _ => none }
def HexaPutsWrongFalsely : Prop := hexaPutsRow.holds Try.pinned (OpenSpec.ofChange hexaPutsWrong)

/-- 'almonrylaw03.HexaBack': WHATEVER THE INPUT: true; the input reads as it did. -/
def hexaBackSpec : ChangeSpec := { name := "hexaBack", fn := fun _ => fun
  | [d1, d2] => { results := [.lit (.bool true)], args := [d1, d2] }
  | _ => none }
def hexaBackRow : OpenClaim := { program := "ytjaeligooopbcaa", sum := "623124568d2a247a203ee1d3344a536ef792c0c47cb49a1a406499180166a18e", func := "almonry/almonrylaw03.HexaBack", spec := "hexaBack", apart := false }
def HexaBackSaid : Prop := hexaBackRow.holds Try.pinned (OpenSpec.ofChange hexaBackSpec)

/-- ITS FALSE NEIGHBOUR: 'it returns false'. Refute it at one input. -/
def hexaBackWrong : ChangeSpec := { name := "hexaBack", fn := fun _ => fun
  | [d1, d2] => { results := [.lit (.bool false)], args := [d1, d2] }
  | _ => none }
def HexaBackWrongFalsely : Prop := hexaBackRow.holds Try.pinned (OpenSpec.ofChange hexaBackWrong)

/-- 'almonrylaw03.HexaOrder': WHATEVER THE INPUT: true; the input reads as it did. -/
def hexaOrderSpec : ChangeSpec := { name := "hexaOrder", fn := fun _ => fun
  | [d1, d2] => { results := [.lit (.bool true)], args := [d1, d2] }
  | _ => none }
def hexaOrderRow : OpenClaim := { program := "ytjaeligooopbcaa", sum := "623124568d2a247a203ee1d3344a536ef792c0c47cb49a1a406499180166a18e", func := "almonry/almonrylaw03.HexaOrder", spec := "hexaOrder", apart := false }
def HexaOrderSaid : Prop := hexaOrderRow.holds Try.pinned (OpenSpec.ofChange hexaOrderSpec)

/-- ITS FALSE NEIGHBOUR: 'it returns false'. Refute it at one input. -/
def hexaOrderWrong : ChangeSpec := { name := "hexaOrder", fn := fun _ => fun
  | [d1, d2] => { results := [.lit (.bool false)], args := [d1, d2] }
  | _ => none }
def HexaOrderWrongFalsely : Prop := hexaOrderRow.holds Try.pinned (OpenSpec.ofChange hexaOrderWrong)

/- THE SECOND FORM. 'bulk': how many values and letters a reading holds, each counted each time it is reached (what is shared counts as often as it is met; a slice's spare places count too). A statement '..UptoSaid' is the law's where the arguments, and the package variables that the reading takes, are together of bulk at most 1048576: NARROWER than '..Said'. Prove '..Said' where nothing that the law and all that it calls make is longer than what came in: it says more and counts as full. Else prove '..UptoSaid'. A law counts once. -/
mutual
def uptoBulk {H : Type} : DataW H → Nat
  | .lit (.string bytes) => bytes.length + 1
  | .lit _ => 1
  | .nil => 1
  | .ptr d => uptoBulk d + 1
  | .slice elems spare => uptoBulkAll elems + uptoBulkAll spare + 1
  | .agg parts => uptoBulkAll parts + 1
  | .iface _ d => uptoBulk d + 1
  | .map entries => uptoBulkEntries entries + 1
  | .held _ => 1
def uptoBulkAll {H : Type} : List (DataW H) → Nat
  | [] => 0
  | d :: r => uptoBulk d + uptoBulkAll r
def uptoBulkEntries {H : Type} : List (Lit × DataW H) → Nat
  | [] => 0
  | x :: r => uptoBulkEntry x + uptoBulkEntries r
def uptoBulkEntry {H : Type} : Lit × DataW H → Nat
  | (.string bytes, d) => bytes.length + uptoBulk d + 1
  | (_, d) => uptoBulk d + 1
 end
def uptoSmall : (H : Type) → List (DataW H) → Bool := fun _ ds => decide (uptoBulkAll ds ≤ 1048576)
def OpenSpec.upto (s : _root_.Go.ChangeSpec) : _root_.Go.OpenSpec := { _root_.Go.OpenSpec.ofChange s with cond := some uptoSmall }

/-- 'almonrylaw03.HexaPuts', WHERE WHAT IT READS IS OF BULK AT MOST 1048576: true; the input reads as it did. -/
def hexaPutsUptoRow : OpenClaim := { program := "ytjaeligooopbcaa", sum := "623124568d2a247a203ee1d3344a536ef792c0c47cb49a1a406499180166a18e", func := "almonry/almonrylaw03.HexaPuts", spec := "hexaPuts", apart := false, narrowed := true }
def HexaPutsUptoSaid : Prop := hexaPutsUptoRow.holds Try.pinned (OpenSpec.upto hexaPutsSpec)

/-- 'almonrylaw03.HexaBack', WHERE WHAT IT READS IS OF BULK AT MOST 1048576: true; the input reads as it did. -/
def hexaBackUptoRow : OpenClaim := { program := "ytjaeligooopbcaa", sum := "623124568d2a247a203ee1d3344a536ef792c0c47cb49a1a406499180166a18e", func := "almonry/almonrylaw03.HexaBack", spec := "hexaBack", apart := false, narrowed := true }
def HexaBackUptoSaid : Prop := hexaBackUptoRow.holds Try.pinned (OpenSpec.upto hexaBackSpec)

/-- 'almonrylaw03.HexaOrder', WHERE WHAT IT READS IS OF BULK AT MOST 1048576: true; the input reads as it did. -/
def hexaOrderUptoRow : OpenClaim := { program := "ytjaeligooopbcaa", sum := "623124568d2a247a203ee1d3344a536ef792c0c47cb49a1a406499180166a18e", func := "almonry/almonrylaw03.HexaOrder", spec := "hexaOrder", apart := false, narrowed := true }
def HexaOrderUptoSaid : Prop := hexaOrderUptoRow.holds Try.pinned (OpenSpec.upto hexaOrderSpec)

end Rows
end Go.Proofs.Ytjaeligooopbcaa
