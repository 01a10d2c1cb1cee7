/-
  No cell of these rows narrows 'for every input' (looked for: loops, veiled, ifaces, maps, wideKeys, modest, calm, conditions, laid).
  DERIVED. THE GIVEN ROWS OF THIS SEAT. 2 by the template 'for every input the law returns true; each argument reads behind the call as it read before'; 0 by the template 'total and deterministic' (their statements: YtogpjoenfcleoaaTotals.lean).
  GIVEN WITH THE SEED: the statements are not yours to turn. If you find one false, say at which input.
  Laid BY PROGRAM, IN A SANDBOX (cutbox-rows.mjs): the forced cells as the released guide's own fill.sh prints them over the translation 7b5005bd2a06ccab… (all of the seat's roots in one cut). By AI agents, Wed Nov 11 2026. No macro, syntax, notation, axiom, sorry.
-/
import Derived.Test.YtogpjoenfcleoaaChecked
import GoSem.Claim
import GoSem.ClaimJoined
import GoSem.ClaimMapViews
import Derived.JoinedTies
import Derived.KernelRfl
namespace Go.Proofs.Ytogpjoenfcleoaa
/- THE CELL 'sum', in the pinned program and in every row, IS THE sha256 OF THE DUMP (.gsa) THAT YtogpjoenfcleoaaProg.lean LOADS. Nothing in Lean hashes anything: it is a label: what it is worth is what the hold of that sum in a sandbox is worth. -/
noncomputable def Try.pinned : Pinned := { name := "ytogpjoenfcleoaa", sum := "7b5005bd2a06ccab33e7b824788ea7f5725dcdb0dd90cc6165e47ef583b0ff73", checked := Try.checked }
namespace Rows
def none {H : Type} : Left H := { results := [], args := [] }

/-- 'almonrylaw47.SievePlays': WHATEVER THE INPUT: true; the input reads as it did. -/
def sievePlaysSpec : ChangeSpec := { name := "sievePlays", fn := fun _ => fun
  | [d1, d2, d3] => { results := [.lit (.bool true)], args := [d1, d2, d3] }
  | _ => none }
def sievePlaysRow : OpenClaim := { program := "ytogpjoenfcleoaa", sum := "7b5005bd2a06ccab33e7b824788ea7f5725dcdb0dd90cc6165e47ef583b0ff73", func := "almonry/almonrylaw47.SievePlays", spec := "sievePlays", apart := false }
def SievePlaysSaid : Prop := sievePlaysRow.holds Try.pinned (OpenSpec.ofChange sievePlaysSpec)

/-- ITS FALSE NEIGHBOUR: 'it returns false'. Refute it at one input. -/
def sievePlaysWrong : ChangeSpec := { name := "sievePlays", fn := fun _ => fun
  | [d1, d2, d3] => { results := [.lit (.bool false)], args := [d1, d2, d3] }
  | _ => none }
def SievePlaysWrongFalsely : Prop := sievePlaysRow.holds Try.pinned (OpenSpec.ofChange sievePlaysWrong)

/-- 'almonrylaw47.SieveJoins': WHATEVER THE INPUT: true; the input reads as it did. -/
def sieveJoinsSpec : ChangeSpec := { name := "sieveJoins", fn := fun _ => fun
  | [d1, d2] => { results := [.lit (.bool true)], args := [d1, d2] }
  | _ => none }
def sieveJoinsRow : OpenClaim := { program := "ytogpjoenfcleoaa", sum := "7b5005bd2a06ccab33e7b824788ea7f5725dcdb0dd90cc6165e47ef583b0ff73", func := "almonry/almonrylaw47.SieveJoins", spec := "sieveJoins", apart := false }
def SieveJoinsSaid : Prop := sieveJoinsRow.holds Try.pinned (OpenSpec.ofChange sieveJoinsSpec)

/-- ITS FALSE NEIGHBOUR: 'it returns false'. Refute it at one input. -/
def sieveJoinsWrong : ChangeSpec := { name := "sieveJoins", fn := fun _ => fun
  | [d1, d2] => { results := [.lit (.bool false)], args := [d1, d2] }
  | _ => none }
def SieveJoinsWrongFalsely : Prop := sieveJoinsRow.holds Try.pinned (OpenSpec.ofChange sieveJoinsWrong)

/- THE SECOND FORM. 'bulk': how many values and letters a reading holds, each counted each time it is reached (what is shared counts as often as it is met; a slice's spare places count too). A statement '..UptoSaid' is the law's where the arguments, and the package variables that the reading takes, are together of bulk at most 1048576: NARROWER than '..Said'. Prove '..Said' where nothing that the law and all that it calls make is longer than what came in: it says more and counts as full. Else prove '..UptoSaid'. A law counts once. -/
mutual
def uptoBulk {H : Type} : DataW H → Nat
  | .lit (.string bytes) => bytes.length + 1
  | .lit _ => 1
  | .nil => 1
  | .ptr d => uptoBulk d + 1
  | .slice elems spare => uptoBulkAll elems + uptoBulkAll spare + 1
  | .agg parts => uptoBulkAll parts + 1
  | .iface _ d => uptoBulk d + 1
  | .map entries => uptoBulkEntries entries + 1
  | .held _ => 1
def uptoBulkAll {H : Type} : List (DataW H) → Nat
  | [] => 0
  | d :: r => uptoBulk d + uptoBulkAll r
def uptoBulkEntries {H : Type} : List (Lit × DataW H) → Nat
  | [] => 0
  | x :: r => uptoBulkEntry x + uptoBulkEntries r
def uptoBulkEntry {H : Type} : Lit × DataW H → Nat
  | (.string bytes, d) => bytes.length + uptoBulk d + 1
  | (_, d) => uptoBulk d + 1
 end
def uptoSmall : (H : Type) → List (DataW H) → Bool := fun _ ds => decide (uptoBulkAll ds ≤ 1048576)
def OpenSpec.upto (s : _root_.Go.ChangeSpec) : _root_.Go.OpenSpec := { _root_.Go.OpenSpec.ofChange s with cond := some uptoSmall }

/-- 'almonrylaw47.SievePlays', WHERE WHAT IT READS IS OF BULK AT MOST 1048576: true; the input reads as it did. -/
def sievePlaysUptoRow : OpenClaim := { program := "ytogpjoenfcleoaa", sum := "7b5005bd2a06ccab33e7b824788ea7f5725dcdb0dd90cc6165e47ef583b0ff73", func := "almonry/almonrylaw47.SievePlays", spec := "sievePlays", apart := false, narrowed := true }
def SievePlaysUptoSaid : Prop := sievePlaysUptoRow.holds Try.pinned (OpenSpec.upto sievePlaysSpec)

/-- 'almonrylaw47.SieveJoins', WHERE WHAT IT READS IS OF BULK AT MOST 1048576: true; the input reads as it did. -/
def sieveJoinsUptoRow : OpenClaim := { program := "ytogpjoenfcleoaa", sum := "7b5005bd2a06ccab33e7b824788ea7f5725dcdb0dd90cc6165e47ef583b0ff73", func := "almonry/almonrylaw47.SieveJoins", spec := "sieveJoins", apart := false, narrowed := true }
def SieveJoinsUptoSaid : Prop := sieveJoinsUptoRow.holds Try.pinned (OpenSpec.upto sieveJoinsSpec)

end Rows
end Go.Proofs.Ytogpjoenfcleoaa
