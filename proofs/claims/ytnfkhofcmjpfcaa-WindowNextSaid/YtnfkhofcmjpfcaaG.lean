/-
  The walks of WindowIn and WindowNext at an argument as it comes in.
-/
import Derived.Test.YtnfkhofcmjpfcaaF
import Derived.Test.YtnfkhofcmjpfcaaOpen
namespace Go.Proofs.Ytnfkhofcmjpfcaa
open Go.RowKit Go.WideShapes Go.ChangeShapes Go.ChangeAt Go.Deep
def encP (p : Int × Int) : List Value := [.int .i64 p.1, .int .i64 p.2]
theorem Ps.of {w : World} {a : Option Addr} {ps : List (Int × Int)} (h : Sl encP 2 w a ps) : Ps w a ps := by
  intro i hi
  obtain ⟨b, o, ha, hlt, hc⟩ := h i hi
  exact ⟨b, o, ha, hlt, hc 0 _ rfl, hc 1 _ rfl⟩
theorem open_pairs {H : Type} {enc : TypeId × Value → H} {w : World} {base base0 : Nat} {spare : Bool} {held : TypeId → Bool} {r : Reach} {v : Value} {d : DataW H} {p : List MemPlace}
    (hv : Value.okWide Try.prog w r base0 22 v) (h : DataW.Trod enc Try.prog w base held spare 22 v d p) :
    ∃ ps : List (Int × Int), (∃ a cap, v = .slice a ps.length cap ∧ ps.length ≤ cap ∧ Sl encP 2 w a ps) ∧ ps.length ≤ maxLen ∧ ∀ x ∈ ps, True :=
  open_sl encP (fun _ => True) 2 Try.underlying22 (by kernel_rfl) (by omega) (fun _ => rfl) (fun n cs y hy => by
    obtain ⟨zs, rfl, hl, _⟩ := open_arr_of Try.underlying29 Try.underlying3 (by kernel_rfl) (by kernel_rfl) hy
    obtain ⟨a, b, rfl⟩ := list2 hl
    exact ⟨(a, b), rfl, trivial⟩) hv h
theorem in_law (v0 : Value) (ps : List (Int × Int)) (n : Int) (w : World) (w0 : (∃ a cap, v0 = .slice a ps.length cap ∧ ps.length ≤ cap ∧ Sl encP 2 w a ps) ∧ ps.length ≤ maxLen ∧ ∀ x ∈ ps, True) (_w1 : (Lit.int .i64 n).wf = true) :
    Calls Try.prog 3 #[v0, .int .i64 n] w fun e w' => e = .returned (.bool true) ∧ Below w.heap.size w w' := by
  obtain ⟨⟨a, cap, rfl, _, hs⟩, _⟩ := w0
  exact in_walk a ps cap n w (Ps.of hs)
theorem next_law (v0 : Value) (ps : List (Int × Int)) (n : Int) (w : World) (w0 : (∃ a cap, v0 = .slice a ps.length cap ∧ ps.length ≤ cap ∧ Sl encP 2 w a ps) ∧ ps.length ≤ maxLen ∧ ∀ x ∈ ps, True) (_w1 : (Lit.int .i64 n).wf = true) :
    Calls Try.prog 4 #[v0, .int .i64 n] w fun e w' => e = .returned (.bool true) ∧ Below w.heap.size w w' := by
  obtain ⟨⟨a, cap, rfl, _, hs⟩, _⟩ := w0
  exact next_walk a ps cap n w (Ps.of hs)
end Go.Proofs.Ytnfkhofcmjpfcaa
