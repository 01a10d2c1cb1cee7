/-
  The arguments opened: vectors and dots; the law of VectorReckons.
-/
import Derived.Test.YtommogkckooekaaV1
set_option linter.unusedVariables false
set_option linter.unusedSimpArgs false
namespace Go.Proofs.Ytommogkckooekaa
open Go.RowKit Go.WideShapes Go.ChangeShapes Go.ChangeAt Go.Deep
def VecOk (v : Value) : Prop := ∃ l : List Int, v = .agg (ints l).toArray ∧ l.length = 16
def DotOk (v : Value) : Prop := ∃ (r n : Int), v = .agg #[.int .i64 r, .int .i64 n]
theorem open_vec {H : Type} {enc : TypeId × Value → H} {w : World} {base base0 : Nat} {spare : Bool} {held : TypeId → Bool} {r : Reach} {v : Value} {d : DataW H} {p : List MemPlace}
    (hv : Value.okWide Try.prog w r base0 23 v) (h : DataW.Trod enc Try.prog w base held spare 23 v d p) : ∃ x : Unit, VecOk v := by
  obtain ⟨zs, e, hl, _⟩ := open_arr Try.underlying23 Try.underlying3 (by kernel_rfl) (by kernel_rfl) hv h
  exact ⟨(), zs, e, hl⟩
theorem dot_of {H : Type} {enc : TypeId × Value → H} {w : World} {base n : Nat} {spare : Bool} {held : TypeId → Bool} {cs : List Value} {x : DataW H × List MemPlace}
    (h : DataW.trod enc Try.prog w base held spare n 25 cs = some x) : ∃ (i b : Int), cs = [.int .i64 i, .int .i64 b] := by
  have hl := trod_len Try.underlying25 h
  rw [show Try.prog.cellsOf 25 = 2 by kernel_rfl] at hl
  match cs, hl with
  | [c0, c1], _ =>
    obtain ⟨_, _, e0⟩ := trod_part Try.underlying25 h 0 3 0 1 rfl rfl rfl (by kernel_rfl)
    obtain ⟨_, _, e1⟩ := trod_part Try.underlying25 h 1 3 1 1 rfl rfl rfl (by kernel_rfl)
    simp only [List.drop_zero, List.drop_succ_cons, List.take_succ_cons, List.take_zero] at e0 e1
    obtain ⟨i, k0, _⟩ := DataW.trod_int Try.underlying3 e0
    obtain ⟨b, k1, _⟩ := DataW.trod_int Try.underlying3 e1
    simp only [List.cons.injEq, and_true] at k0 k1
    subst k0 k1
    exact ⟨i, b, rfl⟩
theorem open_dot {H : Type} {enc : TypeId × Value → H} {w : World} {base base0 : Nat} {spare : Bool} {held : TypeId → Bool} {r : Reach} {v : Value} {d : DataW H} {p : List MemPlace}
    (hv : Value.okWide Try.prog w r base0 25 v) (h : DataW.Trod enc Try.prog w base held spare 25 v d p) : ∃ x : Unit, DotOk v := by
  obtain ⟨cs, rfl⟩ := agg_of Try.underlying25 hv
  obtain ⟨fuel, hf⟩ := h
  simp only [Value.cells] at hf
  obtain ⟨i, b, e⟩ := dot_of hf
  obtain ⟨l⟩ := cs
  simp only at e
  exact ⟨(), i, b, by rw [e]⟩
theorem reckons_law (u : Value) (_x : Unit) (v : Value) (_y : Unit) (d : Value) (_z : Unit) (w : World) (hu : VecOk u) (hv : VecOk v) (hd : DotOk d) : Calls Try.prog 3 #[u, v, d] w fun e w' => e = .returned (.bool true) ∧ Below w.heap.size w w' := by
  obtain ⟨a, rfl, ha⟩ := hu
  obtain ⟨b, rfl, hb⟩ := hv
  obtain ⟨r, n, rfl⟩ := hd
  exact reckons_walk a b r n w ha hb
end Go.Proofs.Ytommogkckooekaa

