/-
  How a stamp that comes in is opened; the walk of StampOrder at stamps as they come in.
-/
import Derived.Test.YteijamnihfhndaaF
import Derived.Test.YteijamnihfhndaaOpen
import Derived.Lib.SmallJoins
namespace Go.Proofs.Yteijamnihfhndaa
open Go.RowKit Go.WideShapes Go.ChangeShapes Go.ChangeAt Go.Deep Go.Joins
theorem open_st {H : Type} {enc : TypeId × Value → H} {w : World} {base base0 : Nat} {spare : Bool} {held : TypeId → Bool} {r : Reach} {v : Value} {d : DataW H} {p : List MemPlace}
    (hv : Value.okWide Try.prog w r base0 23 v) (h : DataW.Trod enc Try.prog w base held spare 23 v d p) :
    ∃ a : St, v = ag a ∧ (Lit.int .i64 a.t).wf = true ∧ (Lit.int .i64 a.c).wf = true ∧ (Lit.int .i64 a.r).wf = true := by
  obtain ⟨c0, c1, c2, y0, y1, y2, n, rfl, _, _, h0, h1, h2⟩ := open_agg3 Try.underlying23 (by kernel_rfl) (by kernel_rfl) hv h
  obtain ⟨x, e0, _, wx⟩ := DataW.trod_int Try.underlying3 h0
  obtain ⟨y, e1, _, wy⟩ := DataW.trod_int Try.underlying3 h1
  obtain ⟨z, e2, _, wz⟩ := DataW.trod_int Try.underlying3 h2
  simp at e0 e1 e2
  subst e0 e1 e2
  exact ⟨⟨x, y, z⟩, rfl, wx, wy, wz⟩
abbrev IsSt (v : Value) (a : St) : Prop := v = ag a ∧ (Lit.int .i64 a.t).wf = true ∧ (Lit.int .i64 a.c).wf = true ∧ (Lit.int .i64 a.r).wf = true
theorem order_law (v0 : Value) (a : St) (v1 : Value) (b : St) (v2 : Value) (c : St) (w : World) (w0 : IsSt v0 a) (w1 : IsSt v1 b) (w2 : IsSt v2 c) :
    Calls Try.prog 5 #[v0, v1, v2] w fun e w' => e = .returned (.bool true) ∧ Below w.heap.size w w' := by
  obtain ⟨rfl, _⟩ := w0
  obtain ⟨rfl, _⟩ := w1
  obtain ⟨rfl, _⟩ := w2
  exact order_walk a b c w
end Go.Proofs.Yteijamnihfhndaa
