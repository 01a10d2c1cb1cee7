/-
  The walk of StampRises at arguments as they come in.
-/
import Derived.Test.YteijamnihfhndaaI
namespace Go.Proofs.Yteijamnihfhndaa
open Go.RowKit Go.WideShapes Go.ChangeShapes Go.ChangeAt Go.Deep
theorem open_sts {H : Type} {enc : TypeId × Value → H} {w : World} {base base0 : Nat} {spare : Bool} {held : TypeId → Bool} {r : Reach} {v : Value} {d : DataW H} {p : List MemPlace}
    (hv : Value.okWide Try.prog w r base0 37 v) (h : DataW.Trod enc Try.prog w base held spare 37 v d p) :
    ∃ ps : List St, (∃ a cap, v = .slice a ps.length cap ∧ ps.length ≤ cap ∧ Sl encS 3 w a ps) ∧ ps.length ≤ maxLen ∧ ∀ x ∈ ps, True :=
  open_sl encS (fun _ => True) 3 Try.underlying37 (by kernel_rfl) (by omega) (fun _ => rfl) (fun n cs y hy => by
    obtain ⟨y0, y1, y2, m, _, hl, h0, h1, h2⟩ := trod_struct3 Try.underlying23 hy
    obtain ⟨x0, e0, _, _⟩ := DataW.trod_int Try.underlying3 h0
    obtain ⟨x1, e1, _, _⟩ := DataW.trod_int Try.underlying3 h1
    obtain ⟨x2, e2, _, _⟩ := DataW.trod_int Try.underlying3 h2
    have k3 : Try.prog.cellsOf 3 = 1 := by kernel_rfl
    obtain ⟨c0, c1, c2, rfl⟩ := list3 (hl.trans (show Try.prog.cellsOf 23 = 3 by kernel_rfl))
    simp [k3] at e0 e1 e2
    subst e0 e1 e2
    exact ⟨⟨x0, x1, x2⟩, rfl, trivial⟩) hv h
theorem rises_law (v0 : Value) (l : List St) (r0 : Int) (w : World) (w0 : (∃ a cap, v0 = .slice a l.length cap ∧ l.length ≤ cap ∧ Sl encS 3 w a l) ∧ l.length ≤ maxLen ∧ ∀ x ∈ l, True) (w1 : (Lit.int .u8 r0).wf = true) :
    Calls Try.prog 4 #[v0, .int .u8 r0] w fun e w' => e = .returned (.bool true) ∧ Below w.heap.size w w' := by
  obtain ⟨⟨a, cap, rfl, _, hs⟩, _⟩ := w0
  obtain ⟨h0, h1⟩ := bounds_u8 w1
  obtain ⟨r, rfl⟩ := Int.eq_ofNat_of_zero_le h0
  exact rises_walk a l cap r w (by omega) hs
end Go.Proofs.Yteijamnihfhndaa
