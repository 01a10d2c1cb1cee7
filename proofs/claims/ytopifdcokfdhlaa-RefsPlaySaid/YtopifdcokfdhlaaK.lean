/-
  The law of RefsPlay for all arguments that the row lets in. Conditions: none.
-/
import Derived.Test.YtopifdcokfdhlaaH
set_option linter.unusedVariables false
set_option linter.unusedSimpArgs false
namespace Go.Proofs.Ytopifdcokfdhlaa
open Go.RowKit Go.WideShapes Go.ChangeShapes Go.ChangeAt Go.Deep
theorem deed_of {H : Type} {enc : TypeId × Value → H} {w : World} {base n : Nat} {spare : Bool} {held : TypeId → Bool} {cs : List Value} {x : DataW H × List MemPlace}
    (h : DataW.trod enc Try.prog w base held spare n 28 cs = some x) : ∃ d : Dd, cs = encD d ∧ d.ok w := by
  have hl := trod_len Try.underlying28 h
  rw [show Try.prog.cellsOf 28 = 2 by kernel_rfl] at hl
  obtain ⟨c0, c1, rfl⟩ := list2 hl
  obtain ⟨_, _, e0⟩ := trod_part Try.underlying28 h 0 4 0 1 rfl rfl rfl (by kernel_rfl)
  obtain ⟨_, _, e1⟩ := trod_part Try.underlying28 h 1 26 1 1 rfl rfl rfl (by kernel_rfl)
  simp only [List.drop_zero, List.drop_succ_cons, List.take_succ_cons, List.take_zero] at e0 e1
  obtain ⟨g, k0, _⟩ := DataW.trod_bool Try.underlying4 e0
  obtain ⟨xs, ⟨a, cap, k1, hc, hs⟩, _, hg⟩ := strs_of e1
  simp only [List.cons.injEq, and_true] at k0 k1
  subst k0 k1
  exact ⟨⟨g, xs, a, cap⟩, rfl, hc, hs, hg⟩
def DeedsOk (w : World) (v : Value) : Prop := ∃ (l : List Dd) (a : Option Addr) (cap : Nat), v = .slice a l.length cap ∧ Sl encD 2 w a l ∧ ∀ d ∈ l, d.ok w
theorem open_deeds {H : Type} {enc : TypeId × Value → H} {w : World} {base base0 : Nat} {spare : Bool} {held : TypeId → Bool} {r : Reach} {v : Value} {d : DataW H} {p : List MemPlace}
    (hv : Value.okWide Try.prog w r base0 22 v) (h : DataW.Trod enc Try.prog w base held spare 22 v d p) : ∃ x : Unit, DeedsOk w v := by
  obtain ⟨xs, ⟨a, cap, rfl, _, hs⟩, _, hg⟩ := open_sl encD (fun d => d.ok w) 2 Try.underlying22 (by kernel_rfl) (by omega) (fun _ => rfl) (fun n cs y hy => deed_of hy) hv h
  exact ⟨(), xs, a, cap, rfl, hs, hg⟩
theorem plays_law (v : Value) (_x : Unit) (w : World) (h : DeedsOk w v) : Calls Try.prog 3 #[v] w fun e w' => e = .returned (.bool true) ∧ Below w.heap.size w w' := by
  obtain ⟨l, a, cap, rfl, hs, hg⟩ := h
  by_cases hl : l.length ≤ 30
  · exact plays_walk a l cap w hl hs hg
  · exact long_walk a l.length cap w (by omega)
end Go.Proofs.Ytopifdcokfdhlaa

