/-
  A list of texts that came in.
-/
import Derived.Test.YtkpnhiafdfbogaaDoorOpen
import Derived.Test.YtkpnhiafdfbogaaDoorProg
set_option linter.unusedVariables false
set_option linter.unusedSimpArgs false
namespace Go.Proofs.YtkpnhiafdfbogaaDoor
open Go.RowKit Go.WideShapes Go.ChangeShapes Go.ChangeAt Go.Deep
def strC (s : ByteArray) : List Value := [.string s]
theorem strs_of {H : Type} {enc : TypeId × Value → H} {w : World} {base n : Nat} {spare : Bool} {held : TypeId → Bool} {cs : List Value} {x : DataW H × List MemPlace}
    (h : DataW.trod enc Tryd.prog w base held spare n 25 cs = some x) :
    ∃ xs : List ByteArray, (∃ a cap, cs = [.slice a xs.length cap] ∧ xs.length ≤ cap ∧ Sl strC 1 w a xs) ∧ xs.length ≤ maxLen ∧ ∀ x ∈ xs, x.size ≤ maxLen := by
  exact open_sl_of strC (fun s => s.size ≤ maxLen) 1 Tryd.underlying25 (by kernel_rfl) (by omega) (fun _ => rfl) (fun n cs y hy => by
    obtain ⟨s, k1, _, hs⟩ := DataW.trod_string Tryd.underlying9 hy
    exact ⟨s, k1, hs⟩) h
def StrsOk (l : List ByteArray) (w : World) (v : Value) : Prop := ∃ a cap, v = .slice a l.length cap ∧ l.length ≤ cap ∧ l.length ≤ maxLen ∧ Sl strC 1 w a l ∧ ∀ s ∈ l, s.size ≤ maxLen
theorem open_strs {H : Type} {enc : TypeId × Value → H} {w : World} {base base0 : Nat} {spare : Bool} {held : TypeId → Bool} {r : Reach} {v : Value} {d : DataW H} {p : List MemPlace}
    (hv : Value.okWide Tryd.prog w r base0 25 v) (h : DataW.Trod enc Tryd.prog w base held spare 25 v d p) : ∃ l, StrsOk l w v := by
  obtain ⟨xs, ⟨a, cap, rfl, hcap, hs⟩, hl, hg⟩ := open_sl strC (fun s => s.size ≤ maxLen) 1 Tryd.underlying25 (by kernel_rfl) (by omega) (fun _ => rfl) (fun n cs y hy => by
    obtain ⟨s, k1, _, hs⟩ := DataW.trod_string Tryd.underlying9 hy
    exact ⟨s, k1, hs⟩) hv h
  exact ⟨xs, a, cap, rfl, hcap, hl, hs, hg⟩
end Go.Proofs.YtkpnhiafdfbogaaDoor
