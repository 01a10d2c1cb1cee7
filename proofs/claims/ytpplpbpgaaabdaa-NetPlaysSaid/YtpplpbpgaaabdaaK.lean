/-
  The law of NetPlays for all arguments that the row lets in. Conditions: none.
-/
import Derived.Test.YtpplpbpgaaabdaaJ
set_option linter.unusedVariables false
set_option linter.unusedSimpArgs false
namespace Go.Proofs.Ytpplpbpgaaabdaa
open Go.RowKit Go.WideShapes Go.ChangeShapes Go.ChangeAt Go.Deep
def DeedsOk (w : World) (v : Value) : Prop := ∃ (l : List Deed) (a : Option Addr) (cap : Nat), v = .slice a l.length cap ∧ Sl encD 4 w a l ∧ ∀ d ∈ l, -9223372036854775808 ≤ d.2.2.1 ∧ d.2.2.1 ≤ 9223372036854775807
theorem open_deeds {H : Type} {enc : TypeId × Value → H} {w : World} {base base0 : Nat} {spare : Bool} {held : TypeId → Bool} {r : Reach} {v : Value} {d : DataW H} {p : List MemPlace}
    (hv : Value.okWide Try.prog w r base0 22 v) (h : DataW.Trod enc Try.prog w base held spare 22 v d p) : ∃ x : Unit, DeedsOk w v := by
  obtain ⟨xs, ⟨a, cap, rfl, _, hs⟩, _, hg⟩ := open_sl encD (fun d => -9223372036854775808 ≤ d.2.2.1 ∧ d.2.2.1 ≤ 9223372036854775807) 4 Try.underlying22 (by kernel_rfl) (by omega) (fun _ => rfl) (fun n cs y hy => by
    obtain ⟨kd, to, i, s, rfl, hi⟩ := deed_of hy
    exact ⟨(kd, to, i, s), rfl, hi⟩) hv h
  exact ⟨(), xs, a, cap, rfl, hs, hg⟩
theorem plays_law (m : Int) (v : Value) (_x : Unit) (w : World) (w0 : (Lit.int .i64 m).wf = true) (h : DeedsOk w v) : Calls Try.prog 3 #[.int .i64 m, v] w fun e w' => e = .returned (.bool true) ∧ Below w.heap.size w w' := by
  obtain ⟨l, a, cap, rfl, hs, hi⟩ := h
  by_cases hl : l.length ≤ 60
  · by_cases hm : m < 1 ∨ 4096 < m
    · exact bad_walk m a l.length cap w hl hm
    · exact plays_walk m a l cap w hl (by omega) (by omega) hs hi
  · exact long_walk m a l.length cap w (by omega)
end Go.Proofs.Ytpplpbpgaaabdaa
