/-
  The law of QuotaNone. Conditions: none.
-/
import Derived.Test.YtbilnkgicpkdnaaD
import Derived.Test.YtbilnkgicpkdnaaOpen
set_option linter.unusedVariables false
set_option linter.unusedSimpArgs false
namespace Go.Proofs.Ytbilnkgicpkdnaa
open Go.RowKit Go.WideShapes Go.ChangeShapes Go.ChangeAt Go.Deep
set_option maxHeartbeats 4000000 in
theorem none_walk (gv : Bool) (s : ByteArray) (n : Int) (w : World) : Calls Try.prog 4 #[.agg #[.bool gv, .string s, .int .i64 n]] w fun e w' => e = .returned (.bool true) ∧ Below w.heap.size w w' := by
  have HB := Lib.hid (below_new w (.cells #[.bool gv, .string s, .int .i64 n] 29))
  go_enter Try.func4, Try.ntmps4
  go_wp2_with fail
  refine (take_nil s n _).mono ?_
  rintro e w1 ⟨rfl, rfl⟩
  go_wp2_with fail
  refine (give_nil s n _).mono ?_
  rintro e w1 ⟨rfl, rfl⟩
  go_wp2_with fail
  refine (of_nil s _).mono ?_
  rintro e w1 ⟨rfl, rfl⟩
  go_wp2_with fail
  refine (left_nil _).mono ?_
  rintro e w1 ⟨rfl, rfl⟩
  go_wp2_with fail
  refine (awake_any _).mono ?_
  rintro e w1 ⟨rfl, hb⟩
  have HB2 := Lib.hid (below_step HB.out (Nat.le_refl _) hb)
  clear hb
  go_wp2
  go_ret
  exact ⟨rfl, HB2.out⟩
def DeedOk (v : Value) : Prop := ∃ gv s n, v = .agg #[.bool gv, .string s, .int .i64 n]
theorem deed_of {H : Type} {enc : TypeId × Value → H} {w : World} {base n : Nat} {spare : Bool} {held : TypeId → Bool} {cs : List Value} {x : DataW H × List MemPlace}
    (h : DataW.trod enc Try.prog w base held spare n 29 cs = some x) : ∃ (gv : Bool) (s : ByteArray) (k : Int), cs = [.bool gv, .string s, .int .i64 k] ∧ s.size ≤ maxLen ∧ (Lit.int .i64 k).wf = true := by
  have hl := trod_len Try.underlying29 h
  rw [show Try.prog.cellsOf 29 = 3 by kernel_rfl] at hl
  obtain ⟨c0, c1, c2, rfl⟩ := list3 hl
  obtain ⟨_, _, e0⟩ := trod_part Try.underlying29 h 0 4 0 1 rfl rfl rfl (by kernel_rfl)
  obtain ⟨_, _, e1⟩ := trod_part Try.underlying29 h 1 9 1 1 rfl rfl rfl (by kernel_rfl)
  obtain ⟨_, _, e2⟩ := trod_part Try.underlying29 h 2 3 2 1 rfl rfl rfl (by kernel_rfl)
  simp only [List.drop_zero, List.drop_succ_cons, List.take_succ_cons, List.take_zero] at e0 e1 e2
  obtain ⟨gv, k0, _⟩ := DataW.trod_bool Try.underlying4 e0
  obtain ⟨s, k1, _, hs⟩ := DataW.trod_string Try.underlying9 e1
  obtain ⟨k, k2, _, hk⟩ := DataW.trod_int Try.underlying3 e2
  simp only [List.cons.injEq, and_true] at k0 k1 k2
  subst k0 k1 k2
  exact ⟨gv, s, k, rfl, hs, hk⟩
theorem open_deed {H : Type} {enc : TypeId × Value → H} {w : World} {base base0 : Nat} {spare : Bool} {held : TypeId → Bool} {r : Reach} {v : Value} {d : DataW H} {p : List MemPlace}
    (hv : Value.okWide Try.prog w r base0 29 v) (h : DataW.Trod enc Try.prog w base held spare 29 v d p) : ∃ x : Unit, DeedOk v := by
  obtain ⟨cs, rfl⟩ := agg_of Try.underlying29 hv
  obtain ⟨fuel, hf⟩ := h
  simp only [Value.cells] at hf
  obtain ⟨gv, s, k, e, _⟩ := deed_of hf
  obtain ⟨l⟩ := cs
  simp only at e
  exact ⟨(), gv, s, k, by rw [e]⟩
theorem none_law (v : Value) (_x : Unit) (w : World) (h : DeedOk v) : Calls Try.prog 4 #[v] w fun e w' => e = .returned (.bool true) ∧ Below w.heap.size w w' := by
  obtain ⟨gv, s, n, rfl⟩ := h
  exact none_walk gv s n w
end Go.Proofs.Ytbilnkgicpkdnaa

