/-
  The law of LruNone.
-/
import Derived.Test.YthahddaihkajbaaN
import Derived.Test.YthahddaihkajbaaOpen
set_option linter.unusedVariables false
set_option linter.unusedSimpArgs false
namespace Go.Proofs.Ythahddaihkajbaa
open Go.RowKit
set_option maxHeartbeats 4000000 in
theorem none_walk (kd : Int) (k x : ByteArray) (w : World) : Calls Try.prog 4 #[.agg #[.int .i64 kd, .string k, .string x]] w fun e w' => e = .returned (.bool true) ∧ Below w.heap.size w w' := by
  have HB := Lib.hid (below_new w (.cells #[.int .i64 kd, .string k, .string x] 30))
  go_enter Try.func4, Try.ntmps4
  go_wp2_with fail
  refine (put_nil _ _ _).mono ?_
  rintro e w1 ⟨rfl, rfl⟩
  go_wp2_with fail
  refine (get_nil _ _).mono ?_
  rintro e w1 ⟨rfl, rfl⟩
  go_wp2_with fail
  refine (drop_nil _ _).mono ?_
  rintro e w1 ⟨rfl, rfl⟩
  go_wp2_with fail
  refine (keys_nil _).mono ?_
  rintro e w1 ⟨rfl, rfl⟩
  go_wp2_with fail
  refine (awake_any _).mono ?_
  rintro e w2 ⟨rfl, hb⟩
  have HB2 := Lib.hid (below_step HB.out (Nat.le_refl _) hb)
  clear hb
  go_wp2
  go_ret
  exact ⟨rfl, HB2.out⟩
theorem deed_of {H : Type} {enc : TypeId × Value → H} {w : World} {base n : Nat} {spare : Bool} {held : TypeId → Bool} {cs : List Value} {x : DataW H × List MemPlace}
    (h : DataW.trod enc Try.prog w base held spare n 30 cs = some x) : ∃ (kd : Int) (s t : ByteArray), cs = [.int .i64 kd, .string s, .string t] ∧ s.size ≤ maxLen ∧ t.size ≤ maxLen := by
  have hl := trod_len Try.underlying30 h
  rw [show Try.prog.cellsOf 30 = 3 by kernel_rfl] at hl
  match cs, hl with
  | [c0, c1, c2], _ =>
    obtain ⟨_, _, e0⟩ := trod_part Try.underlying30 h 0 3 0 1 rfl rfl rfl (by kernel_rfl)
    obtain ⟨_, _, e1⟩ := trod_part Try.underlying30 h 1 9 1 1 rfl rfl rfl (by kernel_rfl)
    obtain ⟨_, _, e2⟩ := trod_part Try.underlying30 h 2 9 2 1 rfl rfl rfl (by kernel_rfl)
    simp only [List.drop_zero, List.drop_succ_cons, List.take_succ_cons, List.take_zero] at e0 e1 e2
    obtain ⟨kd, k0, _⟩ := DataW.trod_int Try.underlying3 e0
    obtain ⟨s, k1, _, hs⟩ := DataW.trod_string Try.underlying9 e1
    obtain ⟨t, k2, _, ht⟩ := DataW.trod_string Try.underlying9 e2
    simp only [List.cons.injEq, and_true] at k0 k1 k2
    subst k0 k1 k2
    exact ⟨kd, s, t, rfl, hs, ht⟩
def DeedOk (v : Value) : Prop := ∃ (kd : Int) (s t : ByteArray), v = .agg #[.int .i64 kd, .string s, .string t]
theorem open_deed {H : Type} {enc : TypeId × Value → H} {w : World} {base base0 : Nat} {spare : Bool} {held : TypeId → Bool} {r : Reach} {v : Value} {d : DataW H} {p : List MemPlace}
    (hv : Value.okWide Try.prog w r base0 30 v) (h : DataW.Trod enc Try.prog w base held spare 30 v d p) : ∃ x : Unit, DeedOk v := by
  obtain ⟨cs, rfl⟩ := agg_of Try.underlying30 hv
  obtain ⟨fuel, hf⟩ := h
  simp only [Value.cells] at hf
  obtain ⟨kd, s, t, e, _⟩ := deed_of hf
  obtain ⟨l⟩ := cs
  simp only at e
  exact ⟨(), kd, s, t, by rw [e]⟩
theorem none_law (v : Value) (_x : Unit) (w : World) (h : DeedOk v) : Calls Try.prog 4 #[v] w fun e w' => e = .returned (.bool true) ∧ Below w.heap.size w w' := by
  obtain ⟨kd, s, t, rfl⟩ := h
  exact none_walk kd s t w
end Go.Proofs.Ythahddaihkajbaa

