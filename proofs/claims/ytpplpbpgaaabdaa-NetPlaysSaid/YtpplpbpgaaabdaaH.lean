/-
  The contract of the law's awake, and the law of NetNone. Conditions: none.
-/
import Derived.Test.YtpplpbpgaaabdaaG
import Derived.Test.YtpplpbpgaaabdaaOpen
set_option linter.unusedVariables false
set_option linter.unusedSimpArgs false
namespace Go.Proofs.Ytpplpbpgaaabdaa
open Go.RowKit Go.WideShapes Go.ChangeShapes Go.ChangeAt Go.Deep
theorem Ns.below {C p B : Nat} {v : Value} {ms : List Msg} {room : Int} {w w' : World} (h : Ns w p B v ms room) (k : Kp (fun j => j = p ∨ v.ownBlock = some j) w w') (hC : C ≤ p) : Below C w w' :=
  k.below (by have := h.2.2; omega) (fun j hj => by
    rcases hj with rfl | hj
    · exact hC
    · have := (h.2.1.lt j hj).1; have := h.2.2.1; omega)
def za : ByteArray := ⟨#[97]⟩
def zb : ByteArray := ⟨#[98]⟩
def zc : ByteArray := ⟨#[99]⟩
set_option maxHeartbeats 4000000 in
theorem awake_any (w : World) : Calls Try.prog 5 #[] w fun e w' => e = .returned (.bool true) ∧ Below w.heap.size w w' := by
  go_enter Try.func5, Try.ntmps5
  go_wp2_with fail
  refine (new_any 2 w (by omega) (by omega)).mono ?_
  rintro e w1 ⟨rfl, hq, hb⟩
  obtain ⟨p, hp⟩ : ∃ p, p = w.heap.size := ⟨_, rfl⟩
  rw [← hp] at hq ⊢
  have HQ := Lib.hid hq; have HB := Lib.hid hb; have HP := Lib.hid hp
  clear hq hb hp
  go_wp2_with fail
  refine (bad_any 0 _ (by omega)).mono ?_
  rintro e w2 ⟨rfl, rfl⟩
  go_wp2_with fail
  refine (put_any 1 za _ HQ.out (by omega) (by simp)).mono ?_
  rintro e w3 ⟨rfl, v1, hq, hk, _⟩
  have HQ1 : Hid (Ns w3 p (p + 1) v1 [(1, za)] 2) := Lib.hid hq
  have HB1 := Lib.hid (HB.out.trans (HQ.out.below hk (by rw [HP.out]; exact Nat.le_refl _)))
  clear hq hk
  go_wp2_with fail
  refine (put_any 2 zb _ HQ1.out (by omega) (by simp)).mono ?_
  rintro e w4 ⟨rfl, v2, hq, hk, _⟩
  have HQ2 : Hid (Ns w4 p (p + 1) v2 [(1, za), (2, zb)] 2) := Lib.hid hq
  have HB2 := Lib.hid (HB1.out.trans (HQ1.out.below hk (by rw [HP.out]; exact Nat.le_refl _)))
  clear hq hk
  go_wp2_with fail
  refine (put_any 3 zc _ HQ2.out (by omega) (by simp)).mono ?_
  rintro e w5 ⟨rfl, v3, hq, hk, _⟩
  have HQ3 : Hid (Ns w5 p (p + 1) v3 [(1, za), (2, zb)] 2) := Lib.hid hq
  have HB3 := Lib.hid (HB2.out.trans (HQ2.out.below hk (by rw [HP.out]; exact Nat.le_refl _)))
  clear hq hk
  go_wp2_with fail
  have e1 : ([(1, za), (2, zb)] : List Msg)[place (-1) ([(1, za), (2, zb)] : List Msg).length]'(place_lt _ (by decide)) = (1, (⟨#[97]⟩ : ByteArray)) := rfl
  have hpk := peek_any (-1) _ HQ3.out (by decide)
  rw [e1] at hpk
  refine hpk.mono ?_
  clear hpk e1
  rintro e w6 ⟨rfl, hb⟩
  have HQ4 := Lib.hid (HQ3.out.keep hb)
  have HB4 := Lib.hid (below_step HB3.out (Nat.le_refl _) hb)
  clear hb
  go_wp2_with fail
  have e1 : ([(1, za), (2, zb)] : List Msg)[place 3 ([(1, za), (2, zb)] : List Msg).length]'(place_lt _ (by decide)) = (2, (⟨#[98]⟩ : ByteArray)) := rfl
  have hpk := take_any 3 _ HQ4.out (by decide) (by decide)
  rw [e1] at hpk
  refine hpk.mono ?_
  clear hpk e1
  rintro e w7 ⟨rfl, v5, hq, hk, _⟩
  have HQ5 : Hid (Ns w7 p (p + 1) v5 [(1, za)] 2) := Lib.hid hq
  have HB5 := Lib.hid (HB4.out.trans (HQ4.out.below hk (by rw [HP.out]; exact Nat.le_refl _)))
  clear hq hk
  go_wp2_with fail
  refine (len_any _ HQ5.out).mono ?_
  rintro e w8 ⟨rfl, rfl⟩
  go_wp2
  go_ret
  exact ⟨rfl, HB5.out⟩
set_option maxHeartbeats 4000000 in
theorem none_walk (kd to i : Int) (s : ByteArray) (w : World) : Calls Try.prog 4 #[.agg #[.int .i64 kd, .int .i64 to, .int .i64 i, .string s]] w fun e w' => e = .returned (.bool true) ∧ Below w.heap.size w w' := by
  have HB := Lib.hid (below_new w (.cells #[.int .i64 kd, .int .i64 to, .int .i64 i, .string s] 30))
  have hcat : (⟨#[]⟩ ++ ⟨#[]⟩ : ByteArray) = ⟨#[]⟩ := rfl
  have hsz : (⟨#[]⟩ : ByteArray).size = 0 := rfl
  go_enter Try.func4, Try.ntmps4
  go_wp2_with fail
  refine (take_nil i _).mono ?_
  rintro e w1 ⟨rfl, rfl⟩
  go_wp2_with fail
  refine (peek_nil i _).mono ?_
  rintro e w1 ⟨rfl, rfl⟩
  go_wp2_with fail
  refine (put_nil to s _).mono ?_
  rintro e w1 ⟨rfl, hb⟩
  have HB1 := Lib.hid (below_step HB.out (Nat.le_refl _) hb)
  clear hb
  go_wp2_with fail
  refine (len_nil _).mono ?_
  rintro e w2 ⟨rfl, rfl⟩
  go_wp2_with fail
  refine (awake_any _).mono ?_
  rintro e w3 ⟨rfl, hb⟩
  have HB2 := Lib.hid (below_step HB1.out (Nat.le_refl _) hb)
  clear hb
  go_wp2
  go_ret
  exact ⟨rfl, HB2.out⟩
theorem deed_of {H : Type} {enc : TypeId × Value → H} {w : World} {base n : Nat} {spare : Bool} {held : TypeId → Bool} {cs : List Value} {x : DataW H × List MemPlace}
    (h : DataW.trod enc Try.prog w base held spare n 30 cs = some x) : ∃ (kd to i : Int) (s : ByteArray), cs = [.int .i64 kd, .int .i64 to, .int .i64 i, .string s] ∧ -9223372036854775808 ≤ i ∧ i ≤ 9223372036854775807 := by
  have hl := trod_len Try.underlying30 h
  rw [show Try.prog.cellsOf 30 = 4 by kernel_rfl] at hl
  match cs, hl with
  | [c0, c1, c2, c3], _ =>
    obtain ⟨_, _, e0⟩ := trod_part Try.underlying30 h 0 3 0 1 rfl rfl rfl (by kernel_rfl)
    obtain ⟨_, _, e1⟩ := trod_part Try.underlying30 h 1 3 1 1 rfl rfl rfl (by kernel_rfl)
    obtain ⟨_, _, e2⟩ := trod_part Try.underlying30 h 2 3 2 1 rfl rfl rfl (by kernel_rfl)
    obtain ⟨_, _, e3⟩ := trod_part Try.underlying30 h 3 9 3 1 rfl rfl rfl (by kernel_rfl)
    simp only [List.drop_zero, List.drop_succ_cons, List.take_succ_cons, List.take_zero] at e0 e1 e2 e3
    obtain ⟨kd, k0, _⟩ := DataW.trod_int Try.underlying3 e0
    obtain ⟨to, k1, _⟩ := DataW.trod_int Try.underlying3 e1
    obtain ⟨i, k2, _, hi⟩ := DataW.trod_int Try.underlying3 e2
    obtain ⟨s, k3, _, hs⟩ := DataW.trod_string Try.underlying9 e3
    simp only [List.cons.injEq, and_true] at k0 k1 k2 k3
    subst k0 k1 k2 k3
    exact ⟨kd, to, i, s, rfl, bounds_i64 hi⟩
def DeedOk (v : Value) : Prop := ∃ (kd to i : Int) (s : ByteArray), v = .agg #[.int .i64 kd, .int .i64 to, .int .i64 i, .string s]
theorem open_deed {H : Type} {enc : TypeId × Value → H} {w : World} {base base0 : Nat} {spare : Bool} {held : TypeId → Bool} {r : Reach} {v : Value} {d : DataW H} {p : List MemPlace}
    (hv : Value.okWide Try.prog w r base0 30 v) (h : DataW.Trod enc Try.prog w base held spare 30 v d p) : ∃ x : Unit, DeedOk v := by
  obtain ⟨cs, rfl⟩ := agg_of Try.underlying30 hv
  obtain ⟨fuel, hf⟩ := h
  simp only [Value.cells] at hf
  obtain ⟨kd, to, i, s, e, _⟩ := deed_of hf
  obtain ⟨l⟩ := cs
  simp only at e
  exact ⟨(), kd, to, i, s, by rw [e]⟩
theorem none_law (v : Value) (_x : Unit) (w : World) (h : DeedOk v) : Calls Try.prog 4 #[v] w fun e w' => e = .returned (.bool true) ∧ Below w.heap.size w w' := by
  obtain ⟨kd, to, i, s, rfl⟩ := h
  exact none_walk kd to i s w
end Go.Proofs.Ytpplpbpgaaabdaa

