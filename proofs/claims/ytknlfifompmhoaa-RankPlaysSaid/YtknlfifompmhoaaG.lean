/-
  The contract of Add for whatever it is given; the law's awake; the law of RankNone. Conditions: none.
-/
import Derived.Test.YtknlfifompmhoaaF
import Derived.Test.YtknlfifompmhoaaOpen
set_option linter.unusedVariables false
set_option linter.unusedSimpArgs false
namespace Go.Proofs.Ytknlfifompmhoaa
open Go.RowKit Go.WideShapes Go.ChangeShapes Go.ChangeAt Go.Deep
def badF (l : List Int) (i : Nat) (b : Int) : Prop := b < -1099511627776 ∨ 1099511627776 < b ∨ l.getD i 0 + b < 0 ∨ 9007199254740992 < pre l l.length + b
instance (l : List Int) (i : Nat) (b : Int) : Decidable (badF l i b) := by unfold badF; exact inferInstance
def wantR (l : List Int) (i b : Int) : Int := if i < 0 ∨ (l.length : Int) ≤ i then 2 else if badF l i.toNat b then 5 else 0
def newL (l : List Int) (i b : Int) : List Int := if i < 0 ∨ (l.length : Int) ≤ i then l else if badF l i.toNat b then l else l.set i.toNat (l.getD i.toNat 0 + b)
theorem newL_len (l : List Int) (i b : Int) : (newL l i b).length = l.length := by
  unfold newL; split
  · rfl
  · split
    · rfl
    · rw [List.length_set]
theorem add_any (p gl gs : Nat) (l s : List Int) (i b : Int) (w : World) (h : Rk p gl gs l s w) : Calls Try.prog 7 #[.pointer (some ⟨p, 0, none⟩), .int .i64 i, .int .i64 b] w
    fun e w' => e = .returned (.int .i64 (wantR l i b)) ∧ (∃ s', Rk p gl gs (newL l i b) s' w') ∧ Kp (fun j => j = p ∨ j = gl ∨ j = gs) w w' := by
  unfold wantR newL
  by_cases h1 : i < 0 ∨ (l.length : Int) ≤ i
  · rw [if_pos h1, if_pos h1]
    refine (add_range p gl gs l s i b w h h1).mono ?_
    rintro e w' ⟨rfl, hb⟩
    exact ⟨rfl, ⟨s, h.keep hb⟩, Kp.new hb⟩
  · rw [if_neg h1, if_neg h1]
    obtain ⟨k, rfl⟩ : ∃ k : Nat, i = k := ⟨i.toNat, by omega⟩
    rw [Int.toNat_natCast]
    by_cases h2 : badF l k b
    · rw [if_pos h2, if_pos h2]
      refine (add_form p gl gs l s k b w h (by omega) h2).mono ?_
      rintro e w' ⟨rfl, hb⟩
      exact ⟨rfl, ⟨s, h.keep hb⟩, Kp.new hb⟩
    · rw [if_neg h2, if_neg h2]
      unfold badF at h2
      exact add_ok p gl gs l s k b w h (by omega) (by omega) (by omega) (by omega) (by omega)
set_option maxHeartbeats 8000000 in
theorem awake_any (w : World) : Calls Try.prog 5 #[] w fun e w' => e = .returned (.bool true) ∧ Below w.heap.size w w' := by
  go_enter Try.func5, Try.ntmps5
  go_wp2_with fail
  refine (new_any 2 w (by omega) (by omega)).mono ?_
  rintro e w1 ⟨p, gl, gs, rfl, hr, hp, hgl, hgs, hb⟩
  have hr : Rk p gl gs [0, 0] (noughts 3) w1 := hr
  have HR := Lib.hid hr; have HB := Lib.hid hb; have HP := Lib.hid (And.intro hp (And.intro hgl hgs))
  clear hr hb hp hgl hgs
  have HBK : Hid (∀ (W W' : World), Below w.heap.size w W → Kp (fun j => j = p ∨ j = gl ∨ j = gs) W W' → Below w.heap.size w W') := Lib.hid (fun W W' h k => h.trans (k.below h.size (fun j hj => by have := HP.out; omega)))
  go_wp2_with fail
  refine (new_bad 0 w1 (by omega)).mono ?_
  rintro e w2 ⟨rfl, rfl⟩
  go_wp2_with fail
  have T := add_any p gl gs [0, 0] (noughts 3) 0 1 w1 HR.out
  rw [show wantR [0, 0] 0 1 = 0 by decide, show newL [0, 0] 0 1 = [1, 0] by decide] at T
  refine T.mono ?_
  clear T
  rintro e w2 ⟨rfl, ⟨s2, hr⟩, hk⟩
  have HR2 := Lib.hid hr; have HB2 := Lib.hid (HBK.out _ _ HB.out hk)
  clear hr hk
  go_wp2_with fail
  have T := add_any p gl gs [1, 0] s2 1 2 w2 HR2.out
  rw [show wantR [1, 0] 1 2 = 0 by decide, show newL [1, 0] 1 2 = [1, 2] by decide] at T
  refine T.mono ?_
  clear T
  rintro e w3 ⟨rfl, ⟨s3, hr⟩, hk⟩
  have HR3 := Lib.hid hr; have HB3 := Lib.hid (HBK.out _ _ HB2.out hk)
  clear hr hk
  go_wp2_with fail
  have T := add_any p gl gs [1, 2] s3 0 (-2) w3 HR3.out
  rw [show wantR [1, 2] 0 (-2) = 5 by decide, show newL [1, 2] 0 (-2) = [1, 2] by decide] at T
  refine T.mono ?_
  clear T
  rintro e w4 ⟨rfl, ⟨s4, hr⟩, hk⟩
  have HR4 := Lib.hid hr; have HB4 := Lib.hid (HBK.out _ _ HB3.out hk)
  clear hr hk
  go_wp2_with fail
  have T := add_any p gl gs [1, 2] s4 2 1 w4 HR4.out
  rw [show wantR [1, 2] 2 1 = 2 by decide, show newL [1, 2] 2 1 = [1, 2] by decide] at T
  refine T.mono ?_
  clear T
  rintro e w5 ⟨rfl, ⟨s5, hr⟩, hk⟩
  have HR5 := Lib.hid hr; have HB5 := Lib.hid (HBK.out _ _ HB4.out hk)
  clear hr hk
  go_wp2_with fail
  have T := sum_any p gl gs [1, 2] s5 2 w5 HR5.out
  rw [show pre [1, 2] (clampN 2 ([1, 2] : List Int).length) = 3 by decide] at T
  refine T.mono ?_
  clear T
  rintro e w6 ⟨rfl, hb⟩
  have HR6 := Lib.hid (HR5.out.keep hb); have HB6 := Lib.hid (below_step HB5.out (Nat.le_refl _) hb)
  clear hb
  go_wp2_with fail
  have T := sum_any p gl gs [1, 2] s5 (-1) w6 HR6.out
  rw [show pre [1, 2] (clampN (-1) ([1, 2] : List Int).length) = 0 by decide] at T
  refine T.mono ?_
  clear T
  rintro e w7 ⟨rfl, hb⟩
  have HR7 := Lib.hid (HR6.out.keep hb); have HB7 := Lib.hid (below_step HB6.out (Nat.le_refl _) hb)
  clear hb
  go_wp2_with fail
  have T := sum_any p gl gs [1, 2] s5 9 w7 HR7.out
  rw [show pre [1, 2] (clampN 9 ([1, 2] : List Int).length) = 3 by decide] at T
  refine T.mono ?_
  clear T
  rintro e w8 ⟨rfl, hb⟩
  have HR8 := Lib.hid (HR7.out.keep hb); have HB8 := Lib.hid (below_step HB7.out (Nat.le_refl _) hb)
  clear hb
  go_wp2_with fail
  have T := find_any p gl gs [1, 2] s5 1 w8 HR8.out
  rw [show fndA [1, 2] 1 ([1, 2] : List Int).length ([1, 2] : List Int).length = 1 by decide] at T
  refine T.mono ?_
  clear T
  rintro e w9 ⟨rfl, rfl⟩
  go_wp2_with fail
  have T := find_any p gl gs [1, 2] s5 0 w8 HR8.out
  rw [show fndA [1, 2] 0 ([1, 2] : List Int).length ([1, 2] : List Int).length = 0 by decide] at T
  refine T.mono ?_
  clear T
  rintro e w9 ⟨rfl, rfl⟩
  go_wp2_with fail
  have T := find_any p gl gs [1, 2] s5 3 w8 HR8.out
  rw [show fndA [1, 2] 3 ([1, 2] : List Int).length ([1, 2] : List Int).length = 2 by decide] at T
  refine T.mono ?_
  clear T
  rintro e w9 ⟨rfl, rfl⟩
  go_wp2
  go_ret
  exact ⟨rfl, HB8.out⟩
theorem none_walk (i b t s : Int) (w : World) : Calls Try.prog 4 #[.agg #[.int .i64 i, .int .i64 b, .int .i64 t, .int .i64 s]] w fun e w' => e = .returned (.bool true) ∧ Below w.heap.size w w' := by
  have HB := Lib.hid (below_new w (.cells #[.int .i64 i, .int .i64 b, .int .i64 t, .int .i64 s] 30))
  have HX := Lib.hid (Bk.new w 30 #[.int .i64 i, .int .i64 b, .int .i64 t, .int .i64 s])
  go_enter Try.func4, Try.ntmps4
  go_wp2_with fail
  refine (add_nil i b _).mono ?_
  rintro e w1 ⟨rfl, hb⟩
  have hx := HX.out.keep hb
  have x2 := (hx.2 2 _ rfl).1
  have HX1 := Lib.hid hx; have HB1 := Lib.hid (below_step HB.out (Nat.le_refl _) hb)
  clear hx hb
  go_wp2_with fail
  refine (sum_nil t _).mono ?_
  rintro e w2 ⟨rfl, hb⟩
  have hx := HX1.out.keep hb
  have x3 := (hx.2 3 _ rfl).1
  have HB2 := Lib.hid (below_step HB1.out (Nat.le_refl _) hb)
  clear hx hb
  go_wp2_with fail
  refine (find_nil s _).mono ?_
  rintro e w3 ⟨rfl, rfl⟩
  go_wp2_with fail
  refine (awake_any _).mono ?_
  rintro e w4 ⟨rfl, hb⟩
  have HB4 := Lib.hid (below_step HB2.out (Nat.le_refl _) hb)
  clear hb
  go_wp2
  go_ret
  exact ⟨rfl, HB4.out⟩
theorem deed_of {H : Type} {enc : TypeId × Value → H} {w : World} {base n : Nat} {spare : Bool} {held : TypeId → Bool} {cs : List Value} {x : DataW H × List MemPlace}
    (h : DataW.trod enc Try.prog w base held spare n 30 cs = some x) : ∃ (i b t s : Int), cs = [.int .i64 i, .int .i64 b, .int .i64 t, .int .i64 s] ∧ (-9223372036854775808 ≤ b ∧ b ≤ 9223372036854775807) := by
  have hl := trod_len Try.underlying30 h
  rw [show Try.prog.cellsOf 30 = 4 by kernel_rfl] at hl
  match cs, hl with
  | [c0, c1, c2, c3], _ =>
    obtain ⟨_, _, e0⟩ := trod_part Try.underlying30 h 0 3 0 1 rfl rfl rfl (by kernel_rfl)
    obtain ⟨_, _, e1⟩ := trod_part Try.underlying30 h 1 3 1 1 rfl rfl rfl (by kernel_rfl)
    obtain ⟨_, _, e2⟩ := trod_part Try.underlying30 h 2 3 2 1 rfl rfl rfl (by kernel_rfl)
    obtain ⟨_, _, e3⟩ := trod_part Try.underlying30 h 3 3 3 1 rfl rfl rfl (by kernel_rfl)
    simp only [List.drop_zero, List.drop_succ_cons, List.take_succ_cons, List.take_zero] at e0 e1 e2 e3
    obtain ⟨i, k0, _⟩ := DataW.trod_int Try.underlying3 e0
    obtain ⟨b, k1, _, hb⟩ := DataW.trod_int Try.underlying3 e1
    obtain ⟨t, k2, _⟩ := DataW.trod_int Try.underlying3 e2
    obtain ⟨s, k3, _⟩ := DataW.trod_int Try.underlying3 e3
    simp only [List.cons.injEq, and_true] at k0 k1 k2 k3
    subst k0 k1 k2 k3
    exact ⟨i, b, t, s, rfl, bounds_i64 hb⟩
def DeedOk (v : Value) : Prop := ∃ (i b t s : Int), v = .agg #[.int .i64 i, .int .i64 b, .int .i64 t, .int .i64 s]
theorem open_deed {H : Type} {enc : TypeId × Value → H} {w : World} {base base0 : Nat} {spare : Bool} {held : TypeId → Bool} {r : Reach} {v : Value} {d : DataW H} {p : List MemPlace}
    (hv : Value.okWide Try.prog w r base0 30 v) (h : DataW.Trod enc Try.prog w base held spare 30 v d p) : ∃ x : Unit, DeedOk v := by
  obtain ⟨cs, rfl⟩ := agg_of Try.underlying30 hv
  obtain ⟨fuel, hf⟩ := h
  simp only [Value.cells] at hf
  obtain ⟨i, b, t, s, e, _⟩ := deed_of hf
  obtain ⟨l⟩ := cs
  simp only at e
  exact ⟨(), i, b, t, s, by rw [e]⟩
theorem none_law (v : Value) (_x : Unit) (w : World) (h : DeedOk v) : Calls Try.prog 4 #[v] w fun e w' => e = .returned (.bool true) ∧ Below w.heap.size w w' := by
  obtain ⟨i, b, t, s, rfl⟩ := h
  exact none_walk i b t s w
end Go.Proofs.Ytknlfifompmhoaa

