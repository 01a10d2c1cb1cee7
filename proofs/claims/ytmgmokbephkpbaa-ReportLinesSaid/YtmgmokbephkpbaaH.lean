/-
  The law of ReportLines for all arguments that the row lets in. Conditions: none.
-/
import Derived.Test.YtmgmokbephkpbaaG
import Derived.Test.YtmgmokbephkpbaaOpen
set_option linter.unusedVariables false
set_option linter.unusedSimpArgs false
namespace Go.Proofs.Ytmgmokbephkpbaa
open Go.RowKit Go.WideShapes Go.ChangeShapes Go.ChangeAt Go.Deep
set_option maxRecDepth 100000 in
set_option maxHeartbeats 4000000 in
theorem short_0 (nm lb : ByteArray) (sz ch : Int) (ia ta ka da : Option Addr) (il ic tc kl kc dl dc : Nat) (tags : List ByteArray) (up : Bool) (bk bl de bu us : Int) (v0 v1 v2 v3 v4 v5 v6 v7 v8 v9 v10 v11 v12 v13 v14 v15 : Int) (ca : Option Addr) (cl cc : Nat) (w : World) (g1 : decide ((100 : Int) < (nm.size : Int)) = true) :
    Calls Try.prog 4 #[.agg #[.string nm, .int .i64 sz, .int .i64 ch, .slice ia il ic, .string lb, .slice ta tags.length tc, .slice ka kl kc, .slice da dl dc], .agg #[.bool up, .int .i64 bk, .int .i64 v0, .int .i64 v1, .int .i64 v2, .int .i64 v3, .int .i64 v4, .int .i64 v5, .int .i64 v6, .int .i64 v7, .int .i64 v8, .int .i64 v9, .int .i64 v10, .int .i64 v11, .int .i64 v12, .int .i64 v13, .int .i64 v14, .int .i64 v15, .slice ca cl cc, .int .i64 bl, .int .i64 de, .int .i64 bu, .int .i64 us]] w fun e w' => e = .returned (.bool true) ∧ Below w.heap.size w w' := by
  have HB0 := Lib.hid (below_step (below_new w (.cells #[.string nm, .int .i64 sz, .int .i64 ch, .slice ia il ic, .string lb, .slice ta tags.length tc, .slice ka kl kc, .slice da dl dc] 31)) (Nat.le_refl _) (below_new _ (.cells #[.bool up, .int .i64 bk, .int .i64 v0, .int .i64 v1, .int .i64 v2, .int .i64 v3, .int .i64 v4, .int .i64 v5, .int .i64 v6, .int .i64 v7, .int .i64 v8, .int .i64 v9, .int .i64 v10, .int .i64 v11, .int .i64 v12, .int .i64 v13, .int .i64 v14, .int .i64 v15, .slice ca cl cc, .int .i64 bl, .int .i64 de, .int .i64 bu, .int .i64 us] 37)))
  go_enter Try.func4, Try.ntmps4
  go_wp2_with fail
  refine (awake_any _).mono ?_
  rintro e w1 ⟨rfl, hb1⟩
  have HB1 := Lib.hid (below_step HB0.out (Nat.le_refl _) hb1)
  clear hb1
  go_wp2_with fail
  (try rw [Exit.noGoto_ret])
  go_ret
  exact ⟨rfl, HB1.out⟩
set_option maxRecDepth 100000 in
set_option maxHeartbeats 4000000 in
theorem short_1 (nm lb : ByteArray) (sz ch : Int) (ia ta ka da : Option Addr) (il ic tc kl kc dl dc : Nat) (tags : List ByteArray) (up : Bool) (bk bl de bu us : Int) (v0 v1 v2 v3 v4 v5 v6 v7 v8 v9 v10 v11 v12 v13 v14 v15 : Int) (ca : Option Addr) (cl cc : Nat) (w : World) (g1 : decide ((100 : Int) < (nm.size : Int)) = false) (g2 : decide ((300 : Int) < (lb.size : Int)) = true) :
    Calls Try.prog 4 #[.agg #[.string nm, .int .i64 sz, .int .i64 ch, .slice ia il ic, .string lb, .slice ta tags.length tc, .slice ka kl kc, .slice da dl dc], .agg #[.bool up, .int .i64 bk, .int .i64 v0, .int .i64 v1, .int .i64 v2, .int .i64 v3, .int .i64 v4, .int .i64 v5, .int .i64 v6, .int .i64 v7, .int .i64 v8, .int .i64 v9, .int .i64 v10, .int .i64 v11, .int .i64 v12, .int .i64 v13, .int .i64 v14, .int .i64 v15, .slice ca cl cc, .int .i64 bl, .int .i64 de, .int .i64 bu, .int .i64 us]] w fun e w' => e = .returned (.bool true) ∧ Below w.heap.size w w' := by
  have HB0 := Lib.hid (below_step (below_new w (.cells #[.string nm, .int .i64 sz, .int .i64 ch, .slice ia il ic, .string lb, .slice ta tags.length tc, .slice ka kl kc, .slice da dl dc] 31)) (Nat.le_refl _) (below_new _ (.cells #[.bool up, .int .i64 bk, .int .i64 v0, .int .i64 v1, .int .i64 v2, .int .i64 v3, .int .i64 v4, .int .i64 v5, .int .i64 v6, .int .i64 v7, .int .i64 v8, .int .i64 v9, .int .i64 v10, .int .i64 v11, .int .i64 v12, .int .i64 v13, .int .i64 v14, .int .i64 v15, .slice ca cl cc, .int .i64 bl, .int .i64 de, .int .i64 bu, .int .i64 us] 37)))
  go_enter Try.func4, Try.ntmps4
  go_wp2_with fail
  refine (awake_any _).mono ?_
  rintro e w1 ⟨rfl, hb1⟩
  have HB1 := Lib.hid (below_step HB0.out (Nat.le_refl _) hb1)
  clear hb1
  go_wp2_with fail
  (try rw [Exit.noGoto_ret])
  go_ret
  exact ⟨rfl, HB1.out⟩
set_option maxRecDepth 100000 in
set_option maxHeartbeats 4000000 in
theorem short_2 (nm lb : ByteArray) (sz ch : Int) (ia ta ka da : Option Addr) (il ic tc kl kc dl dc : Nat) (tags : List ByteArray) (up : Bool) (bk bl de bu us : Int) (v0 v1 v2 v3 v4 v5 v6 v7 v8 v9 v10 v11 v12 v13 v14 v15 : Int) (ca : Option Addr) (cl cc : Nat) (w : World) (g1 : decide ((100 : Int) < (nm.size : Int)) = false) (g2 : decide ((300 : Int) < (lb.size : Int)) = false) (g3 : decide ((20 : Int) < (tags.length : Int)) = true) :
    Calls Try.prog 4 #[.agg #[.string nm, .int .i64 sz, .int .i64 ch, .slice ia il ic, .string lb, .slice ta tags.length tc, .slice ka kl kc, .slice da dl dc], .agg #[.bool up, .int .i64 bk, .int .i64 v0, .int .i64 v1, .int .i64 v2, .int .i64 v3, .int .i64 v4, .int .i64 v5, .int .i64 v6, .int .i64 v7, .int .i64 v8, .int .i64 v9, .int .i64 v10, .int .i64 v11, .int .i64 v12, .int .i64 v13, .int .i64 v14, .int .i64 v15, .slice ca cl cc, .int .i64 bl, .int .i64 de, .int .i64 bu, .int .i64 us]] w fun e w' => e = .returned (.bool true) ∧ Below w.heap.size w w' := by
  have HB0 := Lib.hid (below_step (below_new w (.cells #[.string nm, .int .i64 sz, .int .i64 ch, .slice ia il ic, .string lb, .slice ta tags.length tc, .slice ka kl kc, .slice da dl dc] 31)) (Nat.le_refl _) (below_new _ (.cells #[.bool up, .int .i64 bk, .int .i64 v0, .int .i64 v1, .int .i64 v2, .int .i64 v3, .int .i64 v4, .int .i64 v5, .int .i64 v6, .int .i64 v7, .int .i64 v8, .int .i64 v9, .int .i64 v10, .int .i64 v11, .int .i64 v12, .int .i64 v13, .int .i64 v14, .int .i64 v15, .slice ca cl cc, .int .i64 bl, .int .i64 de, .int .i64 bu, .int .i64 us] 37)))
  go_enter Try.func4, Try.ntmps4
  go_wp2_with fail
  refine (awake_any _).mono ?_
  rintro e w1 ⟨rfl, hb1⟩
  have HB1 := Lib.hid (below_step HB0.out (Nat.le_refl _) hb1)
  clear hb1
  go_wp2_with fail
  (try rw [Exit.noGoto_ret])
  go_ret
  exact ⟨rfl, HB1.out⟩
set_option maxRecDepth 100000 in
set_option maxHeartbeats 4000000 in
theorem short_3 (nm lb : ByteArray) (sz ch : Int) (ia ta ka da : Option Addr) (il ic tc kl kc dl dc : Nat) (tags : List ByteArray) (up : Bool) (bk bl de bu us : Int) (v0 v1 v2 v3 v4 v5 v6 v7 v8 v9 v10 v11 v12 v13 v14 v15 : Int) (ca : Option Addr) (cl cc : Nat) (w : World) (g1 : decide ((100 : Int) < (nm.size : Int)) = false) (g2 : decide ((300 : Int) < (lb.size : Int)) = false) (g3 : decide ((20 : Int) < (tags.length : Int)) = false) (g4 : decide (sz < -4611686018427387904) = true) :
    Calls Try.prog 4 #[.agg #[.string nm, .int .i64 sz, .int .i64 ch, .slice ia il ic, .string lb, .slice ta tags.length tc, .slice ka kl kc, .slice da dl dc], .agg #[.bool up, .int .i64 bk, .int .i64 v0, .int .i64 v1, .int .i64 v2, .int .i64 v3, .int .i64 v4, .int .i64 v5, .int .i64 v6, .int .i64 v7, .int .i64 v8, .int .i64 v9, .int .i64 v10, .int .i64 v11, .int .i64 v12, .int .i64 v13, .int .i64 v14, .int .i64 v15, .slice ca cl cc, .int .i64 bl, .int .i64 de, .int .i64 bu, .int .i64 us]] w fun e w' => e = .returned (.bool true) ∧ Below w.heap.size w w' := by
  have HB0 := Lib.hid (below_step (below_new w (.cells #[.string nm, .int .i64 sz, .int .i64 ch, .slice ia il ic, .string lb, .slice ta tags.length tc, .slice ka kl kc, .slice da dl dc] 31)) (Nat.le_refl _) (below_new _ (.cells #[.bool up, .int .i64 bk, .int .i64 v0, .int .i64 v1, .int .i64 v2, .int .i64 v3, .int .i64 v4, .int .i64 v5, .int .i64 v6, .int .i64 v7, .int .i64 v8, .int .i64 v9, .int .i64 v10, .int .i64 v11, .int .i64 v12, .int .i64 v13, .int .i64 v14, .int .i64 v15, .slice ca cl cc, .int .i64 bl, .int .i64 de, .int .i64 bu, .int .i64 us] 37)))
  go_enter Try.func4, Try.ntmps4
  go_wp2_with fail
  refine (awake_any _).mono ?_
  rintro e w1 ⟨rfl, hb1⟩
  have HB1 := Lib.hid (below_step HB0.out (Nat.le_refl _) hb1)
  clear hb1
  go_wp2_with fail
  (try rw [Exit.noGoto_ret])
  go_ret
  exact ⟨rfl, HB1.out⟩
def EntOk (w : World) (v : Value) : Prop := ∃ (nm lb : ByteArray) (sz ch : Int) (ia ta ka da : Option Addr) (il ic tc kl kc dl dc : Nat) (tags : List ByteArray),
  v = .agg #[.string nm, .int .i64 sz, .int .i64 ch, .slice ia il ic, .string lb, .slice ta tags.length tc, .slice ka kl kc, .slice da dl dc] ∧ (-9223372036854775808 ≤ sz ∧ sz ≤ 9223372036854775807) ∧ il ≤ 9223372036854775807 ∧ kl ≤ 9223372036854775807 ∧ dl ≤ 9223372036854775807 ∧ Sl encT 1 w ta tags
def StOk (w : World) (v : Value) : Prop := ∃ (up : Bool) (bk bl de bu us : Int) (v0 v1 v2 v3 v4 v5 v6 v7 v8 v9 v10 v11 v12 v13 v14 v15 : Int) (ca : Option Addr) (cl cc : Nat),
  v = .agg #[.bool up, .int .i64 bk, .int .i64 v0, .int .i64 v1, .int .i64 v2, .int .i64 v3, .int .i64 v4, .int .i64 v5, .int .i64 v6, .int .i64 v7, .int .i64 v8, .int .i64 v9, .int .i64 v10, .int .i64 v11, .int .i64 v12, .int .i64 v13, .int .i64 v14, .int .i64 v15, .slice ca cl cc, .int .i64 bl, .int .i64 de, .int .i64 bu, .int .i64 us] ∧ cl ≤ 9223372036854775807 ∧ (-9223372036854775808 ≤ bk ∧ bk ≤ 9223372036854775807) ∧ (-9223372036854775808 ≤ bl ∧ bl ≤ 9223372036854775807) ∧ (-9223372036854775808 ≤ de ∧ de ≤ 9223372036854775807) ∧ (-9223372036854775808 ≤ bu ∧ bu ≤ 9223372036854775807) ∧ (-9223372036854775808 ≤ us ∧ us ≤ 9223372036854775807) ∧ ∀ v ∈ ([v0, v1, v2, v3, v4, v5, v6, v7, v8, v9, v10, v11, v12, v13, v14, v15] : List Int), (-9223372036854775808 ≤ v ∧ v ≤ 9223372036854775807)
theorem lines_law (a : Value) (_x : Unit) (b : Value) (_y : Unit) (w : World) (ha : EntOk w a) (hb : StOk w b) : Calls Try.prog 4 #[a, b] w fun e w' => e = .returned (.bool true) ∧ Below w.heap.size w w' := by
  obtain ⟨nm, lb, sz, ch, ia, ta, ka, da, il, ic, tc, kl, kc, dl, dc, tags, rfl, hsz, hil, hkl, hdl, hs⟩ := ha
  obtain ⟨up, bk, bl, de, bu, us, v0, v1, v2, v3, v4, v5, v6, v7, v8, v9, v10, v11, v12, v13, v14, v15, ca, cl, cc, rfl, hcl, hbk, hbl, hde, hbu, hus, hv⟩ := hb
  by_cases h1 : nm.size ≤ 100
  · have g1 : decide ((100 : Int) < (nm.size : Int)) = false := decide_eq_false (by omega)
    by_cases h2 : lb.size ≤ 300
    · have g2 : decide ((300 : Int) < (lb.size : Int)) = false := decide_eq_false (by omega)
      by_cases h3 : tags.length ≤ 20
      · have g3 : decide ((20 : Int) < (tags.length : Int)) = false := decide_eq_false (by omega)
        by_cases h4 : -4611686018427387904 ≤ sz
        · cases up with
          | true => exact lines_true nm lb sz ch ia ta ka da il ic tc kl kc dl dc tags bk bl de bu us v0 v1 v2 v3 v4 v5 v6 v7 v8 v9 v10 v11 v12 v13 v14 v15 ca cl cc w h1 h2 h3 ⟨h4, hsz.2⟩ hil hkl hdl hcl hbk hbl hde hbu hus hv hs
          | false => exact lines_false nm lb sz ch ia ta ka da il ic tc kl kc dl dc tags bk bl de bu us v0 v1 v2 v3 v4 v5 v6 v7 v8 v9 v10 v11 v12 v13 v14 v15 ca cl cc w h1 h2 h3 ⟨h4, hsz.2⟩ hil hkl hdl hcl hbk hbl hde hbu hus hv hs
        · have g4 : decide (sz < -4611686018427387904) = true := decide_eq_true (by omega)
          exact short_3 nm lb sz ch ia ta ka da il ic tc kl kc dl dc tags up bk bl de bu us v0 v1 v2 v3 v4 v5 v6 v7 v8 v9 v10 v11 v12 v13 v14 v15 ca cl cc w g1 g2 g3 g4
      · have g3 : decide ((20 : Int) < (tags.length : Int)) = true := decide_eq_true (by omega)
        exact short_2 nm lb sz ch ia ta ka da il ic tc kl kc dl dc tags up bk bl de bu us v0 v1 v2 v3 v4 v5 v6 v7 v8 v9 v10 v11 v12 v13 v14 v15 ca cl cc w g1 g2 g3
    · have g2 : decide ((300 : Int) < (lb.size : Int)) = true := decide_eq_true (by omega)
      exact short_1 nm lb sz ch ia ta ka da il ic tc kl kc dl dc tags up bk bl de bu us v0 v1 v2 v3 v4 v5 v6 v7 v8 v9 v10 v11 v12 v13 v14 v15 ca cl cc w g1 g2
  · have g1 : decide ((100 : Int) < (nm.size : Int)) = true := decide_eq_true (by omega)
    exact short_0 nm lb sz ch ia ta ka da il ic tc kl kc dl dc tags up bk bl de bu us v0 v1 v2 v3 v4 v5 v6 v7 v8 v9 v10 v11 v12 v13 v14 v15 ca cl cc w g1
theorem i64_of {z : Int} (h : (Lit.int .i64 z).wf = true) : -9223372036854775808 ≤ z ∧ z ≤ 9223372036854775807 := bounds_i64 h
section
variable {H : Type} {enc : TypeId × Value → H} {w : World} {base base0 : Nat} {spare : Bool} {held : TypeId → Bool} {r : Reach} {v : Value} {d : DataW H} {p : List MemPlace}
theorem open_entry (hv : Value.okWide Try.prog w r base0 31 v) (h : DataW.Trod enc Try.prog w base held spare 31 v d p) : ∃ x : Unit, EntOk w v := by
  obtain ⟨cs, rfl⟩ := agg_of Try.underlying31 hv
  obtain ⟨fuel, hf⟩ := h
  simp only [Value.cells] at hf
  have hl := trod_len Try.underlying31 hf
  rw [show Try.prog.cellsOf 31 = 8 by kernel_rfl] at hl
  obtain ⟨l⟩ := cs
  simp only at hl hf
  match l, hl with
  | [c0, c1, c2, c3, c4, c5, c6, c7], _ =>
    obtain ⟨_, _, f0⟩ := trod_part Try.underlying31 hf 0 9 0 1 rfl rfl rfl (by kernel_rfl)
    obtain ⟨_, _, f1⟩ := trod_part Try.underlying31 hf 1 27 1 3 rfl rfl rfl (by kernel_rfl)
    obtain ⟨_, _, f2⟩ := trod_part Try.underlying31 hf 2 9 4 1 rfl rfl rfl (by kernel_rfl)
    obtain ⟨_, _, f3⟩ := trod_part Try.underlying31 hf 3 25 5 1 rfl rfl rfl (by kernel_rfl)
    obtain ⟨_, _, f4⟩ := trod_part Try.underlying31 hf 4 28 6 1 rfl rfl rfl (by kernel_rfl)
    obtain ⟨_, _, f5⟩ := trod_part Try.underlying31 hf 5 29 7 1 rfl rfl rfl (by kernel_rfl)
    simp only [List.drop_zero, List.drop_succ_cons, List.take_succ_cons, List.take_zero] at f0 f1 f2 f3 f4 f5
    obtain ⟨_, _, e0⟩ := trod_part Try.underlying27 f1 0 3 0 1 rfl rfl rfl (by kernel_rfl)
    obtain ⟨_, _, e1⟩ := trod_part Try.underlying27 f1 1 3 1 1 rfl rfl rfl (by kernel_rfl)
    obtain ⟨_, _, e2⟩ := trod_part Try.underlying27 f1 2 25 2 1 rfl rfl rfl (by kernel_rfl)
    simp only [List.drop_zero, List.drop_succ_cons, List.take_succ_cons, List.take_zero] at e0 e1 e2
    obtain ⟨nm, k0, _⟩ := DataW.trod_string Try.underlying9 f0
    obtain ⟨lb, k2, _⟩ := DataW.trod_string Try.underlying9 f2
    obtain ⟨sz, k3, _, w3⟩ := DataW.trod_int Try.underlying3 e0
    obtain ⟨ch, k4, _, _⟩ := DataW.trod_int Try.underlying3 e1
    obtain ⟨ia, il, ic, k5, w5⟩ := slice_shape Try.underlying25 e2
    obtain ⟨ka, kl, kc, k6, w6⟩ := slice_shape Try.underlying28 f4
    obtain ⟨da, dl, dc, k7, w7⟩ := slice_shape Try.underlying29 f5
    obtain ⟨tags, ⟨ta, tc, k8, _, hs⟩, _⟩ := open_sl_of encT (fun _ => True) 1 Try.underlying25 (by kernel_rfl) (by omega) (fun _ => rfl) (fun n cs y hy => by
      obtain ⟨s, rfl, _⟩ := DataW.trod_string Try.underlying9 hy
      exact ⟨s, rfl, trivial⟩) f3
    simp only [List.cons.injEq, and_true] at k0 k2 k3 k4 k5 k6 k7 k8
    subst k0 k2 k3 k4 k5 k6 k7 k8
    exact ⟨(), nm, lb, sz, ch, ia, ta, ka, da, il, ic, tc, kl, kc, dl, dc, tags, rfl, i64_of w3, w5, w6, w7, hs⟩
theorem open_status (hv : Value.okWide Try.prog w r base0 37 v) (h : DataW.Trod enc Try.prog w base held spare 37 v d p) : ∃ x : Unit, StOk w v := by
  obtain ⟨cs, rfl⟩ := agg_of Try.underlying37 hv
  obtain ⟨fuel, hf⟩ := h
  simp only [Value.cells] at hf
  have hl := trod_len Try.underlying37 hf
  rw [show Try.prog.cellsOf 37 = 23 by kernel_rfl] at hl
  obtain ⟨l⟩ := cs
  simp only at hl hf
  match l, hl with
  | [c0, c1, d0, d1, d2, d3, d4, d5, d6, d7, d8, d9, d10, d11, d12, d13, d14, d15, c2, c3, c4, c5, c6], _ =>
    obtain ⟨_, _, f0⟩ := trod_part Try.underlying37 hf 0 4 0 1 rfl rfl rfl (by kernel_rfl)
    obtain ⟨_, _, f1⟩ := trod_part Try.underlying37 hf 1 3 1 1 rfl rfl rfl (by kernel_rfl)
    obtain ⟨_, _, f2⟩ := trod_part Try.underlying37 hf 2 35 2 17 rfl rfl rfl (by kernel_rfl)
    obtain ⟨_, _, f3⟩ := trod_part Try.underlying37 hf 3 3 19 1 rfl rfl rfl (by kernel_rfl)
    obtain ⟨_, _, f4⟩ := trod_part Try.underlying37 hf 4 3 20 1 rfl rfl rfl (by kernel_rfl)
    obtain ⟨_, _, f5⟩ := trod_part Try.underlying37 hf 5 3 21 1 rfl rfl rfl (by kernel_rfl)
    obtain ⟨_, _, f6⟩ := trod_part Try.underlying37 hf 6 3 22 1 rfl rfl rfl (by kernel_rfl)
    simp only [List.drop_zero, List.drop_succ_cons, List.take_succ_cons, List.take_zero] at f0 f1 f2 f3 f4 f5 f6
    obtain ⟨_, _, e0⟩ := trod_part Try.underlying35 f2 0 33 0 16 rfl rfl rfl (by kernel_rfl)
    obtain ⟨_, _, e1⟩ := trod_part Try.underlying35 f2 1 29 16 1 rfl rfl rfl (by kernel_rfl)
    simp only [List.drop_zero, List.drop_succ_cons, List.take_succ_cons, List.take_zero] at e0 e1
    obtain ⟨up, k0, _⟩ := DataW.trod_bool Try.underlying4 f0
    obtain ⟨bk, k1, _, w1⟩ := DataW.trod_int Try.underlying3 f1
    obtain ⟨bl, k3, _, w3⟩ := DataW.trod_int Try.underlying3 f3
    obtain ⟨de, k4, _, w4⟩ := DataW.trod_int Try.underlying3 f4
    obtain ⟨bu, k5, _, w5⟩ := DataW.trod_int Try.underlying3 f5
    obtain ⟨us, k6, _, w6⟩ := DataW.trod_int Try.underlying3 f6
    obtain ⟨ca, cl, cc, k7, w7⟩ := slice_shape Try.underlying29 e1
    obtain ⟨zs, hz, hzl, hzw⟩ := open_arr_of Try.underlying33 Try.underlying3 (by kernel_rfl) (by kernel_rfl) e0
    obtain ⟨v0, v1, v2, v3, v4, v5, v6, v7, v8, v9, v10, v11, v12, v13, v14, v15, rfl⟩ := list16 hzl
    simp only [List.map_cons, List.map_nil, List.cons.injEq, and_true] at k0 k1 k3 k4 k5 k6 k7 hz
    obtain ⟨rfl, rfl, rfl, rfl, rfl, rfl, rfl, rfl, rfl, rfl, rfl, rfl, rfl, rfl, rfl, rfl⟩ := hz
    subst k0 k1 k3 k4 k5 k6 k7
    exact ⟨(), up, bk, bl, de, bu, us, v0, v1, v2, v3, v4, v5, v6, v7, v8, v9, v10, v11, v12, v13, v14, v15, ca, cl, cc, rfl, w7, i64_of w1, i64_of w3, i64_of w4, i64_of w5, i64_of w6, fun v hv => i64_of (hzw v hv)⟩
end
end Go.Proofs.Ytmgmokbephkpbaa
