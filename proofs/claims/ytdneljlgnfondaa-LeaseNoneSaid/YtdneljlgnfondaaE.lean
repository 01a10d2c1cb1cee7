/-
  The contract of the law's awake, and the law of LeaseNone. Conditions: none.
-/
import Derived.Test.YtdneljlgnfondaaD
import Derived.Test.YtdneljlgnfondaaOpen
set_option linter.unusedVariables false
set_option linter.unusedSimpArgs false
namespace Go.Proofs.Ytdneljlgnfondaa
open Go.RowKit Go.WideShapes Go.ChangeShapes Go.ChangeAt Go.Deep
def sx : ByteArray := ⟨#[120]⟩
def sal : ByteArray := ⟨#[97, 108]⟩
def sbo : ByteArray := ⟨#[98, 111]⟩
def h1 : Holder := (sal, 5, 1)
def h2 : Holder := (sbo, 10, 2)
def h3 : Holder := (sbo, 15, 2)
def f1 : ByteArray → Holder := setf (fun _ => z0) sx h1
def f2 : ByteArray → Holder := setf f1 sx h2
def f3 : ByteArray → Holder := setf f2 sx h3
theorem f1x : f1 sx = h1 := setf_same _ _ _
theorem f2x : f2 sx = h2 := setf_same _ _ _
theorem f3x : f3 sx = h3 := setf_same _ _ _
theorem xs : 0 < sx.size ∧ sx.size ≤ 64 := ⟨by decide, by decide⟩
theorem als : 0 < sal.size ∧ sal.size ≤ 64 := ⟨by decide, by decide⟩
theorem bos : 0 < sbo.size ∧ sbo.size ≤ 64 := ⟨by decide, by decide⟩
theorem xm : sx.size ≤ maxLen := by decide
set_option maxHeartbeats 4000000 in
theorem awake_any (w : World) : Calls Try.prog 8 #[] w fun e w' => e = .returned (.bool true) ∧ Below w.heap.size w w' := by
  go_enter Try.func8, Try.ntmps8
  go_wp2_with fail
  refine (new_any w).mono ?_
  rintro e w1 ⟨rfl, hq, hb⟩
  have hp : w.heap.size < w1.heap.size ∧ w.heap.size + 1 < w1.heap.size := ⟨hq.2.1.lt, hq.1.1⟩
  generalize hpe : w.heap.size + 1 = p at hq hp ⊢
  generalize hbe : w.heap.size = b at hq hp ⊢
  have HQ := Lib.hid hq; have HB := Lib.hid hb; have HP := Lib.hid hpe; have HBE := Lib.hid hbe
  clear hq hb hpe hbe hp
  go_wp2_with fail
  refine (take_free sx sal z0 0 5 _ HQ.out xs als rfl (Or.inl rfl) (by decide) (by omega) (by omega) (by omega) (by omega) rfl (by omega)).mono ?_
  rintro e w2 ⟨rfl, hq, hk⟩
  have HQ1 : Hid (Ls w2 p b 1 f1 1) := Lib.hid hq
  have HK1 := Lib.hid hk
  clear hq hk
  go_wp2_with fail
  refine (take_held sx sbo h1 4 5 _ HQ1.out xs bos f1x (Or.inr als.1) (by omega) (by omega) (by omega) (by omega) rfl).mono ?_
  rintro e w3 ⟨rfl, hq, hb⟩
  have HQ2 := Lib.hid hq
  have HK2 := Lib.hid (HK1.out.trans (Kp.new hb))
  clear hq hb
  go_wp2_with fail
  refine (take_free sx sbo h1 5 5 _ HQ2.out xs bos f1x (Or.inr als.1) (by decide) (by omega) (by omega) (by omega) (by omega) rfl (by omega)).mono ?_
  rintro e w4 ⟨rfl, hq, hk⟩
  have HQ3 : Hid (Ls w4 p b 2 f2 2) := Lib.hid hq
  have HK3 := Lib.hid (HK2.out.trans hk)
  clear hq hk
  go_wp2_with fail
  refine (renew_no sx h2 1 6 9 _ HQ3.out xm f2x (Or.inr bos.1) (by omega) (by omega) (by omega) (by omega) rfl (by decide)).mono ?_
  rintro e w5 ⟨rfl, hq, hb⟩
  have HQ4 := Lib.hid hq
  have HK4 := Lib.hid (HK3.out.trans (Kp.new hb))
  clear hq hb
  go_wp2_with fail
  refine (renew_yes sx sbo 10 2 6 9 _ HQ4.out xm f2x bos.1 (by decide) (by omega) (by omega) (by omega) (by omega) rfl).mono ?_
  rintro e w6 ⟨rfl, hq, hk⟩
  have HQ5 : Hid (Ls w6 p b 3 f3 2) := Lib.hid hq
  have HK5 := Lib.hid (HK4.out.trans hk)
  clear hq hk
  go_wp2_with fail
  refine (who_live sx h3 14 _ HQ5.out xm f3x (Or.inr bos.1) rfl).mono ?_
  rintro e w7 ⟨rfl, hq, hb⟩
  have HQ6 := Lib.hid hq
  have HK6 := Lib.hid (HK5.out.trans (Kp.new hb))
  clear hq hb
  have e1 : h3.1 = ⟨#[98, 111]⟩ := rfl
  have e2 : h3.2.2 = 2 := rfl
  rw [e1, e2]
  go_wp2_with fail
  refine (give_no sx h3 1 _ HQ6.out xm f3x (by omega) (by decide)).mono ?_
  rintro e w8 ⟨rfl, rfl⟩
  go_wp2_with fail
  refine (give_yes sx h3 _ HQ6.out xm f3x (by decide)).mono ?_
  rintro e w9 ⟨rfl, hq, hk⟩
  have HQ7 := Lib.hid hq
  have HK7 := Lib.hid (HK6.out.trans hk)
  clear hq hk
  go_wp2_with fail
  refine (take_noname sal 0 5 _ HQ7.out).mono ?_
  rintro e wa ⟨rfl, rfl⟩
  go_wp2
  go_ret
  have e1 := HP.out
  have e2 := HBE.out
  have hz := HB.out.size
  exact ⟨rfl, HB.out.trans (HK7.out.below hz (fun k hk => by omega))⟩
set_option maxHeartbeats 4000000 in
theorem none_walk (k : Int) (s t : ByteArray) (fe now long : Int) (w : World) : Calls Try.prog 3 #[.agg #[.int .i64 k, .string s, .string t, .int .i64 fe, .int .i64 now, .int .i64 long]] w fun e w' => e = .returned (.bool true) ∧ Below w.heap.size w w' := by
  have HB := Lib.hid (below_new w (.cells #[.int .i64 k, .string s, .string t, .int .i64 fe, .int .i64 now, .int .i64 long] 23))
  go_enter Try.func3, Try.ntmps3
  go_wp2_with fail
  refine (take_nil s t now long _).mono ?_
  rintro e w1 ⟨rfl, rfl⟩
  go_wp2_with fail
  refine (who_nil s now _).mono ?_
  rintro e w1 ⟨rfl, rfl⟩
  go_wp2_with fail
  refine (renew_nil s fe now long _).mono ?_
  rintro e w1 ⟨rfl, rfl⟩
  go_wp2_with fail
  refine (give_nil s fe _).mono ?_
  rintro e w1 ⟨rfl, rfl⟩
  go_wp2_with fail
  refine (awake_any _).mono ?_
  rintro e w1 ⟨rfl, hb⟩
  have HB2 := Lib.hid (below_step HB.out (Nat.le_refl _) hb)
  clear hb
  go_wp2
  go_ret
  exact ⟨rfl, HB2.out⟩
def DeedOk (v : Value) : Prop := ∃ k s t fe now long, v = .agg #[.int .i64 k, .string s, .string t, .int .i64 fe, .int .i64 now, .int .i64 long]
theorem open_deed {H : Type} {enc : TypeId × Value → H} {w : World} {base base0 : Nat} {spare : Bool} {held : TypeId → Bool} {r : Reach} {v : Value} {d : DataW H} {p : List MemPlace}
    (hv : Value.okWide Try.prog w r base0 23 v) (h : DataW.Trod enc Try.prog w base held spare 23 v d p) : ∃ x : Unit, DeedOk v := by
  obtain ⟨cs, rfl⟩ := agg_of Try.underlying23 hv
  obtain ⟨fuel, hf⟩ := h
  simp only [Value.cells] at hf
  have hl := trod_len Try.underlying23 hf
  rw [show Try.prog.cellsOf 23 = 6 by kernel_rfl] at hl
  obtain ⟨l⟩ := cs
  simp only at hl hf
  match l, hl with
  | [c0, c1, c2, c3, c4, c5], _ =>
    obtain ⟨_, _, e0⟩ := trod_part Try.underlying23 hf 0 3 0 1 rfl rfl rfl (by kernel_rfl)
    obtain ⟨_, _, e1⟩ := trod_part Try.underlying23 hf 1 9 1 1 rfl rfl rfl (by kernel_rfl)
    obtain ⟨_, _, e2⟩ := trod_part Try.underlying23 hf 2 9 2 1 rfl rfl rfl (by kernel_rfl)
    obtain ⟨_, _, e3⟩ := trod_part Try.underlying23 hf 3 3 3 1 rfl rfl rfl (by kernel_rfl)
    obtain ⟨_, _, e4⟩ := trod_part Try.underlying23 hf 4 3 4 1 rfl rfl rfl (by kernel_rfl)
    obtain ⟨_, _, e5⟩ := trod_part Try.underlying23 hf 5 3 5 1 rfl rfl rfl (by kernel_rfl)
    simp only [List.drop_zero, List.drop_succ_cons, List.take_succ_cons, List.take_zero] at e0 e1 e2 e3 e4 e5
    obtain ⟨k, k0, _⟩ := DataW.trod_int Try.underlying3 e0
    obtain ⟨s, k1, _, hs⟩ := DataW.trod_string Try.underlying9 e1
    obtain ⟨t, k2, _, ht⟩ := DataW.trod_string Try.underlying9 e2
    obtain ⟨fe, k3, _⟩ := DataW.trod_int Try.underlying3 e3
    obtain ⟨now, k4, _⟩ := DataW.trod_int Try.underlying3 e4
    obtain ⟨long, k5, _⟩ := DataW.trod_int Try.underlying3 e5
    simp only [List.cons.injEq, and_true] at k0 k1 k2 k3 k4 k5
    subst k0 k1 k2 k3 k4 k5
    exact ⟨(), k, s, t, fe, now, long, rfl⟩
theorem none_law (v : Value) (_x : Unit) (w : World) (h : DeedOk v) : Calls Try.prog 3 #[v] w fun e w' => e = .returned (.bool true) ∧ Below w.heap.size w w' := by
  obtain ⟨k, s, t, fe, now, long, rfl⟩ := h
  exact none_walk k s t fe now long w
end Go.Proofs.Ytdneljlgnfondaa

