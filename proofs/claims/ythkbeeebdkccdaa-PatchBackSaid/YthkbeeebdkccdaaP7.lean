/-
  The law of PatchBack for all arguments that the row lets in. Conditions: none.
-/
import Derived.Test.YthkbeeebdkccdaaP6
set_option linter.unusedVariables false
set_option linter.unusedSimpArgs false
namespace Go.Proofs.Ythkbeeebdkccdaa
open Go.RowKit
theorem lit112 : catP [.old 1 2] = ⟨#[1, 1, 2]⟩ := by decide +kernel
theorem outsbc : outsP ⟨#[97, 98, 99]⟩ [.old 1 2] = ⟨#[98, 99]⟩ := by decide +kernel
theorem apply_bc (w : World) : Calls Try.prog 6 #[.string ⟨#[97, 98, 99]⟩, .string ⟨#[1, 1, 2]⟩] w fun e w' => e = .returned (.tuple #[.string ⟨#[98, 99]⟩, .int .i64 0]) ∧ Below w.heap.size w w' := by
  have := apply_any ⟨#[97, 98, 99]⟩ [.old 1 2] w (by decide) (fun x hx => by rw [List.mem_singleton.1 hx]; show 1 + 2 ≤ 3; decide) (by rw [outsbc]; decide) (by rw [lit112]; decide)
  rwa [outsbc, lit112] at this
def Back (old now p : ByteArray) : Prop := p.size ≤ now.size + 4 ∧ ∀ W, Calls Try.prog 6 #[.string old, .string p] W fun e w' => e = .returned (.tuple #[.string now, .int .i64 0]) ∧ Below W.heap.size W w'
theorem make_back (old now : ByteArray) (w : World) (h1 : old.size ≤ 4096) (h2 : now.size ≤ 4096) : Calls Try.prog 5 #[.string old, .string now] w fun e w' => ∃ p, e = .returned (.tuple #[.string p, .int .i64 0]) ∧ Back old now p ∧ Below w.heap.size w w' := by
  refine (make_any old now w h1 h2).mono ?_
  rintro e w' ⟨ps, rfl, hok, hout, hsz, hb⟩
  refine ⟨_, rfl, ⟨hsz, fun W => ?_⟩, hb⟩
  have := apply_any old ps W (by omega) hok (by rw [hout]; omega) (by omega)
  rwa [hout] at this
set_option maxRecDepth 100000 in
set_option maxHeartbeats 8000000 in
theorem awake_any (w : World) : Calls Try.prog 4 #[] w fun e w' => e = .returned (.bool true) ∧ Below w.heap.size w w' := by
  have T1 := Lib.hid apply_bc
  have T2 := Lib.hid (fun W => make_back ⟨#[97, 98, 99]⟩ ⟨#[120, 98, 99]⟩ W (by decide) (by decide))
  have T3 := Lib.hid apply_range
  have T4 := Lib.hid apply_arg
  go_enter Try.func4, Try.ntmps4
  go_wp2_with fail
  refine (T1.out _).mono ?_
  rintro e w2 ⟨rfl, hb⟩
  have HB2 := Lib.hid hb
  clear hb
  go_wp2_with fail
  refine (T2.out _).mono ?_
  rintro e w3 ⟨p, rfl, ⟨hp, hbk⟩, hb⟩
  have HK := Lib.hid hbk
  have HB3 := Lib.hid (below_cons HB2.out hb)
  clear hb hbk hp
  go_wp2_with fail
  refine (HK.out _).mono ?_
  rintro e w4 ⟨rfl, hb⟩
  have HB4 := Lib.hid (below_cons HB3.out hb)
  clear hb
  go_wp2_with fail
  refine (T3.out _).mono ?_
  rintro e w5 ⟨rfl, hb⟩
  have HB5 := Lib.hid (below_cons HB4.out hb)
  clear hb
  go_wp2_with fail
  refine (T4.out _).mono ?_
  rintro e w6 ⟨rfl, hb⟩
  have HB6 := Lib.hid (below_cons HB5.out hb)
  clear hb
  go_wp2
  go_ret
  exact ⟨rfl, HB6.out⟩
set_option maxRecDepth 100000 in
set_option maxHeartbeats 8000000 in
theorem back_law (old now : ByteArray) (w : World) (_ : old.size ≤ 140737488351232) (_ : now.size ≤ 140737488351232) : Calls Try.prog 3 #[.string old, .string now] w fun e w' => e = .returned (.bool true) ∧ Below w.heap.size w w' := by
  have TA := Lib.hid awake_any
  by_cases g1 : (5000 : Int) < (old.size : Int)
  · go_enter Try.func3, Try.ntmps3
    go_wp2_with fail
    refine (TA.out _).mono ?_
    rintro e w2 ⟨rfl, hb⟩
    have HB2 := Lib.hid hb
    clear hb
    go_wp2
    go_ret
    exact ⟨rfl, HB2.out⟩
  by_cases g2 : (5000 : Int) < (now.size : Int)
  · go_enter Try.func3, Try.ntmps3
    go_wp2_with fail
    refine (TA.out _).mono ?_
    rintro e w2 ⟨rfl, hb⟩
    have HB2 := Lib.hid hb
    clear hb
    go_wp2
    go_ret
    exact ⟨rfl, HB2.out⟩
  by_cases l1 : (4096 : Int) < (old.size : Int)
  · have TM := Lib.hid (fun W => make_long old now W (by omega))
    go_enter Try.func3, Try.ntmps3
    go_wp2_with fail
    refine (TM.out _).mono ?_
    rintro e w1 ⟨rfl, rfl⟩
    go_wp2_with fail
    refine (TA.out _).mono ?_
    rintro e w2 ⟨rfl, hb⟩
    have HB2 := Lib.hid hb
    clear hb
    go_wp2
    go_ret
    exact ⟨rfl, HB2.out⟩
  by_cases l2 : (4096 : Int) < (now.size : Int)
  · have TM := Lib.hid (fun W => make_long old now W (by omega))
    go_enter Try.func3, Try.ntmps3
    go_wp2_with fail
    refine (TM.out _).mono ?_
    rintro e w1 ⟨rfl, rfl⟩
    go_wp2_with fail
    refine (TA.out _).mono ?_
    rintro e w2 ⟨rfl, hb⟩
    have HB2 := Lib.hid hb
    clear hb
    go_wp2
    go_ret
    exact ⟨rfl, HB2.out⟩
  have TM := Lib.hid (fun W => make_back old now W (by omega) (by omega))
  have wn : IntKind.i64.wrap ((now.size : Int) + 4) = (now.size : Int) + 4 := by rw [IntKind.wrap_i64]; omega
  go_enter Try.func3, Try.ntmps3
  go_wp2_with fail
  refine (TM.out _).mono ?_
  rintro e w3 ⟨p, rfl, ⟨hp, hbk⟩, hb⟩
  have HK := Lib.hid hbk
  have HB3 := Lib.hid hb
  have hp2 : (p.size : Int) ≤ (now.size : Int) + 4 := by omega
  clear hb hbk
  go_wp2_with fail
  refine (HK.out _).mono ?_
  rintro e w4 ⟨rfl, hb⟩
  have HB4 := Lib.hid (below_cons HB3.out hb)
  clear hb
  go_wp2_with fail
  refine (TA.out _).mono ?_
  rintro e w2 ⟨rfl, hb⟩
  have HB2 := Lib.hid (below_cons HB4.out hb)
  clear hb
  go_wp2
  go_ret
  exact ⟨rfl, HB2.out⟩
end Go.Proofs.Ythkbeeebdkccdaa

