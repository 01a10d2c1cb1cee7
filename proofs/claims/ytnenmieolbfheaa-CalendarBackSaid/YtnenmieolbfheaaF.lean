/-
  The walks of CalendarDays and CalendarBack: both laws return true, for every input, without condition.
-/
import Derived.Test.YtnenmieolbfheaaE
import Derived.Test.YtnenmieolbfheaaT
namespace Go.Proofs.Ytnenmieolbfheaa
open Go.RowKit
theorem kept_new {W w1 : World} {cs : Array Value} {E : TypeId} (hb : Below (W.alloc (.cells cs E)).heap.size (W.alloc (.cells cs E)) w1) (i : Nat) : w1.cell? ⟨W.heap.size, i, none⟩ = cs[i]? :=
  (hb.cell (p := ⟨W.heap.size, i, none⟩) (by simp)).trans (cell_new _ _ _ _)
theorem kept_lt {W w1 : World} {o : Obj} (hb : Below (W.alloc o).heap.size (W.alloc o) w1) : W.heap.size < w1.heap.size := by have := hb.size; simp at this; omega
theorem below_alloc {W w1 : World} {o : Obj} (hb : Below (W.alloc o).heap.size (W.alloc o) w1) : Below W.heap.size W w1 := ((Below.refl _ _).alloc (Nat.le_refl _) _).trans (hb.mono (by simp))
set_option maxHeartbeats 1000000 in
theorem awake_any (w : World) : Calls Try.prog 11 #[] w fun e w' => e = .returned (.bool true) ∧ Below w.heap.size w w' := by
  have heq := fun w => eq3 2000 2 29 2000 2 29 w
  go_enter Try.func11, Try.ntmps11
  go_wp2_with fail
  refine (days_ok 0 3 1 _ (by decide)).mono ?_
  rintro e w1 ⟨rfl, hb1⟩
  rw [show num 0 3 1 = 0 from rfl]
  go_wp2_with fail
  refine (days_ok 1 3 1 _ (by decide)).mono ?_
  rintro e w2 ⟨rfl, hb2⟩
  rw [show num 1 3 1 = 365 from rfl]
  go_wp2_with fail
  refine (days_no 1900 2 29 _ (by decide)).mono ?_
  rintro e w3 ⟨rfl, hb3⟩
  go_wp2_with fail
  refine (days_ok 2000 2 29 _ (by decide)).mono ?_
  rintro e w4 ⟨rfl, hb4⟩
  rw [show num 2000 2 29 = 730484 from rfl]
  go_wp2_with fail
  refine (date_ok 730484 _ (by omega) (by omega)).mono ?_
  rintro e w5 ⟨rfl, hb5⟩
  rw [show dY 730484 = 2000 from rfl, show dM 730484 = 2 from rfl, show dD 730484 = 29 from rfl]
  go_wp2_with fail
  refine (date_no (-1) _ (by omega)).mono ?_
  rintro e w6 ⟨rfl, hb6⟩
  have q0 : w6.cell? ⟨w5.heap.size, 0, none⟩ = some (.int .i64 2000) := kept_new hb6 0
  have q1 : w6.cell? ⟨w5.heap.size, 1, none⟩ = some (.int .i64 2) := kept_new hb6 1
  have q2 : w6.cell? ⟨w5.heap.size, 2, none⟩ = some (.int .i64 29) := kept_new hb6 2
  have hz := kept_lt hb6
  go_wp2_with fail
  refine (week_any _ _).mono ?_
  rintro e w7 ⟨rfl, rfl⟩
  rw [show wk (-1) = 6 by decide +kernel]
  go_wp2_with fail
  go_ret
  exact ⟨rfl, (below_cons (below_cons (below_cons (below_cons (below_cons hb1 hb2) hb3) hb4) hb5) (below_alloc hb6)).alloc (below_cons (below_cons (below_cons (below_cons (below_cons hb1 hb2) hb3) hb4) hb5) (below_alloc hb6)).size _⟩
end Go.Proofs.Ytnenmieolbfheaa
