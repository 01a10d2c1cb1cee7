/-
  The law's awake.
-/
import Derived.Test.YtgoddgaamdifmaaH
import Derived.Test.YtgoddgaamdifmaaC
set_option linter.unusedVariables false
set_option linter.unusedSimpArgs false
namespace Go.Proofs.Ytgoddgaamdifmaa
open Go.RowKit
theorem sl_newF (w : World) (l : List Nat) (E : TypeId) : Sl fltC 1 (w.alloc (.cells (l.flatMap fltC).toArray E)) (some ⟨w.heap.size, 0, none⟩) l := by
  intro i hi
  refine ⟨w.heap.size, 0, rfl, by simp, fun j v hv => ?_⟩
  rw [cell_new]
  have := flat_get (enc := fltC) (size := 1) (fun _ => rfl) l i hi j v hv
  rw [Nat.zero_add]
  simpa using this
theorem sl_newI (w : World) (l : List Int) (E : TypeId) : Sl intC 1 (w.alloc (.cells (l.flatMap intC).toArray E)) (some ⟨w.heap.size, 0, none⟩) l := by
  intro i hi
  refine ⟨w.heap.size, 0, rfl, by simp, fun j v hv => ?_⟩
  rw [cell_new]
  have := flat_get (enc := intC) (size := 1) (fun _ => rfl) l i hi j v hv
  rw [Nat.zero_add]
  simpa using this
def lBest : List Nat := [4607182418800017408, 4613937818241073152, 9221120237041090565, 9221120237041090565, 4611686018427387904]
theorem lBest_ok : fltOk lBest := by unfold fltOk; decide
theorem best5 : bestK lBest 5 = 3 := by decide +kernel
def lAge : List Int := [0, 1, 1, 8, 40]
theorem plan5 : rowB 5 (stay3 lAge 1 2 0 3) = [.bool true, .bool false, .bool false, .bool true, .bool false] := by
  unfold rowB
  have h0 : stay3 lAge 1 2 0 3 0 = true := by decide +kernel
  have h1 : stay3 lAge 1 2 0 3 1 = false := by decide +kernel
  have h2 : stay3 lAge 1 2 0 3 2 = false := by decide +kernel
  have h3 : stay3 lAge 1 2 0 3 3 = true := by decide +kernel
  have h4 : stay3 lAge 1 2 0 3 4 = false := by decide +kernel
  show [Value.bool _, .bool _, .bool _, .bool _, .bool _] = _
  rw [h0, h1, h2, h3, h4]
theorem due1 : dueB [4619567317775286272] 4620130267728707584 = true := by decide +kernel
theorem due2 : dueB [9221120237041090565] 4621256167635550208 = false := by decide +kernel
theorem due3 : dueB [] 4621256167635550208 = false := by decide +kernel
theorem due4 : dueB [4619567317775286272] 9221120237041090565 = false := by decide +kernel
theorem due5 : dueB [13830554455654793216] 0 = true := by decide +kernel
theorem sc1 : scoreN 9218868437227405312 9223372036854775808 = 0 := by decide +kernel
theorem sc2 : scoreN 4611686018427387904 4613937818241073152 = 4618441417868443648 := by decide +kernel
theorem sc3 : scoreN 9221120237041090565 0 = 9221120237041090561 := by decide +kernel
theorem t_best (W : World) : Calls Try.prog 8 #[.slice (some ⟨W.heap.size, 0, none⟩) 5 5] (W.alloc (.cells #[.float .f64 4607182418800017408, .float .f64 4613937818241073152, .float .f64 9221120237041090565, .float .f64 9221120237041090565, .float .f64 4611686018427387904] 26)) fun e w' => e = .returned (.tuple #[.int .i64 3, .bool true]) ∧ Below W.heap.size W w' := by
  refine (best_any lBest _ 5 _ (sl_newF W lBest 26) lBest_ok (by decide)).mono ?_
  rintro e w' ⟨rfl, n, rfl⟩
  refine ⟨?_, below_drewN (below_new _ _) n⟩
  rw [show lBest.length = 5 from rfl, best5]
  rfl
theorem t_best0 (W : World) : Calls Try.prog 8 #[.slice none 0 0] W fun e w' => e = .returned (.tuple #[.int .i64 0, .bool false]) ∧ Below W.heap.size W w' := by
  refine (best_any [] none 0 W (Sl.nil _ _ _ _) (fun i h => by cases h) (by decide)).mono ?_
  rintro e w' ⟨rfl, n, rfl⟩
  exact ⟨rfl, below_drewN (Below.refl _ _) n⟩
theorem t_due (x y : Nat) (B : Bool) (h : dueB [x] y = B) (hx : x < 18446744073709551616) (W : World) : Calls Try.prog 13 #[.slice (some ⟨W.heap.size, 0, none⟩) 1 1, .float .f64 y] (W.alloc (.cells #[.float .f64 x] 26)) fun e w' => e = .returned (.bool B) ∧ Below W.heap.size W w' := by
  refine (due_any [x] y _ 1 _ (sl_newF W [x] 26) (fun i hi => ?_) (by show 1 ≤ 40; decide)).mono ?_
  · have : i = 0 := by simpa using hi
    subst this; exact hx
  · rintro e w' ⟨rfl, n, rfl⟩
    exact ⟨by rw [h], below_drewN (below_new _ _) n⟩
theorem t_due0 (W : World) : Calls Try.prog 13 #[.slice none 0 0, .float .f64 4621256167635550208] W fun e w' => e = .returned (.bool false) ∧ Below W.heap.size W w' := by
  refine (due_any [] _ none 0 W (Sl.nil _ _ _ _) (fun i h => by cases h) (by decide)).mono ?_
  rintro e w' ⟨rfl, n, rfl⟩
  exact ⟨by rw [due3], below_drewN (Below.refl _ _) n⟩
theorem t_plan (W : World) : Calls Try.prog 15 #[.slice (some ⟨W.heap.size, 0, none⟩) 5 5, .agg #[.int .i64 1, .int .i64 2, .int .i64 0]] (W.alloc (.cells #[.int .i64 0, .int .i64 1, .int .i64 1, .int .i64 8, .int .i64 40] 3)) fun e w' => (∃ p, e = .returned (.slice (some ⟨p, 0, none⟩) 5 5) ∧ Bk p [.bool true, .bool false, .bool false, .bool true, .bool false] w') ∧ Below W.heap.size W w' := by
  refine (plan_any lAge 1 2 0 _ 5 _ (sl_newI W lAge 3) (by unfold lAge; simp [goodI, Lit.wf, IntKind.min, IntKind.max, IntKind.signed, IntKind.bits]) (by decide)).mono ?_
  rintro e w' ⟨rfl, hb, hbw⟩
  rw [show lAge.length = 5 from rfl, plan5] at hb
  exact ⟨⟨_, rfl, hb⟩, below_cons (below_new _ _) hbw⟩
theorem t_num (n : Nat) (W : World) : Calls Try.prog 7 #[.int .u64 (n : Int)] W fun e w' => e = .returned (.float .f64 n) ∧ W = w' := num_any n W
theorem t_num1 (W : World) : Calls Try.prog 7 #[.int .u64 9218868437227405312] W fun e w' => e = .returned (.float .f64 9218868437227405312) ∧ W = w' := num_any 9218868437227405312 W
theorem t_num2 (W : World) : Calls Try.prog 7 #[.int .u64 9221120237041090565] W fun e w' => e = .returned (.float .f64 9221120237041090565) ∧ W = w' := num_any 9221120237041090565 W
theorem t_num3 (W : World) : Calls Try.prog 7 #[.int .u64 9223372036854775808] W fun e w' => e = .returned (.float .f64 9223372036854775808) ∧ W = w' := num_any 9223372036854775808 W
theorem t_score (x y z : Nat) (h : scoreN x y = z) (W : World) : Calls Try.prog 11 #[.float .f64 x, .float .f64 y] W fun e w' => e = .returned (.float .f64 z) ∧ W = w' := by
  rw [← h]; exact score_any x y W
theorem t_same (W : World) : Calls Try.prog 10 #[.float .f64 0, .float .f64 0] W fun e w' => e = .returned (.bool true) ∧ W = w' := by
  have := same_any 0 0 W
  rwa [decide_eq_true rfl] at this
theorem six : FloatKind.f64.format.order 4618441417868443648 4618441417868443648 = some .eq := order_num (by decide)
theorem nan1 : FloatKind.f64.format.order 9221120237041090561 9221120237041090561 = none := order_nan _ (by decide)
set_option maxRecDepth 100000 in
set_option maxHeartbeats 16000000 in
theorem awake_any (w : World) : Calls Try.prog 6 #[] w fun e w' => e = .returned (.bool true) ∧ Below w.heap.size w w' := by
  have T1 := Lib.hid t_best; have T2 := Lib.hid t_best0; have T3 := Lib.hid t_plan
  have D1 := Lib.hid (fun W => t_due _ _ _ due1 (by decide) W); have D2 := Lib.hid (fun W => t_due _ _ _ due2 (by decide) W); have D4 := Lib.hid (fun W => t_due _ _ _ due4 (by decide) W); have D5 := Lib.hid (fun W => t_due _ _ _ due5 (by decide) W)
  have S1 := Lib.hid (fun W => t_score _ _ _ sc1 W); have S2 := Lib.hid (fun W => t_score _ _ _ sc2 W); have S3 := Lib.hid (fun W => t_score _ _ _ sc3 W)
  have h6 := six; have hn := nan1
  go_enter Try.func6, Try.ntmps6
  go_wp2_with fail
  refine (t_num1 w).mono ?_
  rintro e w' ⟨rfl, rfl⟩
  go_wp2_with fail
  refine (t_num2 w).mono ?_
  rintro e w' ⟨rfl, rfl⟩
  go_wp2_with fail
  refine (T1.out w).mono ?_
  rintro e w1 ⟨rfl, hb⟩
  have HB1 := Lib.hid hb
  clear hb
  go_wp2_with fail
  refine (T2.out w1).mono ?_
  rintro e w2 ⟨rfl, hb⟩
  have HB2 := Lib.hid (below_cons HB1.out hb)
  clear hb
  go_wp2_with fail
  refine (T3.out w2).mono ?_
  rintro e w3 ⟨⟨p, rfl, hp⟩, hb⟩
  have HB3 := Lib.hid (below_cons HB2.out hb)
  have HP3 := Lib.hid hp
  clear hb hp
  go_wp2_with fail
  refine (D1.out w3).mono ?_
  rintro e w4 ⟨rfl, hb⟩
  have HB4 := Lib.hid (below_cons HB3.out hb)
  have HP4 := Lib.hid (HP3.out.keep hb)
  clear hb
  go_wp2_with fail
  refine (D2.out w4).mono ?_
  rintro e w5 ⟨rfl, hb⟩
  have HB5 := Lib.hid (below_cons HB4.out hb)
  have HP5 := Lib.hid (HP4.out.keep hb)
  clear hb
  go_wp2_with fail
  refine (t_due0 w5).mono ?_
  rintro e w6 ⟨rfl, hb⟩
  have HB6 := Lib.hid (below_cons HB5.out hb)
  have HP6 := Lib.hid (HP5.out.keep hb)
  clear hb
  go_wp2_with fail
  refine (D4.out w6).mono ?_
  rintro e w7 ⟨rfl, hb⟩
  have HB7 := Lib.hid (below_cons HB6.out hb)
  have HP7 := Lib.hid (HP6.out.keep hb)
  clear hb
  go_wp2_with fail
  refine (D5.out w7).mono ?_
  rintro e w8 ⟨rfl, hb⟩
  have HB8 := Lib.hid (below_cons HB7.out hb)
  have HP8 := Lib.hid (HP7.out.keep hb)
  clear hb
  go_wp2_with fail
  refine (t_num3 w8).mono ?_
  rintro e w' ⟨rfl, rfl⟩
  go_wp2_with fail
  refine (S1.out w8).mono ?_
  rintro e w' ⟨rfl, rfl⟩
  go_wp2_with fail
  refine (t_same w8).mono ?_
  rintro e w' ⟨rfl, rfl⟩
  go_wp2_with fail
  refine (S2.out w8).mono ?_
  rintro e w' ⟨rfl, rfl⟩
  go_wp2_with fail
  refine (S3.out w8).mono ?_
  rintro e w' ⟨rfl, rfl⟩
  go_wp2_with fail
  refine (S3.out w8).mono ?_
  rintro e w' ⟨rfl, rfl⟩
  have p0 := (HP8.out.2 0 _ rfl).1; have p1 := (HP8.out.2 1 _ rfl).1; have p2 := (HP8.out.2 2 _ rfl).1; have p3 := (HP8.out.2 3 _ rfl).1; have p4 := (HP8.out.2 4 _ rfl).1
  go_wp2
  go_ret
  exact ⟨rfl, HB8.out⟩
end Go.Proofs.Ytgoddgaamdifmaa

