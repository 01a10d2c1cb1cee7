/-
  The walk of StampReckons: it returns true, for every input, without condition.
-/
import Derived.Test.YteijamnihfhndaaO
namespace Go.Proofs.Yteijamnihfhndaa
open Go.RowKit
/-- What the law's boxes hold: the two stamps, the pair of numbers. -/
def InR (w : World) (a b : St) (m n : Int) (w' : World) : Prop :=
  w.heap.size + 1 + 1 < w'.heap.size ∧ (w'.cell? ⟨w.heap.size, 0, none⟩ = some (.int .i64 a.t) ∧ w'.cell? ⟨w.heap.size, 1, none⟩ = some (.int .i64 a.c) ∧ w'.cell? ⟨w.heap.size, 2, none⟩ = some (.int .i64 a.r)) ∧
  (w'.cell? ⟨w.heap.size + 1, 0, none⟩ = some (.int .i64 b.t) ∧ w'.cell? ⟨w.heap.size + 1, 1, none⟩ = some (.int .i64 b.c) ∧ w'.cell? ⟨w.heap.size + 1, 2, none⟩ = some (.int .i64 b.r)) ∧
  (w'.cell? ⟨w.heap.size + 1 + 1, 0, none⟩ = some (.int .i64 m) ∧ w'.cell? ⟨w.heap.size + 1 + 1, 1, none⟩ = some (.int .i64 n))
theorem InR.keep {w : World} {a b : St} {m n : Int} {w1 w2 : World} (h : InR w a b m n w1) (hb : Below w1.heap.size w1 w2) : InR w a b m n w2 := by
  obtain ⟨hz, ⟨a0, a1, a2⟩, ⟨b0, b1, b2⟩, ⟨c0, c1⟩⟩ := h
  refine ⟨Nat.lt_of_lt_of_le hz hb.size, ⟨?_, ?_, ?_⟩, ⟨?_, ?_, ?_⟩, ⟨?_, ?_⟩⟩
  · exact (hb.cell (p := ⟨_, _, none⟩) (by simp <;> omega)).trans a0
  · exact (hb.cell (p := ⟨_, _, none⟩) (by simp <;> omega)).trans a1
  · exact (hb.cell (p := ⟨_, _, none⟩) (by simp <;> omega)).trans a2
  · exact (hb.cell (p := ⟨_, _, none⟩) (by simp <;> omega)).trans b0
  · exact (hb.cell (p := ⟨_, _, none⟩) (by simp <;> omega)).trans b1
  · exact (hb.cell (p := ⟨_, _, none⟩) (by simp <;> omega)).trans b2
  · exact (hb.cell (p := ⟨_, _, none⟩) (by simp <;> omega)).trans c0
  · exact (hb.cell (p := ⟨_, _, none⟩) (by simp <;> omega)).trans c1
theorem InR.new (w : World) (a b : St) (m n : Int) : InR w a b m n (((w.alloc (.cells #[.int .i64 a.t, .int .i64 a.c, .int .i64 a.r] 23)).alloc (.cells #[.int .i64 b.t, .int .i64 b.c, .int .i64 b.r] 23)).alloc (.cells #[.int .i64 m, .int .i64 n] 24)) := by
  refine ⟨by simp, ⟨?_, ?_, ?_⟩, ⟨?_, ?_, ?_⟩, ⟨?_, ?_⟩⟩
  all_goals go_simp
/-- A stamp's three cells in a block. -/
def Box (k : Nat) (a : St) (w : World) : Prop := k < w.heap.size ∧ w.cell? ⟨k, 0, none⟩ = some (.int .i64 a.t) ∧ w.cell? ⟨k, 1, none⟩ = some (.int .i64 a.c) ∧ w.cell? ⟨k, 2, none⟩ = some (.int .i64 a.r)
theorem Box.keep {k : Nat} {a : St} {w1 w2 : World} (h : Box k a w1) (hb : Below w1.heap.size w1 w2) : Box k a w2 := by
  obtain ⟨hz, a0, a1, a2⟩ := h
  refine ⟨Nat.lt_of_lt_of_le hz hb.size, ?_, ?_, ?_⟩
  · exact (hb.cell (p := ⟨_, _, none⟩) (by simp <;> omega)).trans a0
  · exact (hb.cell (p := ⟨_, _, none⟩) (by simp <;> omega)).trans a1
  · exact (hb.cell (p := ⟨_, _, none⟩) (by simp <;> omega)).trans a2
theorem Box.new (w : World) (a : St) : Box w.heap.size a (w.alloc (.cells #[.int .i64 a.t, .int .i64 a.c, .int .i64 a.r] 23)) := by
  refine ⟨by simp, ?_, ?_, ?_⟩
  all_goals go_simp
set_option maxRecDepth 100000 in
set_option maxHeartbeats 8000000 in
theorem reckons_walk (a b : St) (m n : Int) (w : World) : Calls Try.prog 3 #[ag a, ag b, .agg #[.int .i64 m, .int .i64 n]] w fun e w' => e = .returned (.bool true) ∧ Below w.heap.size w w' := by
  have HN1 := Lib.hid (next_any a m n)
  have HN2 := Lib.hid (refNext_any a m n)
  have HS1 := Lib.hid (seen_any a b m)
  have HS2 := Lib.hid (refSeen_any a b m)
  generalize nextS a m n = X at *
  generalize seenS a b m = Y at *
  obtain ⟨x, xe⟩ := X
  obtain ⟨y, ye⟩ := Y
  have he1 := eqS_true (a := x.t) (b := x.c) (c := x.r) (d := x.t) (e := x.c) (f := x.r) ⟨rfl, rfl, rfl⟩
  have he2 := eqS_true (a := y.t) (b := y.c) (c := y.r) (d := y.t) (e := y.c) (f := y.r) ⟨rfl, rfl, rfl⟩
  have HI0 := Lib.hid (InR.new w a b m n)
  have HB0 : Hid (Below w.heap.size w (((w.alloc (.cells #[.int .i64 a.t, .int .i64 a.c, .int .i64 a.r] 23)).alloc (.cells #[.int .i64 b.t, .int .i64 b.c, .int .i64 b.r] 23)).alloc (.cells #[.int .i64 m, .int .i64 n] 24))) := Lib.hid (by
    (repeat (first | exact Below.refl _ _ | (with_reducible assumption) | refine Below.setCell ?_ (by simp <;> omega) _ | refine Below.alloc ?_ (by simp <;> omega) _ | refine Below.drew ?_ | refine below_drewN ?_ _)))
  go_enter Try.func3, Try.ntmps3
  go_wp2_with fail
  refine (HN1.out _).mono ?_
  rintro e w1 ⟨rfl, hb1⟩
  have HI1 := Lib.hid (HI0.out.keep hb1)
  have HB1 := Lib.hid (below_step HB0.out (Nat.le_refl _) hb1)
  have HX1 := Lib.hid (Box.new w1 x)
  have hy1 := below_new w1 (.cells #[.int .i64 x.t, .int .i64 x.c, .int .i64 x.r] 23)
  have HJ1 := Lib.hid (HI1.out.keep hy1)
  have HC1 := Lib.hid (below_step HB1.out (Nat.le_refl _) hy1)
  clear hb1 hy1
  obtain ⟨hz1, ⟨a0, a1, a2⟩, ⟨b0, b1, b2⟩, ⟨c0, c1⟩⟩ := HI1.out
  have hz1a : w.heap.size < w1.heap.size := by omega
  have hz1b : w.heap.size + 1 < w1.heap.size := by omega
  go_wp2_with fail
  refine (HN2.out _).mono ?_
  rintro e w2 ⟨rfl, hb2⟩
  clear hz1 hz1a hz1b a0 a1 a2 b0 b1 b2 c0 c1
  have HI2 := Lib.hid (HJ1.out.keep hb2)
  have HB2 := Lib.hid (below_step HC1.out (Nat.le_refl _) hb2)
  have HX2 := Lib.hid (HX1.out.keep hb2)
  have HZ2 := Lib.hid (Box.new w2 x)
  have hy2 := below_new w2 (.cells #[.int .i64 x.t, .int .i64 x.c, .int .i64 x.r] 23)
  have HJ2 := Lib.hid (HI2.out.keep hy2)
  have HC2 := Lib.hid (below_step HB2.out (Nat.le_refl _) hy2)
  have HX2' := Lib.hid (HX2.out.keep hy2)
  clear hb2 hy2
  obtain ⟨hz1, ⟨a0, a1, a2⟩, ⟨b0, b1, b2⟩, ⟨c0, c1⟩⟩ := HI2.out
  have hz1a : w.heap.size < w2.heap.size := by omega
  have hz1b : w.heap.size + 1 < w2.heap.size := by omega
  go_wp2_with fail
  refine (HS1.out _).mono ?_
  rintro e w3 ⟨rfl, hb3⟩
  clear hz1 hz1a hz1b a0 a1 a2 b0 b1 b2 c0 c1
  have HI3 := Lib.hid (HJ2.out.keep hb3)
  have HB3 := Lib.hid (below_step HC2.out (Nat.le_refl _) hb3)
  have HX3 := Lib.hid (HX2'.out.keep hb3)
  have HZ3 := Lib.hid (HZ2.out.keep hb3)
  have HU3 := Lib.hid (Box.new w3 y)
  have hy3 := below_new w3 (.cells #[.int .i64 y.t, .int .i64 y.c, .int .i64 y.r] 23)
  have HJ3 := Lib.hid (HI3.out.keep hy3)
  have HC3 := Lib.hid (below_step HB3.out (Nat.le_refl _) hy3)
  have HX3' := Lib.hid (HX3.out.keep hy3)
  have HZ3' := Lib.hid (HZ3.out.keep hy3)
  clear hb3 hy3
  obtain ⟨hz1, ⟨a0, a1, a2⟩, ⟨b0, b1, b2⟩, ⟨c0, c1⟩⟩ := HI3.out
  have hz1a : w.heap.size < w3.heap.size := by omega
  have hz1b : w.heap.size + 1 < w3.heap.size := by omega
  go_wp2_with fail
  refine (HS2.out _).mono ?_
  rintro e w4 ⟨rfl, hb4⟩
  clear hz1 hz1a hz1b a0 a1 a2 b0 b1 b2 c0 c1
  have hy4 := below_new w4 (.cells #[.int .i64 y.t, .int .i64 y.c, .int .i64 y.r] 23)
  have hI0 := (HJ3.out.keep hb4).keep hy4
  have hB0 := below_step (below_step HC3.out (Nat.le_refl _) hb4) (Nat.le_refl _) hy4
  have hX0 := (HX3'.out.keep hb4).keep hy4
  have hZ0 := (HZ3'.out.keep hb4).keep hy4
  have hU0 := (HU3.out.keep hb4).keep hy4
  have hV0 := Box.new w4 y
  clear hb4 hy4
  go_wp2_with fail
  have hP0 : (InR w a b m n (w4.alloc (.cells #[.int .i64 y.t, .int .i64 y.c, .int .i64 y.r] 23)).drew ∧ Box w1.heap.size x (w4.alloc (.cells #[.int .i64 y.t, .int .i64 y.c, .int .i64 y.r] 23)).drew ∧ Box w2.heap.size x (w4.alloc (.cells #[.int .i64 y.t, .int .i64 y.c, .int .i64 y.r] 23)).drew ∧ Box w3.heap.size y (w4.alloc (.cells #[.int .i64 y.t, .int .i64 y.c, .int .i64 y.r] 23)).drew ∧ Box w4.heap.size y (w4.alloc (.cells #[.int .i64 y.t, .int .i64 y.c, .int .i64 y.r] 23)).drew) := ⟨hI0, hX0, hZ0, hU0, hV0⟩
  have hD0 := hB0.drew
  clear hI0 hX0 hZ0 hU0 hV0 hB0
  refine wp_region_held_drew (S := fun w' => InR w a b m n w' ∧ Box w1.heap.size x w' ∧ Box w2.heap.size x w' ∧ Box w3.heap.size y w' ∧ Box w4.heap.size y w') (by kernel_rfl) (by (first | exact hP0 | exact hP1 | exact hP2 | exact hP3 | exact hP4 | exact hP5)) (fun hHeld => ?_)
  refine wpAnyH_take (i := 0) (oi := { dst := some 49, op := Go.Op.load 23 (Go.Operand.tmp 3), type := 23, pos := "law.go:27", after := #[], guard := none }) (v := ?_) rfl (by kernel_rfl) (by kernel_rfl) (by kernel_rfl) (fun _ _ _ h => h) (Or.inl ⟨by rfl, ?_⟩) (by assumption) ?_
  (rotate_left; focus (intro wS hSw; obtain ⟨⟨hzS, ⟨sa0, sa1, sa2⟩, ⟨sb0, sb1, sb2⟩, ⟨sc0, sc1⟩⟩, ⟨k1, l1, m1, n1⟩, ⟨k2, l2, m2, n2⟩, ⟨k3, l3, m3, n3⟩, ⟨k4, l4, m4, n4⟩⟩ := hSw; go_simp; try with_reducible rfl))
  (try simp only [Act.put, List.setIfInBounds_toArray, List.set_cons_zero, List.set_cons_succ])
  refine wpAnyH_take (i := 2) (oi := { dst := some 51, op := Go.Op.load 23 (Go.Operand.tmp 3), type := 23, pos := "law.go:27", after := #[], guard := none }) (v := ?_) rfl (by kernel_rfl) (by kernel_rfl) (by kernel_rfl) (fun _ _ _ h => h) (Or.inl ⟨by rfl, ?_⟩) (by assumption) ?_
  (rotate_left; focus (intro wS hSw; obtain ⟨⟨hzS, ⟨sa0, sa1, sa2⟩, ⟨sb0, sb1, sb2⟩, ⟨sc0, sc1⟩⟩, ⟨k1, l1, m1, n1⟩, ⟨k2, l2, m2, n2⟩, ⟨k3, l3, m3, n3⟩, ⟨k4, l4, m4, n4⟩⟩ := hSw; go_simp; try with_reducible rfl))
  (try simp only [Act.put, List.setIfInBounds_toArray, List.set_cons_zero, List.set_cons_succ])
  refine wpAnyH_ready (rs := [1]) (by kernel_rfl) (by simp) ?_
  refine AllReadyH.cons (o := { dst := some 50, op := Go.Op.call { callee := Go.Callee.value (Go.Operand.func 10), args := #[Go.Operand.tmp 49], argTypes := #[23] }, type := 25, pos := "law.go:27", after := #[{ on := 0, ground := Go.Ground.data }], guard := none }) rfl (fun K hK => ?_) AllReadyH.nil
  go_simp
  refine (check_any a _).mono ?_
  rintro e v1 ⟨rfl, hv1⟩
  have hP1 : (InR w a b m n v1 ∧ Box w1.heap.size x v1 ∧ Box w2.heap.size x v1 ∧ Box w3.heap.size y v1 ∧ Box w4.heap.size y v1) := ⟨hP0.1.keep hv1, hP0.2.1.keep hv1, hP0.2.2.1.keep hv1, hP0.2.2.2.1.keep hv1, hP0.2.2.2.2.keep hv1⟩
  have hD1 := below_step hD0 (Nat.le_refl _) hv1
  (try go_wp2_with fail)
  refine hK.out _ _ (by (first | exact hP0 | exact hP1 | exact hP2 | exact hP3 | exact hP4 | exact hP5)) (fun hHeld => ?_)
  clear hK K
  (try simp only [Act.put, List.setIfInBounds_toArray, List.set_cons_zero, List.set_cons_succ])
  refine wpAnyH_ready (rs := [3]) (by kernel_rfl) (by simp) ?_
  refine AllReadyH.cons (o := { dst := some 52, op := Go.Op.call { callee := Go.Callee.value (Go.Operand.func 11), args := #[Go.Operand.tmp 51], argTypes := #[23] }, type := 3, pos := "law.go:27", after := #[{ on := 2, ground := Go.Ground.data }, { on := 1, ground := Go.Ground.chain }], guard := none }) rfl (fun K hK => ?_) AllReadyH.nil
  go_simp
  refine (refCheck_any a _).mono ?_
  rintro e v2 ⟨rfl, hv2⟩
  have hP2 : (InR w a b m n v2 ∧ Box w1.heap.size x v2 ∧ Box w2.heap.size x v2 ∧ Box w3.heap.size y v2 ∧ Box w4.heap.size y v2) := ⟨hP1.1.keep hv2, hP1.2.1.keep hv2, hP1.2.2.1.keep hv2, hP1.2.2.2.1.keep hv2, hP1.2.2.2.2.keep hv2⟩
  have hD2 := below_step hD1 (Nat.le_refl _) hv2
  (try go_wp2_with fail)
  refine hK.out _ _ (by (first | exact hP0 | exact hP1 | exact hP2 | exact hP3 | exact hP4 | exact hP5)) (fun hHeld => ?_)
  clear hK K
  (try simp only [Act.put, List.setIfInBounds_toArray, List.set_cons_zero, List.set_cons_succ])
  refine wpAnyH_take (i := 4) (oi := { dst := some 53, op := Go.Op.binOp Go.BinOp.eql 3 (Go.Operand.tmp 50) (Go.Operand.tmp 52) 3, type := 4, pos := "law.go:27", after := #[{ on := 1, ground := Go.Ground.data }, { on := 3, ground := Go.Ground.data }], guard := none }) (v := ?_) rfl (by kernel_rfl) (by kernel_rfl) (by kernel_rfl) (fun _ _ _ h => h) (Or.inl ⟨by rfl, ?_⟩) (by assumption) ?_
  (rotate_left; focus (intro wS hSw; obtain ⟨⟨hzS, ⟨sa0, sa1, sa2⟩, ⟨sb0, sb1, sb2⟩, ⟨sc0, sc1⟩⟩, ⟨k1, l1, m1, n1⟩, ⟨k2, l2, m2, n2⟩, ⟨k3, l3, m3, n3⟩, ⟨k4, l4, m4, n4⟩⟩ := hSw; go_simp; try with_reducible rfl))
  (try simp only [Act.put, List.setIfInBounds_toArray, List.set_cons_zero, List.set_cons_succ])
  refine wpAnyH_take (i := 5) (oi := { dst := some 54, op := Go.Op.move (Go.Operand.tmp 53), type := 4, pos := "law.go:27", after := #[{ on := 4, ground := Go.Ground.data }, { on := 3, ground := Go.Ground.chain }], guard := none }) (v := ?_) rfl (by kernel_rfl) (by kernel_rfl) (by kernel_rfl) (fun _ _ _ h => h) (Or.inl ⟨by rfl, ?_⟩) (by assumption) ?_
  (rotate_left; focus (intro wS hSw; obtain ⟨⟨hzS, ⟨sa0, sa1, sa2⟩, ⟨sb0, sb1, sb2⟩, ⟨sc0, sc1⟩⟩, ⟨k1, l1, m1, n1⟩, ⟨k2, l2, m2, n2⟩, ⟨k3, l3, m3, n3⟩, ⟨k4, l4, m4, n4⟩⟩ := hSw; go_simp; try with_reducible rfl))
  (try simp only [Act.put, List.setIfInBounds_toArray, List.set_cons_zero, List.set_cons_succ])
  refine wpAnyH_take (i := 6) (oi := { dst := some 55, op := Go.Op.load 23 (Go.Operand.tmp 3), type := 23, pos := "law.go:27", after := #[{ on := 5, ground := Go.Ground.guard }], guard := some (5, true) }) (v := ?_) rfl (by kernel_rfl) (by kernel_rfl) (by kernel_rfl) (fun _ _ _ h => h) (Or.inl ⟨by rfl, ?_⟩) (by assumption) ?_
  (rotate_left; focus (intro wS hSw; obtain ⟨⟨hzS, ⟨sa0, sa1, sa2⟩, ⟨sb0, sb1, sb2⟩, ⟨sc0, sc1⟩⟩, ⟨k1, l1, m1, n1⟩, ⟨k2, l2, m2, n2⟩, ⟨k3, l3, m3, n3⟩, ⟨k4, l4, m4, n4⟩⟩ := hSw; go_simp; try with_reducible rfl))
  (try simp only [Act.put, List.setIfInBounds_toArray, List.set_cons_zero, List.set_cons_succ])
  refine wpAnyH_take (i := 7) (oi := { dst := some 56, op := Go.Op.load 23 (Go.Operand.tmp 4), type := 23, pos := "law.go:27", after := #[{ on := 5, ground := Go.Ground.guard }], guard := some (5, true) }) (v := ?_) rfl (by kernel_rfl) (by kernel_rfl) (by kernel_rfl) (fun _ _ _ h => h) (Or.inl ⟨by rfl, ?_⟩) (by assumption) ?_
  (rotate_left; focus (intro wS hSw; obtain ⟨⟨hzS, ⟨sa0, sa1, sa2⟩, ⟨sb0, sb1, sb2⟩, ⟨sc0, sc1⟩⟩, ⟨k1, l1, m1, n1⟩, ⟨k2, l2, m2, n2⟩, ⟨k3, l3, m3, n3⟩, ⟨k4, l4, m4, n4⟩⟩ := hSw; go_simp; try with_reducible rfl))
  (try simp only [Act.put, List.setIfInBounds_toArray, List.set_cons_zero, List.set_cons_succ])
  refine wpAnyH_take (i := 9) (oi := { dst := some 58, op := Go.Op.load 23 (Go.Operand.tmp 3), type := 23, pos := "law.go:27", after := #[{ on := 5, ground := Go.Ground.guard }], guard := some (5, true) }) (v := ?_) rfl (by kernel_rfl) (by kernel_rfl) (by kernel_rfl) (fun _ _ _ h => h) (Or.inl ⟨by rfl, ?_⟩) (by assumption) ?_
  (rotate_left; focus (intro wS hSw; obtain ⟨⟨hzS, ⟨sa0, sa1, sa2⟩, ⟨sb0, sb1, sb2⟩, ⟨sc0, sc1⟩⟩, ⟨k1, l1, m1, n1⟩, ⟨k2, l2, m2, n2⟩, ⟨k3, l3, m3, n3⟩, ⟨k4, l4, m4, n4⟩⟩ := hSw; go_simp; try with_reducible rfl))
  (try simp only [Act.put, List.setIfInBounds_toArray, List.set_cons_zero, List.set_cons_succ])
  refine wpAnyH_take (i := 10) (oi := { dst := some 59, op := Go.Op.load 23 (Go.Operand.tmp 4), type := 23, pos := "law.go:27", after := #[{ on := 5, ground := Go.Ground.guard }], guard := some (5, true) }) (v := ?_) rfl (by kernel_rfl) (by kernel_rfl) (by kernel_rfl) (fun _ _ _ h => h) (Or.inl ⟨by rfl, ?_⟩) (by assumption) ?_
  (rotate_left; focus (intro wS hSw; obtain ⟨⟨hzS, ⟨sa0, sa1, sa2⟩, ⟨sb0, sb1, sb2⟩, ⟨sc0, sc1⟩⟩, ⟨k1, l1, m1, n1⟩, ⟨k2, l2, m2, n2⟩, ⟨k3, l3, m3, n3⟩, ⟨k4, l4, m4, n4⟩⟩ := hSw; go_simp; try with_reducible rfl))
  (try simp only [Act.put, List.setIfInBounds_toArray, List.set_cons_zero, List.set_cons_succ])
  refine wpAnyH_ready (rs := [8]) (by kernel_rfl) (by simp) ?_
  refine AllReadyH.cons (o := { dst := some 57, op := Go.Op.call { callee := Go.Callee.value (Go.Operand.func 12), args := #[Go.Operand.tmp 55, Go.Operand.tmp 56], argTypes := #[23, 23] }, type := 4, pos := "law.go:27", after := #[{ on := 6, ground := Go.Ground.data }, { on := 7, ground := Go.Ground.data }, { on := 5, ground := Go.Ground.chain }, { on := 5, ground := Go.Ground.guard }], guard := some (5, true) }) rfl (fun K hK => ?_) AllReadyH.nil
  go_simp
  refine (less_any a b _).mono ?_
  rintro e v3 ⟨rfl, hv3⟩
  have hP3 : (InR w a b m n v3 ∧ Box w1.heap.size x v3 ∧ Box w2.heap.size x v3 ∧ Box w3.heap.size y v3 ∧ Box w4.heap.size y v3) := ⟨hP2.1.keep hv3, hP2.2.1.keep hv3, hP2.2.2.1.keep hv3, hP2.2.2.2.1.keep hv3, hP2.2.2.2.2.keep hv3⟩
  have hD3 := below_step hD2 (Nat.le_refl _) hv3
  (try go_wp2_with fail)
  refine hK.out _ _ (by (first | exact hP0 | exact hP1 | exact hP2 | exact hP3 | exact hP4 | exact hP5)) (fun hHeld => ?_)
  clear hK K
  (try simp only [Act.put, List.setIfInBounds_toArray, List.set_cons_zero, List.set_cons_succ])
  refine wpAnyH_ready (rs := [11]) (by kernel_rfl) (by simp) ?_
  refine AllReadyH.cons (o := { dst := some 60, op := Go.Op.call { callee := Go.Callee.value (Go.Operand.func 13), args := #[Go.Operand.tmp 58, Go.Operand.tmp 59], argTypes := #[23, 23] }, type := 4, pos := "law.go:27", after := #[{ on := 9, ground := Go.Ground.data }, { on := 10, ground := Go.Ground.data }, { on := 8, ground := Go.Ground.chain }, { on := 5, ground := Go.Ground.guard }], guard := some (5, true) }) rfl (fun K hK => ?_) AllReadyH.nil
  go_simp
  refine (refLess_any a b _).mono ?_
  rintro e v4 ⟨rfl, hv4⟩
  have hP4 : (InR w a b m n v4 ∧ Box w1.heap.size x v4 ∧ Box w2.heap.size x v4 ∧ Box w3.heap.size y v4 ∧ Box w4.heap.size y v4) := ⟨hP3.1.keep hv4, hP3.2.1.keep hv4, hP3.2.2.1.keep hv4, hP3.2.2.2.1.keep hv4, hP3.2.2.2.2.keep hv4⟩
  have hD4 := below_step hD3 (Nat.le_refl _) hv4
  (try go_wp2_with fail)
  refine hK.out _ _ (by (first | exact hP0 | exact hP1 | exact hP2 | exact hP3 | exact hP4 | exact hP5)) (fun hHeld => ?_)
  clear hK K
  (try simp only [Act.put, List.setIfInBounds_toArray, List.set_cons_zero, List.set_cons_succ])
  refine wpAnyH_take (i := 12) (oi := { dst := some 61, op := Go.Op.binOp Go.BinOp.eql 4 (Go.Operand.tmp 57) (Go.Operand.tmp 60) 4, type := 4, pos := "law.go:27", after := #[{ on := 8, ground := Go.Ground.data }, { on := 11, ground := Go.Ground.data }, { on := 5, ground := Go.Ground.guard }], guard := some (5, true) }) (v := ?_) rfl (by kernel_rfl) (by kernel_rfl) (by kernel_rfl) (fun _ _ _ h => h) (Or.inl ⟨by rfl, ?_⟩) (by assumption) ?_
  (rotate_left; focus (intro wS hSw; obtain ⟨⟨hzS, ⟨sa0, sa1, sa2⟩, ⟨sb0, sb1, sb2⟩, ⟨sc0, sc1⟩⟩, ⟨k1, l1, m1, n1⟩, ⟨k2, l2, m2, n2⟩, ⟨k3, l3, m3, n3⟩, ⟨k4, l4, m4, n4⟩⟩ := hSw; go_simp; try with_reducible rfl))
  (try simp only [Act.put, List.setIfInBounds_toArray, List.set_cons_zero, List.set_cons_succ])
  refine wpAnyH_take (i := 13) (oi := { dst := some 62, op := Go.Op.pick (Go.Operand.tmp 54) (Go.Operand.tmp 61) (Go.Operand.const (Go.Value.bool false)), type := 4, pos := "law.go:27", after := #[{ on := 5, ground := Go.Ground.data }, { on := 12, ground := Go.Ground.data }], guard := none }) (v := ?_) rfl (by kernel_rfl) (by kernel_rfl) (by kernel_rfl) (fun _ _ _ h => h) (Or.inl ⟨by rfl, ?_⟩) (by assumption) ?_
  (rotate_left; focus (intro wS hSw; obtain ⟨⟨hzS, ⟨sa0, sa1, sa2⟩, ⟨sb0, sb1, sb2⟩, ⟨sc0, sc1⟩⟩, ⟨k1, l1, m1, n1⟩, ⟨k2, l2, m2, n2⟩, ⟨k3, l3, m3, n3⟩, ⟨k4, l4, m4, n4⟩⟩ := hSw; go_simp; try with_reducible rfl))
  (try simp only [Act.put, List.setIfInBounds_toArray, List.set_cons_zero, List.set_cons_succ])
  refine wpAnyH_take (i := 14) (oi := { dst := some 63, op := Go.Op.move (Go.Operand.tmp 62), type := 4, pos := "law.go:27", after := #[{ on := 13, ground := Go.Ground.data }, { on := 11, ground := Go.Ground.chain }], guard := none }) (v := ?_) rfl (by kernel_rfl) (by kernel_rfl) (by kernel_rfl) (fun _ _ _ h => h) (Or.inl ⟨by rfl, ?_⟩) (by assumption) ?_
  (rotate_left; focus (intro wS hSw; obtain ⟨⟨hzS, ⟨sa0, sa1, sa2⟩, ⟨sb0, sb1, sb2⟩, ⟨sc0, sc1⟩⟩, ⟨k1, l1, m1, n1⟩, ⟨k2, l2, m2, n2⟩, ⟨k3, l3, m3, n3⟩, ⟨k4, l4, m4, n4⟩⟩ := hSw; go_simp; try with_reducible rfl))
  (try simp only [Act.put, List.setIfInBounds_toArray, List.set_cons_zero, List.set_cons_succ])
  refine wpAnyH_take (i := 15) (oi := { dst := some 64, op := Go.Op.load 23 (Go.Operand.tmp 7), type := 23, pos := "law.go:27", after := #[{ on := 14, ground := Go.Ground.guard }], guard := some (14, true) }) (v := ?_) rfl (by kernel_rfl) (by kernel_rfl) (by kernel_rfl) (fun _ _ _ h => h) (Or.inl ⟨by rfl, ?_⟩) (by assumption) ?_
  (rotate_left; focus (intro wS hSw; obtain ⟨⟨hzS, ⟨sa0, sa1, sa2⟩, ⟨sb0, sb1, sb2⟩, ⟨sc0, sc1⟩⟩, ⟨k1, l1, m1, n1⟩, ⟨k2, l2, m2, n2⟩, ⟨k3, l3, m3, n3⟩, ⟨k4, l4, m4, n4⟩⟩ := hSw; go_simp; try with_reducible rfl))
  (try simp only [Act.put, List.setIfInBounds_toArray, List.set_cons_zero, List.set_cons_succ])
  refine wpAnyH_take (i := 16) (oi := { dst := some 65, op := Go.Op.load 23 (Go.Operand.tmp 9), type := 23, pos := "law.go:27", after := #[{ on := 14, ground := Go.Ground.guard }], guard := some (14, true) }) (v := ?_) rfl (by kernel_rfl) (by kernel_rfl) (by kernel_rfl) (fun _ _ _ h => h) (Or.inl ⟨by rfl, ?_⟩) (by assumption) ?_
  (rotate_left; focus (intro wS hSw; obtain ⟨⟨hzS, ⟨sa0, sa1, sa2⟩, ⟨sb0, sb1, sb2⟩, ⟨sc0, sc1⟩⟩, ⟨k1, l1, m1, n1⟩, ⟨k2, l2, m2, n2⟩, ⟨k3, l3, m3, n3⟩, ⟨k4, l4, m4, n4⟩⟩ := hSw; go_simp; try with_reducible rfl))
  (try simp only [Act.put, List.setIfInBounds_toArray, List.set_cons_zero, List.set_cons_succ])
  refine wpAnyH_take (i := 17) (oi := { dst := some 66, op := Go.Op.binOp Go.BinOp.eql 23 (Go.Operand.tmp 64) (Go.Operand.tmp 65) 23, type := 4, pos := "law.go:27", after := #[{ on := 15, ground := Go.Ground.data }, { on := 16, ground := Go.Ground.data }, { on := 14, ground := Go.Ground.guard }], guard := some (14, true) }) (v := ?_) rfl (by kernel_rfl) (by kernel_rfl) (by kernel_rfl) (fun _ _ _ h => h) (Or.inl ⟨by rfl, ?_⟩) (by assumption) ?_
  (rotate_left; focus (intro wS hSw; obtain ⟨⟨hzS, ⟨sa0, sa1, sa2⟩, ⟨sb0, sb1, sb2⟩, ⟨sc0, sc1⟩⟩, ⟨k1, l1, m1, n1⟩, ⟨k2, l2, m2, n2⟩, ⟨k3, l3, m3, n3⟩, ⟨k4, l4, m4, n4⟩⟩ := hSw; go_simp; try with_reducible rfl))
  (try simp only [Act.put, List.setIfInBounds_toArray, List.set_cons_zero, List.set_cons_succ])
  refine wpAnyH_take (i := 18) (oi := { dst := some 67, op := Go.Op.pick (Go.Operand.tmp 63) (Go.Operand.tmp 66) (Go.Operand.const (Go.Value.bool false)), type := 4, pos := "law.go:27", after := #[{ on := 14, ground := Go.Ground.data }, { on := 17, ground := Go.Ground.data }], guard := none }) (v := ?_) rfl (by kernel_rfl) (by kernel_rfl) (by kernel_rfl) (fun _ _ _ h => h) (Or.inl ⟨by rfl, ?_⟩) (by assumption) ?_
  (rotate_left; focus (intro wS hSw; obtain ⟨⟨hzS, ⟨sa0, sa1, sa2⟩, ⟨sb0, sb1, sb2⟩, ⟨sc0, sc1⟩⟩, ⟨k1, l1, m1, n1⟩, ⟨k2, l2, m2, n2⟩, ⟨k3, l3, m3, n3⟩, ⟨k4, l4, m4, n4⟩⟩ := hSw; go_simp; try with_reducible rfl))
  (try simp only [Act.put, List.setIfInBounds_toArray, List.set_cons_zero, List.set_cons_succ])
  refine wpAnyH_take (i := 19) (oi := { dst := some 68, op := Go.Op.move (Go.Operand.tmp 67), type := 4, pos := "law.go:27", after := #[{ on := 18, ground := Go.Ground.data }, { on := 14, ground := Go.Ground.chain }], guard := none }) (v := ?_) rfl (by kernel_rfl) (by kernel_rfl) (by kernel_rfl) (fun _ _ _ h => h) (Or.inl ⟨by rfl, ?_⟩) (by assumption) ?_
  (rotate_left; focus (intro wS hSw; obtain ⟨⟨hzS, ⟨sa0, sa1, sa2⟩, ⟨sb0, sb1, sb2⟩, ⟨sc0, sc1⟩⟩, ⟨k1, l1, m1, n1⟩, ⟨k2, l2, m2, n2⟩, ⟨k3, l3, m3, n3⟩, ⟨k4, l4, m4, n4⟩⟩ := hSw; go_simp; try with_reducible rfl))
  (try simp only [Act.put, List.setIfInBounds_toArray, List.set_cons_zero, List.set_cons_succ])
  refine wpAnyH_take (i := 20) (oi := { dst := some 69, op := Go.Op.move (Go.Operand.tmp 8), type := 25, pos := "law.go:27", after := #[{ on := 19, ground := Go.Ground.guard }], guard := some (19, true) }) (v := ?_) rfl (by kernel_rfl) (by kernel_rfl) (by kernel_rfl) (fun _ _ _ h => h) (Or.inl ⟨by rfl, ?_⟩) (by assumption) ?_
  (rotate_left; focus (intro wS hSw; obtain ⟨⟨hzS, ⟨sa0, sa1, sa2⟩, ⟨sb0, sb1, sb2⟩, ⟨sc0, sc1⟩⟩, ⟨k1, l1, m1, n1⟩, ⟨k2, l2, m2, n2⟩, ⟨k3, l3, m3, n3⟩, ⟨k4, l4, m4, n4⟩⟩ := hSw; go_simp; try with_reducible rfl))
  (try simp only [Act.put, List.setIfInBounds_toArray, List.set_cons_zero, List.set_cons_succ])
  refine wpAnyH_take (i := 21) (oi := { dst := some 70, op := Go.Op.move (Go.Operand.tmp 10), type := 3, pos := "law.go:27", after := #[{ on := 19, ground := Go.Ground.guard }], guard := some (19, true) }) (v := ?_) rfl (by kernel_rfl) (by kernel_rfl) (by kernel_rfl) (fun _ _ _ h => h) (Or.inl ⟨by rfl, ?_⟩) (by assumption) ?_
  (rotate_left; focus (intro wS hSw; obtain ⟨⟨hzS, ⟨sa0, sa1, sa2⟩, ⟨sb0, sb1, sb2⟩, ⟨sc0, sc1⟩⟩, ⟨k1, l1, m1, n1⟩, ⟨k2, l2, m2, n2⟩, ⟨k3, l3, m3, n3⟩, ⟨k4, l4, m4, n4⟩⟩ := hSw; go_simp; try with_reducible rfl))
  (try simp only [Act.put, List.setIfInBounds_toArray, List.set_cons_zero, List.set_cons_succ])
  refine wpAnyH_take (i := 22) (oi := { dst := some 71, op := Go.Op.binOp Go.BinOp.eql 3 (Go.Operand.tmp 69) (Go.Operand.tmp 70) 3, type := 4, pos := "law.go:27", after := #[{ on := 20, ground := Go.Ground.data }, { on := 21, ground := Go.Ground.data }, { on := 19, ground := Go.Ground.guard }], guard := some (19, true) }) (v := ?_) rfl (by kernel_rfl) (by kernel_rfl) (by kernel_rfl) (fun _ _ _ h => h) (Or.inl ⟨by rfl, ?_⟩) (by assumption) ?_
  (rotate_left; focus (intro wS hSw; obtain ⟨⟨hzS, ⟨sa0, sa1, sa2⟩, ⟨sb0, sb1, sb2⟩, ⟨sc0, sc1⟩⟩, ⟨k1, l1, m1, n1⟩, ⟨k2, l2, m2, n2⟩, ⟨k3, l3, m3, n3⟩, ⟨k4, l4, m4, n4⟩⟩ := hSw; go_simp; try with_reducible rfl))
  (try simp only [Act.put, List.setIfInBounds_toArray, List.set_cons_zero, List.set_cons_succ])
  refine wpAnyH_take (i := 23) (oi := { dst := some 72, op := Go.Op.pick (Go.Operand.tmp 68) (Go.Operand.tmp 71) (Go.Operand.const (Go.Value.bool false)), type := 4, pos := "law.go:27", after := #[{ on := 19, ground := Go.Ground.data }, { on := 22, ground := Go.Ground.data }], guard := none }) (v := ?_) rfl (by kernel_rfl) (by kernel_rfl) (by kernel_rfl) (fun _ _ _ h => h) (Or.inl ⟨by rfl, ?_⟩) (by assumption) ?_
  (rotate_left; focus (intro wS hSw; obtain ⟨⟨hzS, ⟨sa0, sa1, sa2⟩, ⟨sb0, sb1, sb2⟩, ⟨sc0, sc1⟩⟩, ⟨k1, l1, m1, n1⟩, ⟨k2, l2, m2, n2⟩, ⟨k3, l3, m3, n3⟩, ⟨k4, l4, m4, n4⟩⟩ := hSw; go_simp; try with_reducible rfl))
  (try simp only [Act.put, List.setIfInBounds_toArray, List.set_cons_zero, List.set_cons_succ])
  refine wpAnyH_take (i := 24) (oi := { dst := some 73, op := Go.Op.move (Go.Operand.tmp 72), type := 4, pos := "law.go:27", after := #[{ on := 23, ground := Go.Ground.data }, { on := 19, ground := Go.Ground.chain }], guard := none }) (v := ?_) rfl (by kernel_rfl) (by kernel_rfl) (by kernel_rfl) (fun _ _ _ h => h) (Or.inl ⟨by rfl, ?_⟩) (by assumption) ?_
  (rotate_left; focus (intro wS hSw; obtain ⟨⟨hzS, ⟨sa0, sa1, sa2⟩, ⟨sb0, sb1, sb2⟩, ⟨sc0, sc1⟩⟩, ⟨k1, l1, m1, n1⟩, ⟨k2, l2, m2, n2⟩, ⟨k3, l3, m3, n3⟩, ⟨k4, l4, m4, n4⟩⟩ := hSw; go_simp; try with_reducible rfl))
  (try simp only [Act.put, List.setIfInBounds_toArray, List.set_cons_zero, List.set_cons_succ])
  refine wpAnyH_take (i := 25) (oi := { dst := some 74, op := Go.Op.load 23 (Go.Operand.tmp 11), type := 23, pos := "law.go:27", after := #[{ on := 24, ground := Go.Ground.guard }], guard := some (24, true) }) (v := ?_) rfl (by kernel_rfl) (by kernel_rfl) (by kernel_rfl) (fun _ _ _ h => h) (Or.inl ⟨by rfl, ?_⟩) (by assumption) ?_
  (rotate_left; focus (intro wS hSw; obtain ⟨⟨hzS, ⟨sa0, sa1, sa2⟩, ⟨sb0, sb1, sb2⟩, ⟨sc0, sc1⟩⟩, ⟨k1, l1, m1, n1⟩, ⟨k2, l2, m2, n2⟩, ⟨k3, l3, m3, n3⟩, ⟨k4, l4, m4, n4⟩⟩ := hSw; go_simp; try with_reducible rfl))
  (try simp only [Act.put, List.setIfInBounds_toArray, List.set_cons_zero, List.set_cons_succ])
  refine wpAnyH_take (i := 26) (oi := { dst := some 75, op := Go.Op.load 23 (Go.Operand.tmp 13), type := 23, pos := "law.go:27", after := #[{ on := 24, ground := Go.Ground.guard }], guard := some (24, true) }) (v := ?_) rfl (by kernel_rfl) (by kernel_rfl) (by kernel_rfl) (fun _ _ _ h => h) (Or.inl ⟨by rfl, ?_⟩) (by assumption) ?_
  (rotate_left; focus (intro wS hSw; obtain ⟨⟨hzS, ⟨sa0, sa1, sa2⟩, ⟨sb0, sb1, sb2⟩, ⟨sc0, sc1⟩⟩, ⟨k1, l1, m1, n1⟩, ⟨k2, l2, m2, n2⟩, ⟨k3, l3, m3, n3⟩, ⟨k4, l4, m4, n4⟩⟩ := hSw; go_simp; try with_reducible rfl))
  (try simp only [Act.put, List.setIfInBounds_toArray, List.set_cons_zero, List.set_cons_succ])
  refine wpAnyH_take (i := 27) (oi := { dst := some 76, op := Go.Op.binOp Go.BinOp.eql 23 (Go.Operand.tmp 74) (Go.Operand.tmp 75) 23, type := 4, pos := "law.go:27", after := #[{ on := 25, ground := Go.Ground.data }, { on := 26, ground := Go.Ground.data }, { on := 24, ground := Go.Ground.guard }], guard := some (24, true) }) (v := ?_) rfl (by kernel_rfl) (by kernel_rfl) (by kernel_rfl) (fun _ _ _ h => h) (Or.inl ⟨by rfl, ?_⟩) (by assumption) ?_
  (rotate_left; focus (intro wS hSw; obtain ⟨⟨hzS, ⟨sa0, sa1, sa2⟩, ⟨sb0, sb1, sb2⟩, ⟨sc0, sc1⟩⟩, ⟨k1, l1, m1, n1⟩, ⟨k2, l2, m2, n2⟩, ⟨k3, l3, m3, n3⟩, ⟨k4, l4, m4, n4⟩⟩ := hSw; go_simp; try with_reducible rfl))
  (try simp only [Act.put, List.setIfInBounds_toArray, List.set_cons_zero, List.set_cons_succ])
  refine wpAnyH_take (i := 28) (oi := { dst := some 77, op := Go.Op.pick (Go.Operand.tmp 73) (Go.Operand.tmp 76) (Go.Operand.const (Go.Value.bool false)), type := 4, pos := "law.go:27", after := #[{ on := 24, ground := Go.Ground.data }, { on := 27, ground := Go.Ground.data }], guard := none }) (v := ?_) rfl (by kernel_rfl) (by kernel_rfl) (by kernel_rfl) (fun _ _ _ h => h) (Or.inl ⟨by rfl, ?_⟩) (by assumption) ?_
  (rotate_left; focus (intro wS hSw; obtain ⟨⟨hzS, ⟨sa0, sa1, sa2⟩, ⟨sb0, sb1, sb2⟩, ⟨sc0, sc1⟩⟩, ⟨k1, l1, m1, n1⟩, ⟨k2, l2, m2, n2⟩, ⟨k3, l3, m3, n3⟩, ⟨k4, l4, m4, n4⟩⟩ := hSw; go_simp; try with_reducible rfl))
  (try simp only [Act.put, List.setIfInBounds_toArray, List.set_cons_zero, List.set_cons_succ])
  refine wpAnyH_take (i := 29) (oi := { dst := some 78, op := Go.Op.move (Go.Operand.tmp 77), type := 4, pos := "law.go:27", after := #[{ on := 28, ground := Go.Ground.data }, { on := 24, ground := Go.Ground.chain }], guard := none }) (v := ?_) rfl (by kernel_rfl) (by kernel_rfl) (by kernel_rfl) (fun _ _ _ h => h) (Or.inl ⟨by rfl, ?_⟩) (by assumption) ?_
  (rotate_left; focus (intro wS hSw; obtain ⟨⟨hzS, ⟨sa0, sa1, sa2⟩, ⟨sb0, sb1, sb2⟩, ⟨sc0, sc1⟩⟩, ⟨k1, l1, m1, n1⟩, ⟨k2, l2, m2, n2⟩, ⟨k3, l3, m3, n3⟩, ⟨k4, l4, m4, n4⟩⟩ := hSw; go_simp; try with_reducible rfl))
  (try simp only [Act.put, List.setIfInBounds_toArray, List.set_cons_zero, List.set_cons_succ])
  refine wpAnyH_take (i := 30) (oi := { dst := some 79, op := Go.Op.move (Go.Operand.tmp 12), type := 25, pos := "law.go:27", after := #[{ on := 29, ground := Go.Ground.guard }], guard := some (29, true) }) (v := ?_) rfl (by kernel_rfl) (by kernel_rfl) (by kernel_rfl) (fun _ _ _ h => h) (Or.inl ⟨by rfl, ?_⟩) (by assumption) ?_
  (rotate_left; focus (intro wS hSw; obtain ⟨⟨hzS, ⟨sa0, sa1, sa2⟩, ⟨sb0, sb1, sb2⟩, ⟨sc0, sc1⟩⟩, ⟨k1, l1, m1, n1⟩, ⟨k2, l2, m2, n2⟩, ⟨k3, l3, m3, n3⟩, ⟨k4, l4, m4, n4⟩⟩ := hSw; go_simp; try with_reducible rfl))
  (try simp only [Act.put, List.setIfInBounds_toArray, List.set_cons_zero, List.set_cons_succ])
  refine wpAnyH_take (i := 31) (oi := { dst := some 80, op := Go.Op.move (Go.Operand.tmp 14), type := 3, pos := "law.go:27", after := #[{ on := 29, ground := Go.Ground.guard }], guard := some (29, true) }) (v := ?_) rfl (by kernel_rfl) (by kernel_rfl) (by kernel_rfl) (fun _ _ _ h => h) (Or.inl ⟨by rfl, ?_⟩) (by assumption) ?_
  (rotate_left; focus (intro wS hSw; obtain ⟨⟨hzS, ⟨sa0, sa1, sa2⟩, ⟨sb0, sb1, sb2⟩, ⟨sc0, sc1⟩⟩, ⟨k1, l1, m1, n1⟩, ⟨k2, l2, m2, n2⟩, ⟨k3, l3, m3, n3⟩, ⟨k4, l4, m4, n4⟩⟩ := hSw; go_simp; try with_reducible rfl))
  (try simp only [Act.put, List.setIfInBounds_toArray, List.set_cons_zero, List.set_cons_succ])
  refine wpAnyH_take (i := 32) (oi := { dst := some 81, op := Go.Op.binOp Go.BinOp.eql 3 (Go.Operand.tmp 79) (Go.Operand.tmp 80) 3, type := 4, pos := "law.go:27", after := #[{ on := 30, ground := Go.Ground.data }, { on := 31, ground := Go.Ground.data }, { on := 29, ground := Go.Ground.guard }], guard := some (29, true) }) (v := ?_) rfl (by kernel_rfl) (by kernel_rfl) (by kernel_rfl) (fun _ _ _ h => h) (Or.inl ⟨by rfl, ?_⟩) (by assumption) ?_
  (rotate_left; focus (intro wS hSw; obtain ⟨⟨hzS, ⟨sa0, sa1, sa2⟩, ⟨sb0, sb1, sb2⟩, ⟨sc0, sc1⟩⟩, ⟨k1, l1, m1, n1⟩, ⟨k2, l2, m2, n2⟩, ⟨k3, l3, m3, n3⟩, ⟨k4, l4, m4, n4⟩⟩ := hSw; go_simp; try with_reducible rfl))
  (try simp only [Act.put, List.setIfInBounds_toArray, List.set_cons_zero, List.set_cons_succ])
  refine wpAnyH_take (i := 33) (oi := { dst := some 82, op := Go.Op.pick (Go.Operand.tmp 78) (Go.Operand.tmp 81) (Go.Operand.const (Go.Value.bool false)), type := 4, pos := "law.go:27", after := #[{ on := 29, ground := Go.Ground.data }, { on := 32, ground := Go.Ground.data }], guard := none }) (v := ?_) rfl (by kernel_rfl) (by kernel_rfl) (by kernel_rfl) (fun _ _ _ h => h) (Or.inl ⟨by rfl, ?_⟩) (by assumption) ?_
  (rotate_left; focus (intro wS hSw; obtain ⟨⟨hzS, ⟨sa0, sa1, sa2⟩, ⟨sb0, sb1, sb2⟩, ⟨sc0, sc1⟩⟩, ⟨k1, l1, m1, n1⟩, ⟨k2, l2, m2, n2⟩, ⟨k3, l3, m3, n3⟩, ⟨k4, l4, m4, n4⟩⟩ := hSw; go_simp; try with_reducible rfl))
  (try simp only [Act.put, List.setIfInBounds_toArray, List.set_cons_zero, List.set_cons_succ])
  refine wpAnyH_take (i := 34) (oi := { dst := some 83, op := Go.Op.move (Go.Operand.tmp 82), type := 4, pos := "law.go:27", after := #[{ on := 33, ground := Go.Ground.data }, { on := 29, ground := Go.Ground.chain }], guard := none }) (v := ?_) rfl (by kernel_rfl) (by kernel_rfl) (by kernel_rfl) (fun _ _ _ h => h) (Or.inl ⟨by rfl, ?_⟩) (by assumption) ?_
  (rotate_left; focus (intro wS hSw; obtain ⟨⟨hzS, ⟨sa0, sa1, sa2⟩, ⟨sb0, sb1, sb2⟩, ⟨sc0, sc1⟩⟩, ⟨k1, l1, m1, n1⟩, ⟨k2, l2, m2, n2⟩, ⟨k3, l3, m3, n3⟩, ⟨k4, l4, m4, n4⟩⟩ := hSw; go_simp; try with_reducible rfl))
  (try simp only [Act.put, List.setIfInBounds_toArray, List.set_cons_zero, List.set_cons_succ])
  refine wpAnyH_ready (rs := [35]) (by kernel_rfl) (by simp) ?_
  refine AllReadyH.cons (o := { dst := some 84, op := Go.Op.call { callee := Go.Callee.value (Go.Operand.func 14), args := #[], argTypes := #[] }, type := 4, pos := "law.go:27", after := #[{ on := 34, ground := Go.Ground.chain }, { on := 34, ground := Go.Ground.guard }], guard := some (34, true) }) rfl (fun K hK => ?_) AllReadyH.nil
  go_simp
  refine (awake_any _).mono ?_
  rintro e v5 ⟨rfl, hv5⟩
  have hP5 : (InR w a b m n v5 ∧ Box w1.heap.size x v5 ∧ Box w2.heap.size x v5 ∧ Box w3.heap.size y v5 ∧ Box w4.heap.size y v5) := ⟨hP4.1.keep hv5, hP4.2.1.keep hv5, hP4.2.2.1.keep hv5, hP4.2.2.2.1.keep hv5, hP4.2.2.2.2.keep hv5⟩
  have hD5 := below_step hD4 (Nat.le_refl _) hv5
  (try go_wp2_with fail)
  refine hK.out _ _ (by (first | exact hP0 | exact hP1 | exact hP2 | exact hP3 | exact hP4 | exact hP5)) (fun hHeld => ?_)
  clear hK K
  (try simp only [Act.put, List.setIfInBounds_toArray, List.set_cons_zero, List.set_cons_succ])
  refine wpAnyH_take (i := 36) (oi := { dst := some 85, op := Go.Op.pick (Go.Operand.tmp 83) (Go.Operand.tmp 84) (Go.Operand.const (Go.Value.bool false)), type := 4, pos := "law.go:27", after := #[{ on := 34, ground := Go.Ground.data }, { on := 35, ground := Go.Ground.data }], guard := none }) (v := ?_) rfl (by kernel_rfl) (by kernel_rfl) (by kernel_rfl) (fun _ _ _ h => h) (Or.inl ⟨by rfl, ?_⟩) (by assumption) ?_
  (rotate_left; focus (intro wS hSw; obtain ⟨⟨hzS, ⟨sa0, sa1, sa2⟩, ⟨sb0, sb1, sb2⟩, ⟨sc0, sc1⟩⟩, ⟨k1, l1, m1, n1⟩, ⟨k2, l2, m2, n2⟩, ⟨k3, l3, m3, n3⟩, ⟨k4, l4, m4, n4⟩⟩ := hSw; go_simp; try with_reducible rfl))
  (try simp only [Act.put, List.setIfInBounds_toArray, List.set_cons_zero, List.set_cons_succ])
  refine wpAnyH_take (i := 37) (oi := { dst := some 6, op := Go.Op.assign (Go.Operand.tmp 85), type := 4, pos := "law.go:27", after := #[{ on := 36, ground := Go.Ground.data }, { on := 35, ground := Go.Ground.chain }, { on := 0, ground := Go.Ground.phase }, { on := 1, ground := Go.Ground.phase }, { on := 2, ground := Go.Ground.phase }, { on := 3, ground := Go.Ground.phase }, { on := 4, ground := Go.Ground.phase }, { on := 5, ground := Go.Ground.phase }, { on := 6, ground := Go.Ground.phase }, { on := 7, ground := Go.Ground.phase }, { on := 8, ground := Go.Ground.phase }, { on := 9, ground := Go.Ground.phase }, { on := 10, ground := Go.Ground.phase }, { on := 11, ground := Go.Ground.phase }, { on := 12, ground := Go.Ground.phase }, { on := 13, ground := Go.Ground.phase }, { on := 14, ground := Go.Ground.phase }, { on := 15, ground := Go.Ground.phase }, { on := 16, ground := Go.Ground.phase }, { on := 17, ground := Go.Ground.phase }, { on := 18, ground := Go.Ground.phase }, { on := 19, ground := Go.Ground.phase }, { on := 20, ground := Go.Ground.phase }, { on := 21, ground := Go.Ground.phase }, { on := 22, ground := Go.Ground.phase }, { on := 23, ground := Go.Ground.phase }, { on := 24, ground := Go.Ground.phase }, { on := 25, ground := Go.Ground.phase }, { on := 26, ground := Go.Ground.phase }, { on := 27, ground := Go.Ground.phase }, { on := 28, ground := Go.Ground.phase }, { on := 29, ground := Go.Ground.phase }, { on := 30, ground := Go.Ground.phase }, { on := 31, ground := Go.Ground.phase }, { on := 32, ground := Go.Ground.phase }, { on := 33, ground := Go.Ground.phase }, { on := 34, ground := Go.Ground.phase }, { on := 35, ground := Go.Ground.phase }, { on := 36, ground := Go.Ground.phase }], guard := none }) (v := ?_) rfl (by kernel_rfl) (by kernel_rfl) (by kernel_rfl) (fun _ _ _ h => h) (Or.inl ⟨by rfl, ?_⟩) (by assumption) ?_
  (rotate_left; focus (intro wS hSw; obtain ⟨⟨hzS, ⟨sa0, sa1, sa2⟩, ⟨sb0, sb1, sb2⟩, ⟨sc0, sc1⟩⟩, ⟨k1, l1, m1, n1⟩, ⟨k2, l2, m2, n2⟩, ⟨k3, l3, m3, n3⟩, ⟨k4, l4, m4, n4⟩⟩ := hSw; go_simp; try with_reducible rfl))
  (try simp only [Act.put, List.setIfInBounds_toArray, List.set_cons_zero, List.set_cons_succ])
  refine wpAnyH_done (by kernel_rfl) ?_ _
  go_wp2_with fail
  go_ret
  exact ⟨rfl, hD5⟩
end Go.Proofs.Yteijamnihfhndaa

