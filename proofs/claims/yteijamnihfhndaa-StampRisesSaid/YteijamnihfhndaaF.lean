/-
  The walk of StampOrder: it returns true, for every input, without condition.
-/
import Derived.Test.YteijamnihfhndaaE
namespace Go.Proofs.Yteijamnihfhndaa
open Go.RowKit
/-- The cells of three stamps that lie in boxes of the call's own. -/
def In3 (w : World) (a b c : St) (w' : World) : Prop :=
  w.heap.size + 1 + 1 < w'.heap.size ∧ (w'.cell? ⟨w.heap.size, 0, none⟩ = some (.int .i64 a.t) ∧ w'.cell? ⟨w.heap.size, 1, none⟩ = some (.int .i64 a.c) ∧ w'.cell? ⟨w.heap.size, 2, none⟩ = some (.int .i64 a.r)) ∧
  (w'.cell? ⟨w.heap.size + 1, 0, none⟩ = some (.int .i64 b.t) ∧ w'.cell? ⟨w.heap.size + 1, 1, none⟩ = some (.int .i64 b.c) ∧ w'.cell? ⟨w.heap.size + 1, 2, none⟩ = some (.int .i64 b.r)) ∧
  (w'.cell? ⟨w.heap.size + 1 + 1, 0, none⟩ = some (.int .i64 c.t) ∧ w'.cell? ⟨w.heap.size + 1 + 1, 1, none⟩ = some (.int .i64 c.c) ∧ w'.cell? ⟨w.heap.size + 1 + 1, 2, none⟩ = some (.int .i64 c.r))
theorem In3.keep {w : World} {a b c : St} {w1 w2 : World} (h : In3 w a b c w1) (hb : Below w1.heap.size w1 w2) : In3 w a b c w2 := by
  obtain ⟨hz, ⟨a0, a1, a2⟩, ⟨b0, b1, b2⟩, ⟨c0, c1, c2⟩⟩ := h
  refine ⟨Nat.lt_of_lt_of_le hz hb.size, ⟨?_, ?_, ?_⟩, ⟨?_, ?_, ?_⟩, ⟨?_, ?_, ?_⟩⟩
  · exact (hb.cell (p := ⟨_, _, none⟩) (by simp <;> omega)).trans a0
  · exact (hb.cell (p := ⟨_, _, none⟩) (by simp <;> omega)).trans a1
  · exact (hb.cell (p := ⟨_, _, none⟩) (by simp <;> omega)).trans a2
  · exact (hb.cell (p := ⟨_, _, none⟩) (by simp <;> omega)).trans b0
  · exact (hb.cell (p := ⟨_, _, none⟩) (by simp <;> omega)).trans b1
  · exact (hb.cell (p := ⟨_, _, none⟩) (by simp <;> omega)).trans b2
  · exact (hb.cell (p := ⟨_, _, none⟩) (by simp <;> omega)).trans c0
  · exact (hb.cell (p := ⟨_, _, none⟩) (by simp <;> omega)).trans c1
  · exact (hb.cell (p := ⟨_, _, none⟩) (by simp <;> omega)).trans c2
theorem In3.new (w : World) (a b c : St) : In3 w a b c (((w.alloc (.cells #[.int .i64 a.t, .int .i64 a.c, .int .i64 a.r] 23)).alloc (.cells #[.int .i64 b.t, .int .i64 b.c, .int .i64 b.r] 23)).alloc (.cells #[.int .i64 c.t, .int .i64 c.c, .int .i64 c.r] 23)) := by
  refine ⟨by simp, ⟨?_, ?_, ?_⟩, ⟨?_, ?_, ?_⟩, ⟨?_, ?_, ?_⟩⟩
  all_goals go_simp
theorem In3.drew {w : World} {a b c : St} {w1 : World} (h : In3 w a b c w1) : In3 w a b c w1.drew := h
/-- What lies behind the three boxes is Below all that was there. -/
def At3 (w w' : World) : Prop := Below w.heap.size w w'
set_option maxRecDepth 100000 in
set_option maxHeartbeats 4000000 in
theorem order_tf (a b c : St) (w : World) (h1 : lessB a b = true) (h2 : lessB b a = false) (h3 : ¬ (a.t = b.t ∧ a.c = b.c ∧ a.r = b.r)) (h4 : lessB b c = true → lessB a c = true) : Calls Try.prog 5 #[ag a, ag b, ag c] w fun e w' => e = .returned (.bool true) ∧ Below w.heap.size w w' := by
  have he1 := eqS_false h3
  have H3 := Lib.hid h3
  clear h3
  have hI0 := (In3.new w a b c).drew
  have hB0 : Below w.heap.size w (((w.alloc (.cells #[.int .i64 a.t, .int .i64 a.c, .int .i64 a.r] 23)).alloc (.cells #[.int .i64 b.t, .int .i64 b.c, .int .i64 b.r] 23)).alloc (.cells #[.int .i64 c.t, .int .i64 c.c, .int .i64 c.r] 23)).drew := by
    (repeat (first | exact Below.refl _ _ | (with_reducible assumption) | refine Below.setCell ?_ (by simp <;> omega) _ | refine Below.alloc ?_ (by simp <;> omega) _ | refine Below.drew ?_ | refine below_drewN ?_ _))
  have H1 := Lib.hid h1
  have H2 := Lib.hid h2
  clear h1 h2
  go_enter Try.func5, Try.ntmps5
  go_wp2_with fail
  refine wp_region_held_drew (S := In3 w a b c) (by kernel_rfl) (by (first | exact hI0 | exact hI1 | exact hI2 | exact hI3)) (fun hHeld => ?_)
  refine wpAnyH_take (i := 0) (oi := { dst := some 7, op := Go.Op.load 23 (Go.Operand.tmp 3), type := 23, pos := "law.go:56", after := #[], guard := none }) (v := ?_) rfl (by kernel_rfl) (by kernel_rfl) (by kernel_rfl) (fun _ _ _ h => h) (Or.inl ⟨by rfl, ?_⟩) (by assumption) ?_
  (rotate_left; focus (intro wS hSw; obtain ⟨hzS, ⟨sa0, sa1, sa2⟩, ⟨sb0, sb1, sb2⟩, ⟨sc0, sc1, sc2⟩⟩ := hSw; go_simp; try with_reducible rfl))
  (try simp only [Act.put, List.setIfInBounds_toArray, List.set_cons_zero, List.set_cons_succ])
  refine wpAnyH_take (i := 1) (oi := { dst := some 8, op := Go.Op.load 23 (Go.Operand.tmp 4), type := 23, pos := "law.go:56", after := #[], guard := none }) (v := ?_) rfl (by kernel_rfl) (by kernel_rfl) (by kernel_rfl) (fun _ _ _ h => h) (Or.inl ⟨by rfl, ?_⟩) (by assumption) ?_
  (rotate_left; focus (intro wS hSw; obtain ⟨hzS, ⟨sa0, sa1, sa2⟩, ⟨sb0, sb1, sb2⟩, ⟨sc0, sc1, sc2⟩⟩ := hSw; go_simp; try with_reducible rfl))
  (try simp only [Act.put, List.setIfInBounds_toArray, List.set_cons_zero, List.set_cons_succ])
  refine wpAnyH_ready (rs := [2]) (by kernel_rfl) (by simp) ?_
  refine AllReadyH.cons (o := { dst := some 9, op := Go.Op.call { callee := Go.Callee.value (Go.Operand.func 12), args := #[Go.Operand.tmp 7, Go.Operand.tmp 8], argTypes := #[23, 23] }, type := 4, pos := "law.go:56", after := #[{ on := 0, ground := Go.Ground.data }, { on := 1, ground := Go.Ground.data }], guard := none }) rfl (fun K hK => ?_) AllReadyH.nil
  go_simp
  refine (less_any a b _).mono ?_
  rintro e v1 ⟨rfl, hbv1⟩
  rw [H1.out]
  have hB1 := below_step hB0 (Nat.le_refl _) hbv1
  have hI1 := (hI0).keep hbv1
  (try go_wp2_with fail)
  refine hK.out _ _ (by (first | exact hI0 | exact hI1 | exact hI2 | exact hI3)) (fun hHeld => ?_)
  clear hK K
  (try simp only [Act.put, List.setIfInBounds_toArray, List.set_cons_zero, List.set_cons_succ])
  refine wpAnyH_take (i := 3) (oi := { dst := some 10, op := Go.Op.move (Go.Operand.tmp 9), type := 4, pos := "law.go:56", after := #[{ on := 2, ground := Go.Ground.data }, { on := 2, ground := Go.Ground.chain }], guard := none }) (v := ?_) rfl (by kernel_rfl) (by kernel_rfl) (by kernel_rfl) (fun _ _ _ h => h) (Or.inl ⟨by rfl, ?_⟩) (by assumption) ?_
  (rotate_left; focus (intro wS hSw; obtain ⟨hzS, ⟨sa0, sa1, sa2⟩, ⟨sb0, sb1, sb2⟩, ⟨sc0, sc1, sc2⟩⟩ := hSw; go_simp; try with_reducible rfl))
  (try simp only [Act.put, List.setIfInBounds_toArray, List.set_cons_zero, List.set_cons_succ])
  refine wpAnyH_take (i := 4) (oi := { dst := some 11, op := Go.Op.load 23 (Go.Operand.tmp 4), type := 23, pos := "law.go:56", after := #[{ on := 3, ground := Go.Ground.guard }], guard := some (3, true) }) (v := ?_) rfl (by kernel_rfl) (by kernel_rfl) (by kernel_rfl) (fun _ _ _ h => h) (Or.inl ⟨by rfl, ?_⟩) (by assumption) ?_
  (rotate_left; focus (intro wS hSw; obtain ⟨hzS, ⟨sa0, sa1, sa2⟩, ⟨sb0, sb1, sb2⟩, ⟨sc0, sc1, sc2⟩⟩ := hSw; go_simp; try with_reducible rfl))
  (try simp only [Act.put, List.setIfInBounds_toArray, List.set_cons_zero, List.set_cons_succ])
  refine wpAnyH_take (i := 5) (oi := { dst := some 12, op := Go.Op.load 23 (Go.Operand.tmp 3), type := 23, pos := "law.go:56", after := #[{ on := 3, ground := Go.Ground.guard }], guard := some (3, true) }) (v := ?_) rfl (by kernel_rfl) (by kernel_rfl) (by kernel_rfl) (fun _ _ _ h => h) (Or.inl ⟨by rfl, ?_⟩) (by assumption) ?_
  (rotate_left; focus (intro wS hSw; obtain ⟨hzS, ⟨sa0, sa1, sa2⟩, ⟨sb0, sb1, sb2⟩, ⟨sc0, sc1, sc2⟩⟩ := hSw; go_simp; try with_reducible rfl))
  (try simp only [Act.put, List.setIfInBounds_toArray, List.set_cons_zero, List.set_cons_succ])
  refine wpAnyH_ready (rs := [6]) (by kernel_rfl) (by simp) ?_
  refine AllReadyH.cons (o := { dst := some 13, op := Go.Op.call { callee := Go.Callee.value (Go.Operand.func 12), args := #[Go.Operand.tmp 11, Go.Operand.tmp 12], argTypes := #[23, 23] }, type := 4, pos := "law.go:56", after := #[{ on := 4, ground := Go.Ground.data }, { on := 5, ground := Go.Ground.data }, { on := 3, ground := Go.Ground.chain }, { on := 3, ground := Go.Ground.guard }], guard := some (3, true) }) rfl (fun K hK => ?_) AllReadyH.nil
  go_simp
  refine (less_any b a _).mono ?_
  rintro e v2 ⟨rfl, hbv2⟩
  rw [H2.out]
  have hB2 := below_step hB1 (Nat.le_refl _) hbv2
  have hI2 := (hI1).keep hbv2
  (try go_wp2_with fail)
  refine hK.out _ _ (by (first | exact hI0 | exact hI1 | exact hI2 | exact hI3)) (fun hHeld => ?_)
  clear hK K
  (try simp only [Act.put, List.setIfInBounds_toArray, List.set_cons_zero, List.set_cons_succ])
  refine wpAnyH_take (i := 7) (oi := { dst := some 14, op := Go.Op.pick (Go.Operand.tmp 10) (Go.Operand.tmp 13) (Go.Operand.const (Go.Value.bool false)), type := 4, pos := "law.go:56", after := #[{ on := 3, ground := Go.Ground.data }, { on := 6, ground := Go.Ground.data }], guard := none }) (v := ?_) rfl (by kernel_rfl) (by kernel_rfl) (by kernel_rfl) (fun _ _ _ h => h) (Or.inl ⟨by rfl, ?_⟩) (by assumption) ?_
  (rotate_left; focus (intro wS hSw; obtain ⟨hzS, ⟨sa0, sa1, sa2⟩, ⟨sb0, sb1, sb2⟩, ⟨sc0, sc1, sc2⟩⟩ := hSw; go_simp; try with_reducible rfl))
  (try simp only [Act.put, List.setIfInBounds_toArray, List.set_cons_zero, List.set_cons_succ])
  refine wpAnyH_take (i := 8) (oi := { dst := some 15, op := Go.Op.move (Go.Operand.tmp 14), type := 4, pos := "law.go:56", after := #[{ on := 7, ground := Go.Ground.data }, { on := 6, ground := Go.Ground.chain }], guard := none }) (v := ?_) rfl (by kernel_rfl) (by kernel_rfl) (by kernel_rfl) (fun _ _ _ h => h) (Or.inl ⟨by rfl, ?_⟩) (by assumption) ?_
  (rotate_left; focus (intro wS hSw; obtain ⟨hzS, ⟨sa0, sa1, sa2⟩, ⟨sb0, sb1, sb2⟩, ⟨sc0, sc1, sc2⟩⟩ := hSw; go_simp; try with_reducible rfl))
  (try simp only [Act.put, List.setIfInBounds_toArray, List.set_cons_zero, List.set_cons_succ])
  refine wpAnyH_take (i := 9) (oi := { dst := some 16, op := Go.Op.load 23 (Go.Operand.tmp 3), type := 23, pos := "law.go:56", after := #[{ on := 8, ground := Go.Ground.guard }], guard := some (8, false) }) (v := ?_) rfl (by kernel_rfl) (by kernel_rfl) (by kernel_rfl) (fun _ _ _ h => h) (Or.inl ⟨by rfl, ?_⟩) (by assumption) ?_
  (rotate_left; focus (intro wS hSw; obtain ⟨hzS, ⟨sa0, sa1, sa2⟩, ⟨sb0, sb1, sb2⟩, ⟨sc0, sc1, sc2⟩⟩ := hSw; go_simp; try with_reducible rfl))
  (try simp only [Act.put, List.setIfInBounds_toArray, List.set_cons_zero, List.set_cons_succ])
  refine wpAnyH_take (i := 10) (oi := { dst := some 17, op := Go.Op.load 23 (Go.Operand.tmp 4), type := 23, pos := "law.go:56", after := #[{ on := 8, ground := Go.Ground.guard }], guard := some (8, false) }) (v := ?_) rfl (by kernel_rfl) (by kernel_rfl) (by kernel_rfl) (fun _ _ _ h => h) (Or.inl ⟨by rfl, ?_⟩) (by assumption) ?_
  (rotate_left; focus (intro wS hSw; obtain ⟨hzS, ⟨sa0, sa1, sa2⟩, ⟨sb0, sb1, sb2⟩, ⟨sc0, sc1, sc2⟩⟩ := hSw; go_simp; try with_reducible rfl))
  (try simp only [Act.put, List.setIfInBounds_toArray, List.set_cons_zero, List.set_cons_succ])
  refine wpAnyH_take (i := 17) (oi := { dst := some 24, op := Go.Op.load 23 (Go.Operand.tmp 3), type := 23, pos := "law.go:56", after := #[{ on := 8, ground := Go.Ground.guard }], guard := some (8, false) }) (v := ?_) rfl (by kernel_rfl) (by kernel_rfl) (by kernel_rfl) (fun _ _ _ h => h) (Or.inl ⟨by rfl, ?_⟩) (by assumption) ?_
  (rotate_left; focus (intro wS hSw; obtain ⟨hzS, ⟨sa0, sa1, sa2⟩, ⟨sb0, sb1, sb2⟩, ⟨sc0, sc1, sc2⟩⟩ := hSw; go_simp; try with_reducible rfl))
  (try simp only [Act.put, List.setIfInBounds_toArray, List.set_cons_zero, List.set_cons_succ])
  refine wpAnyH_take (i := 18) (oi := { dst := some 25, op := Go.Op.load 23 (Go.Operand.tmp 4), type := 23, pos := "law.go:56", after := #[{ on := 8, ground := Go.Ground.guard }], guard := some (8, false) }) (v := ?_) rfl (by kernel_rfl) (by kernel_rfl) (by kernel_rfl) (fun _ _ _ h => h) (Or.inl ⟨by rfl, ?_⟩) (by assumption) ?_
  (rotate_left; focus (intro wS hSw; obtain ⟨hzS, ⟨sa0, sa1, sa2⟩, ⟨sb0, sb1, sb2⟩, ⟨sc0, sc1, sc2⟩⟩ := hSw; go_simp; try with_reducible rfl))
  (try simp only [Act.put, List.setIfInBounds_toArray, List.set_cons_zero, List.set_cons_succ])
  refine wpAnyH_take (i := 19) (oi := { dst := some 26, op := Go.Op.binOp Go.BinOp.eql 23 (Go.Operand.tmp 24) (Go.Operand.tmp 25) 23, type := 4, pos := "law.go:56", after := #[{ on := 17, ground := Go.Ground.data }, { on := 18, ground := Go.Ground.data }, { on := 8, ground := Go.Ground.guard }], guard := some (8, false) }) (v := ?_) rfl (by kernel_rfl) (by kernel_rfl) (by kernel_rfl) (fun _ _ _ h => h) (Or.inl ⟨by rfl, ?_⟩) (by assumption) ?_
  (rotate_left; focus (intro wS hSw; obtain ⟨hzS, ⟨sa0, sa1, sa2⟩, ⟨sb0, sb1, sb2⟩, ⟨sc0, sc1, sc2⟩⟩ := hSw; go_simp; try with_reducible rfl))
  (try simp only [Act.put, List.setIfInBounds_toArray, List.set_cons_zero, List.set_cons_succ])
  refine wpAnyH_ready (rs := [11]) (by kernel_rfl) (by simp) ?_
  refine AllReadyH.cons (o := { dst := some 18, op := Go.Op.call { callee := Go.Callee.value (Go.Operand.func 12), args := #[Go.Operand.tmp 16, Go.Operand.tmp 17], argTypes := #[23, 23] }, type := 4, pos := "law.go:56", after := #[{ on := 9, ground := Go.Ground.data }, { on := 10, ground := Go.Ground.data }, { on := 8, ground := Go.Ground.chain }, { on := 8, ground := Go.Ground.guard }], guard := some (8, false) }) rfl (fun K hK => ?_) AllReadyH.nil
  go_simp
  refine (less_any a b _).mono ?_
  rintro e v3 ⟨rfl, hbv3⟩
  rw [H1.out]
  have hB3 := below_step hB2 (Nat.le_refl _) hbv3
  have hI3 := (hI2).keep hbv3
  (try go_wp2_with fail)
  refine hK.out _ _ (by (first | exact hI0 | exact hI1 | exact hI2 | exact hI3)) (fun hHeld => ?_)
  clear hK K
  (try simp only [Act.put, List.setIfInBounds_toArray, List.set_cons_zero, List.set_cons_succ])
  refine wpAnyH_take (i := 12) (oi := { dst := some 19, op := Go.Op.move (Go.Operand.tmp 18), type := 4, pos := "law.go:56", after := #[{ on := 11, ground := Go.Ground.data }, { on := 11, ground := Go.Ground.chain }, { on := 8, ground := Go.Ground.guard }], guard := some (8, false) }) (v := ?_) rfl (by kernel_rfl) (by kernel_rfl) (by kernel_rfl) (fun _ _ _ h => h) (Or.inl ⟨by rfl, ?_⟩) (by assumption) ?_
  (rotate_left; focus (intro wS hSw; obtain ⟨hzS, ⟨sa0, sa1, sa2⟩, ⟨sb0, sb1, sb2⟩, ⟨sc0, sc1, sc2⟩⟩ := hSw; go_simp; try with_reducible rfl))
  (try simp only [Act.put, List.setIfInBounds_toArray, List.set_cons_zero, List.set_cons_succ])
  refine wpAnyH_take (i := 13) (oi := { dst := some 20, op := Go.Op.load 23 (Go.Operand.tmp 4), type := 23, pos := "law.go:56", after := #[{ on := 12, ground := Go.Ground.guard }], guard := some (12, false) }) (v := undef) rfl (by kernel_rfl) (by kernel_rfl) (by kernel_rfl) (fun _ _ _ h => h) (Or.inr ⟨by rfl, rfl⟩) (by assumption) ?_
  (try simp only [Act.put, List.setIfInBounds_toArray, List.set_cons_zero, List.set_cons_succ])
  refine wpAnyH_take (i := 14) (oi := { dst := some 21, op := Go.Op.load 23 (Go.Operand.tmp 3), type := 23, pos := "law.go:56", after := #[{ on := 12, ground := Go.Ground.guard }], guard := some (12, false) }) (v := undef) rfl (by kernel_rfl) (by kernel_rfl) (by kernel_rfl) (fun _ _ _ h => h) (Or.inr ⟨by rfl, rfl⟩) (by assumption) ?_
  (try simp only [Act.put, List.setIfInBounds_toArray, List.set_cons_zero, List.set_cons_succ])
  refine wpAnyH_ready (rs := [15]) (by kernel_rfl) (by simp) ?_
  refine AllReadyH.cons (o := { dst := some 22, op := Go.Op.call { callee := Go.Callee.value (Go.Operand.func 12), args := #[Go.Operand.tmp 20, Go.Operand.tmp 21], argTypes := #[23, 23] }, type := 4, pos := "law.go:56", after := #[{ on := 13, ground := Go.Ground.data }, { on := 14, ground := Go.Ground.data }, { on := 12, ground := Go.Ground.chain }, { on := 12, ground := Go.Ground.guard }], guard := some (12, false) }) rfl (fun K hK => ?_) AllReadyH.nil
  go_simp
  refine hK.out _ _ (by (first | exact hI0 | exact hI1 | exact hI2 | exact hI3)) (fun hHeld => ?_)
  clear hK K
  (try simp only [Act.put, List.setIfInBounds_toArray, List.set_cons_zero, List.set_cons_succ])
  refine wpAnyH_take (i := 16) (oi := { dst := some 23, op := Go.Op.pick (Go.Operand.tmp 19) (Go.Operand.const (Go.Value.bool true)) (Go.Operand.tmp 22), type := 4, pos := "law.go:56", after := #[{ on := 12, ground := Go.Ground.data }, { on := 15, ground := Go.Ground.data }, { on := 8, ground := Go.Ground.guard }], guard := some (8, false) }) (v := ?_) rfl (by kernel_rfl) (by kernel_rfl) (by kernel_rfl) (fun _ _ _ h => h) (Or.inl ⟨by rfl, ?_⟩) (by assumption) ?_
  (rotate_left; focus (intro wS hSw; obtain ⟨hzS, ⟨sa0, sa1, sa2⟩, ⟨sb0, sb1, sb2⟩, ⟨sc0, sc1, sc2⟩⟩ := hSw; go_simp; try with_reducible rfl))
  (try simp only [Act.put, List.setIfInBounds_toArray, List.set_cons_zero, List.set_cons_succ])
  refine wpAnyH_take (i := 20) (oi := { dst := some 27, op := Go.Op.binOp Go.BinOp.eql 4 (Go.Operand.tmp 23) (Go.Operand.tmp 26) 4, type := 4, pos := "law.go:56", after := #[{ on := 16, ground := Go.Ground.data }, { on := 19, ground := Go.Ground.data }, { on := 8, ground := Go.Ground.guard }], guard := some (8, false) }) (v := ?_) rfl (by kernel_rfl) (by kernel_rfl) (by kernel_rfl) (fun _ _ _ h => h) (Or.inl ⟨by rfl, ?_⟩) (by assumption) ?_
  (rotate_left; focus (intro wS hSw; obtain ⟨hzS, ⟨sa0, sa1, sa2⟩, ⟨sb0, sb1, sb2⟩, ⟨sc0, sc1, sc2⟩⟩ := hSw; go_simp; try with_reducible rfl))
  (try simp only [Act.put, List.setIfInBounds_toArray, List.set_cons_zero, List.set_cons_succ])
  refine wpAnyH_take (i := 21) (oi := { dst := some 28, op := Go.Op.pick (Go.Operand.tmp 15) (Go.Operand.const (Go.Value.bool true)) (Go.Operand.tmp 27), type := 4, pos := "law.go:56", after := #[{ on := 8, ground := Go.Ground.data }, { on := 20, ground := Go.Ground.data }], guard := none }) (v := ?_) rfl (by kernel_rfl) (by kernel_rfl) (by kernel_rfl) (fun _ _ _ h => h) (Or.inl ⟨by rfl, ?_⟩) (by assumption) ?_
  (rotate_left; focus (intro wS hSw; obtain ⟨hzS, ⟨sa0, sa1, sa2⟩, ⟨sb0, sb1, sb2⟩, ⟨sc0, sc1, sc2⟩⟩ := hSw; go_simp; try with_reducible rfl))
  (try simp only [Act.put, List.setIfInBounds_toArray, List.set_cons_zero, List.set_cons_succ])
  refine wpAnyH_done (by kernel_rfl) ?_ _
  clear he1
  have HI := Lib.hid hI3
  obtain ⟨hzS, ⟨sa0, sa1, sa2⟩, ⟨sb0, sb1, sb2⟩, ⟨sc0, sc1, sc2⟩⟩ := hI3
  go_wp2_with fail
  refine (less_any a b _).mono ?_
  rintro e u1 ⟨rfl, hbu1⟩
  rw [H1.out]
  have kB := below_step hB3 (Nat.le_refl _) hbu1
  have HI2 := Lib.hid (HI.out.keep hbu1)
  clear hzS sa0 sa1 sa2 sb0 sb1 sb2 sc0 sc1 sc2
  obtain ⟨hzS, ⟨sa0, sa1, sa2⟩, ⟨sb0, sb1, sb2⟩, ⟨sc0, sc1, sc2⟩⟩ := HI2.out
  cases h5 : lessB b c with
  | false =>
    have H5 := Lib.hid h5; clear h5
    go_wp2_with fail
    refine (less_any b c _).mono ?_
    rintro e u2 ⟨rfl, hbu2⟩
    rw [H5.out]
    have kB2 := below_step kB (Nat.le_refl _) hbu2
    go_wp2_with fail
    refine (awake_any _).mono ?_
    rintro e u9 ⟨rfl, hbu9⟩
    go_wp2_with fail
    go_ret
    exact ⟨rfl, below_step kB2 (Nat.le_refl _) hbu9⟩
  | true =>
    have H6 := Lib.hid (h4 h5)
    have H5 := Lib.hid h5; clear h5
    go_wp2_with fail
    refine (less_any b c _).mono ?_
    rintro e u2 ⟨rfl, hbu2⟩
    rw [H5.out]
    have kB2 := below_step kB (Nat.le_refl _) hbu2
    clear hzS sa0 sa1 sa2 sb0 sb1 sb2 sc0 sc1 sc2
    obtain ⟨hzS, ⟨sa0, sa1, sa2⟩, ⟨sb0, sb1, sb2⟩, ⟨sc0, sc1, sc2⟩⟩ := HI2.out.keep hbu2
    go_wp2_with fail
    refine (less_any a c _).mono ?_
    rintro e u3 ⟨rfl, hbu3⟩
    rw [H6.out]
    have kB3 := below_step kB2 (Nat.le_refl _) hbu3
    go_wp2_with fail
    refine (awake_any _).mono ?_
    rintro e u9 ⟨rfl, hbu9⟩
    go_wp2_with fail
    go_ret
    exact ⟨rfl, below_step kB3 (Nat.le_refl _) hbu9⟩
set_option maxRecDepth 100000 in
set_option maxHeartbeats 4000000 in
theorem order_ft (a b c : St) (w : World) (h1 : lessB a b = false) (h2 : lessB b a = true) (h3 : ¬ (a.t = b.t ∧ a.c = b.c ∧ a.r = b.r)) : Calls Try.prog 5 #[ag a, ag b, ag c] w fun e w' => e = .returned (.bool true) ∧ Below w.heap.size w w' := by
  have he1 := eqS_false h3
  have H3 := Lib.hid h3
  clear h3
  have hI0 := (In3.new w a b c).drew
  have hB0 : Below w.heap.size w (((w.alloc (.cells #[.int .i64 a.t, .int .i64 a.c, .int .i64 a.r] 23)).alloc (.cells #[.int .i64 b.t, .int .i64 b.c, .int .i64 b.r] 23)).alloc (.cells #[.int .i64 c.t, .int .i64 c.c, .int .i64 c.r] 23)).drew := by
    (repeat (first | exact Below.refl _ _ | (with_reducible assumption) | refine Below.setCell ?_ (by simp <;> omega) _ | refine Below.alloc ?_ (by simp <;> omega) _ | refine Below.drew ?_ | refine below_drewN ?_ _))
  have H1 := Lib.hid h1
  have H2 := Lib.hid h2
  clear h1 h2
  go_enter Try.func5, Try.ntmps5
  go_wp2_with fail
  refine wp_region_held_drew (S := In3 w a b c) (by kernel_rfl) (by (first | exact hI0 | exact hI1 | exact hI2 | exact hI3)) (fun hHeld => ?_)
  refine wpAnyH_take (i := 0) (oi := { dst := some 7, op := Go.Op.load 23 (Go.Operand.tmp 3), type := 23, pos := "law.go:56", after := #[], guard := none }) (v := ?_) rfl (by kernel_rfl) (by kernel_rfl) (by kernel_rfl) (fun _ _ _ h => h) (Or.inl ⟨by rfl, ?_⟩) (by assumption) ?_
  (rotate_left; focus (intro wS hSw; obtain ⟨hzS, ⟨sa0, sa1, sa2⟩, ⟨sb0, sb1, sb2⟩, ⟨sc0, sc1, sc2⟩⟩ := hSw; go_simp; try with_reducible rfl))
  (try simp only [Act.put, List.setIfInBounds_toArray, List.set_cons_zero, List.set_cons_succ])
  refine wpAnyH_take (i := 1) (oi := { dst := some 8, op := Go.Op.load 23 (Go.Operand.tmp 4), type := 23, pos := "law.go:56", after := #[], guard := none }) (v := ?_) rfl (by kernel_rfl) (by kernel_rfl) (by kernel_rfl) (fun _ _ _ h => h) (Or.inl ⟨by rfl, ?_⟩) (by assumption) ?_
  (rotate_left; focus (intro wS hSw; obtain ⟨hzS, ⟨sa0, sa1, sa2⟩, ⟨sb0, sb1, sb2⟩, ⟨sc0, sc1, sc2⟩⟩ := hSw; go_simp; try with_reducible rfl))
  (try simp only [Act.put, List.setIfInBounds_toArray, List.set_cons_zero, List.set_cons_succ])
  refine wpAnyH_ready (rs := [2]) (by kernel_rfl) (by simp) ?_
  refine AllReadyH.cons (o := { dst := some 9, op := Go.Op.call { callee := Go.Callee.value (Go.Operand.func 12), args := #[Go.Operand.tmp 7, Go.Operand.tmp 8], argTypes := #[23, 23] }, type := 4, pos := "law.go:56", after := #[{ on := 0, ground := Go.Ground.data }, { on := 1, ground := Go.Ground.data }], guard := none }) rfl (fun K hK => ?_) AllReadyH.nil
  go_simp
  refine (less_any a b _).mono ?_
  rintro e v1 ⟨rfl, hbv1⟩
  rw [H1.out]
  have hB1 := below_step hB0 (Nat.le_refl _) hbv1
  have hI1 := (hI0).keep hbv1
  (try go_wp2_with fail)
  refine hK.out _ _ (by (first | exact hI0 | exact hI1 | exact hI2 | exact hI3)) (fun hHeld => ?_)
  clear hK K
  (try simp only [Act.put, List.setIfInBounds_toArray, List.set_cons_zero, List.set_cons_succ])
  refine wpAnyH_take (i := 3) (oi := { dst := some 10, op := Go.Op.move (Go.Operand.tmp 9), type := 4, pos := "law.go:56", after := #[{ on := 2, ground := Go.Ground.data }, { on := 2, ground := Go.Ground.chain }], guard := none }) (v := ?_) rfl (by kernel_rfl) (by kernel_rfl) (by kernel_rfl) (fun _ _ _ h => h) (Or.inl ⟨by rfl, ?_⟩) (by assumption) ?_
  (rotate_left; focus (intro wS hSw; obtain ⟨hzS, ⟨sa0, sa1, sa2⟩, ⟨sb0, sb1, sb2⟩, ⟨sc0, sc1, sc2⟩⟩ := hSw; go_simp; try with_reducible rfl))
  (try simp only [Act.put, List.setIfInBounds_toArray, List.set_cons_zero, List.set_cons_succ])
  refine wpAnyH_take (i := 4) (oi := { dst := some 11, op := Go.Op.load 23 (Go.Operand.tmp 4), type := 23, pos := "law.go:56", after := #[{ on := 3, ground := Go.Ground.guard }], guard := some (3, true) }) (v := undef) rfl (by kernel_rfl) (by kernel_rfl) (by kernel_rfl) (fun _ _ _ h => h) (Or.inr ⟨by rfl, rfl⟩) (by assumption) ?_
  (try simp only [Act.put, List.setIfInBounds_toArray, List.set_cons_zero, List.set_cons_succ])
  refine wpAnyH_take (i := 5) (oi := { dst := some 12, op := Go.Op.load 23 (Go.Operand.tmp 3), type := 23, pos := "law.go:56", after := #[{ on := 3, ground := Go.Ground.guard }], guard := some (3, true) }) (v := undef) rfl (by kernel_rfl) (by kernel_rfl) (by kernel_rfl) (fun _ _ _ h => h) (Or.inr ⟨by rfl, rfl⟩) (by assumption) ?_
  (try simp only [Act.put, List.setIfInBounds_toArray, List.set_cons_zero, List.set_cons_succ])
  refine wpAnyH_ready (rs := [6]) (by kernel_rfl) (by simp) ?_
  refine AllReadyH.cons (o := { dst := some 13, op := Go.Op.call { callee := Go.Callee.value (Go.Operand.func 12), args := #[Go.Operand.tmp 11, Go.Operand.tmp 12], argTypes := #[23, 23] }, type := 4, pos := "law.go:56", after := #[{ on := 4, ground := Go.Ground.data }, { on := 5, ground := Go.Ground.data }, { on := 3, ground := Go.Ground.chain }, { on := 3, ground := Go.Ground.guard }], guard := some (3, true) }) rfl (fun K hK => ?_) AllReadyH.nil
  go_simp
  refine hK.out _ _ (by (first | exact hI0 | exact hI1 | exact hI2 | exact hI3)) (fun hHeld => ?_)
  clear hK K
  (try simp only [Act.put, List.setIfInBounds_toArray, List.set_cons_zero, List.set_cons_succ])
  refine wpAnyH_take (i := 7) (oi := { dst := some 14, op := Go.Op.pick (Go.Operand.tmp 10) (Go.Operand.tmp 13) (Go.Operand.const (Go.Value.bool false)), type := 4, pos := "law.go:56", after := #[{ on := 3, ground := Go.Ground.data }, { on := 6, ground := Go.Ground.data }], guard := none }) (v := ?_) rfl (by kernel_rfl) (by kernel_rfl) (by kernel_rfl) (fun _ _ _ h => h) (Or.inl ⟨by rfl, ?_⟩) (by assumption) ?_
  (rotate_left; focus (intro wS hSw; obtain ⟨hzS, ⟨sa0, sa1, sa2⟩, ⟨sb0, sb1, sb2⟩, ⟨sc0, sc1, sc2⟩⟩ := hSw; go_simp; try with_reducible rfl))
  (try simp only [Act.put, List.setIfInBounds_toArray, List.set_cons_zero, List.set_cons_succ])
  refine wpAnyH_take (i := 8) (oi := { dst := some 15, op := Go.Op.move (Go.Operand.tmp 14), type := 4, pos := "law.go:56", after := #[{ on := 7, ground := Go.Ground.data }, { on := 6, ground := Go.Ground.chain }], guard := none }) (v := ?_) rfl (by kernel_rfl) (by kernel_rfl) (by kernel_rfl) (fun _ _ _ h => h) (Or.inl ⟨by rfl, ?_⟩) (by assumption) ?_
  (rotate_left; focus (intro wS hSw; obtain ⟨hzS, ⟨sa0, sa1, sa2⟩, ⟨sb0, sb1, sb2⟩, ⟨sc0, sc1, sc2⟩⟩ := hSw; go_simp; try with_reducible rfl))
  (try simp only [Act.put, List.setIfInBounds_toArray, List.set_cons_zero, List.set_cons_succ])
  refine wpAnyH_take (i := 9) (oi := { dst := some 16, op := Go.Op.load 23 (Go.Operand.tmp 3), type := 23, pos := "law.go:56", after := #[{ on := 8, ground := Go.Ground.guard }], guard := some (8, false) }) (v := ?_) rfl (by kernel_rfl) (by kernel_rfl) (by kernel_rfl) (fun _ _ _ h => h) (Or.inl ⟨by rfl, ?_⟩) (by assumption) ?_
  (rotate_left; focus (intro wS hSw; obtain ⟨hzS, ⟨sa0, sa1, sa2⟩, ⟨sb0, sb1, sb2⟩, ⟨sc0, sc1, sc2⟩⟩ := hSw; go_simp; try with_reducible rfl))
  (try simp only [Act.put, List.setIfInBounds_toArray, List.set_cons_zero, List.set_cons_succ])
  refine wpAnyH_take (i := 10) (oi := { dst := some 17, op := Go.Op.load 23 (Go.Operand.tmp 4), type := 23, pos := "law.go:56", after := #[{ on := 8, ground := Go.Ground.guard }], guard := some (8, false) }) (v := ?_) rfl (by kernel_rfl) (by kernel_rfl) (by kernel_rfl) (fun _ _ _ h => h) (Or.inl ⟨by rfl, ?_⟩) (by assumption) ?_
  (rotate_left; focus (intro wS hSw; obtain ⟨hzS, ⟨sa0, sa1, sa2⟩, ⟨sb0, sb1, sb2⟩, ⟨sc0, sc1, sc2⟩⟩ := hSw; go_simp; try with_reducible rfl))
  (try simp only [Act.put, List.setIfInBounds_toArray, List.set_cons_zero, List.set_cons_succ])
  refine wpAnyH_take (i := 17) (oi := { dst := some 24, op := Go.Op.load 23 (Go.Operand.tmp 3), type := 23, pos := "law.go:56", after := #[{ on := 8, ground := Go.Ground.guard }], guard := some (8, false) }) (v := ?_) rfl (by kernel_rfl) (by kernel_rfl) (by kernel_rfl) (fun _ _ _ h => h) (Or.inl ⟨by rfl, ?_⟩) (by assumption) ?_
  (rotate_left; focus (intro wS hSw; obtain ⟨hzS, ⟨sa0, sa1, sa2⟩, ⟨sb0, sb1, sb2⟩, ⟨sc0, sc1, sc2⟩⟩ := hSw; go_simp; try with_reducible rfl))
  (try simp only [Act.put, List.setIfInBounds_toArray, List.set_cons_zero, List.set_cons_succ])
  refine wpAnyH_take (i := 18) (oi := { dst := some 25, op := Go.Op.load 23 (Go.Operand.tmp 4), type := 23, pos := "law.go:56", after := #[{ on := 8, ground := Go.Ground.guard }], guard := some (8, false) }) (v := ?_) rfl (by kernel_rfl) (by kernel_rfl) (by kernel_rfl) (fun _ _ _ h => h) (Or.inl ⟨by rfl, ?_⟩) (by assumption) ?_
  (rotate_left; focus (intro wS hSw; obtain ⟨hzS, ⟨sa0, sa1, sa2⟩, ⟨sb0, sb1, sb2⟩, ⟨sc0, sc1, sc2⟩⟩ := hSw; go_simp; try with_reducible rfl))
  (try simp only [Act.put, List.setIfInBounds_toArray, List.set_cons_zero, List.set_cons_succ])
  refine wpAnyH_take (i := 19) (oi := { dst := some 26, op := Go.Op.binOp Go.BinOp.eql 23 (Go.Operand.tmp 24) (Go.Operand.tmp 25) 23, type := 4, pos := "law.go:56", after := #[{ on := 17, ground := Go.Ground.data }, { on := 18, ground := Go.Ground.data }, { on := 8, ground := Go.Ground.guard }], guard := some (8, false) }) (v := ?_) rfl (by kernel_rfl) (by kernel_rfl) (by kernel_rfl) (fun _ _ _ h => h) (Or.inl ⟨by rfl, ?_⟩) (by assumption) ?_
  (rotate_left; focus (intro wS hSw; obtain ⟨hzS, ⟨sa0, sa1, sa2⟩, ⟨sb0, sb1, sb2⟩, ⟨sc0, sc1, sc2⟩⟩ := hSw; go_simp; try with_reducible rfl))
  (try simp only [Act.put, List.setIfInBounds_toArray, List.set_cons_zero, List.set_cons_succ])
  refine wpAnyH_ready (rs := [11]) (by kernel_rfl) (by simp) ?_
  refine AllReadyH.cons (o := { dst := some 18, op := Go.Op.call { callee := Go.Callee.value (Go.Operand.func 12), args := #[Go.Operand.tmp 16, Go.Operand.tmp 17], argTypes := #[23, 23] }, type := 4, pos := "law.go:56", after := #[{ on := 9, ground := Go.Ground.data }, { on := 10, ground := Go.Ground.data }, { on := 8, ground := Go.Ground.chain }, { on := 8, ground := Go.Ground.guard }], guard := some (8, false) }) rfl (fun K hK => ?_) AllReadyH.nil
  go_simp
  refine (less_any a b _).mono ?_
  rintro e v2 ⟨rfl, hbv2⟩
  rw [H1.out]
  have hB2 := below_step hB1 (Nat.le_refl _) hbv2
  have hI2 := (hI1).keep hbv2
  (try go_wp2_with fail)
  refine hK.out _ _ (by (first | exact hI0 | exact hI1 | exact hI2 | exact hI3)) (fun hHeld => ?_)
  clear hK K
  (try simp only [Act.put, List.setIfInBounds_toArray, List.set_cons_zero, List.set_cons_succ])
  refine wpAnyH_take (i := 12) (oi := { dst := some 19, op := Go.Op.move (Go.Operand.tmp 18), type := 4, pos := "law.go:56", after := #[{ on := 11, ground := Go.Ground.data }, { on := 11, ground := Go.Ground.chain }, { on := 8, ground := Go.Ground.guard }], guard := some (8, false) }) (v := ?_) rfl (by kernel_rfl) (by kernel_rfl) (by kernel_rfl) (fun _ _ _ h => h) (Or.inl ⟨by rfl, ?_⟩) (by assumption) ?_
  (rotate_left; focus (intro wS hSw; obtain ⟨hzS, ⟨sa0, sa1, sa2⟩, ⟨sb0, sb1, sb2⟩, ⟨sc0, sc1, sc2⟩⟩ := hSw; go_simp; try with_reducible rfl))
  (try simp only [Act.put, List.setIfInBounds_toArray, List.set_cons_zero, List.set_cons_succ])
  refine wpAnyH_take (i := 13) (oi := { dst := some 20, op := Go.Op.load 23 (Go.Operand.tmp 4), type := 23, pos := "law.go:56", after := #[{ on := 12, ground := Go.Ground.guard }], guard := some (12, false) }) (v := ?_) rfl (by kernel_rfl) (by kernel_rfl) (by kernel_rfl) (fun _ _ _ h => h) (Or.inl ⟨by rfl, ?_⟩) (by assumption) ?_
  (rotate_left; focus (intro wS hSw; obtain ⟨hzS, ⟨sa0, sa1, sa2⟩, ⟨sb0, sb1, sb2⟩, ⟨sc0, sc1, sc2⟩⟩ := hSw; go_simp; try with_reducible rfl))
  (try simp only [Act.put, List.setIfInBounds_toArray, List.set_cons_zero, List.set_cons_succ])
  refine wpAnyH_take (i := 14) (oi := { dst := some 21, op := Go.Op.load 23 (Go.Operand.tmp 3), type := 23, pos := "law.go:56", after := #[{ on := 12, ground := Go.Ground.guard }], guard := some (12, false) }) (v := ?_) rfl (by kernel_rfl) (by kernel_rfl) (by kernel_rfl) (fun _ _ _ h => h) (Or.inl ⟨by rfl, ?_⟩) (by assumption) ?_
  (rotate_left; focus (intro wS hSw; obtain ⟨hzS, ⟨sa0, sa1, sa2⟩, ⟨sb0, sb1, sb2⟩, ⟨sc0, sc1, sc2⟩⟩ := hSw; go_simp; try with_reducible rfl))
  (try simp only [Act.put, List.setIfInBounds_toArray, List.set_cons_zero, List.set_cons_succ])
  refine wpAnyH_ready (rs := [15]) (by kernel_rfl) (by simp) ?_
  refine AllReadyH.cons (o := { dst := some 22, op := Go.Op.call { callee := Go.Callee.value (Go.Operand.func 12), args := #[Go.Operand.tmp 20, Go.Operand.tmp 21], argTypes := #[23, 23] }, type := 4, pos := "law.go:56", after := #[{ on := 13, ground := Go.Ground.data }, { on := 14, ground := Go.Ground.data }, { on := 12, ground := Go.Ground.chain }, { on := 12, ground := Go.Ground.guard }], guard := some (12, false) }) rfl (fun K hK => ?_) AllReadyH.nil
  go_simp
  refine (less_any b a _).mono ?_
  rintro e v3 ⟨rfl, hbv3⟩
  rw [H2.out]
  have hB3 := below_step hB2 (Nat.le_refl _) hbv3
  have hI3 := (hI2).keep hbv3
  (try go_wp2_with fail)
  refine hK.out _ _ (by (first | exact hI0 | exact hI1 | exact hI2 | exact hI3)) (fun hHeld => ?_)
  clear hK K
  (try simp only [Act.put, List.setIfInBounds_toArray, List.set_cons_zero, List.set_cons_succ])
  refine wpAnyH_take (i := 16) (oi := { dst := some 23, op := Go.Op.pick (Go.Operand.tmp 19) (Go.Operand.const (Go.Value.bool true)) (Go.Operand.tmp 22), type := 4, pos := "law.go:56", after := #[{ on := 12, ground := Go.Ground.data }, { on := 15, ground := Go.Ground.data }, { on := 8, ground := Go.Ground.guard }], guard := some (8, false) }) (v := ?_) rfl (by kernel_rfl) (by kernel_rfl) (by kernel_rfl) (fun _ _ _ h => h) (Or.inl ⟨by rfl, ?_⟩) (by assumption) ?_
  (rotate_left; focus (intro wS hSw; obtain ⟨hzS, ⟨sa0, sa1, sa2⟩, ⟨sb0, sb1, sb2⟩, ⟨sc0, sc1, sc2⟩⟩ := hSw; go_simp; try with_reducible rfl))
  (try simp only [Act.put, List.setIfInBounds_toArray, List.set_cons_zero, List.set_cons_succ])
  refine wpAnyH_take (i := 20) (oi := { dst := some 27, op := Go.Op.binOp Go.BinOp.eql 4 (Go.Operand.tmp 23) (Go.Operand.tmp 26) 4, type := 4, pos := "law.go:56", after := #[{ on := 16, ground := Go.Ground.data }, { on := 19, ground := Go.Ground.data }, { on := 8, ground := Go.Ground.guard }], guard := some (8, false) }) (v := ?_) rfl (by kernel_rfl) (by kernel_rfl) (by kernel_rfl) (fun _ _ _ h => h) (Or.inl ⟨by rfl, ?_⟩) (by assumption) ?_
  (rotate_left; focus (intro wS hSw; obtain ⟨hzS, ⟨sa0, sa1, sa2⟩, ⟨sb0, sb1, sb2⟩, ⟨sc0, sc1, sc2⟩⟩ := hSw; go_simp; try with_reducible rfl))
  (try simp only [Act.put, List.setIfInBounds_toArray, List.set_cons_zero, List.set_cons_succ])
  refine wpAnyH_take (i := 21) (oi := { dst := some 28, op := Go.Op.pick (Go.Operand.tmp 15) (Go.Operand.const (Go.Value.bool true)) (Go.Operand.tmp 27), type := 4, pos := "law.go:56", after := #[{ on := 8, ground := Go.Ground.data }, { on := 20, ground := Go.Ground.data }], guard := none }) (v := ?_) rfl (by kernel_rfl) (by kernel_rfl) (by kernel_rfl) (fun _ _ _ h => h) (Or.inl ⟨by rfl, ?_⟩) (by assumption) ?_
  (rotate_left; focus (intro wS hSw; obtain ⟨hzS, ⟨sa0, sa1, sa2⟩, ⟨sb0, sb1, sb2⟩, ⟨sc0, sc1, sc2⟩⟩ := hSw; go_simp; try with_reducible rfl))
  (try simp only [Act.put, List.setIfInBounds_toArray, List.set_cons_zero, List.set_cons_succ])
  refine wpAnyH_done (by kernel_rfl) ?_ _
  clear he1
  have HI := Lib.hid hI3
  obtain ⟨hzS, ⟨sa0, sa1, sa2⟩, ⟨sb0, sb1, sb2⟩, ⟨sc0, sc1, sc2⟩⟩ := hI3
  go_wp2_with fail
  refine (less_any a b _).mono ?_
  rintro e u1 ⟨rfl, hbu1⟩
  rw [H1.out]
  have kB := below_step hB3 (Nat.le_refl _) hbu1
  go_wp2_with fail
  refine (awake_any _).mono ?_
  rintro e u9 ⟨rfl, hbu9⟩
  go_wp2_with fail
  go_ret
  exact ⟨rfl, below_step kB (Nat.le_refl _) hbu9⟩
set_option maxRecDepth 100000 in
set_option maxHeartbeats 4000000 in
theorem order_ff (a b c : St) (w : World) (h1 : lessB a b = false) (h2 : lessB b a = false) (h3 : (a.t = b.t ∧ a.c = b.c ∧ a.r = b.r)) : Calls Try.prog 5 #[ag a, ag b, ag c] w fun e w' => e = .returned (.bool true) ∧ Below w.heap.size w w' := by
  have he1 := eqS_true h3
  have H3 := Lib.hid h3
  clear h3
  have hI0 := (In3.new w a b c).drew
  have hB0 : Below w.heap.size w (((w.alloc (.cells #[.int .i64 a.t, .int .i64 a.c, .int .i64 a.r] 23)).alloc (.cells #[.int .i64 b.t, .int .i64 b.c, .int .i64 b.r] 23)).alloc (.cells #[.int .i64 c.t, .int .i64 c.c, .int .i64 c.r] 23)).drew := by
    (repeat (first | exact Below.refl _ _ | (with_reducible assumption) | refine Below.setCell ?_ (by simp <;> omega) _ | refine Below.alloc ?_ (by simp <;> omega) _ | refine Below.drew ?_ | refine below_drewN ?_ _))
  have H1 := Lib.hid h1
  have H2 := Lib.hid h2
  clear h1 h2
  go_enter Try.func5, Try.ntmps5
  go_wp2_with fail
  refine wp_region_held_drew (S := In3 w a b c) (by kernel_rfl) (by (first | exact hI0 | exact hI1 | exact hI2 | exact hI3)) (fun hHeld => ?_)
  refine wpAnyH_take (i := 0) (oi := { dst := some 7, op := Go.Op.load 23 (Go.Operand.tmp 3), type := 23, pos := "law.go:56", after := #[], guard := none }) (v := ?_) rfl (by kernel_rfl) (by kernel_rfl) (by kernel_rfl) (fun _ _ _ h => h) (Or.inl ⟨by rfl, ?_⟩) (by assumption) ?_
  (rotate_left; focus (intro wS hSw; obtain ⟨hzS, ⟨sa0, sa1, sa2⟩, ⟨sb0, sb1, sb2⟩, ⟨sc0, sc1, sc2⟩⟩ := hSw; go_simp; try with_reducible rfl))
  (try simp only [Act.put, List.setIfInBounds_toArray, List.set_cons_zero, List.set_cons_succ])
  refine wpAnyH_take (i := 1) (oi := { dst := some 8, op := Go.Op.load 23 (Go.Operand.tmp 4), type := 23, pos := "law.go:56", after := #[], guard := none }) (v := ?_) rfl (by kernel_rfl) (by kernel_rfl) (by kernel_rfl) (fun _ _ _ h => h) (Or.inl ⟨by rfl, ?_⟩) (by assumption) ?_
  (rotate_left; focus (intro wS hSw; obtain ⟨hzS, ⟨sa0, sa1, sa2⟩, ⟨sb0, sb1, sb2⟩, ⟨sc0, sc1, sc2⟩⟩ := hSw; go_simp; try with_reducible rfl))
  (try simp only [Act.put, List.setIfInBounds_toArray, List.set_cons_zero, List.set_cons_succ])
  refine wpAnyH_ready (rs := [2]) (by kernel_rfl) (by simp) ?_
  refine AllReadyH.cons (o := { dst := some 9, op := Go.Op.call { callee := Go.Callee.value (Go.Operand.func 12), args := #[Go.Operand.tmp 7, Go.Operand.tmp 8], argTypes := #[23, 23] }, type := 4, pos := "law.go:56", after := #[{ on := 0, ground := Go.Ground.data }, { on := 1, ground := Go.Ground.data }], guard := none }) rfl (fun K hK => ?_) AllReadyH.nil
  go_simp
  refine (less_any a b _).mono ?_
  rintro e v1 ⟨rfl, hbv1⟩
  rw [H1.out]
  have hB1 := below_step hB0 (Nat.le_refl _) hbv1
  have hI1 := (hI0).keep hbv1
  (try go_wp2_with fail)
  refine hK.out _ _ (by (first | exact hI0 | exact hI1 | exact hI2 | exact hI3)) (fun hHeld => ?_)
  clear hK K
  (try simp only [Act.put, List.setIfInBounds_toArray, List.set_cons_zero, List.set_cons_succ])
  refine wpAnyH_take (i := 3) (oi := { dst := some 10, op := Go.Op.move (Go.Operand.tmp 9), type := 4, pos := "law.go:56", after := #[{ on := 2, ground := Go.Ground.data }, { on := 2, ground := Go.Ground.chain }], guard := none }) (v := ?_) rfl (by kernel_rfl) (by kernel_rfl) (by kernel_rfl) (fun _ _ _ h => h) (Or.inl ⟨by rfl, ?_⟩) (by assumption) ?_
  (rotate_left; focus (intro wS hSw; obtain ⟨hzS, ⟨sa0, sa1, sa2⟩, ⟨sb0, sb1, sb2⟩, ⟨sc0, sc1, sc2⟩⟩ := hSw; go_simp; try with_reducible rfl))
  (try simp only [Act.put, List.setIfInBounds_toArray, List.set_cons_zero, List.set_cons_succ])
  refine wpAnyH_take (i := 4) (oi := { dst := some 11, op := Go.Op.load 23 (Go.Operand.tmp 4), type := 23, pos := "law.go:56", after := #[{ on := 3, ground := Go.Ground.guard }], guard := some (3, true) }) (v := undef) rfl (by kernel_rfl) (by kernel_rfl) (by kernel_rfl) (fun _ _ _ h => h) (Or.inr ⟨by rfl, rfl⟩) (by assumption) ?_
  (try simp only [Act.put, List.setIfInBounds_toArray, List.set_cons_zero, List.set_cons_succ])
  refine wpAnyH_take (i := 5) (oi := { dst := some 12, op := Go.Op.load 23 (Go.Operand.tmp 3), type := 23, pos := "law.go:56", after := #[{ on := 3, ground := Go.Ground.guard }], guard := some (3, true) }) (v := undef) rfl (by kernel_rfl) (by kernel_rfl) (by kernel_rfl) (fun _ _ _ h => h) (Or.inr ⟨by rfl, rfl⟩) (by assumption) ?_
  (try simp only [Act.put, List.setIfInBounds_toArray, List.set_cons_zero, List.set_cons_succ])
  refine wpAnyH_ready (rs := [6]) (by kernel_rfl) (by simp) ?_
  refine AllReadyH.cons (o := { dst := some 13, op := Go.Op.call { callee := Go.Callee.value (Go.Operand.func 12), args := #[Go.Operand.tmp 11, Go.Operand.tmp 12], argTypes := #[23, 23] }, type := 4, pos := "law.go:56", after := #[{ on := 4, ground := Go.Ground.data }, { on := 5, ground := Go.Ground.data }, { on := 3, ground := Go.Ground.chain }, { on := 3, ground := Go.Ground.guard }], guard := some (3, true) }) rfl (fun K hK => ?_) AllReadyH.nil
  go_simp
  refine hK.out _ _ (by (first | exact hI0 | exact hI1 | exact hI2 | exact hI3)) (fun hHeld => ?_)
  clear hK K
  (try simp only [Act.put, List.setIfInBounds_toArray, List.set_cons_zero, List.set_cons_succ])
  refine wpAnyH_take (i := 7) (oi := { dst := some 14, op := Go.Op.pick (Go.Operand.tmp 10) (Go.Operand.tmp 13) (Go.Operand.const (Go.Value.bool false)), type := 4, pos := "law.go:56", after := #[{ on := 3, ground := Go.Ground.data }, { on := 6, ground := Go.Ground.data }], guard := none }) (v := ?_) rfl (by kernel_rfl) (by kernel_rfl) (by kernel_rfl) (fun _ _ _ h => h) (Or.inl ⟨by rfl, ?_⟩) (by assumption) ?_
  (rotate_left; focus (intro wS hSw; obtain ⟨hzS, ⟨sa0, sa1, sa2⟩, ⟨sb0, sb1, sb2⟩, ⟨sc0, sc1, sc2⟩⟩ := hSw; go_simp; try with_reducible rfl))
  (try simp only [Act.put, List.setIfInBounds_toArray, List.set_cons_zero, List.set_cons_succ])
  refine wpAnyH_take (i := 8) (oi := { dst := some 15, op := Go.Op.move (Go.Operand.tmp 14), type := 4, pos := "law.go:56", after := #[{ on := 7, ground := Go.Ground.data }, { on := 6, ground := Go.Ground.chain }], guard := none }) (v := ?_) rfl (by kernel_rfl) (by kernel_rfl) (by kernel_rfl) (fun _ _ _ h => h) (Or.inl ⟨by rfl, ?_⟩) (by assumption) ?_
  (rotate_left; focus (intro wS hSw; obtain ⟨hzS, ⟨sa0, sa1, sa2⟩, ⟨sb0, sb1, sb2⟩, ⟨sc0, sc1, sc2⟩⟩ := hSw; go_simp; try with_reducible rfl))
  (try simp only [Act.put, List.setIfInBounds_toArray, List.set_cons_zero, List.set_cons_succ])
  refine wpAnyH_take (i := 9) (oi := { dst := some 16, op := Go.Op.load 23 (Go.Operand.tmp 3), type := 23, pos := "law.go:56", after := #[{ on := 8, ground := Go.Ground.guard }], guard := some (8, false) }) (v := ?_) rfl (by kernel_rfl) (by kernel_rfl) (by kernel_rfl) (fun _ _ _ h => h) (Or.inl ⟨by rfl, ?_⟩) (by assumption) ?_
  (rotate_left; focus (intro wS hSw; obtain ⟨hzS, ⟨sa0, sa1, sa2⟩, ⟨sb0, sb1, sb2⟩, ⟨sc0, sc1, sc2⟩⟩ := hSw; go_simp; try with_reducible rfl))
  (try simp only [Act.put, List.setIfInBounds_toArray, List.set_cons_zero, List.set_cons_succ])
  refine wpAnyH_take (i := 10) (oi := { dst := some 17, op := Go.Op.load 23 (Go.Operand.tmp 4), type := 23, pos := "law.go:56", after := #[{ on := 8, ground := Go.Ground.guard }], guard := some (8, false) }) (v := ?_) rfl (by kernel_rfl) (by kernel_rfl) (by kernel_rfl) (fun _ _ _ h => h) (Or.inl ⟨by rfl, ?_⟩) (by assumption) ?_
  (rotate_left; focus (intro wS hSw; obtain ⟨hzS, ⟨sa0, sa1, sa2⟩, ⟨sb0, sb1, sb2⟩, ⟨sc0, sc1, sc2⟩⟩ := hSw; go_simp; try with_reducible rfl))
  (try simp only [Act.put, List.setIfInBounds_toArray, List.set_cons_zero, List.set_cons_succ])
  refine wpAnyH_take (i := 17) (oi := { dst := some 24, op := Go.Op.load 23 (Go.Operand.tmp 3), type := 23, pos := "law.go:56", after := #[{ on := 8, ground := Go.Ground.guard }], guard := some (8, false) }) (v := ?_) rfl (by kernel_rfl) (by kernel_rfl) (by kernel_rfl) (fun _ _ _ h => h) (Or.inl ⟨by rfl, ?_⟩) (by assumption) ?_
  (rotate_left; focus (intro wS hSw; obtain ⟨hzS, ⟨sa0, sa1, sa2⟩, ⟨sb0, sb1, sb2⟩, ⟨sc0, sc1, sc2⟩⟩ := hSw; go_simp; try with_reducible rfl))
  (try simp only [Act.put, List.setIfInBounds_toArray, List.set_cons_zero, List.set_cons_succ])
  refine wpAnyH_take (i := 18) (oi := { dst := some 25, op := Go.Op.load 23 (Go.Operand.tmp 4), type := 23, pos := "law.go:56", after := #[{ on := 8, ground := Go.Ground.guard }], guard := some (8, false) }) (v := ?_) rfl (by kernel_rfl) (by kernel_rfl) (by kernel_rfl) (fun _ _ _ h => h) (Or.inl ⟨by rfl, ?_⟩) (by assumption) ?_
  (rotate_left; focus (intro wS hSw; obtain ⟨hzS, ⟨sa0, sa1, sa2⟩, ⟨sb0, sb1, sb2⟩, ⟨sc0, sc1, sc2⟩⟩ := hSw; go_simp; try with_reducible rfl))
  (try simp only [Act.put, List.setIfInBounds_toArray, List.set_cons_zero, List.set_cons_succ])
  refine wpAnyH_take (i := 19) (oi := { dst := some 26, op := Go.Op.binOp Go.BinOp.eql 23 (Go.Operand.tmp 24) (Go.Operand.tmp 25) 23, type := 4, pos := "law.go:56", after := #[{ on := 17, ground := Go.Ground.data }, { on := 18, ground := Go.Ground.data }, { on := 8, ground := Go.Ground.guard }], guard := some (8, false) }) (v := ?_) rfl (by kernel_rfl) (by kernel_rfl) (by kernel_rfl) (fun _ _ _ h => h) (Or.inl ⟨by rfl, ?_⟩) (by assumption) ?_
  (rotate_left; focus (intro wS hSw; obtain ⟨hzS, ⟨sa0, sa1, sa2⟩, ⟨sb0, sb1, sb2⟩, ⟨sc0, sc1, sc2⟩⟩ := hSw; go_simp; try with_reducible rfl))
  (try simp only [Act.put, List.setIfInBounds_toArray, List.set_cons_zero, List.set_cons_succ])
  refine wpAnyH_ready (rs := [11]) (by kernel_rfl) (by simp) ?_
  refine AllReadyH.cons (o := { dst := some 18, op := Go.Op.call { callee := Go.Callee.value (Go.Operand.func 12), args := #[Go.Operand.tmp 16, Go.Operand.tmp 17], argTypes := #[23, 23] }, type := 4, pos := "law.go:56", after := #[{ on := 9, ground := Go.Ground.data }, { on := 10, ground := Go.Ground.data }, { on := 8, ground := Go.Ground.chain }, { on := 8, ground := Go.Ground.guard }], guard := some (8, false) }) rfl (fun K hK => ?_) AllReadyH.nil
  go_simp
  refine (less_any a b _).mono ?_
  rintro e v2 ⟨rfl, hbv2⟩
  rw [H1.out]
  have hB2 := below_step hB1 (Nat.le_refl _) hbv2
  have hI2 := (hI1).keep hbv2
  (try go_wp2_with fail)
  refine hK.out _ _ (by (first | exact hI0 | exact hI1 | exact hI2 | exact hI3)) (fun hHeld => ?_)
  clear hK K
  (try simp only [Act.put, List.setIfInBounds_toArray, List.set_cons_zero, List.set_cons_succ])
  refine wpAnyH_take (i := 12) (oi := { dst := some 19, op := Go.Op.move (Go.Operand.tmp 18), type := 4, pos := "law.go:56", after := #[{ on := 11, ground := Go.Ground.data }, { on := 11, ground := Go.Ground.chain }, { on := 8, ground := Go.Ground.guard }], guard := some (8, false) }) (v := ?_) rfl (by kernel_rfl) (by kernel_rfl) (by kernel_rfl) (fun _ _ _ h => h) (Or.inl ⟨by rfl, ?_⟩) (by assumption) ?_
  (rotate_left; focus (intro wS hSw; obtain ⟨hzS, ⟨sa0, sa1, sa2⟩, ⟨sb0, sb1, sb2⟩, ⟨sc0, sc1, sc2⟩⟩ := hSw; go_simp; try with_reducible rfl))
  (try simp only [Act.put, List.setIfInBounds_toArray, List.set_cons_zero, List.set_cons_succ])
  refine wpAnyH_take (i := 13) (oi := { dst := some 20, op := Go.Op.load 23 (Go.Operand.tmp 4), type := 23, pos := "law.go:56", after := #[{ on := 12, ground := Go.Ground.guard }], guard := some (12, false) }) (v := ?_) rfl (by kernel_rfl) (by kernel_rfl) (by kernel_rfl) (fun _ _ _ h => h) (Or.inl ⟨by rfl, ?_⟩) (by assumption) ?_
  (rotate_left; focus (intro wS hSw; obtain ⟨hzS, ⟨sa0, sa1, sa2⟩, ⟨sb0, sb1, sb2⟩, ⟨sc0, sc1, sc2⟩⟩ := hSw; go_simp; try with_reducible rfl))
  (try simp only [Act.put, List.setIfInBounds_toArray, List.set_cons_zero, List.set_cons_succ])
  refine wpAnyH_take (i := 14) (oi := { dst := some 21, op := Go.Op.load 23 (Go.Operand.tmp 3), type := 23, pos := "law.go:56", after := #[{ on := 12, ground := Go.Ground.guard }], guard := some (12, false) }) (v := ?_) rfl (by kernel_rfl) (by kernel_rfl) (by kernel_rfl) (fun _ _ _ h => h) (Or.inl ⟨by rfl, ?_⟩) (by assumption) ?_
  (rotate_left; focus (intro wS hSw; obtain ⟨hzS, ⟨sa0, sa1, sa2⟩, ⟨sb0, sb1, sb2⟩, ⟨sc0, sc1, sc2⟩⟩ := hSw; go_simp; try with_reducible rfl))
  (try simp only [Act.put, List.setIfInBounds_toArray, List.set_cons_zero, List.set_cons_succ])
  refine wpAnyH_ready (rs := [15]) (by kernel_rfl) (by simp) ?_
  refine AllReadyH.cons (o := { dst := some 22, op := Go.Op.call { callee := Go.Callee.value (Go.Operand.func 12), args := #[Go.Operand.tmp 20, Go.Operand.tmp 21], argTypes := #[23, 23] }, type := 4, pos := "law.go:56", after := #[{ on := 13, ground := Go.Ground.data }, { on := 14, ground := Go.Ground.data }, { on := 12, ground := Go.Ground.chain }, { on := 12, ground := Go.Ground.guard }], guard := some (12, false) }) rfl (fun K hK => ?_) AllReadyH.nil
  go_simp
  refine (less_any b a _).mono ?_
  rintro e v3 ⟨rfl, hbv3⟩
  rw [H2.out]
  have hB3 := below_step hB2 (Nat.le_refl _) hbv3
  have hI3 := (hI2).keep hbv3
  (try go_wp2_with fail)
  refine hK.out _ _ (by (first | exact hI0 | exact hI1 | exact hI2 | exact hI3)) (fun hHeld => ?_)
  clear hK K
  (try simp only [Act.put, List.setIfInBounds_toArray, List.set_cons_zero, List.set_cons_succ])
  refine wpAnyH_take (i := 16) (oi := { dst := some 23, op := Go.Op.pick (Go.Operand.tmp 19) (Go.Operand.const (Go.Value.bool true)) (Go.Operand.tmp 22), type := 4, pos := "law.go:56", after := #[{ on := 12, ground := Go.Ground.data }, { on := 15, ground := Go.Ground.data }, { on := 8, ground := Go.Ground.guard }], guard := some (8, false) }) (v := ?_) rfl (by kernel_rfl) (by kernel_rfl) (by kernel_rfl) (fun _ _ _ h => h) (Or.inl ⟨by rfl, ?_⟩) (by assumption) ?_
  (rotate_left; focus (intro wS hSw; obtain ⟨hzS, ⟨sa0, sa1, sa2⟩, ⟨sb0, sb1, sb2⟩, ⟨sc0, sc1, sc2⟩⟩ := hSw; go_simp; try with_reducible rfl))
  (try simp only [Act.put, List.setIfInBounds_toArray, List.set_cons_zero, List.set_cons_succ])
  refine wpAnyH_take (i := 20) (oi := { dst := some 27, op := Go.Op.binOp Go.BinOp.eql 4 (Go.Operand.tmp 23) (Go.Operand.tmp 26) 4, type := 4, pos := "law.go:56", after := #[{ on := 16, ground := Go.Ground.data }, { on := 19, ground := Go.Ground.data }, { on := 8, ground := Go.Ground.guard }], guard := some (8, false) }) (v := ?_) rfl (by kernel_rfl) (by kernel_rfl) (by kernel_rfl) (fun _ _ _ h => h) (Or.inl ⟨by rfl, ?_⟩) (by assumption) ?_
  (rotate_left; focus (intro wS hSw; obtain ⟨hzS, ⟨sa0, sa1, sa2⟩, ⟨sb0, sb1, sb2⟩, ⟨sc0, sc1, sc2⟩⟩ := hSw; go_simp; try with_reducible rfl))
  (try simp only [Act.put, List.setIfInBounds_toArray, List.set_cons_zero, List.set_cons_succ])
  refine wpAnyH_take (i := 21) (oi := { dst := some 28, op := Go.Op.pick (Go.Operand.tmp 15) (Go.Operand.const (Go.Value.bool true)) (Go.Operand.tmp 27), type := 4, pos := "law.go:56", after := #[{ on := 8, ground := Go.Ground.data }, { on := 20, ground := Go.Ground.data }], guard := none }) (v := ?_) rfl (by kernel_rfl) (by kernel_rfl) (by kernel_rfl) (fun _ _ _ h => h) (Or.inl ⟨by rfl, ?_⟩) (by assumption) ?_
  (rotate_left; focus (intro wS hSw; obtain ⟨hzS, ⟨sa0, sa1, sa2⟩, ⟨sb0, sb1, sb2⟩, ⟨sc0, sc1, sc2⟩⟩ := hSw; go_simp; try with_reducible rfl))
  (try simp only [Act.put, List.setIfInBounds_toArray, List.set_cons_zero, List.set_cons_succ])
  refine wpAnyH_done (by kernel_rfl) ?_ _
  clear he1
  have HI := Lib.hid hI3
  obtain ⟨hzS, ⟨sa0, sa1, sa2⟩, ⟨sb0, sb1, sb2⟩, ⟨sc0, sc1, sc2⟩⟩ := hI3
  go_wp2_with fail
  refine (less_any a b _).mono ?_
  rintro e u1 ⟨rfl, hbu1⟩
  rw [H1.out]
  have kB := below_step hB3 (Nat.le_refl _) hbu1
  go_wp2_with fail
  refine (awake_any _).mono ?_
  rintro e u9 ⟨rfl, hbu9⟩
  go_wp2_with fail
  go_ret
  exact ⟨rfl, below_step kB (Nat.le_refl _) hbu9⟩
theorem order_walk (a b c : St) (w : World) : Calls Try.prog 5 #[ag a, ag b, ag c] w fun e w' => e = .returned (.bool true) ∧ Below w.heap.size w w' := by
  cases h1 : lessB a b with
  | true =>
    have k1 := less_iff.1 h1
    have h2 : lessB b a = false := less_false.2 (by omega)
    refine order_tf a b c w h1 h2 (by omega) (fun h5 => less_iff.2 ?_)
    have k5 := less_iff.1 h5
    omega
  | false =>
    have k1 := less_false.1 h1
    cases h2 : lessB b a with
    | true =>
      have k2 := less_iff.1 h2
      exact order_ft a b c w h1 h2 (by omega)
    | false =>
      have k2 := less_false.1 h2
      exact order_ff a b c w h1 h2 (by omega)
end Go.Proofs.Yteijamnihfhndaa

