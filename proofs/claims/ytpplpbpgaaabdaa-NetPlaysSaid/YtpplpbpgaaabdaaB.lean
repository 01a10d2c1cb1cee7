/-
  The contracts of net.behind and Put.
-/
import Derived.Test.YtpplpbpgaaabdaaA
import Derived.Maps.AppendAt
set_option linter.unusedVariables false
set_option linter.unusedSimpArgs false
namespace Go.Proofs.Ytpplpbpgaaabdaa
open Go.RowKit
theorem behind_full {p B q : Nat} {v : Value} {ms : List Msg} {room : Int} (w : World) (h : Ns w p B v ms room) (hr : 1 ≤ room ∧ room ≤ 4096) (hm : ms.length ≤ 4096) (hf : room ≤ ms.length) :
    Calls Try.prog 13 #[.pointer (some ⟨p, 0, none⟩), .slice (some ⟨q, 0, none⟩) 1 1] w fun e w' => e = .returned (.bool false) ∧ w' = w.drew := by
  have w1 : IntKind.i64.wrap (room - (ms.length : Int)) = room - (ms.length : Int) := by rw [IntKind.wrap_i64]; omega
  have d1 : decide (room - (ms.length : Int) < 1) = true := decide_eq_true (by omega)
  obtain ⟨a, cap, rfl⟩ := own_shape h.2.1
  go_enter Try.func13, Try.ntmps13
  go_wp2_with fail
  have hP0 := h.1.drew
  refine wp_region_held_drew (S := fun w' => Bk p [.slice a ms.length cap, .int .i64 room] w') (by kernel_rfl) (by (exact hP0)) (fun hHeld => ?_)
  refine wpAnyH_take (i := 0) (oi := { dst := some 5, op := Go.Op.move (Go.Operand.tmp 0), type := 24, pos := "net.go:32", after := #[], guard := none }) (v := ?_) rfl (by kernel_rfl) (by kernel_rfl) (by kernel_rfl) (fun _ _ _ h => h) (Or.inl ⟨by rfl, ?_⟩) (by assumption) ?_
  (rotate_left; focus (intro wS hSw; have s0 := (hSw.2 0 _ rfl).1; have s1 := (hSw.2 1 _ rfl).1; clear hSw; go_simp; (try rw [if_neg (by omega)]); try with_reducible rfl))
  (try simp only [Act.put, List.setIfInBounds_toArray, List.set_cons_zero, List.set_cons_succ])
  refine wpAnyH_take (i := 1) (oi := { dst := some 6, op := Go.Op.binOp Go.BinOp.eql 24 (Go.Operand.tmp 5) (Go.Operand.const (Go.Value.pointer none)) 24, type := 4, pos := "net.go:32", after := #[{ on := 0, ground := Go.Ground.data }], guard := none }) (v := ?_) rfl (by kernel_rfl) (by kernel_rfl) (by kernel_rfl) (fun _ _ _ h => h) (Or.inl ⟨by rfl, ?_⟩) (by assumption) ?_
  (rotate_left; focus (intro wS hSw; have s0 := (hSw.2 0 _ rfl).1; have s1 := (hSw.2 1 _ rfl).1; clear hSw; go_simp; (try rw [if_neg (by omega)]); try with_reducible rfl))
  (try simp only [Act.put, List.setIfInBounds_toArray, List.set_cons_zero, List.set_cons_succ])
  refine wpAnyH_take (i := 2) (oi := { dst := some 7, op := Go.Op.move (Go.Operand.tmp 6), type := 4, pos := "net.go:32", after := #[{ on := 1, ground := Go.Ground.data }], guard := none }) (v := ?_) rfl (by kernel_rfl) (by kernel_rfl) (by kernel_rfl) (fun _ _ _ h => h) (Or.inl ⟨by rfl, ?_⟩) (by assumption) ?_
  (rotate_left; focus (intro wS hSw; have s0 := (hSw.2 0 _ rfl).1; have s1 := (hSw.2 1 _ rfl).1; clear hSw; go_simp; (try rw [if_neg (by omega)]); try with_reducible rfl))
  (try simp only [Act.put, List.setIfInBounds_toArray, List.set_cons_zero, List.set_cons_succ])
  refine wpAnyH_take (i := 3) (oi := { dst := some 8, op := Go.Op.move (Go.Operand.tmp 1), type := 41, pos := "net.go:32", after := #[{ on := 2, ground := Go.Ground.guard }], guard := some (2, false) }) (v := ?_) rfl (by kernel_rfl) (by kernel_rfl) (by kernel_rfl) (fun _ _ _ h => h) (Or.inl ⟨by rfl, ?_⟩) (by assumption) ?_
  (rotate_left; focus (intro wS hSw; have s0 := (hSw.2 0 _ rfl).1; have s1 := (hSw.2 1 _ rfl).1; clear hSw; go_simp; (try rw [if_neg (by omega)]); try with_reducible rfl))
  (try simp only [Act.put, List.setIfInBounds_toArray, List.set_cons_zero, List.set_cons_succ])
  refine wpAnyH_take (i := 4) (oi := { dst := some 9, op := Go.Op.call { callee := Go.Callee.builtin Go.Builtin.len, args := #[Go.Operand.tmp 8], argTypes := #[41] }, type := 3, pos := "net.go:32", after := #[{ on := 3, ground := Go.Ground.data }, { on := 2, ground := Go.Ground.guard }], guard := some (2, false) }) (v := ?_) rfl (by kernel_rfl) (by kernel_rfl) (by kernel_rfl) (fun _ _ _ h => h) (Or.inl ⟨by rfl, ?_⟩) (by assumption) ?_
  (rotate_left; focus (intro wS hSw; have s0 := (hSw.2 0 _ rfl).1; have s1 := (hSw.2 1 _ rfl).1; clear hSw; go_simp; (try rw [if_neg (by omega)]); try with_reducible rfl))
  (try simp only [Act.put, List.setIfInBounds_toArray, List.set_cons_zero, List.set_cons_succ])
  refine wpAnyH_take (i := 5) (oi := { dst := some 10, op := Go.Op.move (Go.Operand.tmp 0), type := 24, pos := "net.go:32", after := #[{ on := 2, ground := Go.Ground.guard }], guard := some (2, false) }) (v := ?_) rfl (by kernel_rfl) (by kernel_rfl) (by kernel_rfl) (fun _ _ _ h => h) (Or.inl ⟨by rfl, ?_⟩) (by assumption) ?_
  (rotate_left; focus (intro wS hSw; have s0 := (hSw.2 0 _ rfl).1; have s1 := (hSw.2 1 _ rfl).1; clear hSw; go_simp; (try rw [if_neg (by omega)]); try with_reducible rfl))
  (try simp only [Act.put, List.setIfInBounds_toArray, List.set_cons_zero, List.set_cons_succ])
  refine wpAnyH_take (i := 6) (oi := { dst := some 11, op := Go.Op.nilCheck (Go.Operand.tmp 10), type := 0, pos := "net.go:32", after := #[{ on := 5, ground := Go.Ground.data }, { on := 2, ground := Go.Ground.guard }], guard := some (2, false) }) (v := ?_) rfl (by kernel_rfl) (by kernel_rfl) (by kernel_rfl) (fun _ _ _ h => h) (Or.inl ⟨by rfl, ?_⟩) (by assumption) ?_
  (rotate_left; focus (intro wS hSw; have s0 := (hSw.2 0 _ rfl).1; have s1 := (hSw.2 1 _ rfl).1; clear hSw; go_simp; (try rw [if_neg (by omega)]); try with_reducible rfl))
  (try simp only [Act.put, List.setIfInBounds_toArray, List.set_cons_zero, List.set_cons_succ])
  refine wpAnyH_take (i := 7) (oi := { dst := some 12, op := Go.Op.fieldAddr 43 (Go.Operand.tmp 11) 1, type := 0, pos := "net.go:32", after := #[{ on := 6, ground := Go.Ground.data }, { on := 2, ground := Go.Ground.guard }], guard := some (2, false) }) (v := ?_) rfl (by kernel_rfl) (by kernel_rfl) (by kernel_rfl) (fun _ _ _ h => h) (Or.inl ⟨by rfl, ?_⟩) (by assumption) ?_
  (rotate_left; focus (intro wS hSw; have s0 := (hSw.2 0 _ rfl).1; have s1 := (hSw.2 1 _ rfl).1; clear hSw; go_simp; (try rw [if_neg (by omega)]); try with_reducible rfl))
  (try simp only [Act.put, List.setIfInBounds_toArray, List.set_cons_zero, List.set_cons_succ])
  refine wpAnyH_take (i := 8) (oi := { dst := some 13, op := Go.Op.load 3 (Go.Operand.tmp 12), type := 3, pos := "net.go:32", after := #[{ on := 7, ground := Go.Ground.data }, { on := 2, ground := Go.Ground.guard }], guard := some (2, false) }) (v := ?_) rfl (by kernel_rfl) (by kernel_rfl) (by kernel_rfl) (fun _ _ _ h => h) (Or.inl ⟨by rfl, ?_⟩) (by assumption) ?_
  (rotate_left; focus (intro wS hSw; have s0 := (hSw.2 0 _ rfl).1; have s1 := (hSw.2 1 _ rfl).1; clear hSw; go_simp; (try rw [if_neg (by omega)]); try with_reducible rfl))
  (try simp only [Act.put, List.setIfInBounds_toArray, List.set_cons_zero, List.set_cons_succ])
  refine wpAnyH_take (i := 9) (oi := { dst := some 14, op := Go.Op.move (Go.Operand.tmp 0), type := 24, pos := "net.go:32", after := #[{ on := 2, ground := Go.Ground.guard }], guard := some (2, false) }) (v := ?_) rfl (by kernel_rfl) (by kernel_rfl) (by kernel_rfl) (fun _ _ _ h => h) (Or.inl ⟨by rfl, ?_⟩) (by assumption) ?_
  (rotate_left; focus (intro wS hSw; have s0 := (hSw.2 0 _ rfl).1; have s1 := (hSw.2 1 _ rfl).1; clear hSw; go_simp; (try rw [if_neg (by omega)]); try with_reducible rfl))
  (try simp only [Act.put, List.setIfInBounds_toArray, List.set_cons_zero, List.set_cons_succ])
  refine wpAnyH_take (i := 10) (oi := { dst := some 15, op := Go.Op.nilCheck (Go.Operand.tmp 14), type := 0, pos := "net.go:32", after := #[{ on := 9, ground := Go.Ground.data }, { on := 2, ground := Go.Ground.guard }], guard := some (2, false) }) (v := ?_) rfl (by kernel_rfl) (by kernel_rfl) (by kernel_rfl) (fun _ _ _ h => h) (Or.inl ⟨by rfl, ?_⟩) (by assumption) ?_
  (rotate_left; focus (intro wS hSw; have s0 := (hSw.2 0 _ rfl).1; have s1 := (hSw.2 1 _ rfl).1; clear hSw; go_simp; (try rw [if_neg (by omega)]); try with_reducible rfl))
  (try simp only [Act.put, List.setIfInBounds_toArray, List.set_cons_zero, List.set_cons_succ])
  refine wpAnyH_take (i := 11) (oi := { dst := some 16, op := Go.Op.fieldAddr 43 (Go.Operand.tmp 15) 0, type := 0, pos := "net.go:32", after := #[{ on := 10, ground := Go.Ground.data }, { on := 2, ground := Go.Ground.guard }], guard := some (2, false) }) (v := ?_) rfl (by kernel_rfl) (by kernel_rfl) (by kernel_rfl) (fun _ _ _ h => h) (Or.inl ⟨by rfl, ?_⟩) (by assumption) ?_
  (rotate_left; focus (intro wS hSw; have s0 := (hSw.2 0 _ rfl).1; have s1 := (hSw.2 1 _ rfl).1; clear hSw; go_simp; (try rw [if_neg (by omega)]); try with_reducible rfl))
  (try simp only [Act.put, List.setIfInBounds_toArray, List.set_cons_zero, List.set_cons_succ])
  refine wpAnyH_take (i := 12) (oi := { dst := some 17, op := Go.Op.load 41 (Go.Operand.tmp 16), type := 41, pos := "net.go:32", after := #[{ on := 11, ground := Go.Ground.data }, { on := 2, ground := Go.Ground.guard }], guard := some (2, false) }) (v := ?_) rfl (by kernel_rfl) (by kernel_rfl) (by kernel_rfl) (fun _ _ _ h => h) (Or.inl ⟨by rfl, ?_⟩) (by assumption) ?_
  (rotate_left; focus (intro wS hSw; have s0 := (hSw.2 0 _ rfl).1; have s1 := (hSw.2 1 _ rfl).1; clear hSw; go_simp; (try rw [if_neg (by omega)]); try with_reducible rfl))
  (try simp only [Act.put, List.setIfInBounds_toArray, List.set_cons_zero, List.set_cons_succ])
  refine wpAnyH_take (i := 13) (oi := { dst := some 18, op := Go.Op.call { callee := Go.Callee.builtin Go.Builtin.len, args := #[Go.Operand.tmp 17], argTypes := #[41] }, type := 3, pos := "net.go:32", after := #[{ on := 12, ground := Go.Ground.data }, { on := 2, ground := Go.Ground.guard }], guard := some (2, false) }) (v := ?_) rfl (by kernel_rfl) (by kernel_rfl) (by kernel_rfl) (fun _ _ _ h => h) (Or.inl ⟨by rfl, ?_⟩) (by assumption) ?_
  (rotate_left; focus (intro wS hSw; have s0 := (hSw.2 0 _ rfl).1; have s1 := (hSw.2 1 _ rfl).1; clear hSw; go_simp; (try rw [if_neg (by omega)]); try with_reducible rfl))
  (try simp only [Act.put, List.setIfInBounds_toArray, List.set_cons_zero, List.set_cons_succ])
  refine wpAnyH_take (i := 14) (oi := { dst := some 19, op := Go.Op.binOp Go.BinOp.sub 3 (Go.Operand.tmp 13) (Go.Operand.tmp 18) 3, type := 3, pos := "net.go:32", after := #[{ on := 8, ground := Go.Ground.data }, { on := 13, ground := Go.Ground.data }, { on := 2, ground := Go.Ground.guard }], guard := some (2, false) }) (v := ?_) rfl (by kernel_rfl) (by kernel_rfl) (by kernel_rfl) (fun _ _ _ h => h) (Or.inl ⟨by rfl, ?_⟩) (by assumption) ?_
  (rotate_left; focus (intro wS hSw; have s0 := (hSw.2 0 _ rfl).1; have s1 := (hSw.2 1 _ rfl).1; clear hSw; go_simp; (try rw [if_neg (by omega)]); try with_reducible rfl))
  (try simp only [Act.put, List.setIfInBounds_toArray, List.set_cons_zero, List.set_cons_succ])
  refine wpAnyH_take (i := 15) (oi := { dst := some 20, op := Go.Op.binOp Go.BinOp.gtr 3 (Go.Operand.tmp 9) (Go.Operand.tmp 19) 3, type := 4, pos := "net.go:32", after := #[{ on := 4, ground := Go.Ground.data }, { on := 14, ground := Go.Ground.data }, { on := 2, ground := Go.Ground.guard }], guard := some (2, false) }) (v := ?_) rfl (by kernel_rfl) (by kernel_rfl) (by kernel_rfl) (fun _ _ _ h => h) (Or.inl ⟨by rfl, ?_⟩) (by assumption) ?_
  (rotate_left; focus (intro wS hSw; have s0 := (hSw.2 0 _ rfl).1; have s1 := (hSw.2 1 _ rfl).1; clear hSw; go_simp; (try rw [if_neg (by omega)]); try with_reducible rfl))
  (try simp only [Act.put, List.setIfInBounds_toArray, List.set_cons_zero, List.set_cons_succ])
  refine wpAnyH_take (i := 16) (oi := { dst := some 21, op := Go.Op.pick (Go.Operand.tmp 7) (Go.Operand.const (Go.Value.bool true)) (Go.Operand.tmp 20), type := 4, pos := "net.go:32", after := #[{ on := 2, ground := Go.Ground.data }, { on := 15, ground := Go.Ground.data }], guard := none }) (v := ?_) rfl (by kernel_rfl) (by kernel_rfl) (by kernel_rfl) (fun _ _ _ h => h) (Or.inl ⟨by rfl, ?_⟩) (by assumption) ?_
  (rotate_left; focus (intro wS hSw; have s0 := (hSw.2 0 _ rfl).1; have s1 := (hSw.2 1 _ rfl).1; clear hSw; go_simp; (try rw [if_neg (by omega)]); try with_reducible rfl))
  (try simp only [Act.put, List.setIfInBounds_toArray, List.set_cons_zero, List.set_cons_succ])
  refine wpAnyH_done (by kernel_rfl) ?_ _
  go_wp2
  go_ret
  exact ⟨rfl, rfl⟩
theorem behind_ok {p B q : Nat} {v : Value} {ms : List Msg} {room : Int} (to : Int) (s : ByteArray) (w : World) (h : Ns w p B v ms room) (hr : 1 ≤ room ∧ room ≤ 4096) (hf : ms.length < room) (hq : Bk q [.int .i64 to, .string s] w) :
    Calls Try.prog 13 #[.pointer (some ⟨p, 0, none⟩), .slice (some ⟨q, 0, none⟩) 1 1] w fun e w' => e = .returned (.bool true) ∧ ∃ v', Ns w' p B v' (ms ++ [(to, s)]) room ∧ Kp (fun i => i = p ∨ v.ownBlock = some i) w w' ∧ (v'.ownBlock = v.ownBlock ∨ v'.ownBlock = some w.heap.size) := by
  have w1 : IntKind.i64.wrap (room - (ms.length : Int)) = room - (ms.length : Int) := by rw [IntKind.wrap_i64]; omega
  have d1 : decide (room - (ms.length : Int) < 1) = false := decide_eq_false (by omega)
  obtain ⟨i0, hi, hz0, hz1, hz2⟩ := info_parts info47
  obtain ⟨a, cap, rfl⟩ := own_shape h.2.1
  go_enter Try.func13, Try.ntmps13
  go_wp2_with fail
  have hP0 := h.1.drew
  refine wp_region_held_drew (S := fun w' => Bk p [.slice a ms.length cap, .int .i64 room] w') (by kernel_rfl) (by (exact hP0)) (fun hHeld => ?_)
  refine wpAnyH_take (i := 0) (oi := { dst := some 5, op := Go.Op.move (Go.Operand.tmp 0), type := 24, pos := "net.go:32", after := #[], guard := none }) (v := ?_) rfl (by kernel_rfl) (by kernel_rfl) (by kernel_rfl) (fun _ _ _ h => h) (Or.inl ⟨by rfl, ?_⟩) (by assumption) ?_
  (rotate_left; focus (intro wS hSw; have s0 := (hSw.2 0 _ rfl).1; have s1 := (hSw.2 1 _ rfl).1; clear hSw; go_simp; (try rw [if_neg (by omega)]); try with_reducible rfl))
  (try simp only [Act.put, List.setIfInBounds_toArray, List.set_cons_zero, List.set_cons_succ])
  refine wpAnyH_take (i := 1) (oi := { dst := some 6, op := Go.Op.binOp Go.BinOp.eql 24 (Go.Operand.tmp 5) (Go.Operand.const (Go.Value.pointer none)) 24, type := 4, pos := "net.go:32", after := #[{ on := 0, ground := Go.Ground.data }], guard := none }) (v := ?_) rfl (by kernel_rfl) (by kernel_rfl) (by kernel_rfl) (fun _ _ _ h => h) (Or.inl ⟨by rfl, ?_⟩) (by assumption) ?_
  (rotate_left; focus (intro wS hSw; have s0 := (hSw.2 0 _ rfl).1; have s1 := (hSw.2 1 _ rfl).1; clear hSw; go_simp; (try rw [if_neg (by omega)]); try with_reducible rfl))
  (try simp only [Act.put, List.setIfInBounds_toArray, List.set_cons_zero, List.set_cons_succ])
  refine wpAnyH_take (i := 2) (oi := { dst := some 7, op := Go.Op.move (Go.Operand.tmp 6), type := 4, pos := "net.go:32", after := #[{ on := 1, ground := Go.Ground.data }], guard := none }) (v := ?_) rfl (by kernel_rfl) (by kernel_rfl) (by kernel_rfl) (fun _ _ _ h => h) (Or.inl ⟨by rfl, ?_⟩) (by assumption) ?_
  (rotate_left; focus (intro wS hSw; have s0 := (hSw.2 0 _ rfl).1; have s1 := (hSw.2 1 _ rfl).1; clear hSw; go_simp; (try rw [if_neg (by omega)]); try with_reducible rfl))
  (try simp only [Act.put, List.setIfInBounds_toArray, List.set_cons_zero, List.set_cons_succ])
  refine wpAnyH_take (i := 3) (oi := { dst := some 8, op := Go.Op.move (Go.Operand.tmp 1), type := 41, pos := "net.go:32", after := #[{ on := 2, ground := Go.Ground.guard }], guard := some (2, false) }) (v := ?_) rfl (by kernel_rfl) (by kernel_rfl) (by kernel_rfl) (fun _ _ _ h => h) (Or.inl ⟨by rfl, ?_⟩) (by assumption) ?_
  (rotate_left; focus (intro wS hSw; have s0 := (hSw.2 0 _ rfl).1; have s1 := (hSw.2 1 _ rfl).1; clear hSw; go_simp; (try rw [if_neg (by omega)]); try with_reducible rfl))
  (try simp only [Act.put, List.setIfInBounds_toArray, List.set_cons_zero, List.set_cons_succ])
  refine wpAnyH_take (i := 4) (oi := { dst := some 9, op := Go.Op.call { callee := Go.Callee.builtin Go.Builtin.len, args := #[Go.Operand.tmp 8], argTypes := #[41] }, type := 3, pos := "net.go:32", after := #[{ on := 3, ground := Go.Ground.data }, { on := 2, ground := Go.Ground.guard }], guard := some (2, false) }) (v := ?_) rfl (by kernel_rfl) (by kernel_rfl) (by kernel_rfl) (fun _ _ _ h => h) (Or.inl ⟨by rfl, ?_⟩) (by assumption) ?_
  (rotate_left; focus (intro wS hSw; have s0 := (hSw.2 0 _ rfl).1; have s1 := (hSw.2 1 _ rfl).1; clear hSw; go_simp; (try rw [if_neg (by omega)]); try with_reducible rfl))
  (try simp only [Act.put, List.setIfInBounds_toArray, List.set_cons_zero, List.set_cons_succ])
  refine wpAnyH_take (i := 5) (oi := { dst := some 10, op := Go.Op.move (Go.Operand.tmp 0), type := 24, pos := "net.go:32", after := #[{ on := 2, ground := Go.Ground.guard }], guard := some (2, false) }) (v := ?_) rfl (by kernel_rfl) (by kernel_rfl) (by kernel_rfl) (fun _ _ _ h => h) (Or.inl ⟨by rfl, ?_⟩) (by assumption) ?_
  (rotate_left; focus (intro wS hSw; have s0 := (hSw.2 0 _ rfl).1; have s1 := (hSw.2 1 _ rfl).1; clear hSw; go_simp; (try rw [if_neg (by omega)]); try with_reducible rfl))
  (try simp only [Act.put, List.setIfInBounds_toArray, List.set_cons_zero, List.set_cons_succ])
  refine wpAnyH_take (i := 6) (oi := { dst := some 11, op := Go.Op.nilCheck (Go.Operand.tmp 10), type := 0, pos := "net.go:32", after := #[{ on := 5, ground := Go.Ground.data }, { on := 2, ground := Go.Ground.guard }], guard := some (2, false) }) (v := ?_) rfl (by kernel_rfl) (by kernel_rfl) (by kernel_rfl) (fun _ _ _ h => h) (Or.inl ⟨by rfl, ?_⟩) (by assumption) ?_
  (rotate_left; focus (intro wS hSw; have s0 := (hSw.2 0 _ rfl).1; have s1 := (hSw.2 1 _ rfl).1; clear hSw; go_simp; (try rw [if_neg (by omega)]); try with_reducible rfl))
  (try simp only [Act.put, List.setIfInBounds_toArray, List.set_cons_zero, List.set_cons_succ])
  refine wpAnyH_take (i := 7) (oi := { dst := some 12, op := Go.Op.fieldAddr 43 (Go.Operand.tmp 11) 1, type := 0, pos := "net.go:32", after := #[{ on := 6, ground := Go.Ground.data }, { on := 2, ground := Go.Ground.guard }], guard := some (2, false) }) (v := ?_) rfl (by kernel_rfl) (by kernel_rfl) (by kernel_rfl) (fun _ _ _ h => h) (Or.inl ⟨by rfl, ?_⟩) (by assumption) ?_
  (rotate_left; focus (intro wS hSw; have s0 := (hSw.2 0 _ rfl).1; have s1 := (hSw.2 1 _ rfl).1; clear hSw; go_simp; (try rw [if_neg (by omega)]); try with_reducible rfl))
  (try simp only [Act.put, List.setIfInBounds_toArray, List.set_cons_zero, List.set_cons_succ])
  refine wpAnyH_take (i := 8) (oi := { dst := some 13, op := Go.Op.load 3 (Go.Operand.tmp 12), type := 3, pos := "net.go:32", after := #[{ on := 7, ground := Go.Ground.data }, { on := 2, ground := Go.Ground.guard }], guard := some (2, false) }) (v := ?_) rfl (by kernel_rfl) (by kernel_rfl) (by kernel_rfl) (fun _ _ _ h => h) (Or.inl ⟨by rfl, ?_⟩) (by assumption) ?_
  (rotate_left; focus (intro wS hSw; have s0 := (hSw.2 0 _ rfl).1; have s1 := (hSw.2 1 _ rfl).1; clear hSw; go_simp; (try rw [if_neg (by omega)]); try with_reducible rfl))
  (try simp only [Act.put, List.setIfInBounds_toArray, List.set_cons_zero, List.set_cons_succ])
  refine wpAnyH_take (i := 9) (oi := { dst := some 14, op := Go.Op.move (Go.Operand.tmp 0), type := 24, pos := "net.go:32", after := #[{ on := 2, ground := Go.Ground.guard }], guard := some (2, false) }) (v := ?_) rfl (by kernel_rfl) (by kernel_rfl) (by kernel_rfl) (fun _ _ _ h => h) (Or.inl ⟨by rfl, ?_⟩) (by assumption) ?_
  (rotate_left; focus (intro wS hSw; have s0 := (hSw.2 0 _ rfl).1; have s1 := (hSw.2 1 _ rfl).1; clear hSw; go_simp; (try rw [if_neg (by omega)]); try with_reducible rfl))
  (try simp only [Act.put, List.setIfInBounds_toArray, List.set_cons_zero, List.set_cons_succ])
  refine wpAnyH_take (i := 10) (oi := { dst := some 15, op := Go.Op.nilCheck (Go.Operand.tmp 14), type := 0, pos := "net.go:32", after := #[{ on := 9, ground := Go.Ground.data }, { on := 2, ground := Go.Ground.guard }], guard := some (2, false) }) (v := ?_) rfl (by kernel_rfl) (by kernel_rfl) (by kernel_rfl) (fun _ _ _ h => h) (Or.inl ⟨by rfl, ?_⟩) (by assumption) ?_
  (rotate_left; focus (intro wS hSw; have s0 := (hSw.2 0 _ rfl).1; have s1 := (hSw.2 1 _ rfl).1; clear hSw; go_simp; (try rw [if_neg (by omega)]); try with_reducible rfl))
  (try simp only [Act.put, List.setIfInBounds_toArray, List.set_cons_zero, List.set_cons_succ])
  refine wpAnyH_take (i := 11) (oi := { dst := some 16, op := Go.Op.fieldAddr 43 (Go.Operand.tmp 15) 0, type := 0, pos := "net.go:32", after := #[{ on := 10, ground := Go.Ground.data }, { on := 2, ground := Go.Ground.guard }], guard := some (2, false) }) (v := ?_) rfl (by kernel_rfl) (by kernel_rfl) (by kernel_rfl) (fun _ _ _ h => h) (Or.inl ⟨by rfl, ?_⟩) (by assumption) ?_
  (rotate_left; focus (intro wS hSw; have s0 := (hSw.2 0 _ rfl).1; have s1 := (hSw.2 1 _ rfl).1; clear hSw; go_simp; (try rw [if_neg (by omega)]); try with_reducible rfl))
  (try simp only [Act.put, List.setIfInBounds_toArray, List.set_cons_zero, List.set_cons_succ])
  refine wpAnyH_take (i := 12) (oi := { dst := some 17, op := Go.Op.load 41 (Go.Operand.tmp 16), type := 41, pos := "net.go:32", after := #[{ on := 11, ground := Go.Ground.data }, { on := 2, ground := Go.Ground.guard }], guard := some (2, false) }) (v := ?_) rfl (by kernel_rfl) (by kernel_rfl) (by kernel_rfl) (fun _ _ _ h => h) (Or.inl ⟨by rfl, ?_⟩) (by assumption) ?_
  (rotate_left; focus (intro wS hSw; have s0 := (hSw.2 0 _ rfl).1; have s1 := (hSw.2 1 _ rfl).1; clear hSw; go_simp; (try rw [if_neg (by omega)]); try with_reducible rfl))
  (try simp only [Act.put, List.setIfInBounds_toArray, List.set_cons_zero, List.set_cons_succ])
  refine wpAnyH_take (i := 13) (oi := { dst := some 18, op := Go.Op.call { callee := Go.Callee.builtin Go.Builtin.len, args := #[Go.Operand.tmp 17], argTypes := #[41] }, type := 3, pos := "net.go:32", after := #[{ on := 12, ground := Go.Ground.data }, { on := 2, ground := Go.Ground.guard }], guard := some (2, false) }) (v := ?_) rfl (by kernel_rfl) (by kernel_rfl) (by kernel_rfl) (fun _ _ _ h => h) (Or.inl ⟨by rfl, ?_⟩) (by assumption) ?_
  (rotate_left; focus (intro wS hSw; have s0 := (hSw.2 0 _ rfl).1; have s1 := (hSw.2 1 _ rfl).1; clear hSw; go_simp; (try rw [if_neg (by omega)]); try with_reducible rfl))
  (try simp only [Act.put, List.setIfInBounds_toArray, List.set_cons_zero, List.set_cons_succ])
  refine wpAnyH_take (i := 14) (oi := { dst := some 19, op := Go.Op.binOp Go.BinOp.sub 3 (Go.Operand.tmp 13) (Go.Operand.tmp 18) 3, type := 3, pos := "net.go:32", after := #[{ on := 8, ground := Go.Ground.data }, { on := 13, ground := Go.Ground.data }, { on := 2, ground := Go.Ground.guard }], guard := some (2, false) }) (v := ?_) rfl (by kernel_rfl) (by kernel_rfl) (by kernel_rfl) (fun _ _ _ h => h) (Or.inl ⟨by rfl, ?_⟩) (by assumption) ?_
  (rotate_left; focus (intro wS hSw; have s0 := (hSw.2 0 _ rfl).1; have s1 := (hSw.2 1 _ rfl).1; clear hSw; go_simp; (try rw [if_neg (by omega)]); try with_reducible rfl))
  (try simp only [Act.put, List.setIfInBounds_toArray, List.set_cons_zero, List.set_cons_succ])
  refine wpAnyH_take (i := 15) (oi := { dst := some 20, op := Go.Op.binOp Go.BinOp.gtr 3 (Go.Operand.tmp 9) (Go.Operand.tmp 19) 3, type := 4, pos := "net.go:32", after := #[{ on := 4, ground := Go.Ground.data }, { on := 14, ground := Go.Ground.data }, { on := 2, ground := Go.Ground.guard }], guard := some (2, false) }) (v := ?_) rfl (by kernel_rfl) (by kernel_rfl) (by kernel_rfl) (fun _ _ _ h => h) (Or.inl ⟨by rfl, ?_⟩) (by assumption) ?_
  (rotate_left; focus (intro wS hSw; have s0 := (hSw.2 0 _ rfl).1; have s1 := (hSw.2 1 _ rfl).1; clear hSw; go_simp; (try rw [if_neg (by omega)]); try with_reducible rfl))
  (try simp only [Act.put, List.setIfInBounds_toArray, List.set_cons_zero, List.set_cons_succ])
  refine wpAnyH_take (i := 16) (oi := { dst := some 21, op := Go.Op.pick (Go.Operand.tmp 7) (Go.Operand.const (Go.Value.bool true)) (Go.Operand.tmp 20), type := 4, pos := "net.go:32", after := #[{ on := 2, ground := Go.Ground.data }, { on := 15, ground := Go.Ground.data }], guard := none }) (v := ?_) rfl (by kernel_rfl) (by kernel_rfl) (by kernel_rfl) (fun _ _ _ h => h) (Or.inl ⟨by rfl, ?_⟩) (by assumption) ?_
  (rotate_left; focus (intro wS hSw; have s0 := (hSw.2 0 _ rfl).1; have s1 := (hSw.2 1 _ rfl).1; clear hSw; go_simp; (try rw [if_neg (by omega)]); try with_reducible rfl))
  (try simp only [Act.put, List.setIfInBounds_toArray, List.set_cons_zero, List.set_cons_succ])
  refine wpAnyH_done (by kernel_rfl) ?_ _
  have c0 := (h.1.2 0 _ rfl).1
  go_wp2_with (at_builtin; refine wpList_append_own_at _ rfl _ _ 41 rfl B 47 i0 (.agg #[.int .i64 0, .string ByteArray.empty]) 2 24 Try.underlying41 hi hz0 hz1 hz2 rfl (by decide) _ _ _ rfl h.2.1 ⟨q, 0, none⟩ 1 1 [.int .i64 to, .string s] rfl rfl ?a1 ?a2 ?a3 ?a4 ?a5 ?_)
  case a1 => intro j u hj; rw [Addr.add_lit, Nat.zero_add]; exact (hq.2 j u hj).1
  case a2 => intro u hu; simp at hu; rcases hu with rfl | rfl <;> rfl
  case a3 => unfold maxLen; omega
  case a4 => omega
  case a5 => exact h.2.2.2
  intro v5 w5 hown5 hg5 _ hat
  have hne : ∀ g, (Value.slice a ms.length cap).ownBlock = some g → g ≠ p := fun g hg e => by have := (h.2.1.lt g hg).1; have := h.2.2.1; omega
  have hB5 : Bk p [.slice a ms.length cap, .int .i64 room] w5 := h.1.drew.kp (Kp.grown (S := fun i => (Value.slice a ms.length cap).ownBlock = some i) hg5 (fun k e => e)) (fun e => hne p e rfl)
  have hf5 := (hB5.2 0 _ rfl).2
  have hc5 := (hB5.2 0 _ rfl).1
  obtain ⟨a5, cap5, rfl⟩ := own_shape hown5
  have HB := Lib.hid (hB5.set 0 (by simp) (.slice a5 (ms.length + 1) cap5))
  have HK : Hid (Kp (fun i => i = p ∨ (Value.slice a ms.length cap).ownBlock = some i) w w5) := Lib.hid ((Kp.refl _ w).drew.trans (Kp.grown hg5 (fun k e => Or.inr e)))
  have HO : Hid (w5.ownsRow B 47 2 (.slice a5 (ms.length + 1) cap5) (ms ++ [(to, s)]).length ((ms ++ [(to, s)]).flatMap encM)) := Lib.hid (by rw [List.length_append, List.flatMap_append]; exact hown5)
  have HAT := Lib.hid hat
  have HSZ := Lib.hid hg5.size
  clear hown5 hg5 hat hB5
  go_wp2
  go_ret
  refine ⟨rfl, _, ⟨HB.out, ?_, h.2.2.1, by have := HSZ.out; have := h.2.2.2; simp at this ⊢; simp only [World.drew] at *; omega⟩, HK.out.set p 0 _ (Or.inl rfl), HAT.out⟩
  refine own_kp2 HO.out (Kp.set (S := fun i => i = p) (Kp.refl _ _) p 0 _ rfl) (fun g hg e => ?_)
  have := (HO.out.lt g hg).1
  have := h.2.2.1
  omega
theorem put_any {p B : Nat} {v : Value} {ms : List Msg} {room : Int} (to : Int) (s : ByteArray) (w : World) (h : Ns w p B v ms room) (hr : 1 ≤ room ∧ room ≤ 4096) (hm : (ms.length : Int) ≤ room) :
    Calls Try.prog 8 #[.pointer (some ⟨p, 0, none⟩), .int .i64 to, .string s] w fun e w' => e = .returned (.bool (decide ((ms.length : Int) < room))) ∧ ∃ v', Ns w' p B v' (if (ms.length : Int) < room then ms ++ [(to, s)] else ms) room ∧ Kp (fun i => i = p ∨ v.ownBlock = some i) w w' ∧ (∀ g, v'.ownBlock = some g → v.ownBlock = some g ∨ w.heap.size ≤ g) := by
  have HB := Lib.hid (below_new w (.cells #[.int .i64 to, .string s] 47))
  have hN := h.keep (below_new w (.cells #[.int .i64 to, .string s] 47))
  have hQ := Bk.new w 47 #[.int .i64 to, .string s]
  by_cases hlt : (ms.length : Int) < room
  · rw [if_pos hlt, decide_eq_true hlt]
    go_enter Try.func8, Try.ntmps8
    go_wp2_with fail
    refine (behind_ok to s _ hN hr hlt hQ).mono ?_
    rintro e w1 ⟨rfl, v', h1, h2, h3⟩
    have H1 := Lib.hid h1; have H2 := Lib.hid h2; have H3 := Lib.hid h3
    clear h1 h2 h3
    go_wp2
    go_ret
    refine ⟨rfl, v', H1.out, (Kp.new HB.out).trans H2.out, fun g hg => ?_⟩
    rcases H3.out with e | e
    · exact Or.inl (by rw [← e]; exact hg)
    · rw [e] at hg
      simp at hg
      exact Or.inr (by omega)
  · rw [if_neg hlt, decide_eq_false hlt]
    go_enter Try.func8, Try.ntmps8
    go_wp2_with fail
    refine (behind_full _ hN hr (by omega) (by omega)).mono ?_
    rintro e w1 ⟨rfl, rfl⟩
    go_wp2
    go_ret
    exact ⟨rfl, v, hN.drew, (Kp.new HB.out).drew, fun g hg => Or.inl hg⟩
end Go.Proofs.Ytpplpbpgaaabdaa

