/-
  The contract of Make.
-/
import Derived.Test.YthkbeeebdkccdaaP5
set_option linter.unusedVariables false
set_option linter.unusedSimpArgs false
namespace Go.Proofs.Ythkbeeebdkccdaa
open Go.RowKit
theorem make_long (old now : ByteArray) (w : World) (h : 4096 < old.size ∨ 4096 < now.size) : Calls Try.prog 5 #[.string old, .string now] w fun e w' => e = .returned (.tuple #[.string ⟨#[]⟩, .int .i64 3]) ∧ w' = w := by
  by_cases h1 : 4096 < old.size
  · have g1 : (4096 : Int) < (old.size : Int) := by omega
    go_enter Try.func5, Try.ntmps5
    go_wp2
    go_ret2
    exact ⟨rfl, rfl⟩
  · have g1 : ¬ (4096 : Int) < (old.size : Int) := by omega
    have g2 : (4096 : Int) < (now.size : Int) := by omega
    go_enter Try.func5, Try.ntmps5
    go_wp2
    go_ret2
    exact ⟨rfl, rfl⟩
def MakeE (old now : ByteArray) (w w' : World) (e : Ending) : Prop := ∃ ps : List Part, e = .returned (.tuple #[.string (catP ps), .int .i64 0]) ∧ (∀ x ∈ ps, okP old x) ∧ outsP old ps = now ∧ (catP ps).size ≤ now.size + 4 ∧ Below w.heap.size w w'
theorem catP_one (x : Part) : catP [x] = bytesP x := by show bytesP x ++ ByteArray.empty = _; rw [ByteArray.append_empty]
theorem emp0 : (⟨#[]⟩ : ByteArray) = ByteArray.empty := rfl
theorem partC_size (a n : Nat) (ha : a ≤ 9007199254740992) (hn : n ≤ 9007199254740992) : (partC a n).size ≤ 24 := by
  have := catN_size [1, a, n] (fun q hq => by simp at hq; omega)
  exact this
theorem catP_psOf (o h : Nat) (mid : ByteArray) (t : Nat) : catP (psOf o h mid t) = (if 0 < h then partC 0 h else ByteArray.empty) ++ ((if mid.size = 0 then ByteArray.empty else partF mid) ++ (if 0 < t then partC (o - t) t else ByteArray.empty)) := by
  have happ : ∀ l m, catP (l ++ m) = catP l ++ catP m := by
    intro l m
    induction l with
    | nil => show catP m = ByteArray.empty ++ catP m; rw [ByteArray.empty_append]
    | cons x l ih => show bytesP x ++ catP (l ++ m) = bytesP x ++ catP l ++ catP m; rw [ih, ByteArray.append_assoc]
  unfold psOf
  rw [happ, happ]
  congr 1
  · split
    · exact catP_one _
    · rfl
  · congr 1
    · split
      · rfl
      · exact catP_one _
    · split
      · exact catP_one _
      · rfl
set_option maxRecDepth 100000 in
set_option maxHeartbeats 16000000 in
theorem make_any (old now : ByteArray) (w : World) (h1 : old.size ≤ 4096) (h2 : now.size ≤ 4096) : Calls Try.prog 5 #[.string old, .string now] w fun e w' => MakeE old now w w' e := by
  have g1 : ¬ (4096 : Int) < (old.size : Int) := by omega
  have g2 : ¬ (4096 : Int) < (now.size : Int) := by omega
  have TL := Lib.hid (like_any old now w (by omega) (by omega))
  go_enter Try.func5, Try.ntmps5
  go_wp2_with fail
  refine TL.out.mono ?_
  rintro e w1 ⟨h, rfl, hh1, hh2, hhe, hb⟩
  have HH := Lib.hid hhe; have HB := Lib.hid hb
  clear hhe hb TL
  have wo : IntKind.i64.wrap ((old.size : Int) - (h : Int)) = (old.size : Int) - (h : Int) := by rw [IntKind.wrap_i64]; omega
  have wn : IntKind.i64.wrap ((now.size : Int) - (h : Int)) = (now.size : Int) - (h : Int) := by rw [IntKind.wrap_i64]; omega
  have wo1 : IntKind.i64.wrap ((old.size : Int) - 1) = (old.size : Int) - 1 := by rw [IntKind.wrap_i64]; omega
  have wn1 : IntKind.i64.wrap ((now.size : Int) - 1) = (now.size : Int) - 1 := by rw [IntKind.wrap_i64]; omega
  go_wp2
  go_loopw [7] (fun v wr => ∃ t : Nat, v = .int .i64 t ∧ t ≤ old.size - h ∧ t ≤ now.size - h ∧ old.data.toList.drop (old.size - t) = now.data.toList.drop (now.size - t) ∧ Below w.heap.size w wr) (fun v _ => old.size - (intOf v).toNat)
  case atStart => exact ⟨0, rfl, by omega, by omega, by rw [List.drop_of_length_le (by rw [length_data]; omega), List.drop_of_length_le (by rw [length_data]; omega)], HB.out⟩
  case round =>
    obtain ⟨t, rfl, ht1, ht2, hte, hbw⟩ := hrel
    have HT := Lib.hid hte; have HB := Lib.hid hbw
    clear hte hbw
    by_cases q1 : t < old.size - h
    · have d1 : decide ((t : Int) < (old.size : Int) - (h : Int)) = true := decide_eq_true (by omega)
      by_cases q2 : t < now.size - h
      · have d2 : decide ((t : Int) < (now.size : Int) - (h : Int)) = true := decide_eq_true (by omega)
        obtain ⟨io, hio⟩ : ∃ io, io = old.size - 1 - t := ⟨_, rfl⟩
        obtain ⟨jn, hjn⟩ : ∃ jn, jn = now.size - 1 - t := ⟨_, rfl⟩
        have hio2 : io < old.size := by omega
        have hjn2 : jn < now.size := by omega
        have wio : IntKind.i64.wrap ((old.size : Int) - 1 - (t : Int)) = (io : Int) := by rw [IntKind.wrap_i64]; omega
        have wjn : IntKind.i64.wrap ((now.size : Int) - 1 - (t : Int)) = (jn : Int) := by rw [IntKind.wrap_i64]; omega
        have HG : Hid (old[io] = now[jn] → old.data.toList.drop (old.size - (t + 1)) = now.data.toList.drop (now.size - (t + 1))) := Lib.hid (fun e => get_of_drop (by omega) (by omega) HT.out (by simpa only [← hio, ← hjn] using e))
        clear hio hjn
        go_wp2_with fail
        by_cases e : old[io] = now[jn]
        · have e1 : ((old[io].toNat : Int) == (now[jn].toNat : Int)) = true := by simp [e]
          have HN := Lib.hid (HG.out e)
          refine wp_region_held_drew (S := fun _ => True) (by kernel_rfl) (trivial) (fun hHeld => ?_)
          refine wpAnyH_take (i := 0) (oi := { dst := some 22, op := Go.Op.move (Go.Operand.tmp 7), type := 3, pos := "patch.go:117", after := #[], guard := none }) (v := ?_) rfl (by kernel_rfl) (by kernel_rfl) (by kernel_rfl) (fun _ _ _ h => h) (Or.inl ⟨by rfl, ?_⟩) (by assumption) ?_
          (rotate_left; focus (intro wS hSw; (try dsimp only at hSw); go_simp; (try rw [if_neg (by omega)]); try with_reducible rfl))
          (try simp only [Act.put, List.setIfInBounds_toArray, List.set_cons_zero, List.set_cons_succ])
          refine wpAnyH_take (i := 1) (oi := { dst := some 23, op := Go.Op.move (Go.Operand.tmp 0), type := 9, pos := "patch.go:117", after := #[], guard := none }) (v := ?_) rfl (by kernel_rfl) (by kernel_rfl) (by kernel_rfl) (fun _ _ _ h => h) (Or.inl ⟨by rfl, ?_⟩) (by assumption) ?_
          (rotate_left; focus (intro wS hSw; (try dsimp only at hSw); go_simp; (try rw [if_neg (by omega)]); try with_reducible rfl))
          (try simp only [Act.put, List.setIfInBounds_toArray, List.set_cons_zero, List.set_cons_succ])
          refine wpAnyH_take (i := 2) (oi := { dst := some 24, op := Go.Op.call { callee := Go.Callee.builtin Go.Builtin.len, args := #[Go.Operand.tmp 23], argTypes := #[9] }, type := 3, pos := "patch.go:117", after := #[{ on := 1, ground := Go.Ground.data }], guard := none }) (v := ?_) rfl (by kernel_rfl) (by kernel_rfl) (by kernel_rfl) (fun _ _ _ h => h) (Or.inl ⟨by rfl, ?_⟩) (by assumption) ?_
          (rotate_left; focus (intro wS hSw; (try dsimp only at hSw); go_simp; (try rw [if_neg (by omega)]); try with_reducible rfl))
          (try simp only [Act.put, List.setIfInBounds_toArray, List.set_cons_zero, List.set_cons_succ])
          refine wpAnyH_take (i := 3) (oi := { dst := some 25, op := Go.Op.move (Go.Operand.tmp 6), type := 3, pos := "patch.go:117", after := #[], guard := none }) (v := ?_) rfl (by kernel_rfl) (by kernel_rfl) (by kernel_rfl) (fun _ _ _ h => h) (Or.inl ⟨by rfl, ?_⟩) (by assumption) ?_
          (rotate_left; focus (intro wS hSw; (try dsimp only at hSw); go_simp; (try rw [if_neg (by omega)]); try with_reducible rfl))
          (try simp only [Act.put, List.setIfInBounds_toArray, List.set_cons_zero, List.set_cons_succ])
          refine wpAnyH_take (i := 4) (oi := { dst := some 26, op := Go.Op.binOp Go.BinOp.sub 3 (Go.Operand.tmp 24) (Go.Operand.tmp 25) 3, type := 3, pos := "patch.go:117", after := #[{ on := 2, ground := Go.Ground.data }, { on := 3, ground := Go.Ground.data }], guard := none }) (v := ?_) rfl (by kernel_rfl) (by kernel_rfl) (by kernel_rfl) (fun _ _ _ h => h) (Or.inl ⟨by rfl, ?_⟩) (by assumption) ?_
          (rotate_left; focus (intro wS hSw; (try dsimp only at hSw); go_simp; (try rw [if_neg (by omega)]); try with_reducible rfl))
          (try simp only [Act.put, List.setIfInBounds_toArray, List.set_cons_zero, List.set_cons_succ])
          refine wpAnyH_take (i := 5) (oi := { dst := some 27, op := Go.Op.binOp Go.BinOp.lss 3 (Go.Operand.tmp 22) (Go.Operand.tmp 26) 3, type := 4, pos := "patch.go:117", after := #[{ on := 0, ground := Go.Ground.data }, { on := 4, ground := Go.Ground.data }], guard := none }) (v := ?_) rfl (by kernel_rfl) (by kernel_rfl) (by kernel_rfl) (fun _ _ _ h => h) (Or.inl ⟨by rfl, ?_⟩) (by assumption) ?_
          (rotate_left; focus (intro wS hSw; (try dsimp only at hSw); go_simp; (try rw [if_neg (by omega)]); try with_reducible rfl))
          (try simp only [Act.put, List.setIfInBounds_toArray, List.set_cons_zero, List.set_cons_succ])
          refine wpAnyH_take (i := 6) (oi := { dst := some 28, op := Go.Op.move (Go.Operand.tmp 27), type := 4, pos := "patch.go:117", after := #[{ on := 5, ground := Go.Ground.data }], guard := none }) (v := ?_) rfl (by kernel_rfl) (by kernel_rfl) (by kernel_rfl) (fun _ _ _ h => h) (Or.inl ⟨by rfl, ?_⟩) (by assumption) ?_
          (rotate_left; focus (intro wS hSw; (try dsimp only at hSw); go_simp; (try rw [if_neg (by omega)]); try with_reducible rfl))
          (try simp only [Act.put, List.setIfInBounds_toArray, List.set_cons_zero, List.set_cons_succ])
          refine wpAnyH_take (i := 7) (oi := { dst := some 29, op := Go.Op.move (Go.Operand.tmp 7), type := 3, pos := "patch.go:117", after := #[{ on := 6, ground := Go.Ground.guard }], guard := some (6, true) }) (v := ?_) rfl (by kernel_rfl) (by kernel_rfl) (by kernel_rfl) (fun _ _ _ h => h) (Or.inl ⟨by rfl, ?_⟩) (by assumption) ?_
          (rotate_left; focus (intro wS hSw; (try dsimp only at hSw); go_simp; (try rw [if_neg (by omega)]); try with_reducible rfl))
          (try simp only [Act.put, List.setIfInBounds_toArray, List.set_cons_zero, List.set_cons_succ])
          refine wpAnyH_take (i := 8) (oi := { dst := some 30, op := Go.Op.move (Go.Operand.tmp 1), type := 9, pos := "patch.go:117", after := #[{ on := 6, ground := Go.Ground.guard }], guard := some (6, true) }) (v := ?_) rfl (by kernel_rfl) (by kernel_rfl) (by kernel_rfl) (fun _ _ _ h => h) (Or.inl ⟨by rfl, ?_⟩) (by assumption) ?_
          (rotate_left; focus (intro wS hSw; (try dsimp only at hSw); go_simp; (try rw [if_neg (by omega)]); try with_reducible rfl))
          (try simp only [Act.put, List.setIfInBounds_toArray, List.set_cons_zero, List.set_cons_succ])
          refine wpAnyH_take (i := 9) (oi := { dst := some 31, op := Go.Op.call { callee := Go.Callee.builtin Go.Builtin.len, args := #[Go.Operand.tmp 30], argTypes := #[9] }, type := 3, pos := "patch.go:117", after := #[{ on := 8, ground := Go.Ground.data }, { on := 6, ground := Go.Ground.guard }], guard := some (6, true) }) (v := ?_) rfl (by kernel_rfl) (by kernel_rfl) (by kernel_rfl) (fun _ _ _ h => h) (Or.inl ⟨by rfl, ?_⟩) (by assumption) ?_
          (rotate_left; focus (intro wS hSw; (try dsimp only at hSw); go_simp; (try rw [if_neg (by omega)]); try with_reducible rfl))
          (try simp only [Act.put, List.setIfInBounds_toArray, List.set_cons_zero, List.set_cons_succ])
          refine wpAnyH_take (i := 10) (oi := { dst := some 32, op := Go.Op.move (Go.Operand.tmp 6), type := 3, pos := "patch.go:117", after := #[{ on := 6, ground := Go.Ground.guard }], guard := some (6, true) }) (v := ?_) rfl (by kernel_rfl) (by kernel_rfl) (by kernel_rfl) (fun _ _ _ h => h) (Or.inl ⟨by rfl, ?_⟩) (by assumption) ?_
          (rotate_left; focus (intro wS hSw; (try dsimp only at hSw); go_simp; (try rw [if_neg (by omega)]); try with_reducible rfl))
          (try simp only [Act.put, List.setIfInBounds_toArray, List.set_cons_zero, List.set_cons_succ])
          refine wpAnyH_take (i := 11) (oi := { dst := some 33, op := Go.Op.binOp Go.BinOp.sub 3 (Go.Operand.tmp 31) (Go.Operand.tmp 32) 3, type := 3, pos := "patch.go:117", after := #[{ on := 9, ground := Go.Ground.data }, { on := 10, ground := Go.Ground.data }, { on := 6, ground := Go.Ground.guard }], guard := some (6, true) }) (v := ?_) rfl (by kernel_rfl) (by kernel_rfl) (by kernel_rfl) (fun _ _ _ h => h) (Or.inl ⟨by rfl, ?_⟩) (by assumption) ?_
          (rotate_left; focus (intro wS hSw; (try dsimp only at hSw); go_simp; (try rw [if_neg (by omega)]); try with_reducible rfl))
          (try simp only [Act.put, List.setIfInBounds_toArray, List.set_cons_zero, List.set_cons_succ])
          refine wpAnyH_take (i := 12) (oi := { dst := some 34, op := Go.Op.binOp Go.BinOp.lss 3 (Go.Operand.tmp 29) (Go.Operand.tmp 33) 3, type := 4, pos := "patch.go:117", after := #[{ on := 7, ground := Go.Ground.data }, { on := 11, ground := Go.Ground.data }, { on := 6, ground := Go.Ground.guard }], guard := some (6, true) }) (v := ?_) rfl (by kernel_rfl) (by kernel_rfl) (by kernel_rfl) (fun _ _ _ h => h) (Or.inl ⟨by rfl, ?_⟩) (by assumption) ?_
          (rotate_left; focus (intro wS hSw; (try dsimp only at hSw); go_simp; (try rw [if_neg (by omega)]); try with_reducible rfl))
          (try simp only [Act.put, List.setIfInBounds_toArray, List.set_cons_zero, List.set_cons_succ])
          refine wpAnyH_take (i := 13) (oi := { dst := some 35, op := Go.Op.pick (Go.Operand.tmp 28) (Go.Operand.tmp 34) (Go.Operand.const (Go.Value.bool false)), type := 4, pos := "patch.go:117", after := #[{ on := 6, ground := Go.Ground.data }, { on := 12, ground := Go.Ground.data }], guard := none }) (v := ?_) rfl (by kernel_rfl) (by kernel_rfl) (by kernel_rfl) (fun _ _ _ h => h) (Or.inl ⟨by rfl, ?_⟩) (by assumption) ?_
          (rotate_left; focus (intro wS hSw; (try dsimp only at hSw); go_simp; (try rw [if_neg (by omega)]); try with_reducible rfl))
          (try simp only [Act.put, List.setIfInBounds_toArray, List.set_cons_zero, List.set_cons_succ])
          refine wpAnyH_take (i := 14) (oi := { dst := some 36, op := Go.Op.move (Go.Operand.tmp 35), type := 4, pos := "patch.go:117", after := #[{ on := 13, ground := Go.Ground.data }, { on := 6, ground := Go.Ground.chain }], guard := none }) (v := ?_) rfl (by kernel_rfl) (by kernel_rfl) (by kernel_rfl) (fun _ _ _ h => h) (Or.inl ⟨by rfl, ?_⟩) (by assumption) ?_
          (rotate_left; focus (intro wS hSw; (try dsimp only at hSw); go_simp; (try rw [if_neg (by omega)]); try with_reducible rfl))
          (try simp only [Act.put, List.setIfInBounds_toArray, List.set_cons_zero, List.set_cons_succ])
          refine wpAnyH_take (i := 15) (oi := { dst := some 37, op := Go.Op.move (Go.Operand.tmp 0), type := 9, pos := "patch.go:117", after := #[{ on := 14, ground := Go.Ground.guard }], guard := some (14, true) }) (v := ?_) rfl (by kernel_rfl) (by kernel_rfl) (by kernel_rfl) (fun _ _ _ h => h) (Or.inl ⟨by rfl, ?_⟩) (by assumption) ?_
          (rotate_left; focus (intro wS hSw; (try dsimp only at hSw); go_simp; (try rw [if_neg (by omega)]); try with_reducible rfl))
          (try simp only [Act.put, List.setIfInBounds_toArray, List.set_cons_zero, List.set_cons_succ])
          refine wpAnyH_take (i := 16) (oi := { dst := some 38, op := Go.Op.move (Go.Operand.tmp 0), type := 9, pos := "patch.go:117", after := #[{ on := 14, ground := Go.Ground.guard }], guard := some (14, true) }) (v := ?_) rfl (by kernel_rfl) (by kernel_rfl) (by kernel_rfl) (fun _ _ _ h => h) (Or.inl ⟨by rfl, ?_⟩) (by assumption) ?_
          (rotate_left; focus (intro wS hSw; (try dsimp only at hSw); go_simp; (try rw [if_neg (by omega)]); try with_reducible rfl))
          (try simp only [Act.put, List.setIfInBounds_toArray, List.set_cons_zero, List.set_cons_succ])
          refine wpAnyH_take (i := 17) (oi := { dst := some 39, op := Go.Op.call { callee := Go.Callee.builtin Go.Builtin.len, args := #[Go.Operand.tmp 38], argTypes := #[9] }, type := 3, pos := "patch.go:117", after := #[{ on := 16, ground := Go.Ground.data }, { on := 14, ground := Go.Ground.guard }], guard := some (14, true) }) (v := ?_) rfl (by kernel_rfl) (by kernel_rfl) (by kernel_rfl) (fun _ _ _ h => h) (Or.inl ⟨by rfl, ?_⟩) (by assumption) ?_
          (rotate_left; focus (intro wS hSw; (try dsimp only at hSw); go_simp; (try rw [if_neg (by omega)]); try with_reducible rfl))
          (try simp only [Act.put, List.setIfInBounds_toArray, List.set_cons_zero, List.set_cons_succ])
          refine wpAnyH_take (i := 18) (oi := { dst := some 40, op := Go.Op.binOp Go.BinOp.sub 3 (Go.Operand.tmp 39) (Go.Operand.const (Go.Value.int Go.IntKind.i64 1)) 3, type := 3, pos := "patch.go:117", after := #[{ on := 17, ground := Go.Ground.data }, { on := 14, ground := Go.Ground.guard }], guard := some (14, true) }) (v := ?_) rfl (by kernel_rfl) (by kernel_rfl) (by kernel_rfl) (fun _ _ _ h => h) (Or.inl ⟨by rfl, ?_⟩) (by assumption) ?_
          (rotate_left; focus (intro wS hSw; (try dsimp only at hSw); go_simp; (try rw [if_neg (by omega)]); try with_reducible rfl))
          (try simp only [Act.put, List.setIfInBounds_toArray, List.set_cons_zero, List.set_cons_succ])
          refine wpAnyH_take (i := 19) (oi := { dst := some 41, op := Go.Op.move (Go.Operand.tmp 7), type := 3, pos := "patch.go:117", after := #[{ on := 14, ground := Go.Ground.guard }], guard := some (14, true) }) (v := ?_) rfl (by kernel_rfl) (by kernel_rfl) (by kernel_rfl) (fun _ _ _ h => h) (Or.inl ⟨by rfl, ?_⟩) (by assumption) ?_
          (rotate_left; focus (intro wS hSw; (try dsimp only at hSw); go_simp; (try rw [if_neg (by omega)]); try with_reducible rfl))
          (try simp only [Act.put, List.setIfInBounds_toArray, List.set_cons_zero, List.set_cons_succ])
          refine wpAnyH_take (i := 20) (oi := { dst := some 42, op := Go.Op.binOp Go.BinOp.sub 3 (Go.Operand.tmp 40) (Go.Operand.tmp 41) 3, type := 3, pos := "patch.go:117", after := #[{ on := 18, ground := Go.Ground.data }, { on := 19, ground := Go.Ground.data }, { on := 14, ground := Go.Ground.guard }], guard := some (14, true) }) (v := ?_) rfl (by kernel_rfl) (by kernel_rfl) (by kernel_rfl) (fun _ _ _ h => h) (Or.inl ⟨by rfl, ?_⟩) (by assumption) ?_
          (rotate_left; focus (intro wS hSw; (try dsimp only at hSw); go_simp; (try rw [if_neg (by omega)]); try with_reducible rfl))
          (try simp only [Act.put, List.setIfInBounds_toArray, List.set_cons_zero, List.set_cons_succ])
          refine wpAnyH_take (i := 21) (oi := { dst := some 43, op := Go.Op.index 9 (Go.Operand.tmp 37) (Go.Operand.tmp 42), type := 5, pos := "patch.go:117", after := #[{ on := 15, ground := Go.Ground.data }, { on := 20, ground := Go.Ground.data }, { on := 14, ground := Go.Ground.guard }], guard := some (14, true) }) (v := ?_) rfl (by kernel_rfl) (by kernel_rfl) (by kernel_rfl) (fun _ _ _ h => h) (Or.inl ⟨by rfl, ?_⟩) (by assumption) ?_
          (rotate_left; focus (intro wS hSw; (try dsimp only at hSw); go_simp; (try rw [if_neg (by omega)]); try with_reducible rfl))
          (try simp only [Act.put, List.setIfInBounds_toArray, List.set_cons_zero, List.set_cons_succ])
          refine wpAnyH_take (i := 22) (oi := { dst := some 44, op := Go.Op.move (Go.Operand.tmp 1), type := 9, pos := "patch.go:117", after := #[{ on := 14, ground := Go.Ground.guard }], guard := some (14, true) }) (v := ?_) rfl (by kernel_rfl) (by kernel_rfl) (by kernel_rfl) (fun _ _ _ h => h) (Or.inl ⟨by rfl, ?_⟩) (by assumption) ?_
          (rotate_left; focus (intro wS hSw; (try dsimp only at hSw); go_simp; (try rw [if_neg (by omega)]); try with_reducible rfl))
          (try simp only [Act.put, List.setIfInBounds_toArray, List.set_cons_zero, List.set_cons_succ])
          refine wpAnyH_take (i := 23) (oi := { dst := some 45, op := Go.Op.move (Go.Operand.tmp 1), type := 9, pos := "patch.go:117", after := #[{ on := 14, ground := Go.Ground.guard }], guard := some (14, true) }) (v := ?_) rfl (by kernel_rfl) (by kernel_rfl) (by kernel_rfl) (fun _ _ _ h => h) (Or.inl ⟨by rfl, ?_⟩) (by assumption) ?_
          (rotate_left; focus (intro wS hSw; (try dsimp only at hSw); go_simp; (try rw [if_neg (by omega)]); try with_reducible rfl))
          (try simp only [Act.put, List.setIfInBounds_toArray, List.set_cons_zero, List.set_cons_succ])
          refine wpAnyH_take (i := 24) (oi := { dst := some 46, op := Go.Op.call { callee := Go.Callee.builtin Go.Builtin.len, args := #[Go.Operand.tmp 45], argTypes := #[9] }, type := 3, pos := "patch.go:117", after := #[{ on := 23, ground := Go.Ground.data }, { on := 14, ground := Go.Ground.guard }], guard := some (14, true) }) (v := ?_) rfl (by kernel_rfl) (by kernel_rfl) (by kernel_rfl) (fun _ _ _ h => h) (Or.inl ⟨by rfl, ?_⟩) (by assumption) ?_
          (rotate_left; focus (intro wS hSw; (try dsimp only at hSw); go_simp; (try rw [if_neg (by omega)]); try with_reducible rfl))
          (try simp only [Act.put, List.setIfInBounds_toArray, List.set_cons_zero, List.set_cons_succ])
          refine wpAnyH_take (i := 25) (oi := { dst := some 47, op := Go.Op.binOp Go.BinOp.sub 3 (Go.Operand.tmp 46) (Go.Operand.const (Go.Value.int Go.IntKind.i64 1)) 3, type := 3, pos := "patch.go:117", after := #[{ on := 24, ground := Go.Ground.data }, { on := 14, ground := Go.Ground.guard }], guard := some (14, true) }) (v := ?_) rfl (by kernel_rfl) (by kernel_rfl) (by kernel_rfl) (fun _ _ _ h => h) (Or.inl ⟨by rfl, ?_⟩) (by assumption) ?_
          (rotate_left; focus (intro wS hSw; (try dsimp only at hSw); go_simp; (try rw [if_neg (by omega)]); try with_reducible rfl))
          (try simp only [Act.put, List.setIfInBounds_toArray, List.set_cons_zero, List.set_cons_succ])
          refine wpAnyH_take (i := 26) (oi := { dst := some 48, op := Go.Op.move (Go.Operand.tmp 7), type := 3, pos := "patch.go:117", after := #[{ on := 14, ground := Go.Ground.guard }], guard := some (14, true) }) (v := ?_) rfl (by kernel_rfl) (by kernel_rfl) (by kernel_rfl) (fun _ _ _ h => h) (Or.inl ⟨by rfl, ?_⟩) (by assumption) ?_
          (rotate_left; focus (intro wS hSw; (try dsimp only at hSw); go_simp; (try rw [if_neg (by omega)]); try with_reducible rfl))
          (try simp only [Act.put, List.setIfInBounds_toArray, List.set_cons_zero, List.set_cons_succ])
          refine wpAnyH_take (i := 27) (oi := { dst := some 49, op := Go.Op.binOp Go.BinOp.sub 3 (Go.Operand.tmp 47) (Go.Operand.tmp 48) 3, type := 3, pos := "patch.go:117", after := #[{ on := 25, ground := Go.Ground.data }, { on := 26, ground := Go.Ground.data }, { on := 14, ground := Go.Ground.guard }], guard := some (14, true) }) (v := ?_) rfl (by kernel_rfl) (by kernel_rfl) (by kernel_rfl) (fun _ _ _ h => h) (Or.inl ⟨by rfl, ?_⟩) (by assumption) ?_
          (rotate_left; focus (intro wS hSw; (try dsimp only at hSw); go_simp; (try rw [if_neg (by omega)]); try with_reducible rfl))
          (try simp only [Act.put, List.setIfInBounds_toArray, List.set_cons_zero, List.set_cons_succ])
          refine wpAnyH_take (i := 28) (oi := { dst := some 50, op := Go.Op.index 9 (Go.Operand.tmp 44) (Go.Operand.tmp 49), type := 5, pos := "patch.go:117", after := #[{ on := 22, ground := Go.Ground.data }, { on := 27, ground := Go.Ground.data }, { on := 14, ground := Go.Ground.guard }], guard := some (14, true) }) (v := ?_) rfl (by kernel_rfl) (by kernel_rfl) (by kernel_rfl) (fun _ _ _ h => h) (Or.inl ⟨by rfl, ?_⟩) (by assumption) ?_
          (rotate_left; focus (intro wS hSw; (try dsimp only at hSw); go_simp; (try rw [if_neg (by omega)]); try with_reducible rfl))
          (try simp only [Act.put, List.setIfInBounds_toArray, List.set_cons_zero, List.set_cons_succ])
          refine wpAnyH_take (i := 29) (oi := { dst := some 51, op := Go.Op.binOp Go.BinOp.eql 5 (Go.Operand.tmp 43) (Go.Operand.tmp 50) 5, type := 4, pos := "patch.go:117", after := #[{ on := 21, ground := Go.Ground.data }, { on := 28, ground := Go.Ground.data }, { on := 14, ground := Go.Ground.guard }], guard := some (14, true) }) (v := ?_) rfl (by kernel_rfl) (by kernel_rfl) (by kernel_rfl) (fun _ _ _ h => h) (Or.inl ⟨by rfl, ?_⟩) (by assumption) ?_
          (rotate_left; focus (intro wS hSw; (try dsimp only at hSw); go_simp; (try rw [if_neg (by omega)]); try with_reducible rfl))
          (try simp only [Act.put, List.setIfInBounds_toArray, List.set_cons_zero, List.set_cons_succ])
          refine wpAnyH_take (i := 30) (oi := { dst := some 52, op := Go.Op.pick (Go.Operand.tmp 36) (Go.Operand.tmp 51) (Go.Operand.const (Go.Value.bool false)), type := 4, pos := "patch.go:117", after := #[{ on := 14, ground := Go.Ground.data }, { on := 29, ground := Go.Ground.data }], guard := none }) (v := ?_) rfl (by kernel_rfl) (by kernel_rfl) (by kernel_rfl) (fun _ _ _ h => h) (Or.inl ⟨by rfl, ?_⟩) (by assumption) ?_
          (rotate_left; focus (intro wS hSw; (try dsimp only at hSw); go_simp; (try rw [if_neg (by omega)]); try with_reducible rfl))
          (try simp only [Act.put, List.setIfInBounds_toArray, List.set_cons_zero, List.set_cons_succ])
          refine wpAnyH_done (by kernel_rfl) ?_ _
          go_wp2
          go_roundw
          case rel => exact ⟨t + 1, by go_num, by omega, by omega, HN.out, HB.out.drew⟩
          case measure => simp [intOf]; omega
        · have e1 : ((old[io].toNat : Int) == (now[jn].toNat : Int)) = false := by
            rw [beq_eq_false_iff_ne]
            intro h
            exact e (UInt8.toNat_inj.1 (by omega))
          refine wp_region_held_drew (S := fun _ => True) (by kernel_rfl) (trivial) (fun hHeld => ?_)
          refine wpAnyH_take (i := 0) (oi := { dst := some 22, op := Go.Op.move (Go.Operand.tmp 7), type := 3, pos := "patch.go:117", after := #[], guard := none }) (v := ?_) rfl (by kernel_rfl) (by kernel_rfl) (by kernel_rfl) (fun _ _ _ h => h) (Or.inl ⟨by rfl, ?_⟩) (by assumption) ?_
          (rotate_left; focus (intro wS hSw; (try dsimp only at hSw); go_simp; (try rw [if_neg (by omega)]); try with_reducible rfl))
          (try simp only [Act.put, List.setIfInBounds_toArray, List.set_cons_zero, List.set_cons_succ])
          refine wpAnyH_take (i := 1) (oi := { dst := some 23, op := Go.Op.move (Go.Operand.tmp 0), type := 9, pos := "patch.go:117", after := #[], guard := none }) (v := ?_) rfl (by kernel_rfl) (by kernel_rfl) (by kernel_rfl) (fun _ _ _ h => h) (Or.inl ⟨by rfl, ?_⟩) (by assumption) ?_
          (rotate_left; focus (intro wS hSw; (try dsimp only at hSw); go_simp; (try rw [if_neg (by omega)]); try with_reducible rfl))
          (try simp only [Act.put, List.setIfInBounds_toArray, List.set_cons_zero, List.set_cons_succ])
          refine wpAnyH_take (i := 2) (oi := { dst := some 24, op := Go.Op.call { callee := Go.Callee.builtin Go.Builtin.len, args := #[Go.Operand.tmp 23], argTypes := #[9] }, type := 3, pos := "patch.go:117", after := #[{ on := 1, ground := Go.Ground.data }], guard := none }) (v := ?_) rfl (by kernel_rfl) (by kernel_rfl) (by kernel_rfl) (fun _ _ _ h => h) (Or.inl ⟨by rfl, ?_⟩) (by assumption) ?_
          (rotate_left; focus (intro wS hSw; (try dsimp only at hSw); go_simp; (try rw [if_neg (by omega)]); try with_reducible rfl))
          (try simp only [Act.put, List.setIfInBounds_toArray, List.set_cons_zero, List.set_cons_succ])
          refine wpAnyH_take (i := 3) (oi := { dst := some 25, op := Go.Op.move (Go.Operand.tmp 6), type := 3, pos := "patch.go:117", after := #[], guard := none }) (v := ?_) rfl (by kernel_rfl) (by kernel_rfl) (by kernel_rfl) (fun _ _ _ h => h) (Or.inl ⟨by rfl, ?_⟩) (by assumption) ?_
          (rotate_left; focus (intro wS hSw; (try dsimp only at hSw); go_simp; (try rw [if_neg (by omega)]); try with_reducible rfl))
          (try simp only [Act.put, List.setIfInBounds_toArray, List.set_cons_zero, List.set_cons_succ])
          refine wpAnyH_take (i := 4) (oi := { dst := some 26, op := Go.Op.binOp Go.BinOp.sub 3 (Go.Operand.tmp 24) (Go.Operand.tmp 25) 3, type := 3, pos := "patch.go:117", after := #[{ on := 2, ground := Go.Ground.data }, { on := 3, ground := Go.Ground.data }], guard := none }) (v := ?_) rfl (by kernel_rfl) (by kernel_rfl) (by kernel_rfl) (fun _ _ _ h => h) (Or.inl ⟨by rfl, ?_⟩) (by assumption) ?_
          (rotate_left; focus (intro wS hSw; (try dsimp only at hSw); go_simp; (try rw [if_neg (by omega)]); try with_reducible rfl))
          (try simp only [Act.put, List.setIfInBounds_toArray, List.set_cons_zero, List.set_cons_succ])
          refine wpAnyH_take (i := 5) (oi := { dst := some 27, op := Go.Op.binOp Go.BinOp.lss 3 (Go.Operand.tmp 22) (Go.Operand.tmp 26) 3, type := 4, pos := "patch.go:117", after := #[{ on := 0, ground := Go.Ground.data }, { on := 4, ground := Go.Ground.data }], guard := none }) (v := ?_) rfl (by kernel_rfl) (by kernel_rfl) (by kernel_rfl) (fun _ _ _ h => h) (Or.inl ⟨by rfl, ?_⟩) (by assumption) ?_
          (rotate_left; focus (intro wS hSw; (try dsimp only at hSw); go_simp; (try rw [if_neg (by omega)]); try with_reducible rfl))
          (try simp only [Act.put, List.setIfInBounds_toArray, List.set_cons_zero, List.set_cons_succ])
          refine wpAnyH_take (i := 6) (oi := { dst := some 28, op := Go.Op.move (Go.Operand.tmp 27), type := 4, pos := "patch.go:117", after := #[{ on := 5, ground := Go.Ground.data }], guard := none }) (v := ?_) rfl (by kernel_rfl) (by kernel_rfl) (by kernel_rfl) (fun _ _ _ h => h) (Or.inl ⟨by rfl, ?_⟩) (by assumption) ?_
          (rotate_left; focus (intro wS hSw; (try dsimp only at hSw); go_simp; (try rw [if_neg (by omega)]); try with_reducible rfl))
          (try simp only [Act.put, List.setIfInBounds_toArray, List.set_cons_zero, List.set_cons_succ])
          refine wpAnyH_take (i := 7) (oi := { dst := some 29, op := Go.Op.move (Go.Operand.tmp 7), type := 3, pos := "patch.go:117", after := #[{ on := 6, ground := Go.Ground.guard }], guard := some (6, true) }) (v := ?_) rfl (by kernel_rfl) (by kernel_rfl) (by kernel_rfl) (fun _ _ _ h => h) (Or.inl ⟨by rfl, ?_⟩) (by assumption) ?_
          (rotate_left; focus (intro wS hSw; (try dsimp only at hSw); go_simp; (try rw [if_neg (by omega)]); try with_reducible rfl))
          (try simp only [Act.put, List.setIfInBounds_toArray, List.set_cons_zero, List.set_cons_succ])
          refine wpAnyH_take (i := 8) (oi := { dst := some 30, op := Go.Op.move (Go.Operand.tmp 1), type := 9, pos := "patch.go:117", after := #[{ on := 6, ground := Go.Ground.guard }], guard := some (6, true) }) (v := ?_) rfl (by kernel_rfl) (by kernel_rfl) (by kernel_rfl) (fun _ _ _ h => h) (Or.inl ⟨by rfl, ?_⟩) (by assumption) ?_
          (rotate_left; focus (intro wS hSw; (try dsimp only at hSw); go_simp; (try rw [if_neg (by omega)]); try with_reducible rfl))
          (try simp only [Act.put, List.setIfInBounds_toArray, List.set_cons_zero, List.set_cons_succ])
          refine wpAnyH_take (i := 9) (oi := { dst := some 31, op := Go.Op.call { callee := Go.Callee.builtin Go.Builtin.len, args := #[Go.Operand.tmp 30], argTypes := #[9] }, type := 3, pos := "patch.go:117", after := #[{ on := 8, ground := Go.Ground.data }, { on := 6, ground := Go.Ground.guard }], guard := some (6, true) }) (v := ?_) rfl (by kernel_rfl) (by kernel_rfl) (by kernel_rfl) (fun _ _ _ h => h) (Or.inl ⟨by rfl, ?_⟩) (by assumption) ?_
          (rotate_left; focus (intro wS hSw; (try dsimp only at hSw); go_simp; (try rw [if_neg (by omega)]); try with_reducible rfl))
          (try simp only [Act.put, List.setIfInBounds_toArray, List.set_cons_zero, List.set_cons_succ])
          refine wpAnyH_take (i := 10) (oi := { dst := some 32, op := Go.Op.move (Go.Operand.tmp 6), type := 3, pos := "patch.go:117", after := #[{ on := 6, ground := Go.Ground.guard }], guard := some (6, true) }) (v := ?_) rfl (by kernel_rfl) (by kernel_rfl) (by kernel_rfl) (fun _ _ _ h => h) (Or.inl ⟨by rfl, ?_⟩) (by assumption) ?_
          (rotate_left; focus (intro wS hSw; (try dsimp only at hSw); go_simp; (try rw [if_neg (by omega)]); try with_reducible rfl))
          (try simp only [Act.put, List.setIfInBounds_toArray, List.set_cons_zero, List.set_cons_succ])
          refine wpAnyH_take (i := 11) (oi := { dst := some 33, op := Go.Op.binOp Go.BinOp.sub 3 (Go.Operand.tmp 31) (Go.Operand.tmp 32) 3, type := 3, pos := "patch.go:117", after := #[{ on := 9, ground := Go.Ground.data }, { on := 10, ground := Go.Ground.data }, { on := 6, ground := Go.Ground.guard }], guard := some (6, true) }) (v := ?_) rfl (by kernel_rfl) (by kernel_rfl) (by kernel_rfl) (fun _ _ _ h => h) (Or.inl ⟨by rfl, ?_⟩) (by assumption) ?_
          (rotate_left; focus (intro wS hSw; (try dsimp only at hSw); go_simp; (try rw [if_neg (by omega)]); try with_reducible rfl))
          (try simp only [Act.put, List.setIfInBounds_toArray, List.set_cons_zero, List.set_cons_succ])
          refine wpAnyH_take (i := 12) (oi := { dst := some 34, op := Go.Op.binOp Go.BinOp.lss 3 (Go.Operand.tmp 29) (Go.Operand.tmp 33) 3, type := 4, pos := "patch.go:117", after := #[{ on := 7, ground := Go.Ground.data }, { on := 11, ground := Go.Ground.data }, { on := 6, ground := Go.Ground.guard }], guard := some (6, true) }) (v := ?_) rfl (by kernel_rfl) (by kernel_rfl) (by kernel_rfl) (fun _ _ _ h => h) (Or.inl ⟨by rfl, ?_⟩) (by assumption) ?_
          (rotate_left; focus (intro wS hSw; (try dsimp only at hSw); go_simp; (try rw [if_neg (by omega)]); try with_reducible rfl))
          (try simp only [Act.put, List.setIfInBounds_toArray, List.set_cons_zero, List.set_cons_succ])
          refine wpAnyH_take (i := 13) (oi := { dst := some 35, op := Go.Op.pick (Go.Operand.tmp 28) (Go.Operand.tmp 34) (Go.Operand.const (Go.Value.bool false)), type := 4, pos := "patch.go:117", after := #[{ on := 6, ground := Go.Ground.data }, { on := 12, ground := Go.Ground.data }], guard := none }) (v := ?_) rfl (by kernel_rfl) (by kernel_rfl) (by kernel_rfl) (fun _ _ _ h => h) (Or.inl ⟨by rfl, ?_⟩) (by assumption) ?_
          (rotate_left; focus (intro wS hSw; (try dsimp only at hSw); go_simp; (try rw [if_neg (by omega)]); try with_reducible rfl))
          (try simp only [Act.put, List.setIfInBounds_toArray, List.set_cons_zero, List.set_cons_succ])
          refine wpAnyH_take (i := 14) (oi := { dst := some 36, op := Go.Op.move (Go.Operand.tmp 35), type := 4, pos := "patch.go:117", after := #[{ on := 13, ground := Go.Ground.data }, { on := 6, ground := Go.Ground.chain }], guard := none }) (v := ?_) rfl (by kernel_rfl) (by kernel_rfl) (by kernel_rfl) (fun _ _ _ h => h) (Or.inl ⟨by rfl, ?_⟩) (by assumption) ?_
          (rotate_left; focus (intro wS hSw; (try dsimp only at hSw); go_simp; (try rw [if_neg (by omega)]); try with_reducible rfl))
          (try simp only [Act.put, List.setIfInBounds_toArray, List.set_cons_zero, List.set_cons_succ])
          refine wpAnyH_take (i := 15) (oi := { dst := some 37, op := Go.Op.move (Go.Operand.tmp 0), type := 9, pos := "patch.go:117", after := #[{ on := 14, ground := Go.Ground.guard }], guard := some (14, true) }) (v := ?_) rfl (by kernel_rfl) (by kernel_rfl) (by kernel_rfl) (fun _ _ _ h => h) (Or.inl ⟨by rfl, ?_⟩) (by assumption) ?_
          (rotate_left; focus (intro wS hSw; (try dsimp only at hSw); go_simp; (try rw [if_neg (by omega)]); try with_reducible rfl))
          (try simp only [Act.put, List.setIfInBounds_toArray, List.set_cons_zero, List.set_cons_succ])
          refine wpAnyH_take (i := 16) (oi := { dst := some 38, op := Go.Op.move (Go.Operand.tmp 0), type := 9, pos := "patch.go:117", after := #[{ on := 14, ground := Go.Ground.guard }], guard := some (14, true) }) (v := ?_) rfl (by kernel_rfl) (by kernel_rfl) (by kernel_rfl) (fun _ _ _ h => h) (Or.inl ⟨by rfl, ?_⟩) (by assumption) ?_
          (rotate_left; focus (intro wS hSw; (try dsimp only at hSw); go_simp; (try rw [if_neg (by omega)]); try with_reducible rfl))
          (try simp only [Act.put, List.setIfInBounds_toArray, List.set_cons_zero, List.set_cons_succ])
          refine wpAnyH_take (i := 17) (oi := { dst := some 39, op := Go.Op.call { callee := Go.Callee.builtin Go.Builtin.len, args := #[Go.Operand.tmp 38], argTypes := #[9] }, type := 3, pos := "patch.go:117", after := #[{ on := 16, ground := Go.Ground.data }, { on := 14, ground := Go.Ground.guard }], guard := some (14, true) }) (v := ?_) rfl (by kernel_rfl) (by kernel_rfl) (by kernel_rfl) (fun _ _ _ h => h) (Or.inl ⟨by rfl, ?_⟩) (by assumption) ?_
          (rotate_left; focus (intro wS hSw; (try dsimp only at hSw); go_simp; (try rw [if_neg (by omega)]); try with_reducible rfl))
          (try simp only [Act.put, List.setIfInBounds_toArray, List.set_cons_zero, List.set_cons_succ])
          refine wpAnyH_take (i := 18) (oi := { dst := some 40, op := Go.Op.binOp Go.BinOp.sub 3 (Go.Operand.tmp 39) (Go.Operand.const (Go.Value.int Go.IntKind.i64 1)) 3, type := 3, pos := "patch.go:117", after := #[{ on := 17, ground := Go.Ground.data }, { on := 14, ground := Go.Ground.guard }], guard := some (14, true) }) (v := ?_) rfl (by kernel_rfl) (by kernel_rfl) (by kernel_rfl) (fun _ _ _ h => h) (Or.inl ⟨by rfl, ?_⟩) (by assumption) ?_
          (rotate_left; focus (intro wS hSw; (try dsimp only at hSw); go_simp; (try rw [if_neg (by omega)]); try with_reducible rfl))
          (try simp only [Act.put, List.setIfInBounds_toArray, List.set_cons_zero, List.set_cons_succ])
          refine wpAnyH_take (i := 19) (oi := { dst := some 41, op := Go.Op.move (Go.Operand.tmp 7), type := 3, pos := "patch.go:117", after := #[{ on := 14, ground := Go.Ground.guard }], guard := some (14, true) }) (v := ?_) rfl (by kernel_rfl) (by kernel_rfl) (by kernel_rfl) (fun _ _ _ h => h) (Or.inl ⟨by rfl, ?_⟩) (by assumption) ?_
          (rotate_left; focus (intro wS hSw; (try dsimp only at hSw); go_simp; (try rw [if_neg (by omega)]); try with_reducible rfl))
          (try simp only [Act.put, List.setIfInBounds_toArray, List.set_cons_zero, List.set_cons_succ])
          refine wpAnyH_take (i := 20) (oi := { dst := some 42, op := Go.Op.binOp Go.BinOp.sub 3 (Go.Operand.tmp 40) (Go.Operand.tmp 41) 3, type := 3, pos := "patch.go:117", after := #[{ on := 18, ground := Go.Ground.data }, { on := 19, ground := Go.Ground.data }, { on := 14, ground := Go.Ground.guard }], guard := some (14, true) }) (v := ?_) rfl (by kernel_rfl) (by kernel_rfl) (by kernel_rfl) (fun _ _ _ h => h) (Or.inl ⟨by rfl, ?_⟩) (by assumption) ?_
          (rotate_left; focus (intro wS hSw; (try dsimp only at hSw); go_simp; (try rw [if_neg (by omega)]); try with_reducible rfl))
          (try simp only [Act.put, List.setIfInBounds_toArray, List.set_cons_zero, List.set_cons_succ])
          refine wpAnyH_take (i := 21) (oi := { dst := some 43, op := Go.Op.index 9 (Go.Operand.tmp 37) (Go.Operand.tmp 42), type := 5, pos := "patch.go:117", after := #[{ on := 15, ground := Go.Ground.data }, { on := 20, ground := Go.Ground.data }, { on := 14, ground := Go.Ground.guard }], guard := some (14, true) }) (v := ?_) rfl (by kernel_rfl) (by kernel_rfl) (by kernel_rfl) (fun _ _ _ h => h) (Or.inl ⟨by rfl, ?_⟩) (by assumption) ?_
          (rotate_left; focus (intro wS hSw; (try dsimp only at hSw); go_simp; (try rw [if_neg (by omega)]); try with_reducible rfl))
          (try simp only [Act.put, List.setIfInBounds_toArray, List.set_cons_zero, List.set_cons_succ])
          refine wpAnyH_take (i := 22) (oi := { dst := some 44, op := Go.Op.move (Go.Operand.tmp 1), type := 9, pos := "patch.go:117", after := #[{ on := 14, ground := Go.Ground.guard }], guard := some (14, true) }) (v := ?_) rfl (by kernel_rfl) (by kernel_rfl) (by kernel_rfl) (fun _ _ _ h => h) (Or.inl ⟨by rfl, ?_⟩) (by assumption) ?_
          (rotate_left; focus (intro wS hSw; (try dsimp only at hSw); go_simp; (try rw [if_neg (by omega)]); try with_reducible rfl))
          (try simp only [Act.put, List.setIfInBounds_toArray, List.set_cons_zero, List.set_cons_succ])
          refine wpAnyH_take (i := 23) (oi := { dst := some 45, op := Go.Op.move (Go.Operand.tmp 1), type := 9, pos := "patch.go:117", after := #[{ on := 14, ground := Go.Ground.guard }], guard := some (14, true) }) (v := ?_) rfl (by kernel_rfl) (by kernel_rfl) (by kernel_rfl) (fun _ _ _ h => h) (Or.inl ⟨by rfl, ?_⟩) (by assumption) ?_
          (rotate_left; focus (intro wS hSw; (try dsimp only at hSw); go_simp; (try rw [if_neg (by omega)]); try with_reducible rfl))
          (try simp only [Act.put, List.setIfInBounds_toArray, List.set_cons_zero, List.set_cons_succ])
          refine wpAnyH_take (i := 24) (oi := { dst := some 46, op := Go.Op.call { callee := Go.Callee.builtin Go.Builtin.len, args := #[Go.Operand.tmp 45], argTypes := #[9] }, type := 3, pos := "patch.go:117", after := #[{ on := 23, ground := Go.Ground.data }, { on := 14, ground := Go.Ground.guard }], guard := some (14, true) }) (v := ?_) rfl (by kernel_rfl) (by kernel_rfl) (by kernel_rfl) (fun _ _ _ h => h) (Or.inl ⟨by rfl, ?_⟩) (by assumption) ?_
          (rotate_left; focus (intro wS hSw; (try dsimp only at hSw); go_simp; (try rw [if_neg (by omega)]); try with_reducible rfl))
          (try simp only [Act.put, List.setIfInBounds_toArray, List.set_cons_zero, List.set_cons_succ])
          refine wpAnyH_take (i := 25) (oi := { dst := some 47, op := Go.Op.binOp Go.BinOp.sub 3 (Go.Operand.tmp 46) (Go.Operand.const (Go.Value.int Go.IntKind.i64 1)) 3, type := 3, pos := "patch.go:117", after := #[{ on := 24, ground := Go.Ground.data }, { on := 14, ground := Go.Ground.guard }], guard := some (14, true) }) (v := ?_) rfl (by kernel_rfl) (by kernel_rfl) (by kernel_rfl) (fun _ _ _ h => h) (Or.inl ⟨by rfl, ?_⟩) (by assumption) ?_
          (rotate_left; focus (intro wS hSw; (try dsimp only at hSw); go_simp; (try rw [if_neg (by omega)]); try with_reducible rfl))
          (try simp only [Act.put, List.setIfInBounds_toArray, List.set_cons_zero, List.set_cons_succ])
          refine wpAnyH_take (i := 26) (oi := { dst := some 48, op := Go.Op.move (Go.Operand.tmp 7), type := 3, pos := "patch.go:117", after := #[{ on := 14, ground := Go.Ground.guard }], guard := some (14, true) }) (v := ?_) rfl (by kernel_rfl) (by kernel_rfl) (by kernel_rfl) (fun _ _ _ h => h) (Or.inl ⟨by rfl, ?_⟩) (by assumption) ?_
          (rotate_left; focus (intro wS hSw; (try dsimp only at hSw); go_simp; (try rw [if_neg (by omega)]); try with_reducible rfl))
          (try simp only [Act.put, List.setIfInBounds_toArray, List.set_cons_zero, List.set_cons_succ])
          refine wpAnyH_take (i := 27) (oi := { dst := some 49, op := Go.Op.binOp Go.BinOp.sub 3 (Go.Operand.tmp 47) (Go.Operand.tmp 48) 3, type := 3, pos := "patch.go:117", after := #[{ on := 25, ground := Go.Ground.data }, { on := 26, ground := Go.Ground.data }, { on := 14, ground := Go.Ground.guard }], guard := some (14, true) }) (v := ?_) rfl (by kernel_rfl) (by kernel_rfl) (by kernel_rfl) (fun _ _ _ h => h) (Or.inl ⟨by rfl, ?_⟩) (by assumption) ?_
          (rotate_left; focus (intro wS hSw; (try dsimp only at hSw); go_simp; (try rw [if_neg (by omega)]); try with_reducible rfl))
          (try simp only [Act.put, List.setIfInBounds_toArray, List.set_cons_zero, List.set_cons_succ])
          refine wpAnyH_take (i := 28) (oi := { dst := some 50, op := Go.Op.index 9 (Go.Operand.tmp 44) (Go.Operand.tmp 49), type := 5, pos := "patch.go:117", after := #[{ on := 22, ground := Go.Ground.data }, { on := 27, ground := Go.Ground.data }, { on := 14, ground := Go.Ground.guard }], guard := some (14, true) }) (v := ?_) rfl (by kernel_rfl) (by kernel_rfl) (by kernel_rfl) (fun _ _ _ h => h) (Or.inl ⟨by rfl, ?_⟩) (by assumption) ?_
          (rotate_left; focus (intro wS hSw; (try dsimp only at hSw); go_simp; (try rw [if_neg (by omega)]); try with_reducible rfl))
          (try simp only [Act.put, List.setIfInBounds_toArray, List.set_cons_zero, List.set_cons_succ])
          refine wpAnyH_take (i := 29) (oi := { dst := some 51, op := Go.Op.binOp Go.BinOp.eql 5 (Go.Operand.tmp 43) (Go.Operand.tmp 50) 5, type := 4, pos := "patch.go:117", after := #[{ on := 21, ground := Go.Ground.data }, { on := 28, ground := Go.Ground.data }, { on := 14, ground := Go.Ground.guard }], guard := some (14, true) }) (v := ?_) rfl (by kernel_rfl) (by kernel_rfl) (by kernel_rfl) (fun _ _ _ h => h) (Or.inl ⟨by rfl, ?_⟩) (by assumption) ?_
          (rotate_left; focus (intro wS hSw; (try dsimp only at hSw); go_simp; (try rw [if_neg (by omega)]); try with_reducible rfl))
          (try simp only [Act.put, List.setIfInBounds_toArray, List.set_cons_zero, List.set_cons_succ])
          refine wpAnyH_take (i := 30) (oi := { dst := some 52, op := Go.Op.pick (Go.Operand.tmp 36) (Go.Operand.tmp 51) (Go.Operand.const (Go.Value.bool false)), type := 4, pos := "patch.go:117", after := #[{ on := 14, ground := Go.Ground.data }, { on := 29, ground := Go.Ground.data }], guard := none }) (v := ?_) rfl (by kernel_rfl) (by kernel_rfl) (by kernel_rfl) (fun _ _ _ h => h) (Or.inl ⟨by rfl, ?_⟩) (by assumption) ?_
          (rotate_left; focus (intro wS hSw; (try dsimp only at hSw); go_simp; (try rw [if_neg (by omega)]); try with_reducible rfl))
          (try simp only [Act.put, List.setIfInBounds_toArray, List.set_cons_zero, List.set_cons_succ])
          refine wpAnyH_done (by kernel_rfl) ?_ _
          have HBD := Lib.hid HB.out.drew
          clear wo wn wo1 wn1 wio wjn e1 d1 d2
          generalize wr.drew = W1 at *
          have hsz := partF_size now h2
          have HF := put_fresh now W1 (by omega)
          have hmz : (now.extract h (now.size - t)).size = now.size - t - h := by rw [ByteArray.size_extract]; omega
          have HPO := Lib.hid (outs_psOf old now h t (by omega) (by omega) HH.out HT.out)
          have HPO2 := Lib.hid (ok_psOf old (now.extract h (now.size - t)) h t (by omega) (by omega))
          have HPL := Lib.hid (catP_one (.fresh now))
          have HPF := Lib.hid (show ∀ x ∈ [Part.fresh now], okP old x from fun x hx => by rw [List.mem_singleton.1 hx]; show now.size ≤ 65536; omega)
          have HPG := Lib.hid (show outsP old [.fresh now] = now from ByteArray.append_empty)
          change Hid (catP [.fresh now] = partF now) at HPL
          generalize partF now = PL at *
          have HCH : Hid (∀ W, Calls Try.prog 8 #[.iface 31 (.agg #[.int .i64 0, .int .i64 h])] W fun e w' => e = .returned (.string (partC 0 h)) ∧ Below W.heap.size W w') := Lib.hid (fun W => put_from 0 h W (by omega) (by omega))
          have HCT : Hid (∀ W, Calls Try.prog 8 #[.iface 31 (.agg #[.int .i64 ((old.size : Int) - (t : Int)), .int .i64 t])] W fun e w' => e = .returned (.string (partC (old.size - t) t)) ∧ Below W.heap.size W w') := Lib.hid (fun W => by have := put_from (old.size - t) t W (by omega) (by omega); rwa [Int.ofNat_sub (by omega)] at this)
          have HCM := Lib.hid (fun W => put_fresh (now.extract h (now.size - t)) W (by omega))
          have z1 : (partC 0 h).size ≤ 24 := partC_size 0 h (by omega) (by omega)
          have z2 : (partF (now.extract h (now.size - t))).size ≤ 5000 := by have := partF_size (now.extract h (now.size - t)) (by omega); omega
          have z3 : (partC (old.size - t) t).size ≤ 24 := partC_size _ t (by omega) (by omega)
          obtain ⟨CH, hCH⟩ : ∃ c, partC 0 h = c := ⟨_, rfl⟩
          obtain ⟨CM, hCM⟩ : ∃ c, partF (now.extract h (now.size - t)) = c := ⟨_, rfl⟩
          obtain ⟨CT, hCT⟩ : ∃ c, partC (old.size - t) t = c := ⟨_, rfl⟩
          rw [hCH] at HCH z1
          rw [hCM] at HCM z2
          rw [hCT] at HCT z3
          have s1 : CH.size + CM.size ≤ 9223372036854775807 := by omega
          have s2 : CH.size + CT.size ≤ 9223372036854775807 := by omega
          have s3 : CM.size + CT.size ≤ 9223372036854775807 := by omega
          have s4 : (CH ++ CM).size + CT.size ≤ 9223372036854775807 := by rw [ByteArray.size_append]; omega
          go_wp2_with fail
          refine HF.mono ?_
          rintro e w2 ⟨rfl, hb⟩
          have HB2 := Lib.hid (below_cons HBD.out hb)
          clear hb HF
          by_cases p1 : 0 < h
          · by_cases p2 : (now.extract h (now.size - t)).size = 0
            · by_cases p3 : 0 < t
              · have HQ : Hid (catP (psOf old.size h (now.extract h (now.size - t)) t) = ((⟨#[]⟩ ++ CH) ++ CT)) := Lib.hid (by rw [catP_psOf, if_pos p1, if_pos p2, if_pos p3]; simp only [hCH, hCM, hCT, emp0, ByteArray.append_empty, ByteArray.empty_append, ByteArray.append_assoc])
                have q2e : (now.extract h (now.size - t)).toList.isEmpty = true := empty_of_zero p2
                clear hCH hCM hCT p2 hmz
                go_wp2_with fail
                refine (HCH.out _).mono ?_
                rintro e w3 ⟨rfl, hb⟩
                have HB3 := Lib.hid (below_cons HB2.out hb)
                clear hb
                go_wp2_with fail
                refine (HCT.out _).mono ?_
                rintro e w4 ⟨rfl, hb⟩
                have HB4 := Lib.hid (below_cons HB3.out hb)
                clear hb
                go_wp2
                all_goals go_ret2
                all_goals first | exact ⟨_, by rw [HQ.out]; rfl, HPO2.out, HPO.out, by simp only [HQ.out, emp0, ByteArray.size_append, ByteArray.size_empty]; omega, HB4.out⟩ | exact ⟨_, by rw [HPL.out]; rfl, HPF.out, HPG.out, by rw [HPL.out]; exact hsz, HB4.out⟩
              · have HQ : Hid (catP (psOf old.size h (now.extract h (now.size - t)) t) = (⟨#[]⟩ ++ CH)) := Lib.hid (by rw [catP_psOf, if_pos p1, if_pos p2, if_neg p3]; simp only [hCH, hCM, hCT, emp0, ByteArray.append_empty, ByteArray.empty_append, ByteArray.append_assoc])
                have q2e : (now.extract h (now.size - t)).toList.isEmpty = true := empty_of_zero p2
                clear hCH hCM hCT p2 hmz
                go_wp2_with fail
                refine (HCH.out _).mono ?_
                rintro e w3 ⟨rfl, hb⟩
                have HB3 := Lib.hid (below_cons HB2.out hb)
                clear hb
                go_wp2
                all_goals go_ret2
                all_goals first | exact ⟨_, by rw [HQ.out]; rfl, HPO2.out, HPO.out, by simp only [HQ.out, emp0, ByteArray.size_append, ByteArray.size_empty]; omega, HB3.out⟩ | exact ⟨_, by rw [HPL.out]; rfl, HPF.out, HPG.out, by rw [HPL.out]; exact hsz, HB3.out⟩
            · by_cases p3 : 0 < t
              · have HQ : Hid (catP (psOf old.size h (now.extract h (now.size - t)) t) = (((⟨#[]⟩ ++ CH) ++ CM) ++ CT)) := Lib.hid (by rw [catP_psOf, if_pos p1, if_neg p2, if_pos p3]; simp only [hCH, hCM, hCT, emp0, ByteArray.append_empty, ByteArray.empty_append, ByteArray.append_assoc])
                have q2e : (now.extract h (now.size - t)).toList.isEmpty = false := nonempty_of_pos (by omega)
                clear hCH hCM hCT p2 hmz
                go_wp2_with fail
                refine (HCH.out _).mono ?_
                rintro e w3 ⟨rfl, hb⟩
                have HB3 := Lib.hid (below_cons HB2.out hb)
                clear hb
                go_wp2_with fail
                refine (HCM.out _).mono ?_
                rintro e w4 ⟨rfl, hb⟩
                have HB4 := Lib.hid (below_cons HB3.out hb)
                clear hb
                go_wp2_with fail
                refine (HCT.out _).mono ?_
                rintro e w5 ⟨rfl, hb⟩
                have HB5 := Lib.hid (below_cons HB4.out hb)
                clear hb
                go_wp2
                all_goals go_ret2
                all_goals first | exact ⟨_, by rw [HQ.out]; rfl, HPO2.out, HPO.out, by simp only [HQ.out, emp0, ByteArray.size_append, ByteArray.size_empty]; omega, HB5.out⟩ | exact ⟨_, by rw [HPL.out]; rfl, HPF.out, HPG.out, by rw [HPL.out]; exact hsz, HB5.out⟩
              · have HQ : Hid (catP (psOf old.size h (now.extract h (now.size - t)) t) = ((⟨#[]⟩ ++ CH) ++ CM)) := Lib.hid (by rw [catP_psOf, if_pos p1, if_neg p2, if_neg p3]; simp only [hCH, hCM, hCT, emp0, ByteArray.append_empty, ByteArray.empty_append, ByteArray.append_assoc])
                have q2e : (now.extract h (now.size - t)).toList.isEmpty = false := nonempty_of_pos (by omega)
                clear hCH hCM hCT p2 hmz
                go_wp2_with fail
                refine (HCH.out _).mono ?_
                rintro e w3 ⟨rfl, hb⟩
                have HB3 := Lib.hid (below_cons HB2.out hb)
                clear hb
                go_wp2_with fail
                refine (HCM.out _).mono ?_
                rintro e w4 ⟨rfl, hb⟩
                have HB4 := Lib.hid (below_cons HB3.out hb)
                clear hb
                go_wp2
                all_goals go_ret2
                all_goals first | exact ⟨_, by rw [HQ.out]; rfl, HPO2.out, HPO.out, by simp only [HQ.out, emp0, ByteArray.size_append, ByteArray.size_empty]; omega, HB4.out⟩ | exact ⟨_, by rw [HPL.out]; rfl, HPF.out, HPG.out, by rw [HPL.out]; exact hsz, HB4.out⟩
          · by_cases p2 : (now.extract h (now.size - t)).size = 0
            · by_cases p3 : 0 < t
              · have HQ : Hid (catP (psOf old.size h (now.extract h (now.size - t)) t) = (⟨#[]⟩ ++ CT)) := Lib.hid (by rw [catP_psOf, if_neg p1, if_pos p2, if_pos p3]; simp only [hCH, hCM, hCT, emp0, ByteArray.append_empty, ByteArray.empty_append, ByteArray.append_assoc])
                have q2e : (now.extract h (now.size - t)).toList.isEmpty = true := empty_of_zero p2
                clear hCH hCM hCT p2 hmz
                go_wp2_with fail
                refine (HCT.out _).mono ?_
                rintro e w3 ⟨rfl, hb⟩
                have HB3 := Lib.hid (below_cons HB2.out hb)
                clear hb
                go_wp2
                all_goals go_ret2
                all_goals first | exact ⟨_, by rw [HQ.out]; rfl, HPO2.out, HPO.out, by simp only [HQ.out, emp0, ByteArray.size_append, ByteArray.size_empty]; omega, HB3.out⟩ | exact ⟨_, by rw [HPL.out]; rfl, HPF.out, HPG.out, by rw [HPL.out]; exact hsz, HB3.out⟩
              · have HQ : Hid (catP (psOf old.size h (now.extract h (now.size - t)) t) = ⟨#[]⟩) := Lib.hid (by rw [catP_psOf, if_neg p1, if_pos p2, if_neg p3]; simp only [hCH, hCM, hCT, emp0, ByteArray.append_empty, ByteArray.empty_append, ByteArray.append_assoc])
                have q2e : (now.extract h (now.size - t)).toList.isEmpty = true := empty_of_zero p2
                clear hCH hCM hCT p2 hmz
                go_wp2
                all_goals go_ret2
                all_goals first | exact ⟨_, by rw [HQ.out]; rfl, HPO2.out, HPO.out, by simp only [HQ.out, emp0, ByteArray.size_append, ByteArray.size_empty]; omega, HB2.out⟩ | exact ⟨_, by rw [HPL.out]; rfl, HPF.out, HPG.out, by rw [HPL.out]; exact hsz, HB2.out⟩
            · by_cases p3 : 0 < t
              · have HQ : Hid (catP (psOf old.size h (now.extract h (now.size - t)) t) = ((⟨#[]⟩ ++ CM) ++ CT)) := Lib.hid (by rw [catP_psOf, if_neg p1, if_neg p2, if_pos p3]; simp only [hCH, hCM, hCT, emp0, ByteArray.append_empty, ByteArray.empty_append, ByteArray.append_assoc])
                have q2e : (now.extract h (now.size - t)).toList.isEmpty = false := nonempty_of_pos (by omega)
                clear hCH hCM hCT p2 hmz
                go_wp2_with fail
                refine (HCM.out _).mono ?_
                rintro e w3 ⟨rfl, hb⟩
                have HB3 := Lib.hid (below_cons HB2.out hb)
                clear hb
                go_wp2_with fail
                refine (HCT.out _).mono ?_
                rintro e w4 ⟨rfl, hb⟩
                have HB4 := Lib.hid (below_cons HB3.out hb)
                clear hb
                go_wp2
                all_goals go_ret2
                all_goals first | exact ⟨_, by rw [HQ.out]; rfl, HPO2.out, HPO.out, by simp only [HQ.out, emp0, ByteArray.size_append, ByteArray.size_empty]; omega, HB4.out⟩ | exact ⟨_, by rw [HPL.out]; rfl, HPF.out, HPG.out, by rw [HPL.out]; exact hsz, HB4.out⟩
              · have HQ : Hid (catP (psOf old.size h (now.extract h (now.size - t)) t) = (⟨#[]⟩ ++ CM)) := Lib.hid (by rw [catP_psOf, if_neg p1, if_neg p2, if_neg p3]; simp only [hCH, hCM, hCT, emp0, ByteArray.append_empty, ByteArray.empty_append, ByteArray.append_assoc])
                have q2e : (now.extract h (now.size - t)).toList.isEmpty = false := nonempty_of_pos (by omega)
                clear hCH hCM hCT p2 hmz
                go_wp2_with fail
                refine (HCM.out _).mono ?_
                rintro e w3 ⟨rfl, hb⟩
                have HB3 := Lib.hid (below_cons HB2.out hb)
                clear hb
                go_wp2
                all_goals go_ret2
                all_goals first | exact ⟨_, by rw [HQ.out]; rfl, HPO2.out, HPO.out, by simp only [HQ.out, emp0, ByteArray.size_append, ByteArray.size_empty]; omega, HB3.out⟩ | exact ⟨_, by rw [HPL.out]; rfl, HPF.out, HPG.out, by rw [HPL.out]; exact hsz, HB3.out⟩
      · have d2 : decide ((t : Int) < (now.size : Int) - (h : Int)) = false := decide_eq_false (by omega)
        go_wp2_with fail
        refine wp_region_held_drew (S := fun _ => True) (by kernel_rfl) (trivial) (fun hHeld => ?_)
        refine wpAnyH_take (i := 0) (oi := { dst := some 22, op := Go.Op.move (Go.Operand.tmp 7), type := 3, pos := "patch.go:117", after := #[], guard := none }) (v := ?_) rfl (by kernel_rfl) (by kernel_rfl) (by kernel_rfl) (fun _ _ _ h => h) (Or.inl ⟨by rfl, ?_⟩) (by assumption) ?_
        (rotate_left; focus (intro wS hSw; (try dsimp only at hSw); go_simp; (try rw [if_neg (by omega)]); try with_reducible rfl))
        (try simp only [Act.put, List.setIfInBounds_toArray, List.set_cons_zero, List.set_cons_succ])
        refine wpAnyH_take (i := 1) (oi := { dst := some 23, op := Go.Op.move (Go.Operand.tmp 0), type := 9, pos := "patch.go:117", after := #[], guard := none }) (v := ?_) rfl (by kernel_rfl) (by kernel_rfl) (by kernel_rfl) (fun _ _ _ h => h) (Or.inl ⟨by rfl, ?_⟩) (by assumption) ?_
        (rotate_left; focus (intro wS hSw; (try dsimp only at hSw); go_simp; (try rw [if_neg (by omega)]); try with_reducible rfl))
        (try simp only [Act.put, List.setIfInBounds_toArray, List.set_cons_zero, List.set_cons_succ])
        refine wpAnyH_take (i := 2) (oi := { dst := some 24, op := Go.Op.call { callee := Go.Callee.builtin Go.Builtin.len, args := #[Go.Operand.tmp 23], argTypes := #[9] }, type := 3, pos := "patch.go:117", after := #[{ on := 1, ground := Go.Ground.data }], guard := none }) (v := ?_) rfl (by kernel_rfl) (by kernel_rfl) (by kernel_rfl) (fun _ _ _ h => h) (Or.inl ⟨by rfl, ?_⟩) (by assumption) ?_
        (rotate_left; focus (intro wS hSw; (try dsimp only at hSw); go_simp; (try rw [if_neg (by omega)]); try with_reducible rfl))
        (try simp only [Act.put, List.setIfInBounds_toArray, List.set_cons_zero, List.set_cons_succ])
        refine wpAnyH_take (i := 3) (oi := { dst := some 25, op := Go.Op.move (Go.Operand.tmp 6), type := 3, pos := "patch.go:117", after := #[], guard := none }) (v := ?_) rfl (by kernel_rfl) (by kernel_rfl) (by kernel_rfl) (fun _ _ _ h => h) (Or.inl ⟨by rfl, ?_⟩) (by assumption) ?_
        (rotate_left; focus (intro wS hSw; (try dsimp only at hSw); go_simp; (try rw [if_neg (by omega)]); try with_reducible rfl))
        (try simp only [Act.put, List.setIfInBounds_toArray, List.set_cons_zero, List.set_cons_succ])
        refine wpAnyH_take (i := 4) (oi := { dst := some 26, op := Go.Op.binOp Go.BinOp.sub 3 (Go.Operand.tmp 24) (Go.Operand.tmp 25) 3, type := 3, pos := "patch.go:117", after := #[{ on := 2, ground := Go.Ground.data }, { on := 3, ground := Go.Ground.data }], guard := none }) (v := ?_) rfl (by kernel_rfl) (by kernel_rfl) (by kernel_rfl) (fun _ _ _ h => h) (Or.inl ⟨by rfl, ?_⟩) (by assumption) ?_
        (rotate_left; focus (intro wS hSw; (try dsimp only at hSw); go_simp; (try rw [if_neg (by omega)]); try with_reducible rfl))
        (try simp only [Act.put, List.setIfInBounds_toArray, List.set_cons_zero, List.set_cons_succ])
        refine wpAnyH_take (i := 5) (oi := { dst := some 27, op := Go.Op.binOp Go.BinOp.lss 3 (Go.Operand.tmp 22) (Go.Operand.tmp 26) 3, type := 4, pos := "patch.go:117", after := #[{ on := 0, ground := Go.Ground.data }, { on := 4, ground := Go.Ground.data }], guard := none }) (v := ?_) rfl (by kernel_rfl) (by kernel_rfl) (by kernel_rfl) (fun _ _ _ h => h) (Or.inl ⟨by rfl, ?_⟩) (by assumption) ?_
        (rotate_left; focus (intro wS hSw; (try dsimp only at hSw); go_simp; (try rw [if_neg (by omega)]); try with_reducible rfl))
        (try simp only [Act.put, List.setIfInBounds_toArray, List.set_cons_zero, List.set_cons_succ])
        refine wpAnyH_take (i := 6) (oi := { dst := some 28, op := Go.Op.move (Go.Operand.tmp 27), type := 4, pos := "patch.go:117", after := #[{ on := 5, ground := Go.Ground.data }], guard := none }) (v := ?_) rfl (by kernel_rfl) (by kernel_rfl) (by kernel_rfl) (fun _ _ _ h => h) (Or.inl ⟨by rfl, ?_⟩) (by assumption) ?_
        (rotate_left; focus (intro wS hSw; (try dsimp only at hSw); go_simp; (try rw [if_neg (by omega)]); try with_reducible rfl))
        (try simp only [Act.put, List.setIfInBounds_toArray, List.set_cons_zero, List.set_cons_succ])
        refine wpAnyH_take (i := 7) (oi := { dst := some 29, op := Go.Op.move (Go.Operand.tmp 7), type := 3, pos := "patch.go:117", after := #[{ on := 6, ground := Go.Ground.guard }], guard := some (6, true) }) (v := ?_) rfl (by kernel_rfl) (by kernel_rfl) (by kernel_rfl) (fun _ _ _ h => h) (Or.inl ⟨by rfl, ?_⟩) (by assumption) ?_
        (rotate_left; focus (intro wS hSw; (try dsimp only at hSw); go_simp; (try rw [if_neg (by omega)]); try with_reducible rfl))
        (try simp only [Act.put, List.setIfInBounds_toArray, List.set_cons_zero, List.set_cons_succ])
        refine wpAnyH_take (i := 8) (oi := { dst := some 30, op := Go.Op.move (Go.Operand.tmp 1), type := 9, pos := "patch.go:117", after := #[{ on := 6, ground := Go.Ground.guard }], guard := some (6, true) }) (v := ?_) rfl (by kernel_rfl) (by kernel_rfl) (by kernel_rfl) (fun _ _ _ h => h) (Or.inl ⟨by rfl, ?_⟩) (by assumption) ?_
        (rotate_left; focus (intro wS hSw; (try dsimp only at hSw); go_simp; (try rw [if_neg (by omega)]); try with_reducible rfl))
        (try simp only [Act.put, List.setIfInBounds_toArray, List.set_cons_zero, List.set_cons_succ])
        refine wpAnyH_take (i := 9) (oi := { dst := some 31, op := Go.Op.call { callee := Go.Callee.builtin Go.Builtin.len, args := #[Go.Operand.tmp 30], argTypes := #[9] }, type := 3, pos := "patch.go:117", after := #[{ on := 8, ground := Go.Ground.data }, { on := 6, ground := Go.Ground.guard }], guard := some (6, true) }) (v := ?_) rfl (by kernel_rfl) (by kernel_rfl) (by kernel_rfl) (fun _ _ _ h => h) (Or.inl ⟨by rfl, ?_⟩) (by assumption) ?_
        (rotate_left; focus (intro wS hSw; (try dsimp only at hSw); go_simp; (try rw [if_neg (by omega)]); try with_reducible rfl))
        (try simp only [Act.put, List.setIfInBounds_toArray, List.set_cons_zero, List.set_cons_succ])
        refine wpAnyH_take (i := 10) (oi := { dst := some 32, op := Go.Op.move (Go.Operand.tmp 6), type := 3, pos := "patch.go:117", after := #[{ on := 6, ground := Go.Ground.guard }], guard := some (6, true) }) (v := ?_) rfl (by kernel_rfl) (by kernel_rfl) (by kernel_rfl) (fun _ _ _ h => h) (Or.inl ⟨by rfl, ?_⟩) (by assumption) ?_
        (rotate_left; focus (intro wS hSw; (try dsimp only at hSw); go_simp; (try rw [if_neg (by omega)]); try with_reducible rfl))
        (try simp only [Act.put, List.setIfInBounds_toArray, List.set_cons_zero, List.set_cons_succ])
        refine wpAnyH_take (i := 11) (oi := { dst := some 33, op := Go.Op.binOp Go.BinOp.sub 3 (Go.Operand.tmp 31) (Go.Operand.tmp 32) 3, type := 3, pos := "patch.go:117", after := #[{ on := 9, ground := Go.Ground.data }, { on := 10, ground := Go.Ground.data }, { on := 6, ground := Go.Ground.guard }], guard := some (6, true) }) (v := ?_) rfl (by kernel_rfl) (by kernel_rfl) (by kernel_rfl) (fun _ _ _ h => h) (Or.inl ⟨by rfl, ?_⟩) (by assumption) ?_
        (rotate_left; focus (intro wS hSw; (try dsimp only at hSw); go_simp; (try rw [if_neg (by omega)]); try with_reducible rfl))
        (try simp only [Act.put, List.setIfInBounds_toArray, List.set_cons_zero, List.set_cons_succ])
        refine wpAnyH_take (i := 12) (oi := { dst := some 34, op := Go.Op.binOp Go.BinOp.lss 3 (Go.Operand.tmp 29) (Go.Operand.tmp 33) 3, type := 4, pos := "patch.go:117", after := #[{ on := 7, ground := Go.Ground.data }, { on := 11, ground := Go.Ground.data }, { on := 6, ground := Go.Ground.guard }], guard := some (6, true) }) (v := ?_) rfl (by kernel_rfl) (by kernel_rfl) (by kernel_rfl) (fun _ _ _ h => h) (Or.inl ⟨by rfl, ?_⟩) (by assumption) ?_
        (rotate_left; focus (intro wS hSw; (try dsimp only at hSw); go_simp; (try rw [if_neg (by omega)]); try with_reducible rfl))
        (try simp only [Act.put, List.setIfInBounds_toArray, List.set_cons_zero, List.set_cons_succ])
        refine wpAnyH_take (i := 13) (oi := { dst := some 35, op := Go.Op.pick (Go.Operand.tmp 28) (Go.Operand.tmp 34) (Go.Operand.const (Go.Value.bool false)), type := 4, pos := "patch.go:117", after := #[{ on := 6, ground := Go.Ground.data }, { on := 12, ground := Go.Ground.data }], guard := none }) (v := ?_) rfl (by kernel_rfl) (by kernel_rfl) (by kernel_rfl) (fun _ _ _ h => h) (Or.inl ⟨by rfl, ?_⟩) (by assumption) ?_
        (rotate_left; focus (intro wS hSw; (try dsimp only at hSw); go_simp; (try rw [if_neg (by omega)]); try with_reducible rfl))
        (try simp only [Act.put, List.setIfInBounds_toArray, List.set_cons_zero, List.set_cons_succ])
        refine wpAnyH_take (i := 14) (oi := { dst := some 36, op := Go.Op.move (Go.Operand.tmp 35), type := 4, pos := "patch.go:117", after := #[{ on := 13, ground := Go.Ground.data }, { on := 6, ground := Go.Ground.chain }], guard := none }) (v := ?_) rfl (by kernel_rfl) (by kernel_rfl) (by kernel_rfl) (fun _ _ _ h => h) (Or.inl ⟨by rfl, ?_⟩) (by assumption) ?_
        (rotate_left; focus (intro wS hSw; (try dsimp only at hSw); go_simp; (try rw [if_neg (by omega)]); try with_reducible rfl))
        (try simp only [Act.put, List.setIfInBounds_toArray, List.set_cons_zero, List.set_cons_succ])
        refine wpAnyH_take (i := 15) (oi := { dst := some 37, op := Go.Op.move (Go.Operand.tmp 0), type := 9, pos := "patch.go:117", after := #[{ on := 14, ground := Go.Ground.guard }], guard := some (14, true) }) (v := undef) rfl (by kernel_rfl) (by kernel_rfl) (by kernel_rfl) (fun _ _ _ h => h) (Or.inr ⟨by rfl, rfl⟩) (by assumption) ?_
        (try simp only [Act.put, List.setIfInBounds_toArray, List.set_cons_zero, List.set_cons_succ])
        refine wpAnyH_take (i := 16) (oi := { dst := some 38, op := Go.Op.move (Go.Operand.tmp 0), type := 9, pos := "patch.go:117", after := #[{ on := 14, ground := Go.Ground.guard }], guard := some (14, true) }) (v := undef) rfl (by kernel_rfl) (by kernel_rfl) (by kernel_rfl) (fun _ _ _ h => h) (Or.inr ⟨by rfl, rfl⟩) (by assumption) ?_
        (try simp only [Act.put, List.setIfInBounds_toArray, List.set_cons_zero, List.set_cons_succ])
        refine wpAnyH_take (i := 17) (oi := { dst := some 39, op := Go.Op.call { callee := Go.Callee.builtin Go.Builtin.len, args := #[Go.Operand.tmp 38], argTypes := #[9] }, type := 3, pos := "patch.go:117", after := #[{ on := 16, ground := Go.Ground.data }, { on := 14, ground := Go.Ground.guard }], guard := some (14, true) }) (v := undef) rfl (by kernel_rfl) (by kernel_rfl) (by kernel_rfl) (fun _ _ _ h => h) (Or.inr ⟨by rfl, rfl⟩) (by assumption) ?_
        (try simp only [Act.put, List.setIfInBounds_toArray, List.set_cons_zero, List.set_cons_succ])
        refine wpAnyH_take (i := 18) (oi := { dst := some 40, op := Go.Op.binOp Go.BinOp.sub 3 (Go.Operand.tmp 39) (Go.Operand.const (Go.Value.int Go.IntKind.i64 1)) 3, type := 3, pos := "patch.go:117", after := #[{ on := 17, ground := Go.Ground.data }, { on := 14, ground := Go.Ground.guard }], guard := some (14, true) }) (v := undef) rfl (by kernel_rfl) (by kernel_rfl) (by kernel_rfl) (fun _ _ _ h => h) (Or.inr ⟨by rfl, rfl⟩) (by assumption) ?_
        (try simp only [Act.put, List.setIfInBounds_toArray, List.set_cons_zero, List.set_cons_succ])
        refine wpAnyH_take (i := 19) (oi := { dst := some 41, op := Go.Op.move (Go.Operand.tmp 7), type := 3, pos := "patch.go:117", after := #[{ on := 14, ground := Go.Ground.guard }], guard := some (14, true) }) (v := undef) rfl (by kernel_rfl) (by kernel_rfl) (by kernel_rfl) (fun _ _ _ h => h) (Or.inr ⟨by rfl, rfl⟩) (by assumption) ?_
        (try simp only [Act.put, List.setIfInBounds_toArray, List.set_cons_zero, List.set_cons_succ])
        refine wpAnyH_take (i := 20) (oi := { dst := some 42, op := Go.Op.binOp Go.BinOp.sub 3 (Go.Operand.tmp 40) (Go.Operand.tmp 41) 3, type := 3, pos := "patch.go:117", after := #[{ on := 18, ground := Go.Ground.data }, { on := 19, ground := Go.Ground.data }, { on := 14, ground := Go.Ground.guard }], guard := some (14, true) }) (v := undef) rfl (by kernel_rfl) (by kernel_rfl) (by kernel_rfl) (fun _ _ _ h => h) (Or.inr ⟨by rfl, rfl⟩) (by assumption) ?_
        (try simp only [Act.put, List.setIfInBounds_toArray, List.set_cons_zero, List.set_cons_succ])
        refine wpAnyH_take (i := 21) (oi := { dst := some 43, op := Go.Op.index 9 (Go.Operand.tmp 37) (Go.Operand.tmp 42), type := 5, pos := "patch.go:117", after := #[{ on := 15, ground := Go.Ground.data }, { on := 20, ground := Go.Ground.data }, { on := 14, ground := Go.Ground.guard }], guard := some (14, true) }) (v := undef) rfl (by kernel_rfl) (by kernel_rfl) (by kernel_rfl) (fun _ _ _ h => h) (Or.inr ⟨by rfl, rfl⟩) (by assumption) ?_
        (try simp only [Act.put, List.setIfInBounds_toArray, List.set_cons_zero, List.set_cons_succ])
        refine wpAnyH_take (i := 22) (oi := { dst := some 44, op := Go.Op.move (Go.Operand.tmp 1), type := 9, pos := "patch.go:117", after := #[{ on := 14, ground := Go.Ground.guard }], guard := some (14, true) }) (v := undef) rfl (by kernel_rfl) (by kernel_rfl) (by kernel_rfl) (fun _ _ _ h => h) (Or.inr ⟨by rfl, rfl⟩) (by assumption) ?_
        (try simp only [Act.put, List.setIfInBounds_toArray, List.set_cons_zero, List.set_cons_succ])
        refine wpAnyH_take (i := 23) (oi := { dst := some 45, op := Go.Op.move (Go.Operand.tmp 1), type := 9, pos := "patch.go:117", after := #[{ on := 14, ground := Go.Ground.guard }], guard := some (14, true) }) (v := undef) rfl (by kernel_rfl) (by kernel_rfl) (by kernel_rfl) (fun _ _ _ h => h) (Or.inr ⟨by rfl, rfl⟩) (by assumption) ?_
        (try simp only [Act.put, List.setIfInBounds_toArray, List.set_cons_zero, List.set_cons_succ])
        refine wpAnyH_take (i := 24) (oi := { dst := some 46, op := Go.Op.call { callee := Go.Callee.builtin Go.Builtin.len, args := #[Go.Operand.tmp 45], argTypes := #[9] }, type := 3, pos := "patch.go:117", after := #[{ on := 23, ground := Go.Ground.data }, { on := 14, ground := Go.Ground.guard }], guard := some (14, true) }) (v := undef) rfl (by kernel_rfl) (by kernel_rfl) (by kernel_rfl) (fun _ _ _ h => h) (Or.inr ⟨by rfl, rfl⟩) (by assumption) ?_
        (try simp only [Act.put, List.setIfInBounds_toArray, List.set_cons_zero, List.set_cons_succ])
        refine wpAnyH_take (i := 25) (oi := { dst := some 47, op := Go.Op.binOp Go.BinOp.sub 3 (Go.Operand.tmp 46) (Go.Operand.const (Go.Value.int Go.IntKind.i64 1)) 3, type := 3, pos := "patch.go:117", after := #[{ on := 24, ground := Go.Ground.data }, { on := 14, ground := Go.Ground.guard }], guard := some (14, true) }) (v := undef) rfl (by kernel_rfl) (by kernel_rfl) (by kernel_rfl) (fun _ _ _ h => h) (Or.inr ⟨by rfl, rfl⟩) (by assumption) ?_
        (try simp only [Act.put, List.setIfInBounds_toArray, List.set_cons_zero, List.set_cons_succ])
        refine wpAnyH_take (i := 26) (oi := { dst := some 48, op := Go.Op.move (Go.Operand.tmp 7), type := 3, pos := "patch.go:117", after := #[{ on := 14, ground := Go.Ground.guard }], guard := some (14, true) }) (v := undef) rfl (by kernel_rfl) (by kernel_rfl) (by kernel_rfl) (fun _ _ _ h => h) (Or.inr ⟨by rfl, rfl⟩) (by assumption) ?_
        (try simp only [Act.put, List.setIfInBounds_toArray, List.set_cons_zero, List.set_cons_succ])
        refine wpAnyH_take (i := 27) (oi := { dst := some 49, op := Go.Op.binOp Go.BinOp.sub 3 (Go.Operand.tmp 47) (Go.Operand.tmp 48) 3, type := 3, pos := "patch.go:117", after := #[{ on := 25, ground := Go.Ground.data }, { on := 26, ground := Go.Ground.data }, { on := 14, ground := Go.Ground.guard }], guard := some (14, true) }) (v := undef) rfl (by kernel_rfl) (by kernel_rfl) (by kernel_rfl) (fun _ _ _ h => h) (Or.inr ⟨by rfl, rfl⟩) (by assumption) ?_
        (try simp only [Act.put, List.setIfInBounds_toArray, List.set_cons_zero, List.set_cons_succ])
        refine wpAnyH_take (i := 28) (oi := { dst := some 50, op := Go.Op.index 9 (Go.Operand.tmp 44) (Go.Operand.tmp 49), type := 5, pos := "patch.go:117", after := #[{ on := 22, ground := Go.Ground.data }, { on := 27, ground := Go.Ground.data }, { on := 14, ground := Go.Ground.guard }], guard := some (14, true) }) (v := undef) rfl (by kernel_rfl) (by kernel_rfl) (by kernel_rfl) (fun _ _ _ h => h) (Or.inr ⟨by rfl, rfl⟩) (by assumption) ?_
        (try simp only [Act.put, List.setIfInBounds_toArray, List.set_cons_zero, List.set_cons_succ])
        refine wpAnyH_take (i := 29) (oi := { dst := some 51, op := Go.Op.binOp Go.BinOp.eql 5 (Go.Operand.tmp 43) (Go.Operand.tmp 50) 5, type := 4, pos := "patch.go:117", after := #[{ on := 21, ground := Go.Ground.data }, { on := 28, ground := Go.Ground.data }, { on := 14, ground := Go.Ground.guard }], guard := some (14, true) }) (v := undef) rfl (by kernel_rfl) (by kernel_rfl) (by kernel_rfl) (fun _ _ _ h => h) (Or.inr ⟨by rfl, rfl⟩) (by assumption) ?_
        (try simp only [Act.put, List.setIfInBounds_toArray, List.set_cons_zero, List.set_cons_succ])
        refine wpAnyH_take (i := 30) (oi := { dst := some 52, op := Go.Op.pick (Go.Operand.tmp 36) (Go.Operand.tmp 51) (Go.Operand.const (Go.Value.bool false)), type := 4, pos := "patch.go:117", after := #[{ on := 14, ground := Go.Ground.data }, { on := 29, ground := Go.Ground.data }], guard := none }) (v := ?_) rfl (by kernel_rfl) (by kernel_rfl) (by kernel_rfl) (fun _ _ _ h => h) (Or.inl ⟨by rfl, ?_⟩) (by assumption) ?_
        (rotate_left; focus (intro wS hSw; (try dsimp only at hSw); go_simp; (try rw [if_neg (by omega)]); try with_reducible rfl))
        (try simp only [Act.put, List.setIfInBounds_toArray, List.set_cons_zero, List.set_cons_succ])
        refine wpAnyH_done (by kernel_rfl) ?_ _
        have HBD := Lib.hid HB.out.drew
        clear wo wn wo1 wn1 d1 d2
        generalize wr.drew = W1 at *
        have hsz := partF_size now h2
        have HF := put_fresh now W1 (by omega)
        have hmz : (now.extract h (now.size - t)).size = now.size - t - h := by rw [ByteArray.size_extract]; omega
        have HPO := Lib.hid (outs_psOf old now h t (by omega) (by omega) HH.out HT.out)
        have HPO2 := Lib.hid (ok_psOf old (now.extract h (now.size - t)) h t (by omega) (by omega))
        have HPL := Lib.hid (catP_one (.fresh now))
        have HPF := Lib.hid (show ∀ x ∈ [Part.fresh now], okP old x from fun x hx => by rw [List.mem_singleton.1 hx]; show now.size ≤ 65536; omega)
        have HPG := Lib.hid (show outsP old [.fresh now] = now from ByteArray.append_empty)
        change Hid (catP [.fresh now] = partF now) at HPL
        generalize partF now = PL at *
        have HCH : Hid (∀ W, Calls Try.prog 8 #[.iface 31 (.agg #[.int .i64 0, .int .i64 h])] W fun e w' => e = .returned (.string (partC 0 h)) ∧ Below W.heap.size W w') := Lib.hid (fun W => put_from 0 h W (by omega) (by omega))
        have HCT : Hid (∀ W, Calls Try.prog 8 #[.iface 31 (.agg #[.int .i64 ((old.size : Int) - (t : Int)), .int .i64 t])] W fun e w' => e = .returned (.string (partC (old.size - t) t)) ∧ Below W.heap.size W w') := Lib.hid (fun W => by have := put_from (old.size - t) t W (by omega) (by omega); rwa [Int.ofNat_sub (by omega)] at this)
        have HCM := Lib.hid (fun W => put_fresh (now.extract h (now.size - t)) W (by omega))
        have z1 : (partC 0 h).size ≤ 24 := partC_size 0 h (by omega) (by omega)
        have z2 : (partF (now.extract h (now.size - t))).size ≤ 5000 := by have := partF_size (now.extract h (now.size - t)) (by omega); omega
        have z3 : (partC (old.size - t) t).size ≤ 24 := partC_size _ t (by omega) (by omega)
        obtain ⟨CH, hCH⟩ : ∃ c, partC 0 h = c := ⟨_, rfl⟩
        obtain ⟨CM, hCM⟩ : ∃ c, partF (now.extract h (now.size - t)) = c := ⟨_, rfl⟩
        obtain ⟨CT, hCT⟩ : ∃ c, partC (old.size - t) t = c := ⟨_, rfl⟩
        rw [hCH] at HCH z1
        rw [hCM] at HCM z2
        rw [hCT] at HCT z3
        have s1 : CH.size + CM.size ≤ 9223372036854775807 := by omega
        have s2 : CH.size + CT.size ≤ 9223372036854775807 := by omega
        have s3 : CM.size + CT.size ≤ 9223372036854775807 := by omega
        have s4 : (CH ++ CM).size + CT.size ≤ 9223372036854775807 := by rw [ByteArray.size_append]; omega
        go_wp2_with fail
        refine HF.mono ?_
        rintro e w2 ⟨rfl, hb⟩
        have HB2 := Lib.hid (below_cons HBD.out hb)
        clear hb HF
        by_cases p1 : 0 < h
        · by_cases p2 : (now.extract h (now.size - t)).size = 0
          · by_cases p3 : 0 < t
            · have HQ : Hid (catP (psOf old.size h (now.extract h (now.size - t)) t) = ((⟨#[]⟩ ++ CH) ++ CT)) := Lib.hid (by rw [catP_psOf, if_pos p1, if_pos p2, if_pos p3]; simp only [hCH, hCM, hCT, emp0, ByteArray.append_empty, ByteArray.empty_append, ByteArray.append_assoc])
              have q2e : (now.extract h (now.size - t)).toList.isEmpty = true := empty_of_zero p2
              clear hCH hCM hCT p2 hmz
              go_wp2_with fail
              refine (HCH.out _).mono ?_
              rintro e w3 ⟨rfl, hb⟩
              have HB3 := Lib.hid (below_cons HB2.out hb)
              clear hb
              go_wp2_with fail
              refine (HCT.out _).mono ?_
              rintro e w4 ⟨rfl, hb⟩
              have HB4 := Lib.hid (below_cons HB3.out hb)
              clear hb
              go_wp2
              all_goals go_ret2
              all_goals first | exact ⟨_, by rw [HQ.out]; rfl, HPO2.out, HPO.out, by simp only [HQ.out, emp0, ByteArray.size_append, ByteArray.size_empty]; omega, HB4.out⟩ | exact ⟨_, by rw [HPL.out]; rfl, HPF.out, HPG.out, by rw [HPL.out]; exact hsz, HB4.out⟩
            · have HQ : Hid (catP (psOf old.size h (now.extract h (now.size - t)) t) = (⟨#[]⟩ ++ CH)) := Lib.hid (by rw [catP_psOf, if_pos p1, if_pos p2, if_neg p3]; simp only [hCH, hCM, hCT, emp0, ByteArray.append_empty, ByteArray.empty_append, ByteArray.append_assoc])
              have q2e : (now.extract h (now.size - t)).toList.isEmpty = true := empty_of_zero p2
              clear hCH hCM hCT p2 hmz
              go_wp2_with fail
              refine (HCH.out _).mono ?_
              rintro e w3 ⟨rfl, hb⟩
              have HB3 := Lib.hid (below_cons HB2.out hb)
              clear hb
              go_wp2
              all_goals go_ret2
              all_goals first | exact ⟨_, by rw [HQ.out]; rfl, HPO2.out, HPO.out, by simp only [HQ.out, emp0, ByteArray.size_append, ByteArray.size_empty]; omega, HB3.out⟩ | exact ⟨_, by rw [HPL.out]; rfl, HPF.out, HPG.out, by rw [HPL.out]; exact hsz, HB3.out⟩
          · by_cases p3 : 0 < t
            · have HQ : Hid (catP (psOf old.size h (now.extract h (now.size - t)) t) = (((⟨#[]⟩ ++ CH) ++ CM) ++ CT)) := Lib.hid (by rw [catP_psOf, if_pos p1, if_neg p2, if_pos p3]; simp only [hCH, hCM, hCT, emp0, ByteArray.append_empty, ByteArray.empty_append, ByteArray.append_assoc])
              have q2e : (now.extract h (now.size - t)).toList.isEmpty = false := nonempty_of_pos (by omega)
              clear hCH hCM hCT p2 hmz
              go_wp2_with fail
              refine (HCH.out _).mono ?_
              rintro e w3 ⟨rfl, hb⟩
              have HB3 := Lib.hid (below_cons HB2.out hb)
              clear hb
              go_wp2_with fail
              refine (HCM.out _).mono ?_
              rintro e w4 ⟨rfl, hb⟩
              have HB4 := Lib.hid (below_cons HB3.out hb)
              clear hb
              go_wp2_with fail
              refine (HCT.out _).mono ?_
              rintro e w5 ⟨rfl, hb⟩
              have HB5 := Lib.hid (below_cons HB4.out hb)
              clear hb
              go_wp2
              all_goals go_ret2
              all_goals first | exact ⟨_, by rw [HQ.out]; rfl, HPO2.out, HPO.out, by simp only [HQ.out, emp0, ByteArray.size_append, ByteArray.size_empty]; omega, HB5.out⟩ | exact ⟨_, by rw [HPL.out]; rfl, HPF.out, HPG.out, by rw [HPL.out]; exact hsz, HB5.out⟩
            · have HQ : Hid (catP (psOf old.size h (now.extract h (now.size - t)) t) = ((⟨#[]⟩ ++ CH) ++ CM)) := Lib.hid (by rw [catP_psOf, if_pos p1, if_neg p2, if_neg p3]; simp only [hCH, hCM, hCT, emp0, ByteArray.append_empty, ByteArray.empty_append, ByteArray.append_assoc])
              have q2e : (now.extract h (now.size - t)).toList.isEmpty = false := nonempty_of_pos (by omega)
              clear hCH hCM hCT p2 hmz
              go_wp2_with fail
              refine (HCH.out _).mono ?_
              rintro e w3 ⟨rfl, hb⟩
              have HB3 := Lib.hid (below_cons HB2.out hb)
              clear hb
              go_wp2_with fail
              refine (HCM.out _).mono ?_
              rintro e w4 ⟨rfl, hb⟩
              have HB4 := Lib.hid (below_cons HB3.out hb)
              clear hb
              go_wp2
              all_goals go_ret2
              all_goals first | exact ⟨_, by rw [HQ.out]; rfl, HPO2.out, HPO.out, by simp only [HQ.out, emp0, ByteArray.size_append, ByteArray.size_empty]; omega, HB4.out⟩ | exact ⟨_, by rw [HPL.out]; rfl, HPF.out, HPG.out, by rw [HPL.out]; exact hsz, HB4.out⟩
        · by_cases p2 : (now.extract h (now.size - t)).size = 0
          · by_cases p3 : 0 < t
            · have HQ : Hid (catP (psOf old.size h (now.extract h (now.size - t)) t) = (⟨#[]⟩ ++ CT)) := Lib.hid (by rw [catP_psOf, if_neg p1, if_pos p2, if_pos p3]; simp only [hCH, hCM, hCT, emp0, ByteArray.append_empty, ByteArray.empty_append, ByteArray.append_assoc])
              have q2e : (now.extract h (now.size - t)).toList.isEmpty = true := empty_of_zero p2
              clear hCH hCM hCT p2 hmz
              go_wp2_with fail
              refine (HCT.out _).mono ?_
              rintro e w3 ⟨rfl, hb⟩
              have HB3 := Lib.hid (below_cons HB2.out hb)
              clear hb
              go_wp2
              all_goals go_ret2
              all_goals first | exact ⟨_, by rw [HQ.out]; rfl, HPO2.out, HPO.out, by simp only [HQ.out, emp0, ByteArray.size_append, ByteArray.size_empty]; omega, HB3.out⟩ | exact ⟨_, by rw [HPL.out]; rfl, HPF.out, HPG.out, by rw [HPL.out]; exact hsz, HB3.out⟩
            · have HQ : Hid (catP (psOf old.size h (now.extract h (now.size - t)) t) = ⟨#[]⟩) := Lib.hid (by rw [catP_psOf, if_neg p1, if_pos p2, if_neg p3]; simp only [hCH, hCM, hCT, emp0, ByteArray.append_empty, ByteArray.empty_append, ByteArray.append_assoc])
              have q2e : (now.extract h (now.size - t)).toList.isEmpty = true := empty_of_zero p2
              clear hCH hCM hCT p2 hmz
              go_wp2
              all_goals go_ret2
              all_goals first | exact ⟨_, by rw [HQ.out]; rfl, HPO2.out, HPO.out, by simp only [HQ.out, emp0, ByteArray.size_append, ByteArray.size_empty]; omega, HB2.out⟩ | exact ⟨_, by rw [HPL.out]; rfl, HPF.out, HPG.out, by rw [HPL.out]; exact hsz, HB2.out⟩
          · by_cases p3 : 0 < t
            · have HQ : Hid (catP (psOf old.size h (now.extract h (now.size - t)) t) = ((⟨#[]⟩ ++ CM) ++ CT)) := Lib.hid (by rw [catP_psOf, if_neg p1, if_neg p2, if_pos p3]; simp only [hCH, hCM, hCT, emp0, ByteArray.append_empty, ByteArray.empty_append, ByteArray.append_assoc])
              have q2e : (now.extract h (now.size - t)).toList.isEmpty = false := nonempty_of_pos (by omega)
              clear hCH hCM hCT p2 hmz
              go_wp2_with fail
              refine (HCM.out _).mono ?_
              rintro e w3 ⟨rfl, hb⟩
              have HB3 := Lib.hid (below_cons HB2.out hb)
              clear hb
              go_wp2_with fail
              refine (HCT.out _).mono ?_
              rintro e w4 ⟨rfl, hb⟩
              have HB4 := Lib.hid (below_cons HB3.out hb)
              clear hb
              go_wp2
              all_goals go_ret2
              all_goals first | exact ⟨_, by rw [HQ.out]; rfl, HPO2.out, HPO.out, by simp only [HQ.out, emp0, ByteArray.size_append, ByteArray.size_empty]; omega, HB4.out⟩ | exact ⟨_, by rw [HPL.out]; rfl, HPF.out, HPG.out, by rw [HPL.out]; exact hsz, HB4.out⟩
            · have HQ : Hid (catP (psOf old.size h (now.extract h (now.size - t)) t) = (⟨#[]⟩ ++ CM)) := Lib.hid (by rw [catP_psOf, if_neg p1, if_neg p2, if_neg p3]; simp only [hCH, hCM, hCT, emp0, ByteArray.append_empty, ByteArray.empty_append, ByteArray.append_assoc])
              have q2e : (now.extract h (now.size - t)).toList.isEmpty = false := nonempty_of_pos (by omega)
              clear hCH hCM hCT p2 hmz
              go_wp2_with fail
              refine (HCM.out _).mono ?_
              rintro e w3 ⟨rfl, hb⟩
              have HB3 := Lib.hid (below_cons HB2.out hb)
              clear hb
              go_wp2
              all_goals go_ret2
              all_goals first | exact ⟨_, by rw [HQ.out]; rfl, HPO2.out, HPO.out, by simp only [HQ.out, emp0, ByteArray.size_append, ByteArray.size_empty]; omega, HB3.out⟩ | exact ⟨_, by rw [HPL.out]; rfl, HPF.out, HPG.out, by rw [HPL.out]; exact hsz, HB3.out⟩
    · have d1 : decide ((t : Int) < (old.size : Int) - (h : Int)) = false := decide_eq_false (by omega)
      go_wp2_with fail
      refine wp_region_held_drew (S := fun _ => True) (by kernel_rfl) (trivial) (fun hHeld => ?_)
      refine wpAnyH_take (i := 0) (oi := { dst := some 22, op := Go.Op.move (Go.Operand.tmp 7), type := 3, pos := "patch.go:117", after := #[], guard := none }) (v := ?_) rfl (by kernel_rfl) (by kernel_rfl) (by kernel_rfl) (fun _ _ _ h => h) (Or.inl ⟨by rfl, ?_⟩) (by assumption) ?_
      (rotate_left; focus (intro wS hSw; (try dsimp only at hSw); go_simp; (try rw [if_neg (by omega)]); try with_reducible rfl))
      (try simp only [Act.put, List.setIfInBounds_toArray, List.set_cons_zero, List.set_cons_succ])
      refine wpAnyH_take (i := 1) (oi := { dst := some 23, op := Go.Op.move (Go.Operand.tmp 0), type := 9, pos := "patch.go:117", after := #[], guard := none }) (v := ?_) rfl (by kernel_rfl) (by kernel_rfl) (by kernel_rfl) (fun _ _ _ h => h) (Or.inl ⟨by rfl, ?_⟩) (by assumption) ?_
      (rotate_left; focus (intro wS hSw; (try dsimp only at hSw); go_simp; (try rw [if_neg (by omega)]); try with_reducible rfl))
      (try simp only [Act.put, List.setIfInBounds_toArray, List.set_cons_zero, List.set_cons_succ])
      refine wpAnyH_take (i := 2) (oi := { dst := some 24, op := Go.Op.call { callee := Go.Callee.builtin Go.Builtin.len, args := #[Go.Operand.tmp 23], argTypes := #[9] }, type := 3, pos := "patch.go:117", after := #[{ on := 1, ground := Go.Ground.data }], guard := none }) (v := ?_) rfl (by kernel_rfl) (by kernel_rfl) (by kernel_rfl) (fun _ _ _ h => h) (Or.inl ⟨by rfl, ?_⟩) (by assumption) ?_
      (rotate_left; focus (intro wS hSw; (try dsimp only at hSw); go_simp; (try rw [if_neg (by omega)]); try with_reducible rfl))
      (try simp only [Act.put, List.setIfInBounds_toArray, List.set_cons_zero, List.set_cons_succ])
      refine wpAnyH_take (i := 3) (oi := { dst := some 25, op := Go.Op.move (Go.Operand.tmp 6), type := 3, pos := "patch.go:117", after := #[], guard := none }) (v := ?_) rfl (by kernel_rfl) (by kernel_rfl) (by kernel_rfl) (fun _ _ _ h => h) (Or.inl ⟨by rfl, ?_⟩) (by assumption) ?_
      (rotate_left; focus (intro wS hSw; (try dsimp only at hSw); go_simp; (try rw [if_neg (by omega)]); try with_reducible rfl))
      (try simp only [Act.put, List.setIfInBounds_toArray, List.set_cons_zero, List.set_cons_succ])
      refine wpAnyH_take (i := 4) (oi := { dst := some 26, op := Go.Op.binOp Go.BinOp.sub 3 (Go.Operand.tmp 24) (Go.Operand.tmp 25) 3, type := 3, pos := "patch.go:117", after := #[{ on := 2, ground := Go.Ground.data }, { on := 3, ground := Go.Ground.data }], guard := none }) (v := ?_) rfl (by kernel_rfl) (by kernel_rfl) (by kernel_rfl) (fun _ _ _ h => h) (Or.inl ⟨by rfl, ?_⟩) (by assumption) ?_
      (rotate_left; focus (intro wS hSw; (try dsimp only at hSw); go_simp; (try rw [if_neg (by omega)]); try with_reducible rfl))
      (try simp only [Act.put, List.setIfInBounds_toArray, List.set_cons_zero, List.set_cons_succ])
      refine wpAnyH_take (i := 5) (oi := { dst := some 27, op := Go.Op.binOp Go.BinOp.lss 3 (Go.Operand.tmp 22) (Go.Operand.tmp 26) 3, type := 4, pos := "patch.go:117", after := #[{ on := 0, ground := Go.Ground.data }, { on := 4, ground := Go.Ground.data }], guard := none }) (v := ?_) rfl (by kernel_rfl) (by kernel_rfl) (by kernel_rfl) (fun _ _ _ h => h) (Or.inl ⟨by rfl, ?_⟩) (by assumption) ?_
      (rotate_left; focus (intro wS hSw; (try dsimp only at hSw); go_simp; (try rw [if_neg (by omega)]); try with_reducible rfl))
      (try simp only [Act.put, List.setIfInBounds_toArray, List.set_cons_zero, List.set_cons_succ])
      refine wpAnyH_take (i := 6) (oi := { dst := some 28, op := Go.Op.move (Go.Operand.tmp 27), type := 4, pos := "patch.go:117", after := #[{ on := 5, ground := Go.Ground.data }], guard := none }) (v := ?_) rfl (by kernel_rfl) (by kernel_rfl) (by kernel_rfl) (fun _ _ _ h => h) (Or.inl ⟨by rfl, ?_⟩) (by assumption) ?_
      (rotate_left; focus (intro wS hSw; (try dsimp only at hSw); go_simp; (try rw [if_neg (by omega)]); try with_reducible rfl))
      (try simp only [Act.put, List.setIfInBounds_toArray, List.set_cons_zero, List.set_cons_succ])
      refine wpAnyH_take (i := 7) (oi := { dst := some 29, op := Go.Op.move (Go.Operand.tmp 7), type := 3, pos := "patch.go:117", after := #[{ on := 6, ground := Go.Ground.guard }], guard := some (6, true) }) (v := undef) rfl (by kernel_rfl) (by kernel_rfl) (by kernel_rfl) (fun _ _ _ h => h) (Or.inr ⟨by rfl, rfl⟩) (by assumption) ?_
      (try simp only [Act.put, List.setIfInBounds_toArray, List.set_cons_zero, List.set_cons_succ])
      refine wpAnyH_take (i := 8) (oi := { dst := some 30, op := Go.Op.move (Go.Operand.tmp 1), type := 9, pos := "patch.go:117", after := #[{ on := 6, ground := Go.Ground.guard }], guard := some (6, true) }) (v := undef) rfl (by kernel_rfl) (by kernel_rfl) (by kernel_rfl) (fun _ _ _ h => h) (Or.inr ⟨by rfl, rfl⟩) (by assumption) ?_
      (try simp only [Act.put, List.setIfInBounds_toArray, List.set_cons_zero, List.set_cons_succ])
      refine wpAnyH_take (i := 9) (oi := { dst := some 31, op := Go.Op.call { callee := Go.Callee.builtin Go.Builtin.len, args := #[Go.Operand.tmp 30], argTypes := #[9] }, type := 3, pos := "patch.go:117", after := #[{ on := 8, ground := Go.Ground.data }, { on := 6, ground := Go.Ground.guard }], guard := some (6, true) }) (v := undef) rfl (by kernel_rfl) (by kernel_rfl) (by kernel_rfl) (fun _ _ _ h => h) (Or.inr ⟨by rfl, rfl⟩) (by assumption) ?_
      (try simp only [Act.put, List.setIfInBounds_toArray, List.set_cons_zero, List.set_cons_succ])
      refine wpAnyH_take (i := 10) (oi := { dst := some 32, op := Go.Op.move (Go.Operand.tmp 6), type := 3, pos := "patch.go:117", after := #[{ on := 6, ground := Go.Ground.guard }], guard := some (6, true) }) (v := undef) rfl (by kernel_rfl) (by kernel_rfl) (by kernel_rfl) (fun _ _ _ h => h) (Or.inr ⟨by rfl, rfl⟩) (by assumption) ?_
      (try simp only [Act.put, List.setIfInBounds_toArray, List.set_cons_zero, List.set_cons_succ])
      refine wpAnyH_take (i := 11) (oi := { dst := some 33, op := Go.Op.binOp Go.BinOp.sub 3 (Go.Operand.tmp 31) (Go.Operand.tmp 32) 3, type := 3, pos := "patch.go:117", after := #[{ on := 9, ground := Go.Ground.data }, { on := 10, ground := Go.Ground.data }, { on := 6, ground := Go.Ground.guard }], guard := some (6, true) }) (v := undef) rfl (by kernel_rfl) (by kernel_rfl) (by kernel_rfl) (fun _ _ _ h => h) (Or.inr ⟨by rfl, rfl⟩) (by assumption) ?_
      (try simp only [Act.put, List.setIfInBounds_toArray, List.set_cons_zero, List.set_cons_succ])
      refine wpAnyH_take (i := 12) (oi := { dst := some 34, op := Go.Op.binOp Go.BinOp.lss 3 (Go.Operand.tmp 29) (Go.Operand.tmp 33) 3, type := 4, pos := "patch.go:117", after := #[{ on := 7, ground := Go.Ground.data }, { on := 11, ground := Go.Ground.data }, { on := 6, ground := Go.Ground.guard }], guard := some (6, true) }) (v := undef) rfl (by kernel_rfl) (by kernel_rfl) (by kernel_rfl) (fun _ _ _ h => h) (Or.inr ⟨by rfl, rfl⟩) (by assumption) ?_
      (try simp only [Act.put, List.setIfInBounds_toArray, List.set_cons_zero, List.set_cons_succ])
      refine wpAnyH_take (i := 13) (oi := { dst := some 35, op := Go.Op.pick (Go.Operand.tmp 28) (Go.Operand.tmp 34) (Go.Operand.const (Go.Value.bool false)), type := 4, pos := "patch.go:117", after := #[{ on := 6, ground := Go.Ground.data }, { on := 12, ground := Go.Ground.data }], guard := none }) (v := ?_) rfl (by kernel_rfl) (by kernel_rfl) (by kernel_rfl) (fun _ _ _ h => h) (Or.inl ⟨by rfl, ?_⟩) (by assumption) ?_
      (rotate_left; focus (intro wS hSw; (try dsimp only at hSw); go_simp; (try rw [if_neg (by omega)]); try with_reducible rfl))
      (try simp only [Act.put, List.setIfInBounds_toArray, List.set_cons_zero, List.set_cons_succ])
      refine wpAnyH_take (i := 14) (oi := { dst := some 36, op := Go.Op.move (Go.Operand.tmp 35), type := 4, pos := "patch.go:117", after := #[{ on := 13, ground := Go.Ground.data }, { on := 6, ground := Go.Ground.chain }], guard := none }) (v := ?_) rfl (by kernel_rfl) (by kernel_rfl) (by kernel_rfl) (fun _ _ _ h => h) (Or.inl ⟨by rfl, ?_⟩) (by assumption) ?_
      (rotate_left; focus (intro wS hSw; (try dsimp only at hSw); go_simp; (try rw [if_neg (by omega)]); try with_reducible rfl))
      (try simp only [Act.put, List.setIfInBounds_toArray, List.set_cons_zero, List.set_cons_succ])
      refine wpAnyH_take (i := 15) (oi := { dst := some 37, op := Go.Op.move (Go.Operand.tmp 0), type := 9, pos := "patch.go:117", after := #[{ on := 14, ground := Go.Ground.guard }], guard := some (14, true) }) (v := undef) rfl (by kernel_rfl) (by kernel_rfl) (by kernel_rfl) (fun _ _ _ h => h) (Or.inr ⟨by rfl, rfl⟩) (by assumption) ?_
      (try simp only [Act.put, List.setIfInBounds_toArray, List.set_cons_zero, List.set_cons_succ])
      refine wpAnyH_take (i := 16) (oi := { dst := some 38, op := Go.Op.move (Go.Operand.tmp 0), type := 9, pos := "patch.go:117", after := #[{ on := 14, ground := Go.Ground.guard }], guard := some (14, true) }) (v := undef) rfl (by kernel_rfl) (by kernel_rfl) (by kernel_rfl) (fun _ _ _ h => h) (Or.inr ⟨by rfl, rfl⟩) (by assumption) ?_
      (try simp only [Act.put, List.setIfInBounds_toArray, List.set_cons_zero, List.set_cons_succ])
      refine wpAnyH_take (i := 17) (oi := { dst := some 39, op := Go.Op.call { callee := Go.Callee.builtin Go.Builtin.len, args := #[Go.Operand.tmp 38], argTypes := #[9] }, type := 3, pos := "patch.go:117", after := #[{ on := 16, ground := Go.Ground.data }, { on := 14, ground := Go.Ground.guard }], guard := some (14, true) }) (v := undef) rfl (by kernel_rfl) (by kernel_rfl) (by kernel_rfl) (fun _ _ _ h => h) (Or.inr ⟨by rfl, rfl⟩) (by assumption) ?_
      (try simp only [Act.put, List.setIfInBounds_toArray, List.set_cons_zero, List.set_cons_succ])
      refine wpAnyH_take (i := 18) (oi := { dst := some 40, op := Go.Op.binOp Go.BinOp.sub 3 (Go.Operand.tmp 39) (Go.Operand.const (Go.Value.int Go.IntKind.i64 1)) 3, type := 3, pos := "patch.go:117", after := #[{ on := 17, ground := Go.Ground.data }, { on := 14, ground := Go.Ground.guard }], guard := some (14, true) }) (v := undef) rfl (by kernel_rfl) (by kernel_rfl) (by kernel_rfl) (fun _ _ _ h => h) (Or.inr ⟨by rfl, rfl⟩) (by assumption) ?_
      (try simp only [Act.put, List.setIfInBounds_toArray, List.set_cons_zero, List.set_cons_succ])
      refine wpAnyH_take (i := 19) (oi := { dst := some 41, op := Go.Op.move (Go.Operand.tmp 7), type := 3, pos := "patch.go:117", after := #[{ on := 14, ground := Go.Ground.guard }], guard := some (14, true) }) (v := undef) rfl (by kernel_rfl) (by kernel_rfl) (by kernel_rfl) (fun _ _ _ h => h) (Or.inr ⟨by rfl, rfl⟩) (by assumption) ?_
      (try simp only [Act.put, List.setIfInBounds_toArray, List.set_cons_zero, List.set_cons_succ])
      refine wpAnyH_take (i := 20) (oi := { dst := some 42, op := Go.Op.binOp Go.BinOp.sub 3 (Go.Operand.tmp 40) (Go.Operand.tmp 41) 3, type := 3, pos := "patch.go:117", after := #[{ on := 18, ground := Go.Ground.data }, { on := 19, ground := Go.Ground.data }, { on := 14, ground := Go.Ground.guard }], guard := some (14, true) }) (v := undef) rfl (by kernel_rfl) (by kernel_rfl) (by kernel_rfl) (fun _ _ _ h => h) (Or.inr ⟨by rfl, rfl⟩) (by assumption) ?_
      (try simp only [Act.put, List.setIfInBounds_toArray, List.set_cons_zero, List.set_cons_succ])
      refine wpAnyH_take (i := 21) (oi := { dst := some 43, op := Go.Op.index 9 (Go.Operand.tmp 37) (Go.Operand.tmp 42), type := 5, pos := "patch.go:117", after := #[{ on := 15, ground := Go.Ground.data }, { on := 20, ground := Go.Ground.data }, { on := 14, ground := Go.Ground.guard }], guard := some (14, true) }) (v := undef) rfl (by kernel_rfl) (by kernel_rfl) (by kernel_rfl) (fun _ _ _ h => h) (Or.inr ⟨by rfl, rfl⟩) (by assumption) ?_
      (try simp only [Act.put, List.setIfInBounds_toArray, List.set_cons_zero, List.set_cons_succ])
      refine wpAnyH_take (i := 22) (oi := { dst := some 44, op := Go.Op.move (Go.Operand.tmp 1), type := 9, pos := "patch.go:117", after := #[{ on := 14, ground := Go.Ground.guard }], guard := some (14, true) }) (v := undef) rfl (by kernel_rfl) (by kernel_rfl) (by kernel_rfl) (fun _ _ _ h => h) (Or.inr ⟨by rfl, rfl⟩) (by assumption) ?_
      (try simp only [Act.put, List.setIfInBounds_toArray, List.set_cons_zero, List.set_cons_succ])
      refine wpAnyH_take (i := 23) (oi := { dst := some 45, op := Go.Op.move (Go.Operand.tmp 1), type := 9, pos := "patch.go:117", after := #[{ on := 14, ground := Go.Ground.guard }], guard := some (14, true) }) (v := undef) rfl (by kernel_rfl) (by kernel_rfl) (by kernel_rfl) (fun _ _ _ h => h) (Or.inr ⟨by rfl, rfl⟩) (by assumption) ?_
      (try simp only [Act.put, List.setIfInBounds_toArray, List.set_cons_zero, List.set_cons_succ])
      refine wpAnyH_take (i := 24) (oi := { dst := some 46, op := Go.Op.call { callee := Go.Callee.builtin Go.Builtin.len, args := #[Go.Operand.tmp 45], argTypes := #[9] }, type := 3, pos := "patch.go:117", after := #[{ on := 23, ground := Go.Ground.data }, { on := 14, ground := Go.Ground.guard }], guard := some (14, true) }) (v := undef) rfl (by kernel_rfl) (by kernel_rfl) (by kernel_rfl) (fun _ _ _ h => h) (Or.inr ⟨by rfl, rfl⟩) (by assumption) ?_
      (try simp only [Act.put, List.setIfInBounds_toArray, List.set_cons_zero, List.set_cons_succ])
      refine wpAnyH_take (i := 25) (oi := { dst := some 47, op := Go.Op.binOp Go.BinOp.sub 3 (Go.Operand.tmp 46) (Go.Operand.const (Go.Value.int Go.IntKind.i64 1)) 3, type := 3, pos := "patch.go:117", after := #[{ on := 24, ground := Go.Ground.data }, { on := 14, ground := Go.Ground.guard }], guard := some (14, true) }) (v := undef) rfl (by kernel_rfl) (by kernel_rfl) (by kernel_rfl) (fun _ _ _ h => h) (Or.inr ⟨by rfl, rfl⟩) (by assumption) ?_
      (try simp only [Act.put, List.setIfInBounds_toArray, List.set_cons_zero, List.set_cons_succ])
      refine wpAnyH_take (i := 26) (oi := { dst := some 48, op := Go.Op.move (Go.Operand.tmp 7), type := 3, pos := "patch.go:117", after := #[{ on := 14, ground := Go.Ground.guard }], guard := some (14, true) }) (v := undef) rfl (by kernel_rfl) (by kernel_rfl) (by kernel_rfl) (fun _ _ _ h => h) (Or.inr ⟨by rfl, rfl⟩) (by assumption) ?_
      (try simp only [Act.put, List.setIfInBounds_toArray, List.set_cons_zero, List.set_cons_succ])
      refine wpAnyH_take (i := 27) (oi := { dst := some 49, op := Go.Op.binOp Go.BinOp.sub 3 (Go.Operand.tmp 47) (Go.Operand.tmp 48) 3, type := 3, pos := "patch.go:117", after := #[{ on := 25, ground := Go.Ground.data }, { on := 26, ground := Go.Ground.data }, { on := 14, ground := Go.Ground.guard }], guard := some (14, true) }) (v := undef) rfl (by kernel_rfl) (by kernel_rfl) (by kernel_rfl) (fun _ _ _ h => h) (Or.inr ⟨by rfl, rfl⟩) (by assumption) ?_
      (try simp only [Act.put, List.setIfInBounds_toArray, List.set_cons_zero, List.set_cons_succ])
      refine wpAnyH_take (i := 28) (oi := { dst := some 50, op := Go.Op.index 9 (Go.Operand.tmp 44) (Go.Operand.tmp 49), type := 5, pos := "patch.go:117", after := #[{ on := 22, ground := Go.Ground.data }, { on := 27, ground := Go.Ground.data }, { on := 14, ground := Go.Ground.guard }], guard := some (14, true) }) (v := undef) rfl (by kernel_rfl) (by kernel_rfl) (by kernel_rfl) (fun _ _ _ h => h) (Or.inr ⟨by rfl, rfl⟩) (by assumption) ?_
      (try simp only [Act.put, List.setIfInBounds_toArray, List.set_cons_zero, List.set_cons_succ])
      refine wpAnyH_take (i := 29) (oi := { dst := some 51, op := Go.Op.binOp Go.BinOp.eql 5 (Go.Operand.tmp 43) (Go.Operand.tmp 50) 5, type := 4, pos := "patch.go:117", after := #[{ on := 21, ground := Go.Ground.data }, { on := 28, ground := Go.Ground.data }, { on := 14, ground := Go.Ground.guard }], guard := some (14, true) }) (v := undef) rfl (by kernel_rfl) (by kernel_rfl) (by kernel_rfl) (fun _ _ _ h => h) (Or.inr ⟨by rfl, rfl⟩) (by assumption) ?_
      (try simp only [Act.put, List.setIfInBounds_toArray, List.set_cons_zero, List.set_cons_succ])
      refine wpAnyH_take (i := 30) (oi := { dst := some 52, op := Go.Op.pick (Go.Operand.tmp 36) (Go.Operand.tmp 51) (Go.Operand.const (Go.Value.bool false)), type := 4, pos := "patch.go:117", after := #[{ on := 14, ground := Go.Ground.data }, { on := 29, ground := Go.Ground.data }], guard := none }) (v := ?_) rfl (by kernel_rfl) (by kernel_rfl) (by kernel_rfl) (fun _ _ _ h => h) (Or.inl ⟨by rfl, ?_⟩) (by assumption) ?_
      (rotate_left; focus (intro wS hSw; (try dsimp only at hSw); go_simp; (try rw [if_neg (by omega)]); try with_reducible rfl))
      (try simp only [Act.put, List.setIfInBounds_toArray, List.set_cons_zero, List.set_cons_succ])
      refine wpAnyH_done (by kernel_rfl) ?_ _
      have HBD := Lib.hid HB.out.drew
      clear wo wn wo1 wn1 d1
      generalize wr.drew = W1 at *
      have hsz := partF_size now h2
      have HF := put_fresh now W1 (by omega)
      have hmz : (now.extract h (now.size - t)).size = now.size - t - h := by rw [ByteArray.size_extract]; omega
      have HPO := Lib.hid (outs_psOf old now h t (by omega) (by omega) HH.out HT.out)
      have HPO2 := Lib.hid (ok_psOf old (now.extract h (now.size - t)) h t (by omega) (by omega))
      have HPL := Lib.hid (catP_one (.fresh now))
      have HPF := Lib.hid (show ∀ x ∈ [Part.fresh now], okP old x from fun x hx => by rw [List.mem_singleton.1 hx]; show now.size ≤ 65536; omega)
      have HPG := Lib.hid (show outsP old [.fresh now] = now from ByteArray.append_empty)
      change Hid (catP [.fresh now] = partF now) at HPL
      generalize partF now = PL at *
      have HCH : Hid (∀ W, Calls Try.prog 8 #[.iface 31 (.agg #[.int .i64 0, .int .i64 h])] W fun e w' => e = .returned (.string (partC 0 h)) ∧ Below W.heap.size W w') := Lib.hid (fun W => put_from 0 h W (by omega) (by omega))
      have HCT : Hid (∀ W, Calls Try.prog 8 #[.iface 31 (.agg #[.int .i64 ((old.size : Int) - (t : Int)), .int .i64 t])] W fun e w' => e = .returned (.string (partC (old.size - t) t)) ∧ Below W.heap.size W w') := Lib.hid (fun W => by have := put_from (old.size - t) t W (by omega) (by omega); rwa [Int.ofNat_sub (by omega)] at this)
      have HCM := Lib.hid (fun W => put_fresh (now.extract h (now.size - t)) W (by omega))
      have z1 : (partC 0 h).size ≤ 24 := partC_size 0 h (by omega) (by omega)
      have z2 : (partF (now.extract h (now.size - t))).size ≤ 5000 := by have := partF_size (now.extract h (now.size - t)) (by omega); omega
      have z3 : (partC (old.size - t) t).size ≤ 24 := partC_size _ t (by omega) (by omega)
      obtain ⟨CH, hCH⟩ : ∃ c, partC 0 h = c := ⟨_, rfl⟩
      obtain ⟨CM, hCM⟩ : ∃ c, partF (now.extract h (now.size - t)) = c := ⟨_, rfl⟩
      obtain ⟨CT, hCT⟩ : ∃ c, partC (old.size - t) t = c := ⟨_, rfl⟩
      rw [hCH] at HCH z1
      rw [hCM] at HCM z2
      rw [hCT] at HCT z3
      have s1 : CH.size + CM.size ≤ 9223372036854775807 := by omega
      have s2 : CH.size + CT.size ≤ 9223372036854775807 := by omega
      have s3 : CM.size + CT.size ≤ 9223372036854775807 := by omega
      have s4 : (CH ++ CM).size + CT.size ≤ 9223372036854775807 := by rw [ByteArray.size_append]; omega
      go_wp2_with fail
      refine HF.mono ?_
      rintro e w2 ⟨rfl, hb⟩
      have HB2 := Lib.hid (below_cons HBD.out hb)
      clear hb HF
      by_cases p1 : 0 < h
      · by_cases p2 : (now.extract h (now.size - t)).size = 0
        · by_cases p3 : 0 < t
          · have HQ : Hid (catP (psOf old.size h (now.extract h (now.size - t)) t) = ((⟨#[]⟩ ++ CH) ++ CT)) := Lib.hid (by rw [catP_psOf, if_pos p1, if_pos p2, if_pos p3]; simp only [hCH, hCM, hCT, emp0, ByteArray.append_empty, ByteArray.empty_append, ByteArray.append_assoc])
            have q2e : (now.extract h (now.size - t)).toList.isEmpty = true := empty_of_zero p2
            clear hCH hCM hCT p2 hmz
            go_wp2_with fail
            refine (HCH.out _).mono ?_
            rintro e w3 ⟨rfl, hb⟩
            have HB3 := Lib.hid (below_cons HB2.out hb)
            clear hb
            go_wp2_with fail
            refine (HCT.out _).mono ?_
            rintro e w4 ⟨rfl, hb⟩
            have HB4 := Lib.hid (below_cons HB3.out hb)
            clear hb
            go_wp2
            all_goals go_ret2
            all_goals first | exact ⟨_, by rw [HQ.out]; rfl, HPO2.out, HPO.out, by simp only [HQ.out, emp0, ByteArray.size_append, ByteArray.size_empty]; omega, HB4.out⟩ | exact ⟨_, by rw [HPL.out]; rfl, HPF.out, HPG.out, by rw [HPL.out]; exact hsz, HB4.out⟩
          · have HQ : Hid (catP (psOf old.size h (now.extract h (now.size - t)) t) = (⟨#[]⟩ ++ CH)) := Lib.hid (by rw [catP_psOf, if_pos p1, if_pos p2, if_neg p3]; simp only [hCH, hCM, hCT, emp0, ByteArray.append_empty, ByteArray.empty_append, ByteArray.append_assoc])
            have q2e : (now.extract h (now.size - t)).toList.isEmpty = true := empty_of_zero p2
            clear hCH hCM hCT p2 hmz
            go_wp2_with fail
            refine (HCH.out _).mono ?_
            rintro e w3 ⟨rfl, hb⟩
            have HB3 := Lib.hid (below_cons HB2.out hb)
            clear hb
            go_wp2
            all_goals go_ret2
            all_goals first | exact ⟨_, by rw [HQ.out]; rfl, HPO2.out, HPO.out, by simp only [HQ.out, emp0, ByteArray.size_append, ByteArray.size_empty]; omega, HB3.out⟩ | exact ⟨_, by rw [HPL.out]; rfl, HPF.out, HPG.out, by rw [HPL.out]; exact hsz, HB3.out⟩
        · by_cases p3 : 0 < t
          · have HQ : Hid (catP (psOf old.size h (now.extract h (now.size - t)) t) = (((⟨#[]⟩ ++ CH) ++ CM) ++ CT)) := Lib.hid (by rw [catP_psOf, if_pos p1, if_neg p2, if_pos p3]; simp only [hCH, hCM, hCT, emp0, ByteArray.append_empty, ByteArray.empty_append, ByteArray.append_assoc])
            have q2e : (now.extract h (now.size - t)).toList.isEmpty = false := nonempty_of_pos (by omega)
            clear hCH hCM hCT p2 hmz
            go_wp2_with fail
            refine (HCH.out _).mono ?_
            rintro e w3 ⟨rfl, hb⟩
            have HB3 := Lib.hid (below_cons HB2.out hb)
            clear hb
            go_wp2_with fail
            refine (HCM.out _).mono ?_
            rintro e w4 ⟨rfl, hb⟩
            have HB4 := Lib.hid (below_cons HB3.out hb)
            clear hb
            go_wp2_with fail
            refine (HCT.out _).mono ?_
            rintro e w5 ⟨rfl, hb⟩
            have HB5 := Lib.hid (below_cons HB4.out hb)
            clear hb
            go_wp2
            all_goals go_ret2
            all_goals first | exact ⟨_, by rw [HQ.out]; rfl, HPO2.out, HPO.out, by simp only [HQ.out, emp0, ByteArray.size_append, ByteArray.size_empty]; omega, HB5.out⟩ | exact ⟨_, by rw [HPL.out]; rfl, HPF.out, HPG.out, by rw [HPL.out]; exact hsz, HB5.out⟩
          · have HQ : Hid (catP (psOf old.size h (now.extract h (now.size - t)) t) = ((⟨#[]⟩ ++ CH) ++ CM)) := Lib.hid (by rw [catP_psOf, if_pos p1, if_neg p2, if_neg p3]; simp only [hCH, hCM, hCT, emp0, ByteArray.append_empty, ByteArray.empty_append, ByteArray.append_assoc])
            have q2e : (now.extract h (now.size - t)).toList.isEmpty = false := nonempty_of_pos (by omega)
            clear hCH hCM hCT p2 hmz
            go_wp2_with fail
            refine (HCH.out _).mono ?_
            rintro e w3 ⟨rfl, hb⟩
            have HB3 := Lib.hid (below_cons HB2.out hb)
            clear hb
            go_wp2_with fail
            refine (HCM.out _).mono ?_
            rintro e w4 ⟨rfl, hb⟩
            have HB4 := Lib.hid (below_cons HB3.out hb)
            clear hb
            go_wp2
            all_goals go_ret2
            all_goals first | exact ⟨_, by rw [HQ.out]; rfl, HPO2.out, HPO.out, by simp only [HQ.out, emp0, ByteArray.size_append, ByteArray.size_empty]; omega, HB4.out⟩ | exact ⟨_, by rw [HPL.out]; rfl, HPF.out, HPG.out, by rw [HPL.out]; exact hsz, HB4.out⟩
      · by_cases p2 : (now.extract h (now.size - t)).size = 0
        · by_cases p3 : 0 < t
          · have HQ : Hid (catP (psOf old.size h (now.extract h (now.size - t)) t) = (⟨#[]⟩ ++ CT)) := Lib.hid (by rw [catP_psOf, if_neg p1, if_pos p2, if_pos p3]; simp only [hCH, hCM, hCT, emp0, ByteArray.append_empty, ByteArray.empty_append, ByteArray.append_assoc])
            have q2e : (now.extract h (now.size - t)).toList.isEmpty = true := empty_of_zero p2
            clear hCH hCM hCT p2 hmz
            go_wp2_with fail
            refine (HCT.out _).mono ?_
            rintro e w3 ⟨rfl, hb⟩
            have HB3 := Lib.hid (below_cons HB2.out hb)
            clear hb
            go_wp2
            all_goals go_ret2
            all_goals first | exact ⟨_, by rw [HQ.out]; rfl, HPO2.out, HPO.out, by simp only [HQ.out, emp0, ByteArray.size_append, ByteArray.size_empty]; omega, HB3.out⟩ | exact ⟨_, by rw [HPL.out]; rfl, HPF.out, HPG.out, by rw [HPL.out]; exact hsz, HB3.out⟩
          · have HQ : Hid (catP (psOf old.size h (now.extract h (now.size - t)) t) = ⟨#[]⟩) := Lib.hid (by rw [catP_psOf, if_neg p1, if_pos p2, if_neg p3]; simp only [hCH, hCM, hCT, emp0, ByteArray.append_empty, ByteArray.empty_append, ByteArray.append_assoc])
            have q2e : (now.extract h (now.size - t)).toList.isEmpty = true := empty_of_zero p2
            clear hCH hCM hCT p2 hmz
            go_wp2
            all_goals go_ret2
            all_goals first | exact ⟨_, by rw [HQ.out]; rfl, HPO2.out, HPO.out, by simp only [HQ.out, emp0, ByteArray.size_append, ByteArray.size_empty]; omega, HB2.out⟩ | exact ⟨_, by rw [HPL.out]; rfl, HPF.out, HPG.out, by rw [HPL.out]; exact hsz, HB2.out⟩
        · by_cases p3 : 0 < t
          · have HQ : Hid (catP (psOf old.size h (now.extract h (now.size - t)) t) = ((⟨#[]⟩ ++ CM) ++ CT)) := Lib.hid (by rw [catP_psOf, if_neg p1, if_neg p2, if_pos p3]; simp only [hCH, hCM, hCT, emp0, ByteArray.append_empty, ByteArray.empty_append, ByteArray.append_assoc])
            have q2e : (now.extract h (now.size - t)).toList.isEmpty = false := nonempty_of_pos (by omega)
            clear hCH hCM hCT p2 hmz
            go_wp2_with fail
            refine (HCM.out _).mono ?_
            rintro e w3 ⟨rfl, hb⟩
            have HB3 := Lib.hid (below_cons HB2.out hb)
            clear hb
            go_wp2_with fail
            refine (HCT.out _).mono ?_
            rintro e w4 ⟨rfl, hb⟩
            have HB4 := Lib.hid (below_cons HB3.out hb)
            clear hb
            go_wp2
            all_goals go_ret2
            all_goals first | exact ⟨_, by rw [HQ.out]; rfl, HPO2.out, HPO.out, by simp only [HQ.out, emp0, ByteArray.size_append, ByteArray.size_empty]; omega, HB4.out⟩ | exact ⟨_, by rw [HPL.out]; rfl, HPF.out, HPG.out, by rw [HPL.out]; exact hsz, HB4.out⟩
          · have HQ : Hid (catP (psOf old.size h (now.extract h (now.size - t)) t) = (⟨#[]⟩ ++ CM)) := Lib.hid (by rw [catP_psOf, if_neg p1, if_neg p2, if_neg p3]; simp only [hCH, hCM, hCT, emp0, ByteArray.append_empty, ByteArray.empty_append, ByteArray.append_assoc])
            have q2e : (now.extract h (now.size - t)).toList.isEmpty = false := nonempty_of_pos (by omega)
            clear hCH hCM hCT p2 hmz
            go_wp2_with fail
            refine (HCM.out _).mono ?_
            rintro e w3 ⟨rfl, hb⟩
            have HB3 := Lib.hid (below_cons HB2.out hb)
            clear hb
            go_wp2
            all_goals go_ret2
            all_goals first | exact ⟨_, by rw [HQ.out]; rfl, HPO2.out, HPO.out, by simp only [HQ.out, emp0, ByteArray.size_append, ByteArray.size_empty]; omega, HB3.out⟩ | exact ⟨_, by rw [HPL.out]; rfl, HPF.out, HPG.out, by rw [HPL.out]; exact hsz, HB3.out⟩
end Go.Proofs.Ythkbeeebdkccdaa

