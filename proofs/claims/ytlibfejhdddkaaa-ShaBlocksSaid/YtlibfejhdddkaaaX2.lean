/-
  The walk of ShaBlocks.
-/
import Derived.Test.YtlibfejhdddkaaaX1
import Derived.Test.YtlibfejhdddkaaaOpen
import Derived.Test.YtlibfejhdddkaaaArr
set_option linter.unusedVariables false
set_option linter.unusedSimpArgs false
namespace Go.Proofs.Ytlibfejhdddkaaa
open Go.RowKit Go.WideShapes Go.ChangeShapes Go.ChangeAt Go.Deep
theorem blocks_big (st : S8) (b : ByteArray) (n : Int) (w : World) (hb : 200 < b.size) : Calls Try.prog 4 #[aggS st, .string b, .int .i64 n] w fun e w' => e = .returned (.bool true) ∧ Below w.heap.size w w' := by
  have d1 : (200 : Int) < (b.size : Int) := by omega
  unfold aggS
  go_enter Try.func4, Try.ntmps4
  go_wp2_with fail
  refine (awake_any _).mono ?_
  rintro e w1 ⟨rfl, hb1⟩
  have HB := Lib.hid (below_alloc hb1)
  clear hb1
  go_wp2
  go_ret
  exact ⟨rfl, HB.out⟩
set_option maxHeartbeats 4000000 in
theorem blocks_walk (st : S8) (hs : st.ok) (b : ByteArray) (n : Int) (w : World) (hb : b.size ≤ 200) (hn : n ≤ 9223372036854775807) : Calls Try.prog 4 #[aggS st, .string b, .int .i64 n] w fun e w' => e = .returned (.bool true) ∧ Below w.heap.size w w' := by
  have d1 : ¬ (200 : Int) < (b.size : Int) := by omega
  obtain ⟨st2, hst2⟩ : ∃ s2, s2 = blk st (byB b) := ⟨_, rfl⟩
  have HB1 : Hid (∀ w, Calls Try.prog 8 #[aggS st, .string b] w fun e w' => e = .returned (aggS st2) ∧ Below w.heap.size w w') := Lib.hid (fun w => by rw [hst2]; exact block_any st b w hs)
  have HB2 : Hid (∀ w, Calls Try.prog 9 #[aggS st, .string b] w fun e w' => e = .returned (aggS st2) ∧ Below w.heap.size w w') := Lib.hid (fun w => by rw [hst2]; exact rblock_any st b w hs (by omega))
  obtain ⟨C, hC⟩ : ∃ C, C = padB n := ⟨_, rfl⟩
  have HP1 : Hid (∀ w, Calls Try.prog 10 #[.int .i64 n] w fun e w' => e = .returned (.string C) ∧ Below w.heap.size w w') := Lib.hid (fun w => by rw [hC]; exact pad_any n w hn)
  have HP2 : Hid (∀ w, Calls Try.prog 11 #[.int .i64 n] w fun e w' => e = .returned (.string C) ∧ Below w.heap.size w w') := Lib.hid (fun w => by rw [hC]; exact rpad_any n w hn)
  have e3 := str_eq (X := C) rfl
  have h0 : Bk w.heap.size (celS st) (w.alloc (.cells (celS st).toArray 26)) := Bk.new w _ _
  have H0 := Lib.hid (show Bk w.heap.size (celS st) (w.alloc (.cells #[.int .u32 (st.a : Int), .int .u32 (st.b : Int), .int .u32 (st.c : Int), .int .u32 (st.d : Int), .int .u32 (st.e : Int), .int .u32 (st.f : Int), .int .u32 (st.g : Int), .int .u32 (st.h : Int)] 26)) from h0)
  have heq : ∀ wS, (Op.equalIn 10000 26 (.agg #[.int .u32 (st2.a : Int), .int .u32 (st2.b : Int), .int .u32 (st2.c : Int), .int .u32 (st2.d : Int), .int .u32 (st2.e : Int), .int .u32 (st2.f : Int), .int .u32 (st2.g : Int), .int .u32 (st2.h : Int)]) (.agg #[.int .u32 (st2.a : Int), .int .u32 (st2.b : Int), .int .u32 (st2.c : Int), .int .u32 (st2.d : Int), .int .u32 (st2.e : Int), .int .u32 (st2.f : Int), .int .u32 (st2.g : Int), .int .u32 (st2.h : Int)])).run Try.prog wS = .ok true wS := fun wS => by
    have h := run_equalIn_arr (P := Try.prog) 26 25 .u32 8 (st2.l.map Int.ofNat) (st2.l.map Int.ofNat) rfl rfl Try.underlying26 Try.underlying25 (fun _ => by kernel_rfl) (fun _ => by kernel_rfl) wS
    rw [decide_eq_true rfl] at h
    exact h
  clear hst2 hC h0
  unfold aggS at HB1 HB2 ⊢
  go_enter Try.func4, Try.ntmps4
  go_wp2
  have hP0 := And.intro H0.out.drew (below_new w (.cells #[.int .u32 (st.a : Int), .int .u32 (st.b : Int), .int .u32 (st.c : Int), .int .u32 (st.d : Int), .int .u32 (st.e : Int), .int .u32 (st.f : Int), .int .u32 (st.g : Int), .int .u32 (st.h : Int)] 26)).drew
  refine wp_region_held_drew (S := fun w' => Bk w.heap.size (celS st) w' ∧ Below w.heap.size w w') (by kernel_rfl) (by (first | exact hP1 | exact hP0)) (fun hHeld => ?_)
  refine wpAnyH_take (i := 0) (oi := { dst := some 11, op := Go.Op.load 26 (Go.Operand.tmp 3), type := 26, pos := "law.go:31", after := #[], guard := none }) (v := ?_) rfl (by kernel_rfl) (by kernel_rfl) (by kernel_rfl) (fun _ _ _ h => h) (Or.inl ⟨by rfl, ?_⟩) (by assumption) ?_
  (rotate_left; focus (intro wS hSw; have s0 := (hSw.1.2 0 _ rfl).1; have s1 := (hSw.1.2 1 _ rfl).1; have s2 := (hSw.1.2 2 _ rfl).1; have s3 := (hSw.1.2 3 _ rfl).1; have s4 := (hSw.1.2 4 _ rfl).1; have s5 := (hSw.1.2 5 _ rfl).1; have s6 := (hSw.1.2 6 _ rfl).1; have s7 := (hSw.1.2 7 _ rfl).1; clear hSw; go_simp; (try rw [if_neg (by omega)]); try with_reducible rfl))
  (try simp only [Act.put, List.setIfInBounds_toArray, List.set_cons_zero, List.set_cons_succ])
  refine wpAnyH_take (i := 1) (oi := { dst := some 12, op := Go.Op.move (Go.Operand.tmp 1), type := 9, pos := "law.go:31", after := #[], guard := none }) (v := ?_) rfl (by kernel_rfl) (by kernel_rfl) (by kernel_rfl) (fun _ _ _ h => h) (Or.inl ⟨by rfl, ?_⟩) (by assumption) ?_
  (rotate_left; focus (intro wS hSw; have s0 := (hSw.1.2 0 _ rfl).1; have s1 := (hSw.1.2 1 _ rfl).1; have s2 := (hSw.1.2 2 _ rfl).1; have s3 := (hSw.1.2 3 _ rfl).1; have s4 := (hSw.1.2 4 _ rfl).1; have s5 := (hSw.1.2 5 _ rfl).1; have s6 := (hSw.1.2 6 _ rfl).1; have s7 := (hSw.1.2 7 _ rfl).1; clear hSw; go_simp; (try rw [if_neg (by omega)]); try with_reducible rfl))
  (try simp only [Act.put, List.setIfInBounds_toArray, List.set_cons_zero, List.set_cons_succ])
  refine wpAnyH_take (i := 3) (oi := { dst := some 14, op := Go.Op.load 26 (Go.Operand.tmp 3), type := 26, pos := "law.go:31", after := #[], guard := none }) (v := ?_) rfl (by kernel_rfl) (by kernel_rfl) (by kernel_rfl) (fun _ _ _ h => h) (Or.inl ⟨by rfl, ?_⟩) (by assumption) ?_
  (rotate_left; focus (intro wS hSw; have s0 := (hSw.1.2 0 _ rfl).1; have s1 := (hSw.1.2 1 _ rfl).1; have s2 := (hSw.1.2 2 _ rfl).1; have s3 := (hSw.1.2 3 _ rfl).1; have s4 := (hSw.1.2 4 _ rfl).1; have s5 := (hSw.1.2 5 _ rfl).1; have s6 := (hSw.1.2 6 _ rfl).1; have s7 := (hSw.1.2 7 _ rfl).1; clear hSw; go_simp; (try rw [if_neg (by omega)]); try with_reducible rfl))
  (try simp only [Act.put, List.setIfInBounds_toArray, List.set_cons_zero, List.set_cons_succ])
  refine wpAnyH_take (i := 4) (oi := { dst := some 15, op := Go.Op.move (Go.Operand.tmp 1), type := 9, pos := "law.go:31", after := #[], guard := none }) (v := ?_) rfl (by kernel_rfl) (by kernel_rfl) (by kernel_rfl) (fun _ _ _ h => h) (Or.inl ⟨by rfl, ?_⟩) (by assumption) ?_
  (rotate_left; focus (intro wS hSw; have s0 := (hSw.1.2 0 _ rfl).1; have s1 := (hSw.1.2 1 _ rfl).1; have s2 := (hSw.1.2 2 _ rfl).1; have s3 := (hSw.1.2 3 _ rfl).1; have s4 := (hSw.1.2 4 _ rfl).1; have s5 := (hSw.1.2 5 _ rfl).1; have s6 := (hSw.1.2 6 _ rfl).1; have s7 := (hSw.1.2 7 _ rfl).1; clear hSw; go_simp; (try rw [if_neg (by omega)]); try with_reducible rfl))
  (try simp only [Act.put, List.setIfInBounds_toArray, List.set_cons_zero, List.set_cons_succ])
  refine wpAnyH_ready (rs := [2]) (by kernel_rfl) (by simp) ?_
  refine AllReadyH.cons (o := { dst := some 13, op := Go.Op.call { callee := Go.Callee.value (Go.Operand.func 8), args := #[Go.Operand.tmp 11, Go.Operand.tmp 12], argTypes := #[26, 9] }, type := 26, pos := "law.go:31", after := #[{ on := 0, ground := Go.Ground.data }, { on := 1, ground := Go.Ground.data }], guard := none }) rfl (fun K hK => ?_) AllReadyH.nil
  go_simp
  refine (HB1.out _).mono ?_
  rintro e v1 ⟨rfl, hv⟩
  have hP1 := And.intro (hHeld.1.keep hv) (below_step hHeld.2 (Nat.le_refl _) hv)
  clear hv
  (try go_wp2_with fail)
  refine hK.out _ _ (by (first | exact hP1 | exact hP0)) (fun hHeld => ?_)
  clear hK K
  (try simp only [Act.put, List.setIfInBounds_toArray, List.set_cons_zero, List.set_cons_succ])
  refine wpAnyH_ready (rs := [5]) (by kernel_rfl) (by simp) ?_
  refine AllReadyH.cons (o := { dst := some 16, op := Go.Op.call { callee := Go.Callee.value (Go.Operand.func 9), args := #[Go.Operand.tmp 14, Go.Operand.tmp 15], argTypes := #[26, 9] }, type := 26, pos := "law.go:31", after := #[{ on := 3, ground := Go.Ground.data }, { on := 4, ground := Go.Ground.data }, { on := 2, ground := Go.Ground.chain }], guard := none }) rfl (fun K hK => ?_) AllReadyH.nil
  go_simp
  refine (HB2.out _).mono ?_
  rintro e v1 ⟨rfl, hv⟩
  have hP1 := And.intro (hHeld.1.keep hv) (below_step hHeld.2 (Nat.le_refl _) hv)
  clear hv
  (try go_wp2_with fail)
  refine hK.out _ _ (by (first | exact hP1 | exact hP0)) (fun hHeld => ?_)
  clear hK K
  (try simp only [Act.put, List.setIfInBounds_toArray, List.set_cons_zero, List.set_cons_succ])
  refine wpAnyH_take (i := 6) (oi := { dst := some 17, op := Go.Op.binOp Go.BinOp.eql 26 (Go.Operand.tmp 13) (Go.Operand.tmp 16) 26, type := 4, pos := "law.go:31", after := #[{ on := 2, ground := Go.Ground.data }, { on := 5, ground := Go.Ground.data }], guard := none }) (v := ?_) rfl (by kernel_rfl) (by kernel_rfl) (by kernel_rfl) (fun _ _ _ h => h) (Or.inl ⟨by rfl, ?_⟩) (by assumption) ?_
  (rotate_left; focus (intro wS hSw; have s0 := (hSw.1.2 0 _ rfl).1; have s1 := (hSw.1.2 1 _ rfl).1; have s2 := (hSw.1.2 2 _ rfl).1; have s3 := (hSw.1.2 3 _ rfl).1; have s4 := (hSw.1.2 4 _ rfl).1; have s5 := (hSw.1.2 5 _ rfl).1; have s6 := (hSw.1.2 6 _ rfl).1; have s7 := (hSw.1.2 7 _ rfl).1; clear hSw; go_simp; (try rw [if_neg (by omega)]); try with_reducible rfl))
  (try simp only [Act.put, List.setIfInBounds_toArray, List.set_cons_zero, List.set_cons_succ])
  refine wpAnyH_take (i := 7) (oi := { dst := some 18, op := Go.Op.move (Go.Operand.tmp 17), type := 4, pos := "law.go:31", after := #[{ on := 6, ground := Go.Ground.data }, { on := 5, ground := Go.Ground.chain }], guard := none }) (v := ?_) rfl (by kernel_rfl) (by kernel_rfl) (by kernel_rfl) (fun _ _ _ h => h) (Or.inl ⟨by rfl, ?_⟩) (by assumption) ?_
  (rotate_left; focus (intro wS hSw; have s0 := (hSw.1.2 0 _ rfl).1; have s1 := (hSw.1.2 1 _ rfl).1; have s2 := (hSw.1.2 2 _ rfl).1; have s3 := (hSw.1.2 3 _ rfl).1; have s4 := (hSw.1.2 4 _ rfl).1; have s5 := (hSw.1.2 5 _ rfl).1; have s6 := (hSw.1.2 6 _ rfl).1; have s7 := (hSw.1.2 7 _ rfl).1; clear hSw; go_simp; (try rw [if_neg (by omega)]); try with_reducible rfl))
  (try simp only [Act.put, List.setIfInBounds_toArray, List.set_cons_zero, List.set_cons_succ])
  refine wpAnyH_take (i := 8) (oi := { dst := some 19, op := Go.Op.move (Go.Operand.tmp 2), type := 3, pos := "law.go:31", after := #[{ on := 7, ground := Go.Ground.guard }], guard := some (7, true) }) (v := ?_) rfl (by kernel_rfl) (by kernel_rfl) (by kernel_rfl) (fun _ _ _ h => h) (Or.inl ⟨by rfl, ?_⟩) (by assumption) ?_
  (rotate_left; focus (intro wS hSw; have s0 := (hSw.1.2 0 _ rfl).1; have s1 := (hSw.1.2 1 _ rfl).1; have s2 := (hSw.1.2 2 _ rfl).1; have s3 := (hSw.1.2 3 _ rfl).1; have s4 := (hSw.1.2 4 _ rfl).1; have s5 := (hSw.1.2 5 _ rfl).1; have s6 := (hSw.1.2 6 _ rfl).1; have s7 := (hSw.1.2 7 _ rfl).1; clear hSw; go_simp; (try rw [if_neg (by omega)]); try with_reducible rfl))
  (try simp only [Act.put, List.setIfInBounds_toArray, List.set_cons_zero, List.set_cons_succ])
  refine wpAnyH_take (i := 10) (oi := { dst := some 21, op := Go.Op.move (Go.Operand.tmp 2), type := 3, pos := "law.go:31", after := #[{ on := 7, ground := Go.Ground.guard }], guard := some (7, true) }) (v := ?_) rfl (by kernel_rfl) (by kernel_rfl) (by kernel_rfl) (fun _ _ _ h => h) (Or.inl ⟨by rfl, ?_⟩) (by assumption) ?_
  (rotate_left; focus (intro wS hSw; have s0 := (hSw.1.2 0 _ rfl).1; have s1 := (hSw.1.2 1 _ rfl).1; have s2 := (hSw.1.2 2 _ rfl).1; have s3 := (hSw.1.2 3 _ rfl).1; have s4 := (hSw.1.2 4 _ rfl).1; have s5 := (hSw.1.2 5 _ rfl).1; have s6 := (hSw.1.2 6 _ rfl).1; have s7 := (hSw.1.2 7 _ rfl).1; clear hSw; go_simp; (try rw [if_neg (by omega)]); try with_reducible rfl))
  (try simp only [Act.put, List.setIfInBounds_toArray, List.set_cons_zero, List.set_cons_succ])
  refine wpAnyH_ready (rs := [9]) (by kernel_rfl) (by simp) ?_
  refine AllReadyH.cons (o := { dst := some 20, op := Go.Op.call { callee := Go.Callee.value (Go.Operand.func 10), args := #[Go.Operand.tmp 19], argTypes := #[3] }, type := 9, pos := "law.go:31", after := #[{ on := 8, ground := Go.Ground.data }, { on := 7, ground := Go.Ground.chain }, { on := 7, ground := Go.Ground.guard }], guard := some (7, true) }) rfl (fun K hK => ?_) AllReadyH.nil
  go_simp
  refine (HP1.out _).mono ?_
  rintro e v1 ⟨rfl, hv⟩
  have hP1 := And.intro (hHeld.1.keep hv) (below_step hHeld.2 (Nat.le_refl _) hv)
  clear hv
  (try go_wp2_with fail)
  refine hK.out _ _ (by (first | exact hP1 | exact hP0)) (fun hHeld => ?_)
  clear hK K
  (try simp only [Act.put, List.setIfInBounds_toArray, List.set_cons_zero, List.set_cons_succ])
  refine wpAnyH_ready (rs := [11]) (by kernel_rfl) (by simp) ?_
  refine AllReadyH.cons (o := { dst := some 22, op := Go.Op.call { callee := Go.Callee.value (Go.Operand.func 11), args := #[Go.Operand.tmp 21], argTypes := #[3] }, type := 9, pos := "law.go:31", after := #[{ on := 10, ground := Go.Ground.data }, { on := 9, ground := Go.Ground.chain }, { on := 7, ground := Go.Ground.guard }], guard := some (7, true) }) rfl (fun K hK => ?_) AllReadyH.nil
  go_simp
  refine (HP2.out _).mono ?_
  rintro e v1 ⟨rfl, hv⟩
  have hP1 := And.intro (hHeld.1.keep hv) (below_step hHeld.2 (Nat.le_refl _) hv)
  clear hv
  (try go_wp2_with fail)
  refine hK.out _ _ (by (first | exact hP1 | exact hP0)) (fun hHeld => ?_)
  clear hK K
  (try simp only [Act.put, List.setIfInBounds_toArray, List.set_cons_zero, List.set_cons_succ])
  refine wpAnyH_take (i := 12) (oi := { dst := some 23, op := Go.Op.binOp Go.BinOp.eql 9 (Go.Operand.tmp 20) (Go.Operand.tmp 22) 9, type := 4, pos := "law.go:31", after := #[{ on := 9, ground := Go.Ground.data }, { on := 11, ground := Go.Ground.data }, { on := 7, ground := Go.Ground.guard }], guard := some (7, true) }) (v := ?_) rfl (by kernel_rfl) (by kernel_rfl) (by kernel_rfl) (fun _ _ _ h => h) (Or.inl ⟨by rfl, ?_⟩) (by assumption) ?_
  (rotate_left; focus (intro wS hSw; have s0 := (hSw.1.2 0 _ rfl).1; have s1 := (hSw.1.2 1 _ rfl).1; have s2 := (hSw.1.2 2 _ rfl).1; have s3 := (hSw.1.2 3 _ rfl).1; have s4 := (hSw.1.2 4 _ rfl).1; have s5 := (hSw.1.2 5 _ rfl).1; have s6 := (hSw.1.2 6 _ rfl).1; have s7 := (hSw.1.2 7 _ rfl).1; clear hSw; go_simp; (try rw [if_neg (by omega)]); try with_reducible rfl))
  (try simp only [Act.put, List.setIfInBounds_toArray, List.set_cons_zero, List.set_cons_succ])
  refine wpAnyH_take (i := 13) (oi := { dst := some 24, op := Go.Op.pick (Go.Operand.tmp 18) (Go.Operand.tmp 23) (Go.Operand.const (Go.Value.bool false)), type := 4, pos := "law.go:31", after := #[{ on := 7, ground := Go.Ground.data }, { on := 12, ground := Go.Ground.data }], guard := none }) (v := ?_) rfl (by kernel_rfl) (by kernel_rfl) (by kernel_rfl) (fun _ _ _ h => h) (Or.inl ⟨by rfl, ?_⟩) (by assumption) ?_
  (rotate_left; focus (intro wS hSw; have s0 := (hSw.1.2 0 _ rfl).1; have s1 := (hSw.1.2 1 _ rfl).1; have s2 := (hSw.1.2 2 _ rfl).1; have s3 := (hSw.1.2 3 _ rfl).1; have s4 := (hSw.1.2 4 _ rfl).1; have s5 := (hSw.1.2 5 _ rfl).1; have s6 := (hSw.1.2 6 _ rfl).1; have s7 := (hSw.1.2 7 _ rfl).1; clear hSw; go_simp; (try rw [if_neg (by omega)]); try with_reducible rfl))
  (try simp only [Act.put, List.setIfInBounds_toArray, List.set_cons_zero, List.set_cons_succ])
  refine wpAnyH_take (i := 14) (oi := { dst := some 25, op := Go.Op.move (Go.Operand.tmp 24), type := 4, pos := "law.go:31", after := #[{ on := 13, ground := Go.Ground.data }, { on := 11, ground := Go.Ground.chain }], guard := none }) (v := ?_) rfl (by kernel_rfl) (by kernel_rfl) (by kernel_rfl) (fun _ _ _ h => h) (Or.inl ⟨by rfl, ?_⟩) (by assumption) ?_
  (rotate_left; focus (intro wS hSw; have s0 := (hSw.1.2 0 _ rfl).1; have s1 := (hSw.1.2 1 _ rfl).1; have s2 := (hSw.1.2 2 _ rfl).1; have s3 := (hSw.1.2 3 _ rfl).1; have s4 := (hSw.1.2 4 _ rfl).1; have s5 := (hSw.1.2 5 _ rfl).1; have s6 := (hSw.1.2 6 _ rfl).1; have s7 := (hSw.1.2 7 _ rfl).1; clear hSw; go_simp; (try rw [if_neg (by omega)]); try with_reducible rfl))
  (try simp only [Act.put, List.setIfInBounds_toArray, List.set_cons_zero, List.set_cons_succ])
  refine wpAnyH_ready (rs := [15]) (by kernel_rfl) (by simp) ?_
  refine AllReadyH.cons (o := { dst := some 26, op := Go.Op.call { callee := Go.Callee.value (Go.Operand.func 5), args := #[], argTypes := #[] }, type := 4, pos := "law.go:31", after := #[{ on := 14, ground := Go.Ground.chain }, { on := 14, ground := Go.Ground.guard }], guard := some (14, true) }) rfl (fun K hK => ?_) AllReadyH.nil
  go_simp
  refine (awake_any _).mono ?_
  rintro e v1 ⟨rfl, hv⟩
  have hP1 := And.intro (hHeld.1.keep hv) (below_step hHeld.2 (Nat.le_refl _) hv)
  clear hv
  (try go_wp2_with fail)
  refine hK.out _ _ (by (first | exact hP1 | exact hP0)) (fun hHeld => ?_)
  clear hK K
  (try simp only [Act.put, List.setIfInBounds_toArray, List.set_cons_zero, List.set_cons_succ])
  refine wpAnyH_take (i := 16) (oi := { dst := some 27, op := Go.Op.pick (Go.Operand.tmp 25) (Go.Operand.tmp 26) (Go.Operand.const (Go.Value.bool false)), type := 4, pos := "law.go:31", after := #[{ on := 14, ground := Go.Ground.data }, { on := 15, ground := Go.Ground.data }], guard := none }) (v := ?_) rfl (by kernel_rfl) (by kernel_rfl) (by kernel_rfl) (fun _ _ _ h => h) (Or.inl ⟨by rfl, ?_⟩) (by assumption) ?_
  (rotate_left; focus (intro wS hSw; have s0 := (hSw.1.2 0 _ rfl).1; have s1 := (hSw.1.2 1 _ rfl).1; have s2 := (hSw.1.2 2 _ rfl).1; have s3 := (hSw.1.2 3 _ rfl).1; have s4 := (hSw.1.2 4 _ rfl).1; have s5 := (hSw.1.2 5 _ rfl).1; have s6 := (hSw.1.2 6 _ rfl).1; have s7 := (hSw.1.2 7 _ rfl).1; clear hSw; go_simp; (try rw [if_neg (by omega)]); try with_reducible rfl))
  (try simp only [Act.put, List.setIfInBounds_toArray, List.set_cons_zero, List.set_cons_succ])
  refine wpAnyH_take (i := 17) (oi := { dst := some 6, op := Go.Op.assign (Go.Operand.tmp 27), type := 4, pos := "law.go:31", after := #[{ on := 16, ground := Go.Ground.data }, { on := 15, ground := Go.Ground.chain }, { on := 0, ground := Go.Ground.phase }, { on := 1, ground := Go.Ground.phase }, { on := 2, ground := Go.Ground.phase }, { on := 3, ground := Go.Ground.phase }, { on := 4, ground := Go.Ground.phase }, { on := 5, ground := Go.Ground.phase }, { on := 6, ground := Go.Ground.phase }, { on := 7, ground := Go.Ground.phase }, { on := 8, ground := Go.Ground.phase }, { on := 9, ground := Go.Ground.phase }, { on := 10, ground := Go.Ground.phase }, { on := 11, ground := Go.Ground.phase }, { on := 12, ground := Go.Ground.phase }, { on := 13, ground := Go.Ground.phase }, { on := 14, ground := Go.Ground.phase }, { on := 15, ground := Go.Ground.phase }, { on := 16, ground := Go.Ground.phase }], guard := none }) (v := ?_) rfl (by kernel_rfl) (by kernel_rfl) (by kernel_rfl) (fun _ _ _ h => h) (Or.inl ⟨by rfl, ?_⟩) (by assumption) ?_
  (rotate_left; focus (intro wS hSw; have s0 := (hSw.1.2 0 _ rfl).1; have s1 := (hSw.1.2 1 _ rfl).1; have s2 := (hSw.1.2 2 _ rfl).1; have s3 := (hSw.1.2 3 _ rfl).1; have s4 := (hSw.1.2 4 _ rfl).1; have s5 := (hSw.1.2 5 _ rfl).1; have s6 := (hSw.1.2 6 _ rfl).1; have s7 := (hSw.1.2 7 _ rfl).1; clear hSw; go_simp; (try rw [if_neg (by omega)]); try with_reducible rfl))
  (try simp only [Act.put, List.setIfInBounds_toArray, List.set_cons_zero, List.set_cons_succ])
  refine wpAnyH_done (by kernel_rfl) ?_ _
  all_goals
    have HBF := Lib.hid hHeld.2
    go_wp2
    go_ret
    exact ⟨rfl, HBF.out⟩
def HOk (s : S8) (v : Value) : Prop := v = aggS s ∧ s.ok
theorem open_h {H : Type} {enc : TypeId × Value → H} {w : World} {base base0 : Nat} {spare : Bool} {held : TypeId → Bool} {r : Reach} {v : Value} {d : DataW H} {p : List MemPlace}
    (hv : Value.okWide Try.prog w r base0 26 v) (h : DataW.Trod enc Try.prog w base held spare 26 v d p) : ∃ s : S8, HOk s v := by
  obtain ⟨zs, rfl, hl, hz⟩ := open_arr Try.underlying26 Try.underlying25 (by kernel_rfl) (by kernel_rfl) hv h
  match zs, hl with
  | [a, b, c, d, e, f, g, h], _ =>
    have key : ∀ z ∈ [a, b, c, d, e, f, g, h], ∃ n : Nat, z = n ∧ n < 4294967296 := fun z hzz => by
      obtain ⟨h0, h1⟩ := bounds_u32 (hz z hzz)
      obtain ⟨n, rfl⟩ := Int.eq_ofNat_of_zero_le h0
      exact ⟨n, rfl, by omega⟩
    obtain ⟨a, rfl, ha⟩ := key a (by simp)
    obtain ⟨b, rfl, hb⟩ := key b (by simp)
    obtain ⟨c, rfl, hc⟩ := key c (by simp)
    obtain ⟨d, rfl, hd⟩ := key d (by simp)
    obtain ⟨e, rfl, he⟩ := key e (by simp)
    obtain ⟨f, rfl, hf⟩ := key f (by simp)
    obtain ⟨g, rfl, hg⟩ := key g (by simp)
    obtain ⟨h, rfl, hh⟩ := key h (by simp)
    exact ⟨⟨a, b, c, d, e, f, g, h⟩, rfl, ha, hb, hc, hd, he, hf, hg, hh⟩
theorem blocks_law (v : Value) (s : S8) (b : ByteArray) (n : Int) (w : World) (h : HOk s v) (w0 : b.size ≤ 140737488351232) (w1 : (Lit.int .i64 n).wf = true) : Calls Try.prog 4 #[v, .string b, .int .i64 n] w fun e w' => e = .returned (.bool true) ∧ Below w.heap.size w w' := by
  obtain ⟨rfl, hs⟩ := h
  by_cases hb : 200 < b.size
  · exact blocks_big s b n w hb
  · exact blocks_walk s hs b n w (by omega) (bounds_i64 w1).2
end Go.Proofs.Ytlibfejhdddkaaa

