/-
  The function that hands the chunks to yield.
-/
import Derived.Test.YtmjcbkjihdbhoaaC
set_option linter.unusedVariables false
set_option linter.unusedSimpArgs false
namespace Go.Proofs.Ytmjcbkjihdbhoaa
open Go.RowKit Go.Shelf
attribute [local go_sem] Oper.semAt_some
theorem box_other {W : World} {B : Nat} {t : TypeId} {v : Value} (h : Boxed W B t v) (c : Nat) (hc : B ≠ c) (u : Value) : Boxed (W.setCell ⟨c, 0, none⟩ u) B t v := (Below.heap_setCell W ⟨c, 0, none⟩ u B hc).trans h
def boxSize (w : World) (b : Nat) : Nat := match w.cell? ⟨b, 0, none⟩ with
  | some (.string s) => s.size
  | _ => 0
set_option maxRecDepth 100000 in
set_option maxHeartbeats 4000000 in
theorem chunks_seq (b : Nat) (s : ByteArray) (lo hi : Nat) (m : Int) (w : World) (hlo : 1 ≤ lo) (hlh : lo ≤ hi) (hhi : hi ≤ 4096) (hs : s.size ≤ 100000)
    (q0 : Boxed w b 9 (.string s)) (q1 : Boxed w (b + 1) 3 (.int .i64 lo)) (q2 : Boxed w (b + 2) 3 (.int .i64 hi)) (q3 : Boxed w (b + 3) 22 (.int .u32 m)) :
    SeqC Try.prog 12 #[.pointer (some ⟨b, 0, none⟩), .pointer (some ⟨b + 2, 0, none⟩), .pointer (some ⟨b + 1, 0, none⟩), .pointer (some ⟨b + 3, 0, none⟩)] Value.string b 4 (cuts lo hi m s) w := by
  intro l J W hW c1 c2 hY hJ0
  have Q0 := Lib.hid (show Boxed W b 9 (.string s) from (hW.block _ q0.lt).trans q0)
  have Q1 := Lib.hid (show Boxed W (b + 1) 3 (.int .i64 lo) from (hW.block _ q1.lt).trans q1)
  have Q2 := Lib.hid (show Boxed W (b + 2) 3 (.int .i64 hi) from (hW.block _ q2.lt).trans q2)
  have Q3 := Lib.hid (show Boxed W (b + 3) 22 (.int .u32 m) from (hW.block _ q3.lt).trans q3)
  have C1 := Lib.hid c1; have C2 := Lib.hid c2; have HY := Lib.hid hY
  clear c1 c2 hY q0 q1 q2 q3 hW
  refine callsIn_of_wp Try.func12 rfl trivial ?_ rfl
  simp only [Try.ntmps12, List.size_toArray, List.length_cons, List.length_nil, Nat.reduceAdd, Nat.reduceSub, Array.replicate_succ, Array.replicate_zero, List.push_toArray, List.append_toArray, List.nil_append, List.cons_append]
  gi_wp2
  gi_loopw [7] (fun v wr => ∃ (pre : List ByteArray) (r : ByteArray), cuts lo hi m s = pre ++ cuts lo hi m r ∧ r.size ≤ 100000 ∧ Boxed wr b 9 (.string r) ∧ Boxed wr (b + 1) 3 (.int .i64 lo) ∧ Boxed wr (b + 2) 3 (.int .i64 hi) ∧ Boxed wr (b + 3) 22 (.int .u32 m) ∧ J pre wr) (fun v wr => boxSize wr b)
  case atStart => exact ⟨[], s, rfl, hs, Q0.out, Q1.out, Q2.out, Q3.out, hJ0⟩
  case round =>
    clear Q0 Q1 Q2 Q3 hJ0
    obtain ⟨pre, r, hcut, hr, q0, q1, q2, q3, hj⟩ := hrel
    have k0 := q0.cell; have k1 := q1.cell; have k2 := q2.cell; have k3 := q3.cell
    have hbs : Hid (boxSize wr b = r.size) := Lib.hid (by unfold boxSize; rw [k0])
    by_cases h0 : r.size = 0
    · have hem := empty_of_zero h0
      have HJ : Hid (J (cuts lo hi m s) wr) := Lib.hid (by rw [hcut, cuts_nil lo hi m r h0, List.append_nil]; exact hj)
      clear q0 q1 q2 q3 hj hcut
      gi_wp2
      go_end0
      exact ⟨⟨_, rfl⟩, HJ.out⟩
    · have hne := nonempty_of_pos (b := r) (by omega)
      have hmin := min2_int; have hmin2 := min_two
      obtain ⟨e, he⟩ : ∃ e, e = min hi r.size := ⟨_, rfl⟩
      obtain ⟨n0, hn0⟩ : ∃ n0, n0 = min lo e := ⟨_, rfl⟩
      have he1 : mn (hi : Int) (r.size : Int) = (e : Int) := by rw [mn_eq]; omega
      have he2 : mn (lo : Int) (e : Int) = (n0 : Int) := by rw [mn_eq]; omega
      obtain ⟨F, hF⟩ : ∃ F, F = fstR r lo hi m := ⟨_, rfl⟩
      have hF2 : F = fstK r m n0 (e - n0) := by rw [hF]; unfold fstR; rw [← he, ← hn0]
      have h1 : n0 ≤ e ∧ e ≤ r.size ∧ 1 ≤ n0 ∧ e ≤ 4096 := by omega
      have HF := Lib.hid hF; have HE := Lib.hid he; have HN0 := Lib.hid hn0
      clear hF he hn0
      gi_wp2
      refine wpIn_wide.2 ?_
      go_loopw [7] (fun v wr2 => ∃ j : Nat, v = .int .i64 j ∧ n0 ≤ j ∧ j ≤ e ∧ F = fstK r m j (e - j) ∧ Boxed wr2 b 9 (.string r) ∧ Boxed wr2 (b + 1) 3 (.int .i64 lo) ∧ Boxed wr2 (b + 2) 3 (.int .i64 hi) ∧ Boxed wr2 (b + 3) 22 (.int .u32 m) ∧ J pre wr2) (fun v _ => e - (intOf v).toNat)
      case atStart => exact ⟨n0, rfl, Nat.le_refl _, h1.1, hF2, q0, q1, q2, q3, hj⟩
      case round =>
        clear k0 k1 k2 k3 q0 q1 q2 q3 hj he1 he2 hmin hmin2 hF2
        obtain ⟨j, rfl, hj1, hj2, hFj, q0, q1, q2, q3, hj⟩ := hrel
        have HQ0 := Lib.hid q0; have HQ1 := Lib.hid q1; have HQ2 := Lib.hid q2; have HQ3 := Lib.hid q3; have HJ := Lib.hid hj
        have HFJ := Lib.hid hFj
        clear hFj hj
        by_cases hlt : j < e
        · have hje : (j : Int) ≤ (r.size : Int) := by omega
          have hP0 : Boxed wr.drew b 9 (.string r) ∧ Boxed wr.drew (b + 3) 22 (.int .u32 m) := ⟨q0, q3⟩
          clear q0 q1 q2 q3
          go_wp2_with fail
          have T := sum_any (r.extract 0 j) wr.drew (by rw [ByteArray.size_extract]; omega)
          have HT := Lib.hid T
          clear T
          by_cases hS : bits .and .u32 (sumR (r.extract 0 j) : Nat) m = 0
          · have HR : Hid (F = j) := Lib.hid (by rw [HFJ.out, show e - j = (e - (j + 1)) + 1 by omega]; unfold fstK; rw [if_pos (show stops r m j from hS)])
            generalize sumR (r.extract 0 j) = X at *
            refine wp_region_held_drew (S := fun w' => Boxed w' b 9 (.string r) ∧ Boxed w' (b + 3) 22 (.int .u32 m)) (by kernel_rfl) (by (first | exact hP0 | exact hP1)) (fun hHeld => ?_)
            refine wpAnyH_take (i := 0) (oi := { dst := some 17, op := Go.Op.move (Go.Operand.tmp 7), type := 3, pos := "roll.go:31", after := #[], guard := none }) (v := ?_) rfl (by kernel_rfl) (by kernel_rfl) (by kernel_rfl) (fun _ _ _ h => h) (Or.inl ⟨by rfl, ?_⟩) (by assumption) ?_
            (rotate_left; focus (intro wS hSw; have s0 := hSw.1.cell; have s1 := hSw.2.cell; clear hSw; go_simp; (try rw [if_neg (by omega)]); try with_reducible rfl))
            (try simp only [Act.put, List.setIfInBounds_toArray, List.set_cons_zero, List.set_cons_succ])
            refine wpAnyH_take (i := 1) (oi := { dst := some 18, op := Go.Op.move (Go.Operand.tmp 6), type := 3, pos := "roll.go:31", after := #[], guard := none }) (v := ?_) rfl (by kernel_rfl) (by kernel_rfl) (by kernel_rfl) (fun _ _ _ h => h) (Or.inl ⟨by rfl, ?_⟩) (by assumption) ?_
            (rotate_left; focus (intro wS hSw; have s0 := hSw.1.cell; have s1 := hSw.2.cell; clear hSw; go_simp; (try rw [if_neg (by omega)]); try with_reducible rfl))
            (try simp only [Act.put, List.setIfInBounds_toArray, List.set_cons_zero, List.set_cons_succ])
            refine wpAnyH_take (i := 2) (oi := { dst := some 19, op := Go.Op.binOp Go.BinOp.lss 3 (Go.Operand.tmp 17) (Go.Operand.tmp 18) 3, type := 4, pos := "roll.go:31", after := #[{ on := 0, ground := Go.Ground.data }, { on := 1, ground := Go.Ground.data }], guard := none }) (v := ?_) rfl (by kernel_rfl) (by kernel_rfl) (by kernel_rfl) (fun _ _ _ h => h) (Or.inl ⟨by rfl, ?_⟩) (by assumption) ?_
            (rotate_left; focus (intro wS hSw; have s0 := hSw.1.cell; have s1 := hSw.2.cell; clear hSw; go_simp; (try rw [if_neg (by omega)]); try with_reducible rfl))
            (try simp only [Act.put, List.setIfInBounds_toArray, List.set_cons_zero, List.set_cons_succ])
            refine wpAnyH_take (i := 3) (oi := { dst := some 20, op := Go.Op.move (Go.Operand.tmp 19), type := 4, pos := "roll.go:31", after := #[{ on := 2, ground := Go.Ground.data }], guard := none }) (v := ?_) rfl (by kernel_rfl) (by kernel_rfl) (by kernel_rfl) (fun _ _ _ h => h) (Or.inl ⟨by rfl, ?_⟩) (by assumption) ?_
            (rotate_left; focus (intro wS hSw; have s0 := hSw.1.cell; have s1 := hSw.2.cell; clear hSw; go_simp; (try rw [if_neg (by omega)]); try with_reducible rfl))
            (try simp only [Act.put, List.setIfInBounds_toArray, List.set_cons_zero, List.set_cons_succ])
            refine wpAnyH_take (i := 4) (oi := { dst := some 21, op := Go.Op.load 9 (Go.Operand.tmp 1), type := 9, pos := "roll.go:31", after := #[{ on := 3, ground := Go.Ground.guard }], guard := some (3, true) }) (v := ?_) rfl (by kernel_rfl) (by kernel_rfl) (by kernel_rfl) (fun _ _ _ h => h) (Or.inl ⟨by rfl, ?_⟩) (by assumption) ?_
            (rotate_left; focus (intro wS hSw; have s0 := hSw.1.cell; have s1 := hSw.2.cell; clear hSw; go_simp; (try rw [if_neg (by omega)]); try with_reducible rfl))
            (try simp only [Act.put, List.setIfInBounds_toArray, List.set_cons_zero, List.set_cons_succ])
            refine wpAnyH_take (i := 5) (oi := { dst := some 22, op := Go.Op.move (Go.Operand.tmp 7), type := 3, pos := "roll.go:31", after := #[{ on := 3, ground := Go.Ground.guard }], guard := some (3, true) }) (v := ?_) rfl (by kernel_rfl) (by kernel_rfl) (by kernel_rfl) (fun _ _ _ h => h) (Or.inl ⟨by rfl, ?_⟩) (by assumption) ?_
            (rotate_left; focus (intro wS hSw; have s0 := hSw.1.cell; have s1 := hSw.2.cell; clear hSw; go_simp; (try rw [if_neg (by omega)]); try with_reducible rfl))
            (try simp only [Act.put, List.setIfInBounds_toArray, List.set_cons_zero, List.set_cons_succ])
            refine wpAnyH_take (i := 6) (oi := { dst := some 23, op := Go.Op.slice 9 (Go.Operand.tmp 21) none (some (Go.Operand.tmp 22)) none, type := 9, pos := "roll.go:31", after := #[{ on := 4, ground := Go.Ground.data }, { on := 5, ground := Go.Ground.data }, { on := 3, ground := Go.Ground.guard }], guard := some (3, true) }) (v := ?_) rfl (by kernel_rfl) (by kernel_rfl) (by kernel_rfl) (fun _ _ _ h => h) (Or.inl ⟨by rfl, ?_⟩) (by assumption) ?_
            (rotate_left; focus (intro wS hSw; have s0 := hSw.1.cell; have s1 := hSw.2.cell; clear hSw; go_simp; (try rw [if_neg (by omega)]); try with_reducible rfl))
            (try simp only [Act.put, List.setIfInBounds_toArray, List.set_cons_zero, List.set_cons_succ])
            refine wpAnyH_take (i := 8) (oi := { dst := some 25, op := Go.Op.load 22 (Go.Operand.tmp 4), type := 22, pos := "roll.go:31", after := #[{ on := 3, ground := Go.Ground.guard }], guard := some (3, true) }) (v := ?_) rfl (by kernel_rfl) (by kernel_rfl) (by kernel_rfl) (fun _ _ _ h => h) (Or.inl ⟨by rfl, ?_⟩) (by assumption) ?_
            (rotate_left; focus (intro wS hSw; have s0 := hSw.1.cell; have s1 := hSw.2.cell; clear hSw; go_simp; (try rw [if_neg (by omega)]); try with_reducible rfl))
            (try simp only [Act.put, List.setIfInBounds_toArray, List.set_cons_zero, List.set_cons_succ])
            refine wpAnyH_ready (rs := [7]) (by kernel_rfl) (by simp) ?_
            refine AllReadyH.cons (o := { dst := some 24, op := Go.Op.call { callee := Go.Callee.value (Go.Operand.func 9), args := #[Go.Operand.tmp 23], argTypes := #[9] }, type := 22, pos := "roll.go:31", after := #[{ on := 6, ground := Go.Ground.data }, { on := 3, ground := Go.Ground.chain }, { on := 3, ground := Go.Ground.guard }], guard := some (3, true) }) rfl (fun K hK => ?_) AllReadyH.nil
            go_simp
            refine HT.out.mono ?_
            rintro ex w1 ⟨rfl, hb⟩
            have hP1 : Boxed w1 b 9 (.string r) ∧ Boxed w1 (b + 3) 22 (.int .u32 m) := ⟨(hb.block _ hP0.1.lt).trans hP0.1, (hb.block _ hP0.2.lt).trans hP0.2⟩
            have HB := Lib.hid hb
            clear hb
            (try go_wp2_with fail)
            refine hK.out _ _ (by (first | exact hP0 | exact hP1)) (fun hHeld => ?_)
            clear hK K
            (try simp only [Act.put, List.setIfInBounds_toArray, List.set_cons_zero, List.set_cons_succ])
            refine wpAnyH_take (i := 9) (oi := { dst := some 26, op := Go.Op.binOp Go.BinOp.and 22 (Go.Operand.tmp 24) (Go.Operand.tmp 25) 22, type := 22, pos := "roll.go:31", after := #[{ on := 7, ground := Go.Ground.data }, { on := 8, ground := Go.Ground.data }, { on := 3, ground := Go.Ground.guard }], guard := some (3, true) }) (v := ?_) rfl (by kernel_rfl) (by kernel_rfl) (by kernel_rfl) (fun _ _ _ h => h) (Or.inl ⟨by rfl, ?_⟩) (by assumption) ?_
            (rotate_left; focus (intro wS hSw; have s0 := hSw.1.cell; have s1 := hSw.2.cell; clear hSw; go_simp; (try rw [if_neg (by omega)]); try with_reducible rfl))
            (try simp only [Act.put, List.setIfInBounds_toArray, List.set_cons_zero, List.set_cons_succ])
            refine wpAnyH_take (i := 10) (oi := { dst := some 27, op := Go.Op.binOp Go.BinOp.neq 22 (Go.Operand.tmp 26) (Go.Operand.const (Go.Value.int Go.IntKind.u32 0)) 22, type := 4, pos := "roll.go:31", after := #[{ on := 9, ground := Go.Ground.data }, { on := 3, ground := Go.Ground.guard }], guard := some (3, true) }) (v := ?_) rfl (by kernel_rfl) (by kernel_rfl) (by kernel_rfl) (fun _ _ _ h => h) (Or.inl ⟨by rfl, ?_⟩) (by assumption) ?_
            (rotate_left; focus (intro wS hSw; have s0 := hSw.1.cell; have s1 := hSw.2.cell; clear hSw; go_simp; (try rw [if_neg (by omega)]); try with_reducible rfl))
            (try simp only [Act.put, List.setIfInBounds_toArray, List.set_cons_zero, List.set_cons_succ])
            refine wpAnyH_take (i := 11) (oi := { dst := some 28, op := Go.Op.pick (Go.Operand.tmp 20) (Go.Operand.tmp 27) (Go.Operand.const (Go.Value.bool false)), type := 4, pos := "roll.go:31", after := #[{ on := 3, ground := Go.Ground.data }, { on := 10, ground := Go.Ground.data }], guard := none }) (v := ?_) rfl (by kernel_rfl) (by kernel_rfl) (by kernel_rfl) (fun _ _ _ h => h) (Or.inl ⟨by rfl, ?_⟩) (by assumption) ?_
            (rotate_left; focus (intro wS hSw; have s0 := hSw.1.cell; have s1 := hSw.2.cell; clear hSw; go_simp; (try rw [if_neg (by omega)]); try with_reducible rfl))
            (try simp only [Act.put, List.setIfInBounds_toArray, List.set_cons_zero, List.set_cons_succ])
            refine wpAnyH_done (by kernel_rfl) ?_ _
            have R0 := hP1.1
            have R1 : Boxed w1 (b + 1) 3 (.int .i64 lo) := (HB.out.block _ HQ1.out.lt).trans HQ1.out
            have R2 : Boxed w1 (b + 2) 3 (.int .i64 hi) := (HB.out.block _ HQ2.out.lt).trans HQ2.out
            have R3 := hP1.2
            have hJ1 : J pre w1 := C1.out _ _ _ HJ.out ((Below.refl _ _).drew.trans HB.out)
            clear hP0 hP1
            have hpre : (pre ++ [r.extract 0 j]) <+: cuts lo hi m s := by rw [hcut, cuts_cons hlo hlh r h0, ← HF.out, HR.out]; exact ⟨cuts lo hi m (r.extract j r.size), by simp⟩
            have hcut2 : cuts lo hi m s = (pre ++ [r.extract 0 j]) ++ cuts lo hi m (r.extract j r.size) := by rw [hcut, cuts_cons hlo hlh r h0, ← HF.out, HR.out]; simp
            have hjr : j ≤ r.size := by omega
            have hje2 : (j : Int) ≤ (r.size : Int) := by omega
            obtain ⟨fn, tmps, assign, body, hy, hRo⟩ := HY.out pre (r.extract 0 j) _ hJ1 hpre
            have k0 := R0.cell
            have HC2 := Lib.hid hcut2
            have hrs := rest_size r hjr
            clear hpre hJ1 hcut2
            go_wp2_with fail
            gi_wp2
            refine hRo.mono ?_
            clear hRo hy k0
            rintro ex W3 ⟨rfl, hJ3, hk3⟩
            have z0 : Boxed W3 b 9 (.string r) := (hk3 _ (by omega) (by omega)).trans R0
            have z1 : Boxed W3 (b + 1) 3 (.int .i64 lo) := (hk3 _ (by omega) (by omega)).trans R1
            have z2 : Boxed W3 (b + 2) 3 (.int .i64 hi) := (hk3 _ (by omega) (by omega)).trans R2
            have z3 : Boxed W3 (b + 3) 22 (.int .u32 m) := (hk3 _ (by omega) (by omega)).trans R3
            have k0 := z0.cell; have f0 := z0.frozen
            have HJ3 := Lib.hid (C2.out _ _ (.string (r.extract j r.size)) hJ3)
            have Z0 := Lib.hid (z0.set (.string (r.extract j r.size)))
            have Z1 := Lib.hid (box_other z1 b (by omega) (.string (r.extract j r.size)))
            have Z2 := Lib.hid (box_other z2 b (by omega) (.string (r.extract j r.size)))
            have Z3 := Lib.hid (box_other z3 b (by omega) (.string (r.extract j r.size)))
            clear hk3 hJ3 z1 z2 z3 R0 R1 R2 R3
            gi_wp2
            go_roundw
            case rel => exact ⟨pre ++ [r.extract 0 j], r.extract j r.size, HC2.out, by omega, Z0.out, Z1.out, Z2.out, Z3.out, HJ3.out⟩
            case measure =>
              rw [hbs.out]
              have e2 := Z0.out.cell
              unfold boxSize
              rw [e2]
              show (r.extract j r.size).size < r.size
              omega
          · have HR : Hid (F = fstK r m (j + 1) (e - (j + 1))) := Lib.hid (by rw [HFJ.out, show e - j = (e - (j + 1)) + 1 by omega]; conv => lhs; unfold fstK; rw [if_neg (show ¬ stops r m j from hS)])
            generalize sumR (r.extract 0 j) = X at *
            refine wp_region_held_drew (S := fun w' => Boxed w' b 9 (.string r) ∧ Boxed w' (b + 3) 22 (.int .u32 m)) (by kernel_rfl) (by (first | exact hP0 | exact hP1)) (fun hHeld => ?_)
            refine wpAnyH_take (i := 0) (oi := { dst := some 17, op := Go.Op.move (Go.Operand.tmp 7), type := 3, pos := "roll.go:31", after := #[], guard := none }) (v := ?_) rfl (by kernel_rfl) (by kernel_rfl) (by kernel_rfl) (fun _ _ _ h => h) (Or.inl ⟨by rfl, ?_⟩) (by assumption) ?_
            (rotate_left; focus (intro wS hSw; have s0 := hSw.1.cell; have s1 := hSw.2.cell; clear hSw; go_simp; (try rw [if_neg (by omega)]); try with_reducible rfl))
            (try simp only [Act.put, List.setIfInBounds_toArray, List.set_cons_zero, List.set_cons_succ])
            refine wpAnyH_take (i := 1) (oi := { dst := some 18, op := Go.Op.move (Go.Operand.tmp 6), type := 3, pos := "roll.go:31", after := #[], guard := none }) (v := ?_) rfl (by kernel_rfl) (by kernel_rfl) (by kernel_rfl) (fun _ _ _ h => h) (Or.inl ⟨by rfl, ?_⟩) (by assumption) ?_
            (rotate_left; focus (intro wS hSw; have s0 := hSw.1.cell; have s1 := hSw.2.cell; clear hSw; go_simp; (try rw [if_neg (by omega)]); try with_reducible rfl))
            (try simp only [Act.put, List.setIfInBounds_toArray, List.set_cons_zero, List.set_cons_succ])
            refine wpAnyH_take (i := 2) (oi := { dst := some 19, op := Go.Op.binOp Go.BinOp.lss 3 (Go.Operand.tmp 17) (Go.Operand.tmp 18) 3, type := 4, pos := "roll.go:31", after := #[{ on := 0, ground := Go.Ground.data }, { on := 1, ground := Go.Ground.data }], guard := none }) (v := ?_) rfl (by kernel_rfl) (by kernel_rfl) (by kernel_rfl) (fun _ _ _ h => h) (Or.inl ⟨by rfl, ?_⟩) (by assumption) ?_
            (rotate_left; focus (intro wS hSw; have s0 := hSw.1.cell; have s1 := hSw.2.cell; clear hSw; go_simp; (try rw [if_neg (by omega)]); try with_reducible rfl))
            (try simp only [Act.put, List.setIfInBounds_toArray, List.set_cons_zero, List.set_cons_succ])
            refine wpAnyH_take (i := 3) (oi := { dst := some 20, op := Go.Op.move (Go.Operand.tmp 19), type := 4, pos := "roll.go:31", after := #[{ on := 2, ground := Go.Ground.data }], guard := none }) (v := ?_) rfl (by kernel_rfl) (by kernel_rfl) (by kernel_rfl) (fun _ _ _ h => h) (Or.inl ⟨by rfl, ?_⟩) (by assumption) ?_
            (rotate_left; focus (intro wS hSw; have s0 := hSw.1.cell; have s1 := hSw.2.cell; clear hSw; go_simp; (try rw [if_neg (by omega)]); try with_reducible rfl))
            (try simp only [Act.put, List.setIfInBounds_toArray, List.set_cons_zero, List.set_cons_succ])
            refine wpAnyH_take (i := 4) (oi := { dst := some 21, op := Go.Op.load 9 (Go.Operand.tmp 1), type := 9, pos := "roll.go:31", after := #[{ on := 3, ground := Go.Ground.guard }], guard := some (3, true) }) (v := ?_) rfl (by kernel_rfl) (by kernel_rfl) (by kernel_rfl) (fun _ _ _ h => h) (Or.inl ⟨by rfl, ?_⟩) (by assumption) ?_
            (rotate_left; focus (intro wS hSw; have s0 := hSw.1.cell; have s1 := hSw.2.cell; clear hSw; go_simp; (try rw [if_neg (by omega)]); try with_reducible rfl))
            (try simp only [Act.put, List.setIfInBounds_toArray, List.set_cons_zero, List.set_cons_succ])
            refine wpAnyH_take (i := 5) (oi := { dst := some 22, op := Go.Op.move (Go.Operand.tmp 7), type := 3, pos := "roll.go:31", after := #[{ on := 3, ground := Go.Ground.guard }], guard := some (3, true) }) (v := ?_) rfl (by kernel_rfl) (by kernel_rfl) (by kernel_rfl) (fun _ _ _ h => h) (Or.inl ⟨by rfl, ?_⟩) (by assumption) ?_
            (rotate_left; focus (intro wS hSw; have s0 := hSw.1.cell; have s1 := hSw.2.cell; clear hSw; go_simp; (try rw [if_neg (by omega)]); try with_reducible rfl))
            (try simp only [Act.put, List.setIfInBounds_toArray, List.set_cons_zero, List.set_cons_succ])
            refine wpAnyH_take (i := 6) (oi := { dst := some 23, op := Go.Op.slice 9 (Go.Operand.tmp 21) none (some (Go.Operand.tmp 22)) none, type := 9, pos := "roll.go:31", after := #[{ on := 4, ground := Go.Ground.data }, { on := 5, ground := Go.Ground.data }, { on := 3, ground := Go.Ground.guard }], guard := some (3, true) }) (v := ?_) rfl (by kernel_rfl) (by kernel_rfl) (by kernel_rfl) (fun _ _ _ h => h) (Or.inl ⟨by rfl, ?_⟩) (by assumption) ?_
            (rotate_left; focus (intro wS hSw; have s0 := hSw.1.cell; have s1 := hSw.2.cell; clear hSw; go_simp; (try rw [if_neg (by omega)]); try with_reducible rfl))
            (try simp only [Act.put, List.setIfInBounds_toArray, List.set_cons_zero, List.set_cons_succ])
            refine wpAnyH_take (i := 8) (oi := { dst := some 25, op := Go.Op.load 22 (Go.Operand.tmp 4), type := 22, pos := "roll.go:31", after := #[{ on := 3, ground := Go.Ground.guard }], guard := some (3, true) }) (v := ?_) rfl (by kernel_rfl) (by kernel_rfl) (by kernel_rfl) (fun _ _ _ h => h) (Or.inl ⟨by rfl, ?_⟩) (by assumption) ?_
            (rotate_left; focus (intro wS hSw; have s0 := hSw.1.cell; have s1 := hSw.2.cell; clear hSw; go_simp; (try rw [if_neg (by omega)]); try with_reducible rfl))
            (try simp only [Act.put, List.setIfInBounds_toArray, List.set_cons_zero, List.set_cons_succ])
            refine wpAnyH_ready (rs := [7]) (by kernel_rfl) (by simp) ?_
            refine AllReadyH.cons (o := { dst := some 24, op := Go.Op.call { callee := Go.Callee.value (Go.Operand.func 9), args := #[Go.Operand.tmp 23], argTypes := #[9] }, type := 22, pos := "roll.go:31", after := #[{ on := 6, ground := Go.Ground.data }, { on := 3, ground := Go.Ground.chain }, { on := 3, ground := Go.Ground.guard }], guard := some (3, true) }) rfl (fun K hK => ?_) AllReadyH.nil
            go_simp
            refine HT.out.mono ?_
            rintro ex w1 ⟨rfl, hb⟩
            have hP1 : Boxed w1 b 9 (.string r) ∧ Boxed w1 (b + 3) 22 (.int .u32 m) := ⟨(hb.block _ hP0.1.lt).trans hP0.1, (hb.block _ hP0.2.lt).trans hP0.2⟩
            have HB := Lib.hid hb
            clear hb
            (try go_wp2_with fail)
            refine hK.out _ _ (by (first | exact hP0 | exact hP1)) (fun hHeld => ?_)
            clear hK K
            (try simp only [Act.put, List.setIfInBounds_toArray, List.set_cons_zero, List.set_cons_succ])
            refine wpAnyH_take (i := 9) (oi := { dst := some 26, op := Go.Op.binOp Go.BinOp.and 22 (Go.Operand.tmp 24) (Go.Operand.tmp 25) 22, type := 22, pos := "roll.go:31", after := #[{ on := 7, ground := Go.Ground.data }, { on := 8, ground := Go.Ground.data }, { on := 3, ground := Go.Ground.guard }], guard := some (3, true) }) (v := ?_) rfl (by kernel_rfl) (by kernel_rfl) (by kernel_rfl) (fun _ _ _ h => h) (Or.inl ⟨by rfl, ?_⟩) (by assumption) ?_
            (rotate_left; focus (intro wS hSw; have s0 := hSw.1.cell; have s1 := hSw.2.cell; clear hSw; go_simp; (try rw [if_neg (by omega)]); try with_reducible rfl))
            (try simp only [Act.put, List.setIfInBounds_toArray, List.set_cons_zero, List.set_cons_succ])
            refine wpAnyH_take (i := 10) (oi := { dst := some 27, op := Go.Op.binOp Go.BinOp.neq 22 (Go.Operand.tmp 26) (Go.Operand.const (Go.Value.int Go.IntKind.u32 0)) 22, type := 4, pos := "roll.go:31", after := #[{ on := 9, ground := Go.Ground.data }, { on := 3, ground := Go.Ground.guard }], guard := some (3, true) }) (v := ?_) rfl (by kernel_rfl) (by kernel_rfl) (by kernel_rfl) (fun _ _ _ h => h) (Or.inl ⟨by rfl, ?_⟩) (by assumption) ?_
            (rotate_left; focus (intro wS hSw; have s0 := hSw.1.cell; have s1 := hSw.2.cell; clear hSw; go_simp; (try rw [if_neg (by omega)]); try with_reducible rfl))
            (try simp only [Act.put, List.setIfInBounds_toArray, List.set_cons_zero, List.set_cons_succ])
            refine wpAnyH_take (i := 11) (oi := { dst := some 28, op := Go.Op.pick (Go.Operand.tmp 20) (Go.Operand.tmp 27) (Go.Operand.const (Go.Value.bool false)), type := 4, pos := "roll.go:31", after := #[{ on := 3, ground := Go.Ground.data }, { on := 10, ground := Go.Ground.data }], guard := none }) (v := ?_) rfl (by kernel_rfl) (by kernel_rfl) (by kernel_rfl) (fun _ _ _ h => h) (Or.inl ⟨by rfl, ?_⟩) (by assumption) ?_
            (rotate_left; focus (intro wS hSw; have s0 := hSw.1.cell; have s1 := hSw.2.cell; clear hSw; go_simp; (try rw [if_neg (by omega)]); try with_reducible rfl))
            (try simp only [Act.put, List.setIfInBounds_toArray, List.set_cons_zero, List.set_cons_succ])
            refine wpAnyH_done (by kernel_rfl) ?_ _
            have R0 := Lib.hid hP1.1
            have R1 : Hid (Boxed w1 (b + 1) 3 (.int .i64 lo)) := Lib.hid ((HB.out.block _ HQ1.out.lt).trans HQ1.out)
            have R2 : Hid (Boxed w1 (b + 2) 3 (.int .i64 hi)) := Lib.hid ((HB.out.block _ HQ2.out.lt).trans HQ2.out)
            have R3 := Lib.hid hP1.2
            have hJ1 : Hid (J pre w1) := Lib.hid (C1.out _ _ _ HJ.out ((Below.refl _ _).drew.trans HB.out))
            clear hP0 hP1
            go_wp2
            go_roundw
            case rel => exact ⟨j + 1, by go_num, by omega, by omega, HR.out, R0.out, R1.out, R2.out, R3.out, hJ1.out⟩
            case measure => simp [intOf]; omega
        · obtain rfl : j = e := by omega
          have HR : Hid (F = j) := Lib.hid (by rw [HFJ.out, Nat.sub_self]; rfl)
          have hP0 : Boxed wr.drew b 9 (.string r) ∧ Boxed wr.drew (b + 3) 22 (.int .u32 m) := ⟨q0, q3⟩
          have hlt2 : ¬ (j : Int) < (j : Int) := by omega
          go_wp2_with fail
          refine wp_region_held_drew (S := fun w' => Boxed w' b 9 (.string r) ∧ Boxed w' (b + 3) 22 (.int .u32 m)) (by kernel_rfl) (by (first | exact hP0 | exact hP1)) (fun hHeld => ?_)
          refine wpAnyH_take (i := 0) (oi := { dst := some 17, op := Go.Op.move (Go.Operand.tmp 7), type := 3, pos := "roll.go:31", after := #[], guard := none }) (v := ?_) rfl (by kernel_rfl) (by kernel_rfl) (by kernel_rfl) (fun _ _ _ h => h) (Or.inl ⟨by rfl, ?_⟩) (by assumption) ?_
          (rotate_left; focus (intro wS hSw; have s0 := hSw.1.cell; have s1 := hSw.2.cell; clear hSw; go_simp; (try rw [if_neg (by omega)]); try with_reducible rfl))
          (try simp only [Act.put, List.setIfInBounds_toArray, List.set_cons_zero, List.set_cons_succ])
          refine wpAnyH_take (i := 1) (oi := { dst := some 18, op := Go.Op.move (Go.Operand.tmp 6), type := 3, pos := "roll.go:31", after := #[], guard := none }) (v := ?_) rfl (by kernel_rfl) (by kernel_rfl) (by kernel_rfl) (fun _ _ _ h => h) (Or.inl ⟨by rfl, ?_⟩) (by assumption) ?_
          (rotate_left; focus (intro wS hSw; have s0 := hSw.1.cell; have s1 := hSw.2.cell; clear hSw; go_simp; (try rw [if_neg (by omega)]); try with_reducible rfl))
          (try simp only [Act.put, List.setIfInBounds_toArray, List.set_cons_zero, List.set_cons_succ])
          refine wpAnyH_take (i := 2) (oi := { dst := some 19, op := Go.Op.binOp Go.BinOp.lss 3 (Go.Operand.tmp 17) (Go.Operand.tmp 18) 3, type := 4, pos := "roll.go:31", after := #[{ on := 0, ground := Go.Ground.data }, { on := 1, ground := Go.Ground.data }], guard := none }) (v := ?_) rfl (by kernel_rfl) (by kernel_rfl) (by kernel_rfl) (fun _ _ _ h => h) (Or.inl ⟨by rfl, ?_⟩) (by assumption) ?_
          (rotate_left; focus (intro wS hSw; have s0 := hSw.1.cell; have s1 := hSw.2.cell; clear hSw; go_simp; (try rw [if_neg (by omega)]); try with_reducible rfl))
          (try simp only [Act.put, List.setIfInBounds_toArray, List.set_cons_zero, List.set_cons_succ])
          refine wpAnyH_take (i := 3) (oi := { dst := some 20, op := Go.Op.move (Go.Operand.tmp 19), type := 4, pos := "roll.go:31", after := #[{ on := 2, ground := Go.Ground.data }], guard := none }) (v := ?_) rfl (by kernel_rfl) (by kernel_rfl) (by kernel_rfl) (fun _ _ _ h => h) (Or.inl ⟨by rfl, ?_⟩) (by assumption) ?_
          (rotate_left; focus (intro wS hSw; have s0 := hSw.1.cell; have s1 := hSw.2.cell; clear hSw; go_simp; (try rw [if_neg (by omega)]); try with_reducible rfl))
          (try simp only [Act.put, List.setIfInBounds_toArray, List.set_cons_zero, List.set_cons_succ])
          refine wpAnyH_take (i := 4) (oi := { dst := some 21, op := Go.Op.load 9 (Go.Operand.tmp 1), type := 9, pos := "roll.go:31", after := #[{ on := 3, ground := Go.Ground.guard }], guard := some (3, true) }) (v := undef) rfl (by kernel_rfl) (by kernel_rfl) (by kernel_rfl) (fun _ _ _ h => h) (Or.inr ⟨by rfl, rfl⟩) (by assumption) ?_
          (try simp only [Act.put, List.setIfInBounds_toArray, List.set_cons_zero, List.set_cons_succ])
          refine wpAnyH_take (i := 5) (oi := { dst := some 22, op := Go.Op.move (Go.Operand.tmp 7), type := 3, pos := "roll.go:31", after := #[{ on := 3, ground := Go.Ground.guard }], guard := some (3, true) }) (v := undef) rfl (by kernel_rfl) (by kernel_rfl) (by kernel_rfl) (fun _ _ _ h => h) (Or.inr ⟨by rfl, rfl⟩) (by assumption) ?_
          (try simp only [Act.put, List.setIfInBounds_toArray, List.set_cons_zero, List.set_cons_succ])
          refine wpAnyH_take (i := 6) (oi := { dst := some 23, op := Go.Op.slice 9 (Go.Operand.tmp 21) none (some (Go.Operand.tmp 22)) none, type := 9, pos := "roll.go:31", after := #[{ on := 4, ground := Go.Ground.data }, { on := 5, ground := Go.Ground.data }, { on := 3, ground := Go.Ground.guard }], guard := some (3, true) }) (v := undef) rfl (by kernel_rfl) (by kernel_rfl) (by kernel_rfl) (fun _ _ _ h => h) (Or.inr ⟨by rfl, rfl⟩) (by assumption) ?_
          (try simp only [Act.put, List.setIfInBounds_toArray, List.set_cons_zero, List.set_cons_succ])
          refine wpAnyH_take (i := 7) (oi := { dst := some 24, op := Go.Op.call { callee := Go.Callee.value (Go.Operand.func 9), args := #[Go.Operand.tmp 23], argTypes := #[9] }, type := 22, pos := "roll.go:31", after := #[{ on := 6, ground := Go.Ground.data }, { on := 3, ground := Go.Ground.chain }, { on := 3, ground := Go.Ground.guard }], guard := some (3, true) }) (v := undef) rfl (by kernel_rfl) (by kernel_rfl) (by kernel_rfl) (fun _ _ _ h => h) (Or.inr ⟨by rfl, rfl⟩) (by assumption) ?_
          (try simp only [Act.put, List.setIfInBounds_toArray, List.set_cons_zero, List.set_cons_succ])
          refine wpAnyH_take (i := 8) (oi := { dst := some 25, op := Go.Op.load 22 (Go.Operand.tmp 4), type := 22, pos := "roll.go:31", after := #[{ on := 3, ground := Go.Ground.guard }], guard := some (3, true) }) (v := undef) rfl (by kernel_rfl) (by kernel_rfl) (by kernel_rfl) (fun _ _ _ h => h) (Or.inr ⟨by rfl, rfl⟩) (by assumption) ?_
          (try simp only [Act.put, List.setIfInBounds_toArray, List.set_cons_zero, List.set_cons_succ])
          refine wpAnyH_take (i := 9) (oi := { dst := some 26, op := Go.Op.binOp Go.BinOp.and 22 (Go.Operand.tmp 24) (Go.Operand.tmp 25) 22, type := 22, pos := "roll.go:31", after := #[{ on := 7, ground := Go.Ground.data }, { on := 8, ground := Go.Ground.data }, { on := 3, ground := Go.Ground.guard }], guard := some (3, true) }) (v := undef) rfl (by kernel_rfl) (by kernel_rfl) (by kernel_rfl) (fun _ _ _ h => h) (Or.inr ⟨by rfl, rfl⟩) (by assumption) ?_
          (try simp only [Act.put, List.setIfInBounds_toArray, List.set_cons_zero, List.set_cons_succ])
          refine wpAnyH_take (i := 10) (oi := { dst := some 27, op := Go.Op.binOp Go.BinOp.neq 22 (Go.Operand.tmp 26) (Go.Operand.const (Go.Value.int Go.IntKind.u32 0)) 22, type := 4, pos := "roll.go:31", after := #[{ on := 9, ground := Go.Ground.data }, { on := 3, ground := Go.Ground.guard }], guard := some (3, true) }) (v := undef) rfl (by kernel_rfl) (by kernel_rfl) (by kernel_rfl) (fun _ _ _ h => h) (Or.inr ⟨by rfl, rfl⟩) (by assumption) ?_
          (try simp only [Act.put, List.setIfInBounds_toArray, List.set_cons_zero, List.set_cons_succ])
          refine wpAnyH_take (i := 11) (oi := { dst := some 28, op := Go.Op.pick (Go.Operand.tmp 20) (Go.Operand.tmp 27) (Go.Operand.const (Go.Value.bool false)), type := 4, pos := "roll.go:31", after := #[{ on := 3, ground := Go.Ground.data }, { on := 10, ground := Go.Ground.data }], guard := none }) (v := ?_) rfl (by kernel_rfl) (by kernel_rfl) (by kernel_rfl) (fun _ _ _ h => h) (Or.inl ⟨by rfl, ?_⟩) (by assumption) ?_
          (rotate_left; focus (intro wS hSw; have s0 := hSw.1.cell; have s1 := hSw.2.cell; clear hSw; go_simp; (try rw [if_neg (by omega)]); try with_reducible rfl))
          (try simp only [Act.put, List.setIfInBounds_toArray, List.set_cons_zero, List.set_cons_succ])
          refine wpAnyH_done (by kernel_rfl) ?_ _
          have R0 := hP0.1
          have R1 : Boxed wr.drew (b + 1) 3 (.int .i64 lo) := q1
          have R2 : Boxed wr.drew (b + 2) 3 (.int .i64 hi) := q2
          have R3 := hP0.2
          have hJ1 : J pre wr.drew := C1.out _ _ _ HJ.out (Below.refl _ _).drew
          clear hP0
          have hpre : (pre ++ [r.extract 0 j]) <+: cuts lo hi m s := by rw [hcut, cuts_cons hlo hlh r h0, ← HF.out, HR.out]; exact ⟨cuts lo hi m (r.extract j r.size), by simp⟩
          have hcut2 : cuts lo hi m s = (pre ++ [r.extract 0 j]) ++ cuts lo hi m (r.extract j r.size) := by rw [hcut, cuts_cons hlo hlh r h0, ← HF.out, HR.out]; simp
          have hjr : j ≤ r.size := by omega
          have hje2 : (j : Int) ≤ (r.size : Int) := by omega
          obtain ⟨fn, tmps, assign, body, hy, hRo⟩ := HY.out pre (r.extract 0 j) _ hJ1 hpre
          have k0 := R0.cell
          have HC2 := Lib.hid hcut2
          have hrs := rest_size r hjr
          clear hpre hJ1 hcut2
          go_wp2_with fail
          gi_wp2
          refine hRo.mono ?_
          clear hRo hy k0
          rintro ex W3 ⟨rfl, hJ3, hk3⟩
          have z0 : Boxed W3 b 9 (.string r) := (hk3 _ (by omega) (by omega)).trans R0
          have z1 : Boxed W3 (b + 1) 3 (.int .i64 lo) := (hk3 _ (by omega) (by omega)).trans R1
          have z2 : Boxed W3 (b + 2) 3 (.int .i64 hi) := (hk3 _ (by omega) (by omega)).trans R2
          have z3 : Boxed W3 (b + 3) 22 (.int .u32 m) := (hk3 _ (by omega) (by omega)).trans R3
          have k0 := z0.cell; have f0 := z0.frozen
          have HJ3 := Lib.hid (C2.out _ _ (.string (r.extract j r.size)) hJ3)
          have Z0 := Lib.hid (z0.set (.string (r.extract j r.size)))
          have Z1 := Lib.hid (box_other z1 b (by omega) (.string (r.extract j r.size)))
          have Z2 := Lib.hid (box_other z2 b (by omega) (.string (r.extract j r.size)))
          have Z3 := Lib.hid (box_other z3 b (by omega) (.string (r.extract j r.size)))
          clear hk3 hJ3 z1 z2 z3 R0 R1 R2 R3
          gi_wp2
          go_roundw
          case rel => exact ⟨pre ++ [r.extract 0 j], r.extract j r.size, HC2.out, by omega, Z0.out, Z1.out, Z2.out, Z3.out, HJ3.out⟩
          case measure =>
            rw [hbs.out]
            have e2 := Z0.out.cell
            unfold boxSize
            rw [e2]
            show (r.extract j r.size).size < r.size
            omega
end Go.Proofs.Ytmjcbkjihdbhoaa

