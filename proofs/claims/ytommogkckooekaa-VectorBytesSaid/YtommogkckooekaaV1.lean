/-
  The law of VectorReckons.
-/
import Derived.Test.YtommogkckooekaaA9
import Derived.Test.YtommogkckooekaaOpen
set_option linter.unusedVariables false
set_option linter.unusedSimpArgs false
namespace Go.Proofs.Ytommogkckooekaa
open Go.RowKit Go.WideShapes Go.ChangeShapes Go.ChangeAt Go.Deep
theorem sl3 {p : Nat} {I : List Value} {A : Array Value} {V : List Int} {w : World} (h : Bk p I w) (hI : I = ints V) (hA : A = (ints V).toArray) (hV : V.length = 16) : (Instr.loadAt 23 (.pointer (some ⟨p, 0, none⟩))).run Try.prog w = .ok (.agg A) w := by rw [hA]; exact vec_load (by rw [← hI]; exact h) hV
set_option maxHeartbeats 16000000 in
theorem reckons_walk (a b : List Int) (r n : Int) (w : World) (ha : a.length = 16) (hb : b.length = 16) : Calls Try.prog 3 #[.agg (ints a).toArray, .agg (ints b).toArray, .agg #[.int .i64 r, .int .i64 n]] w fun e w' => e = .returned (.bool true) ∧ Below w.heap.size w w' := by
  have HAL := Lib.hid ha; have HBL := Lib.hid hb
  clear ha hb
  obtain ⟨IA, hIA⟩ : ∃ I, I = ints a := ⟨_, rfl⟩
  obtain ⟨IB, hIB⟩ : ∃ I, I = ints b := ⟨_, rfl⟩
  obtain ⟨A, hA⟩ : ∃ I, I = (ints a).toArray := ⟨_, rfl⟩
  obtain ⟨B, hB⟩ : ∃ I, I = (ints b).toArray := ⟨_, rfl⟩
  obtain ⟨J, hJ⟩ : ∃ I, I = (ints (jnV mx a b)).toArray := ⟨_, rfl⟩
  obtain ⟨M, hM⟩ : ∃ I, I = (ints (jnV mn a b)).toArray := ⟨_, rfl⟩
  obtain ⟨C, hC⟩ : ∃ c, c = chkV a := ⟨_, rfl⟩
  obtain ⟨D, hD⟩ : ∃ c, c = cmpV a b := ⟨_, rfl⟩
  obtain ⟨H, hH⟩ : ∃ c, c = hasV a r n := ⟨_, rfl⟩
  have HIA := Lib.hid hIA; have HIB := Lib.hid hIB; have HA := Lib.hid hA; have HB := Lib.hid hB; have HJ := Lib.hid hJ; have HM := Lib.hid hM; have HC := Lib.hid hC; have HD := Lib.hid hD; have HH := Lib.hid hH
  rw [← hA, ← hB]
  have qJ : ∀ w, (binOp .eql 23 (.agg J) (.agg J)).run Try.prog w = .ok (.bool true) w := fun w => by
    have := vec_eql (jnV mx a b) (jnV mx a b) (jnV_len _ _ HAL.out) (jnV_len _ _ HAL.out) w
    rw [decide_eq_true rfl, ← HJ.out] at this; exact this
  have qM : ∀ w, (binOp .eql 23 (.agg M) (.agg M)).run Try.prog w = .ok (.bool true) w := fun w => by
    have := vec_eql (jnV mn a b) (jnV mn a b) (jnV_len _ _ HAL.out) (jnV_len _ _ HAL.out) w
    rw [decide_eq_true rfl, ← HM.out] at this; exact this
  have HQJ := Lib.hid qJ; have HQM := Lib.hid qM
  clear qJ qM
  have T1 : Hid (∀ w, Calls Try.prog 6 #[.agg A] w fun e w' => e = .returned (.int .i64 C) ∧ Below w.heap.size w w') := Lib.hid (fun w => by rw [HA.out, HC.out]; exact check_any a w HAL.out)
  have T2 : Hid (∀ w, Calls Try.prog 7 #[.agg A] w fun e w' => e = .returned (.int .i64 C) ∧ Below w.heap.size w w') := Lib.hid (fun w => by rw [HA.out, HC.out]; exact rcheck_any a w HAL.out)
  have T3 : Hid (∀ w, Calls Try.prog 8 #[.agg A, .agg B] w fun e w' => e = .returned (.agg J) ∧ Below w.heap.size w w') := Lib.hid (fun w => by rw [HA.out, HB.out, HJ.out]; exact join_any a b w HAL.out HBL.out)
  have T4 : Hid (∀ w, Calls Try.prog 9 #[.agg A, .agg B] w fun e w' => e = .returned (.agg J) ∧ Below w.heap.size w w') := Lib.hid (fun w => by rw [HA.out, HB.out, HJ.out]; exact rjoin_any a b w HAL.out HBL.out)
  have T5 : Hid (∀ w, Calls Try.prog 10 #[.agg A, .agg B] w fun e w' => e = .returned (.agg M) ∧ Below w.heap.size w w') := Lib.hid (fun w => by rw [HA.out, HB.out, HM.out]; exact meet_any a b w HAL.out HBL.out)
  have T6 : Hid (∀ w, Calls Try.prog 11 #[.agg A, .agg B] w fun e w' => e = .returned (.agg M) ∧ Below w.heap.size w w') := Lib.hid (fun w => by rw [HA.out, HB.out, HM.out]; exact rmeet_any a b w HAL.out HBL.out)
  have T7 : Hid (∀ w, Calls Try.prog 12 #[.agg A, .agg B] w fun e w' => e = .returned (.int .i64 D) ∧ Below w.heap.size w w') := Lib.hid (fun w => by rw [HA.out, HB.out, HD.out]; exact compare_any a b w HAL.out HBL.out)
  have T8 : Hid (∀ w, Calls Try.prog 13 #[.agg A, .agg B] w fun e w' => e = .returned (.int .i64 D) ∧ Below w.heap.size w w') := Lib.hid (fun w => by rw [HA.out, HB.out, HD.out]; exact rcompare_any a b w HAL.out HBL.out)
  have T9 : Hid (∀ w, Calls Try.prog 14 #[.agg A, .agg #[.int .i64 r, .int .i64 n]] w fun e w' => e = .returned (.bool H) ∧ Below w.heap.size w w') := Lib.hid (fun w => by rw [HA.out, HH.out]; exact has_any a r n w HAL.out)
  have T10 : Hid (∀ w, Calls Try.prog 15 #[.agg A, .agg #[.int .i64 r, .int .i64 n]] w fun e w' => e = .returned (.bool H) ∧ Below w.heap.size w w') := Lib.hid (fun w => by rw [HA.out, HH.out]; exact rhas_any a r n w HAL.out)
  clear hIA hIB hA hB hJ hM hC hD hH
  have b1 : Bk w.heap.size IA (w.alloc (.cells A 23)) := by rw [HA.out, HIA.out]; exact Bk.new w 23 (ints a).toArray
  have b2 : Bk (w.heap.size + 1) IB ((w.alloc (.cells A 23)).alloc (.cells B 23)) := by
    rw [HB.out, HIB.out]
    have := Bk.new (w.alloc (.cells A 23)) 23 (ints b).toArray
    rw [show (w.alloc (.cells A 23)).heap.size = w.heap.size + 1 by simp] at this
    exact this
  have b3 : Bk (w.heap.size + 2) [.int .i64 r, .int .i64 n] (((w.alloc (.cells A 23)).alloc (.cells B 23)).alloc (.cells #[.int .i64 r, .int .i64 n] 25)) := by
    have := Bk.new ((w.alloc (.cells A 23)).alloc (.cells B 23)) 25 #[.int .i64 r, .int .i64 n]
    rw [show ((w.alloc (.cells A 23)).alloc (.cells B 23)).heap.size = w.heap.size + 2 by simp] at this
    exact this
  have c1 := (b1.keep (below_new _ (.cells B 23))).keep (below_new _ (.cells #[.int .i64 r, .int .i64 n] 25))
  have c2 := b2.keep (below_new _ (.cells #[.int .i64 r, .int .i64 n] 25))
  have d : Below w.heap.size w (((w.alloc (.cells A 23)).alloc (.cells B 23)).alloc (.cells #[.int .i64 r, .int .i64 n] 25)) := (((Below.refl _ w).alloc (Nat.le_refl _) _).alloc (by simp) _).alloc (by simp; omega) _
  have HS0 : Hid ((Bk w.heap.size IA (((w.alloc (.cells A 23)).alloc (.cells B 23)).alloc (.cells #[.int .i64 r, .int .i64 n] 25)) ∧ Bk (w.heap.size + 1) IB (((w.alloc (.cells A 23)).alloc (.cells B 23)).alloc (.cells #[.int .i64 r, .int .i64 n] 25))) ∧ Bk (w.heap.size + 2) [.int .i64 r, .int .i64 n] (((w.alloc (.cells A 23)).alloc (.cells B 23)).alloc (.cells #[.int .i64 r, .int .i64 n] 25)) ∧ Below w.heap.size w (((w.alloc (.cells A 23)).alloc (.cells B 23)).alloc (.cells #[.int .i64 r, .int .i64 n] 25))) := Lib.hid ⟨⟨c1, c2⟩, b3, d⟩
  clear b1 b2 b3 c1 c2 d
  have HST : Hid (∀ w1 w2 : World, ((Bk w.heap.size IA w1 ∧ Bk (w.heap.size + 1) IB w1) ∧ Bk (w.heap.size + 2) [.int .i64 r, .int .i64 n] w1 ∧ Below w.heap.size w w1) → Below w1.heap.size w1 w2 → ((Bk w.heap.size IA w2 ∧ Bk (w.heap.size + 1) IB w2) ∧ Bk (w.heap.size + 2) [.int .i64 r, .int .i64 n] w2 ∧ Below w.heap.size w w2)) := Lib.hid (fun w1 w2 h hb => ⟨⟨h.1.1.keep hb, h.1.2.keep hb⟩, h.2.1.keep hb, below_step h.2.2 (Nat.le_refl _) hb⟩)
  have LA : Hid (∀ w1 : World, Bk w.heap.size IA w1 → (Instr.loadAt 23 (.pointer (some ⟨w.heap.size, 0, none⟩))).run Try.prog w1 = .ok (.agg A) w1) := Lib.hid (fun w1 h => sl3 h HIA.out HA.out HAL.out)
  have LB : Hid (∀ w1 : World, Bk (w.heap.size + 1) IB w1 → (Instr.loadAt 23 (.pointer (some ⟨w.heap.size + 1, 0, none⟩))).run Try.prog w1 = .ok (.agg B) w1) := Lib.hid (fun w1 h => sl3 h HIB.out HB.out HBL.out)
  go_enter Try.func3, Try.ntmps3
  go_wp2_with fail
  have hP0 := (⟨⟨HS0.out.1.1.drew, HS0.out.1.2.drew⟩, HS0.out.2.1.drew, HS0.out.2.2.drew⟩ : (Bk w.heap.size IA (World.drew _) ∧ Bk (w.heap.size + 1) IB (World.drew _)) ∧ Bk (w.heap.size + 2) [.int .i64 r, .int .i64 n] (World.drew _) ∧ Below w.heap.size w (World.drew _))
  refine wp_region_held_drew (S := fun w' => (Bk w.heap.size IA w' ∧ Bk (w.heap.size + 1) IB w') ∧ Bk (w.heap.size + 2) [.int .i64 r, .int .i64 n] w' ∧ Below w.heap.size w w') (by kernel_rfl) (by (first | exact hP0 | exact hP1 | exact hP2 | exact hP3 | exact hP4 | exact hP5 | exact hP6 | exact hP7 | exact hP8 | exact hP9 | exact hP10 | exact hP11)) (fun hHeld => ?_)
  refine wpAnyH_take (i := 0) (oi := { dst := some 7, op := Go.Op.load 23 (Go.Operand.tmp 3), type := 23, pos := "law.go:22", after := #[], guard := none }) (v := ?_) rfl (by kernel_rfl) (by kernel_rfl) (by kernel_rfl) (fun _ _ _ h => h) (Or.inl ⟨by rfl, ?_⟩) (by assumption) ?_
  (rotate_left; focus (intro wS hSw; first | (refine (exec_load (LA.out _ hSw.1.1) rfl rfl).trans ?_; with_reducible rfl) | (refine (exec_load (LB.out _ hSw.1.2) rfl rfl).trans ?_; with_reducible rfl)))
  (try simp only [Act.put, List.setIfInBounds_toArray, List.set_cons_zero, List.set_cons_succ])
  refine wpAnyH_take (i := 2) (oi := { dst := some 9, op := Go.Op.load 23 (Go.Operand.tmp 3), type := 23, pos := "law.go:22", after := #[], guard := none }) (v := ?_) rfl (by kernel_rfl) (by kernel_rfl) (by kernel_rfl) (fun _ _ _ h => h) (Or.inl ⟨by rfl, ?_⟩) (by assumption) ?_
  (rotate_left; focus (intro wS hSw; first | (refine (exec_load (LA.out _ hSw.1.1) rfl rfl).trans ?_; with_reducible rfl) | (refine (exec_load (LB.out _ hSw.1.2) rfl rfl).trans ?_; with_reducible rfl)))
  (try simp only [Act.put, List.setIfInBounds_toArray, List.set_cons_zero, List.set_cons_succ])
  refine wpAnyH_ready (rs := [1]) (by kernel_rfl) (by simp) ?_
  refine AllReadyH.cons (o := { dst := some 8, op := Go.Op.call { callee := Go.Callee.value (Go.Operand.func 6), args := #[Go.Operand.tmp 7], argTypes := #[23] }, type := 26, pos := "law.go:22", after := #[{ on := 0, ground := Go.Ground.data }], guard := none }) rfl (fun K hK => ?_) AllReadyH.nil
  go_simp
  refine (T1.out _).mono ?_
  rintro e v1 ⟨rfl, hb⟩
  have hP1 := HST.out _ _ hP0 hb
  clear hb
  (try go_wp2_with fail)
  refine hK.out _ _ (by (first | exact hP0 | exact hP1 | exact hP2 | exact hP3 | exact hP4 | exact hP5 | exact hP6 | exact hP7 | exact hP8 | exact hP9 | exact hP10 | exact hP11)) (fun hHeld => ?_)
  clear hK K
  (try simp only [Act.put, List.setIfInBounds_toArray, List.set_cons_zero, List.set_cons_succ])
  refine wpAnyH_ready (rs := [3]) (by kernel_rfl) (by simp) ?_
  refine AllReadyH.cons (o := { dst := some 10, op := Go.Op.call { callee := Go.Callee.value (Go.Operand.func 7), args := #[Go.Operand.tmp 9], argTypes := #[23] }, type := 3, pos := "law.go:22", after := #[{ on := 2, ground := Go.Ground.data }, { on := 1, ground := Go.Ground.chain }], guard := none }) rfl (fun K hK => ?_) AllReadyH.nil
  go_simp
  refine (T2.out _).mono ?_
  rintro e v2 ⟨rfl, hb⟩
  have hP2 := HST.out _ _ hP1 hb
  clear hb
  (try go_wp2_with fail)
  refine hK.out _ _ (by (first | exact hP0 | exact hP1 | exact hP2 | exact hP3 | exact hP4 | exact hP5 | exact hP6 | exact hP7 | exact hP8 | exact hP9 | exact hP10 | exact hP11)) (fun hHeld => ?_)
  clear hK K
  (try simp only [Act.put, List.setIfInBounds_toArray, List.set_cons_zero, List.set_cons_succ])
  refine wpAnyH_take (i := 4) (oi := { dst := some 11, op := Go.Op.binOp Go.BinOp.eql 3 (Go.Operand.tmp 8) (Go.Operand.tmp 10) 3, type := 4, pos := "law.go:22", after := #[{ on := 1, ground := Go.Ground.data }, { on := 3, ground := Go.Ground.data }], guard := none }) (v := ?_) rfl (by kernel_rfl) (by kernel_rfl) (by kernel_rfl) (fun _ _ _ h => h) (Or.inl ⟨by rfl, ?_⟩) (by assumption) ?_
  (rotate_left; focus (intro wS hSw; have s0 := (hSw.2.1.2 0 _ rfl).1; have s1 := (hSw.2.1.2 1 _ rfl).1; clear hSw; go_simp; (try rw [if_neg (by omega)]); try with_reducible rfl))
  (try simp only [Act.put, List.setIfInBounds_toArray, List.set_cons_zero, List.set_cons_succ])
  refine wpAnyH_take (i := 5) (oi := { dst := some 12, op := Go.Op.move (Go.Operand.tmp 11), type := 4, pos := "law.go:22", after := #[{ on := 4, ground := Go.Ground.data }, { on := 3, ground := Go.Ground.chain }], guard := none }) (v := ?_) rfl (by kernel_rfl) (by kernel_rfl) (by kernel_rfl) (fun _ _ _ h => h) (Or.inl ⟨by rfl, ?_⟩) (by assumption) ?_
  (rotate_left; focus (intro wS hSw; have s0 := (hSw.2.1.2 0 _ rfl).1; have s1 := (hSw.2.1.2 1 _ rfl).1; clear hSw; go_simp; (try rw [if_neg (by omega)]); try with_reducible rfl))
  (try simp only [Act.put, List.setIfInBounds_toArray, List.set_cons_zero, List.set_cons_succ])
  refine wpAnyH_take (i := 6) (oi := { dst := some 13, op := Go.Op.load 23 (Go.Operand.tmp 3), type := 23, pos := "law.go:22", after := #[{ on := 5, ground := Go.Ground.guard }], guard := some (5, true) }) (v := ?_) rfl (by kernel_rfl) (by kernel_rfl) (by kernel_rfl) (fun _ _ _ h => h) (Or.inl ⟨by rfl, ?_⟩) (by assumption) ?_
  (rotate_left; focus (intro wS hSw; first | (refine (exec_load (LA.out _ hSw.1.1) rfl rfl).trans ?_; with_reducible rfl) | (refine (exec_load (LB.out _ hSw.1.2) rfl rfl).trans ?_; with_reducible rfl)))
  (try simp only [Act.put, List.setIfInBounds_toArray, List.set_cons_zero, List.set_cons_succ])
  refine wpAnyH_take (i := 7) (oi := { dst := some 14, op := Go.Op.load 23 (Go.Operand.tmp 4), type := 23, pos := "law.go:22", after := #[{ on := 5, ground := Go.Ground.guard }], guard := some (5, true) }) (v := ?_) rfl (by kernel_rfl) (by kernel_rfl) (by kernel_rfl) (fun _ _ _ h => h) (Or.inl ⟨by rfl, ?_⟩) (by assumption) ?_
  (rotate_left; focus (intro wS hSw; first | (refine (exec_load (LA.out _ hSw.1.1) rfl rfl).trans ?_; with_reducible rfl) | (refine (exec_load (LB.out _ hSw.1.2) rfl rfl).trans ?_; with_reducible rfl)))
  (try simp only [Act.put, List.setIfInBounds_toArray, List.set_cons_zero, List.set_cons_succ])
  refine wpAnyH_take (i := 9) (oi := { dst := some 16, op := Go.Op.load 23 (Go.Operand.tmp 3), type := 23, pos := "law.go:22", after := #[{ on := 5, ground := Go.Ground.guard }], guard := some (5, true) }) (v := ?_) rfl (by kernel_rfl) (by kernel_rfl) (by kernel_rfl) (fun _ _ _ h => h) (Or.inl ⟨by rfl, ?_⟩) (by assumption) ?_
  (rotate_left; focus (intro wS hSw; first | (refine (exec_load (LA.out _ hSw.1.1) rfl rfl).trans ?_; with_reducible rfl) | (refine (exec_load (LB.out _ hSw.1.2) rfl rfl).trans ?_; with_reducible rfl)))
  (try simp only [Act.put, List.setIfInBounds_toArray, List.set_cons_zero, List.set_cons_succ])
  refine wpAnyH_take (i := 10) (oi := { dst := some 17, op := Go.Op.load 23 (Go.Operand.tmp 4), type := 23, pos := "law.go:22", after := #[{ on := 5, ground := Go.Ground.guard }], guard := some (5, true) }) (v := ?_) rfl (by kernel_rfl) (by kernel_rfl) (by kernel_rfl) (fun _ _ _ h => h) (Or.inl ⟨by rfl, ?_⟩) (by assumption) ?_
  (rotate_left; focus (intro wS hSw; first | (refine (exec_load (LA.out _ hSw.1.1) rfl rfl).trans ?_; with_reducible rfl) | (refine (exec_load (LB.out _ hSw.1.2) rfl rfl).trans ?_; with_reducible rfl)))
  (try simp only [Act.put, List.setIfInBounds_toArray, List.set_cons_zero, List.set_cons_succ])
  refine wpAnyH_ready (rs := [8]) (by kernel_rfl) (by simp) ?_
  refine AllReadyH.cons (o := { dst := some 15, op := Go.Op.call { callee := Go.Callee.value (Go.Operand.func 8), args := #[Go.Operand.tmp 13, Go.Operand.tmp 14], argTypes := #[23, 23] }, type := 23, pos := "law.go:22", after := #[{ on := 6, ground := Go.Ground.data }, { on := 7, ground := Go.Ground.data }, { on := 5, ground := Go.Ground.chain }, { on := 5, ground := Go.Ground.guard }], guard := some (5, true) }) rfl (fun K hK => ?_) AllReadyH.nil
  go_simp
  refine (T3.out _).mono ?_
  rintro e v3 ⟨rfl, hb⟩
  have hP3 := HST.out _ _ hP2 hb
  clear hb
  (try go_wp2_with fail)
  refine hK.out _ _ (by (first | exact hP0 | exact hP1 | exact hP2 | exact hP3 | exact hP4 | exact hP5 | exact hP6 | exact hP7 | exact hP8 | exact hP9 | exact hP10 | exact hP11)) (fun hHeld => ?_)
  clear hK K
  (try simp only [Act.put, List.setIfInBounds_toArray, List.set_cons_zero, List.set_cons_succ])
  refine wpAnyH_ready (rs := [11]) (by kernel_rfl) (by simp) ?_
  refine AllReadyH.cons (o := { dst := some 18, op := Go.Op.call { callee := Go.Callee.value (Go.Operand.func 9), args := #[Go.Operand.tmp 16, Go.Operand.tmp 17], argTypes := #[23, 23] }, type := 23, pos := "law.go:22", after := #[{ on := 9, ground := Go.Ground.data }, { on := 10, ground := Go.Ground.data }, { on := 8, ground := Go.Ground.chain }, { on := 5, ground := Go.Ground.guard }], guard := some (5, true) }) rfl (fun K hK => ?_) AllReadyH.nil
  go_simp
  refine (T4.out _).mono ?_
  rintro e v4 ⟨rfl, hb⟩
  have hP4 := HST.out _ _ hP3 hb
  have qJ := HQJ.out
  clear hb
  (try go_wp2_with fail)
  refine hK.out _ _ (by (first | exact hP0 | exact hP1 | exact hP2 | exact hP3 | exact hP4 | exact hP5 | exact hP6 | exact hP7 | exact hP8 | exact hP9 | exact hP10 | exact hP11)) (fun hHeld => ?_)
  clear hK K
  (try simp only [Act.put, List.setIfInBounds_toArray, List.set_cons_zero, List.set_cons_succ])
  refine wpAnyH_take (i := 12) (oi := { dst := some 19, op := Go.Op.binOp Go.BinOp.eql 23 (Go.Operand.tmp 15) (Go.Operand.tmp 18) 23, type := 4, pos := "law.go:22", after := #[{ on := 8, ground := Go.Ground.data }, { on := 11, ground := Go.Ground.data }, { on := 5, ground := Go.Ground.guard }], guard := some (5, true) }) (v := ?_) rfl (by kernel_rfl) (by kernel_rfl) (by kernel_rfl) (fun _ _ _ h => h) (Or.inl ⟨by rfl, ?_⟩) (by assumption) ?_
  (rotate_left; focus (intro wS hSw; have s0 := (hSw.2.1.2 0 _ rfl).1; have s1 := (hSw.2.1.2 1 _ rfl).1; clear hSw; go_simp; (try rw [if_neg (by omega)]); try with_reducible rfl))
  (try simp only [Act.put, List.setIfInBounds_toArray, List.set_cons_zero, List.set_cons_succ])
  refine wpAnyH_take (i := 13) (oi := { dst := some 20, op := Go.Op.pick (Go.Operand.tmp 12) (Go.Operand.tmp 19) (Go.Operand.const (Go.Value.bool false)), type := 4, pos := "law.go:22", after := #[{ on := 5, ground := Go.Ground.data }, { on := 12, ground := Go.Ground.data }], guard := none }) (v := ?_) rfl (by kernel_rfl) (by kernel_rfl) (by kernel_rfl) (fun _ _ _ h => h) (Or.inl ⟨by rfl, ?_⟩) (by assumption) ?_
  (rotate_left; focus (intro wS hSw; have s0 := (hSw.2.1.2 0 _ rfl).1; have s1 := (hSw.2.1.2 1 _ rfl).1; clear hSw; go_simp; (try rw [if_neg (by omega)]); try with_reducible rfl))
  (try simp only [Act.put, List.setIfInBounds_toArray, List.set_cons_zero, List.set_cons_succ])
  refine wpAnyH_take (i := 14) (oi := { dst := some 21, op := Go.Op.move (Go.Operand.tmp 20), type := 4, pos := "law.go:22", after := #[{ on := 13, ground := Go.Ground.data }, { on := 11, ground := Go.Ground.chain }], guard := none }) (v := ?_) rfl (by kernel_rfl) (by kernel_rfl) (by kernel_rfl) (fun _ _ _ h => h) (Or.inl ⟨by rfl, ?_⟩) (by assumption) ?_
  (rotate_left; focus (intro wS hSw; have s0 := (hSw.2.1.2 0 _ rfl).1; have s1 := (hSw.2.1.2 1 _ rfl).1; clear hSw; go_simp; (try rw [if_neg (by omega)]); try with_reducible rfl))
  (try simp only [Act.put, List.setIfInBounds_toArray, List.set_cons_zero, List.set_cons_succ])
  refine wpAnyH_take (i := 15) (oi := { dst := some 22, op := Go.Op.load 23 (Go.Operand.tmp 3), type := 23, pos := "law.go:22", after := #[{ on := 14, ground := Go.Ground.guard }], guard := some (14, true) }) (v := ?_) rfl (by kernel_rfl) (by kernel_rfl) (by kernel_rfl) (fun _ _ _ h => h) (Or.inl ⟨by rfl, ?_⟩) (by assumption) ?_
  (rotate_left; focus (intro wS hSw; first | (refine (exec_load (LA.out _ hSw.1.1) rfl rfl).trans ?_; with_reducible rfl) | (refine (exec_load (LB.out _ hSw.1.2) rfl rfl).trans ?_; with_reducible rfl)))
  (try simp only [Act.put, List.setIfInBounds_toArray, List.set_cons_zero, List.set_cons_succ])
  refine wpAnyH_take (i := 16) (oi := { dst := some 23, op := Go.Op.load 23 (Go.Operand.tmp 4), type := 23, pos := "law.go:22", after := #[{ on := 14, ground := Go.Ground.guard }], guard := some (14, true) }) (v := ?_) rfl (by kernel_rfl) (by kernel_rfl) (by kernel_rfl) (fun _ _ _ h => h) (Or.inl ⟨by rfl, ?_⟩) (by assumption) ?_
  (rotate_left; focus (intro wS hSw; first | (refine (exec_load (LA.out _ hSw.1.1) rfl rfl).trans ?_; with_reducible rfl) | (refine (exec_load (LB.out _ hSw.1.2) rfl rfl).trans ?_; with_reducible rfl)))
  (try simp only [Act.put, List.setIfInBounds_toArray, List.set_cons_zero, List.set_cons_succ])
  refine wpAnyH_take (i := 18) (oi := { dst := some 25, op := Go.Op.load 23 (Go.Operand.tmp 3), type := 23, pos := "law.go:22", after := #[{ on := 14, ground := Go.Ground.guard }], guard := some (14, true) }) (v := ?_) rfl (by kernel_rfl) (by kernel_rfl) (by kernel_rfl) (fun _ _ _ h => h) (Or.inl ⟨by rfl, ?_⟩) (by assumption) ?_
  (rotate_left; focus (intro wS hSw; first | (refine (exec_load (LA.out _ hSw.1.1) rfl rfl).trans ?_; with_reducible rfl) | (refine (exec_load (LB.out _ hSw.1.2) rfl rfl).trans ?_; with_reducible rfl)))
  (try simp only [Act.put, List.setIfInBounds_toArray, List.set_cons_zero, List.set_cons_succ])
  refine wpAnyH_take (i := 19) (oi := { dst := some 26, op := Go.Op.load 23 (Go.Operand.tmp 4), type := 23, pos := "law.go:22", after := #[{ on := 14, ground := Go.Ground.guard }], guard := some (14, true) }) (v := ?_) rfl (by kernel_rfl) (by kernel_rfl) (by kernel_rfl) (fun _ _ _ h => h) (Or.inl ⟨by rfl, ?_⟩) (by assumption) ?_
  (rotate_left; focus (intro wS hSw; first | (refine (exec_load (LA.out _ hSw.1.1) rfl rfl).trans ?_; with_reducible rfl) | (refine (exec_load (LB.out _ hSw.1.2) rfl rfl).trans ?_; with_reducible rfl)))
  (try simp only [Act.put, List.setIfInBounds_toArray, List.set_cons_zero, List.set_cons_succ])
  refine wpAnyH_ready (rs := [17]) (by kernel_rfl) (by simp) ?_
  refine AllReadyH.cons (o := { dst := some 24, op := Go.Op.call { callee := Go.Callee.value (Go.Operand.func 10), args := #[Go.Operand.tmp 22, Go.Operand.tmp 23], argTypes := #[23, 23] }, type := 23, pos := "law.go:22", after := #[{ on := 15, ground := Go.Ground.data }, { on := 16, ground := Go.Ground.data }, { on := 14, ground := Go.Ground.chain }, { on := 14, ground := Go.Ground.guard }], guard := some (14, true) }) rfl (fun K hK => ?_) AllReadyH.nil
  go_simp
  refine (T5.out _).mono ?_
  rintro e v5 ⟨rfl, hb⟩
  have hP5 := HST.out _ _ hP4 hb
  clear qJ
  clear hb
  (try go_wp2_with fail)
  refine hK.out _ _ (by (first | exact hP0 | exact hP1 | exact hP2 | exact hP3 | exact hP4 | exact hP5 | exact hP6 | exact hP7 | exact hP8 | exact hP9 | exact hP10 | exact hP11)) (fun hHeld => ?_)
  clear hK K
  (try simp only [Act.put, List.setIfInBounds_toArray, List.set_cons_zero, List.set_cons_succ])
  refine wpAnyH_ready (rs := [20]) (by kernel_rfl) (by simp) ?_
  refine AllReadyH.cons (o := { dst := some 27, op := Go.Op.call { callee := Go.Callee.value (Go.Operand.func 11), args := #[Go.Operand.tmp 25, Go.Operand.tmp 26], argTypes := #[23, 23] }, type := 23, pos := "law.go:22", after := #[{ on := 18, ground := Go.Ground.data }, { on := 19, ground := Go.Ground.data }, { on := 17, ground := Go.Ground.chain }, { on := 14, ground := Go.Ground.guard }], guard := some (14, true) }) rfl (fun K hK => ?_) AllReadyH.nil
  go_simp
  refine (T6.out _).mono ?_
  rintro e v6 ⟨rfl, hb⟩
  have hP6 := HST.out _ _ hP5 hb
  have qM := HQM.out
  clear hb
  (try go_wp2_with fail)
  refine hK.out _ _ (by (first | exact hP0 | exact hP1 | exact hP2 | exact hP3 | exact hP4 | exact hP5 | exact hP6 | exact hP7 | exact hP8 | exact hP9 | exact hP10 | exact hP11)) (fun hHeld => ?_)
  clear hK K
  (try simp only [Act.put, List.setIfInBounds_toArray, List.set_cons_zero, List.set_cons_succ])
  refine wpAnyH_take (i := 21) (oi := { dst := some 28, op := Go.Op.binOp Go.BinOp.eql 23 (Go.Operand.tmp 24) (Go.Operand.tmp 27) 23, type := 4, pos := "law.go:22", after := #[{ on := 17, ground := Go.Ground.data }, { on := 20, ground := Go.Ground.data }, { on := 14, ground := Go.Ground.guard }], guard := some (14, true) }) (v := ?_) rfl (by kernel_rfl) (by kernel_rfl) (by kernel_rfl) (fun _ _ _ h => h) (Or.inl ⟨by rfl, ?_⟩) (by assumption) ?_
  (rotate_left; focus (intro wS hSw; have s0 := (hSw.2.1.2 0 _ rfl).1; have s1 := (hSw.2.1.2 1 _ rfl).1; clear hSw; go_simp; (try rw [if_neg (by omega)]); try with_reducible rfl))
  (try simp only [Act.put, List.setIfInBounds_toArray, List.set_cons_zero, List.set_cons_succ])
  refine wpAnyH_take (i := 22) (oi := { dst := some 29, op := Go.Op.pick (Go.Operand.tmp 21) (Go.Operand.tmp 28) (Go.Operand.const (Go.Value.bool false)), type := 4, pos := "law.go:22", after := #[{ on := 14, ground := Go.Ground.data }, { on := 21, ground := Go.Ground.data }], guard := none }) (v := ?_) rfl (by kernel_rfl) (by kernel_rfl) (by kernel_rfl) (fun _ _ _ h => h) (Or.inl ⟨by rfl, ?_⟩) (by assumption) ?_
  (rotate_left; focus (intro wS hSw; have s0 := (hSw.2.1.2 0 _ rfl).1; have s1 := (hSw.2.1.2 1 _ rfl).1; clear hSw; go_simp; (try rw [if_neg (by omega)]); try with_reducible rfl))
  (try simp only [Act.put, List.setIfInBounds_toArray, List.set_cons_zero, List.set_cons_succ])
  refine wpAnyH_take (i := 23) (oi := { dst := some 30, op := Go.Op.move (Go.Operand.tmp 29), type := 4, pos := "law.go:22", after := #[{ on := 22, ground := Go.Ground.data }, { on := 20, ground := Go.Ground.chain }], guard := none }) (v := ?_) rfl (by kernel_rfl) (by kernel_rfl) (by kernel_rfl) (fun _ _ _ h => h) (Or.inl ⟨by rfl, ?_⟩) (by assumption) ?_
  (rotate_left; focus (intro wS hSw; have s0 := (hSw.2.1.2 0 _ rfl).1; have s1 := (hSw.2.1.2 1 _ rfl).1; clear hSw; go_simp; (try rw [if_neg (by omega)]); try with_reducible rfl))
  (try simp only [Act.put, List.setIfInBounds_toArray, List.set_cons_zero, List.set_cons_succ])
  refine wpAnyH_take (i := 24) (oi := { dst := some 31, op := Go.Op.load 23 (Go.Operand.tmp 3), type := 23, pos := "law.go:22", after := #[{ on := 23, ground := Go.Ground.guard }], guard := some (23, true) }) (v := ?_) rfl (by kernel_rfl) (by kernel_rfl) (by kernel_rfl) (fun _ _ _ h => h) (Or.inl ⟨by rfl, ?_⟩) (by assumption) ?_
  (rotate_left; focus (intro wS hSw; first | (refine (exec_load (LA.out _ hSw.1.1) rfl rfl).trans ?_; with_reducible rfl) | (refine (exec_load (LB.out _ hSw.1.2) rfl rfl).trans ?_; with_reducible rfl)))
  (try simp only [Act.put, List.setIfInBounds_toArray, List.set_cons_zero, List.set_cons_succ])
  refine wpAnyH_take (i := 25) (oi := { dst := some 32, op := Go.Op.load 23 (Go.Operand.tmp 4), type := 23, pos := "law.go:22", after := #[{ on := 23, ground := Go.Ground.guard }], guard := some (23, true) }) (v := ?_) rfl (by kernel_rfl) (by kernel_rfl) (by kernel_rfl) (fun _ _ _ h => h) (Or.inl ⟨by rfl, ?_⟩) (by assumption) ?_
  (rotate_left; focus (intro wS hSw; first | (refine (exec_load (LA.out _ hSw.1.1) rfl rfl).trans ?_; with_reducible rfl) | (refine (exec_load (LB.out _ hSw.1.2) rfl rfl).trans ?_; with_reducible rfl)))
  (try simp only [Act.put, List.setIfInBounds_toArray, List.set_cons_zero, List.set_cons_succ])
  refine wpAnyH_take (i := 27) (oi := { dst := some 34, op := Go.Op.load 23 (Go.Operand.tmp 3), type := 23, pos := "law.go:22", after := #[{ on := 23, ground := Go.Ground.guard }], guard := some (23, true) }) (v := ?_) rfl (by kernel_rfl) (by kernel_rfl) (by kernel_rfl) (fun _ _ _ h => h) (Or.inl ⟨by rfl, ?_⟩) (by assumption) ?_
  (rotate_left; focus (intro wS hSw; first | (refine (exec_load (LA.out _ hSw.1.1) rfl rfl).trans ?_; with_reducible rfl) | (refine (exec_load (LB.out _ hSw.1.2) rfl rfl).trans ?_; with_reducible rfl)))
  (try simp only [Act.put, List.setIfInBounds_toArray, List.set_cons_zero, List.set_cons_succ])
  refine wpAnyH_take (i := 28) (oi := { dst := some 35, op := Go.Op.load 23 (Go.Operand.tmp 4), type := 23, pos := "law.go:22", after := #[{ on := 23, ground := Go.Ground.guard }], guard := some (23, true) }) (v := ?_) rfl (by kernel_rfl) (by kernel_rfl) (by kernel_rfl) (fun _ _ _ h => h) (Or.inl ⟨by rfl, ?_⟩) (by assumption) ?_
  (rotate_left; focus (intro wS hSw; first | (refine (exec_load (LA.out _ hSw.1.1) rfl rfl).trans ?_; with_reducible rfl) | (refine (exec_load (LB.out _ hSw.1.2) rfl rfl).trans ?_; with_reducible rfl)))
  (try simp only [Act.put, List.setIfInBounds_toArray, List.set_cons_zero, List.set_cons_succ])
  refine wpAnyH_ready (rs := [26]) (by kernel_rfl) (by simp) ?_
  refine AllReadyH.cons (o := { dst := some 33, op := Go.Op.call { callee := Go.Callee.value (Go.Operand.func 12), args := #[Go.Operand.tmp 31, Go.Operand.tmp 32], argTypes := #[23, 23] }, type := 3, pos := "law.go:22", after := #[{ on := 24, ground := Go.Ground.data }, { on := 25, ground := Go.Ground.data }, { on := 23, ground := Go.Ground.chain }, { on := 23, ground := Go.Ground.guard }], guard := some (23, true) }) rfl (fun K hK => ?_) AllReadyH.nil
  go_simp
  refine (T7.out _).mono ?_
  rintro e v7 ⟨rfl, hb⟩
  have hP7 := HST.out _ _ hP6 hb
  clear qM
  clear hb
  (try go_wp2_with fail)
  refine hK.out _ _ (by (first | exact hP0 | exact hP1 | exact hP2 | exact hP3 | exact hP4 | exact hP5 | exact hP6 | exact hP7 | exact hP8 | exact hP9 | exact hP10 | exact hP11)) (fun hHeld => ?_)
  clear hK K
  (try simp only [Act.put, List.setIfInBounds_toArray, List.set_cons_zero, List.set_cons_succ])
  refine wpAnyH_ready (rs := [29]) (by kernel_rfl) (by simp) ?_
  refine AllReadyH.cons (o := { dst := some 36, op := Go.Op.call { callee := Go.Callee.value (Go.Operand.func 13), args := #[Go.Operand.tmp 34, Go.Operand.tmp 35], argTypes := #[23, 23] }, type := 3, pos := "law.go:22", after := #[{ on := 27, ground := Go.Ground.data }, { on := 28, ground := Go.Ground.data }, { on := 26, ground := Go.Ground.chain }, { on := 23, ground := Go.Ground.guard }], guard := some (23, true) }) rfl (fun K hK => ?_) AllReadyH.nil
  go_simp
  refine (T8.out _).mono ?_
  rintro e v8 ⟨rfl, hb⟩
  have hP8 := HST.out _ _ hP7 hb
  clear hb
  (try go_wp2_with fail)
  refine hK.out _ _ (by (first | exact hP0 | exact hP1 | exact hP2 | exact hP3 | exact hP4 | exact hP5 | exact hP6 | exact hP7 | exact hP8 | exact hP9 | exact hP10 | exact hP11)) (fun hHeld => ?_)
  clear hK K
  (try simp only [Act.put, List.setIfInBounds_toArray, List.set_cons_zero, List.set_cons_succ])
  refine wpAnyH_take (i := 30) (oi := { dst := some 37, op := Go.Op.binOp Go.BinOp.eql 3 (Go.Operand.tmp 33) (Go.Operand.tmp 36) 3, type := 4, pos := "law.go:22", after := #[{ on := 26, ground := Go.Ground.data }, { on := 29, ground := Go.Ground.data }, { on := 23, ground := Go.Ground.guard }], guard := some (23, true) }) (v := ?_) rfl (by kernel_rfl) (by kernel_rfl) (by kernel_rfl) (fun _ _ _ h => h) (Or.inl ⟨by rfl, ?_⟩) (by assumption) ?_
  (rotate_left; focus (intro wS hSw; have s0 := (hSw.2.1.2 0 _ rfl).1; have s1 := (hSw.2.1.2 1 _ rfl).1; clear hSw; go_simp; (try rw [if_neg (by omega)]); try with_reducible rfl))
  (try simp only [Act.put, List.setIfInBounds_toArray, List.set_cons_zero, List.set_cons_succ])
  refine wpAnyH_take (i := 31) (oi := { dst := some 38, op := Go.Op.pick (Go.Operand.tmp 30) (Go.Operand.tmp 37) (Go.Operand.const (Go.Value.bool false)), type := 4, pos := "law.go:22", after := #[{ on := 23, ground := Go.Ground.data }, { on := 30, ground := Go.Ground.data }], guard := none }) (v := ?_) rfl (by kernel_rfl) (by kernel_rfl) (by kernel_rfl) (fun _ _ _ h => h) (Or.inl ⟨by rfl, ?_⟩) (by assumption) ?_
  (rotate_left; focus (intro wS hSw; have s0 := (hSw.2.1.2 0 _ rfl).1; have s1 := (hSw.2.1.2 1 _ rfl).1; clear hSw; go_simp; (try rw [if_neg (by omega)]); try with_reducible rfl))
  (try simp only [Act.put, List.setIfInBounds_toArray, List.set_cons_zero, List.set_cons_succ])
  refine wpAnyH_take (i := 32) (oi := { dst := some 39, op := Go.Op.move (Go.Operand.tmp 38), type := 4, pos := "law.go:22", after := #[{ on := 31, ground := Go.Ground.data }, { on := 29, ground := Go.Ground.chain }], guard := none }) (v := ?_) rfl (by kernel_rfl) (by kernel_rfl) (by kernel_rfl) (fun _ _ _ h => h) (Or.inl ⟨by rfl, ?_⟩) (by assumption) ?_
  (rotate_left; focus (intro wS hSw; have s0 := (hSw.2.1.2 0 _ rfl).1; have s1 := (hSw.2.1.2 1 _ rfl).1; clear hSw; go_simp; (try rw [if_neg (by omega)]); try with_reducible rfl))
  (try simp only [Act.put, List.setIfInBounds_toArray, List.set_cons_zero, List.set_cons_succ])
  refine wpAnyH_take (i := 33) (oi := { dst := some 40, op := Go.Op.load 23 (Go.Operand.tmp 3), type := 23, pos := "law.go:22", after := #[{ on := 32, ground := Go.Ground.guard }], guard := some (32, true) }) (v := ?_) rfl (by kernel_rfl) (by kernel_rfl) (by kernel_rfl) (fun _ _ _ h => h) (Or.inl ⟨by rfl, ?_⟩) (by assumption) ?_
  (rotate_left; focus (intro wS hSw; first | (refine (exec_load (LA.out _ hSw.1.1) rfl rfl).trans ?_; with_reducible rfl) | (refine (exec_load (LB.out _ hSw.1.2) rfl rfl).trans ?_; with_reducible rfl)))
  (try simp only [Act.put, List.setIfInBounds_toArray, List.set_cons_zero, List.set_cons_succ])
  refine wpAnyH_take (i := 34) (oi := { dst := some 41, op := Go.Op.load 25 (Go.Operand.tmp 5), type := 25, pos := "law.go:22", after := #[{ on := 32, ground := Go.Ground.guard }], guard := some (32, true) }) (v := ?_) rfl (by kernel_rfl) (by kernel_rfl) (by kernel_rfl) (fun _ _ _ h => h) (Or.inl ⟨by rfl, ?_⟩) (by assumption) ?_
  (rotate_left; focus (intro wS hSw; have s0 := (hSw.2.1.2 0 _ rfl).1; have s1 := (hSw.2.1.2 1 _ rfl).1; clear hSw; go_simp; (try rw [if_neg (by omega)]); try with_reducible rfl))
  (try simp only [Act.put, List.setIfInBounds_toArray, List.set_cons_zero, List.set_cons_succ])
  refine wpAnyH_take (i := 36) (oi := { dst := some 43, op := Go.Op.load 23 (Go.Operand.tmp 3), type := 23, pos := "law.go:22", after := #[{ on := 32, ground := Go.Ground.guard }], guard := some (32, true) }) (v := ?_) rfl (by kernel_rfl) (by kernel_rfl) (by kernel_rfl) (fun _ _ _ h => h) (Or.inl ⟨by rfl, ?_⟩) (by assumption) ?_
  (rotate_left; focus (intro wS hSw; first | (refine (exec_load (LA.out _ hSw.1.1) rfl rfl).trans ?_; with_reducible rfl) | (refine (exec_load (LB.out _ hSw.1.2) rfl rfl).trans ?_; with_reducible rfl)))
  (try simp only [Act.put, List.setIfInBounds_toArray, List.set_cons_zero, List.set_cons_succ])
  refine wpAnyH_take (i := 37) (oi := { dst := some 44, op := Go.Op.load 25 (Go.Operand.tmp 5), type := 25, pos := "law.go:22", after := #[{ on := 32, ground := Go.Ground.guard }], guard := some (32, true) }) (v := ?_) rfl (by kernel_rfl) (by kernel_rfl) (by kernel_rfl) (fun _ _ _ h => h) (Or.inl ⟨by rfl, ?_⟩) (by assumption) ?_
  (rotate_left; focus (intro wS hSw; have s0 := (hSw.2.1.2 0 _ rfl).1; have s1 := (hSw.2.1.2 1 _ rfl).1; clear hSw; go_simp; (try rw [if_neg (by omega)]); try with_reducible rfl))
  (try simp only [Act.put, List.setIfInBounds_toArray, List.set_cons_zero, List.set_cons_succ])
  refine wpAnyH_ready (rs := [35]) (by kernel_rfl) (by simp) ?_
  refine AllReadyH.cons (o := { dst := some 42, op := Go.Op.call { callee := Go.Callee.value (Go.Operand.func 14), args := #[Go.Operand.tmp 40, Go.Operand.tmp 41], argTypes := #[23, 25] }, type := 4, pos := "law.go:22", after := #[{ on := 33, ground := Go.Ground.data }, { on := 34, ground := Go.Ground.data }, { on := 32, ground := Go.Ground.chain }, { on := 32, ground := Go.Ground.guard }], guard := some (32, true) }) rfl (fun K hK => ?_) AllReadyH.nil
  go_simp
  refine (T9.out _).mono ?_
  rintro e v9 ⟨rfl, hb⟩
  have hP9 := HST.out _ _ hP8 hb
  clear hb
  (try go_wp2_with fail)
  refine hK.out _ _ (by (first | exact hP0 | exact hP1 | exact hP2 | exact hP3 | exact hP4 | exact hP5 | exact hP6 | exact hP7 | exact hP8 | exact hP9 | exact hP10 | exact hP11)) (fun hHeld => ?_)
  clear hK K
  (try simp only [Act.put, List.setIfInBounds_toArray, List.set_cons_zero, List.set_cons_succ])
  refine wpAnyH_ready (rs := [38]) (by kernel_rfl) (by simp) ?_
  refine AllReadyH.cons (o := { dst := some 45, op := Go.Op.call { callee := Go.Callee.value (Go.Operand.func 15), args := #[Go.Operand.tmp 43, Go.Operand.tmp 44], argTypes := #[23, 25] }, type := 4, pos := "law.go:22", after := #[{ on := 36, ground := Go.Ground.data }, { on := 37, ground := Go.Ground.data }, { on := 35, ground := Go.Ground.chain }, { on := 32, ground := Go.Ground.guard }], guard := some (32, true) }) rfl (fun K hK => ?_) AllReadyH.nil
  go_simp
  refine (T10.out _).mono ?_
  rintro e v10 ⟨rfl, hb⟩
  have hP10 := HST.out _ _ hP9 hb
  clear hb
  (try go_wp2_with fail)
  refine hK.out _ _ (by (first | exact hP0 | exact hP1 | exact hP2 | exact hP3 | exact hP4 | exact hP5 | exact hP6 | exact hP7 | exact hP8 | exact hP9 | exact hP10 | exact hP11)) (fun hHeld => ?_)
  clear hK K
  (try simp only [Act.put, List.setIfInBounds_toArray, List.set_cons_zero, List.set_cons_succ])
  refine wpAnyH_take (i := 39) (oi := { dst := some 46, op := Go.Op.binOp Go.BinOp.eql 4 (Go.Operand.tmp 42) (Go.Operand.tmp 45) 4, type := 4, pos := "law.go:22", after := #[{ on := 35, ground := Go.Ground.data }, { on := 38, ground := Go.Ground.data }, { on := 32, ground := Go.Ground.guard }], guard := some (32, true) }) (v := ?_) rfl (by kernel_rfl) (by kernel_rfl) (by kernel_rfl) (fun _ _ _ h => h) (Or.inl ⟨by rfl, ?_⟩) (by assumption) ?_
  (rotate_left; focus (intro wS hSw; have s0 := (hSw.2.1.2 0 _ rfl).1; have s1 := (hSw.2.1.2 1 _ rfl).1; clear hSw; go_simp; (try rw [if_neg (by omega)]); try with_reducible rfl))
  (try simp only [Act.put, List.setIfInBounds_toArray, List.set_cons_zero, List.set_cons_succ])
  refine wpAnyH_take (i := 40) (oi := { dst := some 47, op := Go.Op.pick (Go.Operand.tmp 39) (Go.Operand.tmp 46) (Go.Operand.const (Go.Value.bool false)), type := 4, pos := "law.go:22", after := #[{ on := 32, ground := Go.Ground.data }, { on := 39, ground := Go.Ground.data }], guard := none }) (v := ?_) rfl (by kernel_rfl) (by kernel_rfl) (by kernel_rfl) (fun _ _ _ h => h) (Or.inl ⟨by rfl, ?_⟩) (by assumption) ?_
  (rotate_left; focus (intro wS hSw; have s0 := (hSw.2.1.2 0 _ rfl).1; have s1 := (hSw.2.1.2 1 _ rfl).1; clear hSw; go_simp; (try rw [if_neg (by omega)]); try with_reducible rfl))
  (try simp only [Act.put, List.setIfInBounds_toArray, List.set_cons_zero, List.set_cons_succ])
  refine wpAnyH_take (i := 41) (oi := { dst := some 48, op := Go.Op.move (Go.Operand.tmp 47), type := 4, pos := "law.go:22", after := #[{ on := 40, ground := Go.Ground.data }, { on := 38, ground := Go.Ground.chain }], guard := none }) (v := ?_) rfl (by kernel_rfl) (by kernel_rfl) (by kernel_rfl) (fun _ _ _ h => h) (Or.inl ⟨by rfl, ?_⟩) (by assumption) ?_
  (rotate_left; focus (intro wS hSw; have s0 := (hSw.2.1.2 0 _ rfl).1; have s1 := (hSw.2.1.2 1 _ rfl).1; clear hSw; go_simp; (try rw [if_neg (by omega)]); try with_reducible rfl))
  (try simp only [Act.put, List.setIfInBounds_toArray, List.set_cons_zero, List.set_cons_succ])
  refine wpAnyH_ready (rs := [42]) (by kernel_rfl) (by simp) ?_
  refine AllReadyH.cons (o := { dst := some 49, op := Go.Op.call { callee := Go.Callee.value (Go.Operand.func 16), args := #[], argTypes := #[] }, type := 4, pos := "law.go:22", after := #[{ on := 41, ground := Go.Ground.chain }, { on := 41, ground := Go.Ground.guard }], guard := some (41, true) }) rfl (fun K hK => ?_) AllReadyH.nil
  go_simp
  refine (awake_any _).mono ?_
  rintro e v11 ⟨rfl, hb⟩
  have hP11 := HST.out _ _ hP10 hb
  clear hb
  (try go_wp2_with fail)
  refine hK.out _ _ (by (first | exact hP0 | exact hP1 | exact hP2 | exact hP3 | exact hP4 | exact hP5 | exact hP6 | exact hP7 | exact hP8 | exact hP9 | exact hP10 | exact hP11)) (fun hHeld => ?_)
  clear hK K
  (try simp only [Act.put, List.setIfInBounds_toArray, List.set_cons_zero, List.set_cons_succ])
  refine wpAnyH_take (i := 43) (oi := { dst := some 50, op := Go.Op.pick (Go.Operand.tmp 48) (Go.Operand.tmp 49) (Go.Operand.const (Go.Value.bool false)), type := 4, pos := "law.go:22", after := #[{ on := 41, ground := Go.Ground.data }, { on := 42, ground := Go.Ground.data }], guard := none }) (v := ?_) rfl (by kernel_rfl) (by kernel_rfl) (by kernel_rfl) (fun _ _ _ h => h) (Or.inl ⟨by rfl, ?_⟩) (by assumption) ?_
  (rotate_left; focus (intro wS hSw; have s0 := (hSw.2.1.2 0 _ rfl).1; have s1 := (hSw.2.1.2 1 _ rfl).1; clear hSw; go_simp; (try rw [if_neg (by omega)]); try with_reducible rfl))
  (try simp only [Act.put, List.setIfInBounds_toArray, List.set_cons_zero, List.set_cons_succ])
  refine wpAnyH_take (i := 44) (oi := { dst := some 6, op := Go.Op.assign (Go.Operand.tmp 50), type := 4, pos := "law.go:22", after := #[{ on := 43, ground := Go.Ground.data }, { on := 42, ground := Go.Ground.chain }, { on := 0, ground := Go.Ground.phase }, { on := 1, ground := Go.Ground.phase }, { on := 2, ground := Go.Ground.phase }, { on := 3, ground := Go.Ground.phase }, { on := 4, ground := Go.Ground.phase }, { on := 5, ground := Go.Ground.phase }, { on := 6, ground := Go.Ground.phase }, { on := 7, ground := Go.Ground.phase }, { on := 8, ground := Go.Ground.phase }, { on := 9, ground := Go.Ground.phase }, { on := 10, ground := Go.Ground.phase }, { on := 11, ground := Go.Ground.phase }, { on := 12, ground := Go.Ground.phase }, { on := 13, ground := Go.Ground.phase }, { on := 14, ground := Go.Ground.phase }, { on := 15, ground := Go.Ground.phase }, { on := 16, ground := Go.Ground.phase }, { on := 17, ground := Go.Ground.phase }, { on := 18, ground := Go.Ground.phase }, { on := 19, ground := Go.Ground.phase }, { on := 20, ground := Go.Ground.phase }, { on := 21, ground := Go.Ground.phase }, { on := 22, ground := Go.Ground.phase }, { on := 23, ground := Go.Ground.phase }, { on := 24, ground := Go.Ground.phase }, { on := 25, ground := Go.Ground.phase }, { on := 26, ground := Go.Ground.phase }, { on := 27, ground := Go.Ground.phase }, { on := 28, ground := Go.Ground.phase }, { on := 29, ground := Go.Ground.phase }, { on := 30, ground := Go.Ground.phase }, { on := 31, ground := Go.Ground.phase }, { on := 32, ground := Go.Ground.phase }, { on := 33, ground := Go.Ground.phase }, { on := 34, ground := Go.Ground.phase }, { on := 35, ground := Go.Ground.phase }, { on := 36, ground := Go.Ground.phase }, { on := 37, ground := Go.Ground.phase }, { on := 38, ground := Go.Ground.phase }, { on := 39, ground := Go.Ground.phase }, { on := 40, ground := Go.Ground.phase }, { on := 41, ground := Go.Ground.phase }, { on := 42, ground := Go.Ground.phase }, { on := 43, ground := Go.Ground.phase }], guard := none }) (v := ?_) rfl (by kernel_rfl) (by kernel_rfl) (by kernel_rfl) (fun _ _ _ h => h) (Or.inl ⟨by rfl, ?_⟩) (by assumption) ?_
  (rotate_left; focus (intro wS hSw; have s0 := (hSw.2.1.2 0 _ rfl).1; have s1 := (hSw.2.1.2 1 _ rfl).1; clear hSw; go_simp; (try rw [if_neg (by omega)]); try with_reducible rfl))
  (try simp only [Act.put, List.setIfInBounds_toArray, List.set_cons_zero, List.set_cons_succ])
  refine wpAnyH_done (by kernel_rfl) ?_ _
  go_wp2
  go_ret
  exact ⟨rfl, hP11.2.2⟩
end Go.Proofs.Ytommogkckooekaa

