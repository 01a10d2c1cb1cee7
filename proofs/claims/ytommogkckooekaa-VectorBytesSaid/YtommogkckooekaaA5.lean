/-
  The contracts of Has, and of the check of a dot, the code's and the law's own.
-/
import Derived.Test.YtommogkckooekaaA4
set_option linter.unusedVariables false
set_option linter.unusedSimpArgs false
namespace Go.Proofs.Ytommogkckooekaa
open Go.RowKit
def dotC (r n : Int) : Int := if r < 0 ∨ 16 ≤ r ∨ n < 1 ∨ 1099511627776 < n then 2 else 0
def hasV (v : List Int) (r n : Int) : Bool := decide (¬ (r < 0 ∨ 16 ≤ r ∨ n < 1 ∨ 1099511627776 < n)) && decide (n ≤ v.getD r.toNat 0)
theorem dcheck_any (r n : Int) (w : World) : Calls Try.prog 21 #[.agg #[.int .i64 r, .int .i64 n]] w fun e w' => e = .returned (.int .i64 (dotC r n)) ∧ Below w.heap.size w w' := by
  have HB := Lib.hid (below_new w (.cells #[.int .i64 r, .int .i64 n] 25))
  obtain ⟨C, hC⟩ : ∃ C, C = dotC r n := ⟨_, rfl⟩
  rw [← hC]
  unfold dotC at hC
  have HC := Lib.hid hC
  clear hC
  by_cases h : r < 0 ∨ 16 ≤ r ∨ n < 1 ∨ 1099511627776 < n
  · have HF : Hid (C = 2) := Lib.hid (by rw [HC.out, if_pos h])
    have H := Lib.hid h
    clear h
    by_cases h1 : r < 0
    · go_enter Try.func21, Try.ntmps21
      go_wp2
      go_ret
      rw [HF.out]
      exact ⟨rfl, HB.out⟩
    · by_cases h2 : 16 ≤ r
      · go_enter Try.func21, Try.ntmps21
        go_wp2
        go_ret
        rw [HF.out]
        exact ⟨rfl, HB.out⟩
      · by_cases h3 : n < 1
        · go_enter Try.func21, Try.ntmps21
          go_wp2
          go_ret
          rw [HF.out]
          exact ⟨rfl, HB.out⟩
        · have h4 : 1099511627776 < n := by have := H.out; omega
          go_enter Try.func21, Try.ntmps21
          go_wp2
          go_ret
          rw [HF.out]
          exact ⟨rfl, HB.out⟩
  · have HF : Hid (C = 0) := Lib.hid (by rw [HC.out, if_neg h])
    have h1 : ¬ r < 0 := by omega
    have h2 : ¬ (16 ≤ r) := by omega
    have h3 : ¬ n < 1 := by omega
    have h4 : ¬ 1099511627776 < n := by omega
    clear h
    go_enter Try.func21, Try.ntmps21
    go_wp2
    go_ret
    rw [HF.out]
    exact ⟨rfl, HB.out⟩
theorem rdcheck_any (r n : Int) (w : World) : Calls Try.prog 22 #[.agg #[.int .i64 r, .int .i64 n]] w fun e w' => e = .returned (.int .i64 (dotC r n)) ∧ Below w.heap.size w w' := by
  have HB := Lib.hid (below_new w (.cells #[.int .i64 r, .int .i64 n] 25))
  obtain ⟨C, hC⟩ : ∃ C, C = dotC r n := ⟨_, rfl⟩
  rw [← hC]
  unfold dotC at hC
  have HC := Lib.hid hC
  clear hC
  by_cases h : r < 0 ∨ 16 ≤ r ∨ n < 1 ∨ 1099511627776 < n
  · have HF : Hid (C = 2) := Lib.hid (by rw [HC.out, if_pos h])
    have H := Lib.hid h
    clear h
    by_cases h1 : r < 0
    · go_enter Try.func22, Try.ntmps22
      go_wp2
      go_ret
      rw [HF.out]
      exact ⟨rfl, HB.out⟩
    · by_cases h2 : 15 < r
      · go_enter Try.func22, Try.ntmps22
        go_wp2
        go_ret
        rw [HF.out]
        exact ⟨rfl, HB.out⟩
      · by_cases h3 : n < 1
        · go_enter Try.func22, Try.ntmps22
          go_wp2
          go_ret
          rw [HF.out]
          exact ⟨rfl, HB.out⟩
        · have h4 : 1099511627776 < n := by have := H.out; omega
          go_enter Try.func22, Try.ntmps22
          go_wp2
          go_ret
          rw [HF.out]
          exact ⟨rfl, HB.out⟩
  · have HF : Hid (C = 0) := Lib.hid (by rw [HC.out, if_neg h])
    have h1 : ¬ r < 0 := by omega
    have h2 : ¬ (15 < r) := by omega
    have h3 : ¬ n < 1 := by omega
    have h4 : ¬ 1099511627776 < n := by omega
    clear h
    go_enter Try.func22, Try.ntmps22
    go_wp2
    go_ret
    rw [HF.out]
    exact ⟨rfl, HB.out⟩
set_option maxHeartbeats 8000000 in
theorem has_any (v : List Int) (r n : Int) (w : World) (hv : v.length = 16) : Calls Try.prog 14 #[.agg (ints v).toArray, .agg #[.int .i64 r, .int .i64 n]] w fun e w' => e = .returned (.bool (hasV v r n)) ∧ Below w.heap.size w w' := by
  have r1 : Bk w.heap.size (ints v) ((w.alloc (.cells (ints v).toArray 23)).alloc (.cells #[.int .i64 r, .int .i64 n] 25)) := (Bk.new w 23 (ints v).toArray).keep (below_new _ _)
  have r2 : Bk (w.heap.size + 1) [.int .i64 r, .int .i64 n] ((w.alloc (.cells (ints v).toArray 23)).alloc (.cells #[.int .i64 r, .int .i64 n] 25)) := by
    have := Bk.new (w.alloc (.cells (ints v).toArray 23)) 25 #[.int .i64 r, .int .i64 n]
    rw [show (w.alloc (.cells (ints v).toArray 23)).heap.size = w.heap.size + 1 by simp] at this
    exact this
  have r3 : Below w.heap.size w ((w.alloc (.cells (ints v).toArray 23)).alloc (.cells #[.int .i64 r, .int .i64 n] 25)) := ((Below.refl _ w).alloc (Nat.le_refl _) _).alloc (by simp) _
  have HVL := Lib.hid hv
  have HR1 := Lib.hid r1; have HR2 := Lib.hid r2; have HR3 := Lib.hid r3
  have T := Lib.hid (fun w => dcheck_any r n w)
  obtain ⟨C, hC⟩ : ∃ C, C = hasV v r n := ⟨_, rfl⟩
  rw [← hC]
  unfold hasV at hC
  have HC := Lib.hid hC
  obtain ⟨A, hA⟩ : ∃ A, A = (ints v).toArray := ⟨_, rfl⟩
  rw [← hA] at HR1 HR2 HR3 ⊢
  clear hC hA r1 r2 r3 hv
  by_cases h : r < 0 ∨ 16 ≤ r ∨ n < 1 ∨ 1099511627776 < n
  · have HD : Hid (dotC r n = 2) := Lib.hid (by unfold dotC; rw [if_pos h])
    have HF : Hid (C = false) := Lib.hid (by rw [HC.out, decide_eq_false (fun e => e h)]; rfl)
    rw [HD.out] at T
    clear h
    go_enter Try.func14, Try.ntmps14
    go_wp2
    obtain ⟨W1, hW1⟩ : ∃ W1, W1 = ((w.alloc (.cells A 23)).alloc (.cells #[.int .i64 r, .int .i64 n] 25)) := ⟨_, rfl⟩
    rw [← hW1] at HR1 HR2 HR3 ⊢
    clear hW1
    have hQ0 : Bk (w.heap.size + 1) [.int .i64 r, .int .i64 n] W1.drew := HR2.out.drew
    refine wp_region_held_drew (S := fun w' => Bk (w.heap.size + 1) [.int .i64 r, .int .i64 n] w') (by kernel_rfl) (by (first | exact hQ0 | exact hQ1)) (fun hHeld => ?_)
    refine wpAnyH_take (i := 0) (oi := { dst := some 5, op := Go.Op.load 25 (Go.Operand.tmp 3), type := 25, pos := "vector.go:59", after := #[], guard := none }) (v := ?_) rfl (by kernel_rfl) (by kernel_rfl) (by kernel_rfl) (fun _ _ _ h => h) (Or.inl ⟨by rfl, ?_⟩) (by assumption) ?_
    (rotate_left; focus (intro wS hSw; have s0 := (hSw.2 0 _ rfl).1; have s1 := (hSw.2 1 _ rfl).1; clear hSw; go_simp; (try rw [if_neg (by omega)]); try with_reducible rfl))
    (try simp only [Act.put, List.setIfInBounds_toArray, List.set_cons_zero, List.set_cons_succ])
    refine wpAnyH_ready (rs := [1]) (by kernel_rfl) (by simp) ?_
    refine AllReadyH.cons (o := { dst := some 6, op := Go.Op.call { callee := Go.Callee.value (Go.Operand.func 21), args := #[Go.Operand.tmp 5], argTypes := #[25] }, type := 26, pos := "vector.go:59", after := #[{ on := 0, ground := Go.Ground.data }], guard := none }) rfl (fun K hK => ?_) AllReadyH.nil
    go_simp
    refine (T.out _).mono ?_
    rintro e w2 ⟨rfl, hb⟩
    have hQ1 := hQ0.keep hb
    have HB2 := Lib.hid (below_step HR3.out.drew (Nat.le_refl _) hb)
    clear hb
    (try go_wp2_with fail)
    refine hK.out _ _ (by (first | exact hQ0 | exact hQ1)) (fun hHeld => ?_)
    clear hK K
    (try simp only [Act.put, List.setIfInBounds_toArray, List.set_cons_zero, List.set_cons_succ])
    refine wpAnyH_take (i := 2) (oi := { dst := some 7, op := Go.Op.binOp Go.BinOp.eql 26 (Go.Operand.tmp 6) (Go.Operand.const (Go.Value.int Go.IntKind.i64 0)) 26, type := 4, pos := "vector.go:59", after := #[{ on := 1, ground := Go.Ground.data }], guard := none }) (v := ?_) rfl (by kernel_rfl) (by kernel_rfl) (by kernel_rfl) (fun _ _ _ h => h) (Or.inl ⟨by rfl, ?_⟩) (by assumption) ?_
    (rotate_left; focus (intro wS hSw; have s0 := (hSw.2 0 _ rfl).1; have s1 := (hSw.2 1 _ rfl).1; clear hSw; go_simp; (try rw [if_neg (by omega)]); try with_reducible rfl))
    (try simp only [Act.put, List.setIfInBounds_toArray, List.set_cons_zero, List.set_cons_succ])
    refine wpAnyH_take (i := 3) (oi := { dst := some 8, op := Go.Op.move (Go.Operand.tmp 7), type := 4, pos := "vector.go:59", after := #[{ on := 2, ground := Go.Ground.data }, { on := 1, ground := Go.Ground.chain }], guard := none }) (v := ?_) rfl (by kernel_rfl) (by kernel_rfl) (by kernel_rfl) (fun _ _ _ h => h) (Or.inl ⟨by rfl, ?_⟩) (by assumption) ?_
    (rotate_left; focus (intro wS hSw; have s0 := (hSw.2 0 _ rfl).1; have s1 := (hSw.2 1 _ rfl).1; clear hSw; go_simp; (try rw [if_neg (by omega)]); try with_reducible rfl))
    (try simp only [Act.put, List.setIfInBounds_toArray, List.set_cons_zero, List.set_cons_succ])
    refine wpAnyH_take (i := 4) (oi := { dst := some 9, op := Go.Op.fieldAddr 25 (Go.Operand.tmp 3) 1, type := 0, pos := "vector.go:59", after := #[{ on := 3, ground := Go.Ground.guard }], guard := some (3, true) }) (v := undef) rfl (by kernel_rfl) (by kernel_rfl) (by kernel_rfl) (fun _ _ _ h => h) (Or.inr ⟨by rfl, rfl⟩) (by assumption) ?_
    (try simp only [Act.put, List.setIfInBounds_toArray, List.set_cons_zero, List.set_cons_succ])
    refine wpAnyH_take (i := 5) (oi := { dst := some 10, op := Go.Op.load 3 (Go.Operand.tmp 9), type := 3, pos := "vector.go:59", after := #[{ on := 4, ground := Go.Ground.data }, { on := 3, ground := Go.Ground.guard }], guard := some (3, true) }) (v := undef) rfl (by kernel_rfl) (by kernel_rfl) (by kernel_rfl) (fun _ _ _ h => h) (Or.inr ⟨by rfl, rfl⟩) (by assumption) ?_
    (try simp only [Act.put, List.setIfInBounds_toArray, List.set_cons_zero, List.set_cons_succ])
    refine wpAnyH_take (i := 6) (oi := { dst := some 11, op := Go.Op.fieldAddr 25 (Go.Operand.tmp 3) 0, type := 0, pos := "vector.go:59", after := #[{ on := 3, ground := Go.Ground.guard }], guard := some (3, true) }) (v := undef) rfl (by kernel_rfl) (by kernel_rfl) (by kernel_rfl) (fun _ _ _ h => h) (Or.inr ⟨by rfl, rfl⟩) (by assumption) ?_
    (try simp only [Act.put, List.setIfInBounds_toArray, List.set_cons_zero, List.set_cons_succ])
    refine wpAnyH_take (i := 7) (oi := { dst := some 12, op := Go.Op.load 3 (Go.Operand.tmp 11), type := 3, pos := "vector.go:59", after := #[{ on := 6, ground := Go.Ground.data }, { on := 3, ground := Go.Ground.guard }], guard := some (3, true) }) (v := undef) rfl (by kernel_rfl) (by kernel_rfl) (by kernel_rfl) (fun _ _ _ h => h) (Or.inr ⟨by rfl, rfl⟩) (by assumption) ?_
    (try simp only [Act.put, List.setIfInBounds_toArray, List.set_cons_zero, List.set_cons_succ])
    refine wpAnyH_take (i := 8) (oi := { dst := some 13, op := Go.Op.indexAddr 23 (Go.Operand.tmp 2) (Go.Operand.tmp 12), type := 0, pos := "vector.go:59", after := #[{ on := 7, ground := Go.Ground.data }, { on := 3, ground := Go.Ground.guard }], guard := some (3, true) }) (v := undef) rfl (by kernel_rfl) (by kernel_rfl) (by kernel_rfl) (fun _ _ _ h => h) (Or.inr ⟨by rfl, rfl⟩) (by assumption) ?_
    (try simp only [Act.put, List.setIfInBounds_toArray, List.set_cons_zero, List.set_cons_succ])
    refine wpAnyH_take (i := 9) (oi := { dst := some 14, op := Go.Op.load 3 (Go.Operand.tmp 13), type := 3, pos := "vector.go:59", after := #[{ on := 8, ground := Go.Ground.data }, { on := 3, ground := Go.Ground.guard }], guard := some (3, true) }) (v := undef) rfl (by kernel_rfl) (by kernel_rfl) (by kernel_rfl) (fun _ _ _ h => h) (Or.inr ⟨by rfl, rfl⟩) (by assumption) ?_
    (try simp only [Act.put, List.setIfInBounds_toArray, List.set_cons_zero, List.set_cons_succ])
    refine wpAnyH_take (i := 10) (oi := { dst := some 15, op := Go.Op.binOp Go.BinOp.leq 3 (Go.Operand.tmp 10) (Go.Operand.tmp 14) 3, type := 4, pos := "vector.go:59", after := #[{ on := 5, ground := Go.Ground.data }, { on := 9, ground := Go.Ground.data }, { on := 3, ground := Go.Ground.guard }], guard := some (3, true) }) (v := undef) rfl (by kernel_rfl) (by kernel_rfl) (by kernel_rfl) (fun _ _ _ h => h) (Or.inr ⟨by rfl, rfl⟩) (by assumption) ?_
    (try simp only [Act.put, List.setIfInBounds_toArray, List.set_cons_zero, List.set_cons_succ])
    refine wpAnyH_take (i := 11) (oi := { dst := some 16, op := Go.Op.pick (Go.Operand.tmp 8) (Go.Operand.tmp 15) (Go.Operand.const (Go.Value.bool false)), type := 4, pos := "vector.go:59", after := #[{ on := 3, ground := Go.Ground.data }, { on := 10, ground := Go.Ground.data }], guard := none }) (v := ?_) rfl (by kernel_rfl) (by kernel_rfl) (by kernel_rfl) (fun _ _ _ h => h) (Or.inl ⟨by rfl, ?_⟩) (by assumption) ?_
    (rotate_left; focus (intro wS hSw; have s0 := (hSw.2 0 _ rfl).1; have s1 := (hSw.2 1 _ rfl).1; clear hSw; go_simp; (try rw [if_neg (by omega)]); try with_reducible rfl))
    (try simp only [Act.put, List.setIfInBounds_toArray, List.set_cons_zero, List.set_cons_succ])
    refine wpAnyH_take (i := 12) (oi := { dst := some 4, op := Go.Op.assign (Go.Operand.tmp 16), type := 4, pos := "vector.go:59", after := #[{ on := 11, ground := Go.Ground.data }, { on := 3, ground := Go.Ground.chain }, { on := 0, ground := Go.Ground.phase }, { on := 1, ground := Go.Ground.phase }, { on := 2, ground := Go.Ground.phase }, { on := 3, ground := Go.Ground.phase }, { on := 4, ground := Go.Ground.phase }, { on := 5, ground := Go.Ground.phase }, { on := 6, ground := Go.Ground.phase }, { on := 7, ground := Go.Ground.phase }, { on := 8, ground := Go.Ground.phase }, { on := 9, ground := Go.Ground.phase }, { on := 10, ground := Go.Ground.phase }, { on := 11, ground := Go.Ground.phase }], guard := none }) (v := ?_) rfl (by kernel_rfl) (by kernel_rfl) (by kernel_rfl) (fun _ _ _ h => h) (Or.inl ⟨by rfl, ?_⟩) (by assumption) ?_
    (rotate_left; focus (intro wS hSw; have s0 := (hSw.2 0 _ rfl).1; have s1 := (hSw.2 1 _ rfl).1; clear hSw; go_simp; (try rw [if_neg (by omega)]); try with_reducible rfl))
    (try simp only [Act.put, List.setIfInBounds_toArray, List.set_cons_zero, List.set_cons_succ])
    refine wpAnyH_done (by kernel_rfl) ?_ _
    all_goals
      go_wp2
      go_ret
      rw [HF.out]
      exact ⟨rfl, HB2.out⟩
  · have HD : Hid (dotC r n = 0) := Lib.hid (by unfold dotC; rw [if_neg h])
    obtain ⟨i, rfl⟩ : ∃ i : Nat, r = i := ⟨r.toNat, by omega⟩
    have hi : i < 16 := by omega
    have HF : Hid (C = decide (n ≤ v.getD i 0)) := Lib.hid (by rw [HC.out, decide_eq_true h, Int.toNat_natCast]; rfl)
    rw [HD.out] at T
    have d1 : (0 : Int) ≤ (i : Int) := by omega
    have d2 : (i : Int) < 16 := by omega
    have HGI := Lib.hid (ints_get v i (by rw [HVL.out]; exact hi))
    obtain ⟨x, hx⟩ : ∃ x, x = v.getD i 0 := ⟨_, rfl⟩
    rw [← hx] at HF HGI
    clear h hx
    go_enter Try.func14, Try.ntmps14
    go_wp2
    obtain ⟨W1, hW1⟩ : ∃ W1, W1 = ((w.alloc (.cells A 23)).alloc (.cells #[.int .i64 (i : Int), .int .i64 n] 25)) := ⟨_, rfl⟩
    rw [← hW1] at HR1 HR2 HR3 ⊢
    clear hW1
    have hQ0 : Bk (w.heap.size + 1) [.int .i64 (i : Int), .int .i64 n] W1.drew ∧ Bk w.heap.size (ints v) W1.drew := ⟨HR2.out.drew, HR1.out.drew⟩
    refine wp_region_held_drew (S := fun w' => Bk (w.heap.size + 1) [.int .i64 (i : Int), .int .i64 n] w' ∧ Bk w.heap.size (ints v) w') (by kernel_rfl) (by (first | exact hQ0 | exact hQ1)) (fun hHeld => ?_)
    refine wpAnyH_take (i := 0) (oi := { dst := some 5, op := Go.Op.load 25 (Go.Operand.tmp 3), type := 25, pos := "vector.go:59", after := #[], guard := none }) (v := ?_) rfl (by kernel_rfl) (by kernel_rfl) (by kernel_rfl) (fun _ _ _ h => h) (Or.inl ⟨by rfl, ?_⟩) (by assumption) ?_
    (rotate_left; focus (intro wS hSw; have s0 := (hSw.1.2 0 _ rfl).1; have s1 := (hSw.1.2 1 _ rfl).1; have s2 := (hSw.2.2 i _ HGI.out).1; clear hSw; go_simp; (try rw [if_neg (by omega)]); try with_reducible rfl))
    (try simp only [Act.put, List.setIfInBounds_toArray, List.set_cons_zero, List.set_cons_succ])
    refine wpAnyH_ready (rs := [1]) (by kernel_rfl) (by simp) ?_
    refine AllReadyH.cons (o := { dst := some 6, op := Go.Op.call { callee := Go.Callee.value (Go.Operand.func 21), args := #[Go.Operand.tmp 5], argTypes := #[25] }, type := 26, pos := "vector.go:59", after := #[{ on := 0, ground := Go.Ground.data }], guard := none }) rfl (fun K hK => ?_) AllReadyH.nil
    go_simp
    refine (T.out _).mono ?_
    rintro e w2 ⟨rfl, hb⟩
    have hQ1 : Bk (w.heap.size + 1) [.int .i64 (i : Int), .int .i64 n] w2 ∧ Bk w.heap.size (ints v) w2 := ⟨hQ0.1.keep hb, hQ0.2.keep hb⟩
    have HB2 := Lib.hid (below_step HR3.out.drew (Nat.le_refl _) hb)
    clear hb
    (try go_wp2_with fail)
    refine hK.out _ _ (by (first | exact hQ0 | exact hQ1)) (fun hHeld => ?_)
    clear hK K
    (try simp only [Act.put, List.setIfInBounds_toArray, List.set_cons_zero, List.set_cons_succ])
    refine wpAnyH_take (i := 2) (oi := { dst := some 7, op := Go.Op.binOp Go.BinOp.eql 26 (Go.Operand.tmp 6) (Go.Operand.const (Go.Value.int Go.IntKind.i64 0)) 26, type := 4, pos := "vector.go:59", after := #[{ on := 1, ground := Go.Ground.data }], guard := none }) (v := ?_) rfl (by kernel_rfl) (by kernel_rfl) (by kernel_rfl) (fun _ _ _ h => h) (Or.inl ⟨by rfl, ?_⟩) (by assumption) ?_
    (rotate_left; focus (intro wS hSw; have s0 := (hSw.1.2 0 _ rfl).1; have s1 := (hSw.1.2 1 _ rfl).1; have s2 := (hSw.2.2 i _ HGI.out).1; clear hSw; go_simp; (try rw [if_neg (by omega)]); try with_reducible rfl))
    (try simp only [Act.put, List.setIfInBounds_toArray, List.set_cons_zero, List.set_cons_succ])
    refine wpAnyH_take (i := 3) (oi := { dst := some 8, op := Go.Op.move (Go.Operand.tmp 7), type := 4, pos := "vector.go:59", after := #[{ on := 2, ground := Go.Ground.data }, { on := 1, ground := Go.Ground.chain }], guard := none }) (v := ?_) rfl (by kernel_rfl) (by kernel_rfl) (by kernel_rfl) (fun _ _ _ h => h) (Or.inl ⟨by rfl, ?_⟩) (by assumption) ?_
    (rotate_left; focus (intro wS hSw; have s0 := (hSw.1.2 0 _ rfl).1; have s1 := (hSw.1.2 1 _ rfl).1; have s2 := (hSw.2.2 i _ HGI.out).1; clear hSw; go_simp; (try rw [if_neg (by omega)]); try with_reducible rfl))
    (try simp only [Act.put, List.setIfInBounds_toArray, List.set_cons_zero, List.set_cons_succ])
    refine wpAnyH_take (i := 4) (oi := { dst := some 9, op := Go.Op.fieldAddr 25 (Go.Operand.tmp 3) 1, type := 0, pos := "vector.go:59", after := #[{ on := 3, ground := Go.Ground.guard }], guard := some (3, true) }) (v := ?_) rfl (by kernel_rfl) (by kernel_rfl) (by kernel_rfl) (fun _ _ _ h => h) (Or.inl ⟨by rfl, ?_⟩) (by assumption) ?_
    (rotate_left; focus (intro wS hSw; have s0 := (hSw.1.2 0 _ rfl).1; have s1 := (hSw.1.2 1 _ rfl).1; have s2 := (hSw.2.2 i _ HGI.out).1; clear hSw; go_simp; (try rw [if_neg (by omega)]); try with_reducible rfl))
    (try simp only [Act.put, List.setIfInBounds_toArray, List.set_cons_zero, List.set_cons_succ])
    refine wpAnyH_take (i := 5) (oi := { dst := some 10, op := Go.Op.load 3 (Go.Operand.tmp 9), type := 3, pos := "vector.go:59", after := #[{ on := 4, ground := Go.Ground.data }, { on := 3, ground := Go.Ground.guard }], guard := some (3, true) }) (v := ?_) rfl (by kernel_rfl) (by kernel_rfl) (by kernel_rfl) (fun _ _ _ h => h) (Or.inl ⟨by rfl, ?_⟩) (by assumption) ?_
    (rotate_left; focus (intro wS hSw; have s0 := (hSw.1.2 0 _ rfl).1; have s1 := (hSw.1.2 1 _ rfl).1; have s2 := (hSw.2.2 i _ HGI.out).1; clear hSw; go_simp; (try rw [if_neg (by omega)]); try with_reducible rfl))
    (try simp only [Act.put, List.setIfInBounds_toArray, List.set_cons_zero, List.set_cons_succ])
    refine wpAnyH_take (i := 6) (oi := { dst := some 11, op := Go.Op.fieldAddr 25 (Go.Operand.tmp 3) 0, type := 0, pos := "vector.go:59", after := #[{ on := 3, ground := Go.Ground.guard }], guard := some (3, true) }) (v := ?_) rfl (by kernel_rfl) (by kernel_rfl) (by kernel_rfl) (fun _ _ _ h => h) (Or.inl ⟨by rfl, ?_⟩) (by assumption) ?_
    (rotate_left; focus (intro wS hSw; have s0 := (hSw.1.2 0 _ rfl).1; have s1 := (hSw.1.2 1 _ rfl).1; have s2 := (hSw.2.2 i _ HGI.out).1; clear hSw; go_simp; (try rw [if_neg (by omega)]); try with_reducible rfl))
    (try simp only [Act.put, List.setIfInBounds_toArray, List.set_cons_zero, List.set_cons_succ])
    refine wpAnyH_take (i := 7) (oi := { dst := some 12, op := Go.Op.load 3 (Go.Operand.tmp 11), type := 3, pos := "vector.go:59", after := #[{ on := 6, ground := Go.Ground.data }, { on := 3, ground := Go.Ground.guard }], guard := some (3, true) }) (v := ?_) rfl (by kernel_rfl) (by kernel_rfl) (by kernel_rfl) (fun _ _ _ h => h) (Or.inl ⟨by rfl, ?_⟩) (by assumption) ?_
    (rotate_left; focus (intro wS hSw; have s0 := (hSw.1.2 0 _ rfl).1; have s1 := (hSw.1.2 1 _ rfl).1; have s2 := (hSw.2.2 i _ HGI.out).1; clear hSw; go_simp; (try rw [if_neg (by omega)]); try with_reducible rfl))
    (try simp only [Act.put, List.setIfInBounds_toArray, List.set_cons_zero, List.set_cons_succ])
    refine wpAnyH_take (i := 8) (oi := { dst := some 13, op := Go.Op.indexAddr 23 (Go.Operand.tmp 2) (Go.Operand.tmp 12), type := 0, pos := "vector.go:59", after := #[{ on := 7, ground := Go.Ground.data }, { on := 3, ground := Go.Ground.guard }], guard := some (3, true) }) (v := ?_) rfl (by kernel_rfl) (by kernel_rfl) (by kernel_rfl) (fun _ _ _ h => h) (Or.inl ⟨by rfl, ?_⟩) (by assumption) ?_
    (rotate_left; focus (intro wS hSw; have s0 := (hSw.1.2 0 _ rfl).1; have s1 := (hSw.1.2 1 _ rfl).1; have s2 := (hSw.2.2 i _ HGI.out).1; clear hSw; go_simp; (try rw [if_neg (by omega)]); try with_reducible rfl))
    (try simp only [Act.put, List.setIfInBounds_toArray, List.set_cons_zero, List.set_cons_succ])
    refine wpAnyH_take (i := 9) (oi := { dst := some 14, op := Go.Op.load 3 (Go.Operand.tmp 13), type := 3, pos := "vector.go:59", after := #[{ on := 8, ground := Go.Ground.data }, { on := 3, ground := Go.Ground.guard }], guard := some (3, true) }) (v := ?_) rfl (by kernel_rfl) (by kernel_rfl) (by kernel_rfl) (fun _ _ _ h => h) (Or.inl ⟨by rfl, ?_⟩) (by assumption) ?_
    (rotate_left; focus (intro wS hSw; have s0 := (hSw.1.2 0 _ rfl).1; have s1 := (hSw.1.2 1 _ rfl).1; have s2 := (hSw.2.2 i _ HGI.out).1; clear hSw; go_simp; (try rw [if_neg (by omega)]); try with_reducible rfl))
    (try simp only [Act.put, List.setIfInBounds_toArray, List.set_cons_zero, List.set_cons_succ])
    refine wpAnyH_take (i := 10) (oi := { dst := some 15, op := Go.Op.binOp Go.BinOp.leq 3 (Go.Operand.tmp 10) (Go.Operand.tmp 14) 3, type := 4, pos := "vector.go:59", after := #[{ on := 5, ground := Go.Ground.data }, { on := 9, ground := Go.Ground.data }, { on := 3, ground := Go.Ground.guard }], guard := some (3, true) }) (v := ?_) rfl (by kernel_rfl) (by kernel_rfl) (by kernel_rfl) (fun _ _ _ h => h) (Or.inl ⟨by rfl, ?_⟩) (by assumption) ?_
    (rotate_left; focus (intro wS hSw; have s0 := (hSw.1.2 0 _ rfl).1; have s1 := (hSw.1.2 1 _ rfl).1; have s2 := (hSw.2.2 i _ HGI.out).1; clear hSw; go_simp; (try rw [if_neg (by omega)]); try with_reducible rfl))
    (try simp only [Act.put, List.setIfInBounds_toArray, List.set_cons_zero, List.set_cons_succ])
    refine wpAnyH_take (i := 11) (oi := { dst := some 16, op := Go.Op.pick (Go.Operand.tmp 8) (Go.Operand.tmp 15) (Go.Operand.const (Go.Value.bool false)), type := 4, pos := "vector.go:59", after := #[{ on := 3, ground := Go.Ground.data }, { on := 10, ground := Go.Ground.data }], guard := none }) (v := ?_) rfl (by kernel_rfl) (by kernel_rfl) (by kernel_rfl) (fun _ _ _ h => h) (Or.inl ⟨by rfl, ?_⟩) (by assumption) ?_
    (rotate_left; focus (intro wS hSw; have s0 := (hSw.1.2 0 _ rfl).1; have s1 := (hSw.1.2 1 _ rfl).1; have s2 := (hSw.2.2 i _ HGI.out).1; clear hSw; go_simp; (try rw [if_neg (by omega)]); try with_reducible rfl))
    (try simp only [Act.put, List.setIfInBounds_toArray, List.set_cons_zero, List.set_cons_succ])
    refine wpAnyH_take (i := 12) (oi := { dst := some 4, op := Go.Op.assign (Go.Operand.tmp 16), type := 4, pos := "vector.go:59", after := #[{ on := 11, ground := Go.Ground.data }, { on := 3, ground := Go.Ground.chain }, { on := 0, ground := Go.Ground.phase }, { on := 1, ground := Go.Ground.phase }, { on := 2, ground := Go.Ground.phase }, { on := 3, ground := Go.Ground.phase }, { on := 4, ground := Go.Ground.phase }, { on := 5, ground := Go.Ground.phase }, { on := 6, ground := Go.Ground.phase }, { on := 7, ground := Go.Ground.phase }, { on := 8, ground := Go.Ground.phase }, { on := 9, ground := Go.Ground.phase }, { on := 10, ground := Go.Ground.phase }, { on := 11, ground := Go.Ground.phase }], guard := none }) (v := ?_) rfl (by kernel_rfl) (by kernel_rfl) (by kernel_rfl) (fun _ _ _ h => h) (Or.inl ⟨by rfl, ?_⟩) (by assumption) ?_
    (rotate_left; focus (intro wS hSw; have s0 := (hSw.1.2 0 _ rfl).1; have s1 := (hSw.1.2 1 _ rfl).1; have s2 := (hSw.2.2 i _ HGI.out).1; clear hSw; go_simp; (try rw [if_neg (by omega)]); try with_reducible rfl))
    (try simp only [Act.put, List.setIfInBounds_toArray, List.set_cons_zero, List.set_cons_succ])
    refine wpAnyH_done (by kernel_rfl) ?_ _
    all_goals
      go_wp2
      go_ret
      rw [HF.out]
      exact ⟨rfl, HB2.out⟩
set_option maxHeartbeats 8000000 in
theorem rhas_any (v : List Int) (r n : Int) (w : World) (hv : v.length = 16) : Calls Try.prog 15 #[.agg (ints v).toArray, .agg #[.int .i64 r, .int .i64 n]] w fun e w' => e = .returned (.bool (hasV v r n)) ∧ Below w.heap.size w w' := by
  have r1 : Bk w.heap.size (ints v) ((w.alloc (.cells (ints v).toArray 23)).alloc (.cells #[.int .i64 r, .int .i64 n] 25)) := (Bk.new w 23 (ints v).toArray).keep (below_new _ _)
  have r2 : Bk (w.heap.size + 1) [.int .i64 r, .int .i64 n] ((w.alloc (.cells (ints v).toArray 23)).alloc (.cells #[.int .i64 r, .int .i64 n] 25)) := by
    have := Bk.new (w.alloc (.cells (ints v).toArray 23)) 25 #[.int .i64 r, .int .i64 n]
    rw [show (w.alloc (.cells (ints v).toArray 23)).heap.size = w.heap.size + 1 by simp] at this
    exact this
  have r3 : Below w.heap.size w ((w.alloc (.cells (ints v).toArray 23)).alloc (.cells #[.int .i64 r, .int .i64 n] 25)) := ((Below.refl _ w).alloc (Nat.le_refl _) _).alloc (by simp) _
  have HVL := Lib.hid hv
  have HR1 := Lib.hid r1; have HR2 := Lib.hid r2; have HR3 := Lib.hid r3
  have T := Lib.hid (fun w => rdcheck_any r n w)
  obtain ⟨C, hC⟩ : ∃ C, C = hasV v r n := ⟨_, rfl⟩
  rw [← hC]
  unfold hasV at hC
  have HC := Lib.hid hC
  obtain ⟨A, hA⟩ : ∃ A, A = (ints v).toArray := ⟨_, rfl⟩
  rw [← hA] at HR1 HR2 HR3 ⊢
  clear hC hA r1 r2 r3 hv
  by_cases h : r < 0 ∨ 16 ≤ r ∨ n < 1 ∨ 1099511627776 < n
  · have HD : Hid (dotC r n = 2) := Lib.hid (by unfold dotC; rw [if_pos h])
    have HF : Hid (C = false) := Lib.hid (by rw [HC.out, decide_eq_false (fun e => e h)]; rfl)
    rw [HD.out] at T
    clear h
    go_enter Try.func15, Try.ntmps15
    go_wp2
    obtain ⟨W1, hW1⟩ : ∃ W1, W1 = ((w.alloc (.cells A 23)).alloc (.cells #[.int .i64 r, .int .i64 n] 25)) := ⟨_, rfl⟩
    rw [← hW1] at HR1 HR2 HR3 ⊢
    clear hW1
    have hQ0 : Bk (w.heap.size + 1) [.int .i64 r, .int .i64 n] W1.drew := HR2.out.drew
    refine wp_region_held_drew (S := fun w' => Bk (w.heap.size + 1) [.int .i64 r, .int .i64 n] w') (by kernel_rfl) (by (first | exact hQ0 | exact hQ1)) (fun hHeld => ?_)
    refine wpAnyH_take (i := 0) (oi := { dst := some 5, op := Go.Op.load 25 (Go.Operand.tmp 3), type := 25, pos := "ref.go:59", after := #[], guard := none }) (v := ?_) rfl (by kernel_rfl) (by kernel_rfl) (by kernel_rfl) (fun _ _ _ h => h) (Or.inl ⟨by rfl, ?_⟩) (by assumption) ?_
    (rotate_left; focus (intro wS hSw; have s0 := (hSw.2 0 _ rfl).1; have s1 := (hSw.2 1 _ rfl).1; clear hSw; go_simp; (try rw [if_neg (by omega)]); try with_reducible rfl))
    (try simp only [Act.put, List.setIfInBounds_toArray, List.set_cons_zero, List.set_cons_succ])
    refine wpAnyH_ready (rs := [1]) (by kernel_rfl) (by simp) ?_
    refine AllReadyH.cons (o := { dst := some 6, op := Go.Op.call { callee := Go.Callee.value (Go.Operand.func 22), args := #[Go.Operand.tmp 5], argTypes := #[25] }, type := 3, pos := "ref.go:59", after := #[{ on := 0, ground := Go.Ground.data }], guard := none }) rfl (fun K hK => ?_) AllReadyH.nil
    go_simp
    refine (T.out _).mono ?_
    rintro e w2 ⟨rfl, hb⟩
    have hQ1 := hQ0.keep hb
    have HB2 := Lib.hid (below_step HR3.out.drew (Nat.le_refl _) hb)
    clear hb
    (try go_wp2_with fail)
    refine hK.out _ _ (by (first | exact hQ0 | exact hQ1)) (fun hHeld => ?_)
    clear hK K
    (try simp only [Act.put, List.setIfInBounds_toArray, List.set_cons_zero, List.set_cons_succ])
    refine wpAnyH_take (i := 2) (oi := { dst := some 7, op := Go.Op.binOp Go.BinOp.eql 3 (Go.Operand.tmp 6) (Go.Operand.const (Go.Value.int Go.IntKind.i64 0)) 3, type := 4, pos := "ref.go:59", after := #[{ on := 1, ground := Go.Ground.data }], guard := none }) (v := ?_) rfl (by kernel_rfl) (by kernel_rfl) (by kernel_rfl) (fun _ _ _ h => h) (Or.inl ⟨by rfl, ?_⟩) (by assumption) ?_
    (rotate_left; focus (intro wS hSw; have s0 := (hSw.2 0 _ rfl).1; have s1 := (hSw.2 1 _ rfl).1; clear hSw; go_simp; (try rw [if_neg (by omega)]); try with_reducible rfl))
    (try simp only [Act.put, List.setIfInBounds_toArray, List.set_cons_zero, List.set_cons_succ])
    refine wpAnyH_take (i := 3) (oi := { dst := some 8, op := Go.Op.move (Go.Operand.tmp 7), type := 4, pos := "ref.go:59", after := #[{ on := 2, ground := Go.Ground.data }, { on := 1, ground := Go.Ground.chain }], guard := none }) (v := ?_) rfl (by kernel_rfl) (by kernel_rfl) (by kernel_rfl) (fun _ _ _ h => h) (Or.inl ⟨by rfl, ?_⟩) (by assumption) ?_
    (rotate_left; focus (intro wS hSw; have s0 := (hSw.2 0 _ rfl).1; have s1 := (hSw.2 1 _ rfl).1; clear hSw; go_simp; (try rw [if_neg (by omega)]); try with_reducible rfl))
    (try simp only [Act.put, List.setIfInBounds_toArray, List.set_cons_zero, List.set_cons_succ])
    refine wpAnyH_take (i := 4) (oi := { dst := some 9, op := Go.Op.fieldAddr 25 (Go.Operand.tmp 3) 1, type := 0, pos := "ref.go:59", after := #[{ on := 3, ground := Go.Ground.guard }], guard := some (3, true) }) (v := undef) rfl (by kernel_rfl) (by kernel_rfl) (by kernel_rfl) (fun _ _ _ h => h) (Or.inr ⟨by rfl, rfl⟩) (by assumption) ?_
    (try simp only [Act.put, List.setIfInBounds_toArray, List.set_cons_zero, List.set_cons_succ])
    refine wpAnyH_take (i := 5) (oi := { dst := some 10, op := Go.Op.load 3 (Go.Operand.tmp 9), type := 3, pos := "ref.go:59", after := #[{ on := 4, ground := Go.Ground.data }, { on := 3, ground := Go.Ground.guard }], guard := some (3, true) }) (v := undef) rfl (by kernel_rfl) (by kernel_rfl) (by kernel_rfl) (fun _ _ _ h => h) (Or.inr ⟨by rfl, rfl⟩) (by assumption) ?_
    (try simp only [Act.put, List.setIfInBounds_toArray, List.set_cons_zero, List.set_cons_succ])
    refine wpAnyH_take (i := 6) (oi := { dst := some 11, op := Go.Op.fieldAddr 25 (Go.Operand.tmp 3) 0, type := 0, pos := "ref.go:59", after := #[{ on := 3, ground := Go.Ground.guard }], guard := some (3, true) }) (v := undef) rfl (by kernel_rfl) (by kernel_rfl) (by kernel_rfl) (fun _ _ _ h => h) (Or.inr ⟨by rfl, rfl⟩) (by assumption) ?_
    (try simp only [Act.put, List.setIfInBounds_toArray, List.set_cons_zero, List.set_cons_succ])
    refine wpAnyH_take (i := 7) (oi := { dst := some 12, op := Go.Op.load 3 (Go.Operand.tmp 11), type := 3, pos := "ref.go:59", after := #[{ on := 6, ground := Go.Ground.data }, { on := 3, ground := Go.Ground.guard }], guard := some (3, true) }) (v := undef) rfl (by kernel_rfl) (by kernel_rfl) (by kernel_rfl) (fun _ _ _ h => h) (Or.inr ⟨by rfl, rfl⟩) (by assumption) ?_
    (try simp only [Act.put, List.setIfInBounds_toArray, List.set_cons_zero, List.set_cons_succ])
    refine wpAnyH_take (i := 8) (oi := { dst := some 13, op := Go.Op.indexAddr 23 (Go.Operand.tmp 2) (Go.Operand.tmp 12), type := 0, pos := "ref.go:59", after := #[{ on := 7, ground := Go.Ground.data }, { on := 3, ground := Go.Ground.guard }], guard := some (3, true) }) (v := undef) rfl (by kernel_rfl) (by kernel_rfl) (by kernel_rfl) (fun _ _ _ h => h) (Or.inr ⟨by rfl, rfl⟩) (by assumption) ?_
    (try simp only [Act.put, List.setIfInBounds_toArray, List.set_cons_zero, List.set_cons_succ])
    refine wpAnyH_take (i := 9) (oi := { dst := some 14, op := Go.Op.load 3 (Go.Operand.tmp 13), type := 3, pos := "ref.go:59", after := #[{ on := 8, ground := Go.Ground.data }, { on := 3, ground := Go.Ground.guard }], guard := some (3, true) }) (v := undef) rfl (by kernel_rfl) (by kernel_rfl) (by kernel_rfl) (fun _ _ _ h => h) (Or.inr ⟨by rfl, rfl⟩) (by assumption) ?_
    (try simp only [Act.put, List.setIfInBounds_toArray, List.set_cons_zero, List.set_cons_succ])
    refine wpAnyH_take (i := 10) (oi := { dst := some 15, op := Go.Op.binOp Go.BinOp.leq 3 (Go.Operand.tmp 10) (Go.Operand.tmp 14) 3, type := 4, pos := "ref.go:59", after := #[{ on := 5, ground := Go.Ground.data }, { on := 9, ground := Go.Ground.data }, { on := 3, ground := Go.Ground.guard }], guard := some (3, true) }) (v := undef) rfl (by kernel_rfl) (by kernel_rfl) (by kernel_rfl) (fun _ _ _ h => h) (Or.inr ⟨by rfl, rfl⟩) (by assumption) ?_
    (try simp only [Act.put, List.setIfInBounds_toArray, List.set_cons_zero, List.set_cons_succ])
    refine wpAnyH_take (i := 11) (oi := { dst := some 16, op := Go.Op.pick (Go.Operand.tmp 8) (Go.Operand.tmp 15) (Go.Operand.const (Go.Value.bool false)), type := 4, pos := "ref.go:59", after := #[{ on := 3, ground := Go.Ground.data }, { on := 10, ground := Go.Ground.data }], guard := none }) (v := ?_) rfl (by kernel_rfl) (by kernel_rfl) (by kernel_rfl) (fun _ _ _ h => h) (Or.inl ⟨by rfl, ?_⟩) (by assumption) ?_
    (rotate_left; focus (intro wS hSw; have s0 := (hSw.2 0 _ rfl).1; have s1 := (hSw.2 1 _ rfl).1; clear hSw; go_simp; (try rw [if_neg (by omega)]); try with_reducible rfl))
    (try simp only [Act.put, List.setIfInBounds_toArray, List.set_cons_zero, List.set_cons_succ])
    refine wpAnyH_take (i := 12) (oi := { dst := some 4, op := Go.Op.assign (Go.Operand.tmp 16), type := 4, pos := "ref.go:59", after := #[{ on := 11, ground := Go.Ground.data }, { on := 3, ground := Go.Ground.chain }, { on := 0, ground := Go.Ground.phase }, { on := 1, ground := Go.Ground.phase }, { on := 2, ground := Go.Ground.phase }, { on := 3, ground := Go.Ground.phase }, { on := 4, ground := Go.Ground.phase }, { on := 5, ground := Go.Ground.phase }, { on := 6, ground := Go.Ground.phase }, { on := 7, ground := Go.Ground.phase }, { on := 8, ground := Go.Ground.phase }, { on := 9, ground := Go.Ground.phase }, { on := 10, ground := Go.Ground.phase }, { on := 11, ground := Go.Ground.phase }], guard := none }) (v := ?_) rfl (by kernel_rfl) (by kernel_rfl) (by kernel_rfl) (fun _ _ _ h => h) (Or.inl ⟨by rfl, ?_⟩) (by assumption) ?_
    (rotate_left; focus (intro wS hSw; have s0 := (hSw.2 0 _ rfl).1; have s1 := (hSw.2 1 _ rfl).1; clear hSw; go_simp; (try rw [if_neg (by omega)]); try with_reducible rfl))
    (try simp only [Act.put, List.setIfInBounds_toArray, List.set_cons_zero, List.set_cons_succ])
    refine wpAnyH_done (by kernel_rfl) ?_ _
    all_goals
      go_wp2
      go_ret
      rw [HF.out]
      exact ⟨rfl, HB2.out⟩
  · have HD : Hid (dotC r n = 0) := Lib.hid (by unfold dotC; rw [if_neg h])
    obtain ⟨i, rfl⟩ : ∃ i : Nat, r = i := ⟨r.toNat, by omega⟩
    have hi : i < 16 := by omega
    have HF : Hid (C = decide (n ≤ v.getD i 0)) := Lib.hid (by rw [HC.out, decide_eq_true h, Int.toNat_natCast]; rfl)
    rw [HD.out] at T
    have d1 : (0 : Int) ≤ (i : Int) := by omega
    have d2 : (i : Int) < 16 := by omega
    have HGI := Lib.hid (ints_get v i (by rw [HVL.out]; exact hi))
    obtain ⟨x, hx⟩ : ∃ x, x = v.getD i 0 := ⟨_, rfl⟩
    rw [← hx] at HF HGI
    clear h hx
    go_enter Try.func15, Try.ntmps15
    go_wp2
    obtain ⟨W1, hW1⟩ : ∃ W1, W1 = ((w.alloc (.cells A 23)).alloc (.cells #[.int .i64 (i : Int), .int .i64 n] 25)) := ⟨_, rfl⟩
    rw [← hW1] at HR1 HR2 HR3 ⊢
    clear hW1
    have hQ0 : Bk (w.heap.size + 1) [.int .i64 (i : Int), .int .i64 n] W1.drew ∧ Bk w.heap.size (ints v) W1.drew := ⟨HR2.out.drew, HR1.out.drew⟩
    refine wp_region_held_drew (S := fun w' => Bk (w.heap.size + 1) [.int .i64 (i : Int), .int .i64 n] w' ∧ Bk w.heap.size (ints v) w') (by kernel_rfl) (by (first | exact hQ0 | exact hQ1)) (fun hHeld => ?_)
    refine wpAnyH_take (i := 0) (oi := { dst := some 5, op := Go.Op.load 25 (Go.Operand.tmp 3), type := 25, pos := "ref.go:59", after := #[], guard := none }) (v := ?_) rfl (by kernel_rfl) (by kernel_rfl) (by kernel_rfl) (fun _ _ _ h => h) (Or.inl ⟨by rfl, ?_⟩) (by assumption) ?_
    (rotate_left; focus (intro wS hSw; have s0 := (hSw.1.2 0 _ rfl).1; have s1 := (hSw.1.2 1 _ rfl).1; have s2 := (hSw.2.2 i _ HGI.out).1; clear hSw; go_simp; (try rw [if_neg (by omega)]); try with_reducible rfl))
    (try simp only [Act.put, List.setIfInBounds_toArray, List.set_cons_zero, List.set_cons_succ])
    refine wpAnyH_ready (rs := [1]) (by kernel_rfl) (by simp) ?_
    refine AllReadyH.cons (o := { dst := some 6, op := Go.Op.call { callee := Go.Callee.value (Go.Operand.func 22), args := #[Go.Operand.tmp 5], argTypes := #[25] }, type := 3, pos := "ref.go:59", after := #[{ on := 0, ground := Go.Ground.data }], guard := none }) rfl (fun K hK => ?_) AllReadyH.nil
    go_simp
    refine (T.out _).mono ?_
    rintro e w2 ⟨rfl, hb⟩
    have hQ1 : Bk (w.heap.size + 1) [.int .i64 (i : Int), .int .i64 n] w2 ∧ Bk w.heap.size (ints v) w2 := ⟨hQ0.1.keep hb, hQ0.2.keep hb⟩
    have HB2 := Lib.hid (below_step HR3.out.drew (Nat.le_refl _) hb)
    clear hb
    (try go_wp2_with fail)
    refine hK.out _ _ (by (first | exact hQ0 | exact hQ1)) (fun hHeld => ?_)
    clear hK K
    (try simp only [Act.put, List.setIfInBounds_toArray, List.set_cons_zero, List.set_cons_succ])
    refine wpAnyH_take (i := 2) (oi := { dst := some 7, op := Go.Op.binOp Go.BinOp.eql 3 (Go.Operand.tmp 6) (Go.Operand.const (Go.Value.int Go.IntKind.i64 0)) 3, type := 4, pos := "ref.go:59", after := #[{ on := 1, ground := Go.Ground.data }], guard := none }) (v := ?_) rfl (by kernel_rfl) (by kernel_rfl) (by kernel_rfl) (fun _ _ _ h => h) (Or.inl ⟨by rfl, ?_⟩) (by assumption) ?_
    (rotate_left; focus (intro wS hSw; have s0 := (hSw.1.2 0 _ rfl).1; have s1 := (hSw.1.2 1 _ rfl).1; have s2 := (hSw.2.2 i _ HGI.out).1; clear hSw; go_simp; (try rw [if_neg (by omega)]); try with_reducible rfl))
    (try simp only [Act.put, List.setIfInBounds_toArray, List.set_cons_zero, List.set_cons_succ])
    refine wpAnyH_take (i := 3) (oi := { dst := some 8, op := Go.Op.move (Go.Operand.tmp 7), type := 4, pos := "ref.go:59", after := #[{ on := 2, ground := Go.Ground.data }, { on := 1, ground := Go.Ground.chain }], guard := none }) (v := ?_) rfl (by kernel_rfl) (by kernel_rfl) (by kernel_rfl) (fun _ _ _ h => h) (Or.inl ⟨by rfl, ?_⟩) (by assumption) ?_
    (rotate_left; focus (intro wS hSw; have s0 := (hSw.1.2 0 _ rfl).1; have s1 := (hSw.1.2 1 _ rfl).1; have s2 := (hSw.2.2 i _ HGI.out).1; clear hSw; go_simp; (try rw [if_neg (by omega)]); try with_reducible rfl))
    (try simp only [Act.put, List.setIfInBounds_toArray, List.set_cons_zero, List.set_cons_succ])
    refine wpAnyH_take (i := 4) (oi := { dst := some 9, op := Go.Op.fieldAddr 25 (Go.Operand.tmp 3) 1, type := 0, pos := "ref.go:59", after := #[{ on := 3, ground := Go.Ground.guard }], guard := some (3, true) }) (v := ?_) rfl (by kernel_rfl) (by kernel_rfl) (by kernel_rfl) (fun _ _ _ h => h) (Or.inl ⟨by rfl, ?_⟩) (by assumption) ?_
    (rotate_left; focus (intro wS hSw; have s0 := (hSw.1.2 0 _ rfl).1; have s1 := (hSw.1.2 1 _ rfl).1; have s2 := (hSw.2.2 i _ HGI.out).1; clear hSw; go_simp; (try rw [if_neg (by omega)]); try with_reducible rfl))
    (try simp only [Act.put, List.setIfInBounds_toArray, List.set_cons_zero, List.set_cons_succ])
    refine wpAnyH_take (i := 5) (oi := { dst := some 10, op := Go.Op.load 3 (Go.Operand.tmp 9), type := 3, pos := "ref.go:59", after := #[{ on := 4, ground := Go.Ground.data }, { on := 3, ground := Go.Ground.guard }], guard := some (3, true) }) (v := ?_) rfl (by kernel_rfl) (by kernel_rfl) (by kernel_rfl) (fun _ _ _ h => h) (Or.inl ⟨by rfl, ?_⟩) (by assumption) ?_
    (rotate_left; focus (intro wS hSw; have s0 := (hSw.1.2 0 _ rfl).1; have s1 := (hSw.1.2 1 _ rfl).1; have s2 := (hSw.2.2 i _ HGI.out).1; clear hSw; go_simp; (try rw [if_neg (by omega)]); try with_reducible rfl))
    (try simp only [Act.put, List.setIfInBounds_toArray, List.set_cons_zero, List.set_cons_succ])
    refine wpAnyH_take (i := 6) (oi := { dst := some 11, op := Go.Op.fieldAddr 25 (Go.Operand.tmp 3) 0, type := 0, pos := "ref.go:59", after := #[{ on := 3, ground := Go.Ground.guard }], guard := some (3, true) }) (v := ?_) rfl (by kernel_rfl) (by kernel_rfl) (by kernel_rfl) (fun _ _ _ h => h) (Or.inl ⟨by rfl, ?_⟩) (by assumption) ?_
    (rotate_left; focus (intro wS hSw; have s0 := (hSw.1.2 0 _ rfl).1; have s1 := (hSw.1.2 1 _ rfl).1; have s2 := (hSw.2.2 i _ HGI.out).1; clear hSw; go_simp; (try rw [if_neg (by omega)]); try with_reducible rfl))
    (try simp only [Act.put, List.setIfInBounds_toArray, List.set_cons_zero, List.set_cons_succ])
    refine wpAnyH_take (i := 7) (oi := { dst := some 12, op := Go.Op.load 3 (Go.Operand.tmp 11), type := 3, pos := "ref.go:59", after := #[{ on := 6, ground := Go.Ground.data }, { on := 3, ground := Go.Ground.guard }], guard := some (3, true) }) (v := ?_) rfl (by kernel_rfl) (by kernel_rfl) (by kernel_rfl) (fun _ _ _ h => h) (Or.inl ⟨by rfl, ?_⟩) (by assumption) ?_
    (rotate_left; focus (intro wS hSw; have s0 := (hSw.1.2 0 _ rfl).1; have s1 := (hSw.1.2 1 _ rfl).1; have s2 := (hSw.2.2 i _ HGI.out).1; clear hSw; go_simp; (try rw [if_neg (by omega)]); try with_reducible rfl))
    (try simp only [Act.put, List.setIfInBounds_toArray, List.set_cons_zero, List.set_cons_succ])
    refine wpAnyH_take (i := 8) (oi := { dst := some 13, op := Go.Op.indexAddr 23 (Go.Operand.tmp 2) (Go.Operand.tmp 12), type := 0, pos := "ref.go:59", after := #[{ on := 7, ground := Go.Ground.data }, { on := 3, ground := Go.Ground.guard }], guard := some (3, true) }) (v := ?_) rfl (by kernel_rfl) (by kernel_rfl) (by kernel_rfl) (fun _ _ _ h => h) (Or.inl ⟨by rfl, ?_⟩) (by assumption) ?_
    (rotate_left; focus (intro wS hSw; have s0 := (hSw.1.2 0 _ rfl).1; have s1 := (hSw.1.2 1 _ rfl).1; have s2 := (hSw.2.2 i _ HGI.out).1; clear hSw; go_simp; (try rw [if_neg (by omega)]); try with_reducible rfl))
    (try simp only [Act.put, List.setIfInBounds_toArray, List.set_cons_zero, List.set_cons_succ])
    refine wpAnyH_take (i := 9) (oi := { dst := some 14, op := Go.Op.load 3 (Go.Operand.tmp 13), type := 3, pos := "ref.go:59", after := #[{ on := 8, ground := Go.Ground.data }, { on := 3, ground := Go.Ground.guard }], guard := some (3, true) }) (v := ?_) rfl (by kernel_rfl) (by kernel_rfl) (by kernel_rfl) (fun _ _ _ h => h) (Or.inl ⟨by rfl, ?_⟩) (by assumption) ?_
    (rotate_left; focus (intro wS hSw; have s0 := (hSw.1.2 0 _ rfl).1; have s1 := (hSw.1.2 1 _ rfl).1; have s2 := (hSw.2.2 i _ HGI.out).1; clear hSw; go_simp; (try rw [if_neg (by omega)]); try with_reducible rfl))
    (try simp only [Act.put, List.setIfInBounds_toArray, List.set_cons_zero, List.set_cons_succ])
    refine wpAnyH_take (i := 10) (oi := { dst := some 15, op := Go.Op.binOp Go.BinOp.leq 3 (Go.Operand.tmp 10) (Go.Operand.tmp 14) 3, type := 4, pos := "ref.go:59", after := #[{ on := 5, ground := Go.Ground.data }, { on := 9, ground := Go.Ground.data }, { on := 3, ground := Go.Ground.guard }], guard := some (3, true) }) (v := ?_) rfl (by kernel_rfl) (by kernel_rfl) (by kernel_rfl) (fun _ _ _ h => h) (Or.inl ⟨by rfl, ?_⟩) (by assumption) ?_
    (rotate_left; focus (intro wS hSw; have s0 := (hSw.1.2 0 _ rfl).1; have s1 := (hSw.1.2 1 _ rfl).1; have s2 := (hSw.2.2 i _ HGI.out).1; clear hSw; go_simp; (try rw [if_neg (by omega)]); try with_reducible rfl))
    (try simp only [Act.put, List.setIfInBounds_toArray, List.set_cons_zero, List.set_cons_succ])
    refine wpAnyH_take (i := 11) (oi := { dst := some 16, op := Go.Op.pick (Go.Operand.tmp 8) (Go.Operand.tmp 15) (Go.Operand.const (Go.Value.bool false)), type := 4, pos := "ref.go:59", after := #[{ on := 3, ground := Go.Ground.data }, { on := 10, ground := Go.Ground.data }], guard := none }) (v := ?_) rfl (by kernel_rfl) (by kernel_rfl) (by kernel_rfl) (fun _ _ _ h => h) (Or.inl ⟨by rfl, ?_⟩) (by assumption) ?_
    (rotate_left; focus (intro wS hSw; have s0 := (hSw.1.2 0 _ rfl).1; have s1 := (hSw.1.2 1 _ rfl).1; have s2 := (hSw.2.2 i _ HGI.out).1; clear hSw; go_simp; (try rw [if_neg (by omega)]); try with_reducible rfl))
    (try simp only [Act.put, List.setIfInBounds_toArray, List.set_cons_zero, List.set_cons_succ])
    refine wpAnyH_take (i := 12) (oi := { dst := some 4, op := Go.Op.assign (Go.Operand.tmp 16), type := 4, pos := "ref.go:59", after := #[{ on := 11, ground := Go.Ground.data }, { on := 3, ground := Go.Ground.chain }, { on := 0, ground := Go.Ground.phase }, { on := 1, ground := Go.Ground.phase }, { on := 2, ground := Go.Ground.phase }, { on := 3, ground := Go.Ground.phase }, { on := 4, ground := Go.Ground.phase }, { on := 5, ground := Go.Ground.phase }, { on := 6, ground := Go.Ground.phase }, { on := 7, ground := Go.Ground.phase }, { on := 8, ground := Go.Ground.phase }, { on := 9, ground := Go.Ground.phase }, { on := 10, ground := Go.Ground.phase }, { on := 11, ground := Go.Ground.phase }], guard := none }) (v := ?_) rfl (by kernel_rfl) (by kernel_rfl) (by kernel_rfl) (fun _ _ _ h => h) (Or.inl ⟨by rfl, ?_⟩) (by assumption) ?_
    (rotate_left; focus (intro wS hSw; have s0 := (hSw.1.2 0 _ rfl).1; have s1 := (hSw.1.2 1 _ rfl).1; have s2 := (hSw.2.2 i _ HGI.out).1; clear hSw; go_simp; (try rw [if_neg (by omega)]); try with_reducible rfl))
    (try simp only [Act.put, List.setIfInBounds_toArray, List.set_cons_zero, List.set_cons_succ])
    refine wpAnyH_done (by kernel_rfl) ?_ _
    all_goals
      go_wp2
      go_ret
      rw [HF.out]
      exact ⟨rfl, HB2.out⟩
end Go.Proofs.Ytommogkckooekaa

