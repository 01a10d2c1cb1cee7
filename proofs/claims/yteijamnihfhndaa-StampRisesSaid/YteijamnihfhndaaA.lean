/-
  Contracts of cmp's functions at int, of stamp's order, Less and Check, and of the reference's Less and Check.
-/
import Derived.Test.YteijamnihfhndaaBase2
import Derived.Test.YteijamnihfhndaaM
import Derived.Test.YteijamnihfhndaaProg
namespace Go.Proofs.Yteijamnihfhndaa
open Go.RowKit
abbrev ag (a : St) : Value := .agg #[.int .i64 a.t, .int .i64 a.c, .int .i64 a.r]
theorem nan_any (x : Int) (w : World) : Calls Try.prog 20 #[.int .i64 x] w fun e w' => e = .returned (.bool false) ∧ w = w' := by
  go_enter Try.func20, Try.ntmps20
  go_wp2
  go_ret
  exact ⟨by simp, rfl⟩
theorem compare_any (x y : Int) (w : World) : Calls Try.prog 19 #[.int .i64 x, .int .i64 y] w fun e w' => e = .returned (.int .i64 (cmpI x y)) ∧ w = w' := by
  have HC : Hid (cmpI x y = if x < y then -1 else if y < x then 1 else 0) := Lib.hid rfl
  by_cases h : x < y
  · go_enter Try.func19, Try.ntmps19
    go_wp2_with (go_at_call 20; refine (nan_any _ _).mono ?_; rintro e w' ⟨rfl, rfl⟩)
    go_ret
    exact ⟨rint (by rw [HC.out, if_pos (by omega)]), rfl⟩
  · by_cases h2 : y < x
    · go_enter Try.func19, Try.ntmps19
      go_wp2_with (go_at_call 20; refine (nan_any _ _).mono ?_; rintro e w' ⟨rfl, rfl⟩)
      go_ret
      exact ⟨rint (by rw [HC.out, if_neg (by omega), if_pos (by omega)]), rfl⟩
    · go_enter Try.func19, Try.ntmps19
      go_wp2_with (go_at_call 20; refine (nan_any _ _).mono ?_; rintro e w' ⟨rfl, rfl⟩)
      go_ret
      exact ⟨rint (by rw [HC.out, if_neg (by omega), if_neg (by omega)]), rfl⟩
set_option maxHeartbeats 1000000 in
theorem or_any (b : Nat) (x y z : Int) (w : World) (h0 : w.cell? ⟨b, 0, none⟩ = some (.int .i64 x)) (h1 : w.cell? ⟨b, 1, none⟩ = some (.int .i64 y)) (h2 : w.cell? ⟨b, 2, none⟩ = some (.int .i64 z)) :
    Calls Try.prog 18 #[.slice (some ⟨b, 0, none⟩) 3 3] w fun e w' => e = .returned (.int .i64 (or3 x y z)) ∧ w = w' := by
  have HC : Hid (or3 x y z = if x ≠ 0 then x else if y ≠ 0 then y else z) := Lib.hid rfl
  go_enter Try.func18, Try.ntmps18
  go_wp2
  go_loop [5, 8] (fun _ i => ∃ k : Nat, k ≤ 3 ∧ i = .int .i64 k ∧ (1 ≤ k → x = 0) ∧ (2 ≤ k → y = 0) ∧ (3 ≤ k → z = 0)) (fun _ i => 3 - (intOf i).toNat)
  case atStart => exact ⟨0, by omega, rfl, by omega, by omega, by omega⟩
  case round =>
    obtain ⟨k, hk, rfl, g0, g1, g2⟩ := hrel
    have HG := Lib.hid (And.intro g0 (And.intro g1 g2))
    clear g0 g1 g2
    obtain rfl | rfl | rfl | rfl : k = 0 ∨ k = 1 ∨ k = 2 ∨ k = 3 := by omega
    · by_cases hx : x = 0
      · have hx2 : (x != 0) = false := by rw [hx]; rfl
        have HX := Lib.hid hx; clear hx
        go_wp2
        go_round
        case rel => exact ⟨1, by omega, rfl, fun _ => HX.out, by omega, by omega⟩
        case measure => simp [intOf]
      · have hx2 : (x != 0) = true := bne_iff_ne.2 hx
        have HX := Lib.hid hx; clear hx
        go_wp2
        go_ret
        exact ⟨rint (by rw [HC.out, if_pos HX.out]), rfl⟩
    · have HX : Hid (x = 0) := Lib.hid (HG.out.1 (by omega))
      by_cases hx : y = 0
      · have hx2 : (y != 0) = false := by rw [hx]; rfl
        have HY := Lib.hid hx; clear hx
        go_wp2
        go_round
        case rel => exact ⟨2, by omega, rfl, fun _ => HX.out, fun _ => HY.out, by omega⟩
        case measure => simp [intOf]
      · have hx2 : (y != 0) = true := bne_iff_ne.2 hx
        have HY := Lib.hid hx; clear hx
        go_wp2
        go_ret
        exact ⟨rint (by rw [HC.out, HX.out, if_neg (by simp), if_pos HY.out]), rfl⟩
    · have HX : Hid (x = 0) := Lib.hid (HG.out.1 (by omega))
      have HY : Hid (y = 0) := Lib.hid (HG.out.2.1 (by omega))
      by_cases hx : z = 0
      · have hx2 : (z != 0) = false := by rw [hx]; rfl
        have HZ := Lib.hid hx; clear hx
        go_wp2
        go_round
        case rel => exact ⟨3, by omega, rfl, fun _ => HX.out, fun _ => HY.out, fun _ => HZ.out⟩
        case measure => simp [intOf]
      · have hx2 : (z != 0) = true := bne_iff_ne.2 hx
        go_wp2
        go_ret
        exact ⟨rint (by rw [HC.out, HX.out, HY.out, if_neg (by simp), if_neg (by simp)]), rfl⟩
    · have HX : Hid (x = 0) := Lib.hid (HG.out.1 (by omega))
      have HY : Hid (y = 0) := Lib.hid (HG.out.2.1 (by omega))
      have HZ : Hid (z = 0) := Lib.hid (HG.out.2.2 (by omega))
      go_wp2
      go_ret
      exact ⟨rint (by rw [HC.out, HX.out, HY.out, HZ.out, if_neg (by simp), if_neg (by simp)]), rfl⟩
set_option maxHeartbeats 1000000 in
theorem order_any (a b : St) (w : World) : Calls Try.prog 17 #[ag a, ag b] w fun e w' => e = .returned (.int .i64 (ordS a b)) ∧ Below w.heap.size w w' := by
  have HO : Hid (ordS a b = or3 (cmpI a.t b.t) (cmpI a.c b.c) (cmpI a.r b.r)) := Lib.hid rfl
  obtain ⟨x0, x1, x2⟩ := a
  obtain ⟨y0, y1, y2⟩ := b
  simp only at HO
  go_enter Try.func17, Try.ntmps17
  go_wp2_with fail
  refine wp_region_held_drew (S := fun w' => w'.cell? ⟨w.heap.size, 0, none⟩ = some (.int .i64 x0) ∧ w'.cell? ⟨w.heap.size, 1, none⟩ = some (.int .i64 x1) ∧ w'.cell? ⟨w.heap.size, 2, none⟩ = some (.int .i64 x2) ∧ w'.cell? ⟨w.heap.size + 1, 0, none⟩ = some (.int .i64 y0) ∧ w'.cell? ⟨w.heap.size + 1, 1, none⟩ = some (.int .i64 y1) ∧ w'.cell? ⟨w.heap.size + 1, 2, none⟩ = some (.int .i64 y2)) (by kernel_rfl) (by go_keep) (fun hHeld => ?_)
  refine wpAnyH_take (i := 0) (oi := { dst := some 5, op := Go.Op.fieldAddr 41 (Go.Operand.tmp 2) 0, type := 0, pos := "stamp.go:18", after := #[], guard := none }) (v := ?_) rfl (by kernel_rfl) (by kernel_rfl) (by kernel_rfl) (fun _ _ _ h => h) (Or.inl ⟨by rfl, ?_⟩) (by assumption) ?_
  (rotate_left; focus (intro w hSw; (try dsimp only at hSw); go_simp; try with_reducible rfl))
  (try simp only [Act.put, List.setIfInBounds_toArray, List.set_cons_zero, List.set_cons_succ])
  refine wpAnyH_take (i := 1) (oi := { dst := some 6, op := Go.Op.load 3 (Go.Operand.tmp 5), type := 3, pos := "stamp.go:18", after := #[{ on := 0, ground := Go.Ground.data }], guard := none }) (v := ?_) rfl (by kernel_rfl) (by kernel_rfl) (by kernel_rfl) (fun _ _ _ h => h) (Or.inl ⟨by rfl, ?_⟩) (by assumption) ?_
  (rotate_left; focus (intro w hSw; (try dsimp only at hSw); go_simp; try with_reducible rfl))
  (try simp only [Act.put, List.setIfInBounds_toArray, List.set_cons_zero, List.set_cons_succ])
  refine wpAnyH_take (i := 2) (oi := { dst := some 7, op := Go.Op.fieldAddr 41 (Go.Operand.tmp 3) 0, type := 0, pos := "stamp.go:18", after := #[], guard := none }) (v := ?_) rfl (by kernel_rfl) (by kernel_rfl) (by kernel_rfl) (fun _ _ _ h => h) (Or.inl ⟨by rfl, ?_⟩) (by assumption) ?_
  (rotate_left; focus (intro w hSw; (try dsimp only at hSw); go_simp; try with_reducible rfl))
  (try simp only [Act.put, List.setIfInBounds_toArray, List.set_cons_zero, List.set_cons_succ])
  refine wpAnyH_take (i := 3) (oi := { dst := some 8, op := Go.Op.load 3 (Go.Operand.tmp 7), type := 3, pos := "stamp.go:18", after := #[{ on := 2, ground := Go.Ground.data }], guard := none }) (v := ?_) rfl (by kernel_rfl) (by kernel_rfl) (by kernel_rfl) (fun _ _ _ h => h) (Or.inl ⟨by rfl, ?_⟩) (by assumption) ?_
  (rotate_left; focus (intro w hSw; (try dsimp only at hSw); go_simp; try with_reducible rfl))
  (try simp only [Act.put, List.setIfInBounds_toArray, List.set_cons_zero, List.set_cons_succ])
  refine wpAnyH_take (i := 5) (oi := { dst := some 10, op := Go.Op.fieldAddr 41 (Go.Operand.tmp 2) 1, type := 0, pos := "stamp.go:18", after := #[], guard := none }) (v := ?_) rfl (by kernel_rfl) (by kernel_rfl) (by kernel_rfl) (fun _ _ _ h => h) (Or.inl ⟨by rfl, ?_⟩) (by assumption) ?_
  (rotate_left; focus (intro w hSw; (try dsimp only at hSw); go_simp; try with_reducible rfl))
  (try simp only [Act.put, List.setIfInBounds_toArray, List.set_cons_zero, List.set_cons_succ])
  refine wpAnyH_take (i := 6) (oi := { dst := some 11, op := Go.Op.load 3 (Go.Operand.tmp 10), type := 3, pos := "stamp.go:18", after := #[{ on := 5, ground := Go.Ground.data }], guard := none }) (v := ?_) rfl (by kernel_rfl) (by kernel_rfl) (by kernel_rfl) (fun _ _ _ h => h) (Or.inl ⟨by rfl, ?_⟩) (by assumption) ?_
  (rotate_left; focus (intro w hSw; (try dsimp only at hSw); go_simp; try with_reducible rfl))
  (try simp only [Act.put, List.setIfInBounds_toArray, List.set_cons_zero, List.set_cons_succ])
  refine wpAnyH_take (i := 7) (oi := { dst := some 12, op := Go.Op.fieldAddr 41 (Go.Operand.tmp 3) 1, type := 0, pos := "stamp.go:18", after := #[], guard := none }) (v := ?_) rfl (by kernel_rfl) (by kernel_rfl) (by kernel_rfl) (fun _ _ _ h => h) (Or.inl ⟨by rfl, ?_⟩) (by assumption) ?_
  (rotate_left; focus (intro w hSw; (try dsimp only at hSw); go_simp; try with_reducible rfl))
  (try simp only [Act.put, List.setIfInBounds_toArray, List.set_cons_zero, List.set_cons_succ])
  refine wpAnyH_take (i := 8) (oi := { dst := some 13, op := Go.Op.load 3 (Go.Operand.tmp 12), type := 3, pos := "stamp.go:18", after := #[{ on := 7, ground := Go.Ground.data }], guard := none }) (v := ?_) rfl (by kernel_rfl) (by kernel_rfl) (by kernel_rfl) (fun _ _ _ h => h) (Or.inl ⟨by rfl, ?_⟩) (by assumption) ?_
  (rotate_left; focus (intro w hSw; (try dsimp only at hSw); go_simp; try with_reducible rfl))
  (try simp only [Act.put, List.setIfInBounds_toArray, List.set_cons_zero, List.set_cons_succ])
  refine wpAnyH_take (i := 10) (oi := { dst := some 15, op := Go.Op.fieldAddr 41 (Go.Operand.tmp 2) 2, type := 0, pos := "stamp.go:18", after := #[], guard := none }) (v := ?_) rfl (by kernel_rfl) (by kernel_rfl) (by kernel_rfl) (fun _ _ _ h => h) (Or.inl ⟨by rfl, ?_⟩) (by assumption) ?_
  (rotate_left; focus (intro w hSw; (try dsimp only at hSw); go_simp; try with_reducible rfl))
  (try simp only [Act.put, List.setIfInBounds_toArray, List.set_cons_zero, List.set_cons_succ])
  refine wpAnyH_take (i := 11) (oi := { dst := some 16, op := Go.Op.load 3 (Go.Operand.tmp 15), type := 3, pos := "stamp.go:18", after := #[{ on := 10, ground := Go.Ground.data }], guard := none }) (v := ?_) rfl (by kernel_rfl) (by kernel_rfl) (by kernel_rfl) (fun _ _ _ h => h) (Or.inl ⟨by rfl, ?_⟩) (by assumption) ?_
  (rotate_left; focus (intro w hSw; (try dsimp only at hSw); go_simp; try with_reducible rfl))
  (try simp only [Act.put, List.setIfInBounds_toArray, List.set_cons_zero, List.set_cons_succ])
  refine wpAnyH_take (i := 12) (oi := { dst := some 17, op := Go.Op.fieldAddr 41 (Go.Operand.tmp 3) 2, type := 0, pos := "stamp.go:18", after := #[], guard := none }) (v := ?_) rfl (by kernel_rfl) (by kernel_rfl) (by kernel_rfl) (fun _ _ _ h => h) (Or.inl ⟨by rfl, ?_⟩) (by assumption) ?_
  (rotate_left; focus (intro w hSw; (try dsimp only at hSw); go_simp; try with_reducible rfl))
  (try simp only [Act.put, List.setIfInBounds_toArray, List.set_cons_zero, List.set_cons_succ])
  refine wpAnyH_take (i := 13) (oi := { dst := some 18, op := Go.Op.load 3 (Go.Operand.tmp 17), type := 3, pos := "stamp.go:18", after := #[{ on := 12, ground := Go.Ground.data }], guard := none }) (v := ?_) rfl (by kernel_rfl) (by kernel_rfl) (by kernel_rfl) (fun _ _ _ h => h) (Or.inl ⟨by rfl, ?_⟩) (by assumption) ?_
  (rotate_left; focus (intro w hSw; (try dsimp only at hSw); go_simp; try with_reducible rfl))
  (try simp only [Act.put, List.setIfInBounds_toArray, List.set_cons_zero, List.set_cons_succ])
  refine wpAnyH_ready (rs := [4]) (by kernel_rfl) (by simp) ?_
  refine AllReadyH.cons (o := { dst := some 9, op := Go.Op.call { callee := Go.Callee.value (Go.Operand.func 19), args := #[Go.Operand.tmp 6, Go.Operand.tmp 8], argTypes := #[3, 3] }, type := 3, pos := "stamp.go:18", after := #[{ on := 1, ground := Go.Ground.data }, { on := 3, ground := Go.Ground.data }], guard := none }) rfl (fun K hK => ?_) AllReadyH.nil
  go_simp
  refine (compare_any _ _ _).mono ?_
  rintro e w1 ⟨rfl, rfl⟩
  (try go_wp2_with fail)
  refine hK.out _ _ (by go_keep) (fun hHeld => ?_)
  clear hK K
  (try simp only [Act.put, List.setIfInBounds_toArray, List.set_cons_zero, List.set_cons_succ])
  refine wpAnyH_ready (rs := [9]) (by kernel_rfl) (by simp) ?_
  refine AllReadyH.cons (o := { dst := some 14, op := Go.Op.call { callee := Go.Callee.value (Go.Operand.func 19), args := #[Go.Operand.tmp 11, Go.Operand.tmp 13], argTypes := #[3, 3] }, type := 3, pos := "stamp.go:18", after := #[{ on := 6, ground := Go.Ground.data }, { on := 8, ground := Go.Ground.data }, { on := 4, ground := Go.Ground.chain }], guard := none }) rfl (fun K hK => ?_) AllReadyH.nil
  go_simp
  refine (compare_any _ _ _).mono ?_
  rintro e w1 ⟨rfl, rfl⟩
  (try go_wp2_with fail)
  refine hK.out _ _ (by go_keep) (fun hHeld => ?_)
  clear hK K
  (try simp only [Act.put, List.setIfInBounds_toArray, List.set_cons_zero, List.set_cons_succ])
  refine wpAnyH_ready (rs := [14]) (by kernel_rfl) (by simp) ?_
  refine AllReadyH.cons (o := { dst := some 19, op := Go.Op.call { callee := Go.Callee.value (Go.Operand.func 19), args := #[Go.Operand.tmp 16, Go.Operand.tmp 18], argTypes := #[3, 3] }, type := 3, pos := "stamp.go:18", after := #[{ on := 11, ground := Go.Ground.data }, { on := 13, ground := Go.Ground.data }, { on := 9, ground := Go.Ground.chain }], guard := none }) rfl (fun K hK => ?_) AllReadyH.nil
  go_simp
  refine (compare_any _ _ _).mono ?_
  rintro e w1 ⟨rfl, rfl⟩
  (try go_wp2_with fail)
  refine hK.out _ _ (by go_keep) (fun hHeld => ?_)
  clear hK K
  (try simp only [Act.put, List.setIfInBounds_toArray, List.set_cons_zero, List.set_cons_succ])
  refine wpAnyH_ready (rs := [15]) (by kernel_rfl) (by simp) ?_
  refine AllReadyH.cons (o := { dst := some 20, op := Go.Op.buildSlice 47 3 #[(0, Go.Operand.tmp 9), (1, Go.Operand.tmp 14), (2, Go.Operand.tmp 19)], type := 47, pos := "stamp.go:18", after := #[{ on := 4, ground := Go.Ground.data }, { on := 9, ground := Go.Ground.data }, { on := 14, ground := Go.Ground.data }], guard := none }) rfl (fun K hK => ?_) AllReadyH.nil
  go_simp
  refine hK.out _ _ (by go_keep) (fun hHeld => ?_)
  clear hK K
  (try simp only [Act.put, List.setIfInBounds_toArray, List.set_cons_zero, List.set_cons_succ])
  refine wpAnyH_ready (rs := [16]) (by kernel_rfl) (by simp) ?_
  refine AllReadyH.cons (o := { dst := some 21, op := Go.Op.call { callee := Go.Callee.value (Go.Operand.func 18), args := #[Go.Operand.tmp 20], argTypes := #[47] }, type := 3, pos := "stamp.go:18", after := #[{ on := 15, ground := Go.Ground.data }, { on := 14, ground := Go.Ground.chain }], guard := none }) rfl (fun K hK => ?_) AllReadyH.nil
  go_simp
  refine (or_any _ (cmpI x0 y0) (cmpI x1 y1) (cmpI x2 y2) _ (by go_simp) (by go_simp) (by go_simp)).mono ?_
  rintro e w1 ⟨rfl, rfl⟩
  (try go_wp2_with fail)
  refine hK.out _ _ (by go_keep) (fun hHeld => ?_)
  clear hK K
  (try simp only [Act.put, List.setIfInBounds_toArray, List.set_cons_zero, List.set_cons_succ])
  refine wpAnyH_take (i := 17) (oi := { dst := some 4, op := Go.Op.assign (Go.Operand.tmp 21), type := 3, pos := "stamp.go:18", after := #[{ on := 16, ground := Go.Ground.data }, { on := 16, ground := Go.Ground.chain }, { on := 0, ground := Go.Ground.phase }, { on := 1, ground := Go.Ground.phase }, { on := 2, ground := Go.Ground.phase }, { on := 3, ground := Go.Ground.phase }, { on := 4, ground := Go.Ground.phase }, { on := 5, ground := Go.Ground.phase }, { on := 6, ground := Go.Ground.phase }, { on := 7, ground := Go.Ground.phase }, { on := 8, ground := Go.Ground.phase }, { on := 9, ground := Go.Ground.phase }, { on := 10, ground := Go.Ground.phase }, { on := 11, ground := Go.Ground.phase }, { on := 12, ground := Go.Ground.phase }, { on := 13, ground := Go.Ground.phase }, { on := 14, ground := Go.Ground.phase }, { on := 15, ground := Go.Ground.phase }, { on := 16, ground := Go.Ground.phase }], guard := none }) (v := ?_) rfl (by kernel_rfl) (by kernel_rfl) (by kernel_rfl) (fun _ _ _ h => h) (Or.inl ⟨by rfl, ?_⟩) (by assumption) ?_
  (rotate_left; focus (intro w hSw; (try dsimp only at hSw); go_simp; try with_reducible rfl))
  (try simp only [Act.put, List.setIfInBounds_toArray, List.set_cons_zero, List.set_cons_succ])
  refine wpAnyH_done (by kernel_rfl) ?_ _
  go_wp2_with fail
  go_ret
  exact ⟨rint HO.out.symm, (((below_new _ _).alloc (by simp) _).alloc (by simp; omega) _).drew⟩
set_option maxHeartbeats 1000000 in
theorem less_any (a b : St) (w : World) : Calls Try.prog 12 #[ag a, ag b] w fun e w' => e = .returned (.bool (lessB a b)) ∧ Below w.heap.size w w' := by
  have HL := Lib.hid (less_ord a b)
  have HO := Lib.hid (order_any a b)
  obtain ⟨x0, x1, x2⟩ := a
  obtain ⟨y0, y1, y2⟩ := b
  go_enter Try.func12, Try.ntmps12
  go_wp2_with fail
  refine (HO.out _).mono ?_
  rintro e w1 ⟨rfl, hb1⟩
  go_wp2_with fail
  go_ret
  exact ⟨rbool HL.out, below_alloc (below_alloc hb1)⟩
def chkS (a : St) : Int := if okB a = true then 0 else 2
theorem bad_any (n : Int) (w : World) : Calls Try.prog 15 #[.int .i64 n] w fun e w' => e = .returned (.bool (badB n)) ∧ w = w' := by
  have HB : Hid (badB n = decide (n < 0 ∨ 1099511627776 < n)) := Lib.hid rfl
  by_cases h : n < 0
  · go_enter Try.func15, Try.ntmps15
    go_wp2
    go_ret
    exact ⟨rbool (by rw [HB.out]; symm; exact decide_eq_true (.inl h)), rfl⟩
  · by_cases h2 : 1099511627776 < n
    · go_enter Try.func15, Try.ntmps15
      go_wp2
      go_ret
      exact ⟨rbool (by rw [HB.out]; symm; exact decide_eq_true (.inr h2)), rfl⟩
    · go_enter Try.func15, Try.ntmps15
      go_wp2
      go_ret
      exact ⟨rbool (by rw [HB.out]; symm; exact decide_eq_false (by omega)), rfl⟩
theorem refLess_any (a b : St) (w : World) : Calls Try.prog 13 #[ag a, ag b] w fun e w' => e = .returned (.bool (lessB a b)) ∧ Below w.heap.size w w' := by
  have HB : Hid (lessB a b = decide (a.t < b.t ∨ (a.t = b.t ∧ (a.c < b.c ∨ (a.c = b.c ∧ a.r < b.r))))) := Lib.hid rfl
  obtain ⟨x0, x1, x2⟩ := a
  obtain ⟨y0, y1, y2⟩ := b
  simp only at HB
  have hb := (below_new w (.cells #[.int .i64 x0, .int .i64 x1, .int .i64 x2] 23)).alloc (by simp) (.cells #[.int .i64 y0, .int .i64 y1, .int .i64 y2] 23)
  by_cases h : x0 = y0
  · have h' : (x0 != y0) = false := by rw [h]; simp
    have HH := Lib.hid h; clear h
    by_cases h : x1 = y1
    · have h2' : (x1 != y1) = false := by rw [h]; simp
      have HH2 := Lib.hid h; clear h
      go_enter Try.func13, Try.ntmps13
      go_wp2
      go_ret
      refine ⟨rbool ?_, hb⟩
      rw [HB.out, decide_eq_decide, HH.out, HH2.out]
      simp
    · have h2' : (x1 != y1) = true := bne_iff_ne.2 h
      have HH2 := Lib.hid h; clear h
      go_enter Try.func13, Try.ntmps13
      go_wp2
      go_ret
      refine ⟨rbool ?_, hb⟩
      rw [HB.out, decide_eq_decide, HH.out]
      simp [HH2.out]
  · have h' : (x0 != y0) = true := bne_iff_ne.2 h
    have HH := Lib.hid h; clear h
    go_enter Try.func13, Try.ntmps13
    go_wp2
    go_ret
    refine ⟨rbool ?_, hb⟩
    rw [HB.out, decide_eq_decide]
    simp [HH.out]
set_option maxHeartbeats 1000000 in
theorem check_any (a : St) (w : World) : Calls Try.prog 10 #[ag a] w fun e w' => e = .returned (.int .i64 (chkS a)) ∧ Below w.heap.size w w' := by
  have HB : Hid (okB a = decide (0 ≤ a.t ∧ a.t ≤ 1099511627776 ∧ 0 ≤ a.c ∧ a.c ≤ 1099511627776 ∧ 0 ≤ a.r ∧ a.r ≤ 15)) := Lib.hid rfl
  have HK : Hid (chkS a = if okB a = true then 0 else 2) := Lib.hid rfl
  generalize chkS a = K at *
  generalize hk : okB a = B at *
  clear hk
  obtain ⟨t, c, r⟩ := a
  simp only at HB
  have hb := below_new w (.cells #[.int .i64 t, .int .i64 c, .int .i64 r] 23)
  have no : ¬ (0 ≤ t ∧ t ≤ 1099511627776 ∧ 0 ≤ c ∧ c ≤ 1099511627776 ∧ 0 ≤ r ∧ r ≤ 15) → Ending.returned (Value.int .i64 2) = .returned (.int .i64 K) := fun h => by rw [HK.out, HB.out, decide_eq_false h]; rfl
  have NO := Lib.hid no
  clear no
  cases h1 : badB t with
  | true =>
    have H1 := Lib.hid h1; clear h1
    go_enter Try.func10, Try.ntmps10
    go_wp2_with fail
    refine (bad_any _ _).mono ?_
    rintro e w1 ⟨rfl, rfl⟩
    rw [H1.out]
    go_wp2_with fail
    go_ret
    exact ⟨NO.out (by have := bad_iff.1 H1.out; omega), hb⟩
  | false =>
    have H1 := Lib.hid h1; clear h1
    cases h2 : badB c with
    | true =>
      have H2 := Lib.hid h2; clear h2
      go_enter Try.func10, Try.ntmps10
      go_wp2_with fail
      refine (bad_any _ _).mono ?_
      rintro e w1 ⟨rfl, rfl⟩
      rw [H1.out]
      go_wp2_with fail
      refine (bad_any _ _).mono ?_
      rintro e w1 ⟨rfl, rfl⟩
      rw [H2.out]
      go_wp2_with fail
      go_ret
      exact ⟨NO.out (by have := bad_iff.1 H2.out; omega), hb⟩
    | false =>
      have H2 := Lib.hid h2; clear h2
      have ht : ¬ (t < 0 ∨ 1099511627776 < t) := fun h => by have := bad_iff.2 h; rw [H1.out] at this; cases this
      have hc : ¬ (c < 0 ∨ 1099511627776 < c) := fun h => by have := bad_iff.2 h; rw [H2.out] at this; cases this
      have HTC := Lib.hid (And.intro ht hc); clear ht hc
      by_cases h3 : r < 0
      · go_enter Try.func10, Try.ntmps10
        go_wp2_with fail
        refine (bad_any _ _).mono ?_
        rintro e w1 ⟨rfl, rfl⟩
        rw [H1.out]
        go_wp2_with fail
        refine (bad_any _ _).mono ?_
        rintro e w1 ⟨rfl, rfl⟩
        rw [H2.out]
        go_wp2_with fail
        go_ret
        exact ⟨NO.out (by omega), hb⟩
      · by_cases h4 : 16 ≤ r
        · go_enter Try.func10, Try.ntmps10
          go_wp2_with fail
          refine (bad_any _ _).mono ?_
          rintro e w1 ⟨rfl, rfl⟩
          rw [H1.out]
          go_wp2_with fail
          refine (bad_any _ _).mono ?_
          rintro e w1 ⟨rfl, rfl⟩
          rw [H2.out]
          go_wp2_with fail
          go_ret
          exact ⟨NO.out (by omega), hb⟩
        · go_enter Try.func10, Try.ntmps10
          go_wp2_with fail
          refine (bad_any _ _).mono ?_
          rintro e w1 ⟨rfl, rfl⟩
          rw [H1.out]
          go_wp2_with fail
          refine (bad_any _ _).mono ?_
          rintro e w1 ⟨rfl, rfl⟩
          rw [H2.out]
          go_wp2_with fail
          go_ret
          exact ⟨rint (by have := HTC.out; rw [HK.out, HB.out, decide_eq_true (by omega)]; rfl), hb⟩
theorem refCheck_any (a : St) (w : World) : Calls Try.prog 11 #[ag a] w fun e w' => e = .returned (.int .i64 (chkS a)) ∧ Below w.heap.size w w' := by
  have HB : Hid (okB a = decide (0 ≤ a.t ∧ a.t ≤ 1099511627776 ∧ 0 ≤ a.c ∧ a.c ≤ 1099511627776 ∧ 0 ≤ a.r ∧ a.r ≤ 15)) := Lib.hid rfl
  have HK : Hid (chkS a = if okB a = true then 0 else 2) := Lib.hid rfl
  generalize chkS a = K at *
  generalize hk : okB a = B at *
  clear hk
  obtain ⟨t, c, r⟩ := a
  simp only at HB
  have hb := below_new w (.cells #[.int .i64 t, .int .i64 c, .int .i64 r] 23)
  have no : ¬ (0 ≤ t ∧ t ≤ 1099511627776 ∧ 0 ≤ c ∧ c ≤ 1099511627776 ∧ 0 ≤ r ∧ r ≤ 15) → Ending.returned (Value.int .i64 2) = .returned (.int .i64 K) := fun h => by rw [HK.out, HB.out, decide_eq_false h]; rfl
  have NO := Lib.hid no
  clear no
  by_cases h1 : t < 0
  · go_enter Try.func11, Try.ntmps11
    go_wp2
    go_ret
    exact ⟨NO.out (by omega), hb⟩
  by_cases h2 : 1099511627776 < t
  · go_enter Try.func11, Try.ntmps11
    go_wp2
    go_ret
    exact ⟨NO.out (by omega), hb⟩
  by_cases h3 : c < 0
  · go_enter Try.func11, Try.ntmps11
    go_wp2
    go_ret
    exact ⟨NO.out (by omega), hb⟩
  by_cases h4 : 1099511627776 < c
  · go_enter Try.func11, Try.ntmps11
    go_wp2
    go_ret
    exact ⟨NO.out (by omega), hb⟩
  by_cases h5 : r < 0
  · go_enter Try.func11, Try.ntmps11
    go_wp2
    go_ret
    exact ⟨NO.out (by omega), hb⟩
  by_cases h6 : 15 < r
  · go_enter Try.func11, Try.ntmps11
    go_wp2
    go_ret
    exact ⟨NO.out (by omega), hb⟩
  · go_enter Try.func11, Try.ntmps11
    go_wp2
    go_ret
    exact ⟨rint (by rw [HK.out, HB.out, decide_eq_true (by omega)]; rfl), hb⟩
end Go.Proofs.Yteijamnihfhndaa

