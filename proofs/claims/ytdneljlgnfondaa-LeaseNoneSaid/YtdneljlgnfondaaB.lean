/-
  The contract of lease.held.
-/
import Derived.Test.YtdneljlgnfondaaA
import Derived.Test.YtdneljlgnfondaaLoad
set_option linter.unusedVariables false
set_option linter.unusedSimpArgs false
namespace Go.Proofs.Ytdneljlgnfondaa
open Go.RowKit
set_option maxHeartbeats 4000000 in
theorem held_live {p b n : Nat} {f : ByteArray → Holder} {last : Int} (s who : ByteArray) (e0 fe now : Int) (w : World) (h : Ls w p b n f last) (hs : s.size ≤ maxLen) (hf : f s = (who, e0, fe)) (hw : 0 < who.size) :
    Calls Try.prog 11 #[.pointer (some ⟨p, 0, none⟩), .string s, .int .i64 now] w fun e w' => e = .returned (.tuple #[.agg #[.string who, .int .i64 e0, .int .i64 fe], .bool (decide (now < e0))]) ∧ Below w.heap.size w w' := by
  have d1 := nonempty_of_pos hw
  have c0 : (w.alloc (.cells #[.string ⟨#[]⟩, .int .i64 0, .int .i64 0] 37)).cell? ⟨p, 0, none⟩ = some (.map (some b)) := ((h.1.keep (below_new _ _)).2 0 _ rfl).1
  have hg : (Instr.lookup 40 (.map (some b)) (.string s) false).run Try.prog (w.alloc (.cells #[.string ⟨#[]⟩, .int .i64 0, .int .i64 0] 37)) = .ok (.agg #[.string who, .int .i64 e0, .int .i64 fe]) (w.alloc (.cells #[.string ⟨#[]⟩, .int .i64 0, .int .i64 0] 37)) := by
    have := (h.2.1.keep (below_new w (.cells #[.string ⟨#[]⟩, .int .i64 0, .int .i64 0] 37))).get hs
    rw [hf] at this
    exact this
  go_enter Try.func11, Try.ntmps11
  go_wp2_with fail
  have hA0 : Bk w.heap.size [.string ⟨#[]⟩, .int .i64 0, .int .i64 0] ((w.alloc (.cells #[.string ⟨#[]⟩, .int .i64 0, .int .i64 0] 37)).alloc (.cells #[.string who, .int .i64 e0, .int .i64 fe] 37)) := (Bk.new w 37 #[.string ⟨#[]⟩, .int .i64 0, .int .i64 0]).keep (below_new _ _)
  have hB0 : Bk (w.heap.size + 1) [.string who, .int .i64 e0, .int .i64 fe] ((w.alloc (.cells #[.string ⟨#[]⟩, .int .i64 0, .int .i64 0] 37)).alloc (.cells #[.string who, .int .i64 e0, .int .i64 fe] 37)) := by
    have := Bk.new (w.alloc (.cells #[.string ⟨#[]⟩, .int .i64 0, .int .i64 0] 37)) 37 #[.string who, .int .i64 e0, .int .i64 fe]
    simpa using this
  have HB := Lib.hid (below_step (below_new w (.cells #[.string ⟨#[]⟩, .int .i64 0, .int .i64 0] 37)) (Nat.le_refl _) (below_new _ (.cells #[.string who, .int .i64 e0, .int .i64 fe] 37)))
  generalize ((w.alloc (.cells #[.string ⟨#[]⟩, .int .i64 0, .int .i64 0] 37)).alloc (.cells #[.string who, .int .i64 e0, .int .i64 fe] 37)) = W at hA0 hB0 HB ⊢
  generalize hq : w.heap.size = A at hA0 hB0 ⊢
  have HQ := Lib.hid hq
  clear c0 hg hq
  have hA := hA0; have hB := hB0
  have a0 := (hA.2 0 _ rfl).1; have a1 := (hA.2 1 _ rfl).1; have a2 := (hA.2 2 _ rfl).1; have g0 := (hA.2 0 _ rfl).2; have g1 := (hA.2 1 _ rfl).2; have g2 := (hA.2 2 _ rfl).2
  have hP0 : Bk (A + 1) [.string who, .int .i64 e0, .int .i64 fe] W.drew := hB
  have hB3 : Bk (A + 1) [.string who, .int .i64 e0, .int .i64 fe] ((((W.setCell ⟨A, 0, none⟩ (.string who)).setCell ⟨A, 1, none⟩ (.int .i64 e0)).setCell ⟨A, 2, none⟩ (.int .i64 fe)).drew) := ((hB.other (by simp) _).other (by simp) _).other (by simp) _
  have hA3 : Bk A [.string who, .int .i64 e0, .int .i64 fe] ((((W.setCell ⟨A, 0, none⟩ (.string who)).setCell ⟨A, 1, none⟩ (.int .i64 e0)).setCell ⟨A, 2, none⟩ (.int .i64 fe)).drew) := ((hA.set 0 (by simp) (.string who)).set 1 (by simp) (.int .i64 e0)).set 2 (by simp) (.int .i64 fe)
  refine wp_region_held_drew (S := fun w' => Bk (A + 1) [.string who, .int .i64 e0, .int .i64 fe] w') (by kernel_rfl) (by (first | exact hP0 | exact hB3)) (fun hHeld => ?_)
  refine wpAnyH_take (i := 0) (oi := { dst := some 15, op := Go.Op.load 37 (Go.Operand.tmp 8), type := 37, pos := "lease.go:33", after := #[], guard := none }) (v := ?_) rfl (by kernel_rfl) (by kernel_rfl) (by kernel_rfl) (fun _ _ _ h => h) (Or.inl ⟨by rfl, ?_⟩) (by assumption) ?_
  (rotate_left; focus (intro wS hSw; have s0 := (hSw.2 0 _ rfl).1; have s1 := (hSw.2 1 _ rfl).1; have s2 := (hSw.2 2 _ rfl).1; clear hSw; go_simp; (try rw [if_neg (by omega)]); try with_reducible rfl))
  (try simp only [Act.put, List.setIfInBounds_toArray, List.set_cons_zero, List.set_cons_succ])
  refine wpAnyH_take (i := 1) (oi := { dst := some 16, op := Go.Op.load 37 (Go.Operand.tmp 8), type := 37, pos := "lease.go:33", after := #[], guard := none }) (v := ?_) rfl (by kernel_rfl) (by kernel_rfl) (by kernel_rfl) (fun _ _ _ h => h) (Or.inl ⟨by rfl, ?_⟩) (by assumption) ?_
  (rotate_left; focus (intro wS hSw; have s0 := (hSw.2 0 _ rfl).1; have s1 := (hSw.2 1 _ rfl).1; have s2 := (hSw.2 2 _ rfl).1; clear hSw; go_simp; (try rw [if_neg (by omega)]); try with_reducible rfl))
  (try simp only [Act.put, List.setIfInBounds_toArray, List.set_cons_zero, List.set_cons_succ])
  refine wpAnyH_take (i := 2) (oi := { dst := some 17, op := Go.Op.build 37 #[], type := 37, pos := "lease.go:33", after := #[], guard := none }) (v := ?_) rfl (by kernel_rfl) (by kernel_rfl) (by kernel_rfl) (fun _ _ _ h => h) (Or.inl ⟨by rfl, ?_⟩) (by assumption) ?_
  (rotate_left; focus (intro wS hSw; have s0 := (hSw.2 0 _ rfl).1; have s1 := (hSw.2 1 _ rfl).1; have s2 := (hSw.2 2 _ rfl).1; clear hSw; go_simp; (try rw [if_neg (by omega)]); try with_reducible rfl))
  (try simp only [Act.put, List.setIfInBounds_toArray, List.set_cons_zero, List.set_cons_succ])
  refine wpAnyH_take (i := 3) (oi := { dst := some 18, op := Go.Op.binOp Go.BinOp.neq 37 (Go.Operand.tmp 16) (Go.Operand.tmp 17) 37, type := 4, pos := "lease.go:33", after := #[{ on := 1, ground := Go.Ground.data }, { on := 2, ground := Go.Ground.data }], guard := none }) (v := ?_) rfl (by kernel_rfl) (by kernel_rfl) (by kernel_rfl) (fun _ _ _ h => h) (Or.inl ⟨by rfl, ?_⟩) (by assumption) ?_
  (rotate_left; focus (intro wS hSw; have s0 := (hSw.2 0 _ rfl).1; have s1 := (hSw.2 1 _ rfl).1; have s2 := (hSw.2 2 _ rfl).1; clear hSw; go_simp; (try rw [if_neg (by omega)]); try with_reducible rfl))
  (try simp only [Act.put, List.setIfInBounds_toArray, List.set_cons_zero, List.set_cons_succ])
  refine wpAnyH_take (i := 4) (oi := { dst := some 19, op := Go.Op.move (Go.Operand.tmp 18), type := 4, pos := "lease.go:33", after := #[{ on := 3, ground := Go.Ground.data }], guard := none }) (v := ?_) rfl (by kernel_rfl) (by kernel_rfl) (by kernel_rfl) (fun _ _ _ h => h) (Or.inl ⟨by rfl, ?_⟩) (by assumption) ?_
  (rotate_left; focus (intro wS hSw; have s0 := (hSw.2 0 _ rfl).1; have s1 := (hSw.2 1 _ rfl).1; have s2 := (hSw.2 2 _ rfl).1; clear hSw; go_simp; (try rw [if_neg (by omega)]); try with_reducible rfl))
  (try simp only [Act.put, List.setIfInBounds_toArray, List.set_cons_zero, List.set_cons_succ])
  refine wpAnyH_take (i := 5) (oi := { dst := some 20, op := Go.Op.fieldAddr 37 (Go.Operand.tmp 8) 1, type := 0, pos := "lease.go:33", after := #[{ on := 4, ground := Go.Ground.guard }, { on := 10, ground := Go.Ground.gcOnly Go.Departure.lateStores }], guard := some (4, true) }) (v := ?_) rfl (by kernel_rfl) (by kernel_rfl) (by kernel_rfl) (fun _ _ _ h => h) (Or.inl ⟨by rfl, ?_⟩) (by assumption) ?_
  (rotate_left; focus (intro wS hSw; have s0 := (hSw.2 0 _ rfl).1; have s1 := (hSw.2 1 _ rfl).1; have s2 := (hSw.2 2 _ rfl).1; clear hSw; go_simp; (try rw [if_neg (by omega)]); try with_reducible rfl))
  (try simp only [Act.put, List.setIfInBounds_toArray, List.set_cons_zero, List.set_cons_succ])
  refine wpAnyH_take (i := 6) (oi := { dst := some 21, op := Go.Op.load 3 (Go.Operand.tmp 20), type := 3, pos := "lease.go:33", after := #[{ on := 5, ground := Go.Ground.data }, { on := 4, ground := Go.Ground.guard }, { on := 10, ground := Go.Ground.gcOnly Go.Departure.lateStores }], guard := some (4, true) }) (v := ?_) rfl (by kernel_rfl) (by kernel_rfl) (by kernel_rfl) (fun _ _ _ h => h) (Or.inl ⟨by rfl, ?_⟩) (by assumption) ?_
  (rotate_left; focus (intro wS hSw; have s0 := (hSw.2 0 _ rfl).1; have s1 := (hSw.2 1 _ rfl).1; have s2 := (hSw.2 2 _ rfl).1; clear hSw; go_simp; (try rw [if_neg (by omega)]); try with_reducible rfl))
  (try simp only [Act.put, List.setIfInBounds_toArray, List.set_cons_zero, List.set_cons_succ])
  refine wpAnyH_take (i := 7) (oi := { dst := some 22, op := Go.Op.move (Go.Operand.tmp 2), type := 3, pos := "lease.go:33", after := #[{ on := 4, ground := Go.Ground.guard }, { on := 10, ground := Go.Ground.gcOnly Go.Departure.lateStores }], guard := some (4, true) }) (v := ?_) rfl (by kernel_rfl) (by kernel_rfl) (by kernel_rfl) (fun _ _ _ h => h) (Or.inl ⟨by rfl, ?_⟩) (by assumption) ?_
  (rotate_left; focus (intro wS hSw; have s0 := (hSw.2 0 _ rfl).1; have s1 := (hSw.2 1 _ rfl).1; have s2 := (hSw.2 2 _ rfl).1; clear hSw; go_simp; (try rw [if_neg (by omega)]); try with_reducible rfl))
  (try simp only [Act.put, List.setIfInBounds_toArray, List.set_cons_zero, List.set_cons_succ])
  refine wpAnyH_take (i := 8) (oi := { dst := some 23, op := Go.Op.binOp Go.BinOp.gtr 3 (Go.Operand.tmp 21) (Go.Operand.tmp 22) 3, type := 4, pos := "lease.go:33", after := #[{ on := 6, ground := Go.Ground.data }, { on := 7, ground := Go.Ground.data }, { on := 4, ground := Go.Ground.guard }, { on := 10, ground := Go.Ground.gcOnly Go.Departure.lateStores }], guard := some (4, true) }) (v := ?_) rfl (by kernel_rfl) (by kernel_rfl) (by kernel_rfl) (fun _ _ _ h => h) (Or.inl ⟨by rfl, ?_⟩) (by assumption) ?_
  (rotate_left; focus (intro wS hSw; have s0 := (hSw.2 0 _ rfl).1; have s1 := (hSw.2 1 _ rfl).1; have s2 := (hSw.2 2 _ rfl).1; clear hSw; go_simp; (try rw [if_neg (by omega)]); try with_reducible rfl))
  (try simp only [Act.put, List.setIfInBounds_toArray, List.set_cons_zero, List.set_cons_succ])
  refine wpAnyH_take (i := 9) (oi := { dst := some 24, op := Go.Op.pick (Go.Operand.tmp 19) (Go.Operand.tmp 23) (Go.Operand.const (Go.Value.bool false)), type := 4, pos := "lease.go:33", after := #[{ on := 4, ground := Go.Ground.data }, { on := 8, ground := Go.Ground.data }, { on := 10, ground := Go.Ground.gcOnly Go.Departure.lateStores }], guard := none }) (v := ?_) rfl (by kernel_rfl) (by kernel_rfl) (by kernel_rfl) (fun _ _ _ h => h) (Or.inl ⟨by rfl, ?_⟩) (by assumption) ?_
  (rotate_left; focus (intro wS hSw; have s0 := (hSw.2 0 _ rfl).1; have s1 := (hSw.2 1 _ rfl).1; have s2 := (hSw.2 2 _ rfl).1; clear hSw; go_simp; (try rw [if_neg (by omega)]); try with_reducible rfl))
  (try simp only [Act.put, List.setIfInBounds_toArray, List.set_cons_zero, List.set_cons_succ])
  refine wpAnyH_ready (rs := [10]) (by kernel_rfl) (by simp) ?_
  refine AllReadyH.cons (o := { dst := none, op := Go.Op.store 37 (Go.Operand.tmp 6) (Go.Operand.tmp 15), type := 0, pos := "lease.go:33", after := #[{ on := 0, ground := Go.Ground.data }, { on := 4, ground := Go.Ground.chain }, { on := 0, ground := Go.Ground.phase }, { on := 1, ground := Go.Ground.textOnly Go.Departure.lateStores }, { on := 2, ground := Go.Ground.textOnly Go.Departure.lateStores }, { on := 3, ground := Go.Ground.textOnly Go.Departure.lateStores }, { on := 4, ground := Go.Ground.textOnly Go.Departure.lateStores }, { on := 5, ground := Go.Ground.textOnly Go.Departure.lateStores }, { on := 6, ground := Go.Ground.textOnly Go.Departure.lateStores }, { on := 7, ground := Go.Ground.textOnly Go.Departure.lateStores }, { on := 8, ground := Go.Ground.textOnly Go.Departure.lateStores }, { on := 9, ground := Go.Ground.textOnly Go.Departure.lateStores }], guard := none }) rfl (fun K hK => ?_) AllReadyH.nil
  go_simp
  refine hK.out _ _ (by (first | exact hP0 | exact hB3)) (fun hHeld => ?_)
  clear hK K
  (try simp only [Act.put, List.setIfInBounds_toArray, List.set_cons_zero, List.set_cons_succ])
  refine wpAnyH_take (i := 11) (oi := { dst := some 7, op := Go.Op.assign (Go.Operand.tmp 24), type := 4, pos := "lease.go:33", after := #[{ on := 9, ground := Go.Ground.data }, { on := 10, ground := Go.Ground.chain }, { on := 0, ground := Go.Ground.phase }, { on := 1, ground := Go.Ground.phase }, { on := 2, ground := Go.Ground.phase }, { on := 3, ground := Go.Ground.phase }, { on := 4, ground := Go.Ground.phase }, { on := 5, ground := Go.Ground.phase }, { on := 6, ground := Go.Ground.phase }, { on := 7, ground := Go.Ground.phase }, { on := 8, ground := Go.Ground.phase }, { on := 9, ground := Go.Ground.phase }, { on := 10, ground := Go.Ground.phase }], guard := none }) (v := ?_) rfl (by kernel_rfl) (by kernel_rfl) (by kernel_rfl) (fun _ _ _ h => h) (Or.inl ⟨by rfl, ?_⟩) (by assumption) ?_
  (rotate_left; focus (intro wS hSw; have s0 := (hSw.2 0 _ rfl).1; have s1 := (hSw.2 1 _ rfl).1; have s2 := (hSw.2 2 _ rfl).1; clear hSw; go_simp; (try rw [if_neg (by omega)]); try with_reducible rfl))
  (try simp only [Act.put, List.setIfInBounds_toArray, List.set_cons_zero, List.set_cons_succ])
  refine wpAnyH_done (by kernel_rfl) ?_ _
  have hK : Below w.heap.size w ((((W.setCell ⟨A, 0, none⟩ (.string who)).setCell ⟨A, 1, none⟩ (.int .i64 e0)).setCell ⟨A, 2, none⟩ (.int .i64 fe)).drew) := by
    have e := HQ.out
    exact HB.out.trans ((((Kp.refl (fun i => i = A) W).set A 0 _ rfl).set A 1 _ rfl).set A 2 _ rfl |>.drew.below HB.out.size (fun k hk => by omega))
  generalize ((((W.setCell ⟨A, 0, none⟩ (.string who)).setCell ⟨A, 1, none⟩ (.int .i64 e0)).setCell ⟨A, 2, none⟩ (.int .i64 fe)).drew) = W9 at hA3 hK ⊢
  have HK := Lib.hid hK
  have hl := load_var (t := 37) (fun _ => by kernel_rfl) (fun _ => by kernel_rfl) hA3
  have HL := Lib.hid hl
  clear hK hl hA3 hB3 hA hB hA0 hB0 a0 a1 a2 g0 g1 g2
  go_wp2
  (try simp only [Exit.inBlock, Exit.then])
  refine bodyPost_ret (res_cell rfl rfl rfl HL.out) rfl ?_
  exact ⟨rfl, HK.out⟩
set_option maxHeartbeats 4000000 in
theorem held_zero {p b n : Nat} {f : ByteArray → Holder} {last : Int} (s : ByteArray) (now : Int) (w : World) (h : Ls w p b n f last) (hs : s.size ≤ maxLen) (hf : f s = z0) :
    Calls Try.prog 11 #[.pointer (some ⟨p, 0, none⟩), .string s, .int .i64 now] w fun e w' => e = .returned (.tuple #[.agg #[.string ⟨#[]⟩, .int .i64 0, .int .i64 0], .bool false]) ∧ Below w.heap.size w w' := by
  have c0 : (w.alloc (.cells #[.string ⟨#[]⟩, .int .i64 0, .int .i64 0] 37)).cell? ⟨p, 0, none⟩ = some (.map (some b)) := ((h.1.keep (below_new _ _)).2 0 _ rfl).1
  have hg : (Instr.lookup 40 (.map (some b)) (.string s) false).run Try.prog (w.alloc (.cells #[.string ⟨#[]⟩, .int .i64 0, .int .i64 0] 37)) = .ok (.agg #[.string ⟨#[]⟩, .int .i64 0, .int .i64 0]) (w.alloc (.cells #[.string ⟨#[]⟩, .int .i64 0, .int .i64 0] 37)) := by
    have := (h.2.1.keep (below_new w (.cells #[.string ⟨#[]⟩, .int .i64 0, .int .i64 0] 37))).get hs
    rw [hf] at this
    exact this
  go_enter Try.func11, Try.ntmps11
  go_wp2_with fail
  have hA0 : Bk w.heap.size [.string ⟨#[]⟩, .int .i64 0, .int .i64 0] ((w.alloc (.cells #[.string ⟨#[]⟩, .int .i64 0, .int .i64 0] 37)).alloc (.cells #[.string ⟨#[]⟩, .int .i64 0, .int .i64 0] 37)) := (Bk.new w 37 #[.string ⟨#[]⟩, .int .i64 0, .int .i64 0]).keep (below_new _ _)
  have hB0 : Bk (w.heap.size + 1) [.string ⟨#[]⟩, .int .i64 0, .int .i64 0] ((w.alloc (.cells #[.string ⟨#[]⟩, .int .i64 0, .int .i64 0] 37)).alloc (.cells #[.string ⟨#[]⟩, .int .i64 0, .int .i64 0] 37)) := by
    have := Bk.new (w.alloc (.cells #[.string ⟨#[]⟩, .int .i64 0, .int .i64 0] 37)) 37 #[.string ⟨#[]⟩, .int .i64 0, .int .i64 0]
    simpa using this
  have HB := Lib.hid (below_step (below_new w (.cells #[.string ⟨#[]⟩, .int .i64 0, .int .i64 0] 37)) (Nat.le_refl _) (below_new _ (.cells #[.string ⟨#[]⟩, .int .i64 0, .int .i64 0] 37)))
  generalize ((w.alloc (.cells #[.string ⟨#[]⟩, .int .i64 0, .int .i64 0] 37)).alloc (.cells #[.string ⟨#[]⟩, .int .i64 0, .int .i64 0] 37)) = W at hA0 hB0 HB ⊢
  generalize hq : w.heap.size = A at hA0 hB0 ⊢
  have HQ := Lib.hid hq
  clear c0 hg hq
  have hA := hA0; have hB := hB0
  have a0 := (hA.2 0 _ rfl).1; have a1 := (hA.2 1 _ rfl).1; have a2 := (hA.2 2 _ rfl).1; have g0 := (hA.2 0 _ rfl).2; have g1 := (hA.2 1 _ rfl).2; have g2 := (hA.2 2 _ rfl).2
  have hP0 : Bk (A + 1) [.string ⟨#[]⟩, .int .i64 0, .int .i64 0] W.drew := hB
  have hB3 : Bk (A + 1) [.string ⟨#[]⟩, .int .i64 0, .int .i64 0] ((((W.setCell ⟨A, 0, none⟩ (.string ⟨#[]⟩)).setCell ⟨A, 1, none⟩ (.int .i64 0)).setCell ⟨A, 2, none⟩ (.int .i64 0)).drew) := ((hB.other (by simp) _).other (by simp) _).other (by simp) _
  have hA3 : Bk A [.string ⟨#[]⟩, .int .i64 0, .int .i64 0] ((((W.setCell ⟨A, 0, none⟩ (.string ⟨#[]⟩)).setCell ⟨A, 1, none⟩ (.int .i64 0)).setCell ⟨A, 2, none⟩ (.int .i64 0)).drew) := ((hA.set 0 (by simp) (.string ⟨#[]⟩)).set 1 (by simp) (.int .i64 0)).set 2 (by simp) (.int .i64 0)
  refine wp_region_held_drew (S := fun w' => Bk (A + 1) [.string ⟨#[]⟩, .int .i64 0, .int .i64 0] w') (by kernel_rfl) (by (first | exact hP0 | exact hB3)) (fun hHeld => ?_)
  refine wpAnyH_take (i := 0) (oi := { dst := some 15, op := Go.Op.load 37 (Go.Operand.tmp 8), type := 37, pos := "lease.go:33", after := #[], guard := none }) (v := ?_) rfl (by kernel_rfl) (by kernel_rfl) (by kernel_rfl) (fun _ _ _ h => h) (Or.inl ⟨by rfl, ?_⟩) (by assumption) ?_
  (rotate_left; focus (intro wS hSw; have s0 := (hSw.2 0 _ rfl).1; have s1 := (hSw.2 1 _ rfl).1; have s2 := (hSw.2 2 _ rfl).1; clear hSw; go_simp; (try rw [if_neg (by omega)]); try with_reducible rfl))
  (try simp only [Act.put, List.setIfInBounds_toArray, List.set_cons_zero, List.set_cons_succ])
  refine wpAnyH_take (i := 1) (oi := { dst := some 16, op := Go.Op.load 37 (Go.Operand.tmp 8), type := 37, pos := "lease.go:33", after := #[], guard := none }) (v := ?_) rfl (by kernel_rfl) (by kernel_rfl) (by kernel_rfl) (fun _ _ _ h => h) (Or.inl ⟨by rfl, ?_⟩) (by assumption) ?_
  (rotate_left; focus (intro wS hSw; have s0 := (hSw.2 0 _ rfl).1; have s1 := (hSw.2 1 _ rfl).1; have s2 := (hSw.2 2 _ rfl).1; clear hSw; go_simp; (try rw [if_neg (by omega)]); try with_reducible rfl))
  (try simp only [Act.put, List.setIfInBounds_toArray, List.set_cons_zero, List.set_cons_succ])
  refine wpAnyH_take (i := 2) (oi := { dst := some 17, op := Go.Op.build 37 #[], type := 37, pos := "lease.go:33", after := #[], guard := none }) (v := ?_) rfl (by kernel_rfl) (by kernel_rfl) (by kernel_rfl) (fun _ _ _ h => h) (Or.inl ⟨by rfl, ?_⟩) (by assumption) ?_
  (rotate_left; focus (intro wS hSw; have s0 := (hSw.2 0 _ rfl).1; have s1 := (hSw.2 1 _ rfl).1; have s2 := (hSw.2 2 _ rfl).1; clear hSw; go_simp; (try rw [if_neg (by omega)]); try with_reducible rfl))
  (try simp only [Act.put, List.setIfInBounds_toArray, List.set_cons_zero, List.set_cons_succ])
  refine wpAnyH_take (i := 3) (oi := { dst := some 18, op := Go.Op.binOp Go.BinOp.neq 37 (Go.Operand.tmp 16) (Go.Operand.tmp 17) 37, type := 4, pos := "lease.go:33", after := #[{ on := 1, ground := Go.Ground.data }, { on := 2, ground := Go.Ground.data }], guard := none }) (v := ?_) rfl (by kernel_rfl) (by kernel_rfl) (by kernel_rfl) (fun _ _ _ h => h) (Or.inl ⟨by rfl, ?_⟩) (by assumption) ?_
  (rotate_left; focus (intro wS hSw; have s0 := (hSw.2 0 _ rfl).1; have s1 := (hSw.2 1 _ rfl).1; have s2 := (hSw.2 2 _ rfl).1; clear hSw; go_simp; (try rw [if_neg (by omega)]); try with_reducible rfl))
  (try simp only [Act.put, List.setIfInBounds_toArray, List.set_cons_zero, List.set_cons_succ])
  refine wpAnyH_take (i := 4) (oi := { dst := some 19, op := Go.Op.move (Go.Operand.tmp 18), type := 4, pos := "lease.go:33", after := #[{ on := 3, ground := Go.Ground.data }], guard := none }) (v := ?_) rfl (by kernel_rfl) (by kernel_rfl) (by kernel_rfl) (fun _ _ _ h => h) (Or.inl ⟨by rfl, ?_⟩) (by assumption) ?_
  (rotate_left; focus (intro wS hSw; have s0 := (hSw.2 0 _ rfl).1; have s1 := (hSw.2 1 _ rfl).1; have s2 := (hSw.2 2 _ rfl).1; clear hSw; go_simp; (try rw [if_neg (by omega)]); try with_reducible rfl))
  (try simp only [Act.put, List.setIfInBounds_toArray, List.set_cons_zero, List.set_cons_succ])
  refine wpAnyH_take (i := 5) (oi := { dst := some 20, op := Go.Op.fieldAddr 37 (Go.Operand.tmp 8) 1, type := 0, pos := "lease.go:33", after := #[{ on := 4, ground := Go.Ground.guard }, { on := 10, ground := Go.Ground.gcOnly Go.Departure.lateStores }], guard := some (4, true) }) (v := undef) rfl (by kernel_rfl) (by kernel_rfl) (by kernel_rfl) (fun _ _ _ h => h) (Or.inr ⟨by rfl, rfl⟩) (by assumption) ?_
  (try simp only [Act.put, List.setIfInBounds_toArray, List.set_cons_zero, List.set_cons_succ])
  refine wpAnyH_take (i := 6) (oi := { dst := some 21, op := Go.Op.load 3 (Go.Operand.tmp 20), type := 3, pos := "lease.go:33", after := #[{ on := 5, ground := Go.Ground.data }, { on := 4, ground := Go.Ground.guard }, { on := 10, ground := Go.Ground.gcOnly Go.Departure.lateStores }], guard := some (4, true) }) (v := undef) rfl (by kernel_rfl) (by kernel_rfl) (by kernel_rfl) (fun _ _ _ h => h) (Or.inr ⟨by rfl, rfl⟩) (by assumption) ?_
  (try simp only [Act.put, List.setIfInBounds_toArray, List.set_cons_zero, List.set_cons_succ])
  refine wpAnyH_take (i := 7) (oi := { dst := some 22, op := Go.Op.move (Go.Operand.tmp 2), type := 3, pos := "lease.go:33", after := #[{ on := 4, ground := Go.Ground.guard }, { on := 10, ground := Go.Ground.gcOnly Go.Departure.lateStores }], guard := some (4, true) }) (v := undef) rfl (by kernel_rfl) (by kernel_rfl) (by kernel_rfl) (fun _ _ _ h => h) (Or.inr ⟨by rfl, rfl⟩) (by assumption) ?_
  (try simp only [Act.put, List.setIfInBounds_toArray, List.set_cons_zero, List.set_cons_succ])
  refine wpAnyH_take (i := 8) (oi := { dst := some 23, op := Go.Op.binOp Go.BinOp.gtr 3 (Go.Operand.tmp 21) (Go.Operand.tmp 22) 3, type := 4, pos := "lease.go:33", after := #[{ on := 6, ground := Go.Ground.data }, { on := 7, ground := Go.Ground.data }, { on := 4, ground := Go.Ground.guard }, { on := 10, ground := Go.Ground.gcOnly Go.Departure.lateStores }], guard := some (4, true) }) (v := undef) rfl (by kernel_rfl) (by kernel_rfl) (by kernel_rfl) (fun _ _ _ h => h) (Or.inr ⟨by rfl, rfl⟩) (by assumption) ?_
  (try simp only [Act.put, List.setIfInBounds_toArray, List.set_cons_zero, List.set_cons_succ])
  refine wpAnyH_take (i := 9) (oi := { dst := some 24, op := Go.Op.pick (Go.Operand.tmp 19) (Go.Operand.tmp 23) (Go.Operand.const (Go.Value.bool false)), type := 4, pos := "lease.go:33", after := #[{ on := 4, ground := Go.Ground.data }, { on := 8, ground := Go.Ground.data }, { on := 10, ground := Go.Ground.gcOnly Go.Departure.lateStores }], guard := none }) (v := ?_) rfl (by kernel_rfl) (by kernel_rfl) (by kernel_rfl) (fun _ _ _ h => h) (Or.inl ⟨by rfl, ?_⟩) (by assumption) ?_
  (rotate_left; focus (intro wS hSw; have s0 := (hSw.2 0 _ rfl).1; have s1 := (hSw.2 1 _ rfl).1; have s2 := (hSw.2 2 _ rfl).1; clear hSw; go_simp; (try rw [if_neg (by omega)]); try with_reducible rfl))
  (try simp only [Act.put, List.setIfInBounds_toArray, List.set_cons_zero, List.set_cons_succ])
  refine wpAnyH_ready (rs := [10]) (by kernel_rfl) (by simp) ?_
  refine AllReadyH.cons (o := { dst := none, op := Go.Op.store 37 (Go.Operand.tmp 6) (Go.Operand.tmp 15), type := 0, pos := "lease.go:33", after := #[{ on := 0, ground := Go.Ground.data }, { on := 4, ground := Go.Ground.chain }, { on := 0, ground := Go.Ground.phase }, { on := 1, ground := Go.Ground.textOnly Go.Departure.lateStores }, { on := 2, ground := Go.Ground.textOnly Go.Departure.lateStores }, { on := 3, ground := Go.Ground.textOnly Go.Departure.lateStores }, { on := 4, ground := Go.Ground.textOnly Go.Departure.lateStores }, { on := 5, ground := Go.Ground.textOnly Go.Departure.lateStores }, { on := 6, ground := Go.Ground.textOnly Go.Departure.lateStores }, { on := 7, ground := Go.Ground.textOnly Go.Departure.lateStores }, { on := 8, ground := Go.Ground.textOnly Go.Departure.lateStores }, { on := 9, ground := Go.Ground.textOnly Go.Departure.lateStores }], guard := none }) rfl (fun K hK => ?_) AllReadyH.nil
  go_simp
  refine hK.out _ _ (by (first | exact hP0 | exact hB3)) (fun hHeld => ?_)
  clear hK K
  (try simp only [Act.put, List.setIfInBounds_toArray, List.set_cons_zero, List.set_cons_succ])
  refine wpAnyH_take (i := 11) (oi := { dst := some 7, op := Go.Op.assign (Go.Operand.tmp 24), type := 4, pos := "lease.go:33", after := #[{ on := 9, ground := Go.Ground.data }, { on := 10, ground := Go.Ground.chain }, { on := 0, ground := Go.Ground.phase }, { on := 1, ground := Go.Ground.phase }, { on := 2, ground := Go.Ground.phase }, { on := 3, ground := Go.Ground.phase }, { on := 4, ground := Go.Ground.phase }, { on := 5, ground := Go.Ground.phase }, { on := 6, ground := Go.Ground.phase }, { on := 7, ground := Go.Ground.phase }, { on := 8, ground := Go.Ground.phase }, { on := 9, ground := Go.Ground.phase }, { on := 10, ground := Go.Ground.phase }], guard := none }) (v := ?_) rfl (by kernel_rfl) (by kernel_rfl) (by kernel_rfl) (fun _ _ _ h => h) (Or.inl ⟨by rfl, ?_⟩) (by assumption) ?_
  (rotate_left; focus (intro wS hSw; have s0 := (hSw.2 0 _ rfl).1; have s1 := (hSw.2 1 _ rfl).1; have s2 := (hSw.2 2 _ rfl).1; clear hSw; go_simp; (try rw [if_neg (by omega)]); try with_reducible rfl))
  (try simp only [Act.put, List.setIfInBounds_toArray, List.set_cons_zero, List.set_cons_succ])
  refine wpAnyH_done (by kernel_rfl) ?_ _
  have hK : Below w.heap.size w ((((W.setCell ⟨A, 0, none⟩ (.string ⟨#[]⟩)).setCell ⟨A, 1, none⟩ (.int .i64 0)).setCell ⟨A, 2, none⟩ (.int .i64 0)).drew) := by
    have e := HQ.out
    exact HB.out.trans ((((Kp.refl (fun i => i = A) W).set A 0 _ rfl).set A 1 _ rfl).set A 2 _ rfl |>.drew.below HB.out.size (fun k hk => by omega))
  generalize ((((W.setCell ⟨A, 0, none⟩ (.string ⟨#[]⟩)).setCell ⟨A, 1, none⟩ (.int .i64 0)).setCell ⟨A, 2, none⟩ (.int .i64 0)).drew) = W9 at hA3 hK ⊢
  have HK := Lib.hid hK
  have hl := load_var (t := 37) (fun _ => by kernel_rfl) (fun _ => by kernel_rfl) hA3
  have HL := Lib.hid hl
  clear hK hl hA3 hB3 hA hB hA0 hB0 a0 a1 a2 g0 g1 g2
  go_wp2
  (try simp only [Exit.inBlock, Exit.then])
  refine bodyPost_ret (res_cell rfl rfl rfl HL.out) rfl ?_
  exact ⟨rfl, HK.out⟩
end Go.Proofs.Ytdneljlgnfondaa

