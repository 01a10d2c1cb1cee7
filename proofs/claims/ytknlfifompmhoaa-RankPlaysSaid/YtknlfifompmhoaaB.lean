/-
  The contract of rank's New; what a tree is in memory; up and down.
-/
import Derived.Test.YtknlfifompmhoaaA
import Derived.Test.YtknlfifompmhoaaLoad
import Derived.Laws.MakeOwn
import Derived.Laws.OwnMore
set_option linter.unusedVariables false
set_option linter.unusedSimpArgs false
namespace Go.Proofs.Ytknlfifompmhoaa
open Go.RowKit
theorem infoI : (Try.prog.info? 3).map (fun i => (i.zero, i.size, i.bytes)) = some (some (.int .i64 0), 1, 8) := by kernel_rfl
theorem run_make_rowN {P : Program} (t e : TypeId) (i : TypeInfo) (z : Value) (ht : P.underlying t = some (.slice e)) (hi : P.info? e = some i) (hz : i.zero = some z)
    (kl kc : IntKind) (n c : Nat) (hnc : n ≤ c) (hbytes : i.bytes * c ≤ 281474976710656) (h63 : c ≤ 9223372036854775807) (w : World) :
    (Instr.makeSlice t (.int kl (n : Int)) (.int kc (c : Int))).run P w = .ok (.slice (some ⟨w.heap.size, 0, none⟩) n c) (w.alloc (.cells (madeCells z.cells (c * i.size)) e)) := by
  have hb : (i.bytes : Int) * (c : Int) ≤ 281474976710656 := by
    have h : ((i.bytes * c : Nat) : Int) ≤ 281474976710656 := by omega
    rwa [Int.natCast_mul] at h
  have hr := run_make (P := P) w t e i z ht hi hz kl kc n c (by omega) (by omega) hb (by omega)
  simp only [Int.toNat_natCast] at hr
  exact hr
def ints (l : List Int) : List Value := l.map (Value.int .i64)
theorem ints_len (l : List Int) : (ints l).length = l.length := by simp [ints]
theorem ints_get (l : List Int) (k : Nat) (h : k < l.length) : (ints l)[k]? = some (.int .i64 (l.getD k 0)) := by
  simp [ints, List.getD_eq_getElem?_getD, h]
theorem ints_set (l : List Int) (k : Nat) (x : Int) : (ints l).set k (.int .i64 x) = ints (l.set k x) := by
  unfold ints; rw [List.map_set]
theorem made_ints (n : Nat) : (madeCells (Value.int .i64 0).cells (n * 1)).toList = ints (List.replicate n 0) := by
  unfold ints
  apply List.ext_getElem
  · simp [madeCells]
  · intro i h1 h2
    simp [madeCells, Value.cells, Nat.mod_one]
def noughts (n : Nat) : List Int := List.replicate n 0
theorem pre_noughts (n k : Nat) : pre (noughts n) k = 0 := by
  unfold pre noughts
  rw [List.take_replicate]
  induction (min k n) with
  | zero => rfl
  | succ m ih => rw [List.replicate_succ, List.sum_cons, ih]; rfl
theorem fen_noughts (n : Nat) : Fen (noughts n) (noughts (n + 1)) := by
  refine ⟨by simp [noughts], fun k _ hk => ?_⟩
  rw [pre_noughts, pre_noughts]
  unfold noughts
  rw [List.getD_eq_getElem?_getD, List.getElem?_replicate]
  split <;> simp
/-- A tree in memory: its block, those of its numbers and of its sums. -/
structure Rk (p gl gs : Nat) (l sums : List Int) (w : World) : Prop where
  tree : Bk p [.slice (some ⟨gl, 0, none⟩) l.length l.length, .slice (some ⟨gs, 0, none⟩) (l.length + 1) (l.length + 1), .int .i64 (pre l l.length)] w
  nums : Bk gl (ints l) w
  rows : Bk gs (ints sums) w
  fen : Fen l sums
  ne1 : p ≠ gl
  ne2 : p ≠ gs
  ne3 : gl ≠ gs
  pos : ∀ x ∈ l, 0 ≤ x
  all : pre l l.length ≤ 9007199254740992
  len1 : 1 ≤ l.length
  len2 : l.length ≤ 4096
def NewPost (n : Nat) (w : World) (e : Ending) (w' : World) : Prop :=
  ∃ p gl gs, e = .returned (.tuple #[.pointer (some ⟨p, 0, none⟩), .int .i64 0]) ∧ Rk p gl gs (noughts n) (noughts (n + 1)) w' ∧ w.heap.size ≤ p ∧ w.heap.size ≤ gl ∧ w.heap.size ≤ gs ∧ Below w.heap.size w w'
theorem bk_three (w : World) (X Y T : List Value) (E F : TypeId) : Bk w.heap.size X (((w.alloc (.cells X.toArray E)).alloc (.cells Y.toArray E)).alloc (.cells T.toArray F)).drew ∧ Bk (w.heap.size + 1) Y (((w.alloc (.cells X.toArray E)).alloc (.cells Y.toArray E)).alloc (.cells T.toArray F)).drew ∧ Bk (w.heap.size + 1 + 1) T (((w.alloc (.cells X.toArray E)).alloc (.cells Y.toArray E)).alloc (.cells T.toArray F)).drew ∧ Below w.heap.size w (((w.alloc (.cells X.toArray E)).alloc (.cells Y.toArray E)).alloc (.cells T.toArray F)).drew := by
  have a1 := Bk.new w E X.toArray
  have a2 := Bk.new (w.alloc (.cells X.toArray E)) E Y.toArray
  have a3 := Bk.new ((w.alloc (.cells X.toArray E)).alloc (.cells Y.toArray E)) F T.toArray
  have s1 : (w.alloc (.cells X.toArray E)).heap.size = w.heap.size + 1 := by simp
  have s2 : ((w.alloc (.cells X.toArray E)).alloc (.cells Y.toArray E)).heap.size = w.heap.size + 1 + 1 := by simp
  rw [s1] at a2
  rw [s2] at a3
  refine ⟨((a1.keep (below_new _ _)).keep (below_new _ _)).drew, (a2.keep (below_new _ _)).drew, a3.drew, ?_⟩
  exact ((((Below.refl _ w).alloc (Nat.le_refl _) _).alloc (by simp) _).alloc (by simp; omega) _).drew
theorem new_bad (n : Int) (w : World) (h : n < 1 ∨ 4096 < n) : Calls Try.prog 6 #[.int .i64 n] w fun e w' => e = .returned (.tuple #[.pointer none, .int .i64 1]) ∧ w = w' := by
  by_cases h1 : n < 1
  · go_enter Try.func6, Try.ntmps6
    go_wp2
    go_ret2
    exact ⟨rfl, rfl⟩
  · have h2 : 4096 < n := by omega
    go_enter Try.func6, Try.ntmps6
    go_wp2
    go_ret2
    exact ⟨rfl, rfl⟩
set_option maxHeartbeats 4000000 in
theorem new_any (n : Nat) (w : World) (h1 : 1 ≤ n) (h2 : n ≤ 4096) : Calls Try.prog 6 #[.int .i64 n] w (NewPost n w) := by
  obtain ⟨i0, hi0, hz0, hz1, hz2⟩ := info_parts infoI
  have hmk1 : ∀ W : World, (Instr.makeSlice 28 (.int .i64 (n : Int)) (.int .i64 (n : Int))).run Try.prog W = .ok (.slice (some ⟨W.heap.size, 0, none⟩) n n) (W.alloc (.cells (ints (noughts n)).toArray 3)) := fun W => by
    have h := run_make_rowN (P := Try.prog) 28 3 i0 (.int .i64 0) Try.underlying28 hi0 hz0 .i64 .i64 n n (Nat.le_refl _) (by rw [hz2]; omega) (by omega) W
    rw [hz1, show madeCells (Value.int .i64 0).cells (n * 1) = (ints (noughts n)).toArray by rw [noughts, ← made_ints]] at h
    exact h
  have hmk2 : ∀ W : World, (Instr.makeSlice 28 (.int .i64 ((n : Int) + 1)) (.int .i64 ((n : Int) + 1))).run Try.prog W = .ok (.slice (some ⟨W.heap.size, 0, none⟩) (n + 1) (n + 1)) (W.alloc (.cells (ints (noughts (n + 1))).toArray 3)) := fun W => by
    have h := run_make_rowN (P := Try.prog) 28 3 i0 (.int .i64 0) Try.underlying28 hi0 hz0 .i64 .i64 (n + 1) (n + 1) (Nat.le_refl _) (by rw [hz2]; omega) (by omega) W
    rw [hz1, show madeCells (Value.int .i64 0).cells ((n + 1) * 1) = (ints (noughts (n + 1))).toArray by rw [noughts, ← made_ints], Int.natCast_add] at h
    exact h
  have g1 : ¬ (n : Int) < 1 := by omega
  have g2 : ¬ (4096 : Int) < (n : Int) := by omega
  have g3 : IntKind.i64.wrap ((n : Int) + 1) = (n : Int) + 1 := IntWalk.i64_in _ (by omega)
  have HP : Hid (∀ (W : World) (p gl gs : Nat), Bk p [.slice (some ⟨gl, 0, none⟩) n n, .slice (some ⟨gs, 0, none⟩) (n + 1) (n + 1), .int .i64 0] W → Bk gl (ints (noughts n)) W → Bk gs (ints (noughts (n + 1))) W → p ≠ gl → p ≠ gs → gl ≠ gs → Rk p gl gs (noughts n) (noughts (n + 1)) W) := Lib.hid (fun W p gl gs t a b e1 e2 e3 => by
    have hl : (noughts n).length = n := by simp [noughts]
    refine ⟨?_, a, b, fen_noughts n, e1, e2, e3, ?_, ?_, ?_, ?_⟩
    · rw [hl, pre_noughts]; exact t
    · intro x hx; unfold noughts at hx; rw [List.eq_of_mem_replicate hx]; exact Int.le_refl _
    · rw [pre_noughts]; omega
    · rw [hl]; exact h1
    · rw [hl]; exact h2)
  obtain ⟨A, hA⟩ : ∃ A, A = ints (noughts n) := ⟨_, rfl⟩
  obtain ⟨B, hB⟩ : ∃ B, B = ints (noughts (n + 1)) := ⟨_, rfl⟩
  rw [← hA] at hmk1 HP
  rw [← hB] at hmk2 HP
  clear hA hB hi0 hz0 hz1 hz2
  go_enter Try.func6, Try.ntmps6
  go_wp2
  refine wp_region_held_drew (S := fun _ => True) (by kernel_rfl) (trivial) (fun hHeld => ?_)
  refine wpAnyH_take (i := 0) (oi := { dst := some 10, op := Go.Op.move (Go.Operand.tmp 0), type := 3, pos := "rank.go:24", after := #[], guard := none }) (v := ?_) rfl (by kernel_rfl) (by kernel_rfl) (by kernel_rfl) (fun _ _ _ h => h) (Or.inl ⟨by rfl, ?_⟩) (by assumption) ?_
  (rotate_left; focus (intro wS hSw; (try dsimp only at hSw); go_simp; (try rw [if_neg (by omega)]); try with_reducible rfl))
  (try simp only [Act.put, List.setIfInBounds_toArray, List.set_cons_zero, List.set_cons_succ])
  refine wpAnyH_take (i := 2) (oi := { dst := some 12, op := Go.Op.move (Go.Operand.tmp 0), type := 3, pos := "rank.go:24", after := #[], guard := none }) (v := ?_) rfl (by kernel_rfl) (by kernel_rfl) (by kernel_rfl) (fun _ _ _ h => h) (Or.inl ⟨by rfl, ?_⟩) (by assumption) ?_
  (rotate_left; focus (intro wS hSw; (try dsimp only at hSw); go_simp; (try rw [if_neg (by omega)]); try with_reducible rfl))
  (try simp only [Act.put, List.setIfInBounds_toArray, List.set_cons_zero, List.set_cons_succ])
  refine wpAnyH_take (i := 3) (oi := { dst := some 13, op := Go.Op.binOp Go.BinOp.add 3 (Go.Operand.tmp 12) (Go.Operand.const (Go.Value.int Go.IntKind.i64 1)) 3, type := 3, pos := "rank.go:24", after := #[{ on := 2, ground := Go.Ground.data }], guard := none }) (v := ?_) rfl (by kernel_rfl) (by kernel_rfl) (by kernel_rfl) (fun _ _ _ h => h) (Or.inl ⟨by rfl, ?_⟩) (by assumption) ?_
  (rotate_left; focus (intro wS hSw; (try dsimp only at hSw); go_simp; (try rw [if_neg (by omega)]); try with_reducible rfl))
  (try simp only [Act.put, List.setIfInBounds_toArray, List.set_cons_zero, List.set_cons_succ])
  refine wpAnyH_ready (rs := [1, 4]) (by kernel_rfl) (by simp) ?_
  refine AllReadyH.cons (o := { dst := some 11, op := Go.Op.makeSlice 28 (Go.Operand.tmp 10) (Go.Operand.tmp 10), type := 28, pos := "rank.go:24", after := #[{ on := 0, ground := Go.Ground.data }, { on := 0, ground := Go.Ground.data }], guard := none }) rfl (fun K hK => ?_) ?_
  focus
    go_simp
    refine hK.out _ _ (trivial) (fun hHeld => ?_)
    clear hK K
    (try simp only [Act.put, List.setIfInBounds_toArray, List.set_cons_zero, List.set_cons_succ])
    refine wpAnyH_ready (rs := [4]) (by kernel_rfl) (by simp) ?_
    refine AllReadyH.cons (o := { dst := some 14, op := Go.Op.makeSlice 28 (Go.Operand.tmp 13) (Go.Operand.tmp 13), type := 28, pos := "rank.go:24", after := #[{ on := 3, ground := Go.Ground.data }, { on := 3, ground := Go.Ground.data }], guard := none }) rfl (fun K hK => ?_) AllReadyH.nil
    go_simp
    refine hK.out _ _ (trivial) (fun hHeld => ?_)
    clear hK K
    (try simp only [Act.put, List.setIfInBounds_toArray, List.set_cons_zero, List.set_cons_succ])
    refine wpAnyH_take (i := 5) (oi := { dst := some 15, op := Go.Op.build 36 #[(0, Go.Operand.tmp 11), (1, Go.Operand.tmp 14)], type := 36, pos := "rank.go:24", after := #[{ on := 1, ground := Go.Ground.data }, { on := 4, ground := Go.Ground.data }], guard := none }) (v := ?_) rfl (by kernel_rfl) (by kernel_rfl) (by kernel_rfl) (fun _ _ _ h => h) (Or.inl ⟨by rfl, ?_⟩) (by assumption) ?_
    (rotate_left; focus (intro wS hSw; (try dsimp only at hSw); go_simp; (try rw [if_neg (by omega)]); try with_reducible rfl))
    (try simp only [Act.put, List.setIfInBounds_toArray, List.set_cons_zero, List.set_cons_succ])
    refine wpAnyH_ready (rs := [6]) (by kernel_rfl) (by simp) ?_
    refine AllReadyH.cons (o := { dst := some 16, op := Go.Op.box 36 (Go.Operand.tmp 15), type := 24, pos := "rank.go:24", after := #[{ on := 5, ground := Go.Ground.data }], guard := none }) rfl (fun K hK => ?_) AllReadyH.nil
    go_simp
    refine hK.out _ _ (trivial) (fun hHeld => ?_)
    clear hK K
    (try simp only [Act.put, List.setIfInBounds_toArray, List.set_cons_zero, List.set_cons_succ])
    refine wpAnyH_take (i := 7) (oi := { dst := some 2, op := Go.Op.assign (Go.Operand.tmp 16), type := 24, pos := "rank.go:24", after := #[{ on := 6, ground := Go.Ground.data }, { on := 0, ground := Go.Ground.phase }, { on := 1, ground := Go.Ground.phase }, { on := 2, ground := Go.Ground.phase }, { on := 3, ground := Go.Ground.phase }, { on := 4, ground := Go.Ground.phase }, { on := 5, ground := Go.Ground.phase }, { on := 6, ground := Go.Ground.phase }], guard := none }) (v := ?_) rfl (by kernel_rfl) (by kernel_rfl) (by kernel_rfl) (fun _ _ _ h => h) (Or.inl ⟨by rfl, ?_⟩) (by assumption) ?_
    (rotate_left; focus (intro wS hSw; (try dsimp only at hSw); go_simp; (try rw [if_neg (by omega)]); try with_reducible rfl))
    (try simp only [Act.put, List.setIfInBounds_toArray, List.set_cons_zero, List.set_cons_succ])
    refine wpAnyH_take (i := 8) (oi := { dst := some 3, op := Go.Op.assign (Go.Operand.const (Go.Value.int Go.IntKind.i64 0)), type := 25, pos := "rank.go:24", after := #[{ on := 7, ground := Go.Ground.chain }, { on := 0, ground := Go.Ground.phase }, { on := 1, ground := Go.Ground.phase }, { on := 2, ground := Go.Ground.phase }, { on := 3, ground := Go.Ground.phase }, { on := 4, ground := Go.Ground.phase }, { on := 5, ground := Go.Ground.phase }, { on := 6, ground := Go.Ground.phase }, { on := 7, ground := Go.Ground.phase }], guard := none }) (v := ?_) rfl (by kernel_rfl) (by kernel_rfl) (by kernel_rfl) (fun _ _ _ h => h) (Or.inl ⟨by rfl, ?_⟩) (by assumption) ?_
    (rotate_left; focus (intro wS hSw; (try dsimp only at hSw); go_simp; (try rw [if_neg (by omega)]); try with_reducible rfl))
    (try simp only [Act.put, List.setIfInBounds_toArray, List.set_cons_zero, List.set_cons_succ])
    refine wpAnyH_done (by kernel_rfl) ?_ _
  rotate_left 1
  refine AllReadyH.cons (o := { dst := some 14, op := Go.Op.makeSlice 28 (Go.Operand.tmp 13) (Go.Operand.tmp 13), type := 28, pos := "rank.go:24", after := #[{ on := 3, ground := Go.Ground.data }, { on := 3, ground := Go.Ground.data }], guard := none }) rfl (fun K hK => ?_) AllReadyH.nil
  focus
    go_simp
    refine hK.out _ _ (trivial) (fun hHeld => ?_)
    clear hK K
    (try simp only [Act.put, List.setIfInBounds_toArray, List.set_cons_zero, List.set_cons_succ])
    refine wpAnyH_ready (rs := [1]) (by kernel_rfl) (by simp) ?_
    refine AllReadyH.cons (o := { dst := some 11, op := Go.Op.makeSlice 28 (Go.Operand.tmp 10) (Go.Operand.tmp 10), type := 28, pos := "rank.go:24", after := #[{ on := 0, ground := Go.Ground.data }, { on := 0, ground := Go.Ground.data }], guard := none }) rfl (fun K hK => ?_) AllReadyH.nil
    go_simp
    refine hK.out _ _ (trivial) (fun hHeld => ?_)
    clear hK K
    (try simp only [Act.put, List.setIfInBounds_toArray, List.set_cons_zero, List.set_cons_succ])
    refine wpAnyH_take (i := 5) (oi := { dst := some 15, op := Go.Op.build 36 #[(0, Go.Operand.tmp 11), (1, Go.Operand.tmp 14)], type := 36, pos := "rank.go:24", after := #[{ on := 1, ground := Go.Ground.data }, { on := 4, ground := Go.Ground.data }], guard := none }) (v := ?_) rfl (by kernel_rfl) (by kernel_rfl) (by kernel_rfl) (fun _ _ _ h => h) (Or.inl ⟨by rfl, ?_⟩) (by assumption) ?_
    (rotate_left; focus (intro wS hSw; (try dsimp only at hSw); go_simp; (try rw [if_neg (by omega)]); try with_reducible rfl))
    (try simp only [Act.put, List.setIfInBounds_toArray, List.set_cons_zero, List.set_cons_succ])
    refine wpAnyH_ready (rs := [6]) (by kernel_rfl) (by simp) ?_
    refine AllReadyH.cons (o := { dst := some 16, op := Go.Op.box 36 (Go.Operand.tmp 15), type := 24, pos := "rank.go:24", after := #[{ on := 5, ground := Go.Ground.data }], guard := none }) rfl (fun K hK => ?_) AllReadyH.nil
    go_simp
    refine hK.out _ _ (trivial) (fun hHeld => ?_)
    clear hK K
    (try simp only [Act.put, List.setIfInBounds_toArray, List.set_cons_zero, List.set_cons_succ])
    refine wpAnyH_take (i := 7) (oi := { dst := some 2, op := Go.Op.assign (Go.Operand.tmp 16), type := 24, pos := "rank.go:24", after := #[{ on := 6, ground := Go.Ground.data }, { on := 0, ground := Go.Ground.phase }, { on := 1, ground := Go.Ground.phase }, { on := 2, ground := Go.Ground.phase }, { on := 3, ground := Go.Ground.phase }, { on := 4, ground := Go.Ground.phase }, { on := 5, ground := Go.Ground.phase }, { on := 6, ground := Go.Ground.phase }], guard := none }) (v := ?_) rfl (by kernel_rfl) (by kernel_rfl) (by kernel_rfl) (fun _ _ _ h => h) (Or.inl ⟨by rfl, ?_⟩) (by assumption) ?_
    (rotate_left; focus (intro wS hSw; (try dsimp only at hSw); go_simp; (try rw [if_neg (by omega)]); try with_reducible rfl))
    (try simp only [Act.put, List.setIfInBounds_toArray, List.set_cons_zero, List.set_cons_succ])
    refine wpAnyH_take (i := 8) (oi := { dst := some 3, op := Go.Op.assign (Go.Operand.const (Go.Value.int Go.IntKind.i64 0)), type := 25, pos := "rank.go:24", after := #[{ on := 7, ground := Go.Ground.chain }, { on := 0, ground := Go.Ground.phase }, { on := 1, ground := Go.Ground.phase }, { on := 2, ground := Go.Ground.phase }, { on := 3, ground := Go.Ground.phase }, { on := 4, ground := Go.Ground.phase }, { on := 5, ground := Go.Ground.phase }, { on := 6, ground := Go.Ground.phase }, { on := 7, ground := Go.Ground.phase }], guard := none }) (v := ?_) rfl (by kernel_rfl) (by kernel_rfl) (by kernel_rfl) (fun _ _ _ h => h) (Or.inl ⟨by rfl, ?_⟩) (by assumption) ?_
    (rotate_left; focus (intro wS hSw; (try dsimp only at hSw); go_simp; (try rw [if_neg (by omega)]); try with_reducible rfl))
    (try simp only [Act.put, List.setIfInBounds_toArray, List.set_cons_zero, List.set_cons_succ])
    refine wpAnyH_done (by kernel_rfl) ?_ _
  · go_wp2
    go_ret2
    obtain ⟨q1, q2, q3, q4⟩ := bk_three w B A [.slice (some ⟨w.heap.size + 1, 0, none⟩) n n, .slice (some ⟨w.heap.size, 0, none⟩) (n + 1) (n + 1), .int .i64 0] 3 36
    exact ⟨w.heap.size + 1 + 1, w.heap.size + 1, w.heap.size, rfl, HP.out _ _ _ _ q3 q2 q1 (by omega) (by omega) (by omega), by omega, by omega, by omega, q4⟩
  · go_wp2
    go_ret2
    obtain ⟨q1, q2, q3, q4⟩ := bk_three w A B [.slice (some ⟨w.heap.size, 0, none⟩) n n, .slice (some ⟨w.heap.size + 1, 0, none⟩) (n + 1) (n + 1), .int .i64 0] 3 36
    exact ⟨w.heap.size + 1 + 1, w.heap.size, w.heap.size + 1, rfl, HP.out _ _ _ _ q3 q1 q2 (by omega) (by omega) (by omega), by omega, by omega, by omega, q4⟩
theorem up_any (k : Nat) (v : Value) (w : World) (h : k < 4611686018427387904) : Calls Try.prog 11 #[v, .int .i64 k] w fun e w' => e = .returned (.int .i64 ((k : Int) + (lb k : Nat))) ∧ w = w' := by
  have ha := and_neg k h
  have hl : lb k ≤ k := by
    by_cases h0 : k = 0
    · subst h0; rw [lb_zero]; omega
    · exact lb_le (by omega)
  obtain ⟨L, hL⟩ : ∃ L, L = lb k := ⟨_, rfl⟩
  rw [← hL] at ha hl ⊢
  clear hL
  go_enter Try.func11, Try.ntmps11
  go_wp2
  go_ret
  exact ⟨rfl, rfl⟩
theorem down_any (k : Nat) (v : Value) (w : World) (h : k < 4611686018427387904) : Calls Try.prog 13 #[v, .int .i64 k] w fun e w' => e = .returned (.int .i64 (lo k : Nat)) ∧ w = w' := by
  have ha := and_neg k h
  have hl : lb k ≤ k := by
    by_cases h0 : k = 0
    · subst h0; rw [lb_zero]; omega
    · exact lb_le (by omega)
  unfold lo
  obtain ⟨L, hL⟩ : ∃ L, L = lb k := ⟨_, rfl⟩
  rw [← hL] at ha hl ⊢
  clear hL
  go_enter Try.func13, Try.ntmps13
  go_wp2
  go_ret
  exact ⟨rint (by omega), rfl⟩
end Go.Proofs.Ytknlfifompmhoaa

