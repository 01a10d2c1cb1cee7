/-
  The contract of slices.Insert at the first place.
-/
import Derived.Test.YthahddaihkajbaaC
import Derived.Test.YthahddaihkajbaaE
import Derived.Lib.Overlaps
set_option linter.unusedVariables false
set_option linter.unusedSimpArgs false
namespace Go.Proofs.Ythahddaihkajbaa
open Go.RowKit
theorem wp_copy_eq {P : Program} {w w2 : World} {o : Oper} {a : Act} {K : Act → World → Prop} {Q : Exit → Act → World → Prop} {s x : Operand} {t : TypeId} {v y r : Value}
    (ho : o.op = .call { callee := .builtin .copy, args := #[s, x], argTypes := #[t, t] }) (hs : a.eval s = v) (hx : a.eval x = y) (hr : ∀ ty, (Builtin.copy_ #[t, t] ty #[v, y]).run P w = .ok r w2) (h : K (a.put o.dst r) w2) : o.wp P a w K Q := by
  unfold Oper.wp execOp
  simp only [ho, resolve, invoke, builtin, Sem.run_bind, Sem.run_pure, Result.andThen_ok, List.map_toArray, List.map_cons, List.map_nil, hs, hx, hr]
  exact h
theorem wpList_copy_eq {P : Program} {w w2 : World} {ops : Array Oper} {rest : List Oper} {o : Oper} {a : Act} {Q : Exit → Act → World → Prop} {s x : Operand} {t : TypeId} {v y r : Value} (hgd : o.guard = none)
    (ho : o.op = .call { callee := .builtin .copy, args := #[s, x], argTypes := #[t, t] }) (hs : a.eval s = v) (hx : a.eval x = y) (hr : ∀ ty, (Builtin.copy_ #[t, t] ty #[v, y]).run P w = .ok r w2) (h : wpList P ops Q rest (a.put o.dst r) w2) : wpList P ops Q (o :: rest) a w :=
  wpList_plain hgd fun K hK => wp_copy_eq ho hs hx hr (hK _ _ h)
theorem wpList_append_eq {P : Program} {w w2 : World} {ops : Array Oper} {rest : List Oper} {o : Oper} {a : Act} {Q : Exit → Act → World → Prop} {s x : Operand} {t u : TypeId} {v y r : Value} (hgd : o.guard = none)
    (ho : o.op = .call { callee := .builtin .append, args := #[s, x], argTypes := #[t, u] }) (hs : a.eval s = v) (hx : a.eval x = y) (hr : ∀ ty, (Builtin.append_ #[t, u] ty #[v, y]).run P w = .ok r w2) (h : wpList P ops Q rest (a.put o.dst r) w2) : wpList P ops Q (o :: rest) a w := by
  refine wpList_plain hgd fun K hK => ?_
  unfold Oper.wp execOp
  simp only [ho, resolve, invoke, builtin, Sem.run_bind, Sem.run_pure, Result.andThen_ok, List.map_toArray, List.map_cons, List.map_nil, hs, hx, hr]
  exact hK _ _ h
theorem frozen_cells {w : World} {b : Nat} {c : Array Value} {e : TypeId} (h : w.heap[b]? = some (.cells c e (0, 0))) (k : Nat) : w.frozen? ⟨b, k, none⟩ = false := by
  unfold World.frozen?
  simp only [h]
  simp
theorem bk_item {w : World} {q : Nat} {x : Itm} (h : w.heap[q]? = some (.cells #[.string x.1, .string x.2] 52 (0, 0))) : Bk q (encI x) w := by
  refine ⟨?_, fun i v hv => ⟨?_, frozen_cells h i⟩⟩
  · rcases Nat.lt_or_ge q w.heap.size with h1 | h1
    · exact h1
    · rw [Array.getElem?_eq_none h1] at h; cases h
  · unfold World.cell?
    simp only [h]
    simpa [encI] using hv
set_option maxRecDepth 100000 in
set_option maxHeartbeats 4000000 in
theorem insert_none {B q : Nat} {v : Value} (x : Itm) (w : World) (h : w.ownsRow B 52 2 v 0 []) (hqc : w.heap[q]? = some (.cells #[.string x.1, .string x.2] 52 (0, 0))) (hB : B ≤ w.heap.size) :
    Calls Try.prog 17 #[v, .int .i64 0, .slice (some ⟨q, 0, none⟩) 1 1] w fun e w' => ∃ v', e = .returned v' ∧ w'.ownsRow B 52 2 v' 1 (encI x) ∧ Kp (fun i => v.ownBlock = some i) w w' ∧ (v'.ownBlock = v.ownBlock ∨ v'.ownBlock = some w.heap.size) := by
  have hq := bk_item hqc
  obtain ⟨i0, hi, hz0, hz1, hz2⟩ := info_parts infoI
  obtain ⟨a, cap, rfl⟩ := own_shape h
  go_enter Try.func17, Try.ntmps17
  go_wp2_with (at_builtin; refine wpList_append_own_at _ rfl _ _ 44 rfl B 52 i0 (.agg #[.string ByteArray.empty, .string ByteArray.empty]) 2 32 Try.underlying44 hi hz0 hz1 hz2 rfl (by decide) _ _ _ rfl h ⟨q, 0, none⟩ 1 1 (encI x) rfl rfl ?a1 ?a2 ?a3 ?a4 ?a5 ?_)
  case a1 => intro j u hj; rw [Addr.add_lit, Nat.zero_add]; exact (hq.2 j u hj).1
  case a2 => intro u hu; simp [encI] at hu; rcases hu with rfl | rfl <;> rfl
  case a3 => unfold maxLen; omega
  case a4 => omega
  case a5 => exact hB
  intro v5 w5 hown5 hg5 _ hat
  have HK : Hid (Kp (fun i => (Value.slice a 0 cap).ownBlock = some i) w w5) := Lib.hid (Kp.grown hg5 (fun k e => e))
  have HO := Lib.hid hown5
  have HAT := Lib.hid hat
  clear hown5 hg5 hat
  go_wp2
  go_ret
  exact ⟨_, rfl, HO.out, HK.out, HAT.out⟩
set_option maxRecDepth 100000 in
set_option maxHeartbeats 4000000 in
theorem insert_grow {B g cap n q : Nat} {ms : List Itm} (x : Itm) (w : World) (h : w.ownsRow B 52 2 (.slice (some ⟨g, 0, none⟩) n cap) n (ms.flatMap encI)) (hms : ms.length = n) (hn0 : 0 < n) (hn5 : n ≤ 5000) (hfull : cap < n + 1) (hqc : w.heap[q]? = some (.cells #[.string x.1, .string x.2] 52 (0, 0))) (hB : B ≤ w.heap.size) :
    Calls Try.prog 17 #[.slice (some ⟨g, 0, none⟩) n cap, .int .i64 0, .slice (some ⟨q, 0, none⟩) 1 1] w fun e w' => ∃ C, e = .returned (.slice (some ⟨w.heap.size, 0, none⟩) (n + 1) C) ∧ w'.ownsRow B 52 2 (.slice (some ⟨w.heap.size, 0, none⟩) (n + 1) C) (n + 1) ((x :: ms).flatMap encI) ∧ Kp (fun i => i = g) w w' := by
  obtain ⟨C, w2, w3, w4, hC, hap, hc1, hc2, hown, hkp⟩ := grow_steps x w h hms hfull hn5 (bk_item hqc) hB
  have HO := Lib.hid hown; have HK := Lib.hid hkp
  clear hown hkp h hqc
  obtain ⟨G, hG⟩ : ∃ G, G = w.heap.size := ⟨_, rfl⟩
  rw [← hG] at hap hc1 hc2 HO ⊢
  clear hG
  have e1 : ((0 : Int) == (n : Int)) = false := by simp; omega
  have e2 : decide ((cap : Int) < (n : Int) + 1) = true := decide_eq_true (by omega)
  have ww : IntKind.i64.wrap 1 = 1 := by rfl
  have w1 : IntKind.i64.wrap ((n : Int) + 1) = (n : Int) + 1 := by rw [IntKind.wrap_i64]; omega
  have hC1 : ¬ C = 1 := by omega
  have hC2 : ¬ C = 0 := by omega
  have hc0 : (0 : Int) ≤ (cap : Int) := by omega
  have hn1 : (0 : Int) ≤ (n : Int) := by omega
  have hn2 : (1 : Int) ≤ (n : Int) + 1 := by omega
  have hap' := hap
  rw [show ((n + 1 : Nat) : Int) = (n : Int) + 1 by omega] at hap'
  clear hap
  go_enter Try.func17, Try.ntmps17
  go_wp2_with (at_builtin; first | (refine wpList_append_eq rfl rfl rfl rfl hap' ?_) | (refine wpList_copy_eq rfl rfl rfl rfl (fun ty => hc1 ty _ _) ?_))
  refine wp_region_held_drew (S := fun _ => True) (by kernel_rfl) (trivial) (fun hHeld => ?_)
  refine wpAnyH_take (i := 0) (oi := { dst := some 46, op := Go.Op.move (Go.Operand.tmp 9), type := 44, pos := "slices.go:154", after := #[], guard := none }) (v := ?_) rfl (by kernel_rfl) (by kernel_rfl) (by kernel_rfl) (fun _ _ _ h => h) (Or.inl ⟨by rfl, ?_⟩) (by assumption) ?_
  (rotate_left; focus (intro wS hSw; (try dsimp only at hSw); go_simp; (try rw [if_neg (by omega)]); try with_reducible rfl))
  (try simp only [Act.put, List.setIfInBounds_toArray, List.set_cons_zero, List.set_cons_succ])
  refine wpAnyH_take (i := 1) (oi := { dst := some 47, op := Go.Op.move (Go.Operand.tmp 1), type := 3, pos := "slices.go:154", after := #[], guard := none }) (v := ?_) rfl (by kernel_rfl) (by kernel_rfl) (by kernel_rfl) (fun _ _ _ h => h) (Or.inl ⟨by rfl, ?_⟩) (by assumption) ?_
  (rotate_left; focus (intro wS hSw; (try dsimp only at hSw); go_simp; (try rw [if_neg (by omega)]); try with_reducible rfl))
  (try simp only [Act.put, List.setIfInBounds_toArray, List.set_cons_zero, List.set_cons_succ])
  refine wpAnyH_take (i := 2) (oi := { dst := some 48, op := Go.Op.move (Go.Operand.tmp 7), type := 3, pos := "slices.go:154", after := #[], guard := none }) (v := ?_) rfl (by kernel_rfl) (by kernel_rfl) (by kernel_rfl) (fun _ _ _ h => h) (Or.inl ⟨by rfl, ?_⟩) (by assumption) ?_
  (rotate_left; focus (intro wS hSw; (try dsimp only at hSw); go_simp; (try rw [if_neg (by omega)]); try with_reducible rfl))
  (try simp only [Act.put, List.setIfInBounds_toArray, List.set_cons_zero, List.set_cons_succ])
  refine wpAnyH_take (i := 3) (oi := { dst := some 49, op := Go.Op.binOp Go.BinOp.add 3 (Go.Operand.tmp 47) (Go.Operand.tmp 48) 3, type := 3, pos := "slices.go:154", after := #[{ on := 1, ground := Go.Ground.data }, { on := 2, ground := Go.Ground.data }], guard := none }) (v := ?_) rfl (by kernel_rfl) (by kernel_rfl) (by kernel_rfl) (fun _ _ _ h => h) (Or.inl ⟨by rfl, ?_⟩) (by assumption) ?_
  (rotate_left; focus (intro wS hSw; (try dsimp only at hSw); go_simp; (try rw [if_neg (by omega)]); try with_reducible rfl))
  (try simp only [Act.put, List.setIfInBounds_toArray, List.set_cons_zero, List.set_cons_succ])
  refine wpAnyH_take (i := 4) (oi := { dst := some 50, op := Go.Op.slice 44 (Go.Operand.tmp 46) (some (Go.Operand.tmp 49)) none none, type := 44, pos := "slices.go:154", after := #[{ on := 0, ground := Go.Ground.data }, { on := 3, ground := Go.Ground.data }], guard := none }) (v := ?_) rfl (by kernel_rfl) (by kernel_rfl) (by kernel_rfl) (fun _ _ _ h => h) (Or.inl ⟨by rfl, ?_⟩) (by assumption) ?_
  (rotate_left; focus (intro wS hSw; (try dsimp only at hSw); go_simp; (try rw [if_neg (by omega)]); try with_reducible rfl))
  (try simp only [Act.put, List.setIfInBounds_toArray, List.set_cons_zero, List.set_cons_succ])
  refine wpAnyH_take (i := 5) (oi := { dst := some 51, op := Go.Op.move (Go.Operand.tmp 0), type := 44, pos := "slices.go:154", after := #[], guard := none }) (v := ?_) rfl (by kernel_rfl) (by kernel_rfl) (by kernel_rfl) (fun _ _ _ h => h) (Or.inl ⟨by rfl, ?_⟩) (by assumption) ?_
  (rotate_left; focus (intro wS hSw; (try dsimp only at hSw); go_simp; (try rw [if_neg (by omega)]); try with_reducible rfl))
  (try simp only [Act.put, List.setIfInBounds_toArray, List.set_cons_zero, List.set_cons_succ])
  refine wpAnyH_take (i := 6) (oi := { dst := some 52, op := Go.Op.move (Go.Operand.tmp 1), type := 3, pos := "slices.go:154", after := #[], guard := none }) (v := ?_) rfl (by kernel_rfl) (by kernel_rfl) (by kernel_rfl) (fun _ _ _ h => h) (Or.inl ⟨by rfl, ?_⟩) (by assumption) ?_
  (rotate_left; focus (intro wS hSw; (try dsimp only at hSw); go_simp; (try rw [if_neg (by omega)]); try with_reducible rfl))
  (try simp only [Act.put, List.setIfInBounds_toArray, List.set_cons_zero, List.set_cons_succ])
  refine wpAnyH_take (i := 7) (oi := { dst := some 53, op := Go.Op.slice 44 (Go.Operand.tmp 51) (some (Go.Operand.tmp 52)) none none, type := 44, pos := "slices.go:154", after := #[{ on := 5, ground := Go.Ground.data }, { on := 6, ground := Go.Ground.data }], guard := none }) (v := ?_) rfl (by kernel_rfl) (by kernel_rfl) (by kernel_rfl) (fun _ _ _ h => h) (Or.inl ⟨by rfl, ?_⟩) (by assumption) ?_
  (rotate_left; focus (intro wS hSw; (try dsimp only at hSw); go_simp; (try rw [if_neg (by omega)]); try with_reducible rfl))
  (try simp only [Act.put, List.setIfInBounds_toArray, List.set_cons_zero, List.set_cons_succ])
  refine wpAnyH_ready (rs := [8]) (by kernel_rfl) (by simp) ?_
  refine AllReadyH.cons (o := { dst := some 54, op := Go.Op.call { callee := Go.Callee.builtin Go.Builtin.copy, args := #[Go.Operand.tmp 50, Go.Operand.tmp 53], argTypes := #[44, 44] }, type := 3, pos := "slices.go:154", after := #[{ on := 4, ground := Go.Ground.data }, { on := 7, ground := Go.Ground.data }], guard := none }) rfl (fun K hK => ?_) AllReadyH.nil
  refine wp_copy_eq rfl rfl rfl (fun ty => hc2 ty _ _) ?_
  refine hK.out _ _ (trivial) (fun hHeld => ?_)
  clear hK K
  (try simp only [Act.put, List.setIfInBounds_toArray, List.set_cons_zero, List.set_cons_succ])
  refine wpAnyH_done (by kernel_rfl) ?_ _
  go_wp2
  go_ret
  exact ⟨C, rfl, HO.out, HK.out.mono (fun _ _ h => h.elim)⟩
set_option maxRecDepth 100000 in
set_option maxHeartbeats 4000000 in
theorem insert_shift {B g cap n q : Nat} {ms : List Itm} (x : Itm) (w : World) (h : w.ownsRow B 52 2 (.slice (some ⟨g, 0, none⟩) n cap) n (ms.flatMap encI)) (hms : ms.length = n) (hn0 : 0 < n) (hn5 : n ≤ 5000) (hroom : n + 1 ≤ cap) (hqc : w.heap[q]? = some (.cells #[.string x.1, .string x.2] 52 (0, 0))) (hqg : q ≠ g) :
    Calls Try.prog 17 #[.slice (some ⟨g, 0, none⟩) n cap, .int .i64 0, .slice (some ⟨q, 0, none⟩) 1 1] w fun e w' => e = .returned (.slice (some ⟨g, 0, none⟩) (n + 1) cap) ∧ w'.ownsRow B 52 2 (.slice (some ⟨g, 0, none⟩) (n + 1) cap) (n + 1) ((x :: ms).flatMap encI) ∧ Kp (fun i => i = g) w w' := by
  obtain ⟨w2, w3, hc1, hc2, hown, hkp⟩ := shift_steps x w.drew h hms hroom (bk_item hqc) hqg
  have HO := Lib.hid hown; have HK := Lib.hid ((Kp.refl (fun i => i = g) w).drew.trans hkp)
  have hmax : cap ≤ maxLen := by
    obtain ⟨_, ⟨he, _⟩ | ⟨g', cap', cur, he, hb, hg, hn, hm, _⟩⟩ := h
    · simp at he
    · simp only [Value.slice.injEq, true_and] at he
      obtain ⟨_, _, rfl⟩ := he
      exact hm
  have hov : ∀ lb cb, (callFunc 21 #[.slice (some ⟨q, 0, none⟩) 1 1, .slice (some ⟨g, 2, none⟩) lb cb]).run Try.prog w = .ok (.value (.bool false)) w := fun lb cb => by
    obtain ⟨i0, hi, hz0, hz1, hz2⟩ := info_parts infoI
    obtain ⟨_, ⟨he, _⟩ | ⟨g', cap', cur, he, hb, hg, hn, hm, hcs, htake⟩⟩ := h
    · simp at he
    simp only [Value.slice.injEq, Option.some.injEq, Addr.mk.injEq, and_true, true_and] at he
    obtain ⟨rfl, rfl⟩ := he
    have hg1 : w.heap[g]? = some (.cells cur 52 (0, 0)) := hg
    rw [run_callFunc_extern Try.func21 (by kernel_rfl) (by kernel_rfl) (by kernel_rfl) (e := Extern.SlicesOverlaps.overlaps #[44, 44] #[4]) (by kernel_rfl),
      Lib.run_overlaps_apart w 44 4 52 Try.underlying44 2 (fun w => by simp [sizeOf, typeInfo, hi, hz1]) ⟨q, 0, none⟩ ⟨g, 2, none⟩ 1 1 lb cb hqg 52 52 2 cur.size (by unfold World.shape?; simp only [hqc]; rfl) (by unfold World.shape?; simp only [hg1]) (by rw [hcs]; omega) (frozen_cells hqc 0) (frozen_cells hqc 2)]
    rfl
  clear hown hkp h hqc
  have e1 : ((0 : Int) == (n : Int)) = false := by simp; omega
  have e2 : decide ((cap : Int) < (n : Int) + 1) = false := decide_eq_false (by omega)
  have ww : IntKind.i64.wrap 1 = 1 := by rfl
  have w1 : IntKind.i64.wrap ((n : Int) + 1) = (n : Int) + 1 := by rw [IntKind.wrap_i64]; omega
  have hC1 : ¬ cap = 1 := by omega
  have hC2 : ¬ cap = 0 := by omega
  have hc0 : (0 : Int) ≤ (cap : Int) := by omega
  have hn1 : (0 : Int) ≤ (n : Int) := by omega
  have hn2 : (1 : Int) ≤ (n : Int) + 1 := by omega
  have hn3 : (0 : Int) ≤ (n : Int) + 1 := by omega
  have hn4 : (n : Int) + 1 ≤ (cap : Int) := by omega
  have hn6 : ((n : Int) + 1).toNat = n + 1 := by omega
  go_enter Try.func17, Try.ntmps17
  go_wp2_with (simp only [hov])
  refine wp_region_held_drew (S := fun _ => True) (by kernel_rfl) (trivial) (fun hHeld => ?_)
  refine wpAnyH_take (i := 0) (oi := { dst := some 69, op := Go.Op.move (Go.Operand.tmp 0), type := 44, pos := "slices.go:178", after := #[], guard := none }) (v := ?_) rfl (by kernel_rfl) (by kernel_rfl) (by kernel_rfl) (fun _ _ _ h => h) (Or.inl ⟨by rfl, ?_⟩) (by assumption) ?_
  (rotate_left; focus (intro wS hSw; (try dsimp only at hSw); go_simp; (try rw [if_neg (by omega)]); try with_reducible rfl))
  (try simp only [Act.put, List.setIfInBounds_toArray, List.set_cons_zero, List.set_cons_succ])
  refine wpAnyH_take (i := 1) (oi := { dst := some 70, op := Go.Op.move (Go.Operand.tmp 1), type := 3, pos := "slices.go:178", after := #[], guard := none }) (v := ?_) rfl (by kernel_rfl) (by kernel_rfl) (by kernel_rfl) (fun _ _ _ h => h) (Or.inl ⟨by rfl, ?_⟩) (by assumption) ?_
  (rotate_left; focus (intro wS hSw; (try dsimp only at hSw); go_simp; (try rw [if_neg (by omega)]); try with_reducible rfl))
  (try simp only [Act.put, List.setIfInBounds_toArray, List.set_cons_zero, List.set_cons_succ])
  refine wpAnyH_take (i := 2) (oi := { dst := some 71, op := Go.Op.move (Go.Operand.tmp 7), type := 3, pos := "slices.go:178", after := #[], guard := none }) (v := ?_) rfl (by kernel_rfl) (by kernel_rfl) (by kernel_rfl) (fun _ _ _ h => h) (Or.inl ⟨by rfl, ?_⟩) (by assumption) ?_
  (rotate_left; focus (intro wS hSw; (try dsimp only at hSw); go_simp; (try rw [if_neg (by omega)]); try with_reducible rfl))
  (try simp only [Act.put, List.setIfInBounds_toArray, List.set_cons_zero, List.set_cons_succ])
  refine wpAnyH_take (i := 3) (oi := { dst := some 72, op := Go.Op.binOp Go.BinOp.add 3 (Go.Operand.tmp 70) (Go.Operand.tmp 71) 3, type := 3, pos := "slices.go:178", after := #[{ on := 1, ground := Go.Ground.data }, { on := 2, ground := Go.Ground.data }], guard := none }) (v := ?_) rfl (by kernel_rfl) (by kernel_rfl) (by kernel_rfl) (fun _ _ _ h => h) (Or.inl ⟨by rfl, ?_⟩) (by assumption) ?_
  (rotate_left; focus (intro wS hSw; (try dsimp only at hSw); go_simp; (try rw [if_neg (by omega)]); try with_reducible rfl))
  (try simp only [Act.put, List.setIfInBounds_toArray, List.set_cons_zero, List.set_cons_succ])
  refine wpAnyH_take (i := 4) (oi := { dst := some 73, op := Go.Op.slice 44 (Go.Operand.tmp 69) (some (Go.Operand.tmp 72)) none none, type := 44, pos := "slices.go:178", after := #[{ on := 0, ground := Go.Ground.data }, { on := 3, ground := Go.Ground.data }], guard := none }) (v := ?_) rfl (by kernel_rfl) (by kernel_rfl) (by kernel_rfl) (fun _ _ _ h => h) (Or.inl ⟨by rfl, ?_⟩) (by assumption) ?_
  (rotate_left; focus (intro wS hSw; (try dsimp only at hSw); go_simp; (try rw [if_neg (by omega)]); try with_reducible rfl))
  (try simp only [Act.put, List.setIfInBounds_toArray, List.set_cons_zero, List.set_cons_succ])
  refine wpAnyH_take (i := 5) (oi := { dst := some 74, op := Go.Op.move (Go.Operand.tmp 0), type := 44, pos := "slices.go:178", after := #[], guard := none }) (v := ?_) rfl (by kernel_rfl) (by kernel_rfl) (by kernel_rfl) (fun _ _ _ h => h) (Or.inl ⟨by rfl, ?_⟩) (by assumption) ?_
  (rotate_left; focus (intro wS hSw; (try dsimp only at hSw); go_simp; (try rw [if_neg (by omega)]); try with_reducible rfl))
  (try simp only [Act.put, List.setIfInBounds_toArray, List.set_cons_zero, List.set_cons_succ])
  refine wpAnyH_take (i := 6) (oi := { dst := some 75, op := Go.Op.move (Go.Operand.tmp 1), type := 3, pos := "slices.go:178", after := #[], guard := none }) (v := ?_) rfl (by kernel_rfl) (by kernel_rfl) (by kernel_rfl) (fun _ _ _ h => h) (Or.inl ⟨by rfl, ?_⟩) (by assumption) ?_
  (rotate_left; focus (intro wS hSw; (try dsimp only at hSw); go_simp; (try rw [if_neg (by omega)]); try with_reducible rfl))
  (try simp only [Act.put, List.setIfInBounds_toArray, List.set_cons_zero, List.set_cons_succ])
  refine wpAnyH_take (i := 7) (oi := { dst := some 76, op := Go.Op.slice 44 (Go.Operand.tmp 74) (some (Go.Operand.tmp 75)) none none, type := 44, pos := "slices.go:178", after := #[{ on := 5, ground := Go.Ground.data }, { on := 6, ground := Go.Ground.data }], guard := none }) (v := ?_) rfl (by kernel_rfl) (by kernel_rfl) (by kernel_rfl) (fun _ _ _ h => h) (Or.inl ⟨by rfl, ?_⟩) (by assumption) ?_
  (rotate_left; focus (intro wS hSw; (try dsimp only at hSw); go_simp; (try rw [if_neg (by omega)]); try with_reducible rfl))
  (try simp only [Act.put, List.setIfInBounds_toArray, List.set_cons_zero, List.set_cons_succ])
  refine wpAnyH_ready (rs := [8]) (by kernel_rfl) (by simp) ?_
  refine AllReadyH.cons (o := { dst := some 77, op := Go.Op.call { callee := Go.Callee.builtin Go.Builtin.copy, args := #[Go.Operand.tmp 73, Go.Operand.tmp 76], argTypes := #[44, 44] }, type := 3, pos := "slices.go:178", after := #[{ on := 4, ground := Go.Ground.data }, { on := 7, ground := Go.Ground.data }], guard := none }) rfl (fun K hK => ?_) AllReadyH.nil
  refine wp_copy_eq rfl rfl rfl (fun ty => hc1 ty _ _) ?_
  refine hK.out _ _ (trivial) (fun hHeld => ?_)
  clear hK K
  (try simp only [Act.put, List.setIfInBounds_toArray, List.set_cons_zero, List.set_cons_succ])
  refine wpAnyH_done (by kernel_rfl) ?_ _
  go_wp2_with (at_builtin; refine wpList_copy_eq rfl rfl rfl rfl (fun ty => hc2 ty _ _) ?_)
  go_ret
  exact ⟨rfl, HO.out, HK.out⟩
/-- Insert at the first place, whatever the row. -/
theorem insert_any {B q : Nat} {v : Value} {ms : List Itm} (x : Itm) (w : World) (h : w.ownsRow B 52 2 v ms.length (ms.flatMap encI)) (hn5 : ms.length ≤ 5000) (hqc : w.heap[q]? = some (.cells #[.string x.1, .string x.2] 52 (0, 0))) (hqo : v.ownBlock ≠ some q) (hB : B ≤ w.heap.size) :
    Calls Try.prog 17 #[v, .int .i64 0, .slice (some ⟨q, 0, none⟩) 1 1] w fun e w' => ∃ v', e = .returned v' ∧ w'.ownsRow B 52 2 v' (x :: ms).length ((x :: ms).flatMap encI) ∧ Kp (fun i => v.ownBlock = some i) w w' ∧ (v'.ownBlock = v.ownBlock ∨ v'.ownBlock = some w.heap.size) := by
  cases ms with
  | nil =>
    refine (insert_none x w h hqc hB).mono ?_
    rintro e w' ⟨v', rfl, h1, h2, h3⟩
    exact ⟨v', rfl, by simpa using h1, h2, h3⟩
  | cons m l =>
    have hsh := h
    obtain ⟨h0, ⟨he, hz⟩ | ⟨g, cap, cur, rfl, hb, hg, hn, hm, hcs, htake⟩⟩ := hsh
    · simp at hz
    · by_cases hc : (m :: l).length + 1 ≤ cap
      · refine (insert_shift x w h rfl (by simp) hn5 hc hqc (fun e => hqo (by rw [e]; rfl))).mono ?_
        rintro e w' ⟨rfl, h1, h2⟩
        exact ⟨_, rfl, h1, h2.mono (fun i _ e => by rw [e]; rfl), Or.inl rfl⟩
      · refine (insert_grow x w h rfl (by simp) hn5 (by omega) hqc hB).mono ?_
        rintro e w' ⟨C, rfl, h1, h2⟩
        exact ⟨_, rfl, h1, h2.mono (fun i _ e => by rw [e]; rfl), Or.inr rfl⟩
end Go.Proofs.Ythahddaihkajbaa

