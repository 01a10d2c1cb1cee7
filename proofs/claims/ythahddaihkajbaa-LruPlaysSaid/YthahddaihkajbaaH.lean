/-
  The contracts of find and first.
-/
import Derived.Test.YthahddaihkajbaaG
import Derived.Test.YthahddaihkajbaaHeldt
set_option linter.unusedVariables false
set_option linter.unusedSimpArgs false
namespace Go.Proofs.Ythahddaihkajbaa
open Go.RowKit
set_option maxHeartbeats 2000000 in
theorem find_any {p B : Nat} {v : Value} {ms : List Itm} {room : Int} (k : ByteArray) (w : World) (h : Cs w p B v ms room) (hn5 : ms.length ≤ 5000) :
    Calls Try.prog 16 #[.pointer (some ⟨p, 0, none⟩), .string k] w fun e w' => e = .returned (.int .i64 (idxI ms k)) ∧ Below w.heap.size w w' := by
  have HB := Lib.hid (below_new w (.cells #[.string k] 9))
  have hN := h.keep HB.out
  have c0 := (hN.1.2 0 _ rfl).1
  have HK : Hid (Bk w.heap.size [.string k] (w.alloc (.cells #[.string k] 9))) := Lib.hid (Bk.new w 9 #[.string k])
  have hmf : ∀ (fn : Fn) (first cap : Array Value) (w : World), (Instr.makeFunc fn first cap).run Try.prog w = .ok (.func fn first cap) w := fun _ _ _ _ => rfl
  clear h
  go_enter Try.func16, Try.ntmps16
  go_wp2_with fail
  refine (idx_any k _ hN.2.1 hn5 HK.out).mono ?_
  rintro e w2 ⟨rfl, hb2⟩
  have HB2 := Lib.hid (below_cons HB.out hb2)
  clear hb2
  go_wp2
  go_ret
  exact ⟨rfl, HB2.out⟩
set_option maxHeartbeats 4000000 in
theorem first_any {p B : Nat} {v : Value} {ms : List Itm} {room : Int} (x : Itm) (w : World) (h : Cs w p B v ms room) (hn5 : ms.length ≤ 5000) :
    Calls Try.prog 14 #[.pointer (some ⟨p, 0, none⟩), .agg #[.string x.1, .string x.2]] w fun e w' => e = .returned (.tuple #[]) ∧ ∃ v', Cs w' p B v' (x :: ms) room ∧ Kp (fun i => i = p ∨ v.ownBlock = some i) w w' ∧ (∀ g, v'.ownBlock = some g → v.ownBlock = some g ∨ w.heap.size ≤ g) := by
  have HB := Lib.hid (below_new w (.cells #[.string x.1, .string x.2] 52))
  have hN := h.keep HB.out
  have hQ : Bk w.heap.size (encI x) (w.alloc (.cells #[.string x.1, .string x.2] 52)) := Bk.new w 52 #[.string x.1, .string x.2]
  have q0 := (hQ.2 0 _ rfl).1; have q1 := (hQ.2 1 _ rfl).1
  go_enter Try.func14, Try.ntmps14
  have hP0 : Bk p [v, .int .i64 room] (w.alloc (.cells #[.string x.1, .string x.2] 52)).drew ∧ Bk w.heap.size (encI x) (w.alloc (.cells #[.string x.1, .string x.2] 52)).drew := ⟨hN.1, hQ⟩
  have hB2 : Below w.heap.size w ((w.alloc (.cells #[.string x.1, .string x.2] 52)).alloc (.cells #[.string x.1, .string x.2] 52)).drew := (below_cons HB.out (below_new (w.alloc (.cells #[.string x.1, .string x.2] 52)) (.cells #[.string x.1, .string x.2] 52))).drew
  have HB2 := Lib.hid hB2
  have hC2 : Cs ((w.alloc (.cells #[.string x.1, .string x.2] 52)).alloc (.cells #[.string x.1, .string x.2] 52)).drew p B v ms room := (hN.keep (below_new (w.alloc (.cells #[.string x.1, .string x.2] 52)) (.cells #[.string x.1, .string x.2] 52))).drew
  have hP1 : Bk p [v, .int .i64 room] ((w.alloc (.cells #[.string x.1, .string x.2] 52)).alloc (.cells #[.string x.1, .string x.2] 52)).drew ∧ Bk w.heap.size (encI x) ((w.alloc (.cells #[.string x.1, .string x.2] 52)).alloc (.cells #[.string x.1, .string x.2] 52)).drew := ⟨hC2.1, (hQ.keep (below_new (w.alloc (.cells #[.string x.1, .string x.2] 52)) (.cells #[.string x.1, .string x.2] 52))).drew⟩
  have hqc : Hid (((w.alloc (.cells #[.string x.1, .string x.2] 52)).alloc (.cells #[.string x.1, .string x.2] 52)).drew.heap[w.heap.size + 1]? = some (.cells #[.string x.1, .string x.2] 52 (0, 0))) := Lib.hid (by
    show ((w.alloc (.cells #[.string x.1, .string x.2] 52)).alloc (.cells #[.string x.1, .string x.2] 52)).heap[w.heap.size + 1]? = _
    have := heap_alloc_new (w.alloc (.cells #[.string x.1, .string x.2] 52)) (.cells #[.string x.1, .string x.2] 52)
    simpa using this)
  have hqo : v.ownBlock ≠ some (w.heap.size + 1) := fun e => by have := (h.2.1.lt _ e).2; omega
  have HC := Lib.hid hC2
  have hpl : p < w.heap.size := Nat.lt_of_lt_of_le h.2.2.1 h.2.2.2
  have hpo : ∀ g, v.ownBlock = some g → p ≠ g := fun g hg e => by have := (h.2.1.lt g hg).1; have := h.2.2.1; omega
  clear hB2 hC2 q0 q1
  go_wp2_with fail
  refine wp_region_T (S := fun w' => Bk p [v, .int .i64 room] w' ∧ Bk w.heap.size (encI x) w') 10 (by kernel_rfl) (by (first | exact hP2 | exact hP1 | exact hP0)) (fun hHeld => ?_)
  refine wpAnyT_take (i := 0) (oi := { dst := some 4, op := Go.Op.move (Go.Operand.tmp 0), type := 56, pos := "lru.go:22", after := #[], guard := none }) (v := ?_) rfl (by kernel_rfl) (by kernel_rfl) (by kernel_rfl) (by kernel_rfl) (fun _ _ _ h => h) (Or.inl ⟨by rfl, ?_⟩) (by assumption) ?_
  (rotate_left; focus (intro wS hSw; have s0 := (hSw.1.2 0 _ rfl).1; have s1 := (hSw.2.2 0 _ rfl).1; have s2 := (hSw.2.2 1 _ rfl).1; clear hSw; go_simp; (try rw [if_neg (by omega)]); try with_reducible rfl))
  (try simp only [Act.put, List.setIfInBounds_toArray, List.set_cons_zero, List.set_cons_succ])
  refine wpAnyT_take (i := 1) (oi := { dst := some 5, op := Go.Op.move (Go.Operand.tmp 0), type := 56, pos := "lru.go:22", after := #[], guard := none }) (v := ?_) rfl (by kernel_rfl) (by kernel_rfl) (by kernel_rfl) (by kernel_rfl) (fun _ _ _ h => h) (Or.inl ⟨by rfl, ?_⟩) (by assumption) ?_
  (rotate_left; focus (intro wS hSw; have s0 := (hSw.1.2 0 _ rfl).1; have s1 := (hSw.2.2 0 _ rfl).1; have s2 := (hSw.2.2 1 _ rfl).1; clear hSw; go_simp; (try rw [if_neg (by omega)]); try with_reducible rfl))
  (try simp only [Act.put, List.setIfInBounds_toArray, List.set_cons_zero, List.set_cons_succ])
  refine wpAnyT_take (i := 2) (oi := { dst := some 6, op := Go.Op.nilCheck (Go.Operand.tmp 5), type := 0, pos := "lru.go:22", after := #[{ on := 1, ground := Go.Ground.data }], guard := none }) (v := ?_) rfl (by kernel_rfl) (by kernel_rfl) (by kernel_rfl) (by kernel_rfl) (fun _ _ _ h => h) (Or.inl ⟨by rfl, ?_⟩) (by assumption) ?_
  (rotate_left; focus (intro wS hSw; have s0 := (hSw.1.2 0 _ rfl).1; have s1 := (hSw.2.2 0 _ rfl).1; have s2 := (hSw.2.2 1 _ rfl).1; clear hSw; go_simp; (try rw [if_neg (by omega)]); try with_reducible rfl))
  (try simp only [Act.put, List.setIfInBounds_toArray, List.set_cons_zero, List.set_cons_succ])
  refine wpAnyT_take (i := 3) (oi := { dst := some 7, op := Go.Op.fieldAddr 46 (Go.Operand.tmp 6) 0, type := 0, pos := "lru.go:22", after := #[{ on := 2, ground := Go.Ground.data }], guard := none }) (v := ?_) rfl (by kernel_rfl) (by kernel_rfl) (by kernel_rfl) (by kernel_rfl) (fun _ _ _ h => h) (Or.inl ⟨by rfl, ?_⟩) (by assumption) ?_
  (rotate_left; focus (intro wS hSw; have s0 := (hSw.1.2 0 _ rfl).1; have s1 := (hSw.2.2 0 _ rfl).1; have s2 := (hSw.2.2 1 _ rfl).1; clear hSw; go_simp; (try rw [if_neg (by omega)]); try with_reducible rfl))
  (try simp only [Act.put, List.setIfInBounds_toArray, List.set_cons_zero, List.set_cons_succ])
  refine wpAnyT_take (i := 4) (oi := { dst := some 8, op := Go.Op.load 44 (Go.Operand.tmp 7), type := 44, pos := "lru.go:22", after := #[{ on := 3, ground := Go.Ground.data }], guard := none }) (v := ?_) rfl (by kernel_rfl) (by kernel_rfl) (by kernel_rfl) (by kernel_rfl) (fun _ _ _ h => h) (Or.inl ⟨by rfl, ?_⟩) (by assumption) ?_
  (rotate_left; focus (intro wS hSw; have s0 := (hSw.1.2 0 _ rfl).1; have s1 := (hSw.2.2 0 _ rfl).1; have s2 := (hSw.2.2 1 _ rfl).1; clear hSw; go_simp; (try rw [if_neg (by omega)]); try with_reducible rfl))
  (try simp only [Act.put, List.setIfInBounds_toArray, List.set_cons_zero, List.set_cons_succ])
  refine wpAnyT_take (i := 5) (oi := { dst := some 9, op := Go.Op.load 52 (Go.Operand.tmp 3), type := 52, pos := "lru.go:22", after := #[], guard := none }) (v := ?_) rfl (by kernel_rfl) (by kernel_rfl) (by kernel_rfl) (by kernel_rfl) (fun _ _ _ h => h) (Or.inl ⟨by rfl, ?_⟩) (by assumption) ?_
  (rotate_left; focus (intro wS hSw; have s0 := (hSw.1.2 0 _ rfl).1; have s1 := (hSw.2.2 0 _ rfl).1; have s2 := (hSw.2.2 1 _ rfl).1; clear hSw; go_simp; (try rw [if_neg (by omega)]); try with_reducible rfl))
  (try simp only [Act.put, List.setIfInBounds_toArray, List.set_cons_zero, List.set_cons_succ])
  refine wpAnyT_ready (rs := [6]) (by kernel_rfl) (by simp) ?_
  refine AllReadyT.cons (o := { dst := some 10, op := Go.Op.buildSlice 44 1 #[(0, Go.Operand.tmp 9)], type := 44, pos := "lru.go:22", after := #[{ on := 5, ground := Go.Ground.data }], guard := none }) rfl (fun K hK => ?_) AllReadyT.nil
  go_simp
  refine hK.out _ _ (by (first | exact hP2 | exact hP1 | exact hP0)) (fun hHeld => ?_)
  clear hK K
  (try simp only [Act.put, List.setIfInBounds_toArray, List.set_cons_zero, List.set_cons_succ])
  refine wpAnyT_ready (rs := [7]) (by kernel_rfl) (by simp) ?_
  refine AllReadyT.cons (o := { dst := some 11, op := Go.Op.call { callee := Go.Callee.value (Go.Operand.func 17), args := #[Go.Operand.tmp 8, Go.Operand.const (Go.Value.int Go.IntKind.i64 0), Go.Operand.tmp 10], argTypes := #[44, 3, 44] }, type := 44, pos := "lru.go:22", after := #[{ on := 4, ground := Go.Ground.data }, { on := 6, ground := Go.Ground.data }], guard := none }) rfl (fun K hK => ?_) AllReadyT.nil
  go_simp
  refine (insert_any x ((w.alloc (.cells #[.string x.1, .string x.2] 52)).alloc (.cells #[.string x.1, .string x.2] 52)).drew HC.out.2.1 hn5 hqc.out hqo HC.out.2.2.2).mono ?_
  rintro e w2 ⟨v', rfl, ho, hk, hat⟩
  obtain ⟨a5, cap5, rfl⟩ := own_shape ho
  have hB3 := HC.out.1.kp hk (fun e => hpo p e rfl)
  have hP2 : Bk p [v, .int .i64 room] w2 ∧ Bk w.heap.size (encI x) w2 := ⟨hB3, hP1.2.kp hk (fun e => by have := (h.2.1.lt _ e).2; omega)⟩
  have c2 := (hB3.2 0 _ rfl).1
  have f2 := (hB3.2 0 _ rfl).2
  have HB3 := Lib.hid (hB3.set 0 (by simp) (.slice a5 (x :: ms).length cap5)); have HO := Lib.hid ho; have HK := Lib.hid hk; have HAT := Lib.hid hat
  clear hB3 ho hk hat
  (try go_wp2_with fail)
  refine hK.out _ _ (by (first | exact hP2 | exact hP1 | exact hP0)) (fun hHeld => ?_)
  clear hK K
  (try simp only [Act.put, List.setIfInBounds_toArray, List.set_cons_zero, List.set_cons_succ])
  refine wpAnyT_ready (rs := [8]) (by kernel_rfl) (by simp) ?_
  refine AllReadyT.cons (o := { dst := some 12, op := Go.Op.nilCheck (Go.Operand.tmp 4), type := 0, pos := "lru.go:22", after := #[{ on := 0, ground := Go.Ground.data }, { on := 0, ground := Go.Ground.phase }, { on := 1, ground := Go.Ground.phase }, { on := 2, ground := Go.Ground.phase }, { on := 3, ground := Go.Ground.phase }, { on := 4, ground := Go.Ground.phase }, { on := 5, ground := Go.Ground.phase }, { on := 6, ground := Go.Ground.phase }, { on := 7, ground := Go.Ground.phase }], guard := none }) rfl (fun K hK => ?_) AllReadyT.nil
  go_simp
  refine hK.out _ _ (by (first | exact hP2 | exact hP1 | exact hP0)) (fun hHeld => ?_)
  clear hK K
  (try simp only [Act.put, List.setIfInBounds_toArray, List.set_cons_zero, List.set_cons_succ])
  refine wpAnyT_take (i := 9) (oi := { dst := some 13, op := Go.Op.fieldAddr 46 (Go.Operand.tmp 12) 0, type := 0, pos := "lru.go:22", after := #[{ on := 8, ground := Go.Ground.data }, { on := 0, ground := Go.Ground.phase }, { on := 1, ground := Go.Ground.phase }, { on := 2, ground := Go.Ground.phase }, { on := 3, ground := Go.Ground.phase }, { on := 4, ground := Go.Ground.phase }, { on := 5, ground := Go.Ground.phase }, { on := 6, ground := Go.Ground.phase }, { on := 7, ground := Go.Ground.phase }], guard := none }) (v := ?_) rfl (by kernel_rfl) (by kernel_rfl) (by kernel_rfl) (by kernel_rfl) (fun _ _ _ h => h) (Or.inl ⟨by rfl, ?_⟩) (by assumption) ?_
  (rotate_left; focus (intro wS hSw; have s0 := (hSw.1.2 0 _ rfl).1; have s1 := (hSw.2.2 0 _ rfl).1; have s2 := (hSw.2.2 1 _ rfl).1; clear hSw; go_simp; (try rw [if_neg (by omega)]); try with_reducible rfl))
  (try simp only [Act.put, List.setIfInBounds_toArray, List.set_cons_zero, List.set_cons_succ])
  refine wpAnyT_ready (rs := [10]) (by kernel_rfl) (by simp) ?_
  refine AllReadyT.last (o := { dst := none, op := Go.Op.store 44 (Go.Operand.tmp 13) (Go.Operand.tmp 11), type := 0, pos := "lru.go:22", after := #[{ on := 9, ground := Go.Ground.data }, { on := 7, ground := Go.Ground.data }, { on := 7, ground := Go.Ground.chain }, { on := 0, ground := Go.Ground.phase }, { on := 1, ground := Go.Ground.phase }, { on := 2, ground := Go.Ground.phase }, { on := 3, ground := Go.Ground.phase }, { on := 4, ground := Go.Ground.phase }, { on := 5, ground := Go.Ground.phase }, { on := 6, ground := Go.Ground.phase }, { on := 7, ground := Go.Ground.phase }], guard := none }) rfl (fun K hK => ?_)
  go_simp
  refine hK.out _ _ ?_
  clear hK K
  (try simp only [Act.put, List.setIfInBounds_toArray, List.set_cons_zero, List.set_cons_succ])
  refine wpAnyT_done (by kernel_rfl) ?_ _
  go_wp2
  go_end0
  refine ⟨rfl, _, ⟨HB3.out, ?_, h.2.2.1, ?_⟩, ?_, ?_⟩
  · refine own_kp2 HO.out (Kp.set (S := fun i => i = p) (Kp.refl _ _) p 0 _ rfl) (fun g hg e => ?_)
    have := (HO.out.lt g hg).1
    have := h.2.2.1
    omega
  · have h1 := HK.out.size; have h2 := HB2.out.size; have h3 := h.2.2.2
    show B ≤ (w2.setCell _ _).heap.size
    simp only [World.size_setCell]
    omega
  · exact (((Kp.new HB2.out).trans (HK.out.mono (fun i _ e => Or.inr e))).set p 0 _ (Or.inl rfl))
  · intro g hg
    rcases HAT.out with e | e
    · exact Or.inl (by rw [← e]; exact hg)
    · refine Or.inr ?_
      have h2 := HB2.out.size
      rw [e] at hg
      simp only [Option.some.injEq] at hg
      omega
end Go.Proofs.Ythahddaihkajbaa

