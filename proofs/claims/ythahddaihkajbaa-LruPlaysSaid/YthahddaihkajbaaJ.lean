/-
  The contracts of Drop and Put.
-/
import Derived.Test.YthahddaihkajbaaI
import Derived.StillTailTactics
set_option linter.unusedVariables false
set_option linter.unusedSimpArgs false
namespace Go.Proofs.Ythahddaihkajbaa
open Go.RowKit
def dropI (ms : List Itm) (k : ByteArray) : List Itm := match findI ms k with
  | some j => ms.eraseIdx j
  | none => ms
theorem drop_len (ms : List Itm) (k : ByteArray) : (dropI ms k).length ≤ ms.length := by
  unfold dropI
  split
  · exact List.length_eraseIdx_le ..
  · exact Nat.le_refl _
theorem drop_nil (k : ByteArray) (w : World) : Calls Try.prog 12 #[.pointer none, .string k] w fun e w' => e = .returned (.bool false) ∧ w' = w := by
  go_enter Try.func12, Try.ntmps12
  go_wp2_with fail
  go_ret
  exact ⟨rfl, rfl⟩
set_option maxHeartbeats 2000000 in
theorem drop_any {p B : Nat} {v : Value} {ms : List Itm} {room : Int} (k : ByteArray) (w : World) (h : Cs w p B v ms room) (hn5 : ms.length ≤ 5000) :
    Calls Try.prog 12 #[.pointer (some ⟨p, 0, none⟩), .string k] w fun e w' => e = .returned (.bool (findI ms k).isSome) ∧
      ∃ v', Cs w' p B v' (dropI ms k) room ∧ Kp (fun j => j = p ∨ v.ownBlock = some j) w w' ∧ v'.ownBlock = v.ownBlock := by
  unfold dropI
  have hfd := find_any k w h hn5
  unfold idxI at hfd
  cases hf : findI ms k with
  | none =>
    rw [hf] at hfd
    simp only at hfd
    go_enter Try.func12, Try.ntmps12
    go_wp2_with fail
    refine hfd.mono ?_
    rintro e w2 ⟨rfl, hb⟩
    have HC := Lib.hid (h.keep hb); have HK : Hid (Kp (fun j => j = p ∨ v.ownBlock = some j) w w2) := Lib.hid (Kp.new hb)
    clear hb hfd h
    go_wp2
    go_ret
    exact ⟨rfl, _, HC.out, HK.out, rfl⟩
  | some j =>
    have hj := find_lt hf
    rw [hf] at hfd
    simp only at hfd
    have d1 : (0 : Int) ≤ (j : Int) := by omega
    go_enter Try.func12, Try.ntmps12
    go_wp2_with fail
    refine hfd.mono ?_
    rintro e w2 ⟨rfl, hb⟩
    have HC := Lib.hid (h.keep hb); have HK : Hid (Kp (fun j => j = p ∨ v.ownBlock = some j) w w2) := Lib.hid (Kp.new hb)
    clear hb hfd h
    go_wp2_with fail
    refine (out_any w2 HC.out hj (n1 := ms.length - 1) (by omega) hn5).mono ?_
    rintro e w3 ⟨rfl, v', h1, h2, h3⟩
    have H1 := Lib.hid h1; have H2 := Lib.hid (HK.out.trans h2)
    clear h1 h2
    go_wp2
    go_ret
    exact ⟨rfl, _, H1.out, H2.out, h3⟩
def putI (ms : List Itm) (k v : ByteArray) (room : Nat) : List Itm :=
  if room < ((k, v) :: dropI ms k).length then ((k, v) :: dropI ms k).eraseIdx room else (k, v) :: dropI ms k
theorem put_nil (k v : ByteArray) (w : World) : Calls Try.prog 10 #[.pointer none, .string k, .string v] w fun e w' => e = .returned (.tuple #[]) ∧ w' = w := by
  go_enter Try.func10, Try.ntmps10
  go_wp2_with fail
  refine bodyPost_ret (results_none rfl _ _ _) rfl ?_
  exact ⟨rfl, rfl⟩
set_option maxHeartbeats 2000000 in
theorem put_any {p B room : Nat} {v : Value} {ms : List Itm} (k x : ByteArray) (w : World) (h : Cs w p B v ms (room : Int)) (hr : room ≤ 4096) (hn : ms.length ≤ room) :
    Calls Try.prog 10 #[.pointer (some ⟨p, 0, none⟩), .string k, .string x] w fun e w' => e = .returned (.tuple #[]) ∧
      ∃ v', Cs w' p B v' (putI ms k x room) (room : Int) ∧ Kp (fun j => j = p ∨ v.ownBlock = some j) w w' ∧ (∀ g, v'.ownBlock = some g → v.ownBlock = some g ∨ w.heap.size ≤ g) := by
  have hdl := drop_len ms k
  have hdr := drop_any k w h (by omega)
  obtain ⟨D, hD⟩ : ∃ D, D = dropI ms k := ⟨_, rfl⟩
  obtain ⟨b, hb0⟩ : ∃ b, b = (findI ms k).isSome := ⟨_, rfl⟩
  have HP : Hid (putI ms k x room = if room < D.length + 1 then ((k, x) :: D).eraseIdx room else (k, x) :: D) := Lib.hid (by unfold putI; rw [← hD]; rfl)
  rw [← hD] at hdl hdr
  rw [← hb0] at hdr
  clear hD hb0
  go_enter Try.func10, Try.ntmps10
  go_wp2_with fail
  refine hdr.mono ?_
  rintro e w2 ⟨rfl, v2, h1, h2, h3⟩
  have H1 := Lib.hid h1; have H2 := Lib.hid h2; have H3 := Lib.hid h3
  clear h1 h2 h3 hdr
  go_wp2_with fail
  refine (first_any (k, x) w2 H1.out (by omega)).mono ?_
  rintro e w3 ⟨rfl, v3, h1, h2, h3⟩
  have H4 := Lib.hid h1
  have H5 : Hid (Kp (fun j => j = p ∨ v.ownBlock = some j) w w3) := Lib.hid (H2.out.trans (h2.mono (fun j hj e => by rw [← H3.out]; exact e)))
  have H6 : Hid (∀ g, v3.ownBlock = some g → v.ownBlock = some g ∨ w.heap.size ≤ g) := Lib.hid (fun g hg => by
    rcases h3 g hg with e | e
    · left; rw [← H3.out]; exact e
    · right; have := H2.out.size; omega)
  clear h1 h2 h3 H1 H2 H3
  obtain ⟨a3, cap3, rfl⟩ := own_shape H4.out.2.1
  have hP0 : Bk p [.slice a3 (D.length + 1) cap3, .int .i64 (room : Int)] w3.drew := H4.out.1
  by_cases hlt : room < D.length + 1
  · have d1 : decide ((room : Int) < (D.length : Int) + 1) = true := decide_eq_true (by omega)
    have HP2 : Hid (putI ms k x room = ((k, x) :: D).eraseIdx room) := Lib.hid (by rw [HP.out, if_pos hlt])
    have HLT := Lib.hid hlt
    clear hlt
    go_wp2_with fail
    refine wp_region_held_drew (S := fun w' => Bk p [.slice a3 (D.length + 1) cap3, .int .i64 (room : Int)] w') (by kernel_rfl) (by (exact hP0)) (fun hHeld => ?_)
    refine wpAnyH_take (i := 0) (oi := { dst := some 18, op := Go.Op.move (Go.Operand.tmp 0), type := 24, pos := "lru.go:52", after := #[], guard := none }) (v := ?_) rfl (by kernel_rfl) (by kernel_rfl) (by kernel_rfl) (fun _ _ _ h => h) (Or.inl ⟨by rfl, ?_⟩) (by assumption) ?_
    (rotate_left; focus (intro wS hSw; have s0 := (hSw.2 0 _ rfl).1; have s1 := (hSw.2 1 _ rfl).1; clear hSw; go_simp; (try rw [if_neg (by omega)]); try with_reducible rfl))
    (try simp only [Act.put, List.setIfInBounds_toArray, List.set_cons_zero, List.set_cons_succ])
    refine wpAnyH_take (i := 1) (oi := { dst := some 19, op := Go.Op.nilCheck (Go.Operand.tmp 18), type := 0, pos := "lru.go:52", after := #[{ on := 0, ground := Go.Ground.data }], guard := none }) (v := ?_) rfl (by kernel_rfl) (by kernel_rfl) (by kernel_rfl) (fun _ _ _ h => h) (Or.inl ⟨by rfl, ?_⟩) (by assumption) ?_
    (rotate_left; focus (intro wS hSw; have s0 := (hSw.2 0 _ rfl).1; have s1 := (hSw.2 1 _ rfl).1; clear hSw; go_simp; (try rw [if_neg (by omega)]); try with_reducible rfl))
    (try simp only [Act.put, List.setIfInBounds_toArray, List.set_cons_zero, List.set_cons_succ])
    refine wpAnyH_take (i := 2) (oi := { dst := some 20, op := Go.Op.fieldAddr 48 (Go.Operand.tmp 19) 0, type := 0, pos := "lru.go:52", after := #[{ on := 1, ground := Go.Ground.data }], guard := none }) (v := ?_) rfl (by kernel_rfl) (by kernel_rfl) (by kernel_rfl) (fun _ _ _ h => h) (Or.inl ⟨by rfl, ?_⟩) (by assumption) ?_
    (rotate_left; focus (intro wS hSw; have s0 := (hSw.2 0 _ rfl).1; have s1 := (hSw.2 1 _ rfl).1; clear hSw; go_simp; (try rw [if_neg (by omega)]); try with_reducible rfl))
    (try simp only [Act.put, List.setIfInBounds_toArray, List.set_cons_zero, List.set_cons_succ])
    refine wpAnyH_take (i := 3) (oi := { dst := some 21, op := Go.Op.fieldAddr 46 (Go.Operand.tmp 20) 0, type := 0, pos := "lru.go:52", after := #[{ on := 2, ground := Go.Ground.data }], guard := none }) (v := ?_) rfl (by kernel_rfl) (by kernel_rfl) (by kernel_rfl) (fun _ _ _ h => h) (Or.inl ⟨by rfl, ?_⟩) (by assumption) ?_
    (rotate_left; focus (intro wS hSw; have s0 := (hSw.2 0 _ rfl).1; have s1 := (hSw.2 1 _ rfl).1; clear hSw; go_simp; (try rw [if_neg (by omega)]); try with_reducible rfl))
    (try simp only [Act.put, List.setIfInBounds_toArray, List.set_cons_zero, List.set_cons_succ])
    refine wpAnyH_take (i := 4) (oi := { dst := some 22, op := Go.Op.load 44 (Go.Operand.tmp 21), type := 44, pos := "lru.go:52", after := #[{ on := 3, ground := Go.Ground.data }], guard := none }) (v := ?_) rfl (by kernel_rfl) (by kernel_rfl) (by kernel_rfl) (fun _ _ _ h => h) (Or.inl ⟨by rfl, ?_⟩) (by assumption) ?_
    (rotate_left; focus (intro wS hSw; have s0 := (hSw.2 0 _ rfl).1; have s1 := (hSw.2 1 _ rfl).1; clear hSw; go_simp; (try rw [if_neg (by omega)]); try with_reducible rfl))
    (try simp only [Act.put, List.setIfInBounds_toArray, List.set_cons_zero, List.set_cons_succ])
    refine wpAnyH_take (i := 5) (oi := { dst := some 23, op := Go.Op.call { callee := Go.Callee.builtin Go.Builtin.len, args := #[Go.Operand.tmp 22], argTypes := #[44] }, type := 3, pos := "lru.go:52", after := #[{ on := 4, ground := Go.Ground.data }], guard := none }) (v := ?_) rfl (by kernel_rfl) (by kernel_rfl) (by kernel_rfl) (fun _ _ _ h => h) (Or.inl ⟨by rfl, ?_⟩) (by assumption) ?_
    (rotate_left; focus (intro wS hSw; have s0 := (hSw.2 0 _ rfl).1; have s1 := (hSw.2 1 _ rfl).1; clear hSw; go_simp; (try rw [if_neg (by omega)]); try with_reducible rfl))
    (try simp only [Act.put, List.setIfInBounds_toArray, List.set_cons_zero, List.set_cons_succ])
    refine wpAnyH_take (i := 6) (oi := { dst := some 24, op := Go.Op.move (Go.Operand.tmp 0), type := 24, pos := "lru.go:52", after := #[], guard := none }) (v := ?_) rfl (by kernel_rfl) (by kernel_rfl) (by kernel_rfl) (fun _ _ _ h => h) (Or.inl ⟨by rfl, ?_⟩) (by assumption) ?_
    (rotate_left; focus (intro wS hSw; have s0 := (hSw.2 0 _ rfl).1; have s1 := (hSw.2 1 _ rfl).1; clear hSw; go_simp; (try rw [if_neg (by omega)]); try with_reducible rfl))
    (try simp only [Act.put, List.setIfInBounds_toArray, List.set_cons_zero, List.set_cons_succ])
    refine wpAnyH_take (i := 7) (oi := { dst := some 25, op := Go.Op.nilCheck (Go.Operand.tmp 24), type := 0, pos := "lru.go:52", after := #[{ on := 6, ground := Go.Ground.data }], guard := none }) (v := ?_) rfl (by kernel_rfl) (by kernel_rfl) (by kernel_rfl) (fun _ _ _ h => h) (Or.inl ⟨by rfl, ?_⟩) (by assumption) ?_
    (rotate_left; focus (intro wS hSw; have s0 := (hSw.2 0 _ rfl).1; have s1 := (hSw.2 1 _ rfl).1; clear hSw; go_simp; (try rw [if_neg (by omega)]); try with_reducible rfl))
    (try simp only [Act.put, List.setIfInBounds_toArray, List.set_cons_zero, List.set_cons_succ])
    refine wpAnyH_take (i := 8) (oi := { dst := some 26, op := Go.Op.fieldAddr 48 (Go.Operand.tmp 25) 1, type := 0, pos := "lru.go:52", after := #[{ on := 7, ground := Go.Ground.data }], guard := none }) (v := ?_) rfl (by kernel_rfl) (by kernel_rfl) (by kernel_rfl) (fun _ _ _ h => h) (Or.inl ⟨by rfl, ?_⟩) (by assumption) ?_
    (rotate_left; focus (intro wS hSw; have s0 := (hSw.2 0 _ rfl).1; have s1 := (hSw.2 1 _ rfl).1; clear hSw; go_simp; (try rw [if_neg (by omega)]); try with_reducible rfl))
    (try simp only [Act.put, List.setIfInBounds_toArray, List.set_cons_zero, List.set_cons_succ])
    refine wpAnyH_take (i := 9) (oi := { dst := some 27, op := Go.Op.load 3 (Go.Operand.tmp 26), type := 3, pos := "lru.go:52", after := #[{ on := 8, ground := Go.Ground.data }], guard := none }) (v := ?_) rfl (by kernel_rfl) (by kernel_rfl) (by kernel_rfl) (fun _ _ _ h => h) (Or.inl ⟨by rfl, ?_⟩) (by assumption) ?_
    (rotate_left; focus (intro wS hSw; have s0 := (hSw.2 0 _ rfl).1; have s1 := (hSw.2 1 _ rfl).1; clear hSw; go_simp; (try rw [if_neg (by omega)]); try with_reducible rfl))
    (try simp only [Act.put, List.setIfInBounds_toArray, List.set_cons_zero, List.set_cons_succ])
    refine wpAnyH_take (i := 10) (oi := { dst := some 28, op := Go.Op.binOp Go.BinOp.gtr 3 (Go.Operand.tmp 23) (Go.Operand.tmp 27) 3, type := 4, pos := "lru.go:52", after := #[{ on := 5, ground := Go.Ground.data }, { on := 9, ground := Go.Ground.data }], guard := none }) (v := ?_) rfl (by kernel_rfl) (by kernel_rfl) (by kernel_rfl) (fun _ _ _ h => h) (Or.inl ⟨by rfl, ?_⟩) (by assumption) ?_
    (rotate_left; focus (intro wS hSw; have s0 := (hSw.2 0 _ rfl).1; have s1 := (hSw.2 1 _ rfl).1; clear hSw; go_simp; (try rw [if_neg (by omega)]); try with_reducible rfl))
    (try simp only [Act.put, List.setIfInBounds_toArray, List.set_cons_zero, List.set_cons_succ])
    refine wpAnyH_done (by kernel_rfl) ?_ _
    go_wp2_with fail
    have s1 : w3.drew.drew.cell? ⟨p, 1, none⟩ = some (.int .i64 (room : Int)) := (H4.out.1.2 1 _ rfl).1
    refine wp_region_still_tail 7 (by kernel_rfl) (by kernel_rfl) ?_
    simp only [List.take_succ_cons, List.take_zero, List.drop_succ_cons, List.drop_zero]
    change wpStill _ _ (w3.drew.drew) _ _ _
    repeat still_step
    refine wpStill_nil ?_
    change wpList _ _ _ _ _ (w3.drew.drew)
    go_wp2_with fail
    have hC : Cs w3.drew.drew p B (.slice a3 (D.length + 1) cap3) ((k, x) :: D) (room : Int) := H4.out
    refine (out_any w3.drew.drew hC (k := room) (n1 := D.length) HLT.out rfl (by simp only [List.length_cons]; omega)).mono ?_
    rintro e w5 ⟨rfl, v5, h1, h2, h3⟩
    have H7 := Lib.hid h1
    have H8 : Hid (Kp (fun j => j = p ∨ v.ownBlock = some j) w w5) := Lib.hid ⟨h2.os.trans H5.out.os, h2.tape.trans H5.out.tape, h2.output.trans H5.out.output, Nat.le_trans H5.out.size h2.size, fun i hi hn => (h2.block i (Nat.lt_of_lt_of_le hi H5.out.size) (fun e => by
      rcases e with e | e
      · exact hn (Or.inl e)
      · rcases H6.out i e with e | e
        · exact hn (Or.inr e)
        · omega)).trans (H5.out.block i hi hn)⟩
    have H9 : Hid (∀ g, v5.ownBlock = some g → v.ownBlock = some g ∨ w.heap.size ≤ g) := Lib.hid (fun g hg => H6.out g (by rw [h3] at hg; exact hg))
    clear h1 h2 h3 hC
    go_wp2
    go_end0
    rw [HP2.out]
    exact ⟨rfl, _, H7.out, H8.out, H9.out⟩
  · have d1 : decide ((room : Int) < (D.length : Int) + 1) = false := decide_eq_false (by omega)
    have HP2 : Hid (putI ms k x room = (k, x) :: D) := Lib.hid (by rw [HP.out, if_neg hlt])
    clear hlt
    go_wp2_with fail
    refine wp_region_held_drew (S := fun w' => Bk p [.slice a3 (D.length + 1) cap3, .int .i64 (room : Int)] w') (by kernel_rfl) (by (exact hP0)) (fun hHeld => ?_)
    refine wpAnyH_take (i := 0) (oi := { dst := some 18, op := Go.Op.move (Go.Operand.tmp 0), type := 24, pos := "lru.go:52", after := #[], guard := none }) (v := ?_) rfl (by kernel_rfl) (by kernel_rfl) (by kernel_rfl) (fun _ _ _ h => h) (Or.inl ⟨by rfl, ?_⟩) (by assumption) ?_
    (rotate_left; focus (intro wS hSw; have s0 := (hSw.2 0 _ rfl).1; have s1 := (hSw.2 1 _ rfl).1; clear hSw; go_simp; (try rw [if_neg (by omega)]); try with_reducible rfl))
    (try simp only [Act.put, List.setIfInBounds_toArray, List.set_cons_zero, List.set_cons_succ])
    refine wpAnyH_take (i := 1) (oi := { dst := some 19, op := Go.Op.nilCheck (Go.Operand.tmp 18), type := 0, pos := "lru.go:52", after := #[{ on := 0, ground := Go.Ground.data }], guard := none }) (v := ?_) rfl (by kernel_rfl) (by kernel_rfl) (by kernel_rfl) (fun _ _ _ h => h) (Or.inl ⟨by rfl, ?_⟩) (by assumption) ?_
    (rotate_left; focus (intro wS hSw; have s0 := (hSw.2 0 _ rfl).1; have s1 := (hSw.2 1 _ rfl).1; clear hSw; go_simp; (try rw [if_neg (by omega)]); try with_reducible rfl))
    (try simp only [Act.put, List.setIfInBounds_toArray, List.set_cons_zero, List.set_cons_succ])
    refine wpAnyH_take (i := 2) (oi := { dst := some 20, op := Go.Op.fieldAddr 48 (Go.Operand.tmp 19) 0, type := 0, pos := "lru.go:52", after := #[{ on := 1, ground := Go.Ground.data }], guard := none }) (v := ?_) rfl (by kernel_rfl) (by kernel_rfl) (by kernel_rfl) (fun _ _ _ h => h) (Or.inl ⟨by rfl, ?_⟩) (by assumption) ?_
    (rotate_left; focus (intro wS hSw; have s0 := (hSw.2 0 _ rfl).1; have s1 := (hSw.2 1 _ rfl).1; clear hSw; go_simp; (try rw [if_neg (by omega)]); try with_reducible rfl))
    (try simp only [Act.put, List.setIfInBounds_toArray, List.set_cons_zero, List.set_cons_succ])
    refine wpAnyH_take (i := 3) (oi := { dst := some 21, op := Go.Op.fieldAddr 46 (Go.Operand.tmp 20) 0, type := 0, pos := "lru.go:52", after := #[{ on := 2, ground := Go.Ground.data }], guard := none }) (v := ?_) rfl (by kernel_rfl) (by kernel_rfl) (by kernel_rfl) (fun _ _ _ h => h) (Or.inl ⟨by rfl, ?_⟩) (by assumption) ?_
    (rotate_left; focus (intro wS hSw; have s0 := (hSw.2 0 _ rfl).1; have s1 := (hSw.2 1 _ rfl).1; clear hSw; go_simp; (try rw [if_neg (by omega)]); try with_reducible rfl))
    (try simp only [Act.put, List.setIfInBounds_toArray, List.set_cons_zero, List.set_cons_succ])
    refine wpAnyH_take (i := 4) (oi := { dst := some 22, op := Go.Op.load 44 (Go.Operand.tmp 21), type := 44, pos := "lru.go:52", after := #[{ on := 3, ground := Go.Ground.data }], guard := none }) (v := ?_) rfl (by kernel_rfl) (by kernel_rfl) (by kernel_rfl) (fun _ _ _ h => h) (Or.inl ⟨by rfl, ?_⟩) (by assumption) ?_
    (rotate_left; focus (intro wS hSw; have s0 := (hSw.2 0 _ rfl).1; have s1 := (hSw.2 1 _ rfl).1; clear hSw; go_simp; (try rw [if_neg (by omega)]); try with_reducible rfl))
    (try simp only [Act.put, List.setIfInBounds_toArray, List.set_cons_zero, List.set_cons_succ])
    refine wpAnyH_take (i := 5) (oi := { dst := some 23, op := Go.Op.call { callee := Go.Callee.builtin Go.Builtin.len, args := #[Go.Operand.tmp 22], argTypes := #[44] }, type := 3, pos := "lru.go:52", after := #[{ on := 4, ground := Go.Ground.data }], guard := none }) (v := ?_) rfl (by kernel_rfl) (by kernel_rfl) (by kernel_rfl) (fun _ _ _ h => h) (Or.inl ⟨by rfl, ?_⟩) (by assumption) ?_
    (rotate_left; focus (intro wS hSw; have s0 := (hSw.2 0 _ rfl).1; have s1 := (hSw.2 1 _ rfl).1; clear hSw; go_simp; (try rw [if_neg (by omega)]); try with_reducible rfl))
    (try simp only [Act.put, List.setIfInBounds_toArray, List.set_cons_zero, List.set_cons_succ])
    refine wpAnyH_take (i := 6) (oi := { dst := some 24, op := Go.Op.move (Go.Operand.tmp 0), type := 24, pos := "lru.go:52", after := #[], guard := none }) (v := ?_) rfl (by kernel_rfl) (by kernel_rfl) (by kernel_rfl) (fun _ _ _ h => h) (Or.inl ⟨by rfl, ?_⟩) (by assumption) ?_
    (rotate_left; focus (intro wS hSw; have s0 := (hSw.2 0 _ rfl).1; have s1 := (hSw.2 1 _ rfl).1; clear hSw; go_simp; (try rw [if_neg (by omega)]); try with_reducible rfl))
    (try simp only [Act.put, List.setIfInBounds_toArray, List.set_cons_zero, List.set_cons_succ])
    refine wpAnyH_take (i := 7) (oi := { dst := some 25, op := Go.Op.nilCheck (Go.Operand.tmp 24), type := 0, pos := "lru.go:52", after := #[{ on := 6, ground := Go.Ground.data }], guard := none }) (v := ?_) rfl (by kernel_rfl) (by kernel_rfl) (by kernel_rfl) (fun _ _ _ h => h) (Or.inl ⟨by rfl, ?_⟩) (by assumption) ?_
    (rotate_left; focus (intro wS hSw; have s0 := (hSw.2 0 _ rfl).1; have s1 := (hSw.2 1 _ rfl).1; clear hSw; go_simp; (try rw [if_neg (by omega)]); try with_reducible rfl))
    (try simp only [Act.put, List.setIfInBounds_toArray, List.set_cons_zero, List.set_cons_succ])
    refine wpAnyH_take (i := 8) (oi := { dst := some 26, op := Go.Op.fieldAddr 48 (Go.Operand.tmp 25) 1, type := 0, pos := "lru.go:52", after := #[{ on := 7, ground := Go.Ground.data }], guard := none }) (v := ?_) rfl (by kernel_rfl) (by kernel_rfl) (by kernel_rfl) (fun _ _ _ h => h) (Or.inl ⟨by rfl, ?_⟩) (by assumption) ?_
    (rotate_left; focus (intro wS hSw; have s0 := (hSw.2 0 _ rfl).1; have s1 := (hSw.2 1 _ rfl).1; clear hSw; go_simp; (try rw [if_neg (by omega)]); try with_reducible rfl))
    (try simp only [Act.put, List.setIfInBounds_toArray, List.set_cons_zero, List.set_cons_succ])
    refine wpAnyH_take (i := 9) (oi := { dst := some 27, op := Go.Op.load 3 (Go.Operand.tmp 26), type := 3, pos := "lru.go:52", after := #[{ on := 8, ground := Go.Ground.data }], guard := none }) (v := ?_) rfl (by kernel_rfl) (by kernel_rfl) (by kernel_rfl) (fun _ _ _ h => h) (Or.inl ⟨by rfl, ?_⟩) (by assumption) ?_
    (rotate_left; focus (intro wS hSw; have s0 := (hSw.2 0 _ rfl).1; have s1 := (hSw.2 1 _ rfl).1; clear hSw; go_simp; (try rw [if_neg (by omega)]); try with_reducible rfl))
    (try simp only [Act.put, List.setIfInBounds_toArray, List.set_cons_zero, List.set_cons_succ])
    refine wpAnyH_take (i := 10) (oi := { dst := some 28, op := Go.Op.binOp Go.BinOp.gtr 3 (Go.Operand.tmp 23) (Go.Operand.tmp 27) 3, type := 4, pos := "lru.go:52", after := #[{ on := 5, ground := Go.Ground.data }, { on := 9, ground := Go.Ground.data }], guard := none }) (v := ?_) rfl (by kernel_rfl) (by kernel_rfl) (by kernel_rfl) (fun _ _ _ h => h) (Or.inl ⟨by rfl, ?_⟩) (by assumption) ?_
    (rotate_left; focus (intro wS hSw; have s0 := (hSw.2 0 _ rfl).1; have s1 := (hSw.2 1 _ rfl).1; clear hSw; go_simp; (try rw [if_neg (by omega)]); try with_reducible rfl))
    (try simp only [Act.put, List.setIfInBounds_toArray, List.set_cons_zero, List.set_cons_succ])
    refine wpAnyH_done (by kernel_rfl) ?_ _
    go_wp2
    go_end0
    rw [HP2.out]
    exact ⟨rfl, _, H4.out.drew, H5.out.drew, H6.out⟩
end Go.Proofs.Ythahddaihkajbaa

