/-
  The contracts of lease.Take, Renew, Who and Give.
-/
import Derived.Test.YtdneljlgnfondaaB
set_option linter.unusedVariables false
set_option linter.unusedSimpArgs false
namespace Go.Proofs.Ytdneljlgnfondaa
open Go.RowKit
def live (h : Holder) (now : Int) : Bool := decide (0 < h.1.size) && decide (now < h.2.1)
theorem held_any {p b n : Nat} {f : ByteArray → Holder} {last : Int} (s : ByteArray) (h0 : Holder) (now : Int) (w : World) (h : Ls w p b n f last) (hs : s.size ≤ maxLen) (hf : f s = h0) (hz : h0 = z0 ∨ 0 < h0.1.size) :
    Calls Try.prog 11 #[.pointer (some ⟨p, 0, none⟩), .string s, .int .i64 now] w fun e w' => e = .returned (.tuple #[.agg #[.string h0.1, .int .i64 h0.2.1, .int .i64 h0.2.2], .bool (live h0 now)]) ∧ Below w.heap.size w w' := by
  rcases hz with rfl | hw
  · exact held_zero s now w h hs hf
  · obtain ⟨who, e0, fe⟩ := h0
    have : live (who, e0, fe) now = decide (now < e0) := by simp [live, decide_eq_true hw]
    rw [this]
    exact held_live s who e0 fe now w h hs hf hw
theorem take_nil (s t : ByteArray) (a c : Int) (w : World) : Calls Try.prog 4 #[.pointer none, .string s, .string t, .int .i64 a, .int .i64 c] w fun e w' => e = .returned (.tuple #[.int .i64 0, .int .i64 12]) ∧ w' = w := by
  go_enter Try.func4, Try.ntmps4
  go_wp2_with fail
  go_ret2
  exact ⟨rfl, rfl⟩
theorem who_nil (s : ByteArray) (a : Int) (w : World) : Calls Try.prog 5 #[.pointer none, .string s, .int .i64 a] w fun e w' => e = .returned (.tuple #[.string ⟨#[]⟩, .int .i64 0]) ∧ w' = w := by
  go_enter Try.func5, Try.ntmps5
  go_wp2_with fail
  go_ret2
  exact ⟨rfl, rfl⟩
theorem renew_nil (s : ByteArray) (a c d : Int) (w : World) : Calls Try.prog 6 #[.pointer none, .string s, .int .i64 a, .int .i64 c, .int .i64 d] w fun e w' => e = .returned (.int .i64 12) ∧ w' = w := by
  go_enter Try.func6, Try.ntmps6
  go_wp2_with fail
  go_ret
  exact ⟨rfl, rfl⟩
theorem give_nil (s : ByteArray) (a : Int) (w : World) : Calls Try.prog 7 #[.pointer none, .string s, .int .i64 a] w fun e w' => e = .returned (.bool false) ∧ w' = w := by
  go_enter Try.func7, Try.ntmps7
  go_wp2_with fail
  go_ret
  exact ⟨rfl, rfl⟩
theorem take_noname {p b n : Nat} {f : ByteArray → Holder} {last : Int} (t : ByteArray) (a c : Int) (w : World) (h : Ls w p b n f last) : Calls Try.prog 4 #[.pointer (some ⟨p, 0, none⟩), .string ⟨#[]⟩, .string t, .int .i64 a, .int .i64 c] w fun e w' => e = .returned (.tuple #[.int .i64 0, .int .i64 14]) ∧ w' = w := by
  go_enter Try.func4, Try.ntmps4
  go_wp2_with fail
  refine (named_no _).mono ?_
  rintro e w1 ⟨rfl, rfl⟩
  go_wp2_with fail
  go_ret2
  exact ⟨rfl, rfl⟩
theorem take_held {p b n : Nat} {f : ByteArray → Holder} {last : Int} (s t : ByteArray) (h0 : Holder) (now long : Int) (w : World) (h : Ls w p b n f last) (hs : 0 < s.size ∧ s.size ≤ 64) (ht : 0 < t.size ∧ t.size ≤ 64) (hf : f s = h0) (hz : h0 = z0 ∨ 0 < h0.1.size)
    (b0 : 0 ≤ now) (b1 : now ≤ 1099511627776) (b2 : 1 ≤ long) (b3 : long ≤ 1099511627776 - now) (hl : live h0 now = true) :
    Calls Try.prog 4 #[.pointer (some ⟨p, 0, none⟩), .string s, .string t, .int .i64 now, .int .i64 long] w fun e w' => e = .returned (.tuple #[.int .i64 0, .int .i64 8]) ∧ Ls w' p b n f last ∧ Below w.heap.size w w' := by
  have hsm : s.size ≤ maxLen := by have := hs.2; unfold maxLen; omega
  go_enter Try.func4, Try.ntmps4
  go_wp2_with fail
  refine (named_yes s _ hs.1 hs.2).mono ?_
  rintro e w1 ⟨rfl, rfl⟩
  go_wp2_with fail
  refine (named_yes t _ ht.1 ht.2).mono ?_
  rintro e w1 ⟨rfl, rfl⟩
  go_wp2_with fail
  refine (bad_no now long _ b0 b1 b2 b3).mono ?_
  rintro e w1 ⟨rfl, rfl⟩
  go_wp2_with fail
  refine (held_any s h0 now _ h hsm hf hz).mono ?_
  rintro e w1 ⟨rfl, hb⟩
  rw [hl]
  go_wp2_with fail
  go_ret2
  exact ⟨rfl, (h.keep hb).keep (below_new _ _), below_step hb (Nat.le_refl _) (below_new _ _)⟩
set_option maxHeartbeats 4000000 in
theorem take_free {p b n : Nat} {f : ByteArray → Holder} {last : Int} (s t : ByteArray) (h0 : Holder) (now long : Int) (w : World) (h : Ls w p b n f last) (hs : 0 < s.size ∧ s.size ≤ 64) (ht : 0 < t.size ∧ t.size ≤ 64) (hf : f s = h0) (hz : h0 = z0 ∨ 0 < h0.1.size) (hn : n < maxLen)
    (b0 : 0 ≤ now) (b1 : now ≤ 1099511627776) (b2 : 1 ≤ long) (b3 : long ≤ 1099511627776 - now) (hl : live h0 now = false) (hla : 0 ≤ last ∧ last ≤ 1099511627776) :
    Calls Try.prog 4 #[.pointer (some ⟨p, 0, none⟩), .string s, .string t, .int .i64 now, .int .i64 long] w fun e w' => e = .returned (.tuple #[.int .i64 (last + 1), .int .i64 0]) ∧ Ls w' p b (n + 1) (setf f s (t, now + long, last + 1)) (last + 1) ∧ Kp (fun i => i = p ∨ i = b) w w' := by
  have hsm : s.size ≤ maxLen := by have := hs.2; unfold maxLen; omega
  have w1 : wrap64 (last + 1) = last + 1 := wrap64_id (by omega) (by omega)
  have w2 : wrap64 (now + long) = now + long := wrap64_id (by omega) (by omega)
  have w3 : IntKind.i64.wrap (now + long) = now + long := by rw [IntKind.wrap_i64]; omega
  go_enter Try.func4, Try.ntmps4
  go_wp2_with fail
  refine (named_yes s _ hs.1 hs.2).mono ?_
  rintro e w1 ⟨rfl, rfl⟩
  go_wp2_with fail
  refine (named_yes t _ ht.1 ht.2).mono ?_
  rintro e w1 ⟨rfl, rfl⟩
  go_wp2_with fail
  refine (bad_no now long _ b0 b1 b2 b3).mono ?_
  rintro e w1 ⟨rfl, rfl⟩
  go_wp2_with fail
  refine (held_any s h0 now _ h hsm hf hz).mono ?_
  rintro e w2 ⟨rfl, hb⟩
  rw [hl]
  have hL : Ls (w2.alloc (.cells #[.string h0.1, .int .i64 h0.2.1, .int .i64 h0.2.2] 37)) p b n f last := (h.keep hb).keep (below_new _ _)
  have hB := Lib.hid (below_step hb (Nat.le_refl _) (below_new _ (.cells #[.string h0.1, .int .i64 h0.2.1, .int .i64 h0.2.2] 37)))
  have hC1 : (w2.alloc (.cells #[.string h0.1, .int .i64 h0.2.1, .int .i64 h0.2.2] 37)).cell? ⟨p, 1, none⟩ = some (.int .i64 last) := (hL.1.2 1 _ rfl).1
  have hF1 : (w2.alloc (.cells #[.string h0.1, .int .i64 h0.2.1, .int .i64 h0.2.2] 37)).frozen? ⟨p, 1, none⟩ = false := (hL.1.2 1 _ rfl).2
  have HL := Lib.hid hL
  clear hL hb
  go_wp2_with fail
  clear hC1 hF1
  generalize (w2.alloc (.cells #[.string h0.1, .int .i64 h0.2.1, .int .i64 h0.2.2] 37)) = W2 at HL hB ⊢
  have hL3 : Ls (W2.setCell ⟨p, 1, none⟩ (.int .i64 (last + 1))) p b n f (last + 1) :=
    ⟨HL.out.1.set 1 (by simp) _, HL.out.2.1.kp (S := fun i => i = p) (Kp.set (Kp.refl _ _) p 1 _ rfl) (fun e => HL.out.2.2 e.symm), HL.out.2.2⟩
  have hK3 : Hid (Kp (fun i => i = p ∨ i = b) w1 (W2.setCell ⟨p, 1, none⟩ (.int .i64 (last + 1)))) := Lib.hid ((Kp.new hB.out).set p 1 _ (Or.inl rfl))
  generalize W2.setCell ⟨p, 1, none⟩ (.int .i64 (last + 1)) = W3 at hL3 hK3 ⊢
  obtain ⟨w4, hu, hm, hk⟩ := hL3.2.1.drew.put hn hsm (t, now + long, last + 1)
  have hu2 : (Instr.mapUpdate 40 (.map (some b)) (.string s) (.agg #[.string t, .int .i64 (now + long), .int .i64 (last + 1)])).run Try.prog W3.drew = .ok () w4 := hu
  have hP0 : Bk p [.map (some b), .int .i64 (last + 1)] W3.drew := hL3.1.drew
  have hP1 : Bk p [.map (some b), .int .i64 (last + 1)] w4 := hL3.1.drew.kp hk hL3.2.2
  have HM := Lib.hid hm; have HK := Lib.hid (hK3.out.drew.trans (hk.mono (fun _ _ e => Or.inr e)))
  clear hu hm hk
  refine wp_region_held_drew (S := fun w' => Bk p [.map (some b), .int .i64 (last + 1)] w') (by kernel_rfl) (by (first | exact hP0 | exact hP1)) (fun hHeld => ?_)
  refine wpAnyH_take (i := 0) (oi := { dst := some 45, op := Go.Op.move (Go.Operand.tmp 0), type := 24, pos := "lease.go:50", after := #[], guard := none }) (v := ?_) rfl (by kernel_rfl) (by kernel_rfl) (by kernel_rfl) (fun _ _ _ h => h) (Or.inl ⟨by rfl, ?_⟩) (by assumption) ?_
  (rotate_left; focus (intro wS hSw; have s0 := (hSw.2 0 _ rfl).1; have s1 := (hSw.2 1 _ rfl).1; clear hSw; go_simp; (try rw [if_neg (by omega)]); try with_reducible rfl))
  (try simp only [Act.put, List.setIfInBounds_toArray, List.set_cons_zero, List.set_cons_succ])
  refine wpAnyH_take (i := 1) (oi := { dst := some 46, op := Go.Op.nilCheck (Go.Operand.tmp 45), type := 0, pos := "lease.go:50", after := #[{ on := 0, ground := Go.Ground.data }], guard := none }) (v := ?_) rfl (by kernel_rfl) (by kernel_rfl) (by kernel_rfl) (fun _ _ _ h => h) (Or.inl ⟨by rfl, ?_⟩) (by assumption) ?_
  (rotate_left; focus (intro wS hSw; have s0 := (hSw.2 0 _ rfl).1; have s1 := (hSw.2 1 _ rfl).1; clear hSw; go_simp; (try rw [if_neg (by omega)]); try with_reducible rfl))
  (try simp only [Act.put, List.setIfInBounds_toArray, List.set_cons_zero, List.set_cons_succ])
  refine wpAnyH_take (i := 2) (oi := { dst := some 47, op := Go.Op.fieldAddr 42 (Go.Operand.tmp 46) 0, type := 0, pos := "lease.go:50", after := #[{ on := 1, ground := Go.Ground.data }], guard := none }) (v := ?_) rfl (by kernel_rfl) (by kernel_rfl) (by kernel_rfl) (fun _ _ _ h => h) (Or.inl ⟨by rfl, ?_⟩) (by assumption) ?_
  (rotate_left; focus (intro wS hSw; have s0 := (hSw.2 0 _ rfl).1; have s1 := (hSw.2 1 _ rfl).1; clear hSw; go_simp; (try rw [if_neg (by omega)]); try with_reducible rfl))
  (try simp only [Act.put, List.setIfInBounds_toArray, List.set_cons_zero, List.set_cons_succ])
  refine wpAnyH_take (i := 3) (oi := { dst := some 48, op := Go.Op.load 40 (Go.Operand.tmp 47), type := 40, pos := "lease.go:50", after := #[{ on := 2, ground := Go.Ground.data }], guard := none }) (v := ?_) rfl (by kernel_rfl) (by kernel_rfl) (by kernel_rfl) (fun _ _ _ h => h) (Or.inl ⟨by rfl, ?_⟩) (by assumption) ?_
  (rotate_left; focus (intro wS hSw; have s0 := (hSw.2 0 _ rfl).1; have s1 := (hSw.2 1 _ rfl).1; clear hSw; go_simp; (try rw [if_neg (by omega)]); try with_reducible rfl))
  (try simp only [Act.put, List.setIfInBounds_toArray, List.set_cons_zero, List.set_cons_succ])
  refine wpAnyH_take (i := 4) (oi := { dst := some 49, op := Go.Op.move (Go.Operand.tmp 1), type := 9, pos := "lease.go:50", after := #[], guard := none }) (v := ?_) rfl (by kernel_rfl) (by kernel_rfl) (by kernel_rfl) (fun _ _ _ h => h) (Or.inl ⟨by rfl, ?_⟩) (by assumption) ?_
  (rotate_left; focus (intro wS hSw; have s0 := (hSw.2 0 _ rfl).1; have s1 := (hSw.2 1 _ rfl).1; clear hSw; go_simp; (try rw [if_neg (by omega)]); try with_reducible rfl))
  (try simp only [Act.put, List.setIfInBounds_toArray, List.set_cons_zero, List.set_cons_succ])
  refine wpAnyH_take (i := 5) (oi := { dst := some 50, op := Go.Op.move (Go.Operand.tmp 2), type := 9, pos := "lease.go:50", after := #[], guard := none }) (v := ?_) rfl (by kernel_rfl) (by kernel_rfl) (by kernel_rfl) (fun _ _ _ h => h) (Or.inl ⟨by rfl, ?_⟩) (by assumption) ?_
  (rotate_left; focus (intro wS hSw; have s0 := (hSw.2 0 _ rfl).1; have s1 := (hSw.2 1 _ rfl).1; clear hSw; go_simp; (try rw [if_neg (by omega)]); try with_reducible rfl))
  (try simp only [Act.put, List.setIfInBounds_toArray, List.set_cons_zero, List.set_cons_succ])
  refine wpAnyH_take (i := 6) (oi := { dst := some 51, op := Go.Op.move (Go.Operand.tmp 3), type := 3, pos := "lease.go:50", after := #[], guard := none }) (v := ?_) rfl (by kernel_rfl) (by kernel_rfl) (by kernel_rfl) (fun _ _ _ h => h) (Or.inl ⟨by rfl, ?_⟩) (by assumption) ?_
  (rotate_left; focus (intro wS hSw; have s0 := (hSw.2 0 _ rfl).1; have s1 := (hSw.2 1 _ rfl).1; clear hSw; go_simp; (try rw [if_neg (by omega)]); try with_reducible rfl))
  (try simp only [Act.put, List.setIfInBounds_toArray, List.set_cons_zero, List.set_cons_succ])
  refine wpAnyH_take (i := 7) (oi := { dst := some 52, op := Go.Op.move (Go.Operand.tmp 4), type := 3, pos := "lease.go:50", after := #[], guard := none }) (v := ?_) rfl (by kernel_rfl) (by kernel_rfl) (by kernel_rfl) (fun _ _ _ h => h) (Or.inl ⟨by rfl, ?_⟩) (by assumption) ?_
  (rotate_left; focus (intro wS hSw; have s0 := (hSw.2 0 _ rfl).1; have s1 := (hSw.2 1 _ rfl).1; clear hSw; go_simp; (try rw [if_neg (by omega)]); try with_reducible rfl))
  (try simp only [Act.put, List.setIfInBounds_toArray, List.set_cons_zero, List.set_cons_succ])
  refine wpAnyH_take (i := 8) (oi := { dst := some 53, op := Go.Op.binOp Go.BinOp.add 3 (Go.Operand.tmp 51) (Go.Operand.tmp 52) 3, type := 3, pos := "lease.go:50", after := #[{ on := 6, ground := Go.Ground.data }, { on := 7, ground := Go.Ground.data }], guard := none }) (v := ?_) rfl (by kernel_rfl) (by kernel_rfl) (by kernel_rfl) (fun _ _ _ h => h) (Or.inl ⟨by rfl, ?_⟩) (by assumption) ?_
  (rotate_left; focus (intro wS hSw; have s0 := (hSw.2 0 _ rfl).1; have s1 := (hSw.2 1 _ rfl).1; clear hSw; go_simp; (try rw [if_neg (by omega)]); try with_reducible rfl))
  (try simp only [Act.put, List.setIfInBounds_toArray, List.set_cons_zero, List.set_cons_succ])
  refine wpAnyH_take (i := 9) (oi := { dst := some 54, op := Go.Op.move (Go.Operand.tmp 0), type := 24, pos := "lease.go:50", after := #[], guard := none }) (v := ?_) rfl (by kernel_rfl) (by kernel_rfl) (by kernel_rfl) (fun _ _ _ h => h) (Or.inl ⟨by rfl, ?_⟩) (by assumption) ?_
  (rotate_left; focus (intro wS hSw; have s0 := (hSw.2 0 _ rfl).1; have s1 := (hSw.2 1 _ rfl).1; clear hSw; go_simp; (try rw [if_neg (by omega)]); try with_reducible rfl))
  (try simp only [Act.put, List.setIfInBounds_toArray, List.set_cons_zero, List.set_cons_succ])
  refine wpAnyH_take (i := 10) (oi := { dst := some 55, op := Go.Op.nilCheck (Go.Operand.tmp 54), type := 0, pos := "lease.go:50", after := #[{ on := 9, ground := Go.Ground.data }], guard := none }) (v := ?_) rfl (by kernel_rfl) (by kernel_rfl) (by kernel_rfl) (fun _ _ _ h => h) (Or.inl ⟨by rfl, ?_⟩) (by assumption) ?_
  (rotate_left; focus (intro wS hSw; have s0 := (hSw.2 0 _ rfl).1; have s1 := (hSw.2 1 _ rfl).1; clear hSw; go_simp; (try rw [if_neg (by omega)]); try with_reducible rfl))
  (try simp only [Act.put, List.setIfInBounds_toArray, List.set_cons_zero, List.set_cons_succ])
  refine wpAnyH_take (i := 11) (oi := { dst := some 56, op := Go.Op.fieldAddr 42 (Go.Operand.tmp 55) 1, type := 0, pos := "lease.go:50", after := #[{ on := 10, ground := Go.Ground.data }], guard := none }) (v := ?_) rfl (by kernel_rfl) (by kernel_rfl) (by kernel_rfl) (fun _ _ _ h => h) (Or.inl ⟨by rfl, ?_⟩) (by assumption) ?_
  (rotate_left; focus (intro wS hSw; have s0 := (hSw.2 0 _ rfl).1; have s1 := (hSw.2 1 _ rfl).1; clear hSw; go_simp; (try rw [if_neg (by omega)]); try with_reducible rfl))
  (try simp only [Act.put, List.setIfInBounds_toArray, List.set_cons_zero, List.set_cons_succ])
  refine wpAnyH_take (i := 12) (oi := { dst := some 57, op := Go.Op.load 3 (Go.Operand.tmp 56), type := 3, pos := "lease.go:50", after := #[{ on := 11, ground := Go.Ground.data }], guard := none }) (v := ?_) rfl (by kernel_rfl) (by kernel_rfl) (by kernel_rfl) (fun _ _ _ h => h) (Or.inl ⟨by rfl, ?_⟩) (by assumption) ?_
  (rotate_left; focus (intro wS hSw; have s0 := (hSw.2 0 _ rfl).1; have s1 := (hSw.2 1 _ rfl).1; clear hSw; go_simp; (try rw [if_neg (by omega)]); try with_reducible rfl))
  (try simp only [Act.put, List.setIfInBounds_toArray, List.set_cons_zero, List.set_cons_succ])
  refine wpAnyH_take (i := 13) (oi := { dst := some 58, op := Go.Op.build 37 #[(0, Go.Operand.tmp 50), (1, Go.Operand.tmp 53), (2, Go.Operand.tmp 57)], type := 37, pos := "lease.go:50", after := #[{ on := 5, ground := Go.Ground.data }, { on := 8, ground := Go.Ground.data }, { on := 12, ground := Go.Ground.data }], guard := none }) (v := ?_) rfl (by kernel_rfl) (by kernel_rfl) (by kernel_rfl) (fun _ _ _ h => h) (Or.inl ⟨by rfl, ?_⟩) (by assumption) ?_
  (rotate_left; focus (intro wS hSw; have s0 := (hSw.2 0 _ rfl).1; have s1 := (hSw.2 1 _ rfl).1; clear hSw; go_simp; (try rw [if_neg (by omega)]); try with_reducible rfl))
  (try simp only [Act.put, List.setIfInBounds_toArray, List.set_cons_zero, List.set_cons_succ])
  refine wpAnyH_ready (rs := [14]) (by kernel_rfl) (by simp) ?_
  refine AllReadyH.cons (o := { dst := none, op := Go.Op.mapUpdate 40 (Go.Operand.tmp 48) (Go.Operand.tmp 49) (Go.Operand.tmp 58), type := 0, pos := "lease.go:50", after := #[{ on := 3, ground := Go.Ground.data }, { on := 4, ground := Go.Ground.data }, { on := 13, ground := Go.Ground.data }, { on := 0, ground := Go.Ground.phase }, { on := 1, ground := Go.Ground.phase }, { on := 2, ground := Go.Ground.phase }, { on := 3, ground := Go.Ground.phase }, { on := 4, ground := Go.Ground.phase }, { on := 5, ground := Go.Ground.phase }, { on := 6, ground := Go.Ground.phase }, { on := 7, ground := Go.Ground.phase }, { on := 8, ground := Go.Ground.phase }, { on := 9, ground := Go.Ground.phase }, { on := 10, ground := Go.Ground.phase }, { on := 11, ground := Go.Ground.phase }, { on := 12, ground := Go.Ground.phase }, { on := 13, ground := Go.Ground.phase }], guard := none }) rfl (fun K hK => ?_) AllReadyH.nil
  go_simp
  refine hK.out _ _ (by (first | exact hP0 | exact hP1)) (fun hHeld => ?_)
  clear hK K
  (try simp only [Act.put, List.setIfInBounds_toArray, List.set_cons_zero, List.set_cons_succ])
  refine wpAnyH_done (by kernel_rfl) ?_ _
  have c1 := (hP1.2 1 _ rfl).1
  go_wp2_with fail
  go_ret2
  exact ⟨rfl, ⟨hP1, HM.out, hL3.2.2⟩, HK.out⟩
end Go.Proofs.Ytdneljlgnfondaa

