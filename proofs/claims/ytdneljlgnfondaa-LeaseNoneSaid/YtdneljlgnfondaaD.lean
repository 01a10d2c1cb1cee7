/-
  The contracts of lease.Renew, Who and Give.
-/
import Derived.Test.YtdneljlgnfondaaC
set_option linter.unusedVariables false
set_option linter.unusedSimpArgs false
namespace Go.Proofs.Ytdneljlgnfondaa
open Go.RowKit
theorem renew_no {p b n : Nat} {f : ByteArray → Holder} {last : Int} (s : ByteArray) (h0 : Holder) (fence now long : Int) (w : World) (h : Ls w p b n f last) (hs : s.size ≤ maxLen) (hf : f s = h0) (hz : h0 = z0 ∨ 0 < h0.1.size)
    (b0 : 0 ≤ now) (b1 : now ≤ 1099511627776) (b2 : 1 ≤ long) (b3 : long ≤ 1099511627776 - now) (hl : live h0 now = true) (hne : h0.2.2 ≠ fence) :
    Calls Try.prog 6 #[.pointer (some ⟨p, 0, none⟩), .string s, .int .i64 fence, .int .i64 now, .int .i64 long] w fun e w' => e = .returned (.int .i64 7) ∧ Ls w' p b n f last ∧ Below w.heap.size w w' := by
  have d1 : (h0.2.2 == fence) = false := by simpa using hne
  go_enter Try.func6, Try.ntmps6
  go_wp2_with fail
  refine (bad_no now long _ b0 b1 b2 b3).mono ?_
  rintro e w1 ⟨rfl, rfl⟩
  go_wp2_with fail
  refine (held_any s h0 now _ h hs hf hz).mono ?_
  rintro e w1 ⟨rfl, hb⟩
  rw [hl]
  go_wp2_with fail
  go_ret
  exact ⟨rfl, (h.keep hb).keep (below_new _ _), below_step hb (Nat.le_refl _) (below_new _ _)⟩
set_option maxHeartbeats 4000000 in
theorem renew_yes {p b n : Nat} {f : ByteArray → Holder} {last : Int} (s who : ByteArray) (e0 fence now long : Int) (w : World) (h : Ls w p b n f last) (hs : s.size ≤ maxLen) (hf : f s = (who, e0, fence)) (hz : 0 < who.size) (hn : n < maxLen)
    (b0 : 0 ≤ now) (b1 : now ≤ 1099511627776) (b2 : 1 ≤ long) (b3 : long ≤ 1099511627776 - now) (hl : live (who, e0, fence) now = true) :
    Calls Try.prog 6 #[.pointer (some ⟨p, 0, none⟩), .string s, .int .i64 fence, .int .i64 now, .int .i64 long] w fun e w' => e = .returned (.int .i64 0) ∧ Ls w' p b (n + 1) (setf f s (who, now + long, fence)) last ∧ Kp (fun i => i = p ∨ i = b) w w' := by
  have w2 : wrap64 (now + long) = now + long := wrap64_id (by omega) (by omega)
  have w3 : IntKind.i64.wrap (now + long) = now + long := by rw [IntKind.wrap_i64]; omega
  go_enter Try.func6, Try.ntmps6
  go_wp2_with fail
  refine (bad_no now long _ b0 b1 b2 b3).mono ?_
  rintro e w1 ⟨rfl, rfl⟩
  go_wp2_with fail
  refine (held_any s (who, e0, fence) now _ h hs hf (Or.inr hz)).mono ?_
  rintro e w2 ⟨rfl, hb⟩
  rw [hl]
  dsimp only
  have hL3 : Ls (w2.alloc (.cells #[.string who, .int .i64 (now + long), .int .i64 fence] 37)) p b n f last := (h.keep hb).keep (below_new _ _)
  have hX3 : Bk w2.heap.size [.string who, .int .i64 (now + long), .int .i64 fence] (w2.alloc (.cells #[.string who, .int .i64 (now + long), .int .i64 fence] 37)) := Bk.new w2 37 #[.string who, .int .i64 (now + long), .int .i64 fence]
  have hK3 : Hid (Kp (fun i => i = p ∨ i = b) w1 (w2.alloc (.cells #[.string who, .int .i64 (now + long), .int .i64 fence] 37))) := Lib.hid (Kp.new (below_step hb (Nat.le_refl _) (below_new _ (.cells #[.string who, .int .i64 (now + long), .int .i64 fence] 37))))
  have hpx : p ≠ w2.heap.size ∧ b ≠ w2.heap.size := ⟨by have := (h.keep hb).1.1; omega, by have := (h.keep hb).2.1.lt; omega⟩
  have HPX := Lib.hid hpx
  have HL3 := Lib.hid hL3; have HX3 := Lib.hid hX3
  clear hb hpx hL3 hX3
  go_wp2_with fail
  generalize hA : w2.heap.size = A at HX3 HPX ⊢
  generalize (w2.alloc (.cells #[.string who, .int .i64 (now + long), .int .i64 fence] 37)) = W3 at HL3 HX3 hK3 ⊢
  have hL3 := HL3.out; have hX3 := HX3.out
  obtain ⟨w4, hu, hm, hk⟩ := hL3.2.1.drew.put hn hs (who, now + long, fence)
  have hu2 : (Instr.mapUpdate 40 (.map (some b)) (.string s) (.agg #[.string who, .int .i64 (now + long), .int .i64 fence])).run Try.prog W3.drew = .ok () w4 := hu
  have hP0 : Bk p [.map (some b), .int .i64 last] W3.drew ∧ Bk A [.string who, .int .i64 (now + long), .int .i64 fence] W3.drew := ⟨hL3.1.drew, hX3.drew⟩
  have hP1 : Bk p [.map (some b), .int .i64 last] w4 ∧ Bk A [.string who, .int .i64 (now + long), .int .i64 fence] w4 := ⟨hL3.1.drew.kp hk hL3.2.2, hX3.drew.kp hk HPX.out.2.symm⟩
  have HM := Lib.hid hm; have HK := Lib.hid (hK3.out.drew.trans (hk.mono (fun _ _ e => Or.inr e)))
  clear hu hm hk hA
  refine wp_region_held_drew (S := fun w' => Bk p [.map (some b), .int .i64 last] w' ∧ Bk A [.string who, .int .i64 (now + long), .int .i64 fence] w') (by kernel_rfl) (by (first | exact hP0 | exact hP1)) (fun hHeld => ?_)
  refine wpAnyH_take (i := 0) (oi := { dst := some 39, op := Go.Op.move (Go.Operand.tmp 0), type := 24, pos := "lease.go:67", after := #[], guard := none }) (v := ?_) rfl (by kernel_rfl) (by kernel_rfl) (by kernel_rfl) (fun _ _ _ h => h) (Or.inl ⟨by rfl, ?_⟩) (by assumption) ?_
  (rotate_left; focus (intro wS hSw; have s0 := (hSw.1.2 0 _ rfl).1; have s1 := (hSw.2.2 0 _ rfl).1; have s2 := (hSw.2.2 1 _ rfl).1; have s3 := (hSw.2.2 2 _ rfl).1; clear hSw; go_simp; (try rw [if_neg (by omega)]); try with_reducible rfl))
  (try simp only [Act.put, List.setIfInBounds_toArray, List.set_cons_zero, List.set_cons_succ])
  refine wpAnyH_take (i := 1) (oi := { dst := some 40, op := Go.Op.nilCheck (Go.Operand.tmp 39), type := 0, pos := "lease.go:67", after := #[{ on := 0, ground := Go.Ground.data }], guard := none }) (v := ?_) rfl (by kernel_rfl) (by kernel_rfl) (by kernel_rfl) (fun _ _ _ h => h) (Or.inl ⟨by rfl, ?_⟩) (by assumption) ?_
  (rotate_left; focus (intro wS hSw; have s0 := (hSw.1.2 0 _ rfl).1; have s1 := (hSw.2.2 0 _ rfl).1; have s2 := (hSw.2.2 1 _ rfl).1; have s3 := (hSw.2.2 2 _ rfl).1; clear hSw; go_simp; (try rw [if_neg (by omega)]); try with_reducible rfl))
  (try simp only [Act.put, List.setIfInBounds_toArray, List.set_cons_zero, List.set_cons_succ])
  refine wpAnyH_take (i := 2) (oi := { dst := some 41, op := Go.Op.fieldAddr 42 (Go.Operand.tmp 40) 0, type := 0, pos := "lease.go:67", after := #[{ on := 1, ground := Go.Ground.data }], guard := none }) (v := ?_) rfl (by kernel_rfl) (by kernel_rfl) (by kernel_rfl) (fun _ _ _ h => h) (Or.inl ⟨by rfl, ?_⟩) (by assumption) ?_
  (rotate_left; focus (intro wS hSw; have s0 := (hSw.1.2 0 _ rfl).1; have s1 := (hSw.2.2 0 _ rfl).1; have s2 := (hSw.2.2 1 _ rfl).1; have s3 := (hSw.2.2 2 _ rfl).1; clear hSw; go_simp; (try rw [if_neg (by omega)]); try with_reducible rfl))
  (try simp only [Act.put, List.setIfInBounds_toArray, List.set_cons_zero, List.set_cons_succ])
  refine wpAnyH_take (i := 3) (oi := { dst := some 42, op := Go.Op.load 40 (Go.Operand.tmp 41), type := 40, pos := "lease.go:67", after := #[{ on := 2, ground := Go.Ground.data }], guard := none }) (v := ?_) rfl (by kernel_rfl) (by kernel_rfl) (by kernel_rfl) (fun _ _ _ h => h) (Or.inl ⟨by rfl, ?_⟩) (by assumption) ?_
  (rotate_left; focus (intro wS hSw; have s0 := (hSw.1.2 0 _ rfl).1; have s1 := (hSw.2.2 0 _ rfl).1; have s2 := (hSw.2.2 1 _ rfl).1; have s3 := (hSw.2.2 2 _ rfl).1; clear hSw; go_simp; (try rw [if_neg (by omega)]); try with_reducible rfl))
  (try simp only [Act.put, List.setIfInBounds_toArray, List.set_cons_zero, List.set_cons_succ])
  refine wpAnyH_take (i := 4) (oi := { dst := some 43, op := Go.Op.move (Go.Operand.tmp 1), type := 9, pos := "lease.go:67", after := #[], guard := none }) (v := ?_) rfl (by kernel_rfl) (by kernel_rfl) (by kernel_rfl) (fun _ _ _ h => h) (Or.inl ⟨by rfl, ?_⟩) (by assumption) ?_
  (rotate_left; focus (intro wS hSw; have s0 := (hSw.1.2 0 _ rfl).1; have s1 := (hSw.2.2 0 _ rfl).1; have s2 := (hSw.2.2 1 _ rfl).1; have s3 := (hSw.2.2 2 _ rfl).1; clear hSw; go_simp; (try rw [if_neg (by omega)]); try with_reducible rfl))
  (try simp only [Act.put, List.setIfInBounds_toArray, List.set_cons_zero, List.set_cons_succ])
  refine wpAnyH_take (i := 5) (oi := { dst := some 44, op := Go.Op.load 37 (Go.Operand.tmp 11), type := 37, pos := "lease.go:67", after := #[], guard := none }) (v := ?_) rfl (by kernel_rfl) (by kernel_rfl) (by kernel_rfl) (fun _ _ _ h => h) (Or.inl ⟨by rfl, ?_⟩) (by assumption) ?_
  (rotate_left; focus (intro wS hSw; have s0 := (hSw.1.2 0 _ rfl).1; have s1 := (hSw.2.2 0 _ rfl).1; have s2 := (hSw.2.2 1 _ rfl).1; have s3 := (hSw.2.2 2 _ rfl).1; clear hSw; go_simp; (try rw [if_neg (by omega)]); try with_reducible rfl))
  (try simp only [Act.put, List.setIfInBounds_toArray, List.set_cons_zero, List.set_cons_succ])
  refine wpAnyH_ready (rs := [6]) (by kernel_rfl) (by simp) ?_
  refine AllReadyH.cons (o := { dst := none, op := Go.Op.mapUpdate 40 (Go.Operand.tmp 42) (Go.Operand.tmp 43) (Go.Operand.tmp 44), type := 0, pos := "lease.go:67", after := #[{ on := 3, ground := Go.Ground.data }, { on := 4, ground := Go.Ground.data }, { on := 5, ground := Go.Ground.data }, { on := 0, ground := Go.Ground.phase }, { on := 1, ground := Go.Ground.phase }, { on := 2, ground := Go.Ground.phase }, { on := 3, ground := Go.Ground.phase }, { on := 4, ground := Go.Ground.phase }, { on := 5, ground := Go.Ground.phase }], guard := none }) rfl (fun K hK => ?_) AllReadyH.nil
  go_simp
  refine hK.out _ _ (by (first | exact hP0 | exact hP1)) (fun hHeld => ?_)
  clear hK K
  (try simp only [Act.put, List.setIfInBounds_toArray, List.set_cons_zero, List.set_cons_succ])
  refine wpAnyH_done (by kernel_rfl) ?_ _
  go_wp2_with fail
  go_ret
  exact ⟨rfl, ⟨hP1.1, HM.out, hL3.2.2⟩, HK.out⟩
theorem who_live {p b n : Nat} {f : ByteArray → Holder} {last : Int} (s : ByteArray) (h0 : Holder) (now : Int) (w : World) (h : Ls w p b n f last) (hs : s.size ≤ maxLen) (hf : f s = h0) (hz : h0 = z0 ∨ 0 < h0.1.size) (hl : live h0 now = true) :
    Calls Try.prog 5 #[.pointer (some ⟨p, 0, none⟩), .string s, .int .i64 now] w fun e w' => e = .returned (.tuple #[.string h0.1, .int .i64 h0.2.2]) ∧ Ls w' p b n f last ∧ Below w.heap.size w w' := by
  go_enter Try.func5, Try.ntmps5
  go_wp2_with fail
  refine (held_any s h0 now _ h hs hf hz).mono ?_
  rintro e w1 ⟨rfl, hb⟩
  rw [hl]
  have HB := Lib.hid (below_step hb (Nat.le_refl _) (below_new _ (.cells #[.string h0.1, .int .i64 h0.2.1, .int .i64 h0.2.2] 37)))
  have HL := Lib.hid ((h.keep hb).keep (below_new _ (.cells #[.string h0.1, .int .i64 h0.2.1, .int .i64 h0.2.2] 37)))
  have hX : Bk w1.heap.size [.string h0.1, .int .i64 h0.2.1, .int .i64 h0.2.2] (w1.alloc (.cells #[.string h0.1, .int .i64 h0.2.1, .int .i64 h0.2.2] 37)) := Bk.new w1 37 #[.string h0.1, .int .i64 h0.2.1, .int .i64 h0.2.2]
  clear hb
  go_wp2_with fail
  generalize w1.heap.size = A at hX ⊢
  generalize (w1.alloc (.cells #[.string h0.1, .int .i64 h0.2.1, .int .i64 h0.2.2] 37)) = W1 at HB HL hX ⊢
  have hP0 : Bk A [.string h0.1, .int .i64 h0.2.1, .int .i64 h0.2.2] W1.drew := hX.drew
  refine wp_region_held_drew (S := fun w' => Bk A [.string h0.1, .int .i64 h0.2.1, .int .i64 h0.2.2] w') (by kernel_rfl) (by (exact hP0)) (fun hHeld => ?_)
  refine wpAnyH_take (i := 0) (oi := { dst := some 21, op := Go.Op.fieldAddr 37 (Go.Operand.tmp 8) 0, type := 0, pos := "lease.go:89", after := #[], guard := none }) (v := ?_) rfl (by kernel_rfl) (by kernel_rfl) (by kernel_rfl) (fun _ _ _ h => h) (Or.inl ⟨by rfl, ?_⟩) (by assumption) ?_
  (rotate_left; focus (intro wS hSw; have s1 := (hSw.2 0 _ rfl).1; have s2 := (hSw.2 1 _ rfl).1; have s3 := (hSw.2 2 _ rfl).1; clear hSw; go_simp; (try rw [if_neg (by omega)]); try with_reducible rfl))
  (try simp only [Act.put, List.setIfInBounds_toArray, List.set_cons_zero, List.set_cons_succ])
  refine wpAnyH_take (i := 1) (oi := { dst := some 22, op := Go.Op.load 9 (Go.Operand.tmp 21), type := 9, pos := "lease.go:89", after := #[{ on := 0, ground := Go.Ground.data }], guard := none }) (v := ?_) rfl (by kernel_rfl) (by kernel_rfl) (by kernel_rfl) (fun _ _ _ h => h) (Or.inl ⟨by rfl, ?_⟩) (by assumption) ?_
  (rotate_left; focus (intro wS hSw; have s1 := (hSw.2 0 _ rfl).1; have s2 := (hSw.2 1 _ rfl).1; have s3 := (hSw.2 2 _ rfl).1; clear hSw; go_simp; (try rw [if_neg (by omega)]); try with_reducible rfl))
  (try simp only [Act.put, List.setIfInBounds_toArray, List.set_cons_zero, List.set_cons_succ])
  refine wpAnyH_take (i := 2) (oi := { dst := some 23, op := Go.Op.fieldAddr 37 (Go.Operand.tmp 8) 2, type := 0, pos := "lease.go:89", after := #[{ on := 4, ground := Go.Ground.gcOnly Go.Departure.lateStores }], guard := none }) (v := ?_) rfl (by kernel_rfl) (by kernel_rfl) (by kernel_rfl) (fun _ _ _ h => h) (Or.inl ⟨by rfl, ?_⟩) (by assumption) ?_
  (rotate_left; focus (intro wS hSw; have s1 := (hSw.2 0 _ rfl).1; have s2 := (hSw.2 1 _ rfl).1; have s3 := (hSw.2 2 _ rfl).1; clear hSw; go_simp; (try rw [if_neg (by omega)]); try with_reducible rfl))
  (try simp only [Act.put, List.setIfInBounds_toArray, List.set_cons_zero, List.set_cons_succ])
  refine wpAnyH_take (i := 3) (oi := { dst := some 24, op := Go.Op.load 3 (Go.Operand.tmp 23), type := 3, pos := "lease.go:89", after := #[{ on := 2, ground := Go.Ground.data }, { on := 4, ground := Go.Ground.gcOnly Go.Departure.lateStores }], guard := none }) (v := ?_) rfl (by kernel_rfl) (by kernel_rfl) (by kernel_rfl) (fun _ _ _ h => h) (Or.inl ⟨by rfl, ?_⟩) (by assumption) ?_
  (rotate_left; focus (intro wS hSw; have s1 := (hSw.2 0 _ rfl).1; have s2 := (hSw.2 1 _ rfl).1; have s3 := (hSw.2 2 _ rfl).1; clear hSw; go_simp; (try rw [if_neg (by omega)]); try with_reducible rfl))
  (try simp only [Act.put, List.setIfInBounds_toArray, List.set_cons_zero, List.set_cons_succ])
  refine wpAnyH_take (i := 4) (oi := { dst := some 6, op := Go.Op.assign (Go.Operand.tmp 22), type := 9, pos := "lease.go:89", after := #[{ on := 1, ground := Go.Ground.data }, { on := 0, ground := Go.Ground.phase }, { on := 1, ground := Go.Ground.phase }, { on := 2, ground := Go.Ground.textOnly Go.Departure.lateStores }, { on := 3, ground := Go.Ground.textOnly Go.Departure.lateStores }], guard := none }) (v := ?_) rfl (by kernel_rfl) (by kernel_rfl) (by kernel_rfl) (fun _ _ _ h => h) (Or.inl ⟨by rfl, ?_⟩) (by assumption) ?_
  (rotate_left; focus (intro wS hSw; have s1 := (hSw.2 0 _ rfl).1; have s2 := (hSw.2 1 _ rfl).1; have s3 := (hSw.2 2 _ rfl).1; clear hSw; go_simp; (try rw [if_neg (by omega)]); try with_reducible rfl))
  (try simp only [Act.put, List.setIfInBounds_toArray, List.set_cons_zero, List.set_cons_succ])
  refine wpAnyH_take (i := 5) (oi := { dst := some 7, op := Go.Op.assign (Go.Operand.tmp 24), type := 3, pos := "lease.go:89", after := #[{ on := 3, ground := Go.Ground.data }, { on := 4, ground := Go.Ground.chain }, { on := 0, ground := Go.Ground.phase }, { on := 1, ground := Go.Ground.phase }, { on := 2, ground := Go.Ground.phase }, { on := 3, ground := Go.Ground.phase }, { on := 4, ground := Go.Ground.phase }], guard := none }) (v := ?_) rfl (by kernel_rfl) (by kernel_rfl) (by kernel_rfl) (fun _ _ _ h => h) (Or.inl ⟨by rfl, ?_⟩) (by assumption) ?_
  (rotate_left; focus (intro wS hSw; have s1 := (hSw.2 0 _ rfl).1; have s2 := (hSw.2 1 _ rfl).1; have s3 := (hSw.2 2 _ rfl).1; clear hSw; go_simp; (try rw [if_neg (by omega)]); try with_reducible rfl))
  (try simp only [Act.put, List.setIfInBounds_toArray, List.set_cons_zero, List.set_cons_succ])
  refine wpAnyH_done (by kernel_rfl) ?_ _
  go_wp2_with fail
  go_ret2
  exact ⟨rfl, HL.out.drew, HB.out.drew⟩
theorem give_no {p b n : Nat} {f : ByteArray → Holder} {last : Int} (s : ByteArray) (h0 : Holder) (fence : Int) (w : World) (h : Ls w p b n f last) (hs : s.size ≤ maxLen) (hf : f s = h0) (h1 : 1 ≤ fence) (hne : h0.2.2 ≠ fence) :
    Calls Try.prog 7 #[.pointer (some ⟨p, 0, none⟩), .string s, .int .i64 fence] w fun e w' => e = .returned (.bool false) ∧ w' = w := by
  have d1 : (h0.2.2 == fence) = false := by simpa using hne
  have d2 : decide (fence < 1) = false := decide_eq_false (by omega)
  have c0 := (h.1.2 0 _ rfl).1
  have hg : (Instr.lookup 40 (.map (some b)) (.string s) false).run Try.prog w = .ok (.agg #[.string h0.1, .int .i64 h0.2.1, .int .i64 h0.2.2]) w := by
    have := h.2.1.get hs
    rw [hf] at this
    exact this
  have hfld : (Instr.field 37 (.agg #[.string h0.1, .int .i64 h0.2.1, .int .i64 h0.2.2]) 2).run Try.prog w = .ok (.int .i64 h0.2.2) w := by kernel_rfl
  go_enter Try.func7, Try.ntmps7
  go_wp2_with fail
  go_ret
  exact ⟨rfl, rfl⟩
theorem give_yes {p b n : Nat} {f : ByteArray → Holder} {last : Int} (s : ByteArray) (h0 : Holder) (w : World) (h : Ls w p b n f last) (hs : s.size ≤ maxLen) (hf : f s = h0) (h1 : 1 ≤ h0.2.2) :
    Calls Try.prog 7 #[.pointer (some ⟨p, 0, none⟩), .string s, .int .i64 h0.2.2] w fun e w' => e = .returned (.bool true) ∧ Ls w' p b n (setf f s z0) last ∧ Kp (fun i => i = p ∨ i = b) w w' := by
  have d2 : decide (h0.2.2 < 1) = false := decide_eq_false (by omega)
  have c0 := (h.1.2 0 _ rfl).1
  have hg : (Instr.lookup 40 (.map (some b)) (.string s) false).run Try.prog w = .ok (.agg #[.string h0.1, .int .i64 h0.2.1, .int .i64 h0.2.2]) w := by
    have := h.2.1.get hs
    rw [hf] at this
    exact this
  obtain ⟨wd, hd, hm, hk⟩ := h.2.1.del hs 0
  have hd2 : (Builtin.delete_ #[40, 9] 0 #[.map (some b), .string s]).run Try.prog w = .ok (.tuple #[]) wd := hd
  have HM := Lib.hid hm; have HK := Lib.hid hk
  clear hd hm hk
  have hfld : (Instr.field 37 (.agg #[.string h0.1, .int .i64 h0.2.1, .int .i64 h0.2.2]) 2).run Try.prog w = .ok (.int .i64 h0.2.2) w := by kernel_rfl
  go_enter Try.func7, Try.ntmps7
  go_wp2_with fail
  go_ret
  exact ⟨rfl, ⟨h.1.kp HK.out h.2.2, HM.out, h.2.2⟩, HK.out.mono (fun _ _ e => Or.inr e)⟩
end Go.Proofs.Ytdneljlgnfondaa

