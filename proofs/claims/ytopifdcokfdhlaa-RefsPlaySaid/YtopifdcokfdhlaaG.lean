/-
  The contracts of the law's count and less.
-/
import Derived.Test.YtopifdcokfdhlaaF
set_option linter.unusedVariables false
set_option linter.unusedSimpArgs false
namespace Go.Proofs.Ytopifdcokfdhlaa
open Go.RowKit
set_option maxHeartbeats 4000000 in
theorem count_any (l : List ByteArray) (s : ByteArray) (a : Option Addr) (cap : Nat) (w : World) (hs : Sl strC 1 w a l) (hl : l.length ≤ 1000000) :
    Calls Try.prog 10 #[.slice a l.length cap, .string s] w fun e w' => e = .returned (.int .i64 (cnt l s)) ∧ w' = w := by
  have HS := Lib.hid hs
  clear hs
  obtain ⟨n, hn⟩ : ∃ n, n = l.length := ⟨_, rfl⟩
  have HN := Lib.hid hn
  rw [← hn] at hl ⊢
  clear hn
  go_enter Try.func10, Try.ntmps10
  go_wp2
  go_loop [5, 6] (fun c i => ∃ k : Nat, i = .int .i64 k ∧ k ≤ n ∧ c = .int .i64 (cnt (l.take k) s)) (fun _ i => n - (intOf i).toNat)
  case atStart => exact ⟨0, rfl, by omega, rfl⟩
  case round =>
    obtain ⟨k, rfl, hk, rfl⟩ := hrel
    by_cases hlt : k < n
    · have hkl : k < l.length := by rw [← HN.out]; exact hlt
      obtain ⟨b, o, rfl, hb, hc⟩ := sl_one HS.out k hkl
      have HT := Lib.hid (cnt_take_snoc l k hkl s)
      have hcl := cnt_le (l.take k) s
      have htl : (l.take k).length ≤ k := List.length_take_le _ _
      have hck : cnt (l.take k) s ≤ k := by omega
      clear hcl htl
      obtain ⟨C, hC⟩ : ∃ C : Nat, C = cnt (l.take k) s := ⟨_, rfl⟩
      rw [← hC] at HT hck ⊢
      clear hC
      generalize l[k] = t at *
      have d1 : (k : Int) < (n : Int) := by omega
      by_cases e : t = s
      · have e1 := str_eq e
        rw [if_pos e] at HT
        clear e
        go_wp2
        go_round
        case rel => exact ⟨k + 1, by go_num, by omega, by rw [HT.out]; go_num⟩
        case measure => simp [intOf]; omega
      · have e1 := str_ne e
        rw [if_neg e] at HT
        clear e
        go_wp2
        go_round
        case rel => exact ⟨k + 1, by go_num, by omega, by rw [HT.out]; go_num⟩
        case measure => simp [intOf]; omega
    · obtain rfl : k = n := by omega
      go_wp2
      go_ret
      exact ⟨by rw [HN.out, List.take_length]; rfl, rfl⟩
theorem sl_draws {w : World} {a : Option Addr} {l : List ByteArray} (h : Sl strC 1 w a l) (n : Nat) : Sl strC 1 (w.drewN n) a l := h.keep (below_drewN' (Below.refl _ _) n)
theorem okK_succ (l gone : List ByteArray) (k : Nat) (h : k < gone.length) : okK l gone (k + 1) = (okK l gone k && decide (cnt gone gone[k] ≤ cnt l gone[k])) := by
  unfold okK
  rw [take_snocL gone k h, List.all_append]
  simp
theorem okK_all (l gone : List ByteArray) : okK l gone gone.length = okB l gone := by unfold okK okB; rw [List.take_length]
theorem okB_no {l gone : List ByteArray} (k : Nat) (h : k < gone.length) (hc : cnt l gone[k] < cnt gone gone[k]) : okB l gone = false := ok_no hc
set_option maxHeartbeats 8000000 in
theorem less_any (l g : List ByteArray) (a b : Option Addr) (c d : Nat) (w : World) (ha : Sl strC 1 w a l) (hb : Sl strC 1 w b g) (hlc : l.length ≤ c) (hl : l.length ≤ 100000) (hg : g.length ≤ 100000) :
    Calls Try.prog 7 #[.slice a l.length c, .slice b g.length d] w fun e w' => ∃ a' c', e = .returned (.tuple #[.slice a' (outL l g).length c', .bool (okB l g)]) ∧ (outL l g).length ≤ c' ∧ Sl strC 1 w' a' (outL l g) ∧ Below w.heap.size w w' := by
  obtain ⟨i0, hi, hz0, hz1, hz2⟩ := info_parts infoS
  have HA := Lib.hid ha; have HB := Lib.hid hb
  clear ha hb
  obtain ⟨n, hn⟩ : ∃ n, n = l.length := ⟨_, rfl⟩
  have HN := Lib.hid hn
  obtain ⟨m, hm⟩ : ∃ m, m = g.length := ⟨_, rfl⟩
  have HM := Lib.hid hm
  rw [← hn] at hlc hl ⊢
  rw [← hm] at hg ⊢
  clear hn hm
  go_enter Try.func7, Try.ntmps7
  go_wp2
  go_loopw [6, 7] (fun v i wr => ∃ k : Nat, i = .int .i64 k ∧ k ≤ n ∧ wr.ownsRow w.heap.size 9 1 v (outK l g k).length ((outK l g k).flatMap strC) ∧ Below w.heap.size w wr) (fun _ i _ => n - (intOf i).toNat)
  case atStart => exact ⟨0, rfl, by omega, own_nil _ _ _ _, Below.refl _ _⟩
  case round =>
    obtain ⟨k, rfl, hk, hown, hbw⟩ := hrel
    have HO := Lib.hid hown; have HBW := Lib.hid hbw
    clear hown hbw
    by_cases hlt : k < n
    · as_aux_lemma =>
      have hkl : k < l.length := by rw [← HN.out]; exact hlt
      obtain ⟨b2, o, rfl, hb, hc⟩ := sl_one HA.out k hkl
      have HCC : Hid (∀ W, Below w.heap.size w W → W.cell? ⟨b2, o + k, none⟩ = some (.string l[k])) := Lib.hid (fun W h => (h.cell (p := ⟨b2, o + k, none⟩) hb).trans hc)
      clear hc
      have hol := outK_len l g k
      have HS : Hid (outK l g (k + 1) = if cnt g l[k] ≤ cnt (l.take k) l[k] then outK l g k ++ [l[k]] else outK l g k) := Lib.hid (by rw [outK, dif_pos hkl])
      have T1 : Hid (∀ W, Below w.heap.size w W → Calls Try.prog 10 #[.slice (some ⟨b2, o, none⟩) k c, .string l[k]] W fun e w' => e = .returned (.int .i64 (cnt (l.take k) l[k])) ∧ w' = W) := Lib.hid (fun W h => by
        have := count_any (l.take k) l[k] (some ⟨b2, o, none⟩) c W (sl_take (HA.out.keep h) k) (by rw [List.length_take]; omega)
        rw [show (l.take k).length = k by rw [List.length_take]; omega] at this
        exact this)
      have T2 : Hid (∀ W, Below w.heap.size w W → Calls Try.prog 10 #[.slice b m d, .string l[k]] W fun e w' => e = .returned (.int .i64 (cnt g l[k])) ∧ w' = W) := Lib.hid (fun W h => by
        have := count_any g l[k] b d W (HB.out.keep h) (by rw [← HM.out]; omega)
        rw [← HM.out] at this
        exact this)
      obtain ⟨C, hC⟩ : ∃ C : Nat, C = cnt (l.take k) l[k] := ⟨_, rfl⟩
      obtain ⟨D, hD⟩ : ∃ D : Nat, D = cnt g l[k] := ⟨_, rfl⟩
      rw [← hC, ← hD] at HS
      rw [← hC] at T1
      rw [← hD] at T2
      clear hC hD
      generalize l[k] = t at *
      have hzk : (outK l g k).length ≤ k := hol
      generalize outK l g k = Z at *
      have d1 : (k : Int) < (n : Int) := by omega
      have d0 : (0 : Int) ≤ (k : Int) := by omega
      have d2 : k ≤ c := by omega
      clear hol
      by_cases hz : D ≤ C
      · have d3 : decide (D ≤ C) = true := decide_eq_true hz
        rw [if_pos hz] at HS
        clear hz
        go_wp2
        have hB0 := HBW.out
        refine wp_region_held_drew (S := fun w' => Below w.heap.size w w') (by kernel_rfl) (by ((repeat (first | exact Below.refl _ _ | (with_reducible assumption) | refine Below.setCell ?_ (by simp <;> omega) _ | refine Below.alloc ?_ (by simp <;> omega) _ | refine Below.drew ?_ | refine below_drewN ?_ _)))) (fun hHeld => ?_)
        refine wpAnyH_take (i := 0) (oi := { dst := some 15, op := Go.Op.move (Go.Operand.tmp 0), type := 26, pos := "law.go:41", after := #[], guard := none }) (v := ?_) rfl (by kernel_rfl) (by kernel_rfl) (by kernel_rfl) (fun _ _ _ h => h) (Or.inl ⟨by rfl, ?_⟩) (by assumption) ?_
        (rotate_left; focus (intro wS hSw; have s0 := HCC.out wS hSw; clear hSw; go_simp; (try rw [if_neg (by omega)]); try with_reducible rfl))
        (try simp only [Act.put, List.setIfInBounds_toArray, List.set_cons_zero, List.set_cons_succ])
        refine wpAnyH_take (i := 1) (oi := { dst := some 16, op := Go.Op.move (Go.Operand.tmp 7), type := 3, pos := "law.go:41", after := #[], guard := none }) (v := ?_) rfl (by kernel_rfl) (by kernel_rfl) (by kernel_rfl) (fun _ _ _ h => h) (Or.inl ⟨by rfl, ?_⟩) (by assumption) ?_
        (rotate_left; focus (intro wS hSw; have s0 := HCC.out wS hSw; clear hSw; go_simp; (try rw [if_neg (by omega)]); try with_reducible rfl))
        (try simp only [Act.put, List.setIfInBounds_toArray, List.set_cons_zero, List.set_cons_succ])
        refine wpAnyH_take (i := 2) (oi := { dst := some 17, op := Go.Op.slice 26 (Go.Operand.tmp 15) none (some (Go.Operand.tmp 16)) none, type := 26, pos := "law.go:41", after := #[{ on := 0, ground := Go.Ground.data }, { on := 1, ground := Go.Ground.data }], guard := none }) (v := ?_) rfl (by kernel_rfl) (by kernel_rfl) (by kernel_rfl) (fun _ _ _ h => h) (Or.inl ⟨by rfl, ?_⟩) (by assumption) ?_
        (rotate_left; focus (intro wS hSw; have s0 := HCC.out wS hSw; clear hSw; go_simp; (try rw [if_neg (by omega)]); try with_reducible rfl))
        (try simp only [Act.put, List.setIfInBounds_toArray, List.set_cons_zero, List.set_cons_succ])
        refine wpAnyH_take (i := 3) (oi := { dst := some 18, op := Go.Op.move (Go.Operand.tmp 0), type := 26, pos := "law.go:41", after := #[], guard := none }) (v := ?_) rfl (by kernel_rfl) (by kernel_rfl) (by kernel_rfl) (fun _ _ _ h => h) (Or.inl ⟨by rfl, ?_⟩) (by assumption) ?_
        (rotate_left; focus (intro wS hSw; have s0 := HCC.out wS hSw; clear hSw; go_simp; (try rw [if_neg (by omega)]); try with_reducible rfl))
        (try simp only [Act.put, List.setIfInBounds_toArray, List.set_cons_zero, List.set_cons_succ])
        refine wpAnyH_take (i := 4) (oi := { dst := some 19, op := Go.Op.move (Go.Operand.tmp 7), type := 3, pos := "law.go:41", after := #[], guard := none }) (v := ?_) rfl (by kernel_rfl) (by kernel_rfl) (by kernel_rfl) (fun _ _ _ h => h) (Or.inl ⟨by rfl, ?_⟩) (by assumption) ?_
        (rotate_left; focus (intro wS hSw; have s0 := HCC.out wS hSw; clear hSw; go_simp; (try rw [if_neg (by omega)]); try with_reducible rfl))
        (try simp only [Act.put, List.setIfInBounds_toArray, List.set_cons_zero, List.set_cons_succ])
        refine wpAnyH_take (i := 5) (oi := { dst := some 20, op := Go.Op.indexAddr 26 (Go.Operand.tmp 18) (Go.Operand.tmp 19), type := 0, pos := "law.go:41", after := #[{ on := 3, ground := Go.Ground.data }, { on := 4, ground := Go.Ground.data }], guard := none }) (v := ?_) rfl (by kernel_rfl) (by kernel_rfl) (by kernel_rfl) (fun _ _ _ h => h) (Or.inl ⟨by rfl, ?_⟩) (by assumption) ?_
        (rotate_left; focus (intro wS hSw; have s0 := HCC.out wS hSw; clear hSw; go_simp; (try rw [if_neg (by omega)]); try with_reducible rfl))
        (try simp only [Act.put, List.setIfInBounds_toArray, List.set_cons_zero, List.set_cons_succ])
        refine wpAnyH_take (i := 6) (oi := { dst := some 21, op := Go.Op.load 9 (Go.Operand.tmp 20), type := 9, pos := "law.go:41", after := #[{ on := 5, ground := Go.Ground.data }], guard := none }) (v := ?_) rfl (by kernel_rfl) (by kernel_rfl) (by kernel_rfl) (fun _ _ _ h => h) (Or.inl ⟨by rfl, ?_⟩) (by assumption) ?_
        (rotate_left; focus (intro wS hSw; have s0 := HCC.out wS hSw; clear hSw; go_simp; (try rw [if_neg (by omega)]); try with_reducible rfl))
        (try simp only [Act.put, List.setIfInBounds_toArray, List.set_cons_zero, List.set_cons_succ])
        refine wpAnyH_take (i := 8) (oi := { dst := some 23, op := Go.Op.move (Go.Operand.tmp 1), type := 26, pos := "law.go:41", after := #[], guard := none }) (v := ?_) rfl (by kernel_rfl) (by kernel_rfl) (by kernel_rfl) (fun _ _ _ h => h) (Or.inl ⟨by rfl, ?_⟩) (by assumption) ?_
        (rotate_left; focus (intro wS hSw; have s0 := HCC.out wS hSw; clear hSw; go_simp; (try rw [if_neg (by omega)]); try with_reducible rfl))
        (try simp only [Act.put, List.setIfInBounds_toArray, List.set_cons_zero, List.set_cons_succ])
        refine wpAnyH_take (i := 9) (oi := { dst := some 24, op := Go.Op.move (Go.Operand.tmp 0), type := 26, pos := "law.go:41", after := #[], guard := none }) (v := ?_) rfl (by kernel_rfl) (by kernel_rfl) (by kernel_rfl) (fun _ _ _ h => h) (Or.inl ⟨by rfl, ?_⟩) (by assumption) ?_
        (rotate_left; focus (intro wS hSw; have s0 := HCC.out wS hSw; clear hSw; go_simp; (try rw [if_neg (by omega)]); try with_reducible rfl))
        (try simp only [Act.put, List.setIfInBounds_toArray, List.set_cons_zero, List.set_cons_succ])
        refine wpAnyH_take (i := 10) (oi := { dst := some 25, op := Go.Op.move (Go.Operand.tmp 7), type := 3, pos := "law.go:41", after := #[], guard := none }) (v := ?_) rfl (by kernel_rfl) (by kernel_rfl) (by kernel_rfl) (fun _ _ _ h => h) (Or.inl ⟨by rfl, ?_⟩) (by assumption) ?_
        (rotate_left; focus (intro wS hSw; have s0 := HCC.out wS hSw; clear hSw; go_simp; (try rw [if_neg (by omega)]); try with_reducible rfl))
        (try simp only [Act.put, List.setIfInBounds_toArray, List.set_cons_zero, List.set_cons_succ])
        refine wpAnyH_take (i := 11) (oi := { dst := some 26, op := Go.Op.indexAddr 26 (Go.Operand.tmp 24) (Go.Operand.tmp 25), type := 0, pos := "law.go:41", after := #[{ on := 9, ground := Go.Ground.data }, { on := 10, ground := Go.Ground.data }], guard := none }) (v := ?_) rfl (by kernel_rfl) (by kernel_rfl) (by kernel_rfl) (fun _ _ _ h => h) (Or.inl ⟨by rfl, ?_⟩) (by assumption) ?_
        (rotate_left; focus (intro wS hSw; have s0 := HCC.out wS hSw; clear hSw; go_simp; (try rw [if_neg (by omega)]); try with_reducible rfl))
        (try simp only [Act.put, List.setIfInBounds_toArray, List.set_cons_zero, List.set_cons_succ])
        refine wpAnyH_take (i := 12) (oi := { dst := some 27, op := Go.Op.load 9 (Go.Operand.tmp 26), type := 9, pos := "law.go:41", after := #[{ on := 11, ground := Go.Ground.data }], guard := none }) (v := ?_) rfl (by kernel_rfl) (by kernel_rfl) (by kernel_rfl) (fun _ _ _ h => h) (Or.inl ⟨by rfl, ?_⟩) (by assumption) ?_
        (rotate_left; focus (intro wS hSw; have s0 := HCC.out wS hSw; clear hSw; go_simp; (try rw [if_neg (by omega)]); try with_reducible rfl))
        (try simp only [Act.put, List.setIfInBounds_toArray, List.set_cons_zero, List.set_cons_succ])
        refine wpAnyH_ready (rs := [7]) (by kernel_rfl) (by simp) ?_
        refine AllReadyH.cons (o := { dst := some 22, op := Go.Op.call { callee := Go.Callee.value (Go.Operand.func 10), args := #[Go.Operand.tmp 17, Go.Operand.tmp 21], argTypes := #[26, 9] }, type := 3, pos := "law.go:41", after := #[{ on := 2, ground := Go.Ground.data }, { on := 6, ground := Go.Ground.data }], guard := none }) rfl (fun K hK => ?_) AllReadyH.nil
        go_simp
        refine (T1.out _ hHeld).mono ?_
        rintro e x1 ⟨rfl, hx⟩
        subst hx
        (try go_wp2_with fail)
        refine hK.out _ _ (by ((repeat (first | exact Below.refl _ _ | (with_reducible assumption) | refine Below.setCell ?_ (by simp <;> omega) _ | refine Below.alloc ?_ (by simp <;> omega) _ | refine Below.drew ?_ | refine below_drewN ?_ _)))) (fun hHeld => ?_)
        clear hK K
        (try simp only [Act.put, List.setIfInBounds_toArray, List.set_cons_zero, List.set_cons_succ])
        refine wpAnyH_ready (rs := [13]) (by kernel_rfl) (by simp) ?_
        refine AllReadyH.cons (o := { dst := some 28, op := Go.Op.call { callee := Go.Callee.value (Go.Operand.func 10), args := #[Go.Operand.tmp 23, Go.Operand.tmp 27], argTypes := #[26, 9] }, type := 3, pos := "law.go:41", after := #[{ on := 8, ground := Go.Ground.data }, { on := 12, ground := Go.Ground.data }, { on := 7, ground := Go.Ground.chain }], guard := none }) rfl (fun K hK => ?_) AllReadyH.nil
        go_simp
        refine (T2.out _ hHeld).mono ?_
        rintro e x2 ⟨rfl, hx⟩
        subst hx
        (try go_wp2_with fail)
        refine hK.out _ _ (by ((repeat (first | exact Below.refl _ _ | (with_reducible assumption) | refine Below.setCell ?_ (by simp <;> omega) _ | refine Below.alloc ?_ (by simp <;> omega) _ | refine Below.drew ?_ | refine below_drewN ?_ _)))) (fun hHeld => ?_)
        clear hK K
        (try simp only [Act.put, List.setIfInBounds_toArray, List.set_cons_zero, List.set_cons_succ])
        refine wpAnyH_take (i := 14) (oi := { dst := some 29, op := Go.Op.binOp Go.BinOp.geq 3 (Go.Operand.tmp 22) (Go.Operand.tmp 28) 3, type := 4, pos := "law.go:41", after := #[{ on := 7, ground := Go.Ground.data }, { on := 13, ground := Go.Ground.data }], guard := none }) (v := ?_) rfl (by kernel_rfl) (by kernel_rfl) (by kernel_rfl) (fun _ _ _ h => h) (Or.inl ⟨by rfl, ?_⟩) (by assumption) ?_
        (rotate_left; focus (intro wS hSw; have s0 := HCC.out wS hSw; clear hSw; go_simp; (try rw [if_neg (by omega)]); try with_reducible rfl))
        (try simp only [Act.put, List.setIfInBounds_toArray, List.set_cons_zero, List.set_cons_succ])
        refine wpAnyH_done (by kernel_rfl) ?_ _
        have hB1 : Below w.heap.size w wr.drew := hB0.drew
        have c0 := HCC.out _ hB1
        clear hB0
        go_wp2_with (at_builtin; refine wpList_append_own _ rfl _ _ 26 rfl w.heap.size 9 i0 (.string ByteArray.empty) 1 16 Try.underlying26 hi hz0 hz1 hz2 rfl (by decide) _ _ _ rfl (World.ownsRow.alloc (w := wr.drew) HO.out _) ⟨wr.drew.heap.size, 0, none⟩ 1 1 [.string t] rfl rfl ?a1 ?a2 ?a3 ?a4 ?a5 ?_)
        case a1 => intro j u hj; exact new_cells _ _ _ j u hj
        case a2 => intro u hu; simp at hu; rcases hu with rfl; rfl
        case a3 => unfold maxLen; omega
        case a4 => omega
        case a5 => have h1 := hB1.size; simp at h1 ⊢; omega
        intro v5 w5 hown5 hg5 _
        have HB5 : Hid (Below w.heap.size w w5) := Lib.hid ((hB1.alloc hB1.size _).grown hg5 (by have := hB1.size; simp at this ⊢; omega) (fun q hq => (HO.out.lt q hq).1))
        have HO5 : Hid (w5.ownsRow w.heap.size 9 1 v5 (outK l g (k + 1)).length ((outK l g (k + 1)).flatMap strC)) := Lib.hid (by rw [HS.out, List.length_append, List.flatMap_append]; exact hown5)
        clear hown5 hg5 c0 hB1
        go_wp2
        go_roundw
        case rel => exact ⟨k + 1, by go_num, by omega, HO5.out, HB5.out⟩
        case measure => simp [intOf]; omega
      · have d3 : decide (D ≤ C) = false := decide_eq_false hz
        rw [if_neg hz] at HS
        clear hz
        go_wp2
        have hB0 := HBW.out
        refine wp_region_held_drew (S := fun w' => Below w.heap.size w w') (by kernel_rfl) (by ((repeat (first | exact Below.refl _ _ | (with_reducible assumption) | refine Below.setCell ?_ (by simp <;> omega) _ | refine Below.alloc ?_ (by simp <;> omega) _ | refine Below.drew ?_ | refine below_drewN ?_ _)))) (fun hHeld => ?_)
        refine wpAnyH_take (i := 0) (oi := { dst := some 15, op := Go.Op.move (Go.Operand.tmp 0), type := 26, pos := "law.go:41", after := #[], guard := none }) (v := ?_) rfl (by kernel_rfl) (by kernel_rfl) (by kernel_rfl) (fun _ _ _ h => h) (Or.inl ⟨by rfl, ?_⟩) (by assumption) ?_
        (rotate_left; focus (intro wS hSw; have s0 := HCC.out wS hSw; clear hSw; go_simp; (try rw [if_neg (by omega)]); try with_reducible rfl))
        (try simp only [Act.put, List.setIfInBounds_toArray, List.set_cons_zero, List.set_cons_succ])
        refine wpAnyH_take (i := 1) (oi := { dst := some 16, op := Go.Op.move (Go.Operand.tmp 7), type := 3, pos := "law.go:41", after := #[], guard := none }) (v := ?_) rfl (by kernel_rfl) (by kernel_rfl) (by kernel_rfl) (fun _ _ _ h => h) (Or.inl ⟨by rfl, ?_⟩) (by assumption) ?_
        (rotate_left; focus (intro wS hSw; have s0 := HCC.out wS hSw; clear hSw; go_simp; (try rw [if_neg (by omega)]); try with_reducible rfl))
        (try simp only [Act.put, List.setIfInBounds_toArray, List.set_cons_zero, List.set_cons_succ])
        refine wpAnyH_take (i := 2) (oi := { dst := some 17, op := Go.Op.slice 26 (Go.Operand.tmp 15) none (some (Go.Operand.tmp 16)) none, type := 26, pos := "law.go:41", after := #[{ on := 0, ground := Go.Ground.data }, { on := 1, ground := Go.Ground.data }], guard := none }) (v := ?_) rfl (by kernel_rfl) (by kernel_rfl) (by kernel_rfl) (fun _ _ _ h => h) (Or.inl ⟨by rfl, ?_⟩) (by assumption) ?_
        (rotate_left; focus (intro wS hSw; have s0 := HCC.out wS hSw; clear hSw; go_simp; (try rw [if_neg (by omega)]); try with_reducible rfl))
        (try simp only [Act.put, List.setIfInBounds_toArray, List.set_cons_zero, List.set_cons_succ])
        refine wpAnyH_take (i := 3) (oi := { dst := some 18, op := Go.Op.move (Go.Operand.tmp 0), type := 26, pos := "law.go:41", after := #[], guard := none }) (v := ?_) rfl (by kernel_rfl) (by kernel_rfl) (by kernel_rfl) (fun _ _ _ h => h) (Or.inl ⟨by rfl, ?_⟩) (by assumption) ?_
        (rotate_left; focus (intro wS hSw; have s0 := HCC.out wS hSw; clear hSw; go_simp; (try rw [if_neg (by omega)]); try with_reducible rfl))
        (try simp only [Act.put, List.setIfInBounds_toArray, List.set_cons_zero, List.set_cons_succ])
        refine wpAnyH_take (i := 4) (oi := { dst := some 19, op := Go.Op.move (Go.Operand.tmp 7), type := 3, pos := "law.go:41", after := #[], guard := none }) (v := ?_) rfl (by kernel_rfl) (by kernel_rfl) (by kernel_rfl) (fun _ _ _ h => h) (Or.inl ⟨by rfl, ?_⟩) (by assumption) ?_
        (rotate_left; focus (intro wS hSw; have s0 := HCC.out wS hSw; clear hSw; go_simp; (try rw [if_neg (by omega)]); try with_reducible rfl))
        (try simp only [Act.put, List.setIfInBounds_toArray, List.set_cons_zero, List.set_cons_succ])
        refine wpAnyH_take (i := 5) (oi := { dst := some 20, op := Go.Op.indexAddr 26 (Go.Operand.tmp 18) (Go.Operand.tmp 19), type := 0, pos := "law.go:41", after := #[{ on := 3, ground := Go.Ground.data }, { on := 4, ground := Go.Ground.data }], guard := none }) (v := ?_) rfl (by kernel_rfl) (by kernel_rfl) (by kernel_rfl) (fun _ _ _ h => h) (Or.inl ⟨by rfl, ?_⟩) (by assumption) ?_
        (rotate_left; focus (intro wS hSw; have s0 := HCC.out wS hSw; clear hSw; go_simp; (try rw [if_neg (by omega)]); try with_reducible rfl))
        (try simp only [Act.put, List.setIfInBounds_toArray, List.set_cons_zero, List.set_cons_succ])
        refine wpAnyH_take (i := 6) (oi := { dst := some 21, op := Go.Op.load 9 (Go.Operand.tmp 20), type := 9, pos := "law.go:41", after := #[{ on := 5, ground := Go.Ground.data }], guard := none }) (v := ?_) rfl (by kernel_rfl) (by kernel_rfl) (by kernel_rfl) (fun _ _ _ h => h) (Or.inl ⟨by rfl, ?_⟩) (by assumption) ?_
        (rotate_left; focus (intro wS hSw; have s0 := HCC.out wS hSw; clear hSw; go_simp; (try rw [if_neg (by omega)]); try with_reducible rfl))
        (try simp only [Act.put, List.setIfInBounds_toArray, List.set_cons_zero, List.set_cons_succ])
        refine wpAnyH_take (i := 8) (oi := { dst := some 23, op := Go.Op.move (Go.Operand.tmp 1), type := 26, pos := "law.go:41", after := #[], guard := none }) (v := ?_) rfl (by kernel_rfl) (by kernel_rfl) (by kernel_rfl) (fun _ _ _ h => h) (Or.inl ⟨by rfl, ?_⟩) (by assumption) ?_
        (rotate_left; focus (intro wS hSw; have s0 := HCC.out wS hSw; clear hSw; go_simp; (try rw [if_neg (by omega)]); try with_reducible rfl))
        (try simp only [Act.put, List.setIfInBounds_toArray, List.set_cons_zero, List.set_cons_succ])
        refine wpAnyH_take (i := 9) (oi := { dst := some 24, op := Go.Op.move (Go.Operand.tmp 0), type := 26, pos := "law.go:41", after := #[], guard := none }) (v := ?_) rfl (by kernel_rfl) (by kernel_rfl) (by kernel_rfl) (fun _ _ _ h => h) (Or.inl ⟨by rfl, ?_⟩) (by assumption) ?_
        (rotate_left; focus (intro wS hSw; have s0 := HCC.out wS hSw; clear hSw; go_simp; (try rw [if_neg (by omega)]); try with_reducible rfl))
        (try simp only [Act.put, List.setIfInBounds_toArray, List.set_cons_zero, List.set_cons_succ])
        refine wpAnyH_take (i := 10) (oi := { dst := some 25, op := Go.Op.move (Go.Operand.tmp 7), type := 3, pos := "law.go:41", after := #[], guard := none }) (v := ?_) rfl (by kernel_rfl) (by kernel_rfl) (by kernel_rfl) (fun _ _ _ h => h) (Or.inl ⟨by rfl, ?_⟩) (by assumption) ?_
        (rotate_left; focus (intro wS hSw; have s0 := HCC.out wS hSw; clear hSw; go_simp; (try rw [if_neg (by omega)]); try with_reducible rfl))
        (try simp only [Act.put, List.setIfInBounds_toArray, List.set_cons_zero, List.set_cons_succ])
        refine wpAnyH_take (i := 11) (oi := { dst := some 26, op := Go.Op.indexAddr 26 (Go.Operand.tmp 24) (Go.Operand.tmp 25), type := 0, pos := "law.go:41", after := #[{ on := 9, ground := Go.Ground.data }, { on := 10, ground := Go.Ground.data }], guard := none }) (v := ?_) rfl (by kernel_rfl) (by kernel_rfl) (by kernel_rfl) (fun _ _ _ h => h) (Or.inl ⟨by rfl, ?_⟩) (by assumption) ?_
        (rotate_left; focus (intro wS hSw; have s0 := HCC.out wS hSw; clear hSw; go_simp; (try rw [if_neg (by omega)]); try with_reducible rfl))
        (try simp only [Act.put, List.setIfInBounds_toArray, List.set_cons_zero, List.set_cons_succ])
        refine wpAnyH_take (i := 12) (oi := { dst := some 27, op := Go.Op.load 9 (Go.Operand.tmp 26), type := 9, pos := "law.go:41", after := #[{ on := 11, ground := Go.Ground.data }], guard := none }) (v := ?_) rfl (by kernel_rfl) (by kernel_rfl) (by kernel_rfl) (fun _ _ _ h => h) (Or.inl ⟨by rfl, ?_⟩) (by assumption) ?_
        (rotate_left; focus (intro wS hSw; have s0 := HCC.out wS hSw; clear hSw; go_simp; (try rw [if_neg (by omega)]); try with_reducible rfl))
        (try simp only [Act.put, List.setIfInBounds_toArray, List.set_cons_zero, List.set_cons_succ])
        refine wpAnyH_ready (rs := [7]) (by kernel_rfl) (by simp) ?_
        refine AllReadyH.cons (o := { dst := some 22, op := Go.Op.call { callee := Go.Callee.value (Go.Operand.func 10), args := #[Go.Operand.tmp 17, Go.Operand.tmp 21], argTypes := #[26, 9] }, type := 3, pos := "law.go:41", after := #[{ on := 2, ground := Go.Ground.data }, { on := 6, ground := Go.Ground.data }], guard := none }) rfl (fun K hK => ?_) AllReadyH.nil
        go_simp
        refine (T1.out _ hHeld).mono ?_
        rintro e x1 ⟨rfl, hx⟩
        subst hx
        (try go_wp2_with fail)
        refine hK.out _ _ (by ((repeat (first | exact Below.refl _ _ | (with_reducible assumption) | refine Below.setCell ?_ (by simp <;> omega) _ | refine Below.alloc ?_ (by simp <;> omega) _ | refine Below.drew ?_ | refine below_drewN ?_ _)))) (fun hHeld => ?_)
        clear hK K
        (try simp only [Act.put, List.setIfInBounds_toArray, List.set_cons_zero, List.set_cons_succ])
        refine wpAnyH_ready (rs := [13]) (by kernel_rfl) (by simp) ?_
        refine AllReadyH.cons (o := { dst := some 28, op := Go.Op.call { callee := Go.Callee.value (Go.Operand.func 10), args := #[Go.Operand.tmp 23, Go.Operand.tmp 27], argTypes := #[26, 9] }, type := 3, pos := "law.go:41", after := #[{ on := 8, ground := Go.Ground.data }, { on := 12, ground := Go.Ground.data }, { on := 7, ground := Go.Ground.chain }], guard := none }) rfl (fun K hK => ?_) AllReadyH.nil
        go_simp
        refine (T2.out _ hHeld).mono ?_
        rintro e x2 ⟨rfl, hx⟩
        subst hx
        (try go_wp2_with fail)
        refine hK.out _ _ (by ((repeat (first | exact Below.refl _ _ | (with_reducible assumption) | refine Below.setCell ?_ (by simp <;> omega) _ | refine Below.alloc ?_ (by simp <;> omega) _ | refine Below.drew ?_ | refine below_drewN ?_ _)))) (fun hHeld => ?_)
        clear hK K
        (try simp only [Act.put, List.setIfInBounds_toArray, List.set_cons_zero, List.set_cons_succ])
        refine wpAnyH_take (i := 14) (oi := { dst := some 29, op := Go.Op.binOp Go.BinOp.geq 3 (Go.Operand.tmp 22) (Go.Operand.tmp 28) 3, type := 4, pos := "law.go:41", after := #[{ on := 7, ground := Go.Ground.data }, { on := 13, ground := Go.Ground.data }], guard := none }) (v := ?_) rfl (by kernel_rfl) (by kernel_rfl) (by kernel_rfl) (fun _ _ _ h => h) (Or.inl ⟨by rfl, ?_⟩) (by assumption) ?_
        (rotate_left; focus (intro wS hSw; have s0 := HCC.out wS hSw; clear hSw; go_simp; (try rw [if_neg (by omega)]); try with_reducible rfl))
        (try simp only [Act.put, List.setIfInBounds_toArray, List.set_cons_zero, List.set_cons_succ])
        refine wpAnyH_done (by kernel_rfl) ?_ _
        have HB1 : Hid (Below w.heap.size w wr.drew) := Lib.hid hB0.drew
        clear hB0
        go_wp2
        go_roundw
        case rel => exact ⟨k + 1, by go_num, by omega, by rw [HS.out]; exact HO.out, HB1.out⟩
        case measure => simp [intOf]; omega
    · obtain rfl : k = n := by omega
      as_aux_lemma =>
      obtain ⟨av, cv, rfl, hvc, hsv⟩ := own_sl (enc := strC) (size := 1) (fun _ => rfl) (by decide) HO.out
      have HSV := Lib.hid hsv; have HVC := Lib.hid hvc
      clear hsv hvc
      have HOZ : Hid (outK l g k = outK l g l.length) := Lib.hid (by rw [HN.out])
      clear HO
      generalize outK l g k = Z at *
      go_wp2
      go_loopw [8] (fun i wr => ∃ j : Nat, i = .int .i64 j ∧ j ≤ m ∧ okK l g j = true ∧ Sl strC 1 wr av Z ∧ Below w.heap.size w wr) (fun i _ => m - (intOf i).toNat)
      case atStart => exact ⟨0, rfl, by omega, rfl, HSV.out, HBW.out⟩
      case round =>
        obtain ⟨j, rfl, hj, hok, hsv, hbw⟩ := hrel
        have HOK := Lib.hid hok; have HSJ := Lib.hid hsv; have HBJ := Lib.hid hbw
        clear hok hsv hbw
        by_cases hlt : j < m
        · as_aux_lemma =>
          have hjl : j < g.length := by rw [← HM.out]; exact hlt
          obtain ⟨b2, o, rfl, hb, hc⟩ := sl_one HB.out j hjl
          have HCC : Hid (∀ W, Below w.heap.size w W → W.cell? ⟨b2, o + j, none⟩ = some (.string g[j])) := Lib.hid (fun W h => (h.cell (p := ⟨b2, o + j, none⟩) hb).trans hc)
          clear hc
          have T1 : Hid (∀ W, Below w.heap.size w W → Calls Try.prog 10 #[.slice a k c, .string g[j]] W fun e w' => e = .returned (.int .i64 (cnt l g[j])) ∧ w' = W) := Lib.hid (fun W h => by
            have := count_any l g[j] a c W (HA.out.keep h) (by rw [← HN.out]; omega)
            rw [← HN.out] at this
            exact this)
          have T2 : Hid (∀ W, Below w.heap.size w W → Calls Try.prog 10 #[.slice (some ⟨b2, o, none⟩) m d, .string g[j]] W fun e w' => e = .returned (.int .i64 (cnt g g[j])) ∧ w' = W) := Lib.hid (fun W h => by
            have := count_any g g[j] (some ⟨b2, o, none⟩) d W (HB.out.keep h) (by rw [← HM.out]; omega)
            rw [← HM.out] at this
            exact this)
          have HK1 := Lib.hid (okK_succ l g j hjl)
          have HNO := Lib.hid (okB_no (l := l) (gone := g) j hjl)
          obtain ⟨C, hC⟩ : ∃ C : Nat, C = cnt l g[j] := ⟨_, rfl⟩
          obtain ⟨D, hD⟩ : ∃ D : Nat, D = cnt g g[j] := ⟨_, rfl⟩
          rw [← hC] at T1
          rw [← hD] at T2
          rw [← hC, ← hD] at HK1 HNO
          clear hC hD
          generalize g[j] = t at *
          have d1 : (j : Int) < (m : Int) := by omega
          have d0 : (0 : Int) ≤ (j : Int) := by omega
          have hB0 := HBJ.out
          by_cases hz : C < D
          · have d3 : decide (C < D) = true := decide_eq_true hz
            have HOB := Lib.hid (HNO.out hz)
            clear hz
            go_wp2
            refine wp_region_held_drew (S := fun w' => Below w.heap.size w w') (by kernel_rfl) (by ((repeat (first | exact Below.refl _ _ | (with_reducible assumption) | refine Below.setCell ?_ (by simp <;> omega) _ | refine Below.alloc ?_ (by simp <;> omega) _ | refine Below.drew ?_ | refine below_drewN ?_ _)))) (fun hHeld => ?_)
            refine wpAnyH_take (i := 0) (oi := { dst := some 43, op := Go.Op.move (Go.Operand.tmp 0), type := 26, pos := "law.go:46", after := #[], guard := none }) (v := ?_) rfl (by kernel_rfl) (by kernel_rfl) (by kernel_rfl) (fun _ _ _ h => h) (Or.inl ⟨by rfl, ?_⟩) (by assumption) ?_
            (rotate_left; focus (intro wS hSw; have s0 := HCC.out wS hSw; clear hSw; go_simp; (try rw [if_neg (by omega)]); try with_reducible rfl))
            (try simp only [Act.put, List.setIfInBounds_toArray, List.set_cons_zero, List.set_cons_succ])
            refine wpAnyH_take (i := 1) (oi := { dst := some 44, op := Go.Op.move (Go.Operand.tmp 1), type := 26, pos := "law.go:46", after := #[], guard := none }) (v := ?_) rfl (by kernel_rfl) (by kernel_rfl) (by kernel_rfl) (fun _ _ _ h => h) (Or.inl ⟨by rfl, ?_⟩) (by assumption) ?_
            (rotate_left; focus (intro wS hSw; have s0 := HCC.out wS hSw; clear hSw; go_simp; (try rw [if_neg (by omega)]); try with_reducible rfl))
            (try simp only [Act.put, List.setIfInBounds_toArray, List.set_cons_zero, List.set_cons_succ])
            refine wpAnyH_take (i := 2) (oi := { dst := some 45, op := Go.Op.move (Go.Operand.tmp 8), type := 3, pos := "law.go:46", after := #[], guard := none }) (v := ?_) rfl (by kernel_rfl) (by kernel_rfl) (by kernel_rfl) (fun _ _ _ h => h) (Or.inl ⟨by rfl, ?_⟩) (by assumption) ?_
            (rotate_left; focus (intro wS hSw; have s0 := HCC.out wS hSw; clear hSw; go_simp; (try rw [if_neg (by omega)]); try with_reducible rfl))
            (try simp only [Act.put, List.setIfInBounds_toArray, List.set_cons_zero, List.set_cons_succ])
            refine wpAnyH_take (i := 3) (oi := { dst := some 46, op := Go.Op.indexAddr 26 (Go.Operand.tmp 44) (Go.Operand.tmp 45), type := 0, pos := "law.go:46", after := #[{ on := 1, ground := Go.Ground.data }, { on := 2, ground := Go.Ground.data }], guard := none }) (v := ?_) rfl (by kernel_rfl) (by kernel_rfl) (by kernel_rfl) (fun _ _ _ h => h) (Or.inl ⟨by rfl, ?_⟩) (by assumption) ?_
            (rotate_left; focus (intro wS hSw; have s0 := HCC.out wS hSw; clear hSw; go_simp; (try rw [if_neg (by omega)]); try with_reducible rfl))
            (try simp only [Act.put, List.setIfInBounds_toArray, List.set_cons_zero, List.set_cons_succ])
            refine wpAnyH_take (i := 4) (oi := { dst := some 47, op := Go.Op.load 9 (Go.Operand.tmp 46), type := 9, pos := "law.go:46", after := #[{ on := 3, ground := Go.Ground.data }], guard := none }) (v := ?_) rfl (by kernel_rfl) (by kernel_rfl) (by kernel_rfl) (fun _ _ _ h => h) (Or.inl ⟨by rfl, ?_⟩) (by assumption) ?_
            (rotate_left; focus (intro wS hSw; have s0 := HCC.out wS hSw; clear hSw; go_simp; (try rw [if_neg (by omega)]); try with_reducible rfl))
            (try simp only [Act.put, List.setIfInBounds_toArray, List.set_cons_zero, List.set_cons_succ])
            refine wpAnyH_take (i := 6) (oi := { dst := some 49, op := Go.Op.move (Go.Operand.tmp 1), type := 26, pos := "law.go:46", after := #[], guard := none }) (v := ?_) rfl (by kernel_rfl) (by kernel_rfl) (by kernel_rfl) (fun _ _ _ h => h) (Or.inl ⟨by rfl, ?_⟩) (by assumption) ?_
            (rotate_left; focus (intro wS hSw; have s0 := HCC.out wS hSw; clear hSw; go_simp; (try rw [if_neg (by omega)]); try with_reducible rfl))
            (try simp only [Act.put, List.setIfInBounds_toArray, List.set_cons_zero, List.set_cons_succ])
            refine wpAnyH_take (i := 7) (oi := { dst := some 50, op := Go.Op.move (Go.Operand.tmp 1), type := 26, pos := "law.go:46", after := #[], guard := none }) (v := ?_) rfl (by kernel_rfl) (by kernel_rfl) (by kernel_rfl) (fun _ _ _ h => h) (Or.inl ⟨by rfl, ?_⟩) (by assumption) ?_
            (rotate_left; focus (intro wS hSw; have s0 := HCC.out wS hSw; clear hSw; go_simp; (try rw [if_neg (by omega)]); try with_reducible rfl))
            (try simp only [Act.put, List.setIfInBounds_toArray, List.set_cons_zero, List.set_cons_succ])
            refine wpAnyH_take (i := 8) (oi := { dst := some 51, op := Go.Op.move (Go.Operand.tmp 8), type := 3, pos := "law.go:46", after := #[], guard := none }) (v := ?_) rfl (by kernel_rfl) (by kernel_rfl) (by kernel_rfl) (fun _ _ _ h => h) (Or.inl ⟨by rfl, ?_⟩) (by assumption) ?_
            (rotate_left; focus (intro wS hSw; have s0 := HCC.out wS hSw; clear hSw; go_simp; (try rw [if_neg (by omega)]); try with_reducible rfl))
            (try simp only [Act.put, List.setIfInBounds_toArray, List.set_cons_zero, List.set_cons_succ])
            refine wpAnyH_take (i := 9) (oi := { dst := some 52, op := Go.Op.indexAddr 26 (Go.Operand.tmp 50) (Go.Operand.tmp 51), type := 0, pos := "law.go:46", after := #[{ on := 7, ground := Go.Ground.data }, { on := 8, ground := Go.Ground.data }], guard := none }) (v := ?_) rfl (by kernel_rfl) (by kernel_rfl) (by kernel_rfl) (fun _ _ _ h => h) (Or.inl ⟨by rfl, ?_⟩) (by assumption) ?_
            (rotate_left; focus (intro wS hSw; have s0 := HCC.out wS hSw; clear hSw; go_simp; (try rw [if_neg (by omega)]); try with_reducible rfl))
            (try simp only [Act.put, List.setIfInBounds_toArray, List.set_cons_zero, List.set_cons_succ])
            refine wpAnyH_take (i := 10) (oi := { dst := some 53, op := Go.Op.load 9 (Go.Operand.tmp 52), type := 9, pos := "law.go:46", after := #[{ on := 9, ground := Go.Ground.data }], guard := none }) (v := ?_) rfl (by kernel_rfl) (by kernel_rfl) (by kernel_rfl) (fun _ _ _ h => h) (Or.inl ⟨by rfl, ?_⟩) (by assumption) ?_
            (rotate_left; focus (intro wS hSw; have s0 := HCC.out wS hSw; clear hSw; go_simp; (try rw [if_neg (by omega)]); try with_reducible rfl))
            (try simp only [Act.put, List.setIfInBounds_toArray, List.set_cons_zero, List.set_cons_succ])
            refine wpAnyH_ready (rs := [5]) (by kernel_rfl) (by simp) ?_
            refine AllReadyH.cons (o := { dst := some 48, op := Go.Op.call { callee := Go.Callee.value (Go.Operand.func 10), args := #[Go.Operand.tmp 43, Go.Operand.tmp 47], argTypes := #[26, 9] }, type := 3, pos := "law.go:46", after := #[{ on := 0, ground := Go.Ground.data }, { on := 4, ground := Go.Ground.data }], guard := none }) rfl (fun K hK => ?_) AllReadyH.nil
            go_simp
            refine (T1.out _ hHeld).mono ?_
            rintro e x1 ⟨rfl, hx⟩
            subst hx
            (try go_wp2_with fail)
            refine hK.out _ _ (by ((repeat (first | exact Below.refl _ _ | (with_reducible assumption) | refine Below.setCell ?_ (by simp <;> omega) _ | refine Below.alloc ?_ (by simp <;> omega) _ | refine Below.drew ?_ | refine below_drewN ?_ _)))) (fun hHeld => ?_)
            clear hK K
            (try simp only [Act.put, List.setIfInBounds_toArray, List.set_cons_zero, List.set_cons_succ])
            refine wpAnyH_ready (rs := [11]) (by kernel_rfl) (by simp) ?_
            refine AllReadyH.cons (o := { dst := some 54, op := Go.Op.call { callee := Go.Callee.value (Go.Operand.func 10), args := #[Go.Operand.tmp 49, Go.Operand.tmp 53], argTypes := #[26, 9] }, type := 3, pos := "law.go:46", after := #[{ on := 6, ground := Go.Ground.data }, { on := 10, ground := Go.Ground.data }, { on := 5, ground := Go.Ground.chain }], guard := none }) rfl (fun K hK => ?_) AllReadyH.nil
            go_simp
            refine (T2.out _ hHeld).mono ?_
            rintro e x2 ⟨rfl, hx⟩
            subst hx
            (try go_wp2_with fail)
            refine hK.out _ _ (by ((repeat (first | exact Below.refl _ _ | (with_reducible assumption) | refine Below.setCell ?_ (by simp <;> omega) _ | refine Below.alloc ?_ (by simp <;> omega) _ | refine Below.drew ?_ | refine below_drewN ?_ _)))) (fun hHeld => ?_)
            clear hK K
            (try simp only [Act.put, List.setIfInBounds_toArray, List.set_cons_zero, List.set_cons_succ])
            refine wpAnyH_take (i := 12) (oi := { dst := some 55, op := Go.Op.binOp Go.BinOp.lss 3 (Go.Operand.tmp 48) (Go.Operand.tmp 54) 3, type := 4, pos := "law.go:46", after := #[{ on := 5, ground := Go.Ground.data }, { on := 11, ground := Go.Ground.data }], guard := none }) (v := ?_) rfl (by kernel_rfl) (by kernel_rfl) (by kernel_rfl) (fun _ _ _ h => h) (Or.inl ⟨by rfl, ?_⟩) (by assumption) ?_
            (rotate_left; focus (intro wS hSw; have s0 := HCC.out wS hSw; clear hSw; go_simp; (try rw [if_neg (by omega)]); try with_reducible rfl))
            (try simp only [Act.put, List.setIfInBounds_toArray, List.set_cons_zero, List.set_cons_succ])
            refine wpAnyH_done (by kernel_rfl) ?_ _
            have HB1 : Hid (Below w.heap.size w wr.drew) := Lib.hid hB0.drew
            clear hB0
            go_wp2
            go_ret2
            have hx : outL l g = l := by unfold outL; rw [HOB.out]; rfl
            rw [HOB.out, hx, ← HN.out]
            exact ⟨_, _, rfl, hlc, HA.out.keep HB1.out, HB1.out⟩
          · have d3 : decide (C < D) = false := decide_eq_false hz
            have HK2 : Hid (okK l g (j + 1) = true) := Lib.hid (by rw [HK1.out, HOK.out, decide_eq_true (by omega)]; rfl)
            clear hz
            go_wp2
            refine wp_region_held_drew (S := fun w' => Below w.heap.size w w') (by kernel_rfl) (by ((repeat (first | exact Below.refl _ _ | (with_reducible assumption) | refine Below.setCell ?_ (by simp <;> omega) _ | refine Below.alloc ?_ (by simp <;> omega) _ | refine Below.drew ?_ | refine below_drewN ?_ _)))) (fun hHeld => ?_)
            refine wpAnyH_take (i := 0) (oi := { dst := some 43, op := Go.Op.move (Go.Operand.tmp 0), type := 26, pos := "law.go:46", after := #[], guard := none }) (v := ?_) rfl (by kernel_rfl) (by kernel_rfl) (by kernel_rfl) (fun _ _ _ h => h) (Or.inl ⟨by rfl, ?_⟩) (by assumption) ?_
            (rotate_left; focus (intro wS hSw; have s0 := HCC.out wS hSw; clear hSw; go_simp; (try rw [if_neg (by omega)]); try with_reducible rfl))
            (try simp only [Act.put, List.setIfInBounds_toArray, List.set_cons_zero, List.set_cons_succ])
            refine wpAnyH_take (i := 1) (oi := { dst := some 44, op := Go.Op.move (Go.Operand.tmp 1), type := 26, pos := "law.go:46", after := #[], guard := none }) (v := ?_) rfl (by kernel_rfl) (by kernel_rfl) (by kernel_rfl) (fun _ _ _ h => h) (Or.inl ⟨by rfl, ?_⟩) (by assumption) ?_
            (rotate_left; focus (intro wS hSw; have s0 := HCC.out wS hSw; clear hSw; go_simp; (try rw [if_neg (by omega)]); try with_reducible rfl))
            (try simp only [Act.put, List.setIfInBounds_toArray, List.set_cons_zero, List.set_cons_succ])
            refine wpAnyH_take (i := 2) (oi := { dst := some 45, op := Go.Op.move (Go.Operand.tmp 8), type := 3, pos := "law.go:46", after := #[], guard := none }) (v := ?_) rfl (by kernel_rfl) (by kernel_rfl) (by kernel_rfl) (fun _ _ _ h => h) (Or.inl ⟨by rfl, ?_⟩) (by assumption) ?_
            (rotate_left; focus (intro wS hSw; have s0 := HCC.out wS hSw; clear hSw; go_simp; (try rw [if_neg (by omega)]); try with_reducible rfl))
            (try simp only [Act.put, List.setIfInBounds_toArray, List.set_cons_zero, List.set_cons_succ])
            refine wpAnyH_take (i := 3) (oi := { dst := some 46, op := Go.Op.indexAddr 26 (Go.Operand.tmp 44) (Go.Operand.tmp 45), type := 0, pos := "law.go:46", after := #[{ on := 1, ground := Go.Ground.data }, { on := 2, ground := Go.Ground.data }], guard := none }) (v := ?_) rfl (by kernel_rfl) (by kernel_rfl) (by kernel_rfl) (fun _ _ _ h => h) (Or.inl ⟨by rfl, ?_⟩) (by assumption) ?_
            (rotate_left; focus (intro wS hSw; have s0 := HCC.out wS hSw; clear hSw; go_simp; (try rw [if_neg (by omega)]); try with_reducible rfl))
            (try simp only [Act.put, List.setIfInBounds_toArray, List.set_cons_zero, List.set_cons_succ])
            refine wpAnyH_take (i := 4) (oi := { dst := some 47, op := Go.Op.load 9 (Go.Operand.tmp 46), type := 9, pos := "law.go:46", after := #[{ on := 3, ground := Go.Ground.data }], guard := none }) (v := ?_) rfl (by kernel_rfl) (by kernel_rfl) (by kernel_rfl) (fun _ _ _ h => h) (Or.inl ⟨by rfl, ?_⟩) (by assumption) ?_
            (rotate_left; focus (intro wS hSw; have s0 := HCC.out wS hSw; clear hSw; go_simp; (try rw [if_neg (by omega)]); try with_reducible rfl))
            (try simp only [Act.put, List.setIfInBounds_toArray, List.set_cons_zero, List.set_cons_succ])
            refine wpAnyH_take (i := 6) (oi := { dst := some 49, op := Go.Op.move (Go.Operand.tmp 1), type := 26, pos := "law.go:46", after := #[], guard := none }) (v := ?_) rfl (by kernel_rfl) (by kernel_rfl) (by kernel_rfl) (fun _ _ _ h => h) (Or.inl ⟨by rfl, ?_⟩) (by assumption) ?_
            (rotate_left; focus (intro wS hSw; have s0 := HCC.out wS hSw; clear hSw; go_simp; (try rw [if_neg (by omega)]); try with_reducible rfl))
            (try simp only [Act.put, List.setIfInBounds_toArray, List.set_cons_zero, List.set_cons_succ])
            refine wpAnyH_take (i := 7) (oi := { dst := some 50, op := Go.Op.move (Go.Operand.tmp 1), type := 26, pos := "law.go:46", after := #[], guard := none }) (v := ?_) rfl (by kernel_rfl) (by kernel_rfl) (by kernel_rfl) (fun _ _ _ h => h) (Or.inl ⟨by rfl, ?_⟩) (by assumption) ?_
            (rotate_left; focus (intro wS hSw; have s0 := HCC.out wS hSw; clear hSw; go_simp; (try rw [if_neg (by omega)]); try with_reducible rfl))
            (try simp only [Act.put, List.setIfInBounds_toArray, List.set_cons_zero, List.set_cons_succ])
            refine wpAnyH_take (i := 8) (oi := { dst := some 51, op := Go.Op.move (Go.Operand.tmp 8), type := 3, pos := "law.go:46", after := #[], guard := none }) (v := ?_) rfl (by kernel_rfl) (by kernel_rfl) (by kernel_rfl) (fun _ _ _ h => h) (Or.inl ⟨by rfl, ?_⟩) (by assumption) ?_
            (rotate_left; focus (intro wS hSw; have s0 := HCC.out wS hSw; clear hSw; go_simp; (try rw [if_neg (by omega)]); try with_reducible rfl))
            (try simp only [Act.put, List.setIfInBounds_toArray, List.set_cons_zero, List.set_cons_succ])
            refine wpAnyH_take (i := 9) (oi := { dst := some 52, op := Go.Op.indexAddr 26 (Go.Operand.tmp 50) (Go.Operand.tmp 51), type := 0, pos := "law.go:46", after := #[{ on := 7, ground := Go.Ground.data }, { on := 8, ground := Go.Ground.data }], guard := none }) (v := ?_) rfl (by kernel_rfl) (by kernel_rfl) (by kernel_rfl) (fun _ _ _ h => h) (Or.inl ⟨by rfl, ?_⟩) (by assumption) ?_
            (rotate_left; focus (intro wS hSw; have s0 := HCC.out wS hSw; clear hSw; go_simp; (try rw [if_neg (by omega)]); try with_reducible rfl))
            (try simp only [Act.put, List.setIfInBounds_toArray, List.set_cons_zero, List.set_cons_succ])
            refine wpAnyH_take (i := 10) (oi := { dst := some 53, op := Go.Op.load 9 (Go.Operand.tmp 52), type := 9, pos := "law.go:46", after := #[{ on := 9, ground := Go.Ground.data }], guard := none }) (v := ?_) rfl (by kernel_rfl) (by kernel_rfl) (by kernel_rfl) (fun _ _ _ h => h) (Or.inl ⟨by rfl, ?_⟩) (by assumption) ?_
            (rotate_left; focus (intro wS hSw; have s0 := HCC.out wS hSw; clear hSw; go_simp; (try rw [if_neg (by omega)]); try with_reducible rfl))
            (try simp only [Act.put, List.setIfInBounds_toArray, List.set_cons_zero, List.set_cons_succ])
            refine wpAnyH_ready (rs := [5]) (by kernel_rfl) (by simp) ?_
            refine AllReadyH.cons (o := { dst := some 48, op := Go.Op.call { callee := Go.Callee.value (Go.Operand.func 10), args := #[Go.Operand.tmp 43, Go.Operand.tmp 47], argTypes := #[26, 9] }, type := 3, pos := "law.go:46", after := #[{ on := 0, ground := Go.Ground.data }, { on := 4, ground := Go.Ground.data }], guard := none }) rfl (fun K hK => ?_) AllReadyH.nil
            go_simp
            refine (T1.out _ hHeld).mono ?_
            rintro e x1 ⟨rfl, hx⟩
            subst hx
            (try go_wp2_with fail)
            refine hK.out _ _ (by ((repeat (first | exact Below.refl _ _ | (with_reducible assumption) | refine Below.setCell ?_ (by simp <;> omega) _ | refine Below.alloc ?_ (by simp <;> omega) _ | refine Below.drew ?_ | refine below_drewN ?_ _)))) (fun hHeld => ?_)
            clear hK K
            (try simp only [Act.put, List.setIfInBounds_toArray, List.set_cons_zero, List.set_cons_succ])
            refine wpAnyH_ready (rs := [11]) (by kernel_rfl) (by simp) ?_
            refine AllReadyH.cons (o := { dst := some 54, op := Go.Op.call { callee := Go.Callee.value (Go.Operand.func 10), args := #[Go.Operand.tmp 49, Go.Operand.tmp 53], argTypes := #[26, 9] }, type := 3, pos := "law.go:46", after := #[{ on := 6, ground := Go.Ground.data }, { on := 10, ground := Go.Ground.data }, { on := 5, ground := Go.Ground.chain }], guard := none }) rfl (fun K hK => ?_) AllReadyH.nil
            go_simp
            refine (T2.out _ hHeld).mono ?_
            rintro e x2 ⟨rfl, hx⟩
            subst hx
            (try go_wp2_with fail)
            refine hK.out _ _ (by ((repeat (first | exact Below.refl _ _ | (with_reducible assumption) | refine Below.setCell ?_ (by simp <;> omega) _ | refine Below.alloc ?_ (by simp <;> omega) _ | refine Below.drew ?_ | refine below_drewN ?_ _)))) (fun hHeld => ?_)
            clear hK K
            (try simp only [Act.put, List.setIfInBounds_toArray, List.set_cons_zero, List.set_cons_succ])
            refine wpAnyH_take (i := 12) (oi := { dst := some 55, op := Go.Op.binOp Go.BinOp.lss 3 (Go.Operand.tmp 48) (Go.Operand.tmp 54) 3, type := 4, pos := "law.go:46", after := #[{ on := 5, ground := Go.Ground.data }, { on := 11, ground := Go.Ground.data }], guard := none }) (v := ?_) rfl (by kernel_rfl) (by kernel_rfl) (by kernel_rfl) (fun _ _ _ h => h) (Or.inl ⟨by rfl, ?_⟩) (by assumption) ?_
            (rotate_left; focus (intro wS hSw; have s0 := HCC.out wS hSw; clear hSw; go_simp; (try rw [if_neg (by omega)]); try with_reducible rfl))
            (try simp only [Act.put, List.setIfInBounds_toArray, List.set_cons_zero, List.set_cons_succ])
            refine wpAnyH_done (by kernel_rfl) ?_ _
            have HB1 : Hid (Below w.heap.size w wr.drew) := Lib.hid hB0.drew
            clear hB0
            go_wp2
            go_roundw
            case rel => exact ⟨j + 1, by go_num, by omega, HK2.out, HSJ.out, HB1.out⟩
            case measure => simp [intOf]; omega
        · obtain rfl : j = m := by omega
          have HOB : Hid (okB l g = true) := Lib.hid (by rw [← okK_all, ← HM.out]; exact HOK.out)
          go_wp2
          go_ret2
          have hx : outL l g = Z := by unfold outL; rw [HOB.out, HOZ.out]; rfl
          rw [HOB.out, hx]
          exact ⟨_, _, rfl, HVC.out, HSJ.out, HBJ.out⟩
end Go.Proofs.Ytopifdcokfdhlaa

