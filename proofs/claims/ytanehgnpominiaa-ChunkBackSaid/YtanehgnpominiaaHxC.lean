/-
  The contracts of the law's own Put, of hexa's Read, and of the law's own Read.
-/
import Derived.Test.YtanehgnpominiaaHxB
set_option linter.unusedVariables false
set_option linter.unusedSimpArgs false
set_option maxRecDepth 100000
namespace Go.Proofs.Ytanehgnpominiaa
open Go.RowKit
set_option maxHeartbeats 2000000 in
theorem rput_any (s : ByteArray) (w : World) (hs : s.size ≤ 1099511627) : Calls Try.prog 45 #[.string s] w fun e w' => e = .returned (.string (putV s)) ∧ Below w.heap.size w w' := by
  obtain ⟨i0, hi, hz0, hz1, hz2⟩ := info_parts infoB8
  have HPV : Hid (putV s = txB (putL (byB s))) := Lib.hid rfl
  go_enter Try.func45, Try.ntmps45
  go_wp2
  go_loopw [3, 4] (fun v i wr => ∃ k : Nat, i = .int .i64 k ∧ k ≤ s.size ∧ wr.ownsRow w.heap.size 5 1 v (2 * k) (rowB (putL ((byB s).take k))) ∧ Below w.heap.size w wr) (fun _ i _ => s.size - (intOf i).toNat)
  case atStart => exact ⟨0, rfl, by omega, own_nil _ _ _ _, Below.refl _ _⟩
  case round =>
    obtain ⟨k, rfl, hk, ho, hb⟩ := hrel
    obtain ⟨a, cp, rfl, hcap⟩ := own_shape ho
    have HO := Lib.hid ho
    have HB := Lib.hid hb
    clear ho hb
    by_cases hlt : k < s.size
    · have d1 : (k : Int) < (s.size : Int) := by omega
      have d2 : (0 : Int) ≤ (k : Int) := by omega
      have hx := (s[k]'hlt).toNat_lt
      have HTK := Lib.hid (take_byB s k hlt)
      obtain ⟨x, hxx⟩ : ∃ x, x = (s[k]'hlt).toNat := ⟨_, rfl⟩
      have hxx2 : ((s[k]'hlt).toNat : Int) = (x : Int) := by rw [hxx]
      rw [← hxx] at hx HTK
      obtain ⟨q, hq⟩ : ∃ q, q = x / 16 := ⟨_, rfl⟩
      obtain ⟨r, hr⟩ : ∃ r, r = x % 16 := ⟨_, rfl⟩
      have t1 : Int.tdiv (x : Int) 16 = (q : Int) := by rw [Int.tdiv_eq_ediv_of_nonneg (by omega)]; omega
      have t2 : Int.tmod (x : Int) 16 = (r : Int) := by rw [Int.tmod_eq_emod_of_nonneg (by omega)]; omega
      have u1 : IntKind.u8.wrap (q : Int) = (q : Int) := by rw [IntKind.wrap_u8']; omega
      have u2 : IntKind.u8.wrap (r : Int) = (r : Int) := by rw [IntKind.wrap_u8']; omega
      have HPW : Hid (putW x = [dgN q, dgN r]) := Lib.hid (by rw [hq, hr]; rfl)
      have T1 : Hid (∀ w, Calls Try.prog 63 #[.int .u8 (q : Int)] w fun e w' => e = .returned (.int .u8 (dgN q : Nat)) ∧ w = w') := Lib.hid (fun w => digit_any q (by omega) w)
      have T2 : Hid (∀ w, Calls Try.prog 63 #[.int .u8 (r : Int)] w fun e w' => e = .returned (.int .u8 (dgN r : Nat)) ∧ w = w') := Lib.hid (fun w => digit_any r (by omega) w)
      obtain ⟨g1, hg1⟩ : ∃ g, g = dgN q := ⟨_, rfl⟩
      obtain ⟨g2, hg2⟩ : ∃ g, g = dgN r := ⟨_, rfl⟩
      rw [← hg1] at T1 HPW
      rw [← hg2] at T2 HPW
      clear hxx hq hr hg1 hg2
      go_wp2
      refine wp_region_held_drew (S := fun _ => True) (by kernel_rfl) (trivial) (fun hHeld => ?_)
      refine wpAnyH_take (i := 0) (oi := { dst := some 11, op := Go.Op.move (Go.Operand.tmp 3), type := 76, pos := "ref.go:21", after := #[], guard := none }) (v := ?_) rfl (by kernel_rfl) (by kernel_rfl) (by kernel_rfl) (fun _ _ _ h => h) (Or.inl ⟨by rfl, ?_⟩) (by assumption) ?_
      (rotate_left; focus (intro wS hSw; (try dsimp only at hSw); go_simp; (try rw [if_neg (by omega)]); try with_reducible rfl))
      (try simp only [Act.put, List.setIfInBounds_toArray, List.set_cons_zero, List.set_cons_succ])
      refine wpAnyH_take (i := 1) (oi := { dst := some 12, op := Go.Op.move (Go.Operand.tmp 0), type := 9, pos := "ref.go:21", after := #[], guard := none }) (v := ?_) rfl (by kernel_rfl) (by kernel_rfl) (by kernel_rfl) (fun _ _ _ h => h) (Or.inl ⟨by rfl, ?_⟩) (by assumption) ?_
      (rotate_left; focus (intro wS hSw; (try dsimp only at hSw); go_simp; (try rw [if_neg (by omega)]); try with_reducible rfl))
      (try simp only [Act.put, List.setIfInBounds_toArray, List.set_cons_zero, List.set_cons_succ])
      refine wpAnyH_take (i := 2) (oi := { dst := some 13, op := Go.Op.move (Go.Operand.tmp 4), type := 3, pos := "ref.go:21", after := #[], guard := none }) (v := ?_) rfl (by kernel_rfl) (by kernel_rfl) (by kernel_rfl) (fun _ _ _ h => h) (Or.inl ⟨by rfl, ?_⟩) (by assumption) ?_
      (rotate_left; focus (intro wS hSw; (try dsimp only at hSw); go_simp; (try rw [if_neg (by omega)]); try with_reducible rfl))
      (try simp only [Act.put, List.setIfInBounds_toArray, List.set_cons_zero, List.set_cons_succ])
      refine wpAnyH_take (i := 3) (oi := { dst := some 14, op := Go.Op.index 9 (Go.Operand.tmp 12) (Go.Operand.tmp 13), type := 5, pos := "ref.go:21", after := #[{ on := 1, ground := Go.Ground.data }, { on := 2, ground := Go.Ground.data }], guard := none }) (v := ?_) rfl (by kernel_rfl) (by kernel_rfl) (by kernel_rfl) (fun _ _ _ h => h) (Or.inl ⟨by rfl, ?_⟩) (by assumption) ?_
      (rotate_left; focus (intro wS hSw; (try dsimp only at hSw); go_simp; (try rw [if_neg (by omega)]); try with_reducible rfl))
      (try simp only [Act.put, List.setIfInBounds_toArray, List.set_cons_zero, List.set_cons_succ])
      refine wpAnyH_take (i := 4) (oi := { dst := some 15, op := Go.Op.binOp Go.BinOp.quo 5 (Go.Operand.tmp 14) (Go.Operand.const (Go.Value.int Go.IntKind.u8 16)) 5, type := 5, pos := "ref.go:21", after := #[{ on := 3, ground := Go.Ground.data }], guard := none }) (v := ?_) rfl (by kernel_rfl) (by kernel_rfl) (by kernel_rfl) (fun _ _ _ h => h) (Or.inl ⟨by rfl, ?_⟩) (by assumption) ?_
      (rotate_left; focus (intro wS hSw; (try dsimp only at hSw); go_simp; (try rw [if_neg (by omega)]); try with_reducible rfl))
      (try simp only [Act.put, List.setIfInBounds_toArray, List.set_cons_zero, List.set_cons_succ])
      refine wpAnyH_take (i := 6) (oi := { dst := some 17, op := Go.Op.move (Go.Operand.tmp 0), type := 9, pos := "ref.go:21", after := #[], guard := none }) (v := ?_) rfl (by kernel_rfl) (by kernel_rfl) (by kernel_rfl) (fun _ _ _ h => h) (Or.inl ⟨by rfl, ?_⟩) (by assumption) ?_
      (rotate_left; focus (intro wS hSw; (try dsimp only at hSw); go_simp; (try rw [if_neg (by omega)]); try with_reducible rfl))
      (try simp only [Act.put, List.setIfInBounds_toArray, List.set_cons_zero, List.set_cons_succ])
      refine wpAnyH_take (i := 7) (oi := { dst := some 18, op := Go.Op.move (Go.Operand.tmp 4), type := 3, pos := "ref.go:21", after := #[], guard := none }) (v := ?_) rfl (by kernel_rfl) (by kernel_rfl) (by kernel_rfl) (fun _ _ _ h => h) (Or.inl ⟨by rfl, ?_⟩) (by assumption) ?_
      (rotate_left; focus (intro wS hSw; (try dsimp only at hSw); go_simp; (try rw [if_neg (by omega)]); try with_reducible rfl))
      (try simp only [Act.put, List.setIfInBounds_toArray, List.set_cons_zero, List.set_cons_succ])
      refine wpAnyH_take (i := 8) (oi := { dst := some 19, op := Go.Op.index 9 (Go.Operand.tmp 17) (Go.Operand.tmp 18), type := 5, pos := "ref.go:21", after := #[{ on := 6, ground := Go.Ground.data }, { on := 7, ground := Go.Ground.data }], guard := none }) (v := ?_) rfl (by kernel_rfl) (by kernel_rfl) (by kernel_rfl) (fun _ _ _ h => h) (Or.inl ⟨by rfl, ?_⟩) (by assumption) ?_
      (rotate_left; focus (intro wS hSw; (try dsimp only at hSw); go_simp; (try rw [if_neg (by omega)]); try with_reducible rfl))
      (try simp only [Act.put, List.setIfInBounds_toArray, List.set_cons_zero, List.set_cons_succ])
      refine wpAnyH_take (i := 9) (oi := { dst := some 20, op := Go.Op.binOp Go.BinOp.rem 5 (Go.Operand.tmp 19) (Go.Operand.const (Go.Value.int Go.IntKind.u8 16)) 5, type := 5, pos := "ref.go:21", after := #[{ on := 8, ground := Go.Ground.data }], guard := none }) (v := ?_) rfl (by kernel_rfl) (by kernel_rfl) (by kernel_rfl) (fun _ _ _ h => h) (Or.inl ⟨by rfl, ?_⟩) (by assumption) ?_
      (rotate_left; focus (intro wS hSw; (try dsimp only at hSw); go_simp; (try rw [if_neg (by omega)]); try with_reducible rfl))
      (try simp only [Act.put, List.setIfInBounds_toArray, List.set_cons_zero, List.set_cons_succ])
      refine wpAnyH_ready (rs := [5]) (by kernel_rfl) (by simp) ?_
      refine AllReadyH.cons (o := { dst := some 16, op := Go.Op.call { callee := Go.Callee.value (Go.Operand.func 63), args := #[Go.Operand.tmp 15], argTypes := #[5] }, type := 5, pos := "ref.go:21", after := #[{ on := 4, ground := Go.Ground.data }], guard := none }) rfl (fun K hK => ?_) AllReadyH.nil
      go_simp
      refine (T1.out _).mono ?_
      rintro e v1 ⟨rfl, rfl⟩
      (try go_wp2_with fail)
      refine hK.out _ _ (trivial) (fun hHeld => ?_)
      clear hK K
      (try simp only [Act.put, List.setIfInBounds_toArray, List.set_cons_zero, List.set_cons_succ])
      refine wpAnyH_ready (rs := [10]) (by kernel_rfl) (by simp) ?_
      refine AllReadyH.cons (o := { dst := some 21, op := Go.Op.call { callee := Go.Callee.value (Go.Operand.func 63), args := #[Go.Operand.tmp 20], argTypes := #[5] }, type := 5, pos := "ref.go:21", after := #[{ on := 9, ground := Go.Ground.data }, { on := 5, ground := Go.Ground.chain }], guard := none }) rfl (fun K hK => ?_) AllReadyH.nil
      go_simp
      refine (T2.out _).mono ?_
      rintro e v1 ⟨rfl, rfl⟩
      (try go_wp2_with fail)
      refine hK.out _ _ (trivial) (fun hHeld => ?_)
      clear hK K
      (try simp only [Act.put, List.setIfInBounds_toArray, List.set_cons_zero, List.set_cons_succ])
      refine wpAnyH_ready (rs := [11]) (by kernel_rfl) (by simp) ?_
      refine AllReadyH.cons (o := { dst := some 22, op := Go.Op.buildSlice 76 2 #[(0, Go.Operand.tmp 16), (1, Go.Operand.tmp 21)], type := 76, pos := "ref.go:21", after := #[{ on := 5, ground := Go.Ground.data }, { on := 10, ground := Go.Ground.data }], guard := none }) rfl (fun K hK => ?_) AllReadyH.nil
      go_simp
      refine hK.out _ _ (trivial) (fun hHeld => ?_)
      clear hK K
      (try simp only [Act.put, List.setIfInBounds_toArray, List.set_cons_zero, List.set_cons_succ])
      refine wpAnyH_ready (rs := [12]) (by kernel_rfl) (by simp) ?_
      refine AllReadyH.cons (o := { dst := some 23, op := Go.Op.call { callee := Go.Callee.builtin Go.Builtin.append, args := #[Go.Operand.tmp 11, Go.Operand.tmp 22], argTypes := #[76, 76] }, type := 76, pos := "ref.go:21", after := #[{ on := 0, ground := Go.Ground.data }, { on := 11, ground := Go.Ground.data }, { on := 10, ground := Go.Ground.chain }], guard := none }) rfl (fun K hK => ?_) AllReadyH.nil
      refine wp_append_own_at _ _ _ 76 rfl w.heap.size 5 i0 (.int .u8 0) 1 1 Try.underlying76 hi hz0 hz1 hz2 rfl (by decide) (.slice a (2 * k) cp) (2 * k) (rowB (putL ((byB s).take k))) rfl (HO.out.alloc _) ⟨wr.heap.size, 0, none⟩ 2 2 [.int .u8 (g1 : Int), .int .u8 (g2 : Int)] rfl rfl (fun j u hj => new_cells wr _ _ j u hj) (fun u hu => by simp at hu; rcases hu with rfl | rfl <;> rfl) (by unfold maxLen; omega) (by omega) (by have := HB.out.size; simp; omega) ?_
      intro v5 w5 hown5 hg5 hat5
      have HB5 : Hid (Below w.heap.size w w5) := Lib.hid ((HB.out.alloc HB.out.size _).drew.grown hg5 (by have := HB.out.size; simp; omega) (fun q hq => (HO.out.lt q hq).1))
      have HO5 : Hid (w5.ownsRow w.heap.size 5 1 v5 (2 * (k + 1)) (rowB (putL ((byB s).take (k + 1))))) := Lib.hid (by
      rw [HTK.out, putL_snoc, HPW.out, rowB_app]
      exact hown5)
      clear hown5 hg5 hat5
      refine hK.out _ _ (trivial) (fun hHeld => ?_)
      clear hK K
      (try simp only [Act.put, List.setIfInBounds_toArray, List.set_cons_zero, List.set_cons_succ])
      refine wpAnyH_take (i := 13) (oi := { dst := some 3, op := Go.Op.assign (Go.Operand.tmp 23), type := 76, pos := "ref.go:21", after := #[{ on := 12, ground := Go.Ground.data }, { on := 12, ground := Go.Ground.chain }, { on := 0, ground := Go.Ground.phase }, { on := 1, ground := Go.Ground.phase }, { on := 2, ground := Go.Ground.phase }, { on := 3, ground := Go.Ground.phase }, { on := 4, ground := Go.Ground.phase }, { on := 5, ground := Go.Ground.phase }, { on := 6, ground := Go.Ground.phase }, { on := 7, ground := Go.Ground.phase }, { on := 8, ground := Go.Ground.phase }, { on := 9, ground := Go.Ground.phase }, { on := 10, ground := Go.Ground.phase }, { on := 11, ground := Go.Ground.phase }, { on := 12, ground := Go.Ground.phase }], guard := none }) (v := ?_) rfl (by kernel_rfl) (by kernel_rfl) (by kernel_rfl) (fun _ _ _ h => h) (Or.inl ⟨by rfl, ?_⟩) (by assumption) ?_
      (rotate_left; focus (intro wS hSw; (try dsimp only at hSw); go_simp; (try rw [if_neg (by omega)]); try with_reducible rfl))
      (try simp only [Act.put, List.setIfInBounds_toArray, List.set_cons_zero, List.set_cons_succ])
      refine wpAnyH_done (by kernel_rfl) ?_ _
      all_goals
        go_wp2
        go_roundw
        case rel => exact ⟨k + 1, vint (by omega), by omega, HO5.out, HB5.out⟩
        case measure => simp [intOf]; omega
    · obtain rfl : k = s.size := by omega
      have hcv := conv_ownB HO.out (by rw [putL_len, List.length_take, byB_len, Nat.min_self])
      rw [List.take_of_length_le (by rw [byB_len]; exact Nat.le_refl _)] at hcv
      go_wp2
      go_ret
      exact ⟨by rw [HPV.out]; rfl, HB.out⟩
def readE (s : ByteArray) : Ending := .returned (.tuple #[.string (readX s).1, .int .i64 (readX s).2])
theorem byB_two (x : ByteArray) (h : 2 ≤ x.size) : byB x = (x[0]'(by omega)).toNat :: (x[1]'(by omega)).toNat :: byB (x.extract 2 x.size) := by
  have h2 : (byB x).length = x.size := byB_len x
  obtain ⟨a, b, l, hl⟩ : ∃ a b l, byB x = a :: b :: l := by
    match hq : byB x with
    | [] => rw [hq] at h2; simp at h2; omega
    | [_] => rw [hq] at h2; simp at h2; omega
    | a :: b :: l => exact ⟨a, b, l, rfl⟩
  have ha : a = (x[0]'(by omega)).toNat := by
    have h3 := byB_get x 0 (by omega)
    simp only [hl, List.getElem_cons_zero] at h3
    exact h3
  have hb : b = (x[1]'(by omega)).toNat := by
    have h3 := byB_get x 1 (by omega)
    simp only [hl, List.getElem_cons_succ, List.getElem_cons_zero] at h3
    exact h3
  have hr : byB (x.extract 2 x.size) = l := by
    rw [byB_extract, List.take_of_length_le (by rw [h2]; exact Nat.le_refl _), hl]
    rfl
  rw [hr, hl, ha, hb]
theorem halfR_some {c d : Nat} (h : halfO c = some d) : halfR c = .returned (.tuple #[.int .u8 (d : Int), .bool true]) := by unfold halfR; rw [h]
theorem halfR_none {c : Nat} (h : halfO c = none) : halfR c = .returned (.tuple #[.int .u8 0, .bool false]) := by unfold halfR; rw [h]
end Go.Proofs.Ytanehgnpominiaa

