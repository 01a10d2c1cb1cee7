/-
  The contract of the law's own Read.
-/
import Derived.Test.YtanehgnpominiaaHxD
set_option linter.unusedVariables false
set_option linter.unusedSimpArgs false
set_option maxRecDepth 100000
namespace Go.Proofs.Ytanehgnpominiaa
open Go.RowKit
theorem halfD_some {c d : Nat} (h : halfO c = some d) : halfD c = d := by unfold halfD; rw [h]; rfl
theorem halfD_none {c : Nat} (h : halfO c = none) : halfD c = 16 := by unfold halfD; rw [h]; rfl
theorem drop_two (s : ByteArray) (i : Nat) (h : i + 1 < s.size) : (byB s).drop i = (s[i]'(by omega)).toNat :: (s[i + 1]'h).toNat :: (byB s).drop (i + 2) := by
  have h2 : (byB s).length = s.size := byB_len s
  rw [List.drop_eq_getElem_cons (by omega), List.drop_eq_getElem_cons (by omega)]
  have ha := byB_get s i (by omega)
  have hb := byB_get s (i + 1) h
  rw [List.getD_eq_getElem?_getD, List.getElem?_eq_getElem (by omega)] at ha hb
  simp only [Option.getD_some] at ha hb
  rw [ha, hb]
set_option maxHeartbeats 2000000 in
theorem rread_any (s : ByteArray) (w : World) (hs : s.size ≤ 1099511627) : Calls Try.prog 59 #[.string s] w fun e w' => e = readE s ∧ Below w.heap.size w w' := by
  obtain ⟨i0, hi, hz0, hz1, hz2⟩ := info_parts infoB8
  by_cases hod : s.size % 2 = 0
  · have t1 : Int.tmod (s.size : Int) 2 = 0 := by rw [Int.tmod_eq_emod_of_nonneg (by omega)]; omega
    have hev : s.size = 2 * (s.size / 2) := by omega
    have HEV := Lib.hid hev
    clear hev
    go_enter Try.func59, Try.ntmps59
    go_wp2
    go_loopw [4, 5] (fun v iv wr => ∃ (i : Nat) (o : List Nat), iv = .int .i64 i ∧ i ≤ s.size ∧ i % 2 = 0 ∧ o.length * 2 = i ∧ wr.ownsRow w.heap.size 5 1 v o.length (rowB o) ∧ readL (byB s) = mapO o (readL ((byB s).drop i)) ∧ Below w.heap.size w wr) (fun _ i _ => s.size + 2 - (intOf i).toNat)
    case atStart => exact ⟨0, [], rfl, by omega, rfl, rfl, own_nil _ _ _ _, (by unfold mapO; rw [List.drop_zero]; cases readL (byB s) <;> simp), Below.refl _ _⟩
    case round =>
      obtain ⟨i, o, rfl, hin, hie, hol, ho, hrd, hb⟩ := hrel
      obtain ⟨a, cp, rfl, hcap⟩ := own_shape ho
      have HO := Lib.hid ho
      have HB := Lib.hid hb
      have HR := Lib.hid hrd
      clear ho hb hrd
      by_cases hz : i = s.size
      · have hxe : (byB s).drop i = [] := List.drop_eq_nil_of_le (by rw [byB_len]; omega)
        have HRE : Hid (readE s = .returned (.tuple #[.string (txB o), .int .i64 0])) := Lib.hid (by
          unfold readE
          rw [readX_ok (l := o) (by rw [HR.out, hxe, readL]; simp [mapO])])
        have hcv := conv_ownB HO.out rfl
        have d1 : ¬ ((i : Int) + 1 < (s.size : Int)) := by omega
        clear hxe
        go_wp2
        go_ret2
        rw [HRE.out]
        exact ⟨rfl, HB.out⟩
      · have hi1 : i + 1 < s.size := by omega
        have htw := drop_two s i hi1
        obtain ⟨k, hk⟩ : ∃ k, k = i + 1 := ⟨_, rfl⟩
        have hk2 : (i : Int) + 1 = (k : Int) := by omega
        have hks : k < s.size := by omega
        have d1 : (0 : Int) ≤ (i : Int) := by omega
        have d2 : (i : Int) < (s.size : Int) := by omega
        have d3 : (0 : Int) ≤ (k : Int) := by omega
        have d4 : (k : Int) < (s.size : Int) := by omega
        obtain ⟨c0, hc0⟩ : ∃ c, c = (s[i]'(by omega)).toNat := ⟨_, rfl⟩
        obtain ⟨c1, hc1⟩ : ∃ c, c = (s[k]'hks).toNat := ⟨_, rfl⟩
        have g0 : ((s[i]'(by omega)).toNat : Int) = (c0 : Int) := by rw [hc0]
        have g1 : ((s[k]'hks).toNat : Int) = (c1 : Int) := by rw [hc1]
        have hx0 := (s[i]'(by omega)).toNat_lt
        have hx1 := (s[k]'hks).toNat_lt
        rw [← hc0] at hx0
        rw [← hc1] at hx1
        have htw2 : (byB s).drop i = c0 :: c1 :: (byB s).drop (i + 2) := by rw [htw, hc0, hc1]; subst hk; rfl
        have HTW := Lib.hid htw2
        have T1 : Hid (∀ w, Calls Try.prog 71 #[.int .u8 (c0 : Int)] w fun e w' => e = .returned (.int .u8 (halfD c0 : Nat)) ∧ w = w') := Lib.hid (fun w => rhalf_any c0 hx0 w)
        have T2 : Hid (∀ w, Calls Try.prog 71 #[.int .u8 (c1 : Int)] w fun e w' => e = .returned (.int .u8 (halfD c1 : Nat)) ∧ w = w') := Lib.hid (fun w => rhalf_any c1 hx1 w)
        clear hc0 hc1 htw htw2 hk
        cases hh0 : halfO c0 with
        | none =>
          rw [halfD_none hh0] at T1
          have HRE : Hid (readE s = .returned (.tuple #[.string ⟨#[]⟩, .int .i64 5])) := Lib.hid (by
            unfold readE
            rw [readX_bad (by rw [HR.out, HTW.out, readL_bad1 hh0]; rfl)])
          clear hh0
          go_wp2_with fail
          refine (T1.out _).mono ?_
          rintro e w1 ⟨rfl, rfl⟩
          go_wp2
          go_ret2
          rw [HRE.out]
          exact ⟨rfl, HB.out⟩
        | some X =>
          rw [halfD_some hh0] at T1
          have hX := (halfO_some hh0).1
          have n1 : ¬ ((15 : Int) < (X : Int)) := by omega
          go_wp2_with fail
          refine (T1.out _).mono ?_
          rintro e w1 ⟨rfl, rfl⟩
          cases hh1 : halfO c1 with
          | none =>
            rw [halfD_none hh1] at T2
            have HRE : Hid (readE s = .returned (.tuple #[.string ⟨#[]⟩, .int .i64 5])) := Lib.hid (by
              unfold readE
              rw [readX_bad (by rw [HR.out, HTW.out, readL_bad2 hh1]; rfl)])
            clear hh1 hh0
            go_wp2_with fail
            refine (T2.out _).mono ?_
            rintro e w1 ⟨rfl, rfl⟩
            go_wp2
            go_ret2
            rw [HRE.out]
            exact ⟨rfl, HB.out⟩
          | some Y =>
            rw [halfD_some hh1] at T2
            have hY := (halfO_some hh1).1
            have n2 : ¬ ((15 : Int) < (Y : Int)) := by omega
            have HRN : Hid (readL (byB s) = mapO (o ++ [16 * X + Y]) (readL ((byB s).drop (i + 2)))) := Lib.hid (by
              rw [HR.out, HTW.out, readL_ok hh0 hh1, mapO_snoc])
            clear hh1 hh0
            obtain ⟨Z, hZ⟩ : ∃ Z, Z = 16 * X + Y := ⟨_, rfl⟩
            rw [← hZ] at HRN
            obtain ⟨P, hP⟩ : ∃ P, P = 16 * X := ⟨_, rfl⟩
            have u1 : IntKind.u8.wrap (16 * (X : Int)) = (P : Int) := by rw [IntKind.wrap_u8']; omega
            have u2 : IntKind.u8.wrap ((P : Int) + (Y : Int)) = (Z : Int) := by rw [IntKind.wrap_u8']; omega
            have u3 : IntKind.i64.wrap (k : Int) = (k : Int) := IntWalk.i64_in _ (by omega)
            have hol' : o.length ≤ 1099511627 := by omega
            clear hZ hP
            go_wp2_with fail
            refine (T2.out _).mono ?_
            rintro e w1 ⟨rfl, rfl⟩
            go_wp2
            refine wp_region_held_drew (S := fun _ => True) (by kernel_rfl) (trivial) (fun hHeld => ?_)
            refine wpAnyH_take (i := 0) (oi := { dst := some 30, op := Go.Op.move (Go.Operand.tmp 4), type := 76, pos := "ref.go:46", after := #[], guard := none }) (v := ?_) rfl (by kernel_rfl) (by kernel_rfl) (by kernel_rfl) (fun _ _ _ h => h) (Or.inl ⟨by rfl, ?_⟩) (by assumption) ?_
            (rotate_left; focus (intro wS hSw; (try dsimp only at hSw); go_simp; (try rw [if_neg (by omega)]); try with_reducible rfl))
            (try simp only [Act.put, List.setIfInBounds_toArray, List.set_cons_zero, List.set_cons_succ])
            refine wpAnyH_take (i := 1) (oi := { dst := some 31, op := Go.Op.move (Go.Operand.tmp 0), type := 9, pos := "ref.go:46", after := #[], guard := none }) (v := ?_) rfl (by kernel_rfl) (by kernel_rfl) (by kernel_rfl) (fun _ _ _ h => h) (Or.inl ⟨by rfl, ?_⟩) (by assumption) ?_
            (rotate_left; focus (intro wS hSw; (try dsimp only at hSw); go_simp; (try rw [if_neg (by omega)]); try with_reducible rfl))
            (try simp only [Act.put, List.setIfInBounds_toArray, List.set_cons_zero, List.set_cons_succ])
            refine wpAnyH_take (i := 2) (oi := { dst := some 32, op := Go.Op.move (Go.Operand.tmp 5), type := 3, pos := "ref.go:46", after := #[], guard := none }) (v := ?_) rfl (by kernel_rfl) (by kernel_rfl) (by kernel_rfl) (fun _ _ _ h => h) (Or.inl ⟨by rfl, ?_⟩) (by assumption) ?_
            (rotate_left; focus (intro wS hSw; (try dsimp only at hSw); go_simp; (try rw [if_neg (by omega)]); try with_reducible rfl))
            (try simp only [Act.put, List.setIfInBounds_toArray, List.set_cons_zero, List.set_cons_succ])
            refine wpAnyH_take (i := 3) (oi := { dst := some 33, op := Go.Op.index 9 (Go.Operand.tmp 31) (Go.Operand.tmp 32), type := 5, pos := "ref.go:46", after := #[{ on := 1, ground := Go.Ground.data }, { on := 2, ground := Go.Ground.data }], guard := none }) (v := ?_) rfl (by kernel_rfl) (by kernel_rfl) (by kernel_rfl) (fun _ _ _ h => h) (Or.inl ⟨by rfl, ?_⟩) (by assumption) ?_
            (rotate_left; focus (intro wS hSw; (try dsimp only at hSw); go_simp; (try rw [if_neg (by omega)]); try with_reducible rfl))
            (try simp only [Act.put, List.setIfInBounds_toArray, List.set_cons_zero, List.set_cons_succ])
            refine wpAnyH_take (i := 6) (oi := { dst := some 36, op := Go.Op.move (Go.Operand.tmp 0), type := 9, pos := "ref.go:46", after := #[], guard := none }) (v := ?_) rfl (by kernel_rfl) (by kernel_rfl) (by kernel_rfl) (fun _ _ _ h => h) (Or.inl ⟨by rfl, ?_⟩) (by assumption) ?_
            (rotate_left; focus (intro wS hSw; (try dsimp only at hSw); go_simp; (try rw [if_neg (by omega)]); try with_reducible rfl))
            (try simp only [Act.put, List.setIfInBounds_toArray, List.set_cons_zero, List.set_cons_succ])
            refine wpAnyH_take (i := 7) (oi := { dst := some 37, op := Go.Op.move (Go.Operand.tmp 5), type := 3, pos := "ref.go:46", after := #[], guard := none }) (v := ?_) rfl (by kernel_rfl) (by kernel_rfl) (by kernel_rfl) (fun _ _ _ h => h) (Or.inl ⟨by rfl, ?_⟩) (by assumption) ?_
            (rotate_left; focus (intro wS hSw; (try dsimp only at hSw); go_simp; (try rw [if_neg (by omega)]); try with_reducible rfl))
            (try simp only [Act.put, List.setIfInBounds_toArray, List.set_cons_zero, List.set_cons_succ])
            refine wpAnyH_take (i := 8) (oi := { dst := some 38, op := Go.Op.binOp Go.BinOp.add 3 (Go.Operand.tmp 37) (Go.Operand.const (Go.Value.int Go.IntKind.i64 1)) 3, type := 3, pos := "ref.go:46", after := #[{ on := 7, ground := Go.Ground.data }], guard := none }) (v := ?_) rfl (by kernel_rfl) (by kernel_rfl) (by kernel_rfl) (fun _ _ _ h => h) (Or.inl ⟨by rfl, ?_⟩) (by assumption) ?_
            (rotate_left; focus (intro wS hSw; (try dsimp only at hSw); go_simp; (try rw [if_neg (by omega)]); try with_reducible rfl))
            (try simp only [Act.put, List.setIfInBounds_toArray, List.set_cons_zero, List.set_cons_succ])
            refine wpAnyH_take (i := 9) (oi := { dst := some 39, op := Go.Op.index 9 (Go.Operand.tmp 36) (Go.Operand.tmp 38), type := 5, pos := "ref.go:46", after := #[{ on := 6, ground := Go.Ground.data }, { on := 8, ground := Go.Ground.data }], guard := none }) (v := ?_) rfl (by kernel_rfl) (by kernel_rfl) (by kernel_rfl) (fun _ _ _ h => h) (Or.inl ⟨by rfl, ?_⟩) (by assumption) ?_
            (rotate_left; focus (intro wS hSw; (try dsimp only at hSw); go_simp; (try rw [if_neg (by omega)]); try with_reducible rfl))
            (try simp only [Act.put, List.setIfInBounds_toArray, List.set_cons_zero, List.set_cons_succ])
            refine wpAnyH_ready (rs := [4]) (by kernel_rfl) (by simp) ?_
            refine AllReadyH.cons (o := { dst := some 34, op := Go.Op.call { callee := Go.Callee.value (Go.Operand.func 71), args := #[Go.Operand.tmp 33], argTypes := #[5] }, type := 5, pos := "ref.go:46", after := #[{ on := 3, ground := Go.Ground.data }], guard := none }) rfl (fun K hK => ?_) AllReadyH.nil
            go_simp
            refine (T1.out _).mono ?_
            rintro e v1 ⟨rfl, rfl⟩
            (try go_wp2_with fail)
            refine hK.out _ _ (trivial) (fun hHeld => ?_)
            clear hK K
            (try simp only [Act.put, List.setIfInBounds_toArray, List.set_cons_zero, List.set_cons_succ])
            refine wpAnyH_take (i := 5) (oi := { dst := some 35, op := Go.Op.binOp Go.BinOp.mul 5 (Go.Operand.const (Go.Value.int Go.IntKind.u8 16)) (Go.Operand.tmp 34) 5, type := 5, pos := "ref.go:46", after := #[{ on := 4, ground := Go.Ground.data }], guard := none }) (v := ?_) rfl (by kernel_rfl) (by kernel_rfl) (by kernel_rfl) (fun _ _ _ h => h) (Or.inl ⟨by rfl, ?_⟩) (by assumption) ?_
            (rotate_left; focus (intro wS hSw; (try dsimp only at hSw); go_simp; (try rw [if_neg (by omega)]); try with_reducible rfl))
            (try simp only [Act.put, List.setIfInBounds_toArray, List.set_cons_zero, List.set_cons_succ])
            refine wpAnyH_ready (rs := [10]) (by kernel_rfl) (by simp) ?_
            refine AllReadyH.cons (o := { dst := some 40, op := Go.Op.call { callee := Go.Callee.value (Go.Operand.func 71), args := #[Go.Operand.tmp 39], argTypes := #[5] }, type := 5, pos := "ref.go:46", after := #[{ on := 9, ground := Go.Ground.data }, { on := 4, ground := Go.Ground.chain }], guard := none }) rfl (fun K hK => ?_) AllReadyH.nil
            go_simp
            refine (T2.out _).mono ?_
            rintro e v1 ⟨rfl, rfl⟩
            (try go_wp2_with fail)
            refine hK.out _ _ (trivial) (fun hHeld => ?_)
            clear hK K
            (try simp only [Act.put, List.setIfInBounds_toArray, List.set_cons_zero, List.set_cons_succ])
            refine wpAnyH_take (i := 11) (oi := { dst := some 41, op := Go.Op.binOp Go.BinOp.add 5 (Go.Operand.tmp 35) (Go.Operand.tmp 40) 5, type := 5, pos := "ref.go:46", after := #[{ on := 5, ground := Go.Ground.data }, { on := 10, ground := Go.Ground.data }], guard := none }) (v := ?_) rfl (by kernel_rfl) (by kernel_rfl) (by kernel_rfl) (fun _ _ _ h => h) (Or.inl ⟨by rfl, ?_⟩) (by assumption) ?_
            (rotate_left; focus (intro wS hSw; (try dsimp only at hSw); go_simp; (try rw [if_neg (by omega)]); try with_reducible rfl))
            (try simp only [Act.put, List.setIfInBounds_toArray, List.set_cons_zero, List.set_cons_succ])
            refine wpAnyH_ready (rs := [12]) (by kernel_rfl) (by simp) ?_
            refine AllReadyH.cons (o := { dst := some 42, op := Go.Op.buildSlice 76 1 #[(0, Go.Operand.tmp 41)], type := 76, pos := "ref.go:46", after := #[{ on := 11, ground := Go.Ground.data }], guard := none }) rfl (fun K hK => ?_) AllReadyH.nil
            go_simp
            refine hK.out _ _ (trivial) (fun hHeld => ?_)
            clear hK K
            (try simp only [Act.put, List.setIfInBounds_toArray, List.set_cons_zero, List.set_cons_succ])
            refine wpAnyH_ready (rs := [13]) (by kernel_rfl) (by simp) ?_
            refine AllReadyH.cons (o := { dst := some 43, op := Go.Op.call { callee := Go.Callee.builtin Go.Builtin.append, args := #[Go.Operand.tmp 30, Go.Operand.tmp 42], argTypes := #[76, 76] }, type := 76, pos := "ref.go:46", after := #[{ on := 0, ground := Go.Ground.data }, { on := 12, ground := Go.Ground.data }, { on := 10, ground := Go.Ground.chain }], guard := none }) rfl (fun K hK => ?_) AllReadyH.nil
            refine wp_append_own_at _ _ _ 76 rfl w.heap.size 5 i0 (.int .u8 0) 1 1 Try.underlying76 hi hz0 hz1 hz2 rfl (by decide) (.slice a o.length cp) o.length (rowB o) rfl (HO.out.alloc _) ⟨wr.heap.size, 0, none⟩ 1 1 [.int .u8 (Z : Int)] rfl rfl (fun j u hj => new_cells wr _ _ j u hj) (fun u hu => by simp at hu; subst hu; rfl) (by unfold maxLen; omega) (by omega) (by have := HB.out.size; simp; omega) ?_
            intro v5 w5 hown5 hg5 hat5
            have HB5 : Hid (Below w.heap.size w w5) := Lib.hid ((HB.out.alloc HB.out.size _).drew.grown hg5 (by have := HB.out.size; simp; omega) (fun q hq => (HO.out.lt q hq).1))
            have HO5 : Hid (w5.ownsRow w.heap.size 5 1 v5 (o ++ [Z]).length (rowB (o ++ [Z]))) := Lib.hid (by
            rw [rowB_app, List.length_append]
            exact hown5)
            clear hown5 hg5 hat5
            refine hK.out _ _ (trivial) (fun hHeld => ?_)
            clear hK K
            (try simp only [Act.put, List.setIfInBounds_toArray, List.set_cons_zero, List.set_cons_succ])
            refine wpAnyH_take (i := 14) (oi := { dst := some 4, op := Go.Op.assign (Go.Operand.tmp 43), type := 76, pos := "ref.go:46", after := #[{ on := 13, ground := Go.Ground.data }, { on := 13, ground := Go.Ground.chain }, { on := 0, ground := Go.Ground.phase }, { on := 1, ground := Go.Ground.phase }, { on := 2, ground := Go.Ground.phase }, { on := 3, ground := Go.Ground.phase }, { on := 4, ground := Go.Ground.phase }, { on := 5, ground := Go.Ground.phase }, { on := 6, ground := Go.Ground.phase }, { on := 7, ground := Go.Ground.phase }, { on := 8, ground := Go.Ground.phase }, { on := 9, ground := Go.Ground.phase }, { on := 10, ground := Go.Ground.phase }, { on := 11, ground := Go.Ground.phase }, { on := 12, ground := Go.Ground.phase }, { on := 13, ground := Go.Ground.phase }], guard := none }) (v := ?_) rfl (by kernel_rfl) (by kernel_rfl) (by kernel_rfl) (fun _ _ _ h => h) (Or.inl ⟨by rfl, ?_⟩) (by assumption) ?_
            (rotate_left; focus (intro wS hSw; (try dsimp only at hSw); go_simp; (try rw [if_neg (by omega)]); try with_reducible rfl))
            (try simp only [Act.put, List.setIfInBounds_toArray, List.set_cons_zero, List.set_cons_succ])
            refine wpAnyH_done (by kernel_rfl) ?_ _
            all_goals
              go_wp2
              go_roundw
              case rel => exact ⟨i + 2, o ++ [Z], vint (by omega), by omega, by omega, by simp; omega, HO5.out, HRN.out, HB5.out⟩
              case measure => simp [intOf]; omega
  · have t1 : Int.tmod (s.size : Int) 2 = 1 := by rw [Int.tmod_eq_emod_of_nonneg (by omega)]; omega
    have HRE : Hid (readE s = .returned (.tuple #[.string ⟨#[]⟩, .int .i64 5])) := Lib.hid (by
      unfold readE
      rw [readX_bad (readL_odd (s.size / 2) _ (by rw [byB_len]; omega))])
    go_enter Try.func59, Try.ntmps59
    go_wp2
    go_ret2
    rw [HRE.out]
    exact ⟨rfl, Below.refl _ _⟩
end Go.Proofs.Ytanehgnpominiaa

