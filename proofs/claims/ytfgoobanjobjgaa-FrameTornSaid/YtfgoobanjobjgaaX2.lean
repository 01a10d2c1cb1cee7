/-
  The contracts of frame.Put, frame.Read and the law's own Put and Read.
-/
import Derived.Test.YtfgoobanjobjgaaX1
import Derived.Test.YtfgoobanjobjgaaPl
import Derived.IntWalk
set_option linter.unusedVariables false
set_option linter.unusedSimpArgs false
namespace Go.Proofs.Ytfgoobanjobjgaa
open Go.RowKit
def recB (t : ByteArray) : ByteArray := textB t ++ sumB (textB t)
def putR (s : ByteArray) : Ending := if 65536 < s.size then .returned (.tuple #[.string ⟨#[]⟩, .int .i64 3]) else .returned (.tuple #[.string (recB s), .int .i64 0])
theorem putR_bad {s : ByteArray} (h : 65536 < s.size) : putR s = .returned (.tuple #[.string ⟨#[]⟩, .int .i64 3]) := by unfold putR; rw [if_pos h]
theorem putR_ok {s : ByteArray} (h : ¬ 65536 < s.size) : putR s = .returned (.tuple #[.string (recB s), .int .i64 0]) := by unfold putR; rw [if_neg h]
theorem fput_any (s : ByteArray) (w : World) : Calls Try.prog 6 #[.string s] w fun e w' => e = putR s ∧ Below w.heap.size w w' := by
  by_cases h : 65536 < s.size
  · rw [putR_bad h]
    go_enter Try.func6, Try.ntmps6
    go_wp2_with fail
    refine (text_put s _).mono ?_
    rintro e w1 ⟨rfl, hb1⟩
    rw [textR_bad h]
    go_wp2
    go_ret2
    exact ⟨rfl, hb1⟩
  · have hts := textB_size s (by omega)
    have HP := Lib.hid (putR_ok h)
    rw [HP.out]
    unfold recB
    obtain ⟨T, hT⟩ : ∃ T, T = textB s := ⟨_, rfl⟩
    rw [← hT] at hts ⊢
    have hsz := sumB_size T
    have HT := Lib.hid hT
    have hs2 : (sumB T).size ≤ 4 := by omega
    clear hT hsz HP
    go_enter Try.func6, Try.ntmps6
    go_wp2_with fail
    refine (text_put s _).mono ?_
    rintro e w1 ⟨rfl, hb1⟩
    rw [textR_ok h, ← HT.out]
    have HB1 := Lib.hid hb1
    clear hb1
    go_wp2_with fail
    refine (fsum_any T _ (by omega)).mono ?_
    rintro e w2 ⟨rfl, hb2⟩
    have HB2 := Lib.hid (below_step HB1.out (Nat.le_refl _) hb2)
    clear hb2
    go_wp2
    go_ret2
    exact ⟨rfl, HB2.out⟩
theorem rput_any (s : ByteArray) (w : World) : Calls Try.prog 7 #[.string s] w fun e w' => e = putR s ∧ Below w.heap.size w w' := by
  by_cases h : 65536 < s.size
  · rw [putR_bad h]
    go_enter Try.func7, Try.ntmps7
    go_wp2_with fail
    refine (rtext_put s _).mono ?_
    rintro e w1 ⟨rfl, hb1⟩
    rw [textR_bad h]
    go_wp2
    go_ret2
    exact ⟨rfl, hb1⟩
  · have hts := textB_size s (by omega)
    have HP := Lib.hid (putR_ok h)
    rw [HP.out]
    unfold recB
    obtain ⟨T, hT⟩ : ∃ T, T = textB s := ⟨_, rfl⟩
    rw [← hT] at hts ⊢
    have hsz := sumB_size T
    have HT := Lib.hid hT
    have hs2 : (sumB T).size ≤ 4 := by omega
    clear hT hsz HP
    go_enter Try.func7, Try.ntmps7
    go_wp2_with fail
    refine (rtext_put s _).mono ?_
    rintro e w1 ⟨rfl, hb1⟩
    rw [textR_ok h, ← HT.out]
    have HB1 := Lib.hid hb1
    clear hb1
    go_wp2_with fail
    refine (rsum_any T _ (by omega)).mono ?_
    rintro e w2 ⟨rfl, hb2⟩
    have HB2 := Lib.hid (below_step HB1.out (Nat.le_refl _) hb2)
    clear hb2
    go_wp2
    go_ret2
    exact ⟨rfl, HB2.out⟩
theorem ext_two (s : ByteArray) (q m : Nat) (h : q ≤ m) : s.extract 0 q ++ s.extract q m = s.extract 0 m := by
  apply bys_inj
  rw [bys_app, bys_extract, bys_extract, bys_extract, List.drop_zero, List.drop_zero]
  have e1 : (bys s).take q = ((bys s).take m).take q := by rw [List.take_take, Nat.min_eq_left h]
  rw [e1, List.take_append_drop]
/-- A text is read just as it is put. -/
theorem txtV_text {s t : ByteArray} {k : Nat} (h : txtV s = (t, (k : Int), 0)) : textB t = s.extract 0 k ∧ k ≤ s.size ∧ t.size ≤ 65536 ∧ 1 ≤ k := by
  rcases readV_cases (bys s) with ⟨n, q, g, h1, h2, h3, h4⟩ | ⟨e, he, g⟩
  · rw [txtV_ok g] at h
    unfold txtI at h
    split at h
    · simp at h
    · split at h
      · simp at h
      · rename_i a1 a2
        simp only [Prod.mk.injEq, and_true] at h
        obtain ⟨rfl, e2⟩ := h
        have ek : k = q + n := by omega
        subst ek
        obtain ⟨g1, g2⟩ := nb_of_read (bys_lt s) g h2
        have hsz : (s.extract q (q + n)).size = n := by rw [ByteArray.size_extract]; omega
        have ht : txt (nb n) = s.extract 0 q := by
          apply bys_inj
          rw [bys_txt (nb_byte n), g1, bys_extract, List.drop_zero]
        refine ⟨?_, by omega, by omega, by omega⟩
        unfold textB
        rw [hsz, ht]
        exact ext_two s q (q + n) (by omega)
  · rw [txtV_bad he g] at h
    simp at h
    exact (he h.2.2).elim
def readF2 (s t : ByteArray) (k : Nat) : ByteArray × Int × Int := if s.size < k + 4 then (⟨#[]⟩, 0, 4) else if s.extract k (k + 4) = sumB (textB t) then (t, (k + 4 : Nat), 0) else (⟨#[]⟩, 0, 6)
def readF (s : ByteArray) : ByteArray × Int × Int := if (txtV s).2.2 = 0 then readF2 s (txtV s).1 (txtV s).2.1.toNat else (⟨#[]⟩, 0, (txtV s).2.2)
theorem readF_bad {s : ByteArray} {e : Int} (he : e ≠ 0) (h : txtV s = (⟨#[]⟩, 0, e)) : readF s = (⟨#[]⟩, 0, e) := by unfold readF; rw [h, if_neg he]
theorem readF_ok {s t : ByteArray} {k : Nat} (h : txtV s = (t, (k : Int), 0)) : readF s = readF2 s t k := by unfold readF; rw [h, if_pos rfl]; rfl
def readFR (s : ByteArray) : Ending := .returned (.tuple #[.string (readF s).1, .int .i64 (readF s).2.1, .int .i64 (readF s).2.2])
theorem fread_any (s : ByteArray) (w : World) (hs : s.size ≤ 1099511627776) : Calls Try.prog 8 #[.string s] w fun e w' => e = readFR s ∧ Below w.heap.size w w' := by
  obtain ⟨R, hR⟩ : ∃ R, R = readFR s := ⟨_, rfl⟩
  rw [← hR]
  unfold readFR at hR
  rcases txtV_cases s with ⟨t, k, h, h1, h2, h3⟩ | ⟨e, he, h⟩
  · rw [readF_ok h] at hR
    obtain ⟨g1, g2, g3, _⟩ := txtV_text h
    have HO := Lib.hid (txtO_ok h)
    have hk : (textB t).size = k := by rw [g1, ByteArray.size_extract]; omega
    have HT := Lib.hid (textR_ok (s := t) (by omega))
    unfold readF2 at hR
    obtain ⟨T, hT⟩ : ∃ T, T = textB t := ⟨_, rfl⟩
    rw [← hT] at HT hk hR
    obtain ⟨S, hS⟩ : ∃ S, S = sumB T := ⟨_, rfl⟩
    have HSS := Lib.hid hS
    have hT8 : T.size ≤ 65600 := by rw [hT]; have := textB_size t (by omega); omega
    rw [← hS] at hR
    have HK := Lib.hid hk
    clear g1 h hT hS hk
    go_enter Try.func8, Try.ntmps8
    go_wp2_with fail
    refine (new_any s _).mono ?_
    rintro e w1 ⟨rfl, hr1, hb1⟩
    go_wp2_with fail
    refine (rd_text _ _ _ _ hs hr1).mono ?_
    rw [HO.out]
    rintro e w2 ⟨rfl, hr2, hk2⟩
    have HB2 := Lib.hid (hb1.trans (hk2.below hb1.size (fun k hk => by subst hk; exact Nat.le_refl _)))
    clear hb1 hk2
    go_wp2_with fail
    refine (err_any _ _ _ _ hr2).mono ?_
    rintro e w3 ⟨rfl, hx⟩
    obtain rfl : w2 = w3 := hx.symm
    clear hx hr1 hr2
    go_wp2_with fail
    refine (text_put t _).mono ?_
    rintro e w4 ⟨rfl, hb4⟩
    rw [HT.out]
    have HB4 := Lib.hid (below_step HB2.out (Nat.le_refl _) hb4)
    have hk := HK.out
    subst hk
    clear hb4
    by_cases hc : s.size < T.size + 4
    · rw [if_pos hc] at hR
      subst hR
      have d1 : (s.size : Int) - (T.size : Int) < 4 := by omega
      go_wp2
      go_ret3
      exact ⟨rfl, HB4.out⟩
    · rw [if_neg hc] at hR
      have d1 : ¬ (s.size : Int) - (T.size : Int) < 4 := by omega
      have b1 : (0 : Int) ≤ (T.size : Int) := by omega
      have b2 : (T.size : Int) ≤ (T.size : Int) + 4 := by omega
      have b3 : (T.size : Int) + 4 ≤ (s.size : Int) := by omega
      have b4 : IntKind.i64.wrap ((T.size : Int) + 4) = (T.size : Int) + 4 := IntWalk.i64_in _ (by omega)
      have b5 : ((T.size : Int) + 4).toNat = T.size + 4 := by omega
      by_cases he : s.extract T.size (T.size + 4) = S
      · rw [if_pos he] at hR
        subst hR
        have e5 := str_eq he
        clear he
        go_wp2
        refine wp_region_held_drew (S := fun _ => True) (by kernel_rfl) (trivial) (fun hHeld => ?_)
        refine wpAnyH_take (i := 0) (oi := { dst := some 34, op := Go.Op.move (Go.Operand.tmp 0), type := 9, pos := "frame.go:44", after := #[], guard := none }) (v := ?_) rfl (by kernel_rfl) (by kernel_rfl) (by kernel_rfl) (fun _ _ _ h => h) (Or.inl ⟨by rfl, ?_⟩) (by assumption) ?_
        (rotate_left; focus (intro wS hSw; (try dsimp only at hSw); go_simp; (try rw [if_neg (by omega)]); try with_reducible rfl))
        (try simp only [Act.put, List.setIfInBounds_toArray, List.set_cons_zero, List.set_cons_succ])
        refine wpAnyH_take (i := 1) (oi := { dst := some 35, op := Go.Op.move (Go.Operand.tmp 10), type := 3, pos := "frame.go:44", after := #[], guard := none }) (v := ?_) rfl (by kernel_rfl) (by kernel_rfl) (by kernel_rfl) (fun _ _ _ h => h) (Or.inl ⟨by rfl, ?_⟩) (by assumption) ?_
        (rotate_left; focus (intro wS hSw; (try dsimp only at hSw); go_simp; (try rw [if_neg (by omega)]); try with_reducible rfl))
        (try simp only [Act.put, List.setIfInBounds_toArray, List.set_cons_zero, List.set_cons_succ])
        refine wpAnyH_take (i := 2) (oi := { dst := some 36, op := Go.Op.move (Go.Operand.tmp 10), type := 3, pos := "frame.go:44", after := #[], guard := none }) (v := ?_) rfl (by kernel_rfl) (by kernel_rfl) (by kernel_rfl) (fun _ _ _ h => h) (Or.inl ⟨by rfl, ?_⟩) (by assumption) ?_
        (rotate_left; focus (intro wS hSw; (try dsimp only at hSw); go_simp; (try rw [if_neg (by omega)]); try with_reducible rfl))
        (try simp only [Act.put, List.setIfInBounds_toArray, List.set_cons_zero, List.set_cons_succ])
        refine wpAnyH_take (i := 3) (oi := { dst := some 37, op := Go.Op.binOp Go.BinOp.add 3 (Go.Operand.tmp 36) (Go.Operand.const (Go.Value.int Go.IntKind.i64 4)) 3, type := 3, pos := "frame.go:44", after := #[{ on := 2, ground := Go.Ground.data }], guard := none }) (v := ?_) rfl (by kernel_rfl) (by kernel_rfl) (by kernel_rfl) (fun _ _ _ h => h) (Or.inl ⟨by rfl, ?_⟩) (by assumption) ?_
        (rotate_left; focus (intro wS hSw; (try dsimp only at hSw); go_simp; (try rw [if_neg (by omega)]); try with_reducible rfl))
        (try simp only [Act.put, List.setIfInBounds_toArray, List.set_cons_zero, List.set_cons_succ])
        refine wpAnyH_take (i := 4) (oi := { dst := some 38, op := Go.Op.slice 9 (Go.Operand.tmp 34) (some (Go.Operand.tmp 35)) (some (Go.Operand.tmp 37)) none, type := 9, pos := "frame.go:44", after := #[{ on := 0, ground := Go.Ground.data }, { on := 1, ground := Go.Ground.data }, { on := 3, ground := Go.Ground.data }], guard := none }) (v := ?_) rfl (by kernel_rfl) (by kernel_rfl) (by kernel_rfl) (fun _ _ _ h => h) (Or.inl ⟨by rfl, ?_⟩) (by assumption) ?_
        (rotate_left; focus (intro wS hSw; (clear hSw; go_simp; (try rw [if_pos (by omega)]); (try with_reducible rfl))))
        (try simp only [Act.put, List.setIfInBounds_toArray, List.set_cons_zero, List.set_cons_succ])
        refine wpAnyH_take (i := 5) (oi := { dst := some 39, op := Go.Op.move (Go.Operand.tmp 8), type := 9, pos := "frame.go:44", after := #[], guard := none }) (v := ?_) rfl (by kernel_rfl) (by kernel_rfl) (by kernel_rfl) (fun _ _ _ h => h) (Or.inl ⟨by rfl, ?_⟩) (by assumption) ?_
        (rotate_left; focus (intro wS hSw; (try dsimp only at hSw); go_simp; (try rw [if_neg (by omega)]); try with_reducible rfl))
        (try simp only [Act.put, List.setIfInBounds_toArray, List.set_cons_zero, List.set_cons_succ])
        refine wpAnyH_ready (rs := [6]) (by kernel_rfl) (by simp) ?_
        refine AllReadyH.cons (o := { dst := some 40, op := Go.Op.call { callee := Go.Callee.value (Go.Operand.func 14), args := #[Go.Operand.tmp 39], argTypes := #[9] }, type := 9, pos := "frame.go:44", after := #[{ on := 5, ground := Go.Ground.data }], guard := none }) rfl (fun K hK => ?_) AllReadyH.nil
        go_simp
        refine (fsum_any T _ (by omega)).mono ?_
        rintro e w5 ⟨rfl, hb5⟩
        rw [← HSS.out]
        have HB5 := Lib.hid (below_step HB4.out.drew (Nat.le_refl _) hb5)
        clear hb5
        (try go_wp2_with fail)
        refine hK.out _ _ (trivial) (fun hHeld => ?_)
        clear hK K
        (try simp only [Act.put, List.setIfInBounds_toArray, List.set_cons_zero, List.set_cons_succ])
        refine wpAnyH_take (i := 7) (oi := { dst := some 41, op := Go.Op.binOp Go.BinOp.neq 9 (Go.Operand.tmp 38) (Go.Operand.tmp 40) 9, type := 4, pos := "frame.go:44", after := #[{ on := 4, ground := Go.Ground.data }, { on := 6, ground := Go.Ground.data }], guard := none }) (v := ?_) rfl (by kernel_rfl) (by kernel_rfl) (by kernel_rfl) (fun _ _ _ h => h) (Or.inl ⟨by rfl, ?_⟩) (by assumption) ?_
        (rotate_left; focus (intro wS hSw; (try dsimp only at hSw); go_simp; (try rw [if_neg (by omega)]); try with_reducible rfl))
        (try simp only [Act.put, List.setIfInBounds_toArray, List.set_cons_zero, List.set_cons_succ])
        refine wpAnyH_take (i := 8) (oi := { dst := some 33, op := Go.Op.assign (Go.Operand.tmp 41), type := 4, pos := "frame.go:44", after := #[{ on := 7, ground := Go.Ground.data }, { on := 6, ground := Go.Ground.chain }], guard := none }) (v := ?_) rfl (by kernel_rfl) (by kernel_rfl) (by kernel_rfl) (fun _ _ _ h => h) (Or.inl ⟨by rfl, ?_⟩) (by assumption) ?_
        (rotate_left; focus (intro wS hSw; (try dsimp only at hSw); go_simp; (try rw [if_neg (by omega)]); try with_reducible rfl))
        (try simp only [Act.put, List.setIfInBounds_toArray, List.set_cons_zero, List.set_cons_succ])
        refine wpAnyH_done (by kernel_rfl) ?_ _
        clear b4 b5
        go_wp2
        go_ret3
        exact ⟨rfl, HB5.out⟩
      · rw [if_neg he] at hR
        subst hR
        have e5 := str_ne he
        clear he
        go_wp2
        refine wp_region_held_drew (S := fun _ => True) (by kernel_rfl) (trivial) (fun hHeld => ?_)
        refine wpAnyH_take (i := 0) (oi := { dst := some 34, op := Go.Op.move (Go.Operand.tmp 0), type := 9, pos := "frame.go:44", after := #[], guard := none }) (v := ?_) rfl (by kernel_rfl) (by kernel_rfl) (by kernel_rfl) (fun _ _ _ h => h) (Or.inl ⟨by rfl, ?_⟩) (by assumption) ?_
        (rotate_left; focus (intro wS hSw; (try dsimp only at hSw); go_simp; (try rw [if_neg (by omega)]); try with_reducible rfl))
        (try simp only [Act.put, List.setIfInBounds_toArray, List.set_cons_zero, List.set_cons_succ])
        refine wpAnyH_take (i := 1) (oi := { dst := some 35, op := Go.Op.move (Go.Operand.tmp 10), type := 3, pos := "frame.go:44", after := #[], guard := none }) (v := ?_) rfl (by kernel_rfl) (by kernel_rfl) (by kernel_rfl) (fun _ _ _ h => h) (Or.inl ⟨by rfl, ?_⟩) (by assumption) ?_
        (rotate_left; focus (intro wS hSw; (try dsimp only at hSw); go_simp; (try rw [if_neg (by omega)]); try with_reducible rfl))
        (try simp only [Act.put, List.setIfInBounds_toArray, List.set_cons_zero, List.set_cons_succ])
        refine wpAnyH_take (i := 2) (oi := { dst := some 36, op := Go.Op.move (Go.Operand.tmp 10), type := 3, pos := "frame.go:44", after := #[], guard := none }) (v := ?_) rfl (by kernel_rfl) (by kernel_rfl) (by kernel_rfl) (fun _ _ _ h => h) (Or.inl ⟨by rfl, ?_⟩) (by assumption) ?_
        (rotate_left; focus (intro wS hSw; (try dsimp only at hSw); go_simp; (try rw [if_neg (by omega)]); try with_reducible rfl))
        (try simp only [Act.put, List.setIfInBounds_toArray, List.set_cons_zero, List.set_cons_succ])
        refine wpAnyH_take (i := 3) (oi := { dst := some 37, op := Go.Op.binOp Go.BinOp.add 3 (Go.Operand.tmp 36) (Go.Operand.const (Go.Value.int Go.IntKind.i64 4)) 3, type := 3, pos := "frame.go:44", after := #[{ on := 2, ground := Go.Ground.data }], guard := none }) (v := ?_) rfl (by kernel_rfl) (by kernel_rfl) (by kernel_rfl) (fun _ _ _ h => h) (Or.inl ⟨by rfl, ?_⟩) (by assumption) ?_
        (rotate_left; focus (intro wS hSw; (try dsimp only at hSw); go_simp; (try rw [if_neg (by omega)]); try with_reducible rfl))
        (try simp only [Act.put, List.setIfInBounds_toArray, List.set_cons_zero, List.set_cons_succ])
        refine wpAnyH_take (i := 4) (oi := { dst := some 38, op := Go.Op.slice 9 (Go.Operand.tmp 34) (some (Go.Operand.tmp 35)) (some (Go.Operand.tmp 37)) none, type := 9, pos := "frame.go:44", after := #[{ on := 0, ground := Go.Ground.data }, { on := 1, ground := Go.Ground.data }, { on := 3, ground := Go.Ground.data }], guard := none }) (v := ?_) rfl (by kernel_rfl) (by kernel_rfl) (by kernel_rfl) (fun _ _ _ h => h) (Or.inl ⟨by rfl, ?_⟩) (by assumption) ?_
        (rotate_left; focus (intro wS hSw; (clear hSw; go_simp; (try rw [if_pos (by omega)]); (try with_reducible rfl))))
        (try simp only [Act.put, List.setIfInBounds_toArray, List.set_cons_zero, List.set_cons_succ])
        refine wpAnyH_take (i := 5) (oi := { dst := some 39, op := Go.Op.move (Go.Operand.tmp 8), type := 9, pos := "frame.go:44", after := #[], guard := none }) (v := ?_) rfl (by kernel_rfl) (by kernel_rfl) (by kernel_rfl) (fun _ _ _ h => h) (Or.inl ⟨by rfl, ?_⟩) (by assumption) ?_
        (rotate_left; focus (intro wS hSw; (try dsimp only at hSw); go_simp; (try rw [if_neg (by omega)]); try with_reducible rfl))
        (try simp only [Act.put, List.setIfInBounds_toArray, List.set_cons_zero, List.set_cons_succ])
        refine wpAnyH_ready (rs := [6]) (by kernel_rfl) (by simp) ?_
        refine AllReadyH.cons (o := { dst := some 40, op := Go.Op.call { callee := Go.Callee.value (Go.Operand.func 14), args := #[Go.Operand.tmp 39], argTypes := #[9] }, type := 9, pos := "frame.go:44", after := #[{ on := 5, ground := Go.Ground.data }], guard := none }) rfl (fun K hK => ?_) AllReadyH.nil
        go_simp
        refine (fsum_any T _ (by omega)).mono ?_
        rintro e w5 ⟨rfl, hb5⟩
        rw [← HSS.out]
        have HB5 := Lib.hid (below_step HB4.out.drew (Nat.le_refl _) hb5)
        clear hb5
        (try go_wp2_with fail)
        refine hK.out _ _ (trivial) (fun hHeld => ?_)
        clear hK K
        (try simp only [Act.put, List.setIfInBounds_toArray, List.set_cons_zero, List.set_cons_succ])
        refine wpAnyH_take (i := 7) (oi := { dst := some 41, op := Go.Op.binOp Go.BinOp.neq 9 (Go.Operand.tmp 38) (Go.Operand.tmp 40) 9, type := 4, pos := "frame.go:44", after := #[{ on := 4, ground := Go.Ground.data }, { on := 6, ground := Go.Ground.data }], guard := none }) (v := ?_) rfl (by kernel_rfl) (by kernel_rfl) (by kernel_rfl) (fun _ _ _ h => h) (Or.inl ⟨by rfl, ?_⟩) (by assumption) ?_
        (rotate_left; focus (intro wS hSw; (try dsimp only at hSw); go_simp; (try rw [if_neg (by omega)]); try with_reducible rfl))
        (try simp only [Act.put, List.setIfInBounds_toArray, List.set_cons_zero, List.set_cons_succ])
        refine wpAnyH_take (i := 8) (oi := { dst := some 33, op := Go.Op.assign (Go.Operand.tmp 41), type := 4, pos := "frame.go:44", after := #[{ on := 7, ground := Go.Ground.data }, { on := 6, ground := Go.Ground.chain }], guard := none }) (v := ?_) rfl (by kernel_rfl) (by kernel_rfl) (by kernel_rfl) (fun _ _ _ h => h) (Or.inl ⟨by rfl, ?_⟩) (by assumption) ?_
        (rotate_left; focus (intro wS hSw; (try dsimp only at hSw); go_simp; (try rw [if_neg (by omega)]); try with_reducible rfl))
        (try simp only [Act.put, List.setIfInBounds_toArray, List.set_cons_zero, List.set_cons_succ])
        refine wpAnyH_done (by kernel_rfl) ?_ _
        clear b4 b5
        go_wp2
        go_ret3
        exact ⟨rfl, HB5.out⟩
  · rw [readF_bad he h] at hR
    have HO := Lib.hid (txtO_bad he h)
    have e1 : (e == 0) = false := by simp [he]
    have e2 : (e != 0) = true := by simp [he]
    clear h
    subst hR
    go_enter Try.func8, Try.ntmps8
    go_wp2_with fail
    refine (new_any s _).mono ?_
    rintro e w1 ⟨rfl, hr1, hb1⟩
    go_wp2_with fail
    refine (rd_text _ _ _ _ hs hr1).mono ?_
    rw [HO.out]
    rintro e w2 ⟨rfl, hr2, hk2⟩
    have HB2 := Lib.hid (hb1.trans (hk2.below hb1.size (fun k hk => by subst hk; exact Nat.le_refl _)))
    clear hb1 hk2
    go_wp2_with fail
    refine (err_any _ _ _ _ hr2).mono ?_
    rintro e w3 ⟨rfl, hx⟩
    obtain rfl : w2 = w3 := hx.symm
    clear hx hr1 hr2
    go_wp2
    go_ret3
    exact ⟨rfl, HB2.out⟩
theorem rread_any (s : ByteArray) (w : World) (hs : s.size ≤ 1099511627776) : Calls Try.prog 9 #[.string s] w fun e w' => e = readFR s ∧ Below w.heap.size w w' := by
  obtain ⟨R, hR⟩ : ∃ R, R = readFR s := ⟨_, rfl⟩
  rw [← hR]
  unfold readFR at hR
  rcases txtV_cases s with ⟨t, k, h, h1, h2, h3⟩ | ⟨e, he, h⟩
  · rw [readF_ok h] at hR
    obtain ⟨g1, g2, g3, _⟩ := txtV_text h
    have HO := Lib.hid (show txtRR s 0 = _ by unfold txtRR; rw [txtO_ok h])
    have hk : (textB t).size = k := by rw [g1, ByteArray.size_extract]; omega
    unfold readF2 at hR
    obtain ⟨T, hT⟩ : ∃ T, T = textB t := ⟨_, rfl⟩
    rw [← hT] at hk hR
    obtain ⟨S, hS⟩ : ∃ S, S = sumB T := ⟨_, rfl⟩
    have HSS := Lib.hid hS
    have hT8 : T.size ≤ 65600 := by rw [hT]; have := textB_size t (by omega); omega
    rw [← hS] at hR
    have HK0 : Hid (s.extract 0 T.size = T) := Lib.hid (by rw [hk, hT]; exact g1.symm)
    subst hk
    obtain ⟨q, hqq⟩ : ∃ q, q = s.extract T.size s.size := ⟨_, rfl⟩
    rw [← hqq] at HO
    have hqs : q.size = s.size - T.size := by rw [hqq, ByteArray.size_extract]; omega
    have hq4 : s.extract T.size (T.size + 4) = q.extract 0 4 ∨ s.size < T.size + 4 := by
      by_cases hc : s.size < T.size + 4
      · exact .inr hc
      · refine .inl ?_
        rw [hqq, ext_ext s T.size 0 4 (by omega)]; rfl
    have hq : (s.size : Int) - (q.size : Int) = (T.size : Int) := by omega
    clear g1 h hT hS hqq
    go_enter Try.func9, Try.ntmps9
    go_wp2_with fail
    refine (rt_any s 0 _ hs).mono ?_
    rintro e w1 ⟨rfl, hb1⟩
    rw [HO.out]
    have HBA := Lib.hid (hb1.alloc hb1.size (.cells #[.string q, .int .i64 0] 46))
    have HA : Hid (Bk w1.heap.size [.string q, .int .i64 0] (w1.alloc (.cells #[.string q, .int .i64 0] 46)).drew) := Lib.hid (Bk.drew (Bk.new _ _ _))
    clear hb1
    by_cases hc : s.size < T.size + 4
    · rw [if_pos hc] at hR
      subst hR
      have d1 : (q.size : Int) < 4 := by omega
      clear hqs hq4
      go_wp2
      go_ret3
      exact ⟨rfl, HBA.out⟩
    · rw [if_neg hc] at hR
      have d1 : ¬ (q.size : Int) < 4 := by omega
      have hq5 := hq4.resolve_right hc
      rw [hq5] at hR
      have hts : T.size ≤ s.size := g2
      clear hqs hq4 hq5
      by_cases he : q.extract 0 4 = S
      · rw [if_pos he] at hR
        subst hR
        have e5 := str_eq he.symm
        clear he
        go_wp2
        have hP0 : Bk w1.heap.size [.string q, .int .i64 0] (w1.alloc (.cells #[.string q, .int .i64 0] 46)).drew := HA.out
        clear hq
        refine wp_region_held_drew (S := fun w' => Bk w1.heap.size [.string q, .int .i64 0] w') (by kernel_rfl) (by (first | exact hP0 | exact hP1)) (fun hHeld => ?_)
        refine wpAnyH_take (i := 0) (oi := { dst := some 31, op := Go.Op.move (Go.Operand.tmp 0), type := 9, pos := "ref.go:41", after := #[], guard := none }) (v := ?_) rfl (by kernel_rfl) (by kernel_rfl) (by kernel_rfl) (fun _ _ _ h => h) (Or.inl ⟨by rfl, ?_⟩) (by assumption) ?_
        (rotate_left; focus (intro wS hSw; have s0 := (hSw.2 0 _ rfl).1; clear hSw; go_simp; (try rw [if_neg (by omega)]); try with_reducible rfl))
        (try simp only [Act.put, List.setIfInBounds_toArray, List.set_cons_zero, List.set_cons_succ])
        refine wpAnyH_take (i := 1) (oi := { dst := some 32, op := Go.Op.move (Go.Operand.tmp 7), type := 3, pos := "ref.go:41", after := #[], guard := none }) (v := ?_) rfl (by kernel_rfl) (by kernel_rfl) (by kernel_rfl) (fun _ _ _ h => h) (Or.inl ⟨by rfl, ?_⟩) (by assumption) ?_
        (rotate_left; focus (intro wS hSw; have s0 := (hSw.2 0 _ rfl).1; clear hSw; go_simp; (try rw [if_neg (by omega)]); try with_reducible rfl))
        (try simp only [Act.put, List.setIfInBounds_toArray, List.set_cons_zero, List.set_cons_succ])
        refine wpAnyH_take (i := 2) (oi := { dst := some 33, op := Go.Op.slice 9 (Go.Operand.tmp 31) none (some (Go.Operand.tmp 32)) none, type := 9, pos := "ref.go:41", after := #[{ on := 0, ground := Go.Ground.data }, { on := 1, ground := Go.Ground.data }], guard := none }) (v := ?_) rfl (by kernel_rfl) (by kernel_rfl) (by kernel_rfl) (fun _ _ _ h => h) (Or.inl ⟨by rfl, ?_⟩) (by assumption) ?_
        (rotate_left; focus (intro wS hSw; (clear hSw; go_simp; (try rw [if_pos (by omega)]); (try with_reducible rfl))))
        (try simp only [Act.put, List.setIfInBounds_toArray, List.set_cons_zero, List.set_cons_succ])
        refine wpAnyH_take (i := 4) (oi := { dst := some 35, op := Go.Op.fieldAddr 46 (Go.Operand.tmp 5) 0, type := 0, pos := "ref.go:41", after := #[], guard := none }) (v := ?_) rfl (by kernel_rfl) (by kernel_rfl) (by kernel_rfl) (fun _ _ _ h => h) (Or.inl ⟨by rfl, ?_⟩) (by assumption) ?_
        (rotate_left; focus (intro wS hSw; have s0 := (hSw.2 0 _ rfl).1; clear hSw; go_simp; (try rw [if_neg (by omega)]); try with_reducible rfl))
        (try simp only [Act.put, List.setIfInBounds_toArray, List.set_cons_zero, List.set_cons_succ])
        refine wpAnyH_take (i := 5) (oi := { dst := some 36, op := Go.Op.load 9 (Go.Operand.tmp 35), type := 9, pos := "ref.go:41", after := #[{ on := 4, ground := Go.Ground.data }], guard := none }) (v := ?_) rfl (by kernel_rfl) (by kernel_rfl) (by kernel_rfl) (fun _ _ _ h => h) (Or.inl ⟨by rfl, ?_⟩) (by assumption) ?_
        (rotate_left; focus (intro wS hSw; have s0 := (hSw.2 0 _ rfl).1; clear hSw; go_simp; (try rw [if_neg (by omega)]); try with_reducible rfl))
        (try simp only [Act.put, List.setIfInBounds_toArray, List.set_cons_zero, List.set_cons_succ])
        refine wpAnyH_take (i := 6) (oi := { dst := some 37, op := Go.Op.slice 9 (Go.Operand.tmp 36) none (some (Go.Operand.const (Go.Value.int Go.IntKind.i64 4))) none, type := 9, pos := "ref.go:41", after := #[{ on := 5, ground := Go.Ground.data }], guard := none }) (v := ?_) rfl (by kernel_rfl) (by kernel_rfl) (by kernel_rfl) (fun _ _ _ h => h) (Or.inl ⟨by rfl, ?_⟩) (by assumption) ?_
        (rotate_left; focus (intro wS hSw; (clear hSw; go_simp; (try rw [if_pos (by omega)]); (try with_reducible rfl))))
        (try simp only [Act.put, List.setIfInBounds_toArray, List.set_cons_zero, List.set_cons_succ])
        refine wpAnyH_ready (rs := [3]) (by kernel_rfl) (by simp) ?_
        refine AllReadyH.cons (o := { dst := some 34, op := Go.Op.call { callee := Go.Callee.value (Go.Operand.func 16), args := #[Go.Operand.tmp 33], argTypes := #[9] }, type := 9, pos := "ref.go:41", after := #[{ on := 2, ground := Go.Ground.data }], guard := none }) rfl (fun K hK => ?_) AllReadyH.nil
        go_simp
        refine (rsum_any _ _ (by rw [HK0.out]; omega)).mono ?_
        rintro e w5 ⟨rfl, hb5⟩
        rw [HK0.out, ← HSS.out]
        have hP1 := hP0.keep hb5
        have HB5 := Lib.hid (below_step HBA.out.drew (Nat.le_refl _) hb5)
        clear hb5
        (try go_wp2_with fail)
        refine hK.out _ _ (by (first | exact hP0 | exact hP1)) (fun hHeld => ?_)
        clear hK K
        (try simp only [Act.put, List.setIfInBounds_toArray, List.set_cons_zero, List.set_cons_succ])
        refine wpAnyH_take (i := 7) (oi := { dst := some 38, op := Go.Op.binOp Go.BinOp.neq 9 (Go.Operand.tmp 34) (Go.Operand.tmp 37) 9, type := 4, pos := "ref.go:41", after := #[{ on := 3, ground := Go.Ground.data }, { on := 6, ground := Go.Ground.data }], guard := none }) (v := ?_) rfl (by kernel_rfl) (by kernel_rfl) (by kernel_rfl) (fun _ _ _ h => h) (Or.inl ⟨by rfl, ?_⟩) (by assumption) ?_
        (rotate_left; focus (intro wS hSw; have s0 := (hSw.2 0 _ rfl).1; clear hSw; go_simp; (try rw [if_neg (by omega)]); try with_reducible rfl))
        (try simp only [Act.put, List.setIfInBounds_toArray, List.set_cons_zero, List.set_cons_succ])
        refine wpAnyH_take (i := 8) (oi := { dst := some 30, op := Go.Op.assign (Go.Operand.tmp 38), type := 4, pos := "ref.go:41", after := #[{ on := 7, ground := Go.Ground.data }, { on := 3, ground := Go.Ground.chain }], guard := none }) (v := ?_) rfl (by kernel_rfl) (by kernel_rfl) (by kernel_rfl) (fun _ _ _ h => h) (Or.inl ⟨by rfl, ?_⟩) (by assumption) ?_
        (rotate_left; focus (intro wS hSw; have s0 := (hSw.2 0 _ rfl).1; clear hSw; go_simp; (try rw [if_neg (by omega)]); try with_reducible rfl))
        (try simp only [Act.put, List.setIfInBounds_toArray, List.set_cons_zero, List.set_cons_succ])
        refine wpAnyH_done (by kernel_rfl) ?_ _
        go_wp2
        go_ret3
        exact ⟨rfl, HB5.out⟩
      · rw [if_neg he] at hR
        subst hR
        have e5 := str_ne (fun h => he h.symm)
        clear he
        go_wp2
        have hP0 : Bk w1.heap.size [.string q, .int .i64 0] (w1.alloc (.cells #[.string q, .int .i64 0] 46)).drew := HA.out
        clear hq
        refine wp_region_held_drew (S := fun w' => Bk w1.heap.size [.string q, .int .i64 0] w') (by kernel_rfl) (by (first | exact hP0 | exact hP1)) (fun hHeld => ?_)
        refine wpAnyH_take (i := 0) (oi := { dst := some 31, op := Go.Op.move (Go.Operand.tmp 0), type := 9, pos := "ref.go:41", after := #[], guard := none }) (v := ?_) rfl (by kernel_rfl) (by kernel_rfl) (by kernel_rfl) (fun _ _ _ h => h) (Or.inl ⟨by rfl, ?_⟩) (by assumption) ?_
        (rotate_left; focus (intro wS hSw; have s0 := (hSw.2 0 _ rfl).1; clear hSw; go_simp; (try rw [if_neg (by omega)]); try with_reducible rfl))
        (try simp only [Act.put, List.setIfInBounds_toArray, List.set_cons_zero, List.set_cons_succ])
        refine wpAnyH_take (i := 1) (oi := { dst := some 32, op := Go.Op.move (Go.Operand.tmp 7), type := 3, pos := "ref.go:41", after := #[], guard := none }) (v := ?_) rfl (by kernel_rfl) (by kernel_rfl) (by kernel_rfl) (fun _ _ _ h => h) (Or.inl ⟨by rfl, ?_⟩) (by assumption) ?_
        (rotate_left; focus (intro wS hSw; have s0 := (hSw.2 0 _ rfl).1; clear hSw; go_simp; (try rw [if_neg (by omega)]); try with_reducible rfl))
        (try simp only [Act.put, List.setIfInBounds_toArray, List.set_cons_zero, List.set_cons_succ])
        refine wpAnyH_take (i := 2) (oi := { dst := some 33, op := Go.Op.slice 9 (Go.Operand.tmp 31) none (some (Go.Operand.tmp 32)) none, type := 9, pos := "ref.go:41", after := #[{ on := 0, ground := Go.Ground.data }, { on := 1, ground := Go.Ground.data }], guard := none }) (v := ?_) rfl (by kernel_rfl) (by kernel_rfl) (by kernel_rfl) (fun _ _ _ h => h) (Or.inl ⟨by rfl, ?_⟩) (by assumption) ?_
        (rotate_left; focus (intro wS hSw; (clear hSw; go_simp; (try rw [if_pos (by omega)]); (try with_reducible rfl))))
        (try simp only [Act.put, List.setIfInBounds_toArray, List.set_cons_zero, List.set_cons_succ])
        refine wpAnyH_take (i := 4) (oi := { dst := some 35, op := Go.Op.fieldAddr 46 (Go.Operand.tmp 5) 0, type := 0, pos := "ref.go:41", after := #[], guard := none }) (v := ?_) rfl (by kernel_rfl) (by kernel_rfl) (by kernel_rfl) (fun _ _ _ h => h) (Or.inl ⟨by rfl, ?_⟩) (by assumption) ?_
        (rotate_left; focus (intro wS hSw; have s0 := (hSw.2 0 _ rfl).1; clear hSw; go_simp; (try rw [if_neg (by omega)]); try with_reducible rfl))
        (try simp only [Act.put, List.setIfInBounds_toArray, List.set_cons_zero, List.set_cons_succ])
        refine wpAnyH_take (i := 5) (oi := { dst := some 36, op := Go.Op.load 9 (Go.Operand.tmp 35), type := 9, pos := "ref.go:41", after := #[{ on := 4, ground := Go.Ground.data }], guard := none }) (v := ?_) rfl (by kernel_rfl) (by kernel_rfl) (by kernel_rfl) (fun _ _ _ h => h) (Or.inl ⟨by rfl, ?_⟩) (by assumption) ?_
        (rotate_left; focus (intro wS hSw; have s0 := (hSw.2 0 _ rfl).1; clear hSw; go_simp; (try rw [if_neg (by omega)]); try with_reducible rfl))
        (try simp only [Act.put, List.setIfInBounds_toArray, List.set_cons_zero, List.set_cons_succ])
        refine wpAnyH_take (i := 6) (oi := { dst := some 37, op := Go.Op.slice 9 (Go.Operand.tmp 36) none (some (Go.Operand.const (Go.Value.int Go.IntKind.i64 4))) none, type := 9, pos := "ref.go:41", after := #[{ on := 5, ground := Go.Ground.data }], guard := none }) (v := ?_) rfl (by kernel_rfl) (by kernel_rfl) (by kernel_rfl) (fun _ _ _ h => h) (Or.inl ⟨by rfl, ?_⟩) (by assumption) ?_
        (rotate_left; focus (intro wS hSw; (clear hSw; go_simp; (try rw [if_pos (by omega)]); (try with_reducible rfl))))
        (try simp only [Act.put, List.setIfInBounds_toArray, List.set_cons_zero, List.set_cons_succ])
        refine wpAnyH_ready (rs := [3]) (by kernel_rfl) (by simp) ?_
        refine AllReadyH.cons (o := { dst := some 34, op := Go.Op.call { callee := Go.Callee.value (Go.Operand.func 16), args := #[Go.Operand.tmp 33], argTypes := #[9] }, type := 9, pos := "ref.go:41", after := #[{ on := 2, ground := Go.Ground.data }], guard := none }) rfl (fun K hK => ?_) AllReadyH.nil
        go_simp
        refine (rsum_any _ _ (by rw [HK0.out]; omega)).mono ?_
        rintro e w5 ⟨rfl, hb5⟩
        rw [HK0.out, ← HSS.out]
        have hP1 := hP0.keep hb5
        have HB5 := Lib.hid (below_step HBA.out.drew (Nat.le_refl _) hb5)
        clear hb5
        (try go_wp2_with fail)
        refine hK.out _ _ (by (first | exact hP0 | exact hP1)) (fun hHeld => ?_)
        clear hK K
        (try simp only [Act.put, List.setIfInBounds_toArray, List.set_cons_zero, List.set_cons_succ])
        refine wpAnyH_take (i := 7) (oi := { dst := some 38, op := Go.Op.binOp Go.BinOp.neq 9 (Go.Operand.tmp 34) (Go.Operand.tmp 37) 9, type := 4, pos := "ref.go:41", after := #[{ on := 3, ground := Go.Ground.data }, { on := 6, ground := Go.Ground.data }], guard := none }) (v := ?_) rfl (by kernel_rfl) (by kernel_rfl) (by kernel_rfl) (fun _ _ _ h => h) (Or.inl ⟨by rfl, ?_⟩) (by assumption) ?_
        (rotate_left; focus (intro wS hSw; have s0 := (hSw.2 0 _ rfl).1; clear hSw; go_simp; (try rw [if_neg (by omega)]); try with_reducible rfl))
        (try simp only [Act.put, List.setIfInBounds_toArray, List.set_cons_zero, List.set_cons_succ])
        refine wpAnyH_take (i := 8) (oi := { dst := some 30, op := Go.Op.assign (Go.Operand.tmp 38), type := 4, pos := "ref.go:41", after := #[{ on := 7, ground := Go.Ground.data }, { on := 3, ground := Go.Ground.chain }], guard := none }) (v := ?_) rfl (by kernel_rfl) (by kernel_rfl) (by kernel_rfl) (fun _ _ _ h => h) (Or.inl ⟨by rfl, ?_⟩) (by assumption) ?_
        (rotate_left; focus (intro wS hSw; have s0 := (hSw.2 0 _ rfl).1; clear hSw; go_simp; (try rw [if_neg (by omega)]); try with_reducible rfl))
        (try simp only [Act.put, List.setIfInBounds_toArray, List.set_cons_zero, List.set_cons_succ])
        refine wpAnyH_done (by kernel_rfl) ?_ _
        go_wp2
        go_ret3
        exact ⟨rfl, HB5.out⟩
  · rw [readF_bad he h] at hR
    have HO := Lib.hid (show txtRR s 0 = _ by unfold txtRR; rw [txtO_bad he h])
    have e1 : (e == 0) = false := by simp [he]
    have e2 : (e != 0) = true := by simp [he]
    clear h
    subst hR
    go_enter Try.func9, Try.ntmps9
    go_wp2_with fail
    refine (rt_any s 0 _ hs).mono ?_
    rintro e w1 ⟨rfl, hb1⟩
    rw [HO.out]
    have HBA := Lib.hid (hb1.alloc hb1.size (.cells #[.string s, .int .i64 e] 46))
    have hP0 : Bk w1.heap.size [.string s, .int .i64 e] (w1.alloc (.cells #[.string s, .int .i64 e] 46)).drew := Bk.drew (Bk.new _ _ _)
    have HP0 := Lib.hid hP0
    clear hb1 hP0
    go_wp2
    refine wp_region_held_drew (S := fun w' => Bk w1.heap.size [.string s, .int .i64 e] w') (by kernel_rfl) (by (exact HP0.out)) (fun hHeld => ?_)
    refine wpAnyH_take (i := 0) (oi := { dst := some 17, op := Go.Op.fieldAddr 46 (Go.Operand.tmp 5) 1, type := 0, pos := "ref.go:35", after := #[{ on := 3, ground := Go.Ground.gcOnly Go.Departure.lateStores }], guard := none }) (v := ?_) rfl (by kernel_rfl) (by kernel_rfl) (by kernel_rfl) (fun _ _ _ h => h) (Or.inl ⟨by rfl, ?_⟩) (by assumption) ?_
    (rotate_left; focus (intro wS hSw; have s1 := (hSw.2 1 _ rfl).1; clear hSw; go_simp; (try rw [if_neg (by omega)]); try with_reducible rfl))
    (try simp only [Act.put, List.setIfInBounds_toArray, List.set_cons_zero, List.set_cons_succ])
    refine wpAnyH_take (i := 1) (oi := { dst := some 18, op := Go.Op.load 3 (Go.Operand.tmp 17), type := 3, pos := "ref.go:35", after := #[{ on := 0, ground := Go.Ground.data }, { on := 3, ground := Go.Ground.gcOnly Go.Departure.lateStores }], guard := none }) (v := ?_) rfl (by kernel_rfl) (by kernel_rfl) (by kernel_rfl) (fun _ _ _ h => h) (Or.inl ⟨by rfl, ?_⟩) (by assumption) ?_
    (rotate_left; focus (intro wS hSw; have s1 := (hSw.2 1 _ rfl).1; clear hSw; go_simp; (try rw [if_neg (by omega)]); try with_reducible rfl))
    (try simp only [Act.put, List.setIfInBounds_toArray, List.set_cons_zero, List.set_cons_succ])
    refine wpAnyH_take (i := 2) (oi := { dst := some 2, op := Go.Op.assign (Go.Operand.const (Go.Value.string { data := #[] })), type := 9, pos := "ref.go:35", after := #[{ on := 0, ground := Go.Ground.textOnly Go.Departure.lateStores }, { on := 1, ground := Go.Ground.textOnly Go.Departure.lateStores }], guard := none }) (v := ?_) rfl (by kernel_rfl) (by kernel_rfl) (by kernel_rfl) (fun _ _ _ h => h) (Or.inl ⟨by rfl, ?_⟩) (by assumption) ?_
    (rotate_left; focus (intro wS hSw; have s1 := (hSw.2 1 _ rfl).1; clear hSw; go_simp; (try rw [if_neg (by omega)]); try with_reducible rfl))
    (try simp only [Act.put, List.setIfInBounds_toArray, List.set_cons_zero, List.set_cons_succ])
    refine wpAnyH_take (i := 3) (oi := { dst := some 3, op := Go.Op.assign (Go.Operand.const (Go.Value.int Go.IntKind.i64 0)), type := 3, pos := "ref.go:35", after := #[{ on := 2, ground := Go.Ground.chain }, { on := 0, ground := Go.Ground.textOnly Go.Departure.lateStores }, { on := 1, ground := Go.Ground.textOnly Go.Departure.lateStores }, { on := 2, ground := Go.Ground.phase }], guard := none }) (v := ?_) rfl (by kernel_rfl) (by kernel_rfl) (by kernel_rfl) (fun _ _ _ h => h) (Or.inl ⟨by rfl, ?_⟩) (by assumption) ?_
    (rotate_left; focus (intro wS hSw; have s1 := (hSw.2 1 _ rfl).1; clear hSw; go_simp; (try rw [if_neg (by omega)]); try with_reducible rfl))
    (try simp only [Act.put, List.setIfInBounds_toArray, List.set_cons_zero, List.set_cons_succ])
    refine wpAnyH_take (i := 4) (oi := { dst := some 4, op := Go.Op.assign (Go.Operand.tmp 18), type := 3, pos := "ref.go:35", after := #[{ on := 1, ground := Go.Ground.data }, { on := 3, ground := Go.Ground.chain }, { on := 0, ground := Go.Ground.phase }, { on := 1, ground := Go.Ground.phase }, { on := 2, ground := Go.Ground.phase }, { on := 3, ground := Go.Ground.phase }], guard := none }) (v := ?_) rfl (by kernel_rfl) (by kernel_rfl) (by kernel_rfl) (fun _ _ _ h => h) (Or.inl ⟨by rfl, ?_⟩) (by assumption) ?_
    (rotate_left; focus (intro wS hSw; have s1 := (hSw.2 1 _ rfl).1; clear hSw; go_simp; (try rw [if_neg (by omega)]); try with_reducible rfl))
    (try simp only [Act.put, List.setIfInBounds_toArray, List.set_cons_zero, List.set_cons_succ])
    refine wpAnyH_done (by kernel_rfl) ?_ _
    go_wp2
    go_ret3
    exact ⟨rfl, HBA.out.drew⟩
end Go.Proofs.Ytfgoobanjobjgaa

