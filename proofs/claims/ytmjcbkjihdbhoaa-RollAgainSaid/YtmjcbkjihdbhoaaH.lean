/-
  The law of RollAgain for all arguments that the row lets in. Conditions: none.
-/
import Derived.Test.YtmjcbkjihdbhoaaG
set_option linter.unusedVariables false
set_option linter.unusedSimpArgs false
namespace Go.Proofs.Ytmjcbkjihdbhoaa
open Go.RowKit
theorem catB_snoc (l : List ByteArray) (x : ByteArray) : catB (l ++ [x]) = catB l ++ x := by
  unfold catB
  induction l with
  | nil =>
    show x ++ ByteArray.empty = ByteArray.empty ++ x
    rw [ByteArray.append_empty, ByteArray.empty_append]
  | cons y l ih =>
    simp only [List.cons_append, List.foldr_cons]
    rw [ih, ByteArray.append_assoc]
theorem sl_drop {w : World} {b o K : Nat} {l : List ByteArray} (h : Sl strC 1 w (some ⟨b, o, none⟩) l) (hK : K ≤ l.length) : Sl strC 1 w (some ⟨b, o + K, none⟩) (l.drop K) := by
  intro i hi
  rw [List.length_drop] at hi
  obtain ⟨b2, o2, e, hb, hc⟩ := h (K + i) (by omega)
  simp only [Option.some.injEq, Addr.mk.injEq, and_true] at e
  obtain ⟨rfl, rfl⟩ := e
  refine ⟨b, o + K, rfl, hb, fun j v hv => ?_⟩
  rw [List.getElem_drop] at hv
  rw [← hc j v hv]
  congr 2
  omega
theorem drop_take_next {α : Type} (l : List α) (j K : Nat) (hj : j < l.length) : (l.take (j + 1)).drop K = if K ≤ j then (l.take j).drop K ++ [l[j]] else [] := by
  rw [takeT_next l j hj]
  split
  · next h => rw [List.drop_append_of_le_length (by rw [List.length_take]; omega)]
  · next h =>
    apply List.drop_of_length_le
    simp; omega
theorem drop_take_none {α : Type} (l : List α) (j K : Nat) (h : j ≤ K) : (l.take j).drop K = [] := by
  apply List.drop_of_length_le
  rw [List.length_take]; omega
theorem catB_drop_size (l : List ByteArray) : ∀ (K : Nat), (catB (l.drop K)).size ≤ (catB l).size := by
  induction l with
  | nil => intro K; simp
  | cons x l ih =>
    intro K
    cases K with
    | zero => exact Nat.le_refl _
    | succ K =>
      rw [List.drop_succ_cons]
      refine Nat.le_trans (ih K) ?_
      show (catB l).size ≤ (x ++ catB l).size
      rw [ByteArray.size_append]; omega
theorem catB_take_size (l : List ByteArray) : ∀ (K : Nat), (catB (l.take K)).size ≤ (catB l).size := by
  induction l with
  | nil => intro K; simp
  | cons x l ih =>
    intro K
    cases K with
    | zero => exact Nat.zero_le _
    | succ K =>
      rw [List.take_succ_cons]
      show (x ++ catB (l.take K)).size ≤ (x ++ catB l).size
      rw [ByteArray.size_append, ByteArray.size_append]
      have := ih K
      omega
set_option maxRecDepth 100000 in
set_option maxHeartbeats 8000000 in
theorem again_long (s : ByteArray) (a b m i : Int) (w : World) (h1 : 600 < s.size) : Calls Try.prog 4 #[.string s, .agg #[.int .i64 a, .int .i64 b, .int .u32 m], .int .u8 i] w fun e w' => e = .returned (.bool true) ∧ Below w.heap.size w w' := by
  have g1 : (600 : Int) < (s.size : Int) := by omega
  have HB := Lib.hid (below_new w (.cells #[.int .i64 a, .int .i64 b, .int .u32 m] 24))
  go_enter Try.func4, Try.ntmps4
  go_wp2_with fail
  refine (awake_any _).mono ?_
  rintro e w2 ⟨rfl, hb⟩
  have HB2 := Lib.hid (below_cons HB.out hb)
  clear hb
  go_wp2
  go_ret
  exact ⟨rfl, HB2.out⟩
set_option maxRecDepth 100000 in
set_option maxHeartbeats 8000000 in
theorem again_bad (s : ByteArray) (a b m i : Int) (w : World) (h1 : s.size ≤ 600) (h : a < 1 ∨ b < a ∨ 4096 < b) : Calls Try.prog 4 #[.string s, .agg #[.int .i64 a, .int .i64 b, .int .u32 m], .int .u8 i] w fun e w' => e = .returned (.bool true) ∧ Below w.heap.size w w' := by
  have g1 : ¬ (600 : Int) < (s.size : Int) := by omega
  have HB := Lib.hid (below_new w (.cells #[.int .i64 a, .int .i64 b, .int .u32 m] 24))
  have T := Lib.hid (fun W => cut_bad s a b m W h)
  clear h
  go_enter Try.func4, Try.ntmps4
  go_wp2_with fail
  refine (T.out _).mono ?_
  rintro e w1 ⟨rfl, rfl⟩
  go_wp2_with fail
  refine (awake_any _).mono ?_
  rintro e w2 ⟨rfl, hb⟩
  have HB2 := Lib.hid (below_cons HB.out hb)
  clear hb
  go_wp2
  go_ret
  exact ⟨rfl, HB2.out⟩
set_option maxRecDepth 100000 in
set_option maxHeartbeats 8000000 in
theorem again_none (s : ByteArray) (lo hi : Nat) (m i : Int) (w : World) (h0 : s.size = 0) (hlo : 1 ≤ lo) (hlh : lo ≤ hi) (hhi : hi ≤ 4096) : Calls Try.prog 4 #[.string s, .agg #[.int .i64 lo, .int .i64 hi, .int .u32 m], .int .u8 i] w fun e w' => e = .returned (.bool true) ∧ Below w.heap.size w w' := by
  have g1 : ¬ (600 : Int) < (s.size : Int) := by omega
  have hem := empty_of_zero h0
  have HB := Lib.hid (below_new w (.cells #[.int .i64 lo, .int .i64 hi, .int .u32 m] 24))
  have T := fun W => cut_any s lo hi m W hlo hlh hhi (by omega)
  rw [cuts_nil lo hi m s h0] at T
  have HT := Lib.hid T
  clear T
  go_enter Try.func4, Try.ntmps4
  go_wp2_with fail
  refine (HT.out _).mono ?_
  rintro e w1 ⟨al, cl, rfl, _, hb⟩
  have HB1 := Lib.hid (below_cons HB.out hb)
  clear hb
  go_wp2_with fail
  refine (awake_any _).mono ?_
  rintro e w2 ⟨rfl, hb⟩
  have HB2 := Lib.hid (below_cons HB1.out hb)
  clear hb
  go_wp2
  go_ret
  exact ⟨rfl, HB2.out⟩
set_option maxRecDepth 100000 in
set_option maxHeartbeats 8000000 in
theorem again_main (s : ByteArray) (lo hi : Nat) (m : Int) (i : Nat) (w : World) (h1 : s.size ≤ 600) (h0 : s.size ≠ 0) (hi256 : i < 256) (hlo : 1 ≤ lo) (hlh : lo ≤ hi) (hhi : hi ≤ 4096) : Calls Try.prog 4 #[.string s, .agg #[.int .i64 lo, .int .i64 hi, .int .u32 m], .int .u8 i] w fun e w' => e = .returned (.bool true) ∧ Below w.heap.size w w' := by
  have g0 : ¬ (600 : Int) < (s.size : Int) := by omega
  have hA := Bk.new w 24 #[.int .i64 lo, .int .i64 hi, .int .u32 m]
  have HA := Lib.hid hA; have HB := Lib.hid (below_new w (.cells #[.int .i64 lo, .int .i64 hi, .int .u32 m] 24))
  have T := Lib.hid (fun W => cut_any2 s lo hi m W hlo hlh hhi (by omega))
  clear hA
  have HLS := Lib.hid (fun j hj => cuts_sizes (m := m) hlo hlh j s hj)
  have hll := cuts_len (m := m) hlo hlh s.size s (Nat.le_refl _)
  have hpos : 0 < (cuts lo hi m s).length := by rw [cuts_cons hlo hlh s h0]; simp
  have HCAT := Lib.hid (cuts_cat (m := m) hlo hlh s.size s (Nat.le_refl _))
  have HDR := Lib.hid (fun k hk => cuts_drop (m := m) hlo hlh k s hk)
  have HCUT := Lib.hid (fun x W (hx : x.size ≤ 600) => cut_any x lo hi m W hlo hlh hhi (by omega))
  go_enter Try.func4, Try.ntmps4
  go_wp2_with fail
  refine (T.out _).mono ?_
  rintro e w1 ⟨al, cl, rfl, hcl, hsl, hb⟩
  have HA1 := Lib.hid (HA.out.keep hb); have HB1 := Lib.hid (below_cons HB.out hb); have HSL := Lib.hid hsl
  clear hb hsl T HA HB
  generalize hL : cuts lo hi m s = L at *
  have HLE := Lib.hid hL
  obtain ⟨NL, hNL⟩ : ∃ n, n = L.length := ⟨_, rfl⟩
  have HNL := Lib.hid hNL
  rw [← hNL] at hll hpos hcl ⊢
  obtain ⟨K, hK⟩ : ∃ K, K = i % NL := ⟨_, rfl⟩
  have hKl : K < NL := by rw [hK]; exact Nat.mod_lt _ hpos
  have hrem : ((i : Int).tmod (NL : Int)) = (K : Int) := by rw [hK]; exact (Int.ofNat_tmod i NL).symm
  have HK := Lib.hid hK
  have hz : ((NL : Int) == 0) = false := by simp; omega
  have hz2 : ¬ (NL : Int) = 0 := by omega
  clear hL hNL hK
  go_wp2
  have hkk : (K : Int) ≤ (NL : Int) := by omega
  go_loopw [9, 10, 12] (fun al2 re j wr => ∃ J : Nat, j = .int .i64 J ∧ J ≤ NL ∧ al2 = .string (catB (L.take J)) ∧ re = .string (catB ((L.take J).drop K)) ∧ Below w1.heap.size w1 wr) (fun _ _ j _ => NL - (intOf j).toNat)
  case atStart => exact ⟨0, rfl, by omega, rfl, by rw [List.take_zero, List.drop_nil]; rfl, Below.refl _ _⟩
  case round =>
    obtain ⟨J, rfl, hJ, rfl, rfl, hbw⟩ := hrel
    have HBW := Lib.hid hbw
    clear hbw
    by_cases hlt : J < NL
    · have hJl : J < L.length := by rw [← HNL.out]; exact hlt
      obtain ⟨b2, o2, rfl, hb2, hc2⟩ := slT_str HSL.out J hJl
      have HCX : Hid (∀ W, Below w1.heap.size w1 W → W.cell? ⟨b2, o2 + J, none⟩ = some (.string L[J])) := Lib.hid (fun W h => (h.cell (p := ⟨b2, o2 + J, none⟩) hb2).trans hc2)
      have HPL : Hid (∀ W, Below w1.heap.size w1 W → W.cell? ⟨w.heap.size, 0, none⟩ = some (.int .i64 lo) ∧ W.cell? ⟨w.heap.size, 1, none⟩ = some (.int .i64 hi)) := Lib.hid (fun W h => ⟨((HA1.out.keep h).2 0 _ rfl).1, ((HA1.out.keep h).2 1 _ rfl).1⟩)
      have c0 := HCX.out wr HBW.out
      have p0 := (HPL.out wr HBW.out).1
      have p1 := (HPL.out wr HBW.out).2
      have hsz : L[J].size ≤ hi ∧ (J + 1 < NL → lo ≤ L[J].size) := by
        have e := HLE.out
        subst e
        have := HLS.out J hJl
        rw [HNL.out]; exact this
      have HA2 : Hid (catB (L.take (J + 1)) = catB (L.take J) ++ L[J]) := Lib.hid (by rw [takeT_next L J hJl, catB_snoc])
      have HR1 : Hid (K ≤ J → catB ((L.take (J + 1)).drop K) = catB ((L.take J).drop K) ++ L[J]) := Lib.hid (fun h => by rw [drop_take_next L J K hJl, if_pos h, catB_snoc])
      have HR0 : Hid (J < K → catB ((L.take (J + 1)).drop K) = catB ((L.take J).drop K)) := Lib.hid (fun h => by rw [drop_take_none L (J + 1) K (by omega), drop_take_none L J K (by omega)])
      clear hc2
      have hA9 := catB_take_size L J
      have hR9 := catB_drop_size (L.take J) K
      rw [HCAT.out] at hA9
      generalize L[J] = x at *
      generalize catB (L.take J) = A0 at *
      generalize catB ((L.take J).drop K) = R0 at *
      have hA8 : A0.size + x.size ≤ 9223372036854775807 := by omega
      have hR8 : R0.size + x.size ≤ 9223372036854775807 := by omega
      have hw : IntKind.i64.wrap ((NL : Int) - 1) = (NL : Int) - 1 := by rw [IntKind.wrap_i64]; omega
      have d0 : ¬ (hi : Int) < (x.size : Int) := by omega
      have d1 : decide ((hi : Int) < (x.size : Int)) = false := decide_eq_false d0
      have d1b : decide (hi < x.size) = false := decide_eq_false (by omega)
      by_cases hk : K ≤ J
      · have HR2 := Lib.hid (HR1.out hk)
        have dk : decide (J < K) = false := decide_eq_false (by omega)
        by_cases hx : x.size < lo
        · have hj2 : ¬ J + 1 < NL := by intro h; have := hsz.2 h; omega
          have d2 : ¬ (J : Int) < (NL : Int) - 1 := by omega
          have d2b : decide ((J : Int) < (NL : Int) - 1) = false := decide_eq_false d2
          go_wp2_with fail
          have hP0 : Below w1.heap.size w1 wr.drew := HBW.out.drew
          refine wp_region_held_drew (S := fun w' => Below w1.heap.size w1 w') (by kernel_rfl) (by (first | exact hP0)) (fun hHeld => ?_)
          refine wpAnyH_take (i := 0) (oi := { dst := some 72, op := Go.Op.move (Go.Operand.tmp 7), type := 26, pos := "law.go:80", after := #[], guard := none }) (v := ?_) rfl (by kernel_rfl) (by kernel_rfl) (by kernel_rfl) (fun _ _ _ h => h) (Or.inl ⟨by rfl, ?_⟩) (by assumption) ?_
          (rotate_left; focus (intro wS hSw; have s0 := HCX.out wS hSw; have s1 := (HPL.out wS hSw).1; have s2 := (HPL.out wS hSw).2; clear hSw; go_simp; (try rw [if_neg (by omega)]); try with_reducible rfl))
          (try simp only [Act.put, List.setIfInBounds_toArray, List.set_cons_zero, List.set_cons_succ])
          refine wpAnyH_take (i := 1) (oi := { dst := some 73, op := Go.Op.move (Go.Operand.tmp 12), type := 3, pos := "law.go:80", after := #[], guard := none }) (v := ?_) rfl (by kernel_rfl) (by kernel_rfl) (by kernel_rfl) (fun _ _ _ h => h) (Or.inl ⟨by rfl, ?_⟩) (by assumption) ?_
          (rotate_left; focus (intro wS hSw; have s0 := HCX.out wS hSw; have s1 := (HPL.out wS hSw).1; have s2 := (HPL.out wS hSw).2; clear hSw; go_simp; (try rw [if_neg (by omega)]); try with_reducible rfl))
          (try simp only [Act.put, List.setIfInBounds_toArray, List.set_cons_zero, List.set_cons_succ])
          refine wpAnyH_take (i := 2) (oi := { dst := some 74, op := Go.Op.indexAddr 26 (Go.Operand.tmp 72) (Go.Operand.tmp 73), type := 0, pos := "law.go:80", after := #[{ on := 0, ground := Go.Ground.data }, { on := 1, ground := Go.Ground.data }], guard := none }) (v := ?_) rfl (by kernel_rfl) (by kernel_rfl) (by kernel_rfl) (fun _ _ _ h => h) (Or.inl ⟨by rfl, ?_⟩) (by assumption) ?_
          (rotate_left; focus (intro wS hSw; have s0 := HCX.out wS hSw; have s1 := (HPL.out wS hSw).1; have s2 := (HPL.out wS hSw).2; clear hSw; go_simp; (try rw [if_neg (by omega)]); try with_reducible rfl))
          (try simp only [Act.put, List.setIfInBounds_toArray, List.set_cons_zero, List.set_cons_succ])
          refine wpAnyH_take (i := 3) (oi := { dst := some 75, op := Go.Op.load 9 (Go.Operand.tmp 74), type := 9, pos := "law.go:80", after := #[{ on := 2, ground := Go.Ground.data }], guard := none }) (v := ?_) rfl (by kernel_rfl) (by kernel_rfl) (by kernel_rfl) (fun _ _ _ h => h) (Or.inl ⟨by rfl, ?_⟩) (by assumption) ?_
          (rotate_left; focus (intro wS hSw; have s0 := HCX.out wS hSw; have s1 := (HPL.out wS hSw).1; have s2 := (HPL.out wS hSw).2; clear hSw; go_simp; (try rw [if_neg (by omega)]); try with_reducible rfl))
          (try simp only [Act.put, List.setIfInBounds_toArray, List.set_cons_zero, List.set_cons_succ])
          refine wpAnyH_take (i := 4) (oi := { dst := some 76, op := Go.Op.call { callee := Go.Callee.builtin Go.Builtin.len, args := #[Go.Operand.tmp 75], argTypes := #[9] }, type := 3, pos := "law.go:80", after := #[{ on := 3, ground := Go.Ground.data }], guard := none }) (v := ?_) rfl (by kernel_rfl) (by kernel_rfl) (by kernel_rfl) (fun _ _ _ h => h) (Or.inl ⟨by rfl, ?_⟩) (by assumption) ?_
          (rotate_left; focus (intro wS hSw; have s0 := HCX.out wS hSw; have s1 := (HPL.out wS hSw).1; have s2 := (HPL.out wS hSw).2; clear hSw; go_simp; (try rw [if_neg (by omega)]); try with_reducible rfl))
          (try simp only [Act.put, List.setIfInBounds_toArray, List.set_cons_zero, List.set_cons_succ])
          refine wpAnyH_take (i := 5) (oi := { dst := some 77, op := Go.Op.fieldAddr 24 (Go.Operand.tmp 4) 1, type := 0, pos := "law.go:80", after := #[], guard := none }) (v := ?_) rfl (by kernel_rfl) (by kernel_rfl) (by kernel_rfl) (fun _ _ _ h => h) (Or.inl ⟨by rfl, ?_⟩) (by assumption) ?_
          (rotate_left; focus (intro wS hSw; have s0 := HCX.out wS hSw; have s1 := (HPL.out wS hSw).1; have s2 := (HPL.out wS hSw).2; clear hSw; go_simp; (try rw [if_neg (by omega)]); try with_reducible rfl))
          (try simp only [Act.put, List.setIfInBounds_toArray, List.set_cons_zero, List.set_cons_succ])
          refine wpAnyH_take (i := 6) (oi := { dst := some 78, op := Go.Op.load 3 (Go.Operand.tmp 77), type := 3, pos := "law.go:80", after := #[{ on := 5, ground := Go.Ground.data }], guard := none }) (v := ?_) rfl (by kernel_rfl) (by kernel_rfl) (by kernel_rfl) (fun _ _ _ h => h) (Or.inl ⟨by rfl, ?_⟩) (by assumption) ?_
          (rotate_left; focus (intro wS hSw; have s0 := HCX.out wS hSw; have s1 := (HPL.out wS hSw).1; have s2 := (HPL.out wS hSw).2; clear hSw; go_simp; (try rw [if_neg (by omega)]); try with_reducible rfl))
          (try simp only [Act.put, List.setIfInBounds_toArray, List.set_cons_zero, List.set_cons_succ])
          refine wpAnyH_take (i := 7) (oi := { dst := some 79, op := Go.Op.binOp Go.BinOp.gtr 3 (Go.Operand.tmp 76) (Go.Operand.tmp 78) 3, type := 4, pos := "law.go:80", after := #[{ on := 4, ground := Go.Ground.data }, { on := 6, ground := Go.Ground.data }], guard := none }) (v := ?_) rfl (by kernel_rfl) (by kernel_rfl) (by kernel_rfl) (fun _ _ _ h => h) (Or.inl ⟨by rfl, ?_⟩) (by assumption) ?_
          (rotate_left; focus (intro wS hSw; have s0 := HCX.out wS hSw; have s1 := (HPL.out wS hSw).1; have s2 := (HPL.out wS hSw).2; clear hSw; go_simp; (try rw [if_neg (by omega)]); try with_reducible rfl))
          (try simp only [Act.put, List.setIfInBounds_toArray, List.set_cons_zero, List.set_cons_succ])
          refine wpAnyH_take (i := 8) (oi := { dst := some 80, op := Go.Op.move (Go.Operand.tmp 79), type := 4, pos := "law.go:80", after := #[{ on := 7, ground := Go.Ground.data }], guard := none }) (v := ?_) rfl (by kernel_rfl) (by kernel_rfl) (by kernel_rfl) (fun _ _ _ h => h) (Or.inl ⟨by rfl, ?_⟩) (by assumption) ?_
          (rotate_left; focus (intro wS hSw; have s0 := HCX.out wS hSw; have s1 := (HPL.out wS hSw).1; have s2 := (HPL.out wS hSw).2; clear hSw; go_simp; (try rw [if_neg (by omega)]); try with_reducible rfl))
          (try simp only [Act.put, List.setIfInBounds_toArray, List.set_cons_zero, List.set_cons_succ])
          refine wpAnyH_take (i := 9) (oi := { dst := some 81, op := Go.Op.move (Go.Operand.tmp 7), type := 26, pos := "law.go:80", after := #[{ on := 8, ground := Go.Ground.guard }], guard := some (8, false) }) (v := ?_) rfl (by kernel_rfl) (by kernel_rfl) (by kernel_rfl) (fun _ _ _ h => h) (Or.inl ⟨by rfl, ?_⟩) (by assumption) ?_
          (rotate_left; focus (intro wS hSw; have s0 := HCX.out wS hSw; have s1 := (HPL.out wS hSw).1; have s2 := (HPL.out wS hSw).2; clear hSw; go_simp; (try rw [if_neg (by omega)]); try with_reducible rfl))
          (try simp only [Act.put, List.setIfInBounds_toArray, List.set_cons_zero, List.set_cons_succ])
          refine wpAnyH_take (i := 10) (oi := { dst := some 82, op := Go.Op.move (Go.Operand.tmp 12), type := 3, pos := "law.go:80", after := #[{ on := 8, ground := Go.Ground.guard }], guard := some (8, false) }) (v := ?_) rfl (by kernel_rfl) (by kernel_rfl) (by kernel_rfl) (fun _ _ _ h => h) (Or.inl ⟨by rfl, ?_⟩) (by assumption) ?_
          (rotate_left; focus (intro wS hSw; have s0 := HCX.out wS hSw; have s1 := (HPL.out wS hSw).1; have s2 := (HPL.out wS hSw).2; clear hSw; go_simp; (try rw [if_neg (by omega)]); try with_reducible rfl))
          (try simp only [Act.put, List.setIfInBounds_toArray, List.set_cons_zero, List.set_cons_succ])
          refine wpAnyH_take (i := 11) (oi := { dst := some 83, op := Go.Op.indexAddr 26 (Go.Operand.tmp 81) (Go.Operand.tmp 82), type := 0, pos := "law.go:80", after := #[{ on := 9, ground := Go.Ground.data }, { on := 10, ground := Go.Ground.data }, { on := 8, ground := Go.Ground.guard }], guard := some (8, false) }) (v := ?_) rfl (by kernel_rfl) (by kernel_rfl) (by kernel_rfl) (fun _ _ _ h => h) (Or.inl ⟨by rfl, ?_⟩) (by assumption) ?_
          (rotate_left; focus (intro wS hSw; have s0 := HCX.out wS hSw; have s1 := (HPL.out wS hSw).1; have s2 := (HPL.out wS hSw).2; clear hSw; go_simp; (try rw [if_neg (by omega)]); try with_reducible rfl))
          (try simp only [Act.put, List.setIfInBounds_toArray, List.set_cons_zero, List.set_cons_succ])
          refine wpAnyH_take (i := 12) (oi := { dst := some 84, op := Go.Op.load 9 (Go.Operand.tmp 83), type := 9, pos := "law.go:80", after := #[{ on := 11, ground := Go.Ground.data }, { on := 8, ground := Go.Ground.guard }], guard := some (8, false) }) (v := ?_) rfl (by kernel_rfl) (by kernel_rfl) (by kernel_rfl) (fun _ _ _ h => h) (Or.inl ⟨by rfl, ?_⟩) (by assumption) ?_
          (rotate_left; focus (intro wS hSw; have s0 := HCX.out wS hSw; have s1 := (HPL.out wS hSw).1; have s2 := (HPL.out wS hSw).2; clear hSw; go_simp; (try rw [if_neg (by omega)]); try with_reducible rfl))
          (try simp only [Act.put, List.setIfInBounds_toArray, List.set_cons_zero, List.set_cons_succ])
          refine wpAnyH_take (i := 13) (oi := { dst := some 85, op := Go.Op.call { callee := Go.Callee.builtin Go.Builtin.len, args := #[Go.Operand.tmp 84], argTypes := #[9] }, type := 3, pos := "law.go:80", after := #[{ on := 12, ground := Go.Ground.data }, { on := 8, ground := Go.Ground.guard }], guard := some (8, false) }) (v := ?_) rfl (by kernel_rfl) (by kernel_rfl) (by kernel_rfl) (fun _ _ _ h => h) (Or.inl ⟨by rfl, ?_⟩) (by assumption) ?_
          (rotate_left; focus (intro wS hSw; have s0 := HCX.out wS hSw; have s1 := (HPL.out wS hSw).1; have s2 := (HPL.out wS hSw).2; clear hSw; go_simp; (try rw [if_neg (by omega)]); try with_reducible rfl))
          (try simp only [Act.put, List.setIfInBounds_toArray, List.set_cons_zero, List.set_cons_succ])
          refine wpAnyH_take (i := 14) (oi := { dst := some 86, op := Go.Op.fieldAddr 24 (Go.Operand.tmp 4) 0, type := 0, pos := "law.go:80", after := #[{ on := 8, ground := Go.Ground.guard }], guard := some (8, false) }) (v := ?_) rfl (by kernel_rfl) (by kernel_rfl) (by kernel_rfl) (fun _ _ _ h => h) (Or.inl ⟨by rfl, ?_⟩) (by assumption) ?_
          (rotate_left; focus (intro wS hSw; have s0 := HCX.out wS hSw; have s1 := (HPL.out wS hSw).1; have s2 := (HPL.out wS hSw).2; clear hSw; go_simp; (try rw [if_neg (by omega)]); try with_reducible rfl))
          (try simp only [Act.put, List.setIfInBounds_toArray, List.set_cons_zero, List.set_cons_succ])
          refine wpAnyH_take (i := 15) (oi := { dst := some 87, op := Go.Op.load 3 (Go.Operand.tmp 86), type := 3, pos := "law.go:80", after := #[{ on := 14, ground := Go.Ground.data }, { on := 8, ground := Go.Ground.guard }], guard := some (8, false) }) (v := ?_) rfl (by kernel_rfl) (by kernel_rfl) (by kernel_rfl) (fun _ _ _ h => h) (Or.inl ⟨by rfl, ?_⟩) (by assumption) ?_
          (rotate_left; focus (intro wS hSw; have s0 := HCX.out wS hSw; have s1 := (HPL.out wS hSw).1; have s2 := (HPL.out wS hSw).2; clear hSw; go_simp; (try rw [if_neg (by omega)]); try with_reducible rfl))
          (try simp only [Act.put, List.setIfInBounds_toArray, List.set_cons_zero, List.set_cons_succ])
          refine wpAnyH_take (i := 16) (oi := { dst := some 88, op := Go.Op.binOp Go.BinOp.lss 3 (Go.Operand.tmp 85) (Go.Operand.tmp 87) 3, type := 4, pos := "law.go:80", after := #[{ on := 13, ground := Go.Ground.data }, { on := 15, ground := Go.Ground.data }, { on := 8, ground := Go.Ground.guard }], guard := some (8, false) }) (v := ?_) rfl (by kernel_rfl) (by kernel_rfl) (by kernel_rfl) (fun _ _ _ h => h) (Or.inl ⟨by rfl, ?_⟩) (by assumption) ?_
          (rotate_left; focus (intro wS hSw; have s0 := HCX.out wS hSw; have s1 := (HPL.out wS hSw).1; have s2 := (HPL.out wS hSw).2; clear hSw; go_simp; (try rw [if_neg (by omega)]); try with_reducible rfl))
          (try simp only [Act.put, List.setIfInBounds_toArray, List.set_cons_zero, List.set_cons_succ])
          refine wpAnyH_take (i := 17) (oi := { dst := some 89, op := Go.Op.move (Go.Operand.tmp 88), type := 4, pos := "law.go:80", after := #[{ on := 16, ground := Go.Ground.data }, { on := 8, ground := Go.Ground.chain }, { on := 8, ground := Go.Ground.guard }], guard := some (8, false) }) (v := ?_) rfl (by kernel_rfl) (by kernel_rfl) (by kernel_rfl) (fun _ _ _ h => h) (Or.inl ⟨by rfl, ?_⟩) (by assumption) ?_
          (rotate_left; focus (intro wS hSw; have s0 := HCX.out wS hSw; have s1 := (HPL.out wS hSw).1; have s2 := (HPL.out wS hSw).2; clear hSw; go_simp; (try rw [if_neg (by omega)]); try with_reducible rfl))
          (try simp only [Act.put, List.setIfInBounds_toArray, List.set_cons_zero, List.set_cons_succ])
          refine wpAnyH_take (i := 18) (oi := { dst := some 90, op := Go.Op.move (Go.Operand.tmp 12), type := 3, pos := "law.go:80", after := #[{ on := 17, ground := Go.Ground.guard }], guard := some (17, true) }) (v := ?_) rfl (by kernel_rfl) (by kernel_rfl) (by kernel_rfl) (fun _ _ _ h => h) (Or.inl ⟨by rfl, ?_⟩) (by assumption) ?_
          (rotate_left; focus (intro wS hSw; have s0 := HCX.out wS hSw; have s1 := (HPL.out wS hSw).1; have s2 := (HPL.out wS hSw).2; clear hSw; go_simp; (try rw [if_neg (by omega)]); try with_reducible rfl))
          (try simp only [Act.put, List.setIfInBounds_toArray, List.set_cons_zero, List.set_cons_succ])
          refine wpAnyH_take (i := 19) (oi := { dst := some 91, op := Go.Op.move (Go.Operand.tmp 7), type := 26, pos := "law.go:80", after := #[{ on := 17, ground := Go.Ground.guard }], guard := some (17, true) }) (v := ?_) rfl (by kernel_rfl) (by kernel_rfl) (by kernel_rfl) (fun _ _ _ h => h) (Or.inl ⟨by rfl, ?_⟩) (by assumption) ?_
          (rotate_left; focus (intro wS hSw; have s0 := HCX.out wS hSw; have s1 := (HPL.out wS hSw).1; have s2 := (HPL.out wS hSw).2; clear hSw; go_simp; (try rw [if_neg (by omega)]); try with_reducible rfl))
          (try simp only [Act.put, List.setIfInBounds_toArray, List.set_cons_zero, List.set_cons_succ])
          refine wpAnyH_take (i := 20) (oi := { dst := some 92, op := Go.Op.call { callee := Go.Callee.builtin Go.Builtin.len, args := #[Go.Operand.tmp 91], argTypes := #[26] }, type := 3, pos := "law.go:80", after := #[{ on := 19, ground := Go.Ground.data }, { on := 17, ground := Go.Ground.guard }], guard := some (17, true) }) (v := ?_) rfl (by kernel_rfl) (by kernel_rfl) (by kernel_rfl) (fun _ _ _ h => h) (Or.inl ⟨by rfl, ?_⟩) (by assumption) ?_
          (rotate_left; focus (intro wS hSw; have s0 := HCX.out wS hSw; have s1 := (HPL.out wS hSw).1; have s2 := (HPL.out wS hSw).2; clear hSw; go_simp; (try rw [if_neg (by omega)]); try with_reducible rfl))
          (try simp only [Act.put, List.setIfInBounds_toArray, List.set_cons_zero, List.set_cons_succ])
          refine wpAnyH_take (i := 21) (oi := { dst := some 93, op := Go.Op.binOp Go.BinOp.sub 3 (Go.Operand.tmp 92) (Go.Operand.const (Go.Value.int Go.IntKind.i64 1)) 3, type := 3, pos := "law.go:80", after := #[{ on := 20, ground := Go.Ground.data }, { on := 17, ground := Go.Ground.guard }], guard := some (17, true) }) (v := ?_) rfl (by kernel_rfl) (by kernel_rfl) (by kernel_rfl) (fun _ _ _ h => h) (Or.inl ⟨by rfl, ?_⟩) (by assumption) ?_
          (rotate_left; focus (intro wS hSw; have s0 := HCX.out wS hSw; have s1 := (HPL.out wS hSw).1; have s2 := (HPL.out wS hSw).2; clear hSw; go_simp; (try rw [if_neg (by omega)]); try with_reducible rfl))
          (try simp only [Act.put, List.setIfInBounds_toArray, List.set_cons_zero, List.set_cons_succ])
          refine wpAnyH_take (i := 22) (oi := { dst := some 94, op := Go.Op.binOp Go.BinOp.lss 3 (Go.Operand.tmp 90) (Go.Operand.tmp 93) 3, type := 4, pos := "law.go:80", after := #[{ on := 18, ground := Go.Ground.data }, { on := 21, ground := Go.Ground.data }, { on := 17, ground := Go.Ground.guard }], guard := some (17, true) }) (v := ?_) rfl (by kernel_rfl) (by kernel_rfl) (by kernel_rfl) (fun _ _ _ h => h) (Or.inl ⟨by rfl, ?_⟩) (by assumption) ?_
          (rotate_left; focus (intro wS hSw; have s0 := HCX.out wS hSw; have s1 := (HPL.out wS hSw).1; have s2 := (HPL.out wS hSw).2; clear hSw; go_simp; (try rw [if_neg (by omega)]); try with_reducible rfl))
          (try simp only [Act.put, List.setIfInBounds_toArray, List.set_cons_zero, List.set_cons_succ])
          refine wpAnyH_take (i := 23) (oi := { dst := some 95, op := Go.Op.pick (Go.Operand.tmp 89) (Go.Operand.tmp 94) (Go.Operand.const (Go.Value.bool false)), type := 4, pos := "law.go:80", after := #[{ on := 17, ground := Go.Ground.data }, { on := 22, ground := Go.Ground.data }, { on := 8, ground := Go.Ground.guard }], guard := some (8, false) }) (v := ?_) rfl (by kernel_rfl) (by kernel_rfl) (by kernel_rfl) (fun _ _ _ h => h) (Or.inl ⟨by rfl, ?_⟩) (by assumption) ?_
          (rotate_left; focus (intro wS hSw; have s0 := HCX.out wS hSw; have s1 := (HPL.out wS hSw).1; have s2 := (HPL.out wS hSw).2; clear hSw; go_simp; (try rw [if_neg (by omega)]); try with_reducible rfl))
          (try simp only [Act.put, List.setIfInBounds_toArray, List.set_cons_zero, List.set_cons_succ])
          refine wpAnyH_take (i := 24) (oi := { dst := some 96, op := Go.Op.pick (Go.Operand.tmp 80) (Go.Operand.const (Go.Value.bool true)) (Go.Operand.tmp 95), type := 4, pos := "law.go:80", after := #[{ on := 8, ground := Go.Ground.data }, { on := 23, ground := Go.Ground.data }], guard := none }) (v := ?_) rfl (by kernel_rfl) (by kernel_rfl) (by kernel_rfl) (fun _ _ _ h => h) (Or.inl ⟨by rfl, ?_⟩) (by assumption) ?_
          (rotate_left; focus (intro wS hSw; have s0 := HCX.out wS hSw; have s1 := (HPL.out wS hSw).1; have s2 := (HPL.out wS hSw).2; clear hSw; go_simp; (try rw [if_neg (by omega)]); try with_reducible rfl))
          (try simp only [Act.put, List.setIfInBounds_toArray, List.set_cons_zero, List.set_cons_succ])
          refine wpAnyH_done (by kernel_rfl) ?_ _
          clear hP0
          go_wp2
          go_roundw
          case rel => exact ⟨J + 1, by go_num, by omega, by rw [HA2.out], by rw [HR2.out], HBW.out.drew⟩
          case measure => simp [intOf]; omega
        · have d2 : ¬ (x.size : Int) < (lo : Int) := by omega
          have d2b : decide (x.size < lo) = false := decide_eq_false hx
          go_wp2_with fail
          have hP0 : Below w1.heap.size w1 wr.drew := HBW.out.drew
          refine wp_region_held_drew (S := fun w' => Below w1.heap.size w1 w') (by kernel_rfl) (by (first | exact hP0)) (fun hHeld => ?_)
          refine wpAnyH_take (i := 0) (oi := { dst := some 72, op := Go.Op.move (Go.Operand.tmp 7), type := 26, pos := "law.go:80", after := #[], guard := none }) (v := ?_) rfl (by kernel_rfl) (by kernel_rfl) (by kernel_rfl) (fun _ _ _ h => h) (Or.inl ⟨by rfl, ?_⟩) (by assumption) ?_
          (rotate_left; focus (intro wS hSw; have s0 := HCX.out wS hSw; have s1 := (HPL.out wS hSw).1; have s2 := (HPL.out wS hSw).2; clear hSw; go_simp; (try rw [if_neg (by omega)]); try with_reducible rfl))
          (try simp only [Act.put, List.setIfInBounds_toArray, List.set_cons_zero, List.set_cons_succ])
          refine wpAnyH_take (i := 1) (oi := { dst := some 73, op := Go.Op.move (Go.Operand.tmp 12), type := 3, pos := "law.go:80", after := #[], guard := none }) (v := ?_) rfl (by kernel_rfl) (by kernel_rfl) (by kernel_rfl) (fun _ _ _ h => h) (Or.inl ⟨by rfl, ?_⟩) (by assumption) ?_
          (rotate_left; focus (intro wS hSw; have s0 := HCX.out wS hSw; have s1 := (HPL.out wS hSw).1; have s2 := (HPL.out wS hSw).2; clear hSw; go_simp; (try rw [if_neg (by omega)]); try with_reducible rfl))
          (try simp only [Act.put, List.setIfInBounds_toArray, List.set_cons_zero, List.set_cons_succ])
          refine wpAnyH_take (i := 2) (oi := { dst := some 74, op := Go.Op.indexAddr 26 (Go.Operand.tmp 72) (Go.Operand.tmp 73), type := 0, pos := "law.go:80", after := #[{ on := 0, ground := Go.Ground.data }, { on := 1, ground := Go.Ground.data }], guard := none }) (v := ?_) rfl (by kernel_rfl) (by kernel_rfl) (by kernel_rfl) (fun _ _ _ h => h) (Or.inl ⟨by rfl, ?_⟩) (by assumption) ?_
          (rotate_left; focus (intro wS hSw; have s0 := HCX.out wS hSw; have s1 := (HPL.out wS hSw).1; have s2 := (HPL.out wS hSw).2; clear hSw; go_simp; (try rw [if_neg (by omega)]); try with_reducible rfl))
          (try simp only [Act.put, List.setIfInBounds_toArray, List.set_cons_zero, List.set_cons_succ])
          refine wpAnyH_take (i := 3) (oi := { dst := some 75, op := Go.Op.load 9 (Go.Operand.tmp 74), type := 9, pos := "law.go:80", after := #[{ on := 2, ground := Go.Ground.data }], guard := none }) (v := ?_) rfl (by kernel_rfl) (by kernel_rfl) (by kernel_rfl) (fun _ _ _ h => h) (Or.inl ⟨by rfl, ?_⟩) (by assumption) ?_
          (rotate_left; focus (intro wS hSw; have s0 := HCX.out wS hSw; have s1 := (HPL.out wS hSw).1; have s2 := (HPL.out wS hSw).2; clear hSw; go_simp; (try rw [if_neg (by omega)]); try with_reducible rfl))
          (try simp only [Act.put, List.setIfInBounds_toArray, List.set_cons_zero, List.set_cons_succ])
          refine wpAnyH_take (i := 4) (oi := { dst := some 76, op := Go.Op.call { callee := Go.Callee.builtin Go.Builtin.len, args := #[Go.Operand.tmp 75], argTypes := #[9] }, type := 3, pos := "law.go:80", after := #[{ on := 3, ground := Go.Ground.data }], guard := none }) (v := ?_) rfl (by kernel_rfl) (by kernel_rfl) (by kernel_rfl) (fun _ _ _ h => h) (Or.inl ⟨by rfl, ?_⟩) (by assumption) ?_
          (rotate_left; focus (intro wS hSw; have s0 := HCX.out wS hSw; have s1 := (HPL.out wS hSw).1; have s2 := (HPL.out wS hSw).2; clear hSw; go_simp; (try rw [if_neg (by omega)]); try with_reducible rfl))
          (try simp only [Act.put, List.setIfInBounds_toArray, List.set_cons_zero, List.set_cons_succ])
          refine wpAnyH_take (i := 5) (oi := { dst := some 77, op := Go.Op.fieldAddr 24 (Go.Operand.tmp 4) 1, type := 0, pos := "law.go:80", after := #[], guard := none }) (v := ?_) rfl (by kernel_rfl) (by kernel_rfl) (by kernel_rfl) (fun _ _ _ h => h) (Or.inl ⟨by rfl, ?_⟩) (by assumption) ?_
          (rotate_left; focus (intro wS hSw; have s0 := HCX.out wS hSw; have s1 := (HPL.out wS hSw).1; have s2 := (HPL.out wS hSw).2; clear hSw; go_simp; (try rw [if_neg (by omega)]); try with_reducible rfl))
          (try simp only [Act.put, List.setIfInBounds_toArray, List.set_cons_zero, List.set_cons_succ])
          refine wpAnyH_take (i := 6) (oi := { dst := some 78, op := Go.Op.load 3 (Go.Operand.tmp 77), type := 3, pos := "law.go:80", after := #[{ on := 5, ground := Go.Ground.data }], guard := none }) (v := ?_) rfl (by kernel_rfl) (by kernel_rfl) (by kernel_rfl) (fun _ _ _ h => h) (Or.inl ⟨by rfl, ?_⟩) (by assumption) ?_
          (rotate_left; focus (intro wS hSw; have s0 := HCX.out wS hSw; have s1 := (HPL.out wS hSw).1; have s2 := (HPL.out wS hSw).2; clear hSw; go_simp; (try rw [if_neg (by omega)]); try with_reducible rfl))
          (try simp only [Act.put, List.setIfInBounds_toArray, List.set_cons_zero, List.set_cons_succ])
          refine wpAnyH_take (i := 7) (oi := { dst := some 79, op := Go.Op.binOp Go.BinOp.gtr 3 (Go.Operand.tmp 76) (Go.Operand.tmp 78) 3, type := 4, pos := "law.go:80", after := #[{ on := 4, ground := Go.Ground.data }, { on := 6, ground := Go.Ground.data }], guard := none }) (v := ?_) rfl (by kernel_rfl) (by kernel_rfl) (by kernel_rfl) (fun _ _ _ h => h) (Or.inl ⟨by rfl, ?_⟩) (by assumption) ?_
          (rotate_left; focus (intro wS hSw; have s0 := HCX.out wS hSw; have s1 := (HPL.out wS hSw).1; have s2 := (HPL.out wS hSw).2; clear hSw; go_simp; (try rw [if_neg (by omega)]); try with_reducible rfl))
          (try simp only [Act.put, List.setIfInBounds_toArray, List.set_cons_zero, List.set_cons_succ])
          refine wpAnyH_take (i := 8) (oi := { dst := some 80, op := Go.Op.move (Go.Operand.tmp 79), type := 4, pos := "law.go:80", after := #[{ on := 7, ground := Go.Ground.data }], guard := none }) (v := ?_) rfl (by kernel_rfl) (by kernel_rfl) (by kernel_rfl) (fun _ _ _ h => h) (Or.inl ⟨by rfl, ?_⟩) (by assumption) ?_
          (rotate_left; focus (intro wS hSw; have s0 := HCX.out wS hSw; have s1 := (HPL.out wS hSw).1; have s2 := (HPL.out wS hSw).2; clear hSw; go_simp; (try rw [if_neg (by omega)]); try with_reducible rfl))
          (try simp only [Act.put, List.setIfInBounds_toArray, List.set_cons_zero, List.set_cons_succ])
          refine wpAnyH_take (i := 9) (oi := { dst := some 81, op := Go.Op.move (Go.Operand.tmp 7), type := 26, pos := "law.go:80", after := #[{ on := 8, ground := Go.Ground.guard }], guard := some (8, false) }) (v := ?_) rfl (by kernel_rfl) (by kernel_rfl) (by kernel_rfl) (fun _ _ _ h => h) (Or.inl ⟨by rfl, ?_⟩) (by assumption) ?_
          (rotate_left; focus (intro wS hSw; have s0 := HCX.out wS hSw; have s1 := (HPL.out wS hSw).1; have s2 := (HPL.out wS hSw).2; clear hSw; go_simp; (try rw [if_neg (by omega)]); try with_reducible rfl))
          (try simp only [Act.put, List.setIfInBounds_toArray, List.set_cons_zero, List.set_cons_succ])
          refine wpAnyH_take (i := 10) (oi := { dst := some 82, op := Go.Op.move (Go.Operand.tmp 12), type := 3, pos := "law.go:80", after := #[{ on := 8, ground := Go.Ground.guard }], guard := some (8, false) }) (v := ?_) rfl (by kernel_rfl) (by kernel_rfl) (by kernel_rfl) (fun _ _ _ h => h) (Or.inl ⟨by rfl, ?_⟩) (by assumption) ?_
          (rotate_left; focus (intro wS hSw; have s0 := HCX.out wS hSw; have s1 := (HPL.out wS hSw).1; have s2 := (HPL.out wS hSw).2; clear hSw; go_simp; (try rw [if_neg (by omega)]); try with_reducible rfl))
          (try simp only [Act.put, List.setIfInBounds_toArray, List.set_cons_zero, List.set_cons_succ])
          refine wpAnyH_take (i := 11) (oi := { dst := some 83, op := Go.Op.indexAddr 26 (Go.Operand.tmp 81) (Go.Operand.tmp 82), type := 0, pos := "law.go:80", after := #[{ on := 9, ground := Go.Ground.data }, { on := 10, ground := Go.Ground.data }, { on := 8, ground := Go.Ground.guard }], guard := some (8, false) }) (v := ?_) rfl (by kernel_rfl) (by kernel_rfl) (by kernel_rfl) (fun _ _ _ h => h) (Or.inl ⟨by rfl, ?_⟩) (by assumption) ?_
          (rotate_left; focus (intro wS hSw; have s0 := HCX.out wS hSw; have s1 := (HPL.out wS hSw).1; have s2 := (HPL.out wS hSw).2; clear hSw; go_simp; (try rw [if_neg (by omega)]); try with_reducible rfl))
          (try simp only [Act.put, List.setIfInBounds_toArray, List.set_cons_zero, List.set_cons_succ])
          refine wpAnyH_take (i := 12) (oi := { dst := some 84, op := Go.Op.load 9 (Go.Operand.tmp 83), type := 9, pos := "law.go:80", after := #[{ on := 11, ground := Go.Ground.data }, { on := 8, ground := Go.Ground.guard }], guard := some (8, false) }) (v := ?_) rfl (by kernel_rfl) (by kernel_rfl) (by kernel_rfl) (fun _ _ _ h => h) (Or.inl ⟨by rfl, ?_⟩) (by assumption) ?_
          (rotate_left; focus (intro wS hSw; have s0 := HCX.out wS hSw; have s1 := (HPL.out wS hSw).1; have s2 := (HPL.out wS hSw).2; clear hSw; go_simp; (try rw [if_neg (by omega)]); try with_reducible rfl))
          (try simp only [Act.put, List.setIfInBounds_toArray, List.set_cons_zero, List.set_cons_succ])
          refine wpAnyH_take (i := 13) (oi := { dst := some 85, op := Go.Op.call { callee := Go.Callee.builtin Go.Builtin.len, args := #[Go.Operand.tmp 84], argTypes := #[9] }, type := 3, pos := "law.go:80", after := #[{ on := 12, ground := Go.Ground.data }, { on := 8, ground := Go.Ground.guard }], guard := some (8, false) }) (v := ?_) rfl (by kernel_rfl) (by kernel_rfl) (by kernel_rfl) (fun _ _ _ h => h) (Or.inl ⟨by rfl, ?_⟩) (by assumption) ?_
          (rotate_left; focus (intro wS hSw; have s0 := HCX.out wS hSw; have s1 := (HPL.out wS hSw).1; have s2 := (HPL.out wS hSw).2; clear hSw; go_simp; (try rw [if_neg (by omega)]); try with_reducible rfl))
          (try simp only [Act.put, List.setIfInBounds_toArray, List.set_cons_zero, List.set_cons_succ])
          refine wpAnyH_take (i := 14) (oi := { dst := some 86, op := Go.Op.fieldAddr 24 (Go.Operand.tmp 4) 0, type := 0, pos := "law.go:80", after := #[{ on := 8, ground := Go.Ground.guard }], guard := some (8, false) }) (v := ?_) rfl (by kernel_rfl) (by kernel_rfl) (by kernel_rfl) (fun _ _ _ h => h) (Or.inl ⟨by rfl, ?_⟩) (by assumption) ?_
          (rotate_left; focus (intro wS hSw; have s0 := HCX.out wS hSw; have s1 := (HPL.out wS hSw).1; have s2 := (HPL.out wS hSw).2; clear hSw; go_simp; (try rw [if_neg (by omega)]); try with_reducible rfl))
          (try simp only [Act.put, List.setIfInBounds_toArray, List.set_cons_zero, List.set_cons_succ])
          refine wpAnyH_take (i := 15) (oi := { dst := some 87, op := Go.Op.load 3 (Go.Operand.tmp 86), type := 3, pos := "law.go:80", after := #[{ on := 14, ground := Go.Ground.data }, { on := 8, ground := Go.Ground.guard }], guard := some (8, false) }) (v := ?_) rfl (by kernel_rfl) (by kernel_rfl) (by kernel_rfl) (fun _ _ _ h => h) (Or.inl ⟨by rfl, ?_⟩) (by assumption) ?_
          (rotate_left; focus (intro wS hSw; have s0 := HCX.out wS hSw; have s1 := (HPL.out wS hSw).1; have s2 := (HPL.out wS hSw).2; clear hSw; go_simp; (try rw [if_neg (by omega)]); try with_reducible rfl))
          (try simp only [Act.put, List.setIfInBounds_toArray, List.set_cons_zero, List.set_cons_succ])
          refine wpAnyH_take (i := 16) (oi := { dst := some 88, op := Go.Op.binOp Go.BinOp.lss 3 (Go.Operand.tmp 85) (Go.Operand.tmp 87) 3, type := 4, pos := "law.go:80", after := #[{ on := 13, ground := Go.Ground.data }, { on := 15, ground := Go.Ground.data }, { on := 8, ground := Go.Ground.guard }], guard := some (8, false) }) (v := ?_) rfl (by kernel_rfl) (by kernel_rfl) (by kernel_rfl) (fun _ _ _ h => h) (Or.inl ⟨by rfl, ?_⟩) (by assumption) ?_
          (rotate_left; focus (intro wS hSw; have s0 := HCX.out wS hSw; have s1 := (HPL.out wS hSw).1; have s2 := (HPL.out wS hSw).2; clear hSw; go_simp; (try rw [if_neg (by omega)]); try with_reducible rfl))
          (try simp only [Act.put, List.setIfInBounds_toArray, List.set_cons_zero, List.set_cons_succ])
          refine wpAnyH_take (i := 17) (oi := { dst := some 89, op := Go.Op.move (Go.Operand.tmp 88), type := 4, pos := "law.go:80", after := #[{ on := 16, ground := Go.Ground.data }, { on := 8, ground := Go.Ground.chain }, { on := 8, ground := Go.Ground.guard }], guard := some (8, false) }) (v := ?_) rfl (by kernel_rfl) (by kernel_rfl) (by kernel_rfl) (fun _ _ _ h => h) (Or.inl ⟨by rfl, ?_⟩) (by assumption) ?_
          (rotate_left; focus (intro wS hSw; have s0 := HCX.out wS hSw; have s1 := (HPL.out wS hSw).1; have s2 := (HPL.out wS hSw).2; clear hSw; go_simp; (try rw [if_neg (by omega)]); try with_reducible rfl))
          (try simp only [Act.put, List.setIfInBounds_toArray, List.set_cons_zero, List.set_cons_succ])
          refine wpAnyH_take (i := 18) (oi := { dst := some 90, op := Go.Op.move (Go.Operand.tmp 12), type := 3, pos := "law.go:80", after := #[{ on := 17, ground := Go.Ground.guard }], guard := some (17, true) }) (v := undef) rfl (by kernel_rfl) (by kernel_rfl) (by kernel_rfl) (fun _ _ _ h => h) (Or.inr ⟨by rfl, rfl⟩) (by assumption) ?_
          (try simp only [Act.put, List.setIfInBounds_toArray, List.set_cons_zero, List.set_cons_succ])
          refine wpAnyH_take (i := 19) (oi := { dst := some 91, op := Go.Op.move (Go.Operand.tmp 7), type := 26, pos := "law.go:80", after := #[{ on := 17, ground := Go.Ground.guard }], guard := some (17, true) }) (v := undef) rfl (by kernel_rfl) (by kernel_rfl) (by kernel_rfl) (fun _ _ _ h => h) (Or.inr ⟨by rfl, rfl⟩) (by assumption) ?_
          (try simp only [Act.put, List.setIfInBounds_toArray, List.set_cons_zero, List.set_cons_succ])
          refine wpAnyH_take (i := 20) (oi := { dst := some 92, op := Go.Op.call { callee := Go.Callee.builtin Go.Builtin.len, args := #[Go.Operand.tmp 91], argTypes := #[26] }, type := 3, pos := "law.go:80", after := #[{ on := 19, ground := Go.Ground.data }, { on := 17, ground := Go.Ground.guard }], guard := some (17, true) }) (v := undef) rfl (by kernel_rfl) (by kernel_rfl) (by kernel_rfl) (fun _ _ _ h => h) (Or.inr ⟨by rfl, rfl⟩) (by assumption) ?_
          (try simp only [Act.put, List.setIfInBounds_toArray, List.set_cons_zero, List.set_cons_succ])
          refine wpAnyH_take (i := 21) (oi := { dst := some 93, op := Go.Op.binOp Go.BinOp.sub 3 (Go.Operand.tmp 92) (Go.Operand.const (Go.Value.int Go.IntKind.i64 1)) 3, type := 3, pos := "law.go:80", after := #[{ on := 20, ground := Go.Ground.data }, { on := 17, ground := Go.Ground.guard }], guard := some (17, true) }) (v := undef) rfl (by kernel_rfl) (by kernel_rfl) (by kernel_rfl) (fun _ _ _ h => h) (Or.inr ⟨by rfl, rfl⟩) (by assumption) ?_
          (try simp only [Act.put, List.setIfInBounds_toArray, List.set_cons_zero, List.set_cons_succ])
          refine wpAnyH_take (i := 22) (oi := { dst := some 94, op := Go.Op.binOp Go.BinOp.lss 3 (Go.Operand.tmp 90) (Go.Operand.tmp 93) 3, type := 4, pos := "law.go:80", after := #[{ on := 18, ground := Go.Ground.data }, { on := 21, ground := Go.Ground.data }, { on := 17, ground := Go.Ground.guard }], guard := some (17, true) }) (v := undef) rfl (by kernel_rfl) (by kernel_rfl) (by kernel_rfl) (fun _ _ _ h => h) (Or.inr ⟨by rfl, rfl⟩) (by assumption) ?_
          (try simp only [Act.put, List.setIfInBounds_toArray, List.set_cons_zero, List.set_cons_succ])
          refine wpAnyH_take (i := 23) (oi := { dst := some 95, op := Go.Op.pick (Go.Operand.tmp 89) (Go.Operand.tmp 94) (Go.Operand.const (Go.Value.bool false)), type := 4, pos := "law.go:80", after := #[{ on := 17, ground := Go.Ground.data }, { on := 22, ground := Go.Ground.data }, { on := 8, ground := Go.Ground.guard }], guard := some (8, false) }) (v := ?_) rfl (by kernel_rfl) (by kernel_rfl) (by kernel_rfl) (fun _ _ _ h => h) (Or.inl ⟨by rfl, ?_⟩) (by assumption) ?_
          (rotate_left; focus (intro wS hSw; have s0 := HCX.out wS hSw; have s1 := (HPL.out wS hSw).1; have s2 := (HPL.out wS hSw).2; clear hSw; go_simp; (try rw [if_neg (by omega)]); try with_reducible rfl))
          (try simp only [Act.put, List.setIfInBounds_toArray, List.set_cons_zero, List.set_cons_succ])
          refine wpAnyH_take (i := 24) (oi := { dst := some 96, op := Go.Op.pick (Go.Operand.tmp 80) (Go.Operand.const (Go.Value.bool true)) (Go.Operand.tmp 95), type := 4, pos := "law.go:80", after := #[{ on := 8, ground := Go.Ground.data }, { on := 23, ground := Go.Ground.data }], guard := none }) (v := ?_) rfl (by kernel_rfl) (by kernel_rfl) (by kernel_rfl) (fun _ _ _ h => h) (Or.inl ⟨by rfl, ?_⟩) (by assumption) ?_
          (rotate_left; focus (intro wS hSw; have s0 := HCX.out wS hSw; have s1 := (HPL.out wS hSw).1; have s2 := (HPL.out wS hSw).2; clear hSw; go_simp; (try rw [if_neg (by omega)]); try with_reducible rfl))
          (try simp only [Act.put, List.setIfInBounds_toArray, List.set_cons_zero, List.set_cons_succ])
          refine wpAnyH_done (by kernel_rfl) ?_ _
          clear hP0
          go_wp2
          go_roundw
          case rel => exact ⟨J + 1, by go_num, by omega, by rw [HA2.out], by rw [HR2.out], HBW.out.drew⟩
          case measure => simp [intOf]; omega
      · have HR2 := Lib.hid (HR0.out (by omega))
        have dk : decide (J < K) = true := decide_eq_true (by omega)
        by_cases hx : x.size < lo
        · have hj2 : ¬ J + 1 < NL := by intro h; have := hsz.2 h; omega
          have d2 : ¬ (J : Int) < (NL : Int) - 1 := by omega
          have d2b : decide ((J : Int) < (NL : Int) - 1) = false := decide_eq_false d2
          go_wp2_with fail
          have hP0 : Below w1.heap.size w1 wr.drew := HBW.out.drew
          refine wp_region_held_drew (S := fun w' => Below w1.heap.size w1 w') (by kernel_rfl) (by (first | exact hP0)) (fun hHeld => ?_)
          refine wpAnyH_take (i := 0) (oi := { dst := some 72, op := Go.Op.move (Go.Operand.tmp 7), type := 26, pos := "law.go:80", after := #[], guard := none }) (v := ?_) rfl (by kernel_rfl) (by kernel_rfl) (by kernel_rfl) (fun _ _ _ h => h) (Or.inl ⟨by rfl, ?_⟩) (by assumption) ?_
          (rotate_left; focus (intro wS hSw; have s0 := HCX.out wS hSw; have s1 := (HPL.out wS hSw).1; have s2 := (HPL.out wS hSw).2; clear hSw; go_simp; (try rw [if_neg (by omega)]); try with_reducible rfl))
          (try simp only [Act.put, List.setIfInBounds_toArray, List.set_cons_zero, List.set_cons_succ])
          refine wpAnyH_take (i := 1) (oi := { dst := some 73, op := Go.Op.move (Go.Operand.tmp 12), type := 3, pos := "law.go:80", after := #[], guard := none }) (v := ?_) rfl (by kernel_rfl) (by kernel_rfl) (by kernel_rfl) (fun _ _ _ h => h) (Or.inl ⟨by rfl, ?_⟩) (by assumption) ?_
          (rotate_left; focus (intro wS hSw; have s0 := HCX.out wS hSw; have s1 := (HPL.out wS hSw).1; have s2 := (HPL.out wS hSw).2; clear hSw; go_simp; (try rw [if_neg (by omega)]); try with_reducible rfl))
          (try simp only [Act.put, List.setIfInBounds_toArray, List.set_cons_zero, List.set_cons_succ])
          refine wpAnyH_take (i := 2) (oi := { dst := some 74, op := Go.Op.indexAddr 26 (Go.Operand.tmp 72) (Go.Operand.tmp 73), type := 0, pos := "law.go:80", after := #[{ on := 0, ground := Go.Ground.data }, { on := 1, ground := Go.Ground.data }], guard := none }) (v := ?_) rfl (by kernel_rfl) (by kernel_rfl) (by kernel_rfl) (fun _ _ _ h => h) (Or.inl ⟨by rfl, ?_⟩) (by assumption) ?_
          (rotate_left; focus (intro wS hSw; have s0 := HCX.out wS hSw; have s1 := (HPL.out wS hSw).1; have s2 := (HPL.out wS hSw).2; clear hSw; go_simp; (try rw [if_neg (by omega)]); try with_reducible rfl))
          (try simp only [Act.put, List.setIfInBounds_toArray, List.set_cons_zero, List.set_cons_succ])
          refine wpAnyH_take (i := 3) (oi := { dst := some 75, op := Go.Op.load 9 (Go.Operand.tmp 74), type := 9, pos := "law.go:80", after := #[{ on := 2, ground := Go.Ground.data }], guard := none }) (v := ?_) rfl (by kernel_rfl) (by kernel_rfl) (by kernel_rfl) (fun _ _ _ h => h) (Or.inl ⟨by rfl, ?_⟩) (by assumption) ?_
          (rotate_left; focus (intro wS hSw; have s0 := HCX.out wS hSw; have s1 := (HPL.out wS hSw).1; have s2 := (HPL.out wS hSw).2; clear hSw; go_simp; (try rw [if_neg (by omega)]); try with_reducible rfl))
          (try simp only [Act.put, List.setIfInBounds_toArray, List.set_cons_zero, List.set_cons_succ])
          refine wpAnyH_take (i := 4) (oi := { dst := some 76, op := Go.Op.call { callee := Go.Callee.builtin Go.Builtin.len, args := #[Go.Operand.tmp 75], argTypes := #[9] }, type := 3, pos := "law.go:80", after := #[{ on := 3, ground := Go.Ground.data }], guard := none }) (v := ?_) rfl (by kernel_rfl) (by kernel_rfl) (by kernel_rfl) (fun _ _ _ h => h) (Or.inl ⟨by rfl, ?_⟩) (by assumption) ?_
          (rotate_left; focus (intro wS hSw; have s0 := HCX.out wS hSw; have s1 := (HPL.out wS hSw).1; have s2 := (HPL.out wS hSw).2; clear hSw; go_simp; (try rw [if_neg (by omega)]); try with_reducible rfl))
          (try simp only [Act.put, List.setIfInBounds_toArray, List.set_cons_zero, List.set_cons_succ])
          refine wpAnyH_take (i := 5) (oi := { dst := some 77, op := Go.Op.fieldAddr 24 (Go.Operand.tmp 4) 1, type := 0, pos := "law.go:80", after := #[], guard := none }) (v := ?_) rfl (by kernel_rfl) (by kernel_rfl) (by kernel_rfl) (fun _ _ _ h => h) (Or.inl ⟨by rfl, ?_⟩) (by assumption) ?_
          (rotate_left; focus (intro wS hSw; have s0 := HCX.out wS hSw; have s1 := (HPL.out wS hSw).1; have s2 := (HPL.out wS hSw).2; clear hSw; go_simp; (try rw [if_neg (by omega)]); try with_reducible rfl))
          (try simp only [Act.put, List.setIfInBounds_toArray, List.set_cons_zero, List.set_cons_succ])
          refine wpAnyH_take (i := 6) (oi := { dst := some 78, op := Go.Op.load 3 (Go.Operand.tmp 77), type := 3, pos := "law.go:80", after := #[{ on := 5, ground := Go.Ground.data }], guard := none }) (v := ?_) rfl (by kernel_rfl) (by kernel_rfl) (by kernel_rfl) (fun _ _ _ h => h) (Or.inl ⟨by rfl, ?_⟩) (by assumption) ?_
          (rotate_left; focus (intro wS hSw; have s0 := HCX.out wS hSw; have s1 := (HPL.out wS hSw).1; have s2 := (HPL.out wS hSw).2; clear hSw; go_simp; (try rw [if_neg (by omega)]); try with_reducible rfl))
          (try simp only [Act.put, List.setIfInBounds_toArray, List.set_cons_zero, List.set_cons_succ])
          refine wpAnyH_take (i := 7) (oi := { dst := some 79, op := Go.Op.binOp Go.BinOp.gtr 3 (Go.Operand.tmp 76) (Go.Operand.tmp 78) 3, type := 4, pos := "law.go:80", after := #[{ on := 4, ground := Go.Ground.data }, { on := 6, ground := Go.Ground.data }], guard := none }) (v := ?_) rfl (by kernel_rfl) (by kernel_rfl) (by kernel_rfl) (fun _ _ _ h => h) (Or.inl ⟨by rfl, ?_⟩) (by assumption) ?_
          (rotate_left; focus (intro wS hSw; have s0 := HCX.out wS hSw; have s1 := (HPL.out wS hSw).1; have s2 := (HPL.out wS hSw).2; clear hSw; go_simp; (try rw [if_neg (by omega)]); try with_reducible rfl))
          (try simp only [Act.put, List.setIfInBounds_toArray, List.set_cons_zero, List.set_cons_succ])
          refine wpAnyH_take (i := 8) (oi := { dst := some 80, op := Go.Op.move (Go.Operand.tmp 79), type := 4, pos := "law.go:80", after := #[{ on := 7, ground := Go.Ground.data }], guard := none }) (v := ?_) rfl (by kernel_rfl) (by kernel_rfl) (by kernel_rfl) (fun _ _ _ h => h) (Or.inl ⟨by rfl, ?_⟩) (by assumption) ?_
          (rotate_left; focus (intro wS hSw; have s0 := HCX.out wS hSw; have s1 := (HPL.out wS hSw).1; have s2 := (HPL.out wS hSw).2; clear hSw; go_simp; (try rw [if_neg (by omega)]); try with_reducible rfl))
          (try simp only [Act.put, List.setIfInBounds_toArray, List.set_cons_zero, List.set_cons_succ])
          refine wpAnyH_take (i := 9) (oi := { dst := some 81, op := Go.Op.move (Go.Operand.tmp 7), type := 26, pos := "law.go:80", after := #[{ on := 8, ground := Go.Ground.guard }], guard := some (8, false) }) (v := ?_) rfl (by kernel_rfl) (by kernel_rfl) (by kernel_rfl) (fun _ _ _ h => h) (Or.inl ⟨by rfl, ?_⟩) (by assumption) ?_
          (rotate_left; focus (intro wS hSw; have s0 := HCX.out wS hSw; have s1 := (HPL.out wS hSw).1; have s2 := (HPL.out wS hSw).2; clear hSw; go_simp; (try rw [if_neg (by omega)]); try with_reducible rfl))
          (try simp only [Act.put, List.setIfInBounds_toArray, List.set_cons_zero, List.set_cons_succ])
          refine wpAnyH_take (i := 10) (oi := { dst := some 82, op := Go.Op.move (Go.Operand.tmp 12), type := 3, pos := "law.go:80", after := #[{ on := 8, ground := Go.Ground.guard }], guard := some (8, false) }) (v := ?_) rfl (by kernel_rfl) (by kernel_rfl) (by kernel_rfl) (fun _ _ _ h => h) (Or.inl ⟨by rfl, ?_⟩) (by assumption) ?_
          (rotate_left; focus (intro wS hSw; have s0 := HCX.out wS hSw; have s1 := (HPL.out wS hSw).1; have s2 := (HPL.out wS hSw).2; clear hSw; go_simp; (try rw [if_neg (by omega)]); try with_reducible rfl))
          (try simp only [Act.put, List.setIfInBounds_toArray, List.set_cons_zero, List.set_cons_succ])
          refine wpAnyH_take (i := 11) (oi := { dst := some 83, op := Go.Op.indexAddr 26 (Go.Operand.tmp 81) (Go.Operand.tmp 82), type := 0, pos := "law.go:80", after := #[{ on := 9, ground := Go.Ground.data }, { on := 10, ground := Go.Ground.data }, { on := 8, ground := Go.Ground.guard }], guard := some (8, false) }) (v := ?_) rfl (by kernel_rfl) (by kernel_rfl) (by kernel_rfl) (fun _ _ _ h => h) (Or.inl ⟨by rfl, ?_⟩) (by assumption) ?_
          (rotate_left; focus (intro wS hSw; have s0 := HCX.out wS hSw; have s1 := (HPL.out wS hSw).1; have s2 := (HPL.out wS hSw).2; clear hSw; go_simp; (try rw [if_neg (by omega)]); try with_reducible rfl))
          (try simp only [Act.put, List.setIfInBounds_toArray, List.set_cons_zero, List.set_cons_succ])
          refine wpAnyH_take (i := 12) (oi := { dst := some 84, op := Go.Op.load 9 (Go.Operand.tmp 83), type := 9, pos := "law.go:80", after := #[{ on := 11, ground := Go.Ground.data }, { on := 8, ground := Go.Ground.guard }], guard := some (8, false) }) (v := ?_) rfl (by kernel_rfl) (by kernel_rfl) (by kernel_rfl) (fun _ _ _ h => h) (Or.inl ⟨by rfl, ?_⟩) (by assumption) ?_
          (rotate_left; focus (intro wS hSw; have s0 := HCX.out wS hSw; have s1 := (HPL.out wS hSw).1; have s2 := (HPL.out wS hSw).2; clear hSw; go_simp; (try rw [if_neg (by omega)]); try with_reducible rfl))
          (try simp only [Act.put, List.setIfInBounds_toArray, List.set_cons_zero, List.set_cons_succ])
          refine wpAnyH_take (i := 13) (oi := { dst := some 85, op := Go.Op.call { callee := Go.Callee.builtin Go.Builtin.len, args := #[Go.Operand.tmp 84], argTypes := #[9] }, type := 3, pos := "law.go:80", after := #[{ on := 12, ground := Go.Ground.data }, { on := 8, ground := Go.Ground.guard }], guard := some (8, false) }) (v := ?_) rfl (by kernel_rfl) (by kernel_rfl) (by kernel_rfl) (fun _ _ _ h => h) (Or.inl ⟨by rfl, ?_⟩) (by assumption) ?_
          (rotate_left; focus (intro wS hSw; have s0 := HCX.out wS hSw; have s1 := (HPL.out wS hSw).1; have s2 := (HPL.out wS hSw).2; clear hSw; go_simp; (try rw [if_neg (by omega)]); try with_reducible rfl))
          (try simp only [Act.put, List.setIfInBounds_toArray, List.set_cons_zero, List.set_cons_succ])
          refine wpAnyH_take (i := 14) (oi := { dst := some 86, op := Go.Op.fieldAddr 24 (Go.Operand.tmp 4) 0, type := 0, pos := "law.go:80", after := #[{ on := 8, ground := Go.Ground.guard }], guard := some (8, false) }) (v := ?_) rfl (by kernel_rfl) (by kernel_rfl) (by kernel_rfl) (fun _ _ _ h => h) (Or.inl ⟨by rfl, ?_⟩) (by assumption) ?_
          (rotate_left; focus (intro wS hSw; have s0 := HCX.out wS hSw; have s1 := (HPL.out wS hSw).1; have s2 := (HPL.out wS hSw).2; clear hSw; go_simp; (try rw [if_neg (by omega)]); try with_reducible rfl))
          (try simp only [Act.put, List.setIfInBounds_toArray, List.set_cons_zero, List.set_cons_succ])
          refine wpAnyH_take (i := 15) (oi := { dst := some 87, op := Go.Op.load 3 (Go.Operand.tmp 86), type := 3, pos := "law.go:80", after := #[{ on := 14, ground := Go.Ground.data }, { on := 8, ground := Go.Ground.guard }], guard := some (8, false) }) (v := ?_) rfl (by kernel_rfl) (by kernel_rfl) (by kernel_rfl) (fun _ _ _ h => h) (Or.inl ⟨by rfl, ?_⟩) (by assumption) ?_
          (rotate_left; focus (intro wS hSw; have s0 := HCX.out wS hSw; have s1 := (HPL.out wS hSw).1; have s2 := (HPL.out wS hSw).2; clear hSw; go_simp; (try rw [if_neg (by omega)]); try with_reducible rfl))
          (try simp only [Act.put, List.setIfInBounds_toArray, List.set_cons_zero, List.set_cons_succ])
          refine wpAnyH_take (i := 16) (oi := { dst := some 88, op := Go.Op.binOp Go.BinOp.lss 3 (Go.Operand.tmp 85) (Go.Operand.tmp 87) 3, type := 4, pos := "law.go:80", after := #[{ on := 13, ground := Go.Ground.data }, { on := 15, ground := Go.Ground.data }, { on := 8, ground := Go.Ground.guard }], guard := some (8, false) }) (v := ?_) rfl (by kernel_rfl) (by kernel_rfl) (by kernel_rfl) (fun _ _ _ h => h) (Or.inl ⟨by rfl, ?_⟩) (by assumption) ?_
          (rotate_left; focus (intro wS hSw; have s0 := HCX.out wS hSw; have s1 := (HPL.out wS hSw).1; have s2 := (HPL.out wS hSw).2; clear hSw; go_simp; (try rw [if_neg (by omega)]); try with_reducible rfl))
          (try simp only [Act.put, List.setIfInBounds_toArray, List.set_cons_zero, List.set_cons_succ])
          refine wpAnyH_take (i := 17) (oi := { dst := some 89, op := Go.Op.move (Go.Operand.tmp 88), type := 4, pos := "law.go:80", after := #[{ on := 16, ground := Go.Ground.data }, { on := 8, ground := Go.Ground.chain }, { on := 8, ground := Go.Ground.guard }], guard := some (8, false) }) (v := ?_) rfl (by kernel_rfl) (by kernel_rfl) (by kernel_rfl) (fun _ _ _ h => h) (Or.inl ⟨by rfl, ?_⟩) (by assumption) ?_
          (rotate_left; focus (intro wS hSw; have s0 := HCX.out wS hSw; have s1 := (HPL.out wS hSw).1; have s2 := (HPL.out wS hSw).2; clear hSw; go_simp; (try rw [if_neg (by omega)]); try with_reducible rfl))
          (try simp only [Act.put, List.setIfInBounds_toArray, List.set_cons_zero, List.set_cons_succ])
          refine wpAnyH_take (i := 18) (oi := { dst := some 90, op := Go.Op.move (Go.Operand.tmp 12), type := 3, pos := "law.go:80", after := #[{ on := 17, ground := Go.Ground.guard }], guard := some (17, true) }) (v := ?_) rfl (by kernel_rfl) (by kernel_rfl) (by kernel_rfl) (fun _ _ _ h => h) (Or.inl ⟨by rfl, ?_⟩) (by assumption) ?_
          (rotate_left; focus (intro wS hSw; have s0 := HCX.out wS hSw; have s1 := (HPL.out wS hSw).1; have s2 := (HPL.out wS hSw).2; clear hSw; go_simp; (try rw [if_neg (by omega)]); try with_reducible rfl))
          (try simp only [Act.put, List.setIfInBounds_toArray, List.set_cons_zero, List.set_cons_succ])
          refine wpAnyH_take (i := 19) (oi := { dst := some 91, op := Go.Op.move (Go.Operand.tmp 7), type := 26, pos := "law.go:80", after := #[{ on := 17, ground := Go.Ground.guard }], guard := some (17, true) }) (v := ?_) rfl (by kernel_rfl) (by kernel_rfl) (by kernel_rfl) (fun _ _ _ h => h) (Or.inl ⟨by rfl, ?_⟩) (by assumption) ?_
          (rotate_left; focus (intro wS hSw; have s0 := HCX.out wS hSw; have s1 := (HPL.out wS hSw).1; have s2 := (HPL.out wS hSw).2; clear hSw; go_simp; (try rw [if_neg (by omega)]); try with_reducible rfl))
          (try simp only [Act.put, List.setIfInBounds_toArray, List.set_cons_zero, List.set_cons_succ])
          refine wpAnyH_take (i := 20) (oi := { dst := some 92, op := Go.Op.call { callee := Go.Callee.builtin Go.Builtin.len, args := #[Go.Operand.tmp 91], argTypes := #[26] }, type := 3, pos := "law.go:80", after := #[{ on := 19, ground := Go.Ground.data }, { on := 17, ground := Go.Ground.guard }], guard := some (17, true) }) (v := ?_) rfl (by kernel_rfl) (by kernel_rfl) (by kernel_rfl) (fun _ _ _ h => h) (Or.inl ⟨by rfl, ?_⟩) (by assumption) ?_
          (rotate_left; focus (intro wS hSw; have s0 := HCX.out wS hSw; have s1 := (HPL.out wS hSw).1; have s2 := (HPL.out wS hSw).2; clear hSw; go_simp; (try rw [if_neg (by omega)]); try with_reducible rfl))
          (try simp only [Act.put, List.setIfInBounds_toArray, List.set_cons_zero, List.set_cons_succ])
          refine wpAnyH_take (i := 21) (oi := { dst := some 93, op := Go.Op.binOp Go.BinOp.sub 3 (Go.Operand.tmp 92) (Go.Operand.const (Go.Value.int Go.IntKind.i64 1)) 3, type := 3, pos := "law.go:80", after := #[{ on := 20, ground := Go.Ground.data }, { on := 17, ground := Go.Ground.guard }], guard := some (17, true) }) (v := ?_) rfl (by kernel_rfl) (by kernel_rfl) (by kernel_rfl) (fun _ _ _ h => h) (Or.inl ⟨by rfl, ?_⟩) (by assumption) ?_
          (rotate_left; focus (intro wS hSw; have s0 := HCX.out wS hSw; have s1 := (HPL.out wS hSw).1; have s2 := (HPL.out wS hSw).2; clear hSw; go_simp; (try rw [if_neg (by omega)]); try with_reducible rfl))
          (try simp only [Act.put, List.setIfInBounds_toArray, List.set_cons_zero, List.set_cons_succ])
          refine wpAnyH_take (i := 22) (oi := { dst := some 94, op := Go.Op.binOp Go.BinOp.lss 3 (Go.Operand.tmp 90) (Go.Operand.tmp 93) 3, type := 4, pos := "law.go:80", after := #[{ on := 18, ground := Go.Ground.data }, { on := 21, ground := Go.Ground.data }, { on := 17, ground := Go.Ground.guard }], guard := some (17, true) }) (v := ?_) rfl (by kernel_rfl) (by kernel_rfl) (by kernel_rfl) (fun _ _ _ h => h) (Or.inl ⟨by rfl, ?_⟩) (by assumption) ?_
          (rotate_left; focus (intro wS hSw; have s0 := HCX.out wS hSw; have s1 := (HPL.out wS hSw).1; have s2 := (HPL.out wS hSw).2; clear hSw; go_simp; (try rw [if_neg (by omega)]); try with_reducible rfl))
          (try simp only [Act.put, List.setIfInBounds_toArray, List.set_cons_zero, List.set_cons_succ])
          refine wpAnyH_take (i := 23) (oi := { dst := some 95, op := Go.Op.pick (Go.Operand.tmp 89) (Go.Operand.tmp 94) (Go.Operand.const (Go.Value.bool false)), type := 4, pos := "law.go:80", after := #[{ on := 17, ground := Go.Ground.data }, { on := 22, ground := Go.Ground.data }, { on := 8, ground := Go.Ground.guard }], guard := some (8, false) }) (v := ?_) rfl (by kernel_rfl) (by kernel_rfl) (by kernel_rfl) (fun _ _ _ h => h) (Or.inl ⟨by rfl, ?_⟩) (by assumption) ?_
          (rotate_left; focus (intro wS hSw; have s0 := HCX.out wS hSw; have s1 := (HPL.out wS hSw).1; have s2 := (HPL.out wS hSw).2; clear hSw; go_simp; (try rw [if_neg (by omega)]); try with_reducible rfl))
          (try simp only [Act.put, List.setIfInBounds_toArray, List.set_cons_zero, List.set_cons_succ])
          refine wpAnyH_take (i := 24) (oi := { dst := some 96, op := Go.Op.pick (Go.Operand.tmp 80) (Go.Operand.const (Go.Value.bool true)) (Go.Operand.tmp 95), type := 4, pos := "law.go:80", after := #[{ on := 8, ground := Go.Ground.data }, { on := 23, ground := Go.Ground.data }], guard := none }) (v := ?_) rfl (by kernel_rfl) (by kernel_rfl) (by kernel_rfl) (fun _ _ _ h => h) (Or.inl ⟨by rfl, ?_⟩) (by assumption) ?_
          (rotate_left; focus (intro wS hSw; have s0 := HCX.out wS hSw; have s1 := (HPL.out wS hSw).1; have s2 := (HPL.out wS hSw).2; clear hSw; go_simp; (try rw [if_neg (by omega)]); try with_reducible rfl))
          (try simp only [Act.put, List.setIfInBounds_toArray, List.set_cons_zero, List.set_cons_succ])
          refine wpAnyH_done (by kernel_rfl) ?_ _
          clear hP0
          go_wp2
          go_roundw
          case rel => exact ⟨J + 1, by go_num, by omega, by rw [HA2.out], by rw [HR2.out], HBW.out.drew⟩
          case measure => simp [intOf]; omega
        · have d2 : ¬ (x.size : Int) < (lo : Int) := by omega
          have d2b : decide (x.size < lo) = false := decide_eq_false hx
          go_wp2_with fail
          have hP0 : Below w1.heap.size w1 wr.drew := HBW.out.drew
          refine wp_region_held_drew (S := fun w' => Below w1.heap.size w1 w') (by kernel_rfl) (by (first | exact hP0)) (fun hHeld => ?_)
          refine wpAnyH_take (i := 0) (oi := { dst := some 72, op := Go.Op.move (Go.Operand.tmp 7), type := 26, pos := "law.go:80", after := #[], guard := none }) (v := ?_) rfl (by kernel_rfl) (by kernel_rfl) (by kernel_rfl) (fun _ _ _ h => h) (Or.inl ⟨by rfl, ?_⟩) (by assumption) ?_
          (rotate_left; focus (intro wS hSw; have s0 := HCX.out wS hSw; have s1 := (HPL.out wS hSw).1; have s2 := (HPL.out wS hSw).2; clear hSw; go_simp; (try rw [if_neg (by omega)]); try with_reducible rfl))
          (try simp only [Act.put, List.setIfInBounds_toArray, List.set_cons_zero, List.set_cons_succ])
          refine wpAnyH_take (i := 1) (oi := { dst := some 73, op := Go.Op.move (Go.Operand.tmp 12), type := 3, pos := "law.go:80", after := #[], guard := none }) (v := ?_) rfl (by kernel_rfl) (by kernel_rfl) (by kernel_rfl) (fun _ _ _ h => h) (Or.inl ⟨by rfl, ?_⟩) (by assumption) ?_
          (rotate_left; focus (intro wS hSw; have s0 := HCX.out wS hSw; have s1 := (HPL.out wS hSw).1; have s2 := (HPL.out wS hSw).2; clear hSw; go_simp; (try rw [if_neg (by omega)]); try with_reducible rfl))
          (try simp only [Act.put, List.setIfInBounds_toArray, List.set_cons_zero, List.set_cons_succ])
          refine wpAnyH_take (i := 2) (oi := { dst := some 74, op := Go.Op.indexAddr 26 (Go.Operand.tmp 72) (Go.Operand.tmp 73), type := 0, pos := "law.go:80", after := #[{ on := 0, ground := Go.Ground.data }, { on := 1, ground := Go.Ground.data }], guard := none }) (v := ?_) rfl (by kernel_rfl) (by kernel_rfl) (by kernel_rfl) (fun _ _ _ h => h) (Or.inl ⟨by rfl, ?_⟩) (by assumption) ?_
          (rotate_left; focus (intro wS hSw; have s0 := HCX.out wS hSw; have s1 := (HPL.out wS hSw).1; have s2 := (HPL.out wS hSw).2; clear hSw; go_simp; (try rw [if_neg (by omega)]); try with_reducible rfl))
          (try simp only [Act.put, List.setIfInBounds_toArray, List.set_cons_zero, List.set_cons_succ])
          refine wpAnyH_take (i := 3) (oi := { dst := some 75, op := Go.Op.load 9 (Go.Operand.tmp 74), type := 9, pos := "law.go:80", after := #[{ on := 2, ground := Go.Ground.data }], guard := none }) (v := ?_) rfl (by kernel_rfl) (by kernel_rfl) (by kernel_rfl) (fun _ _ _ h => h) (Or.inl ⟨by rfl, ?_⟩) (by assumption) ?_
          (rotate_left; focus (intro wS hSw; have s0 := HCX.out wS hSw; have s1 := (HPL.out wS hSw).1; have s2 := (HPL.out wS hSw).2; clear hSw; go_simp; (try rw [if_neg (by omega)]); try with_reducible rfl))
          (try simp only [Act.put, List.setIfInBounds_toArray, List.set_cons_zero, List.set_cons_succ])
          refine wpAnyH_take (i := 4) (oi := { dst := some 76, op := Go.Op.call { callee := Go.Callee.builtin Go.Builtin.len, args := #[Go.Operand.tmp 75], argTypes := #[9] }, type := 3, pos := "law.go:80", after := #[{ on := 3, ground := Go.Ground.data }], guard := none }) (v := ?_) rfl (by kernel_rfl) (by kernel_rfl) (by kernel_rfl) (fun _ _ _ h => h) (Or.inl ⟨by rfl, ?_⟩) (by assumption) ?_
          (rotate_left; focus (intro wS hSw; have s0 := HCX.out wS hSw; have s1 := (HPL.out wS hSw).1; have s2 := (HPL.out wS hSw).2; clear hSw; go_simp; (try rw [if_neg (by omega)]); try with_reducible rfl))
          (try simp only [Act.put, List.setIfInBounds_toArray, List.set_cons_zero, List.set_cons_succ])
          refine wpAnyH_take (i := 5) (oi := { dst := some 77, op := Go.Op.fieldAddr 24 (Go.Operand.tmp 4) 1, type := 0, pos := "law.go:80", after := #[], guard := none }) (v := ?_) rfl (by kernel_rfl) (by kernel_rfl) (by kernel_rfl) (fun _ _ _ h => h) (Or.inl ⟨by rfl, ?_⟩) (by assumption) ?_
          (rotate_left; focus (intro wS hSw; have s0 := HCX.out wS hSw; have s1 := (HPL.out wS hSw).1; have s2 := (HPL.out wS hSw).2; clear hSw; go_simp; (try rw [if_neg (by omega)]); try with_reducible rfl))
          (try simp only [Act.put, List.setIfInBounds_toArray, List.set_cons_zero, List.set_cons_succ])
          refine wpAnyH_take (i := 6) (oi := { dst := some 78, op := Go.Op.load 3 (Go.Operand.tmp 77), type := 3, pos := "law.go:80", after := #[{ on := 5, ground := Go.Ground.data }], guard := none }) (v := ?_) rfl (by kernel_rfl) (by kernel_rfl) (by kernel_rfl) (fun _ _ _ h => h) (Or.inl ⟨by rfl, ?_⟩) (by assumption) ?_
          (rotate_left; focus (intro wS hSw; have s0 := HCX.out wS hSw; have s1 := (HPL.out wS hSw).1; have s2 := (HPL.out wS hSw).2; clear hSw; go_simp; (try rw [if_neg (by omega)]); try with_reducible rfl))
          (try simp only [Act.put, List.setIfInBounds_toArray, List.set_cons_zero, List.set_cons_succ])
          refine wpAnyH_take (i := 7) (oi := { dst := some 79, op := Go.Op.binOp Go.BinOp.gtr 3 (Go.Operand.tmp 76) (Go.Operand.tmp 78) 3, type := 4, pos := "law.go:80", after := #[{ on := 4, ground := Go.Ground.data }, { on := 6, ground := Go.Ground.data }], guard := none }) (v := ?_) rfl (by kernel_rfl) (by kernel_rfl) (by kernel_rfl) (fun _ _ _ h => h) (Or.inl ⟨by rfl, ?_⟩) (by assumption) ?_
          (rotate_left; focus (intro wS hSw; have s0 := HCX.out wS hSw; have s1 := (HPL.out wS hSw).1; have s2 := (HPL.out wS hSw).2; clear hSw; go_simp; (try rw [if_neg (by omega)]); try with_reducible rfl))
          (try simp only [Act.put, List.setIfInBounds_toArray, List.set_cons_zero, List.set_cons_succ])
          refine wpAnyH_take (i := 8) (oi := { dst := some 80, op := Go.Op.move (Go.Operand.tmp 79), type := 4, pos := "law.go:80", after := #[{ on := 7, ground := Go.Ground.data }], guard := none }) (v := ?_) rfl (by kernel_rfl) (by kernel_rfl) (by kernel_rfl) (fun _ _ _ h => h) (Or.inl ⟨by rfl, ?_⟩) (by assumption) ?_
          (rotate_left; focus (intro wS hSw; have s0 := HCX.out wS hSw; have s1 := (HPL.out wS hSw).1; have s2 := (HPL.out wS hSw).2; clear hSw; go_simp; (try rw [if_neg (by omega)]); try with_reducible rfl))
          (try simp only [Act.put, List.setIfInBounds_toArray, List.set_cons_zero, List.set_cons_succ])
          refine wpAnyH_take (i := 9) (oi := { dst := some 81, op := Go.Op.move (Go.Operand.tmp 7), type := 26, pos := "law.go:80", after := #[{ on := 8, ground := Go.Ground.guard }], guard := some (8, false) }) (v := ?_) rfl (by kernel_rfl) (by kernel_rfl) (by kernel_rfl) (fun _ _ _ h => h) (Or.inl ⟨by rfl, ?_⟩) (by assumption) ?_
          (rotate_left; focus (intro wS hSw; have s0 := HCX.out wS hSw; have s1 := (HPL.out wS hSw).1; have s2 := (HPL.out wS hSw).2; clear hSw; go_simp; (try rw [if_neg (by omega)]); try with_reducible rfl))
          (try simp only [Act.put, List.setIfInBounds_toArray, List.set_cons_zero, List.set_cons_succ])
          refine wpAnyH_take (i := 10) (oi := { dst := some 82, op := Go.Op.move (Go.Operand.tmp 12), type := 3, pos := "law.go:80", after := #[{ on := 8, ground := Go.Ground.guard }], guard := some (8, false) }) (v := ?_) rfl (by kernel_rfl) (by kernel_rfl) (by kernel_rfl) (fun _ _ _ h => h) (Or.inl ⟨by rfl, ?_⟩) (by assumption) ?_
          (rotate_left; focus (intro wS hSw; have s0 := HCX.out wS hSw; have s1 := (HPL.out wS hSw).1; have s2 := (HPL.out wS hSw).2; clear hSw; go_simp; (try rw [if_neg (by omega)]); try with_reducible rfl))
          (try simp only [Act.put, List.setIfInBounds_toArray, List.set_cons_zero, List.set_cons_succ])
          refine wpAnyH_take (i := 11) (oi := { dst := some 83, op := Go.Op.indexAddr 26 (Go.Operand.tmp 81) (Go.Operand.tmp 82), type := 0, pos := "law.go:80", after := #[{ on := 9, ground := Go.Ground.data }, { on := 10, ground := Go.Ground.data }, { on := 8, ground := Go.Ground.guard }], guard := some (8, false) }) (v := ?_) rfl (by kernel_rfl) (by kernel_rfl) (by kernel_rfl) (fun _ _ _ h => h) (Or.inl ⟨by rfl, ?_⟩) (by assumption) ?_
          (rotate_left; focus (intro wS hSw; have s0 := HCX.out wS hSw; have s1 := (HPL.out wS hSw).1; have s2 := (HPL.out wS hSw).2; clear hSw; go_simp; (try rw [if_neg (by omega)]); try with_reducible rfl))
          (try simp only [Act.put, List.setIfInBounds_toArray, List.set_cons_zero, List.set_cons_succ])
          refine wpAnyH_take (i := 12) (oi := { dst := some 84, op := Go.Op.load 9 (Go.Operand.tmp 83), type := 9, pos := "law.go:80", after := #[{ on := 11, ground := Go.Ground.data }, { on := 8, ground := Go.Ground.guard }], guard := some (8, false) }) (v := ?_) rfl (by kernel_rfl) (by kernel_rfl) (by kernel_rfl) (fun _ _ _ h => h) (Or.inl ⟨by rfl, ?_⟩) (by assumption) ?_
          (rotate_left; focus (intro wS hSw; have s0 := HCX.out wS hSw; have s1 := (HPL.out wS hSw).1; have s2 := (HPL.out wS hSw).2; clear hSw; go_simp; (try rw [if_neg (by omega)]); try with_reducible rfl))
          (try simp only [Act.put, List.setIfInBounds_toArray, List.set_cons_zero, List.set_cons_succ])
          refine wpAnyH_take (i := 13) (oi := { dst := some 85, op := Go.Op.call { callee := Go.Callee.builtin Go.Builtin.len, args := #[Go.Operand.tmp 84], argTypes := #[9] }, type := 3, pos := "law.go:80", after := #[{ on := 12, ground := Go.Ground.data }, { on := 8, ground := Go.Ground.guard }], guard := some (8, false) }) (v := ?_) rfl (by kernel_rfl) (by kernel_rfl) (by kernel_rfl) (fun _ _ _ h => h) (Or.inl ⟨by rfl, ?_⟩) (by assumption) ?_
          (rotate_left; focus (intro wS hSw; have s0 := HCX.out wS hSw; have s1 := (HPL.out wS hSw).1; have s2 := (HPL.out wS hSw).2; clear hSw; go_simp; (try rw [if_neg (by omega)]); try with_reducible rfl))
          (try simp only [Act.put, List.setIfInBounds_toArray, List.set_cons_zero, List.set_cons_succ])
          refine wpAnyH_take (i := 14) (oi := { dst := some 86, op := Go.Op.fieldAddr 24 (Go.Operand.tmp 4) 0, type := 0, pos := "law.go:80", after := #[{ on := 8, ground := Go.Ground.guard }], guard := some (8, false) }) (v := ?_) rfl (by kernel_rfl) (by kernel_rfl) (by kernel_rfl) (fun _ _ _ h => h) (Or.inl ⟨by rfl, ?_⟩) (by assumption) ?_
          (rotate_left; focus (intro wS hSw; have s0 := HCX.out wS hSw; have s1 := (HPL.out wS hSw).1; have s2 := (HPL.out wS hSw).2; clear hSw; go_simp; (try rw [if_neg (by omega)]); try with_reducible rfl))
          (try simp only [Act.put, List.setIfInBounds_toArray, List.set_cons_zero, List.set_cons_succ])
          refine wpAnyH_take (i := 15) (oi := { dst := some 87, op := Go.Op.load 3 (Go.Operand.tmp 86), type := 3, pos := "law.go:80", after := #[{ on := 14, ground := Go.Ground.data }, { on := 8, ground := Go.Ground.guard }], guard := some (8, false) }) (v := ?_) rfl (by kernel_rfl) (by kernel_rfl) (by kernel_rfl) (fun _ _ _ h => h) (Or.inl ⟨by rfl, ?_⟩) (by assumption) ?_
          (rotate_left; focus (intro wS hSw; have s0 := HCX.out wS hSw; have s1 := (HPL.out wS hSw).1; have s2 := (HPL.out wS hSw).2; clear hSw; go_simp; (try rw [if_neg (by omega)]); try with_reducible rfl))
          (try simp only [Act.put, List.setIfInBounds_toArray, List.set_cons_zero, List.set_cons_succ])
          refine wpAnyH_take (i := 16) (oi := { dst := some 88, op := Go.Op.binOp Go.BinOp.lss 3 (Go.Operand.tmp 85) (Go.Operand.tmp 87) 3, type := 4, pos := "law.go:80", after := #[{ on := 13, ground := Go.Ground.data }, { on := 15, ground := Go.Ground.data }, { on := 8, ground := Go.Ground.guard }], guard := some (8, false) }) (v := ?_) rfl (by kernel_rfl) (by kernel_rfl) (by kernel_rfl) (fun _ _ _ h => h) (Or.inl ⟨by rfl, ?_⟩) (by assumption) ?_
          (rotate_left; focus (intro wS hSw; have s0 := HCX.out wS hSw; have s1 := (HPL.out wS hSw).1; have s2 := (HPL.out wS hSw).2; clear hSw; go_simp; (try rw [if_neg (by omega)]); try with_reducible rfl))
          (try simp only [Act.put, List.setIfInBounds_toArray, List.set_cons_zero, List.set_cons_succ])
          refine wpAnyH_take (i := 17) (oi := { dst := some 89, op := Go.Op.move (Go.Operand.tmp 88), type := 4, pos := "law.go:80", after := #[{ on := 16, ground := Go.Ground.data }, { on := 8, ground := Go.Ground.chain }, { on := 8, ground := Go.Ground.guard }], guard := some (8, false) }) (v := ?_) rfl (by kernel_rfl) (by kernel_rfl) (by kernel_rfl) (fun _ _ _ h => h) (Or.inl ⟨by rfl, ?_⟩) (by assumption) ?_
          (rotate_left; focus (intro wS hSw; have s0 := HCX.out wS hSw; have s1 := (HPL.out wS hSw).1; have s2 := (HPL.out wS hSw).2; clear hSw; go_simp; (try rw [if_neg (by omega)]); try with_reducible rfl))
          (try simp only [Act.put, List.setIfInBounds_toArray, List.set_cons_zero, List.set_cons_succ])
          refine wpAnyH_take (i := 18) (oi := { dst := some 90, op := Go.Op.move (Go.Operand.tmp 12), type := 3, pos := "law.go:80", after := #[{ on := 17, ground := Go.Ground.guard }], guard := some (17, true) }) (v := undef) rfl (by kernel_rfl) (by kernel_rfl) (by kernel_rfl) (fun _ _ _ h => h) (Or.inr ⟨by rfl, rfl⟩) (by assumption) ?_
          (try simp only [Act.put, List.setIfInBounds_toArray, List.set_cons_zero, List.set_cons_succ])
          refine wpAnyH_take (i := 19) (oi := { dst := some 91, op := Go.Op.move (Go.Operand.tmp 7), type := 26, pos := "law.go:80", after := #[{ on := 17, ground := Go.Ground.guard }], guard := some (17, true) }) (v := undef) rfl (by kernel_rfl) (by kernel_rfl) (by kernel_rfl) (fun _ _ _ h => h) (Or.inr ⟨by rfl, rfl⟩) (by assumption) ?_
          (try simp only [Act.put, List.setIfInBounds_toArray, List.set_cons_zero, List.set_cons_succ])
          refine wpAnyH_take (i := 20) (oi := { dst := some 92, op := Go.Op.call { callee := Go.Callee.builtin Go.Builtin.len, args := #[Go.Operand.tmp 91], argTypes := #[26] }, type := 3, pos := "law.go:80", after := #[{ on := 19, ground := Go.Ground.data }, { on := 17, ground := Go.Ground.guard }], guard := some (17, true) }) (v := undef) rfl (by kernel_rfl) (by kernel_rfl) (by kernel_rfl) (fun _ _ _ h => h) (Or.inr ⟨by rfl, rfl⟩) (by assumption) ?_
          (try simp only [Act.put, List.setIfInBounds_toArray, List.set_cons_zero, List.set_cons_succ])
          refine wpAnyH_take (i := 21) (oi := { dst := some 93, op := Go.Op.binOp Go.BinOp.sub 3 (Go.Operand.tmp 92) (Go.Operand.const (Go.Value.int Go.IntKind.i64 1)) 3, type := 3, pos := "law.go:80", after := #[{ on := 20, ground := Go.Ground.data }, { on := 17, ground := Go.Ground.guard }], guard := some (17, true) }) (v := undef) rfl (by kernel_rfl) (by kernel_rfl) (by kernel_rfl) (fun _ _ _ h => h) (Or.inr ⟨by rfl, rfl⟩) (by assumption) ?_
          (try simp only [Act.put, List.setIfInBounds_toArray, List.set_cons_zero, List.set_cons_succ])
          refine wpAnyH_take (i := 22) (oi := { dst := some 94, op := Go.Op.binOp Go.BinOp.lss 3 (Go.Operand.tmp 90) (Go.Operand.tmp 93) 3, type := 4, pos := "law.go:80", after := #[{ on := 18, ground := Go.Ground.data }, { on := 21, ground := Go.Ground.data }, { on := 17, ground := Go.Ground.guard }], guard := some (17, true) }) (v := undef) rfl (by kernel_rfl) (by kernel_rfl) (by kernel_rfl) (fun _ _ _ h => h) (Or.inr ⟨by rfl, rfl⟩) (by assumption) ?_
          (try simp only [Act.put, List.setIfInBounds_toArray, List.set_cons_zero, List.set_cons_succ])
          refine wpAnyH_take (i := 23) (oi := { dst := some 95, op := Go.Op.pick (Go.Operand.tmp 89) (Go.Operand.tmp 94) (Go.Operand.const (Go.Value.bool false)), type := 4, pos := "law.go:80", after := #[{ on := 17, ground := Go.Ground.data }, { on := 22, ground := Go.Ground.data }, { on := 8, ground := Go.Ground.guard }], guard := some (8, false) }) (v := ?_) rfl (by kernel_rfl) (by kernel_rfl) (by kernel_rfl) (fun _ _ _ h => h) (Or.inl ⟨by rfl, ?_⟩) (by assumption) ?_
          (rotate_left; focus (intro wS hSw; have s0 := HCX.out wS hSw; have s1 := (HPL.out wS hSw).1; have s2 := (HPL.out wS hSw).2; clear hSw; go_simp; (try rw [if_neg (by omega)]); try with_reducible rfl))
          (try simp only [Act.put, List.setIfInBounds_toArray, List.set_cons_zero, List.set_cons_succ])
          refine wpAnyH_take (i := 24) (oi := { dst := some 96, op := Go.Op.pick (Go.Operand.tmp 80) (Go.Operand.const (Go.Value.bool true)) (Go.Operand.tmp 95), type := 4, pos := "law.go:80", after := #[{ on := 8, ground := Go.Ground.data }, { on := 23, ground := Go.Ground.data }], guard := none }) (v := ?_) rfl (by kernel_rfl) (by kernel_rfl) (by kernel_rfl) (fun _ _ _ h => h) (Or.inl ⟨by rfl, ?_⟩) (by assumption) ?_
          (rotate_left; focus (intro wS hSw; have s0 := HCX.out wS hSw; have s1 := (HPL.out wS hSw).1; have s2 := (HPL.out wS hSw).2; clear hSw; go_simp; (try rw [if_neg (by omega)]); try with_reducible rfl))
          (try simp only [Act.put, List.setIfInBounds_toArray, List.set_cons_zero, List.set_cons_succ])
          refine wpAnyH_done (by kernel_rfl) ?_ _
          clear hP0
          go_wp2
          go_roundw
          case rel => exact ⟨J + 1, by go_num, by omega, by rw [HA2.out], by rw [HR2.out], HBW.out.drew⟩
          case measure => simp [intOf]; omega
    · obtain rfl : J = NL := by omega
      have HE1 : Hid (catB (L.take J) = s) := Lib.hid (by rw [List.take_of_length_le (by rw [← HNL.out]; exact Nat.le_refl _)]; exact HCAT.out)
      have HE2 : Hid (catB ((L.take J).drop K) = catB (L.drop K)) := Lib.hid (by rw [List.take_of_length_le (by rw [← HNL.out]; exact Nat.le_refl _)])
      have hKL : K ≤ L.length := by rw [← HNL.out]; omega
      have hrs := catB_drop_size L K
      rw [HCAT.out] at hrs
      have HRC : Hid (cuts lo hi m (catB (L.drop K)) = L.drop K) := Lib.hid (by
        have e := HLE.out
        subst e
        exact HDR.out K hKL)
      have T := HCUT.out (catB (L.drop K)) wr (by omega)
      rw [HRC.out, List.length_drop, ← HNL.out] at T
      have HT := Lib.hid T
      obtain ⟨b2, o2, rfl, _, _⟩ := slT_str HSL.out 0 (by rw [← HNL.out]; exact hpos)
      have hbk := HA1.out.keep HBW.out
      have c0 := (hbk.2 0 _ rfl).1; have c1 := (hbk.2 1 _ rfl).1; have c2 := (hbk.2 2 _ rfl).1
      have hcK : ¬ cl = K := by omega
      have hKc : K ≤ cl := by omega
      have hKJ : K ≤ J := by omega
      have HBR := Lib.hid (below_step HB1.out (by have := HB1.out.size; omega) HBW.out)
      have HSW := Lib.hid (HSL.out.keep HBW.out)
      rw [HE1.out, HE2.out]
      generalize catB (L.drop K) = RS at *
      clear T hbk HCUT hrs HLS HDR
      go_wp2_with fail
      refine HT.out.mono ?_
      rintro e w2 ⟨am, cm, rfl, hsm, hb⟩
      have HB2 := Lib.hid (below_step HBR.out (by have := HBR.out.size; omega) hb)
      have HSD := Lib.hid (sl_drop (HSW.out.keep hb) hKL)
      have T := texts_eq (L.drop K) (L.drop K) am _ cm (cl - K) w2 hsm HSD.out (by rw [List.length_drop, ← HNL.out]; omega)
      rw [decide_eq_true rfl, List.length_drop, ← HNL.out] at T
      have HT2 := Lib.hid T
      have hss := str_eq (rfl : s = s)
      clear T hb hsm c0 c1 c2 HT
      go_wp2_with fail
      refine HT2.out.mono ?_
      rintro e w3 ⟨rfl, n3, rfl⟩
      have HB3 := Lib.hid (below_drewN' HB2.out n3)
      go_wp2_with fail
      refine (awake_any _).mono ?_
      rintro e w4 ⟨rfl, hb⟩
      have HB4 := Lib.hid (below_step HB3.out (by have := HB3.out.size; omega) hb)
      clear hb
      go_wp2
      go_ret
      exact ⟨rfl, HB4.out⟩
theorem again_law (s : ByteArray) (v : Value) (_x : Unit) (i : Int) (w : World) (_hs : s.size ≤ 140737488351232) (h : PlanOk v) (hi : (Lit.int .u8 i).wf = true) : Calls Try.prog 4 #[.string s, v, .int .u8 i] w fun e w' => e = .returned (.bool true) ∧ Below w.heap.size w w' := by
  obtain ⟨a, b, m, rfl⟩ := h
  have hb : 0 ≤ i ∧ i < 256 := by
    simp [Lit.wf, IntKind.min, IntKind.max, IntKind.signed, IntKind.bits] at hi
    omega
  obtain ⟨j, rfl⟩ : ∃ j : Nat, i = j := ⟨i.toNat, by omega⟩
  by_cases h1 : 600 < s.size
  · exact again_long s a b m j w h1
  · by_cases h2 : a < 1 ∨ b < a ∨ 4096 < b
    · exact again_bad s a b m j w (by omega) h2
    · obtain ⟨lo, rfl⟩ : ∃ lo : Nat, a = lo := ⟨a.toNat, by omega⟩
      obtain ⟨hi, rfl⟩ : ∃ hi : Nat, b = hi := ⟨b.toNat, by omega⟩
      by_cases h0 : s.size = 0
      · exact again_none s lo hi m j w h0 (by omega) (by omega) (by omega)
      · exact again_main s lo hi m j w (by omega) h0 (by omega) (by omega) (by omega) (by omega)
end Go.Proofs.Ytmjcbkjihdbhoaa

