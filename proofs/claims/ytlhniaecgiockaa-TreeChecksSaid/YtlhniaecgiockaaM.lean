/-
  The walk of TreeChecks.
-/
import Derived.Test.YtlhniaecgiockaaL
set_option linter.unusedVariables false
set_option linter.unusedSimpArgs false
namespace Go.Proofs.Ytlhniaecgiockaa
open Go.RowKit Go.WideShapes Go.ChangeShapes Go.ChangeAt Go.Deep
def wayC (r : ByteArray) (n i : Int) (s : ByteArray) (v : Value) : Array Value := #[.string r, .int .i64 n, .int .i64 i, .string s, v]
theorem checks_long (r : ByteArray) (n i : Int) (s : ByteArray) (l : List ByteArray) (a : Option Addr) (c : Nat) (w : World) (ha : Sl strC 1 w a l) (hl : l.length ≤ 9223372036854775807) (h : fewB l = false ∨ 100 < r.size ∨ 100 < s.size) (hr : r.size ≤ 9223372036854775807) (hs : s.size ≤ 9223372036854775807) :
    Calls Try.prog 4 #[.agg #[.string r, .int .i64 n, .int .i64 i, .string s, .slice a l.length c]] w fun e w' => e = .returned (.bool true) ∧ Below w.heap.size w w' := by
  have HB := Lib.hid (below_new w (.cells #[.string r, .int .i64 n, .int .i64 i, .string s, .slice a l.length c] 35))
  have T1 := Lib.hid (few_any l a c _ (ha.keep HB.out) hl)
  have H := Lib.hid h
  clear ha h
  cases hf : fewB l with
  | false =>
    rw [hf] at T1
    clear hf
    go_enter Try.func4, Try.ntmps4
    go_wp2_with fail
    refine T1.out.mono ?_
    rintro e w1 ⟨rfl, rfl⟩
    go_wp2_with fail
    refine (awake_any _).mono ?_
    rintro e w1 ⟨rfl, hb⟩
    have HB2 := Lib.hid (below_step HB.out (Nat.le_refl _) hb)
    clear hb
    go_wp2
    go_ret
    exact ⟨rfl, HB2.out⟩
  | true =>
    rw [hf] at T1
    by_cases h1 : 100 < r.size
    · have d1 : (100 : Int) < (r.size : Int) := by omega
      clear hf
      go_enter Try.func4, Try.ntmps4
      go_wp2_with fail
      refine T1.out.mono ?_
      rintro e w1 ⟨rfl, rfl⟩
      go_wp2_with fail
      refine (awake_any _).mono ?_
      rintro e w1 ⟨rfl, hb⟩
      have HB2 := Lib.hid (below_step HB.out (Nat.le_refl _) hb)
      clear hb
      go_wp2
      go_ret
      exact ⟨rfl, HB2.out⟩
    · have d1 : ¬ (100 : Int) < (r.size : Int) := by omega
      have d2 : (100 : Int) < (s.size : Int) := by
        rcases H.out with h | h | h
        · rw [h] at hf; cases hf
        · omega
        · omega
      clear hf
      go_enter Try.func4, Try.ntmps4
      go_wp2_with fail
      refine T1.out.mono ?_
      rintro e w1 ⟨rfl, rfl⟩
      go_wp2_with fail
      refine (awake_any _).mono ?_
      rintro e w1 ⟨rfl, hb⟩
      have HB2 := Lib.hid (below_step HB.out (Nat.le_refl _) hb)
      clear hb
      go_wp2
      go_ret
      exact ⟨rfl, HB2.out⟩
set_option maxHeartbeats 8000000 in
theorem checks_walk (r : ByteArray) (n i : Int) (s : ByteArray) (l : List ByteArray) (a : Option Addr) (c : Nat) (w : World) (ha : Sl strC 1 w a l) (hlc : l.length ≤ c) (hf : fewB l = true) (hr : r.size ≤ 100) (hs : s.size ≤ 100) :
    Calls Try.prog 4 #[.agg #[.string r, .int .i64 n, .int .i64 i, .string s, .slice a l.length c]] w fun e w' => e = .returned (.bool true) ∧ Below w.heap.size w w' := by
  have HB := Lib.hid (below_new w (.cells #[.string r, .int .i64 n, .int .i64 i, .string s, .slice a l.length c] 35))
  have HBK := Lib.hid (Bk.new w 35 #[.string r, .int .i64 n, .int .i64 i, .string s, .slice a l.length c])
  obtain ⟨hl, hls⟩ := few_yes hf
  have T1 := few_any l a c _ (ha.keep HB.out) (by omega)
  rw [hf] at T1
  have HT1 := Lib.hid T1
  have TC : Hid (∀ W, Below w.heap.size w W → Calls Try.prog 15 #[.string r, .int .i64 n, .int .i64 i, .string s, .slice a l.length c] W fun e w' => e = .returned (.bool (checkV r n i s l)) ∧ Below W.heap.size W w') := Lib.hid (fun W h => check_any r n i s l a c W (by omega) (fun x hx => by have := hls x hx; omega) (by omega) (ha.keep h))
  have TD : Hid (∀ W, Below w.heap.size w W → Calls Try.prog 16 #[.string r, .int .i64 n, .int .i64 i, .string s, .slice a l.length c] W fun e w' => e = .returned (.bool (checkV r n i s l)) ∧ Below W.heap.size W w') := Lib.hid (fun W h => rcheck_any r n i s l a c W (by omega) (fun x hx => by have := hls x hx; omega) hlc (by omega) (ha.keep h))
  obtain ⟨V, hV⟩ : ∃ V, V = checkV r n i s l := ⟨_, rfl⟩
  rw [← hV] at TC TD
  have sV : (V == V) = true := by simp
  have d1 : ¬ (100 : Int) < (r.size : Int) := by omega
  have d2 : ¬ (100 : Int) < (s.size : Int) := by omega
  clear T1 ha hf hls hV
  go_enter Try.func4, Try.ntmps4
  go_wp2_with fail
  refine HT1.out.mono ?_
  rintro e w1 ⟨rfl, rfl⟩
  go_wp2_with fail
  obtain ⟨W0, hW0⟩ : ∃ W0, W0 = w.alloc (.cells #[.string r, .int .i64 n, .int .i64 i, .string s, .slice a l.length c] 35) := ⟨_, rfl⟩
  rw [← hW0] at HB HBK ⊢
  clear hW0
  have hP0 : Below w.heap.size w W0.drew := HB.out.drew
  have hQ0 : Bk w.heap.size [.string r, .int .i64 n, .int .i64 i, .string s, .slice a l.length c] W0.drew := HBK.out.drew
  refine wp_region_held_drew (S := fun w' => Bk w.heap.size [.string r, .int .i64 n, .int .i64 i, .string s, .slice a l.length c] w') (by kernel_rfl) (by (first | exact hQ0 | exact hQ1 | exact hQ2 | exact hQ3)) (fun hHeld => ?_)
  refine wpAnyH_take (i := 0) (oi := { dst := some 20, op := Go.Op.fieldAddr 35 (Go.Operand.tmp 1) 0, type := 0, pos := "law.go:57", after := #[], guard := none }) (v := ?_) rfl (by kernel_rfl) (by kernel_rfl) (by kernel_rfl) (fun _ _ _ h => h) (Or.inl ⟨by rfl, ?_⟩) (by assumption) ?_
  (rotate_left; focus (intro wS hSw; have s0 := (hSw.2 0 _ rfl).1; have s1 := (hSw.2 1 _ rfl).1; have s2 := (hSw.2 2 _ rfl).1; have s3 := (hSw.2 3 _ rfl).1; have s4 := (hSw.2 4 _ rfl).1; clear hSw; go_simp; (try rw [if_neg (by omega)]); try with_reducible rfl))
  (try simp only [Act.put, List.setIfInBounds_toArray, List.set_cons_zero, List.set_cons_succ])
  refine wpAnyH_take (i := 1) (oi := { dst := some 21, op := Go.Op.load 9 (Go.Operand.tmp 20), type := 9, pos := "law.go:57", after := #[{ on := 0, ground := Go.Ground.data }], guard := none }) (v := ?_) rfl (by kernel_rfl) (by kernel_rfl) (by kernel_rfl) (fun _ _ _ h => h) (Or.inl ⟨by rfl, ?_⟩) (by assumption) ?_
  (rotate_left; focus (intro wS hSw; have s0 := (hSw.2 0 _ rfl).1; have s1 := (hSw.2 1 _ rfl).1; have s2 := (hSw.2 2 _ rfl).1; have s3 := (hSw.2 3 _ rfl).1; have s4 := (hSw.2 4 _ rfl).1; clear hSw; go_simp; (try rw [if_neg (by omega)]); try with_reducible rfl))
  (try simp only [Act.put, List.setIfInBounds_toArray, List.set_cons_zero, List.set_cons_succ])
  refine wpAnyH_take (i := 2) (oi := { dst := some 22, op := Go.Op.fieldAddr 35 (Go.Operand.tmp 1) 1, type := 0, pos := "law.go:57", after := #[], guard := none }) (v := ?_) rfl (by kernel_rfl) (by kernel_rfl) (by kernel_rfl) (fun _ _ _ h => h) (Or.inl ⟨by rfl, ?_⟩) (by assumption) ?_
  (rotate_left; focus (intro wS hSw; have s0 := (hSw.2 0 _ rfl).1; have s1 := (hSw.2 1 _ rfl).1; have s2 := (hSw.2 2 _ rfl).1; have s3 := (hSw.2 3 _ rfl).1; have s4 := (hSw.2 4 _ rfl).1; clear hSw; go_simp; (try rw [if_neg (by omega)]); try with_reducible rfl))
  (try simp only [Act.put, List.setIfInBounds_toArray, List.set_cons_zero, List.set_cons_succ])
  refine wpAnyH_take (i := 3) (oi := { dst := some 23, op := Go.Op.load 3 (Go.Operand.tmp 22), type := 3, pos := "law.go:57", after := #[{ on := 2, ground := Go.Ground.data }], guard := none }) (v := ?_) rfl (by kernel_rfl) (by kernel_rfl) (by kernel_rfl) (fun _ _ _ h => h) (Or.inl ⟨by rfl, ?_⟩) (by assumption) ?_
  (rotate_left; focus (intro wS hSw; have s0 := (hSw.2 0 _ rfl).1; have s1 := (hSw.2 1 _ rfl).1; have s2 := (hSw.2 2 _ rfl).1; have s3 := (hSw.2 3 _ rfl).1; have s4 := (hSw.2 4 _ rfl).1; clear hSw; go_simp; (try rw [if_neg (by omega)]); try with_reducible rfl))
  (try simp only [Act.put, List.setIfInBounds_toArray, List.set_cons_zero, List.set_cons_succ])
  refine wpAnyH_take (i := 4) (oi := { dst := some 24, op := Go.Op.fieldAddr 35 (Go.Operand.tmp 1) 2, type := 0, pos := "law.go:57", after := #[], guard := none }) (v := ?_) rfl (by kernel_rfl) (by kernel_rfl) (by kernel_rfl) (fun _ _ _ h => h) (Or.inl ⟨by rfl, ?_⟩) (by assumption) ?_
  (rotate_left; focus (intro wS hSw; have s0 := (hSw.2 0 _ rfl).1; have s1 := (hSw.2 1 _ rfl).1; have s2 := (hSw.2 2 _ rfl).1; have s3 := (hSw.2 3 _ rfl).1; have s4 := (hSw.2 4 _ rfl).1; clear hSw; go_simp; (try rw [if_neg (by omega)]); try with_reducible rfl))
  (try simp only [Act.put, List.setIfInBounds_toArray, List.set_cons_zero, List.set_cons_succ])
  refine wpAnyH_take (i := 5) (oi := { dst := some 25, op := Go.Op.load 3 (Go.Operand.tmp 24), type := 3, pos := "law.go:57", after := #[{ on := 4, ground := Go.Ground.data }], guard := none }) (v := ?_) rfl (by kernel_rfl) (by kernel_rfl) (by kernel_rfl) (fun _ _ _ h => h) (Or.inl ⟨by rfl, ?_⟩) (by assumption) ?_
  (rotate_left; focus (intro wS hSw; have s0 := (hSw.2 0 _ rfl).1; have s1 := (hSw.2 1 _ rfl).1; have s2 := (hSw.2 2 _ rfl).1; have s3 := (hSw.2 3 _ rfl).1; have s4 := (hSw.2 4 _ rfl).1; clear hSw; go_simp; (try rw [if_neg (by omega)]); try with_reducible rfl))
  (try simp only [Act.put, List.setIfInBounds_toArray, List.set_cons_zero, List.set_cons_succ])
  refine wpAnyH_take (i := 6) (oi := { dst := some 26, op := Go.Op.fieldAddr 35 (Go.Operand.tmp 1) 3, type := 0, pos := "law.go:57", after := #[], guard := none }) (v := ?_) rfl (by kernel_rfl) (by kernel_rfl) (by kernel_rfl) (fun _ _ _ h => h) (Or.inl ⟨by rfl, ?_⟩) (by assumption) ?_
  (rotate_left; focus (intro wS hSw; have s0 := (hSw.2 0 _ rfl).1; have s1 := (hSw.2 1 _ rfl).1; have s2 := (hSw.2 2 _ rfl).1; have s3 := (hSw.2 3 _ rfl).1; have s4 := (hSw.2 4 _ rfl).1; clear hSw; go_simp; (try rw [if_neg (by omega)]); try with_reducible rfl))
  (try simp only [Act.put, List.setIfInBounds_toArray, List.set_cons_zero, List.set_cons_succ])
  refine wpAnyH_take (i := 7) (oi := { dst := some 27, op := Go.Op.load 9 (Go.Operand.tmp 26), type := 9, pos := "law.go:57", after := #[{ on := 6, ground := Go.Ground.data }], guard := none }) (v := ?_) rfl (by kernel_rfl) (by kernel_rfl) (by kernel_rfl) (fun _ _ _ h => h) (Or.inl ⟨by rfl, ?_⟩) (by assumption) ?_
  (rotate_left; focus (intro wS hSw; have s0 := (hSw.2 0 _ rfl).1; have s1 := (hSw.2 1 _ rfl).1; have s2 := (hSw.2 2 _ rfl).1; have s3 := (hSw.2 3 _ rfl).1; have s4 := (hSw.2 4 _ rfl).1; clear hSw; go_simp; (try rw [if_neg (by omega)]); try with_reducible rfl))
  (try simp only [Act.put, List.setIfInBounds_toArray, List.set_cons_zero, List.set_cons_succ])
  refine wpAnyH_take (i := 8) (oi := { dst := some 28, op := Go.Op.fieldAddr 35 (Go.Operand.tmp 1) 4, type := 0, pos := "law.go:57", after := #[], guard := none }) (v := ?_) rfl (by kernel_rfl) (by kernel_rfl) (by kernel_rfl) (fun _ _ _ h => h) (Or.inl ⟨by rfl, ?_⟩) (by assumption) ?_
  (rotate_left; focus (intro wS hSw; have s0 := (hSw.2 0 _ rfl).1; have s1 := (hSw.2 1 _ rfl).1; have s2 := (hSw.2 2 _ rfl).1; have s3 := (hSw.2 3 _ rfl).1; have s4 := (hSw.2 4 _ rfl).1; clear hSw; go_simp; (try rw [if_neg (by omega)]); try with_reducible rfl))
  (try simp only [Act.put, List.setIfInBounds_toArray, List.set_cons_zero, List.set_cons_succ])
  refine wpAnyH_take (i := 9) (oi := { dst := some 29, op := Go.Op.load 22 (Go.Operand.tmp 28), type := 22, pos := "law.go:57", after := #[{ on := 8, ground := Go.Ground.data }], guard := none }) (v := ?_) rfl (by kernel_rfl) (by kernel_rfl) (by kernel_rfl) (fun _ _ _ h => h) (Or.inl ⟨by rfl, ?_⟩) (by assumption) ?_
  (rotate_left; focus (intro wS hSw; have s0 := (hSw.2 0 _ rfl).1; have s1 := (hSw.2 1 _ rfl).1; have s2 := (hSw.2 2 _ rfl).1; have s3 := (hSw.2 3 _ rfl).1; have s4 := (hSw.2 4 _ rfl).1; clear hSw; go_simp; (try rw [if_neg (by omega)]); try with_reducible rfl))
  (try simp only [Act.put, List.setIfInBounds_toArray, List.set_cons_zero, List.set_cons_succ])
  refine wpAnyH_take (i := 11) (oi := { dst := some 31, op := Go.Op.fieldAddr 35 (Go.Operand.tmp 1) 0, type := 0, pos := "law.go:57", after := #[], guard := none }) (v := ?_) rfl (by kernel_rfl) (by kernel_rfl) (by kernel_rfl) (fun _ _ _ h => h) (Or.inl ⟨by rfl, ?_⟩) (by assumption) ?_
  (rotate_left; focus (intro wS hSw; have s0 := (hSw.2 0 _ rfl).1; have s1 := (hSw.2 1 _ rfl).1; have s2 := (hSw.2 2 _ rfl).1; have s3 := (hSw.2 3 _ rfl).1; have s4 := (hSw.2 4 _ rfl).1; clear hSw; go_simp; (try rw [if_neg (by omega)]); try with_reducible rfl))
  (try simp only [Act.put, List.setIfInBounds_toArray, List.set_cons_zero, List.set_cons_succ])
  refine wpAnyH_take (i := 12) (oi := { dst := some 32, op := Go.Op.load 9 (Go.Operand.tmp 31), type := 9, pos := "law.go:57", after := #[{ on := 11, ground := Go.Ground.data }], guard := none }) (v := ?_) rfl (by kernel_rfl) (by kernel_rfl) (by kernel_rfl) (fun _ _ _ h => h) (Or.inl ⟨by rfl, ?_⟩) (by assumption) ?_
  (rotate_left; focus (intro wS hSw; have s0 := (hSw.2 0 _ rfl).1; have s1 := (hSw.2 1 _ rfl).1; have s2 := (hSw.2 2 _ rfl).1; have s3 := (hSw.2 3 _ rfl).1; have s4 := (hSw.2 4 _ rfl).1; clear hSw; go_simp; (try rw [if_neg (by omega)]); try with_reducible rfl))
  (try simp only [Act.put, List.setIfInBounds_toArray, List.set_cons_zero, List.set_cons_succ])
  refine wpAnyH_take (i := 13) (oi := { dst := some 33, op := Go.Op.fieldAddr 35 (Go.Operand.tmp 1) 1, type := 0, pos := "law.go:57", after := #[], guard := none }) (v := ?_) rfl (by kernel_rfl) (by kernel_rfl) (by kernel_rfl) (fun _ _ _ h => h) (Or.inl ⟨by rfl, ?_⟩) (by assumption) ?_
  (rotate_left; focus (intro wS hSw; have s0 := (hSw.2 0 _ rfl).1; have s1 := (hSw.2 1 _ rfl).1; have s2 := (hSw.2 2 _ rfl).1; have s3 := (hSw.2 3 _ rfl).1; have s4 := (hSw.2 4 _ rfl).1; clear hSw; go_simp; (try rw [if_neg (by omega)]); try with_reducible rfl))
  (try simp only [Act.put, List.setIfInBounds_toArray, List.set_cons_zero, List.set_cons_succ])
  refine wpAnyH_take (i := 14) (oi := { dst := some 34, op := Go.Op.load 3 (Go.Operand.tmp 33), type := 3, pos := "law.go:57", after := #[{ on := 13, ground := Go.Ground.data }], guard := none }) (v := ?_) rfl (by kernel_rfl) (by kernel_rfl) (by kernel_rfl) (fun _ _ _ h => h) (Or.inl ⟨by rfl, ?_⟩) (by assumption) ?_
  (rotate_left; focus (intro wS hSw; have s0 := (hSw.2 0 _ rfl).1; have s1 := (hSw.2 1 _ rfl).1; have s2 := (hSw.2 2 _ rfl).1; have s3 := (hSw.2 3 _ rfl).1; have s4 := (hSw.2 4 _ rfl).1; clear hSw; go_simp; (try rw [if_neg (by omega)]); try with_reducible rfl))
  (try simp only [Act.put, List.setIfInBounds_toArray, List.set_cons_zero, List.set_cons_succ])
  refine wpAnyH_take (i := 15) (oi := { dst := some 35, op := Go.Op.fieldAddr 35 (Go.Operand.tmp 1) 2, type := 0, pos := "law.go:57", after := #[], guard := none }) (v := ?_) rfl (by kernel_rfl) (by kernel_rfl) (by kernel_rfl) (fun _ _ _ h => h) (Or.inl ⟨by rfl, ?_⟩) (by assumption) ?_
  (rotate_left; focus (intro wS hSw; have s0 := (hSw.2 0 _ rfl).1; have s1 := (hSw.2 1 _ rfl).1; have s2 := (hSw.2 2 _ rfl).1; have s3 := (hSw.2 3 _ rfl).1; have s4 := (hSw.2 4 _ rfl).1; clear hSw; go_simp; (try rw [if_neg (by omega)]); try with_reducible rfl))
  (try simp only [Act.put, List.setIfInBounds_toArray, List.set_cons_zero, List.set_cons_succ])
  refine wpAnyH_take (i := 16) (oi := { dst := some 36, op := Go.Op.load 3 (Go.Operand.tmp 35), type := 3, pos := "law.go:57", after := #[{ on := 15, ground := Go.Ground.data }], guard := none }) (v := ?_) rfl (by kernel_rfl) (by kernel_rfl) (by kernel_rfl) (fun _ _ _ h => h) (Or.inl ⟨by rfl, ?_⟩) (by assumption) ?_
  (rotate_left; focus (intro wS hSw; have s0 := (hSw.2 0 _ rfl).1; have s1 := (hSw.2 1 _ rfl).1; have s2 := (hSw.2 2 _ rfl).1; have s3 := (hSw.2 3 _ rfl).1; have s4 := (hSw.2 4 _ rfl).1; clear hSw; go_simp; (try rw [if_neg (by omega)]); try with_reducible rfl))
  (try simp only [Act.put, List.setIfInBounds_toArray, List.set_cons_zero, List.set_cons_succ])
  refine wpAnyH_take (i := 17) (oi := { dst := some 37, op := Go.Op.fieldAddr 35 (Go.Operand.tmp 1) 3, type := 0, pos := "law.go:57", after := #[], guard := none }) (v := ?_) rfl (by kernel_rfl) (by kernel_rfl) (by kernel_rfl) (fun _ _ _ h => h) (Or.inl ⟨by rfl, ?_⟩) (by assumption) ?_
  (rotate_left; focus (intro wS hSw; have s0 := (hSw.2 0 _ rfl).1; have s1 := (hSw.2 1 _ rfl).1; have s2 := (hSw.2 2 _ rfl).1; have s3 := (hSw.2 3 _ rfl).1; have s4 := (hSw.2 4 _ rfl).1; clear hSw; go_simp; (try rw [if_neg (by omega)]); try with_reducible rfl))
  (try simp only [Act.put, List.setIfInBounds_toArray, List.set_cons_zero, List.set_cons_succ])
  refine wpAnyH_take (i := 18) (oi := { dst := some 38, op := Go.Op.load 9 (Go.Operand.tmp 37), type := 9, pos := "law.go:57", after := #[{ on := 17, ground := Go.Ground.data }], guard := none }) (v := ?_) rfl (by kernel_rfl) (by kernel_rfl) (by kernel_rfl) (fun _ _ _ h => h) (Or.inl ⟨by rfl, ?_⟩) (by assumption) ?_
  (rotate_left; focus (intro wS hSw; have s0 := (hSw.2 0 _ rfl).1; have s1 := (hSw.2 1 _ rfl).1; have s2 := (hSw.2 2 _ rfl).1; have s3 := (hSw.2 3 _ rfl).1; have s4 := (hSw.2 4 _ rfl).1; clear hSw; go_simp; (try rw [if_neg (by omega)]); try with_reducible rfl))
  (try simp only [Act.put, List.setIfInBounds_toArray, List.set_cons_zero, List.set_cons_succ])
  refine wpAnyH_take (i := 19) (oi := { dst := some 39, op := Go.Op.fieldAddr 35 (Go.Operand.tmp 1) 4, type := 0, pos := "law.go:57", after := #[], guard := none }) (v := ?_) rfl (by kernel_rfl) (by kernel_rfl) (by kernel_rfl) (fun _ _ _ h => h) (Or.inl ⟨by rfl, ?_⟩) (by assumption) ?_
  (rotate_left; focus (intro wS hSw; have s0 := (hSw.2 0 _ rfl).1; have s1 := (hSw.2 1 _ rfl).1; have s2 := (hSw.2 2 _ rfl).1; have s3 := (hSw.2 3 _ rfl).1; have s4 := (hSw.2 4 _ rfl).1; clear hSw; go_simp; (try rw [if_neg (by omega)]); try with_reducible rfl))
  (try simp only [Act.put, List.setIfInBounds_toArray, List.set_cons_zero, List.set_cons_succ])
  refine wpAnyH_take (i := 20) (oi := { dst := some 40, op := Go.Op.load 22 (Go.Operand.tmp 39), type := 22, pos := "law.go:57", after := #[{ on := 19, ground := Go.Ground.data }], guard := none }) (v := ?_) rfl (by kernel_rfl) (by kernel_rfl) (by kernel_rfl) (fun _ _ _ h => h) (Or.inl ⟨by rfl, ?_⟩) (by assumption) ?_
  (rotate_left; focus (intro wS hSw; have s0 := (hSw.2 0 _ rfl).1; have s1 := (hSw.2 1 _ rfl).1; have s2 := (hSw.2 2 _ rfl).1; have s3 := (hSw.2 3 _ rfl).1; have s4 := (hSw.2 4 _ rfl).1; clear hSw; go_simp; (try rw [if_neg (by omega)]); try with_reducible rfl))
  (try simp only [Act.put, List.setIfInBounds_toArray, List.set_cons_zero, List.set_cons_succ])
  refine wpAnyH_ready (rs := [10]) (by kernel_rfl) (by simp) ?_
  refine AllReadyH.cons (o := { dst := some 30, op := Go.Op.call { callee := Go.Callee.value (Go.Operand.func 15), args := #[Go.Operand.tmp 21, Go.Operand.tmp 23, Go.Operand.tmp 25, Go.Operand.tmp 27, Go.Operand.tmp 29], argTypes := #[9, 3, 3, 9, 22] }, type := 4, pos := "law.go:57", after := #[{ on := 1, ground := Go.Ground.data }, { on := 3, ground := Go.Ground.data }, { on := 5, ground := Go.Ground.data }, { on := 7, ground := Go.Ground.data }, { on := 9, ground := Go.Ground.data }], guard := none }) rfl (fun K hK => ?_) AllReadyH.nil
  go_simp
  refine (TC.out _ hP0).mono ?_
  rintro e w2 ⟨rfl, hb2⟩
  have hP1 : Below w.heap.size w w2 := below_step hP0 (Nat.le_refl _) hb2
  have hQ1 := hQ0.keep hb2
  clear hb2
  (try go_wp2_with fail)
  refine hK.out _ _ (by (first | exact hQ0 | exact hQ1 | exact hQ2 | exact hQ3)) (fun hHeld => ?_)
  clear hK K
  (try simp only [Act.put, List.setIfInBounds_toArray, List.set_cons_zero, List.set_cons_succ])
  refine wpAnyH_ready (rs := [21]) (by kernel_rfl) (by simp) ?_
  refine AllReadyH.cons (o := { dst := some 41, op := Go.Op.call { callee := Go.Callee.value (Go.Operand.func 16), args := #[Go.Operand.tmp 32, Go.Operand.tmp 34, Go.Operand.tmp 36, Go.Operand.tmp 38, Go.Operand.tmp 40], argTypes := #[9, 3, 3, 9, 22] }, type := 4, pos := "law.go:57", after := #[{ on := 12, ground := Go.Ground.data }, { on := 14, ground := Go.Ground.data }, { on := 16, ground := Go.Ground.data }, { on := 18, ground := Go.Ground.data }, { on := 20, ground := Go.Ground.data }, { on := 10, ground := Go.Ground.chain }], guard := none }) rfl (fun K hK => ?_) AllReadyH.nil
  go_simp
  refine (TD.out _ hP1).mono ?_
  rintro e w3 ⟨rfl, hb3⟩
  have hP2 : Below w.heap.size w w3 := below_step hP1 (Nat.le_refl _) hb3
  have hQ2 := hQ1.keep hb3
  clear hb3
  (try go_wp2_with fail)
  refine hK.out _ _ (by (first | exact hQ0 | exact hQ1 | exact hQ2 | exact hQ3)) (fun hHeld => ?_)
  clear hK K
  (try simp only [Act.put, List.setIfInBounds_toArray, List.set_cons_zero, List.set_cons_succ])
  refine wpAnyH_take (i := 22) (oi := { dst := some 42, op := Go.Op.binOp Go.BinOp.eql 4 (Go.Operand.tmp 30) (Go.Operand.tmp 41) 4, type := 4, pos := "law.go:57", after := #[{ on := 10, ground := Go.Ground.data }, { on := 21, ground := Go.Ground.data }], guard := none }) (v := ?_) rfl (by kernel_rfl) (by kernel_rfl) (by kernel_rfl) (fun _ _ _ h => h) (Or.inl ⟨by rfl, ?_⟩) (by assumption) ?_
  (rotate_left; focus (intro wS hSw; have s0 := (hSw.2 0 _ rfl).1; have s1 := (hSw.2 1 _ rfl).1; have s2 := (hSw.2 2 _ rfl).1; have s3 := (hSw.2 3 _ rfl).1; have s4 := (hSw.2 4 _ rfl).1; clear hSw; go_simp; (try rw [if_neg (by omega)]); try with_reducible rfl))
  (try simp only [Act.put, List.setIfInBounds_toArray, List.set_cons_zero, List.set_cons_succ])
  refine wpAnyH_take (i := 23) (oi := { dst := some 43, op := Go.Op.move (Go.Operand.tmp 42), type := 4, pos := "law.go:57", after := #[{ on := 22, ground := Go.Ground.data }, { on := 21, ground := Go.Ground.chain }], guard := none }) (v := ?_) rfl (by kernel_rfl) (by kernel_rfl) (by kernel_rfl) (fun _ _ _ h => h) (Or.inl ⟨by rfl, ?_⟩) (by assumption) ?_
  (rotate_left; focus (intro wS hSw; have s0 := (hSw.2 0 _ rfl).1; have s1 := (hSw.2 1 _ rfl).1; have s2 := (hSw.2 2 _ rfl).1; have s3 := (hSw.2 3 _ rfl).1; have s4 := (hSw.2 4 _ rfl).1; clear hSw; go_simp; (try rw [if_neg (by omega)]); try with_reducible rfl))
  (try simp only [Act.put, List.setIfInBounds_toArray, List.set_cons_zero, List.set_cons_succ])
  refine wpAnyH_ready (rs := [24]) (by kernel_rfl) (by simp) ?_
  refine AllReadyH.cons (o := { dst := some 44, op := Go.Op.call { callee := Go.Callee.value (Go.Operand.func 7), args := #[], argTypes := #[] }, type := 4, pos := "law.go:57", after := #[{ on := 23, ground := Go.Ground.chain }, { on := 23, ground := Go.Ground.guard }], guard := some (23, true) }) rfl (fun K hK => ?_) AllReadyH.nil
  go_simp
  refine (awake_any _).mono ?_
  rintro e w4 ⟨rfl, hb4⟩
  have hP3 : Below w.heap.size w w4 := below_step hP2 (Nat.le_refl _) hb4
  have hQ3 := hQ2.keep hb4
  clear hb4
  (try go_wp2_with fail)
  refine hK.out _ _ (by (first | exact hQ0 | exact hQ1 | exact hQ2 | exact hQ3)) (fun hHeld => ?_)
  clear hK K
  (try simp only [Act.put, List.setIfInBounds_toArray, List.set_cons_zero, List.set_cons_succ])
  refine wpAnyH_take (i := 25) (oi := { dst := some 45, op := Go.Op.pick (Go.Operand.tmp 43) (Go.Operand.tmp 44) (Go.Operand.const (Go.Value.bool false)), type := 4, pos := "law.go:57", after := #[{ on := 23, ground := Go.Ground.data }, { on := 24, ground := Go.Ground.data }], guard := none }) (v := ?_) rfl (by kernel_rfl) (by kernel_rfl) (by kernel_rfl) (fun _ _ _ h => h) (Or.inl ⟨by rfl, ?_⟩) (by assumption) ?_
  (rotate_left; focus (intro wS hSw; have s0 := (hSw.2 0 _ rfl).1; have s1 := (hSw.2 1 _ rfl).1; have s2 := (hSw.2 2 _ rfl).1; have s3 := (hSw.2 3 _ rfl).1; have s4 := (hSw.2 4 _ rfl).1; clear hSw; go_simp; (try rw [if_neg (by omega)]); try with_reducible rfl))
  (try simp only [Act.put, List.setIfInBounds_toArray, List.set_cons_zero, List.set_cons_succ])
  refine wpAnyH_take (i := 26) (oi := { dst := some 2, op := Go.Op.assign (Go.Operand.tmp 45), type := 4, pos := "law.go:57", after := #[{ on := 25, ground := Go.Ground.data }, { on := 24, ground := Go.Ground.chain }, { on := 0, ground := Go.Ground.phase }, { on := 1, ground := Go.Ground.phase }, { on := 2, ground := Go.Ground.phase }, { on := 3, ground := Go.Ground.phase }, { on := 4, ground := Go.Ground.phase }, { on := 5, ground := Go.Ground.phase }, { on := 6, ground := Go.Ground.phase }, { on := 7, ground := Go.Ground.phase }, { on := 8, ground := Go.Ground.phase }, { on := 9, ground := Go.Ground.phase }, { on := 10, ground := Go.Ground.phase }, { on := 11, ground := Go.Ground.phase }, { on := 12, ground := Go.Ground.phase }, { on := 13, ground := Go.Ground.phase }, { on := 14, ground := Go.Ground.phase }, { on := 15, ground := Go.Ground.phase }, { on := 16, ground := Go.Ground.phase }, { on := 17, ground := Go.Ground.phase }, { on := 18, ground := Go.Ground.phase }, { on := 19, ground := Go.Ground.phase }, { on := 20, ground := Go.Ground.phase }, { on := 21, ground := Go.Ground.phase }, { on := 22, ground := Go.Ground.phase }, { on := 23, ground := Go.Ground.phase }, { on := 24, ground := Go.Ground.phase }, { on := 25, ground := Go.Ground.phase }], guard := none }) (v := ?_) rfl (by kernel_rfl) (by kernel_rfl) (by kernel_rfl) (fun _ _ _ h => h) (Or.inl ⟨by rfl, ?_⟩) (by assumption) ?_
  (rotate_left; focus (intro wS hSw; have s0 := (hSw.2 0 _ rfl).1; have s1 := (hSw.2 1 _ rfl).1; have s2 := (hSw.2 2 _ rfl).1; have s3 := (hSw.2 3 _ rfl).1; have s4 := (hSw.2 4 _ rfl).1; clear hSw; go_simp; (try rw [if_neg (by omega)]); try with_reducible rfl))
  (try simp only [Act.put, List.setIfInBounds_toArray, List.set_cons_zero, List.set_cons_succ])
  refine wpAnyH_done (by kernel_rfl) ?_ _
  all_goals
    go_wp2
    go_ret
    exact ⟨rfl, hP3⟩
def WayOk (w : World) (v : Value) : Prop := ∃ (r : ByteArray) (n i : Int) (s : ByteArray) (l : List ByteArray) (a : Option Addr) (c : Nat), v = .agg #[.string r, .int .i64 n, .int .i64 i, .string s, .slice a l.length c] ∧ l.length ≤ c ∧ l.length ≤ maxLen ∧ Sl strC 1 w a l ∧ r.size ≤ maxLen ∧ s.size ≤ maxLen
theorem open_way {H : Type} {enc : TypeId × Value → H} {w : World} {base base0 : Nat} {spare : Bool} {held : TypeId → Bool} {r : Reach} {v : Value} {d : DataW H} {p : List MemPlace}
    (hv : Value.okWide Try.prog w r base0 35 v) (h : DataW.Trod enc Try.prog w base held spare 35 v d p) : ∃ x : Unit, WayOk w v := by
  obtain ⟨cs, rfl⟩ := agg_of Try.underlying35 hv
  obtain ⟨fuel, hf⟩ := h
  simp only [Value.cells] at hf
  have hl := trod_len Try.underlying35 hf
  rw [show Try.prog.cellsOf 35 = 5 by kernel_rfl] at hl
  obtain ⟨cl⟩ := cs
  match cl, hl, hf with
  | [c0, c1, c2, c3, c4], _, hf =>
    obtain ⟨_, _, e0⟩ := trod_part Try.underlying35 hf 0 9 0 1 rfl rfl rfl (by kernel_rfl)
    obtain ⟨_, _, e1⟩ := trod_part Try.underlying35 hf 1 3 1 1 rfl rfl rfl (by kernel_rfl)
    obtain ⟨_, _, e2⟩ := trod_part Try.underlying35 hf 2 3 2 1 rfl rfl rfl (by kernel_rfl)
    obtain ⟨_, _, e3⟩ := trod_part Try.underlying35 hf 3 9 3 1 rfl rfl rfl (by kernel_rfl)
    obtain ⟨_, _, e4⟩ := trod_part Try.underlying35 hf 4 22 4 1 rfl rfl rfl (by kernel_rfl)
    simp only [List.drop_zero, List.drop_succ_cons, List.take_succ_cons, List.take_zero] at e0 e1 e2 e3 e4
    obtain ⟨r, k0, _, hr⟩ := DataW.trod_string Try.underlying9 e0
    obtain ⟨n, k1, _⟩ := DataW.trod_int Try.underlying3 e1
    obtain ⟨i, k2, _⟩ := DataW.trod_int Try.underlying3 e2
    obtain ⟨s, k3, _, hs⟩ := DataW.trod_string Try.underlying9 e3
    obtain ⟨l, ⟨a, c, k4, hc, hsl⟩, hm, _⟩ := strs_of e4
    simp only [List.cons.injEq, and_true] at k0 k1 k2 k3 k4
    subst k0 k1 k2 k3 k4
    exact ⟨(), r, n, i, s, l, a, c, rfl, hc, hm, hsl, hr, hs⟩
theorem checks_law (v : Value) (_x : Unit) (w : World) (h : WayOk w v) : Calls Try.prog 4 #[v] w fun e w' => e = .returned (.bool true) ∧ Below w.heap.size w w' := by
  obtain ⟨r, n, i, s, l, a, c, rfl, hc, hm, hsl, hr, hs⟩ := h
  unfold maxLen at hm hr hs
  by_cases h1 : fewB l = true ∧ r.size ≤ 100 ∧ s.size ≤ 100
  · exact checks_walk r n i s l a c w hsl hc h1.1 h1.2.1 h1.2.2
  · refine checks_long r n i s l a c w hsl hm ?_ hr hs
    cases h2 : fewB l with
    | false => exact .inl rfl
    | true => right; apply Classical.byContradiction; intro hc; exact h1 ⟨h2, by omega, by omega⟩
end Go.Proofs.Ytlhniaecgiockaa

