/-
  The contracts of chunk.Check and of the document's. The contracts of chunk.Put and of the document's.
-/
import Derived.Test.YtanehgnpominiaaX5
set_option linter.unusedVariables false
set_option linter.unusedSimpArgs false
set_option maxRecDepth 100000
namespace Go.Proofs.Ytanehgnpominiaa
open Go.RowKit
/-- Why a manifest may not be. -/
def checkM (S C : Int) (ids : List ByteArray) : Int :=
  if C < 1 ∨ 4096 < C ∨ S < 0 ∨ 32768 < S then 2 else if ids.length ≠ manyC S.toNat C.toNat then 5 else if ∃ x ∈ ids, checkX x ≠ 0 then 5 else if 4096 < ids.length then 3 else 0
theorem ck0 {S C : Int} {ids : List ByteArray} (h : C < 1 ∨ 4096 < C ∨ S < 0 ∨ 32768 < S) : checkM S C ids = 2 := if_pos h
theorem ck1 {s k : Nat} {ids : List ByteArray} (h : ¬ ((k : Int) < 1 ∨ 4096 < (k : Int) ∨ (s : Int) < 0 ∨ 32768 < (s : Int))) (h1 : ids.length ≠ manyC s k) : checkM s k ids = 5 := by
  unfold checkM; rw [if_neg h, if_pos (by simpa using h1)]
theorem ck2 {s k : Nat} {ids : List ByteArray} (h : ¬ ((k : Int) < 1 ∨ 4096 < (k : Int) ∨ (s : Int) < 0 ∨ 32768 < (s : Int))) (h1 : ids.length = manyC s k) (h2 : ∃ x ∈ ids, checkX x ≠ 0) : checkM s k ids = 5 := by
  unfold checkM; rw [if_neg h, if_neg (by simpa using h1), if_pos h2]
theorem ck3 {s k : Nat} {ids : List ByteArray} (h : ¬ ((k : Int) < 1 ∨ 4096 < (k : Int) ∨ (s : Int) < 0 ∨ 32768 < (s : Int))) (h1 : ids.length = manyC s k) (h2 : ¬ ∃ x ∈ ids, checkX x ≠ 0) (h3 : 4096 < ids.length) : checkM s k ids = 3 := by
  unfold checkM; rw [if_neg h, if_neg (by simpa using h1), if_neg h2, if_pos h3]
theorem ck4 {s k : Nat} {ids : List ByteArray} (h : ¬ ((k : Int) < 1 ∨ 4096 < (k : Int) ∨ (s : Int) < 0 ∨ 32768 < (s : Int))) (h1 : ids.length = manyC s k) (h2 : ¬ ∃ x ∈ ids, checkX x ≠ 0) (h3 : ¬ 4096 < ids.length) : checkM s k ids = 0 := by
  unfold checkM; rw [if_neg h, if_neg (by simpa using h1), if_neg h2, if_neg h3]
theorem manyC_max (n c : Nat) (h : n ≤ 32768) (hc : 1 ≤ c) : manyC n c ≤ 32768 := Nat.le_trans (manyC_le n c hc) h
set_option maxHeartbeats 8000000 in
theorem ck_any (S C : Int) (ids : List ByteArray) (a : Option Addr) (c : Nat) (w : World) (h : Sl strC 1 w a ids) (hsz : ∀ x ∈ ids, x.size ≤ 1099511627) :
    Calls Try.prog 21 #[mf S C a ids.length c] w fun e w' => e = .returned (.int .i64 (checkM S C ids)) ∧ Below w.heap.size w w' := by
  unfold mf
  have hA := Bk.new w 31 #[.int .i64 S, .int .i64 C, .slice a ids.length c]
  have hB0 := below_new w (.cells #[.int .i64 S, .int .i64 C, .slice a ids.length c] 31)
  have HB0 := Lib.hid hB0
  have HS0 := Lib.hid (h.keep hB0)
  have HA0 := Lib.hid hA
  have m0 := (hA.2 0 _ rfl).1; have m1 := (hA.2 1 _ rfl).1; have m2 := (hA.2 2 _ rfl).1
  obtain ⟨R, hRe⟩ : ∃ R, R = checkM S C ids := ⟨_, rfl⟩
  rw [← hRe]
  have HCK := Lib.hid hRe
  clear hRe
  obtain ⟨NL, hNL⟩ : ∃ x, x = ids.length := ⟨_, rfl⟩
  have HNL := Lib.hid hNL
  rw [← hNL] at m2 HA0 HB0 HS0 ⊢
  have HSZ := Lib.hid hsz
  clear hA hB0 h hsz hNL
  by_cases q1 : C < 1
  · have HR := Lib.hid (HCK.out.trans (ck0 (by omega)))
    clear HCK
    go_enter Try.func21, Try.ntmps21
    go_wp2
    go_ret
    exact ⟨rint HR.out.symm, HB0.out⟩
  by_cases q2 : 4096 < C
  · have HR := Lib.hid (HCK.out.trans (ck0 (by omega)))
    clear HCK
    go_enter Try.func21, Try.ntmps21
    go_wp2
    go_ret
    exact ⟨rint HR.out.symm, HB0.out⟩
  by_cases q3 : S < 0
  · have HR := Lib.hid (HCK.out.trans (ck0 (by omega)))
    clear HCK
    go_enter Try.func21, Try.ntmps21
    go_wp2
    go_ret
    exact ⟨rint HR.out.symm, HB0.out⟩
  by_cases q4 : 32768 < S
  · have HR := Lib.hid (HCK.out.trans (ck0 (by omega)))
    clear HCK
    go_enter Try.func21, Try.ntmps21
    go_wp2
    go_ret
    exact ⟨rint HR.out.symm, HB0.out⟩
  obtain ⟨s, rfl⟩ : ∃ s : Nat, S = s := ⟨S.toNat, by omega⟩
  obtain ⟨k, rfl⟩ : ∃ k : Nat, C = k := ⟨C.toNat, by omega⟩
  have hnn : ¬ ((k : Int) < 1 ∨ 4096 < (k : Int) ∨ (s : Int) < 0 ∨ 32768 < (s : Int)) := by omega
  have HC1 := Lib.hid (fun h1 => HCK.out.trans (ck1 hnn h1)); have HC2 := Lib.hid (fun h1 h2 => HCK.out.trans (ck2 hnn h1 h2)); have HC3 := Lib.hid (fun h1 h2 h3 => HCK.out.trans (ck3 hnn h1 h2 h3)); have HC4 := Lib.hid (fun h1 h2 h3 => HCK.out.trans (ck4 hnn h1 h2 h3))
  have TM := Lib.hid (fun W => many_any s k W (by omega) (by omega) (by omega))
  have hmm := manyC_max s k (by omega) (by omega)
  clear HCK hnn
  generalize manyC s k = M at *
  have d1 : decide ((k : Int) < 1) = false := decide_eq_false q1
  have d2 : decide ((4096 : Int) < (k : Int)) = false := decide_eq_false q2
  have d3 : decide ((s : Int) < 0) = false := decide_eq_false q3
  have d4 : decide ((32768 : Int) < (s : Int)) = false := decide_eq_false q4
  have d1' : decide (k < 1) = false := decide_eq_false (by omega)
  have d2' : decide (4096 < k) = false := decide_eq_false (by omega)
  have d4' : decide (32768 < s) = false := decide_eq_false (by omega)
  have hP0 : Bk w.heap.size [.int .i64 s, .int .i64 k, .slice a NL c] (w.alloc (.cells #[.int .i64 s, .int .i64 k, .slice a NL c] 31)).drew := HA0.out
  go_enter Try.func21, Try.ntmps21
  go_wp2_with fail
  by_cases q5 : NL = M
  · have e5 : ((NL : Int) != (M : Int)) = false := by simp [q5]
    have e6 : ((M : Int) != (M : Int)) = false := by simp
    have HQ := Lib.hid (show ids.length = M by rw [← HNL.out]; exact q5)
    subst q5
    refine wp_region_held_drew (S := fun w' => Bk w.heap.size [.int .i64 s, .int .i64 k, .slice a NL c] w') (by kernel_rfl) (by (first | exact hP0)) (fun hHeld => ?_)
    refine wpAnyH_take (i := 0) (oi := { dst := some 25, op := Go.Op.fieldAddr 31 (Go.Operand.tmp 1) 2, type := 0, pos := "chunk.go:62", after := #[], guard := none }) (v := ?_) rfl (by kernel_rfl) (by kernel_rfl) (by kernel_rfl) (fun _ _ _ h => h) (Or.inl ⟨by rfl, ?_⟩) (by assumption) ?_
    (rotate_left; focus (intro wS hSw; have s0 := (hSw.2 0 _ rfl).1; have s1 := (hSw.2 1 _ rfl).1; have s2 := (hSw.2 2 _ rfl).1; clear hSw; go_simp; (try rw [if_neg (by omega)]); try with_reducible rfl))
    (try simp only [Act.put, List.setIfInBounds_toArray, List.set_cons_zero, List.set_cons_succ])
    refine wpAnyH_take (i := 1) (oi := { dst := some 26, op := Go.Op.load 23 (Go.Operand.tmp 25), type := 23, pos := "chunk.go:62", after := #[{ on := 0, ground := Go.Ground.data }], guard := none }) (v := ?_) rfl (by kernel_rfl) (by kernel_rfl) (by kernel_rfl) (fun _ _ _ h => h) (Or.inl ⟨by rfl, ?_⟩) (by assumption) ?_
    (rotate_left; focus (intro wS hSw; have s0 := (hSw.2 0 _ rfl).1; have s1 := (hSw.2 1 _ rfl).1; have s2 := (hSw.2 2 _ rfl).1; clear hSw; go_simp; (try rw [if_neg (by omega)]); try with_reducible rfl))
    (try simp only [Act.put, List.setIfInBounds_toArray, List.set_cons_zero, List.set_cons_succ])
    refine wpAnyH_take (i := 2) (oi := { dst := some 27, op := Go.Op.call { callee := Go.Callee.builtin Go.Builtin.len, args := #[Go.Operand.tmp 26], argTypes := #[23] }, type := 3, pos := "chunk.go:62", after := #[{ on := 1, ground := Go.Ground.data }], guard := none }) (v := ?_) rfl (by kernel_rfl) (by kernel_rfl) (by kernel_rfl) (fun _ _ _ h => h) (Or.inl ⟨by rfl, ?_⟩) (by assumption) ?_
    (rotate_left; focus (intro wS hSw; have s0 := (hSw.2 0 _ rfl).1; have s1 := (hSw.2 1 _ rfl).1; have s2 := (hSw.2 2 _ rfl).1; clear hSw; go_simp; (try rw [if_neg (by omega)]); try with_reducible rfl))
    (try simp only [Act.put, List.setIfInBounds_toArray, List.set_cons_zero, List.set_cons_succ])
    refine wpAnyH_take (i := 3) (oi := { dst := some 28, op := Go.Op.fieldAddr 31 (Go.Operand.tmp 1) 0, type := 0, pos := "chunk.go:62", after := #[], guard := none }) (v := ?_) rfl (by kernel_rfl) (by kernel_rfl) (by kernel_rfl) (fun _ _ _ h => h) (Or.inl ⟨by rfl, ?_⟩) (by assumption) ?_
    (rotate_left; focus (intro wS hSw; have s0 := (hSw.2 0 _ rfl).1; have s1 := (hSw.2 1 _ rfl).1; have s2 := (hSw.2 2 _ rfl).1; clear hSw; go_simp; (try rw [if_neg (by omega)]); try with_reducible rfl))
    (try simp only [Act.put, List.setIfInBounds_toArray, List.set_cons_zero, List.set_cons_succ])
    refine wpAnyH_take (i := 4) (oi := { dst := some 29, op := Go.Op.load 3 (Go.Operand.tmp 28), type := 3, pos := "chunk.go:62", after := #[{ on := 3, ground := Go.Ground.data }], guard := none }) (v := ?_) rfl (by kernel_rfl) (by kernel_rfl) (by kernel_rfl) (fun _ _ _ h => h) (Or.inl ⟨by rfl, ?_⟩) (by assumption) ?_
    (rotate_left; focus (intro wS hSw; have s0 := (hSw.2 0 _ rfl).1; have s1 := (hSw.2 1 _ rfl).1; have s2 := (hSw.2 2 _ rfl).1; clear hSw; go_simp; (try rw [if_neg (by omega)]); try with_reducible rfl))
    (try simp only [Act.put, List.setIfInBounds_toArray, List.set_cons_zero, List.set_cons_succ])
    refine wpAnyH_take (i := 5) (oi := { dst := some 30, op := Go.Op.fieldAddr 31 (Go.Operand.tmp 1) 1, type := 0, pos := "chunk.go:62", after := #[], guard := none }) (v := ?_) rfl (by kernel_rfl) (by kernel_rfl) (by kernel_rfl) (fun _ _ _ h => h) (Or.inl ⟨by rfl, ?_⟩) (by assumption) ?_
    (rotate_left; focus (intro wS hSw; have s0 := (hSw.2 0 _ rfl).1; have s1 := (hSw.2 1 _ rfl).1; have s2 := (hSw.2 2 _ rfl).1; clear hSw; go_simp; (try rw [if_neg (by omega)]); try with_reducible rfl))
    (try simp only [Act.put, List.setIfInBounds_toArray, List.set_cons_zero, List.set_cons_succ])
    refine wpAnyH_take (i := 6) (oi := { dst := some 31, op := Go.Op.load 3 (Go.Operand.tmp 30), type := 3, pos := "chunk.go:62", after := #[{ on := 5, ground := Go.Ground.data }], guard := none }) (v := ?_) rfl (by kernel_rfl) (by kernel_rfl) (by kernel_rfl) (fun _ _ _ h => h) (Or.inl ⟨by rfl, ?_⟩) (by assumption) ?_
    (rotate_left; focus (intro wS hSw; have s0 := (hSw.2 0 _ rfl).1; have s1 := (hSw.2 1 _ rfl).1; have s2 := (hSw.2 2 _ rfl).1; clear hSw; go_simp; (try rw [if_neg (by omega)]); try with_reducible rfl))
    (try simp only [Act.put, List.setIfInBounds_toArray, List.set_cons_zero, List.set_cons_succ])
    refine wpAnyH_ready (rs := [7]) (by kernel_rfl) (by simp) ?_
    refine AllReadyH.cons (o := { dst := some 32, op := Go.Op.call { callee := Go.Callee.value (Go.Operand.func 23), args := #[Go.Operand.tmp 29, Go.Operand.tmp 31], argTypes := #[3, 3] }, type := 3, pos := "chunk.go:62", after := #[{ on := 4, ground := Go.Ground.data }, { on := 6, ground := Go.Ground.data }], guard := none }) rfl (fun K hK => ?_) AllReadyH.nil
    go_simp
    refine (TM.out _).mono ?_
    rintro e wz ⟨rfl, rfl⟩
    (try go_wp2_with fail)
    refine hK.out _ _ (by (first | exact hP0)) (fun hHeld => ?_)
    clear hK K
    (try simp only [Act.put, List.setIfInBounds_toArray, List.set_cons_zero, List.set_cons_succ])
    refine wpAnyH_take (i := 8) (oi := { dst := some 33, op := Go.Op.binOp Go.BinOp.neq 3 (Go.Operand.tmp 27) (Go.Operand.tmp 32) 3, type := 4, pos := "chunk.go:62", after := #[{ on := 2, ground := Go.Ground.data }, { on := 7, ground := Go.Ground.data }], guard := none }) (v := ?_) rfl (by kernel_rfl) (by kernel_rfl) (by kernel_rfl) (fun _ _ _ h => h) (Or.inl ⟨by rfl, ?_⟩) (by assumption) ?_
    (rotate_left; focus (intro wS hSw; have s0 := (hSw.2 0 _ rfl).1; have s1 := (hSw.2 1 _ rfl).1; have s2 := (hSw.2 2 _ rfl).1; clear hSw; go_simp; (try rw [if_neg (by omega)]); try with_reducible rfl))
    (try simp only [Act.put, List.setIfInBounds_toArray, List.set_cons_zero, List.set_cons_succ])
    refine wpAnyH_take (i := 9) (oi := { dst := some 24, op := Go.Op.assign (Go.Operand.tmp 33), type := 4, pos := "chunk.go:62", after := #[{ on := 8, ground := Go.Ground.data }, { on := 7, ground := Go.Ground.chain }], guard := none }) (v := ?_) rfl (by kernel_rfl) (by kernel_rfl) (by kernel_rfl) (fun _ _ _ h => h) (Or.inl ⟨by rfl, ?_⟩) (by assumption) ?_
    (rotate_left; focus (intro wS hSw; have s0 := (hSw.2 0 _ rfl).1; have s1 := (hSw.2 1 _ rfl).1; have s2 := (hSw.2 2 _ rfl).1; clear hSw; go_simp; (try rw [if_neg (by omega)]); try with_reducible rfl))
    (try simp only [Act.put, List.setIfInBounds_toArray, List.set_cons_zero, List.set_cons_succ])
    refine wpAnyH_done (by kernel_rfl) ?_ _
    clear hP0
    have HW : Hid (Below w.heap.size w (w.alloc (.cells #[.int .i64 s, .int .i64 k, .slice a NL c] 31)).drew) := Lib.hid HB0.out.drew
    have HSW : Hid (Sl strC 1 (w.alloc (.cells #[.int .i64 s, .int .i64 k, .slice a NL c] 31)).drew a ids) := Lib.hid (HS0.out.keep (Below.refl _ _).drew)
    have HAW : Hid (Bk w.heap.size [.int .i64 s, .int .i64 k, .slice a NL c] (w.alloc (.cells #[.int .i64 s, .int .i64 k, .slice a NL c] 31)).drew) := Lib.hid HA0.out
    generalize (w.alloc (.cells #[.int .i64 s, .int .i64 k, .slice a NL c] 31)).drew = W1 at *
    have m2 := (HAW.out.2 2 _ rfl).1
    go_wp2
    go_loopw [37] (fun i wr => ∃ j : Nat, i = .int .i64 j ∧ j ≤ NL ∧ (∀ q (hq : q < ids.length), q < j → checkX ids[q] = 0) ∧ Below W1.heap.size W1 wr) (fun i _ => NL - (intOf i).toNat)
    case atStart => exact ⟨0, rfl, by omega, fun q hq h => by omega, Below.refl _ _⟩
    case round =>
      obtain ⟨j, rfl, hj, hall, hbw⟩ := hrel
      have HALL := Lib.hid hall; have HBW := Lib.hid hbw
      have m2 := ((HAW.out.keep hbw).2 2 _ rfl).1
      clear hall hbw
      by_cases hlt : j < NL
      · have hjl : j < ids.length := by rw [← HNL.out]; exact hlt
        obtain ⟨b2, o2, rfl, hb2, c0⟩ := slT_str (HSW.out.keep HBW.out) j hjl
        have T := check_any ids[j] wr (HSZ.out _ (List.getElem_mem hjl))
        have HT := Lib.hid T
        have HX : Hid (checkX ids[j] ≠ 0 → ∃ x ∈ ids, checkX x ≠ 0) := Lib.hid (fun h => ⟨_, List.getElem_mem hjl, h⟩)
        have HN : Hid (checkX ids[j] = 0 → ∀ q (hq : q < ids.length), q < j + 1 → checkX ids[q] = 0) := Lib.hid (fun h q hq hqj => by
          by_cases e : q = j
          · subst e; exact h
          · exact HALL.out q hq (by omega))
        generalize checkX ids[j] = cx at *
        generalize ids[j] = x at *
        have hjN : (j : Int) < (NL : Int) := by omega
        clear T
        by_cases hc : cx = 0
        · subst hc
          go_wp2_with fail
          refine HT.out.mono ?_
          rintro e w3 ⟨rfl, hb⟩
          have HB3 := Lib.hid (below_cons HBW.out hb)
          clear hb
          go_wp2
          go_roundw
          case rel => exact ⟨j + 1, by go_num, by omega, HN.out (by first | trivial | rfl), HB3.out⟩
          case measure => simp [intOf]; omega
        · have hc2 : (cx != 0) = true := by simp [hc]
          have hc3 : (cx == 0) = false := by simp [hc]
          have HR3 := Lib.hid (HC2.out HQ.out (HX.out hc))
          go_wp2_with fail
          refine HT.out.mono ?_
          rintro e w3 ⟨rfl, hb⟩
          have HB3 := Lib.hid (HW.out.trans ((below_cons HBW.out hb).mono HW.out.size))
          clear hb
          go_wp2
          go_ret
          exact ⟨rint HR3.out.symm, HB3.out⟩
      · obtain rfl : j = NL := by omega
        have HNO : Hid (¬ ∃ x ∈ ids, checkX x ≠ 0) := Lib.hid (fun ⟨x, hx, h⟩ => by
          obtain ⟨q, hq, rfl⟩ := List.getElem_of_mem hx
          exact h (HALL.out q hq (by rw [HNL.out]; exact hq)))
        have HB3 := Lib.hid (HW.out.trans (HBW.out.mono HW.out.size))
        have hjj : ¬ (j : Int) < (j : Int) := by omega
        by_cases q6 : 4096 < j
        · have HR4 := Lib.hid (HC3.out HQ.out HNO.out (by rw [← HNL.out]; exact q6))
          have q6' : (4096 : Int) < (j : Int) := by omega
          go_wp2
          go_ret
          exact ⟨rint HR4.out.symm, HB3.out⟩
        · have HR4 := Lib.hid (HC4.out HQ.out HNO.out (by rw [← HNL.out]; exact q6))
          have q6' : ¬ (4096 : Int) < (j : Int) := by omega
          go_wp2
          go_ret
          exact ⟨rint HR4.out.symm, HB3.out⟩
  · have e5 : ((NL : Int) != (M : Int)) = true := by simp; omega
    have e5' : ((NL : Int) == (M : Int)) = false := by simp; omega
    have HR2 := Lib.hid (HC1.out (by rw [← HNL.out]; exact q5))
    refine wp_region_held_drew (S := fun w' => Bk w.heap.size [.int .i64 s, .int .i64 k, .slice a NL c] w') (by kernel_rfl) (by (first | exact hP0)) (fun hHeld => ?_)
    refine wpAnyH_take (i := 0) (oi := { dst := some 25, op := Go.Op.fieldAddr 31 (Go.Operand.tmp 1) 2, type := 0, pos := "chunk.go:62", after := #[], guard := none }) (v := ?_) rfl (by kernel_rfl) (by kernel_rfl) (by kernel_rfl) (fun _ _ _ h => h) (Or.inl ⟨by rfl, ?_⟩) (by assumption) ?_
    (rotate_left; focus (intro wS hSw; have s0 := (hSw.2 0 _ rfl).1; have s1 := (hSw.2 1 _ rfl).1; have s2 := (hSw.2 2 _ rfl).1; clear hSw; go_simp; (try rw [if_neg (by omega)]); try with_reducible rfl))
    (try simp only [Act.put, List.setIfInBounds_toArray, List.set_cons_zero, List.set_cons_succ])
    refine wpAnyH_take (i := 1) (oi := { dst := some 26, op := Go.Op.load 23 (Go.Operand.tmp 25), type := 23, pos := "chunk.go:62", after := #[{ on := 0, ground := Go.Ground.data }], guard := none }) (v := ?_) rfl (by kernel_rfl) (by kernel_rfl) (by kernel_rfl) (fun _ _ _ h => h) (Or.inl ⟨by rfl, ?_⟩) (by assumption) ?_
    (rotate_left; focus (intro wS hSw; have s0 := (hSw.2 0 _ rfl).1; have s1 := (hSw.2 1 _ rfl).1; have s2 := (hSw.2 2 _ rfl).1; clear hSw; go_simp; (try rw [if_neg (by omega)]); try with_reducible rfl))
    (try simp only [Act.put, List.setIfInBounds_toArray, List.set_cons_zero, List.set_cons_succ])
    refine wpAnyH_take (i := 2) (oi := { dst := some 27, op := Go.Op.call { callee := Go.Callee.builtin Go.Builtin.len, args := #[Go.Operand.tmp 26], argTypes := #[23] }, type := 3, pos := "chunk.go:62", after := #[{ on := 1, ground := Go.Ground.data }], guard := none }) (v := ?_) rfl (by kernel_rfl) (by kernel_rfl) (by kernel_rfl) (fun _ _ _ h => h) (Or.inl ⟨by rfl, ?_⟩) (by assumption) ?_
    (rotate_left; focus (intro wS hSw; have s0 := (hSw.2 0 _ rfl).1; have s1 := (hSw.2 1 _ rfl).1; have s2 := (hSw.2 2 _ rfl).1; clear hSw; go_simp; (try rw [if_neg (by omega)]); try with_reducible rfl))
    (try simp only [Act.put, List.setIfInBounds_toArray, List.set_cons_zero, List.set_cons_succ])
    refine wpAnyH_take (i := 3) (oi := { dst := some 28, op := Go.Op.fieldAddr 31 (Go.Operand.tmp 1) 0, type := 0, pos := "chunk.go:62", after := #[], guard := none }) (v := ?_) rfl (by kernel_rfl) (by kernel_rfl) (by kernel_rfl) (fun _ _ _ h => h) (Or.inl ⟨by rfl, ?_⟩) (by assumption) ?_
    (rotate_left; focus (intro wS hSw; have s0 := (hSw.2 0 _ rfl).1; have s1 := (hSw.2 1 _ rfl).1; have s2 := (hSw.2 2 _ rfl).1; clear hSw; go_simp; (try rw [if_neg (by omega)]); try with_reducible rfl))
    (try simp only [Act.put, List.setIfInBounds_toArray, List.set_cons_zero, List.set_cons_succ])
    refine wpAnyH_take (i := 4) (oi := { dst := some 29, op := Go.Op.load 3 (Go.Operand.tmp 28), type := 3, pos := "chunk.go:62", after := #[{ on := 3, ground := Go.Ground.data }], guard := none }) (v := ?_) rfl (by kernel_rfl) (by kernel_rfl) (by kernel_rfl) (fun _ _ _ h => h) (Or.inl ⟨by rfl, ?_⟩) (by assumption) ?_
    (rotate_left; focus (intro wS hSw; have s0 := (hSw.2 0 _ rfl).1; have s1 := (hSw.2 1 _ rfl).1; have s2 := (hSw.2 2 _ rfl).1; clear hSw; go_simp; (try rw [if_neg (by omega)]); try with_reducible rfl))
    (try simp only [Act.put, List.setIfInBounds_toArray, List.set_cons_zero, List.set_cons_succ])
    refine wpAnyH_take (i := 5) (oi := { dst := some 30, op := Go.Op.fieldAddr 31 (Go.Operand.tmp 1) 1, type := 0, pos := "chunk.go:62", after := #[], guard := none }) (v := ?_) rfl (by kernel_rfl) (by kernel_rfl) (by kernel_rfl) (fun _ _ _ h => h) (Or.inl ⟨by rfl, ?_⟩) (by assumption) ?_
    (rotate_left; focus (intro wS hSw; have s0 := (hSw.2 0 _ rfl).1; have s1 := (hSw.2 1 _ rfl).1; have s2 := (hSw.2 2 _ rfl).1; clear hSw; go_simp; (try rw [if_neg (by omega)]); try with_reducible rfl))
    (try simp only [Act.put, List.setIfInBounds_toArray, List.set_cons_zero, List.set_cons_succ])
    refine wpAnyH_take (i := 6) (oi := { dst := some 31, op := Go.Op.load 3 (Go.Operand.tmp 30), type := 3, pos := "chunk.go:62", after := #[{ on := 5, ground := Go.Ground.data }], guard := none }) (v := ?_) rfl (by kernel_rfl) (by kernel_rfl) (by kernel_rfl) (fun _ _ _ h => h) (Or.inl ⟨by rfl, ?_⟩) (by assumption) ?_
    (rotate_left; focus (intro wS hSw; have s0 := (hSw.2 0 _ rfl).1; have s1 := (hSw.2 1 _ rfl).1; have s2 := (hSw.2 2 _ rfl).1; clear hSw; go_simp; (try rw [if_neg (by omega)]); try with_reducible rfl))
    (try simp only [Act.put, List.setIfInBounds_toArray, List.set_cons_zero, List.set_cons_succ])
    refine wpAnyH_ready (rs := [7]) (by kernel_rfl) (by simp) ?_
    refine AllReadyH.cons (o := { dst := some 32, op := Go.Op.call { callee := Go.Callee.value (Go.Operand.func 23), args := #[Go.Operand.tmp 29, Go.Operand.tmp 31], argTypes := #[3, 3] }, type := 3, pos := "chunk.go:62", after := #[{ on := 4, ground := Go.Ground.data }, { on := 6, ground := Go.Ground.data }], guard := none }) rfl (fun K hK => ?_) AllReadyH.nil
    go_simp
    refine (TM.out _).mono ?_
    rintro e wz ⟨rfl, rfl⟩
    (try go_wp2_with fail)
    refine hK.out _ _ (by (first | exact hP0)) (fun hHeld => ?_)
    clear hK K
    (try simp only [Act.put, List.setIfInBounds_toArray, List.set_cons_zero, List.set_cons_succ])
    refine wpAnyH_take (i := 8) (oi := { dst := some 33, op := Go.Op.binOp Go.BinOp.neq 3 (Go.Operand.tmp 27) (Go.Operand.tmp 32) 3, type := 4, pos := "chunk.go:62", after := #[{ on := 2, ground := Go.Ground.data }, { on := 7, ground := Go.Ground.data }], guard := none }) (v := ?_) rfl (by kernel_rfl) (by kernel_rfl) (by kernel_rfl) (fun _ _ _ h => h) (Or.inl ⟨by rfl, ?_⟩) (by assumption) ?_
    (rotate_left; focus (intro wS hSw; have s0 := (hSw.2 0 _ rfl).1; have s1 := (hSw.2 1 _ rfl).1; have s2 := (hSw.2 2 _ rfl).1; clear hSw; go_simp; (try rw [if_neg (by omega)]); try with_reducible rfl))
    (try simp only [Act.put, List.setIfInBounds_toArray, List.set_cons_zero, List.set_cons_succ])
    refine wpAnyH_take (i := 9) (oi := { dst := some 24, op := Go.Op.assign (Go.Operand.tmp 33), type := 4, pos := "chunk.go:62", after := #[{ on := 8, ground := Go.Ground.data }, { on := 7, ground := Go.Ground.chain }], guard := none }) (v := ?_) rfl (by kernel_rfl) (by kernel_rfl) (by kernel_rfl) (fun _ _ _ h => h) (Or.inl ⟨by rfl, ?_⟩) (by assumption) ?_
    (rotate_left; focus (intro wS hSw; have s0 := (hSw.2 0 _ rfl).1; have s1 := (hSw.2 1 _ rfl).1; have s2 := (hSw.2 2 _ rfl).1; clear hSw; go_simp; (try rw [if_neg (by omega)]); try with_reducible rfl))
    (try simp only [Act.put, List.setIfInBounds_toArray, List.set_cons_zero, List.set_cons_succ])
    refine wpAnyH_done (by kernel_rfl) ?_ _
    clear hP0
    go_wp2
    go_ret
    exact ⟨rint HR2.out.symm, HB0.out.drew⟩
set_option maxHeartbeats 8000000 in
theorem rck_any (S C : Int) (ids : List ByteArray) (a : Option Addr) (c : Nat) (w : World) (h : Sl strC 1 w a ids) (hsz : ∀ x ∈ ids, x.size ≤ 1099511627) :
    Calls Try.prog 22 #[mf S C a ids.length c] w fun e w' => e = .returned (.int .i64 (checkM S C ids)) ∧ Below w.heap.size w w' := by
  unfold mf
  have hA := Bk.new w 31 #[.int .i64 S, .int .i64 C, .slice a ids.length c]
  have hB0 := below_new w (.cells #[.int .i64 S, .int .i64 C, .slice a ids.length c] 31)
  have HB0 := Lib.hid hB0
  have HS0 := Lib.hid (h.keep hB0)
  have HA0 := Lib.hid hA
  have m0 := (hA.2 0 _ rfl).1; have m1 := (hA.2 1 _ rfl).1; have m2 := (hA.2 2 _ rfl).1
  obtain ⟨R, hRe⟩ : ∃ R, R = checkM S C ids := ⟨_, rfl⟩
  rw [← hRe]
  have HCK := Lib.hid hRe
  clear hRe
  obtain ⟨NL, hNL⟩ : ∃ x, x = ids.length := ⟨_, rfl⟩
  have HNL := Lib.hid hNL
  rw [← hNL] at m2 HA0 HB0 HS0 ⊢
  have HSZ := Lib.hid hsz
  clear hA hB0 h hsz hNL
  by_cases q1 : C < 1
  · have HR := Lib.hid (HCK.out.trans (ck0 (by omega)))
    clear HCK
    go_enter Try.func22, Try.ntmps22
    go_wp2
    go_ret
    exact ⟨rint HR.out.symm, HB0.out⟩
  by_cases q2 : 4096 < C
  · have HR := Lib.hid (HCK.out.trans (ck0 (by omega)))
    clear HCK
    go_enter Try.func22, Try.ntmps22
    go_wp2
    go_ret
    exact ⟨rint HR.out.symm, HB0.out⟩
  by_cases q3 : S < 0
  · have HR := Lib.hid (HCK.out.trans (ck0 (by omega)))
    clear HCK
    go_enter Try.func22, Try.ntmps22
    go_wp2
    go_ret
    exact ⟨rint HR.out.symm, HB0.out⟩
  by_cases q4 : 32768 < S
  · have HR := Lib.hid (HCK.out.trans (ck0 (by omega)))
    clear HCK
    go_enter Try.func22, Try.ntmps22
    go_wp2
    go_ret
    exact ⟨rint HR.out.symm, HB0.out⟩
  obtain ⟨s, rfl⟩ : ∃ s : Nat, S = s := ⟨S.toNat, by omega⟩
  obtain ⟨k, rfl⟩ : ∃ k : Nat, C = k := ⟨C.toNat, by omega⟩
  have hnn : ¬ ((k : Int) < 1 ∨ 4096 < (k : Int) ∨ (s : Int) < 0 ∨ 32768 < (s : Int)) := by omega
  have HC1 := Lib.hid (fun h1 => HCK.out.trans (ck1 hnn h1)); have HC2 := Lib.hid (fun h1 h2 => HCK.out.trans (ck2 hnn h1 h2)); have HC3 := Lib.hid (fun h1 h2 h3 => HCK.out.trans (ck3 hnn h1 h2 h3)); have HC4 := Lib.hid (fun h1 h2 h3 => HCK.out.trans (ck4 hnn h1 h2 h3))
  have TM := Lib.hid (fun W => rmany_any s k W (by omega) (by omega) (by omega))
  have hmm := manyC_max s k (by omega) (by omega)
  clear HCK hnn
  generalize manyC s k = M at *
  have d1 : decide ((k : Int) < 1) = false := decide_eq_false q1
  have d2 : decide ((4096 : Int) < (k : Int)) = false := decide_eq_false q2
  have d3 : decide ((s : Int) < 0) = false := decide_eq_false q3
  have d4 : decide ((32768 : Int) < (s : Int)) = false := decide_eq_false q4
  have d1' : decide (k < 1) = false := decide_eq_false (by omega)
  have d2' : decide (4096 < k) = false := decide_eq_false (by omega)
  have d4' : decide (32768 < s) = false := decide_eq_false (by omega)
  have hP0 : Bk w.heap.size [.int .i64 s, .int .i64 k, .slice a NL c] (w.alloc (.cells #[.int .i64 s, .int .i64 k, .slice a NL c] 31)).drew := HA0.out
  go_enter Try.func22, Try.ntmps22
  go_wp2_with fail
  by_cases q5 : NL = M
  · have e5 : ((NL : Int) != (M : Int)) = false := by simp [q5]
    have e6 : ((M : Int) != (M : Int)) = false := by simp
    have HQ := Lib.hid (show ids.length = M by rw [← HNL.out]; exact q5)
    subst q5
    refine wp_region_held_drew (S := fun w' => Bk w.heap.size [.int .i64 s, .int .i64 k, .slice a NL c] w') (by kernel_rfl) (by (first | exact hP0)) (fun hHeld => ?_)
    refine wpAnyH_take (i := 0) (oi := { dst := some 22, op := Go.Op.fieldAddr 31 (Go.Operand.tmp 1) 2, type := 0, pos := "ref.go:60", after := #[], guard := none }) (v := ?_) rfl (by kernel_rfl) (by kernel_rfl) (by kernel_rfl) (fun _ _ _ h => h) (Or.inl ⟨by rfl, ?_⟩) (by assumption) ?_
    (rotate_left; focus (intro wS hSw; have s0 := (hSw.2 0 _ rfl).1; have s1 := (hSw.2 1 _ rfl).1; have s2 := (hSw.2 2 _ rfl).1; clear hSw; go_simp; (try rw [if_neg (by omega)]); try with_reducible rfl))
    (try simp only [Act.put, List.setIfInBounds_toArray, List.set_cons_zero, List.set_cons_succ])
    refine wpAnyH_take (i := 1) (oi := { dst := some 23, op := Go.Op.load 23 (Go.Operand.tmp 22), type := 23, pos := "ref.go:60", after := #[{ on := 0, ground := Go.Ground.data }], guard := none }) (v := ?_) rfl (by kernel_rfl) (by kernel_rfl) (by kernel_rfl) (fun _ _ _ h => h) (Or.inl ⟨by rfl, ?_⟩) (by assumption) ?_
    (rotate_left; focus (intro wS hSw; have s0 := (hSw.2 0 _ rfl).1; have s1 := (hSw.2 1 _ rfl).1; have s2 := (hSw.2 2 _ rfl).1; clear hSw; go_simp; (try rw [if_neg (by omega)]); try with_reducible rfl))
    (try simp only [Act.put, List.setIfInBounds_toArray, List.set_cons_zero, List.set_cons_succ])
    refine wpAnyH_take (i := 2) (oi := { dst := some 24, op := Go.Op.call { callee := Go.Callee.builtin Go.Builtin.len, args := #[Go.Operand.tmp 23], argTypes := #[23] }, type := 3, pos := "ref.go:60", after := #[{ on := 1, ground := Go.Ground.data }], guard := none }) (v := ?_) rfl (by kernel_rfl) (by kernel_rfl) (by kernel_rfl) (fun _ _ _ h => h) (Or.inl ⟨by rfl, ?_⟩) (by assumption) ?_
    (rotate_left; focus (intro wS hSw; have s0 := (hSw.2 0 _ rfl).1; have s1 := (hSw.2 1 _ rfl).1; have s2 := (hSw.2 2 _ rfl).1; clear hSw; go_simp; (try rw [if_neg (by omega)]); try with_reducible rfl))
    (try simp only [Act.put, List.setIfInBounds_toArray, List.set_cons_zero, List.set_cons_succ])
    refine wpAnyH_take (i := 3) (oi := { dst := some 25, op := Go.Op.fieldAddr 31 (Go.Operand.tmp 1) 0, type := 0, pos := "ref.go:60", after := #[], guard := none }) (v := ?_) rfl (by kernel_rfl) (by kernel_rfl) (by kernel_rfl) (fun _ _ _ h => h) (Or.inl ⟨by rfl, ?_⟩) (by assumption) ?_
    (rotate_left; focus (intro wS hSw; have s0 := (hSw.2 0 _ rfl).1; have s1 := (hSw.2 1 _ rfl).1; have s2 := (hSw.2 2 _ rfl).1; clear hSw; go_simp; (try rw [if_neg (by omega)]); try with_reducible rfl))
    (try simp only [Act.put, List.setIfInBounds_toArray, List.set_cons_zero, List.set_cons_succ])
    refine wpAnyH_take (i := 4) (oi := { dst := some 26, op := Go.Op.load 3 (Go.Operand.tmp 25), type := 3, pos := "ref.go:60", after := #[{ on := 3, ground := Go.Ground.data }], guard := none }) (v := ?_) rfl (by kernel_rfl) (by kernel_rfl) (by kernel_rfl) (fun _ _ _ h => h) (Or.inl ⟨by rfl, ?_⟩) (by assumption) ?_
    (rotate_left; focus (intro wS hSw; have s0 := (hSw.2 0 _ rfl).1; have s1 := (hSw.2 1 _ rfl).1; have s2 := (hSw.2 2 _ rfl).1; clear hSw; go_simp; (try rw [if_neg (by omega)]); try with_reducible rfl))
    (try simp only [Act.put, List.setIfInBounds_toArray, List.set_cons_zero, List.set_cons_succ])
    refine wpAnyH_take (i := 5) (oi := { dst := some 27, op := Go.Op.fieldAddr 31 (Go.Operand.tmp 1) 1, type := 0, pos := "ref.go:60", after := #[], guard := none }) (v := ?_) rfl (by kernel_rfl) (by kernel_rfl) (by kernel_rfl) (fun _ _ _ h => h) (Or.inl ⟨by rfl, ?_⟩) (by assumption) ?_
    (rotate_left; focus (intro wS hSw; have s0 := (hSw.2 0 _ rfl).1; have s1 := (hSw.2 1 _ rfl).1; have s2 := (hSw.2 2 _ rfl).1; clear hSw; go_simp; (try rw [if_neg (by omega)]); try with_reducible rfl))
    (try simp only [Act.put, List.setIfInBounds_toArray, List.set_cons_zero, List.set_cons_succ])
    refine wpAnyH_take (i := 6) (oi := { dst := some 28, op := Go.Op.load 3 (Go.Operand.tmp 27), type := 3, pos := "ref.go:60", after := #[{ on := 5, ground := Go.Ground.data }], guard := none }) (v := ?_) rfl (by kernel_rfl) (by kernel_rfl) (by kernel_rfl) (fun _ _ _ h => h) (Or.inl ⟨by rfl, ?_⟩) (by assumption) ?_
    (rotate_left; focus (intro wS hSw; have s0 := (hSw.2 0 _ rfl).1; have s1 := (hSw.2 1 _ rfl).1; have s2 := (hSw.2 2 _ rfl).1; clear hSw; go_simp; (try rw [if_neg (by omega)]); try with_reducible rfl))
    (try simp only [Act.put, List.setIfInBounds_toArray, List.set_cons_zero, List.set_cons_succ])
    refine wpAnyH_ready (rs := [7]) (by kernel_rfl) (by simp) ?_
    refine AllReadyH.cons (o := { dst := some 29, op := Go.Op.call { callee := Go.Callee.value (Go.Operand.func 25), args := #[Go.Operand.tmp 26, Go.Operand.tmp 28], argTypes := #[3, 3] }, type := 3, pos := "ref.go:60", after := #[{ on := 4, ground := Go.Ground.data }, { on := 6, ground := Go.Ground.data }], guard := none }) rfl (fun K hK => ?_) AllReadyH.nil
    go_simp
    refine (TM.out _).mono ?_
    rintro e wz ⟨rfl, rfl⟩
    (try go_wp2_with fail)
    refine hK.out _ _ (by (first | exact hP0)) (fun hHeld => ?_)
    clear hK K
    (try simp only [Act.put, List.setIfInBounds_toArray, List.set_cons_zero, List.set_cons_succ])
    refine wpAnyH_take (i := 8) (oi := { dst := some 30, op := Go.Op.binOp Go.BinOp.neq 3 (Go.Operand.tmp 24) (Go.Operand.tmp 29) 3, type := 4, pos := "ref.go:60", after := #[{ on := 2, ground := Go.Ground.data }, { on := 7, ground := Go.Ground.data }], guard := none }) (v := ?_) rfl (by kernel_rfl) (by kernel_rfl) (by kernel_rfl) (fun _ _ _ h => h) (Or.inl ⟨by rfl, ?_⟩) (by assumption) ?_
    (rotate_left; focus (intro wS hSw; have s0 := (hSw.2 0 _ rfl).1; have s1 := (hSw.2 1 _ rfl).1; have s2 := (hSw.2 2 _ rfl).1; clear hSw; go_simp; (try rw [if_neg (by omega)]); try with_reducible rfl))
    (try simp only [Act.put, List.setIfInBounds_toArray, List.set_cons_zero, List.set_cons_succ])
    refine wpAnyH_done (by kernel_rfl) ?_ _
    clear hP0
    have HW : Hid (Below w.heap.size w (w.alloc (.cells #[.int .i64 s, .int .i64 k, .slice a NL c] 31)).drew) := Lib.hid HB0.out.drew
    have HSW : Hid (Sl strC 1 (w.alloc (.cells #[.int .i64 s, .int .i64 k, .slice a NL c] 31)).drew a ids) := Lib.hid (HS0.out.keep (Below.refl _ _).drew)
    have HAW : Hid (Bk w.heap.size [.int .i64 s, .int .i64 k, .slice a NL c] (w.alloc (.cells #[.int .i64 s, .int .i64 k, .slice a NL c] 31)).drew) := Lib.hid HA0.out
    generalize (w.alloc (.cells #[.int .i64 s, .int .i64 k, .slice a NL c] 31)).drew = W1 at *
    have m2 := (HAW.out.2 2 _ rfl).1
    go_wp2
    go_loopw [3] (fun i wr => ∃ j : Nat, i = .int .i64 j ∧ j ≤ NL ∧ (∀ q (hq : q < ids.length), q < j → checkX ids[q] = 0) ∧ Below W1.heap.size W1 wr) (fun i _ => NL - (intOf i).toNat)
    case atStart => exact ⟨0, rfl, by omega, fun q hq h => by omega, Below.refl _ _⟩
    case round =>
      obtain ⟨j, rfl, hj, hall, hbw⟩ := hrel
      have HALL := Lib.hid hall; have HBW := Lib.hid hbw
      have m2 := ((HAW.out.keep hbw).2 2 _ rfl).1
      clear hall hbw
      by_cases hlt : j < NL
      · have hjl : j < ids.length := by rw [← HNL.out]; exact hlt
        obtain ⟨b2, o2, rfl, hb2, c0⟩ := slT_str (HSW.out.keep HBW.out) j hjl
        have T := rcheck_any ids[j] wr (HSZ.out _ (List.getElem_mem hjl))
        have HT := Lib.hid T
        have HX : Hid (checkX ids[j] ≠ 0 → ∃ x ∈ ids, checkX x ≠ 0) := Lib.hid (fun h => ⟨_, List.getElem_mem hjl, h⟩)
        have HN : Hid (checkX ids[j] = 0 → ∀ q (hq : q < ids.length), q < j + 1 → checkX ids[q] = 0) := Lib.hid (fun h q hq hqj => by
          by_cases e : q = j
          · subst e; exact h
          · exact HALL.out q hq (by omega))
        generalize checkX ids[j] = cx at *
        generalize ids[j] = x at *
        have hjN : (j : Int) < (NL : Int) := by omega
        clear T
        by_cases hc : cx = 0
        · subst hc
          go_wp2_with fail
          refine HT.out.mono ?_
          rintro e w3 ⟨rfl, hb⟩
          have HB3 := Lib.hid (below_cons HBW.out hb)
          clear hb
          go_wp2
          go_roundw
          case rel => exact ⟨j + 1, by go_num, by omega, HN.out (by first | trivial | rfl), HB3.out⟩
          case measure => simp [intOf]; omega
        · have hc2 : (cx != 0) = true := by simp [hc]
          have hc3 : (cx == 0) = false := by simp [hc]
          have HR3 := Lib.hid (HC2.out HQ.out (HX.out hc))
          go_wp2_with fail
          refine HT.out.mono ?_
          rintro e w3 ⟨rfl, hb⟩
          have HB3 := Lib.hid (HW.out.trans ((below_cons HBW.out hb).mono HW.out.size))
          clear hb
          go_wp2
          go_ret
          exact ⟨rint HR3.out.symm, HB3.out⟩
      · obtain rfl : j = NL := by omega
        have HNO : Hid (¬ ∃ x ∈ ids, checkX x ≠ 0) := Lib.hid (fun ⟨x, hx, h⟩ => by
          obtain ⟨q, hq, rfl⟩ := List.getElem_of_mem hx
          exact h (HALL.out q hq (by rw [HNL.out]; exact hq)))
        have HB3 := Lib.hid (HW.out.trans (HBW.out.mono HW.out.size))
        have hjj : ¬ (j : Int) < (j : Int) := by omega
        by_cases q6 : 4096 < j
        · have HR4 := Lib.hid (HC3.out HQ.out HNO.out (by rw [← HNL.out]; exact q6))
          have q6' : (4096 : Int) < (j : Int) := by omega
          go_wp2
          go_ret
          exact ⟨rint HR4.out.symm, HB3.out⟩
        · have HR4 := Lib.hid (HC4.out HQ.out HNO.out (by rw [← HNL.out]; exact q6))
          have q6' : ¬ (4096 : Int) < (j : Int) := by omega
          go_wp2
          go_ret
          exact ⟨rint HR4.out.symm, HB3.out⟩
  · have e5 : ((NL : Int) != (M : Int)) = true := by simp; omega
    have e5' : ((NL : Int) == (M : Int)) = false := by simp; omega
    have HR2 := Lib.hid (HC1.out (by rw [← HNL.out]; exact q5))
    refine wp_region_held_drew (S := fun w' => Bk w.heap.size [.int .i64 s, .int .i64 k, .slice a NL c] w') (by kernel_rfl) (by (first | exact hP0)) (fun hHeld => ?_)
    refine wpAnyH_take (i := 0) (oi := { dst := some 22, op := Go.Op.fieldAddr 31 (Go.Operand.tmp 1) 2, type := 0, pos := "ref.go:60", after := #[], guard := none }) (v := ?_) rfl (by kernel_rfl) (by kernel_rfl) (by kernel_rfl) (fun _ _ _ h => h) (Or.inl ⟨by rfl, ?_⟩) (by assumption) ?_
    (rotate_left; focus (intro wS hSw; have s0 := (hSw.2 0 _ rfl).1; have s1 := (hSw.2 1 _ rfl).1; have s2 := (hSw.2 2 _ rfl).1; clear hSw; go_simp; (try rw [if_neg (by omega)]); try with_reducible rfl))
    (try simp only [Act.put, List.setIfInBounds_toArray, List.set_cons_zero, List.set_cons_succ])
    refine wpAnyH_take (i := 1) (oi := { dst := some 23, op := Go.Op.load 23 (Go.Operand.tmp 22), type := 23, pos := "ref.go:60", after := #[{ on := 0, ground := Go.Ground.data }], guard := none }) (v := ?_) rfl (by kernel_rfl) (by kernel_rfl) (by kernel_rfl) (fun _ _ _ h => h) (Or.inl ⟨by rfl, ?_⟩) (by assumption) ?_
    (rotate_left; focus (intro wS hSw; have s0 := (hSw.2 0 _ rfl).1; have s1 := (hSw.2 1 _ rfl).1; have s2 := (hSw.2 2 _ rfl).1; clear hSw; go_simp; (try rw [if_neg (by omega)]); try with_reducible rfl))
    (try simp only [Act.put, List.setIfInBounds_toArray, List.set_cons_zero, List.set_cons_succ])
    refine wpAnyH_take (i := 2) (oi := { dst := some 24, op := Go.Op.call { callee := Go.Callee.builtin Go.Builtin.len, args := #[Go.Operand.tmp 23], argTypes := #[23] }, type := 3, pos := "ref.go:60", after := #[{ on := 1, ground := Go.Ground.data }], guard := none }) (v := ?_) rfl (by kernel_rfl) (by kernel_rfl) (by kernel_rfl) (fun _ _ _ h => h) (Or.inl ⟨by rfl, ?_⟩) (by assumption) ?_
    (rotate_left; focus (intro wS hSw; have s0 := (hSw.2 0 _ rfl).1; have s1 := (hSw.2 1 _ rfl).1; have s2 := (hSw.2 2 _ rfl).1; clear hSw; go_simp; (try rw [if_neg (by omega)]); try with_reducible rfl))
    (try simp only [Act.put, List.setIfInBounds_toArray, List.set_cons_zero, List.set_cons_succ])
    refine wpAnyH_take (i := 3) (oi := { dst := some 25, op := Go.Op.fieldAddr 31 (Go.Operand.tmp 1) 0, type := 0, pos := "ref.go:60", after := #[], guard := none }) (v := ?_) rfl (by kernel_rfl) (by kernel_rfl) (by kernel_rfl) (fun _ _ _ h => h) (Or.inl ⟨by rfl, ?_⟩) (by assumption) ?_
    (rotate_left; focus (intro wS hSw; have s0 := (hSw.2 0 _ rfl).1; have s1 := (hSw.2 1 _ rfl).1; have s2 := (hSw.2 2 _ rfl).1; clear hSw; go_simp; (try rw [if_neg (by omega)]); try with_reducible rfl))
    (try simp only [Act.put, List.setIfInBounds_toArray, List.set_cons_zero, List.set_cons_succ])
    refine wpAnyH_take (i := 4) (oi := { dst := some 26, op := Go.Op.load 3 (Go.Operand.tmp 25), type := 3, pos := "ref.go:60", after := #[{ on := 3, ground := Go.Ground.data }], guard := none }) (v := ?_) rfl (by kernel_rfl) (by kernel_rfl) (by kernel_rfl) (fun _ _ _ h => h) (Or.inl ⟨by rfl, ?_⟩) (by assumption) ?_
    (rotate_left; focus (intro wS hSw; have s0 := (hSw.2 0 _ rfl).1; have s1 := (hSw.2 1 _ rfl).1; have s2 := (hSw.2 2 _ rfl).1; clear hSw; go_simp; (try rw [if_neg (by omega)]); try with_reducible rfl))
    (try simp only [Act.put, List.setIfInBounds_toArray, List.set_cons_zero, List.set_cons_succ])
    refine wpAnyH_take (i := 5) (oi := { dst := some 27, op := Go.Op.fieldAddr 31 (Go.Operand.tmp 1) 1, type := 0, pos := "ref.go:60", after := #[], guard := none }) (v := ?_) rfl (by kernel_rfl) (by kernel_rfl) (by kernel_rfl) (fun _ _ _ h => h) (Or.inl ⟨by rfl, ?_⟩) (by assumption) ?_
    (rotate_left; focus (intro wS hSw; have s0 := (hSw.2 0 _ rfl).1; have s1 := (hSw.2 1 _ rfl).1; have s2 := (hSw.2 2 _ rfl).1; clear hSw; go_simp; (try rw [if_neg (by omega)]); try with_reducible rfl))
    (try simp only [Act.put, List.setIfInBounds_toArray, List.set_cons_zero, List.set_cons_succ])
    refine wpAnyH_take (i := 6) (oi := { dst := some 28, op := Go.Op.load 3 (Go.Operand.tmp 27), type := 3, pos := "ref.go:60", after := #[{ on := 5, ground := Go.Ground.data }], guard := none }) (v := ?_) rfl (by kernel_rfl) (by kernel_rfl) (by kernel_rfl) (fun _ _ _ h => h) (Or.inl ⟨by rfl, ?_⟩) (by assumption) ?_
    (rotate_left; focus (intro wS hSw; have s0 := (hSw.2 0 _ rfl).1; have s1 := (hSw.2 1 _ rfl).1; have s2 := (hSw.2 2 _ rfl).1; clear hSw; go_simp; (try rw [if_neg (by omega)]); try with_reducible rfl))
    (try simp only [Act.put, List.setIfInBounds_toArray, List.set_cons_zero, List.set_cons_succ])
    refine wpAnyH_ready (rs := [7]) (by kernel_rfl) (by simp) ?_
    refine AllReadyH.cons (o := { dst := some 29, op := Go.Op.call { callee := Go.Callee.value (Go.Operand.func 25), args := #[Go.Operand.tmp 26, Go.Operand.tmp 28], argTypes := #[3, 3] }, type := 3, pos := "ref.go:60", after := #[{ on := 4, ground := Go.Ground.data }, { on := 6, ground := Go.Ground.data }], guard := none }) rfl (fun K hK => ?_) AllReadyH.nil
    go_simp
    refine (TM.out _).mono ?_
    rintro e wz ⟨rfl, rfl⟩
    (try go_wp2_with fail)
    refine hK.out _ _ (by (first | exact hP0)) (fun hHeld => ?_)
    clear hK K
    (try simp only [Act.put, List.setIfInBounds_toArray, List.set_cons_zero, List.set_cons_succ])
    refine wpAnyH_take (i := 8) (oi := { dst := some 30, op := Go.Op.binOp Go.BinOp.neq 3 (Go.Operand.tmp 24) (Go.Operand.tmp 29) 3, type := 4, pos := "ref.go:60", after := #[{ on := 2, ground := Go.Ground.data }, { on := 7, ground := Go.Ground.data }], guard := none }) (v := ?_) rfl (by kernel_rfl) (by kernel_rfl) (by kernel_rfl) (fun _ _ _ h => h) (Or.inl ⟨by rfl, ?_⟩) (by assumption) ?_
    (rotate_left; focus (intro wS hSw; have s0 := (hSw.2 0 _ rfl).1; have s1 := (hSw.2 1 _ rfl).1; have s2 := (hSw.2 2 _ rfl).1; clear hSw; go_simp; (try rw [if_neg (by omega)]); try with_reducible rfl))
    (try simp only [Act.put, List.setIfInBounds_toArray, List.set_cons_zero, List.set_cons_succ])
    refine wpAnyH_done (by kernel_rfl) ?_ _
    clear hP0
    go_wp2
    go_ret
    exact ⟨rint HR2.out.symm, HB0.out.drew⟩
end Go.Proofs.Ytanehgnpominiaa
set_option linter.unusedVariables false
set_option linter.unusedSimpArgs false
namespace Go.Proofs.Ytanehgnpominiaa
open Go.RowKit
def putB (s k : Nat) (ids : List ByteArray) : ByteArray := txt (nb s) ++ txt (nb k) ++ (txt (nb ids.length) ++ catB ids)
/-- The bytes of a manifest; the error's number. -/
def putM (S C : Int) (ids : List ByteArray) : ByteArray × Int := if checkM S C ids = 0 then (putB S.toNat C.toNat ids, 0) else (⟨#[]⟩, checkM S C ids)
theorem checkX_zero {s : ByteArray} (h : checkX s = 0) : (readX s).2 = 0 ∧ s.size = 64 := by
  unfold checkX at h
  split at h
  · assumption
  · cases h
theorem check_zero {S C : Int} {ids : List ByteArray} (h : checkM S C ids = 0) : ∃ s k : Nat, S = s ∧ C = k ∧ 1 ≤ k ∧ k ≤ 4096 ∧ s ≤ 32768 ∧ ids.length = manyC s k ∧ ids.length ≤ 4096 ∧ ∀ x ∈ ids, checkX x = 0 := by
  unfold checkM at h
  split at h
  · cases h
  · next h1 =>
    split at h
    · cases h
    · next h2 =>
      split at h
      · cases h
      · next h3 =>
        split at h
        · cases h
        · next h4 =>
          refine ⟨S.toNat, C.toNat, by omega, by omega, by omega, by omega, by omega, by simpa using h2, by omega, fun x hx => ?_⟩
          apply Classical.byContradiction
          intro hc
          exact h3 ⟨x, hx, hc⟩
set_option maxHeartbeats 8000000 in
theorem cput_any (S C : Int) (ids : List ByteArray) (a : Option Addr) (c : Nat) (w : World) (h : Sl strC 1 w a ids) (hsz : ∀ x ∈ ids, x.size ≤ 1099511627) :
    Calls Try.prog 15 #[mf S C a ids.length c] w fun e w' => e = .returned (.tuple #[.string (putM S C ids).1, .int .i64 (putM S C ids).2]) ∧ Below w.heap.size w w' := by
  have T := fun W (hs : Sl strC 1 W a ids) => ck_any S C ids a c W hs hsz
  unfold mf at *
  have hA := Bk.new w 31 #[.int .i64 S, .int .i64 C, .slice a ids.length c]
  have hB0 := below_new w (.cells #[.int .i64 S, .int .i64 C, .slice a ids.length c] 31)
  have HB0 := Lib.hid hB0
  have HS0 := Lib.hid (h.keep hB0)
  have HA0 := Lib.hid hA
  have m0 := (hA.2 0 _ rfl).1; have m1 := (hA.2 1 _ rfl).1; have m2 := (hA.2 2 _ rfl).1
  have HT := Lib.hid T
  have HSZ := Lib.hid hsz
  clear hA hB0 h T hsz
  by_cases hc : checkM S C ids = 0
  · obtain ⟨s, k, rfl, rfl, hk1, hk2, hs, hlm, hll, hall⟩ := check_zero hc
    have HP : Hid (putM s k ids = (putB s k ids, 0)) := Lib.hid (by unfold putM; rw [if_pos hc]; rfl)
    have hid : ∀ x ∈ ids, x.size = 64 := fun x hx => (checkX_zero (hall x hx)).2
    have HN1 : Hid (∀ W, Calls Try.prog 28 #[.int .i64 s] W fun e w' => e = .returned (.tuple #[.string (txt (nb s)), .int .i64 0]) ∧ Below W.heap.size W w') := Lib.hid (fun W => by
      have := num_any s W
      rw [num_ok (m := s) (by omega) rfl] at this; exact this)
    have HN2 : Hid (∀ W, Calls Try.prog 28 #[.int .i64 k] W fun e w' => e = .returned (.tuple #[.string (txt (nb k)), .int .i64 0]) ∧ Below W.heap.size W w') := Lib.hid (fun W => by
      have := num_any k W
      rw [num_ok (m := k) (by omega) rfl] at this; exact this)
    have HLS : Hid (∀ W, Sl strC 1 W a ids → Calls Try.prog 29 #[.slice a ids.length c] W fun e w' => e = .returned (.tuple #[.string (txt (nb ids.length) ++ catB ids), .int .i64 0]) ∧ Below W.heap.size W w') := Lib.hid (fun W hs => by
      have := list_put ids a c W hs
      rw [listR_ok (by
        rintro (h | ⟨x, hx, h⟩)
        · omega
        · have := hid x hx; omega)] at this; exact this)
    have z1 : (txt (nb s)).size ≤ 8 := by rw [txt_size]; exact nb_len8 (by omega)
    have z2 : (txt (nb k)).size ≤ 8 := by rw [txt_size]; exact nb_len8 (by omega)
    have z3 : (txt (nb ids.length) ++ catB ids).size ≤ 65544 * ids.length + 8 := by
      have h1 : (txt (nb ids.length)).size ≤ 8 := by rw [txt_size]; exact nb_len8 (by omega)
      have h2 := catB_size ids (fun x hx => by have := hid x hx; omega)
      rw [ByteArray.size_append]; omega
    have HE : Hid (putB s k ids = txt (nb s) ++ txt (nb k) ++ (txt (nb ids.length) ++ catB ids)) := Lib.hid rfl
    rw [hc] at HT
    generalize putB s k ids = PB at *
    generalize txt (nb s) = X1 at *
    generalize txt (nb k) = X2 at *
    generalize txt (nb ids.length) ++ catB ids = X3 at *
    have e1 : X1.size + X2.size ≤ 9223372036854775807 := by omega
    have e2 : (X1 ++ X2).size + X3.size ≤ 9223372036854775807 := by rw [ByteArray.size_append]; omega
    generalize hNL : ids.length = NL at *
    clear hc hlm hall hid
    go_enter Try.func15, Try.ntmps15
    go_wp2_with fail
    refine (HT.out _ HS0.out).mono ?_
    rintro e w1 ⟨rfl, hb⟩
    have HB1 := Lib.hid (below_cons HB0.out hb); have HS1 := Lib.hid (HS0.out.keep hb)
    have HA1 := Lib.hid (HA0.out.keep hb)
    have m0 := (HA1.out.2 0 _ rfl).1; have m1 := (HA1.out.2 1 _ rfl).1; have m2 := (HA1.out.2 2 _ rfl).1
    clear hb
    go_wp2_with fail
    refine (HN1.out _).mono ?_
    rintro e w2 ⟨rfl, hb⟩
    have HB2 := Lib.hid (below_cons HB1.out hb); have HS2 := Lib.hid (HS1.out.keep hb)
    have HA2 := Lib.hid (HA1.out.keep hb)
    have m0 := (HA2.out.2 0 _ rfl).1; have m1 := (HA2.out.2 1 _ rfl).1; have m2 := (HA2.out.2 2 _ rfl).1
    clear hb
    go_wp2_with fail
    refine (HN2.out _).mono ?_
    rintro e w3 ⟨rfl, hb⟩
    have HB3 := Lib.hid (below_cons HB2.out hb); have HS3 := Lib.hid (HS2.out.keep hb)
    have HA3 := Lib.hid (HA2.out.keep hb)
    have m0 := (HA3.out.2 0 _ rfl).1; have m1 := (HA3.out.2 1 _ rfl).1; have m2 := (HA3.out.2 2 _ rfl).1
    clear hb
    go_wp2_with fail
    refine (HLS.out _ HS3.out).mono ?_
    rintro e w4 ⟨rfl, hb⟩
    have HB4 := Lib.hid (below_cons HB3.out hb)
    clear hb m0 m1 m2
    go_wp2
    go_ret2
    rw [HP.out, HE.out]
    exact ⟨rfl, HB4.out⟩
  · have HP : Hid (putM S C ids = (⟨#[]⟩, checkM S C ids)) := Lib.hid (by unfold putM; rw [if_neg hc])
    generalize checkM S C ids = R at *
    have hc2 : (R == 0) = false := by simp [hc]
    have hc3 : (R != 0) = true := by simp [hc]
    go_enter Try.func15, Try.ntmps15
    go_wp2_with fail
    refine (HT.out _ HS0.out).mono ?_
    rintro e w1 ⟨rfl, hb⟩
    have HB1 := Lib.hid (below_cons HB0.out hb)
    clear hb m0 m1 m2
    go_wp2
    go_ret2
    rw [HP.out]
    exact ⟨rfl, HB1.out⟩
set_option maxHeartbeats 8000000 in
theorem rcput_any (S C : Int) (ids : List ByteArray) (a : Option Addr) (c : Nat) (w : World) (h : Sl strC 1 w a ids) (hsz : ∀ x ∈ ids, x.size ≤ 1099511627) :
    Calls Try.prog 16 #[mf S C a ids.length c] w fun e w' => e = .returned (.tuple #[.string (putM S C ids).1, .int .i64 (putM S C ids).2]) ∧ Below w.heap.size w w' := by
  have T := fun W (hs : Sl strC 1 W a ids) => rck_any S C ids a c W hs hsz
  unfold mf at *
  have hA := Bk.new w 31 #[.int .i64 S, .int .i64 C, .slice a ids.length c]
  have hB0 := below_new w (.cells #[.int .i64 S, .int .i64 C, .slice a ids.length c] 31)
  have HB0 := Lib.hid hB0
  have HS0 := Lib.hid (h.keep hB0)
  have HA0 := Lib.hid hA
  have m0 := (hA.2 0 _ rfl).1; have m1 := (hA.2 1 _ rfl).1; have m2 := (hA.2 2 _ rfl).1
  have HT := Lib.hid T
  have HSZ := Lib.hid hsz
  clear hA hB0 h T hsz
  by_cases hc : checkM S C ids = 0
  · obtain ⟨s, k, rfl, rfl, hk1, hk2, hs, hlm, hll, hall⟩ := check_zero hc
    have HP : Hid (putM s k ids = (putB s k ids, 0)) := Lib.hid (by unfold putM; rw [if_pos hc]; rfl)
    have hid : ∀ x ∈ ids, x.size = 64 := fun x hx => (checkX_zero (hall x hx)).2
    have HN1 : Hid (∀ W, Calls Try.prog 30 #[.int .i64 s] W fun e w' => e = .returned (.tuple #[.string (txt (nb s)), .int .i64 0]) ∧ Below W.heap.size W w') := Lib.hid (fun W => by
      have := rnum_any s W
      rw [num_ok (m := s) (by omega) rfl] at this; exact this)
    have HN2 : Hid (∀ W, Calls Try.prog 30 #[.int .i64 k] W fun e w' => e = .returned (.tuple #[.string (txt (nb k)), .int .i64 0]) ∧ Below W.heap.size W w') := Lib.hid (fun W => by
      have := rnum_any k W
      rw [num_ok (m := k) (by omega) rfl] at this; exact this)
    have HLS : Hid (∀ W, Sl strC 1 W a ids → Calls Try.prog 31 #[.slice a ids.length c] W fun e w' => e = .returned (.tuple #[.string (txt (nb ids.length) ++ catB ids), .int .i64 0]) ∧ Below W.heap.size W w') := Lib.hid (fun W hs => by
      have := rlist_put ids a c W hs
      rw [listR_ok (by
        rintro (h | ⟨x, hx, h⟩)
        · omega
        · have := hid x hx; omega)] at this; exact this)
    have z1 : (txt (nb s)).size ≤ 8 := by rw [txt_size]; exact nb_len8 (by omega)
    have z2 : (txt (nb k)).size ≤ 8 := by rw [txt_size]; exact nb_len8 (by omega)
    have z3 : (txt (nb ids.length) ++ catB ids).size ≤ 65544 * ids.length + 8 := by
      have h1 : (txt (nb ids.length)).size ≤ 8 := by rw [txt_size]; exact nb_len8 (by omega)
      have h2 := catB_size ids (fun x hx => by have := hid x hx; omega)
      rw [ByteArray.size_append]; omega
    have HE : Hid (putB s k ids = txt (nb s) ++ txt (nb k) ++ (txt (nb ids.length) ++ catB ids)) := Lib.hid rfl
    rw [hc] at HT
    generalize putB s k ids = PB at *
    generalize txt (nb s) = X1 at *
    generalize txt (nb k) = X2 at *
    generalize txt (nb ids.length) ++ catB ids = X3 at *
    have e1 : X1.size + X2.size ≤ 9223372036854775807 := by omega
    have e2 : (X1 ++ X2).size + X3.size ≤ 9223372036854775807 := by rw [ByteArray.size_append]; omega
    generalize hNL : ids.length = NL at *
    clear hc hlm hall hid
    go_enter Try.func16, Try.ntmps16
    go_wp2_with fail
    refine (HT.out _ HS0.out).mono ?_
    rintro e w1 ⟨rfl, hb⟩
    have HB1 := Lib.hid (below_cons HB0.out hb); have HS1 := Lib.hid (HS0.out.keep hb)
    have HA1 := Lib.hid (HA0.out.keep hb)
    have m0 := (HA1.out.2 0 _ rfl).1; have m1 := (HA1.out.2 1 _ rfl).1; have m2 := (HA1.out.2 2 _ rfl).1
    clear hb
    go_wp2_with fail
    refine (HN1.out _).mono ?_
    rintro e w2 ⟨rfl, hb⟩
    have HB2 := Lib.hid (below_cons HB1.out hb); have HS2 := Lib.hid (HS1.out.keep hb)
    have HA2 := Lib.hid (HA1.out.keep hb)
    have m0 := (HA2.out.2 0 _ rfl).1; have m1 := (HA2.out.2 1 _ rfl).1; have m2 := (HA2.out.2 2 _ rfl).1
    clear hb
    go_wp2_with fail
    refine (HN2.out _).mono ?_
    rintro e w3 ⟨rfl, hb⟩
    have HB3 := Lib.hid (below_cons HB2.out hb); have HS3 := Lib.hid (HS2.out.keep hb)
    have HA3 := Lib.hid (HA2.out.keep hb)
    have m0 := (HA3.out.2 0 _ rfl).1; have m1 := (HA3.out.2 1 _ rfl).1; have m2 := (HA3.out.2 2 _ rfl).1
    clear hb
    go_wp2_with fail
    refine (HLS.out _ HS3.out).mono ?_
    rintro e w4 ⟨rfl, hb⟩
    have HB4 := Lib.hid (below_cons HB3.out hb)
    clear hb m0 m1 m2
    go_wp2
    go_ret2
    rw [HP.out, HE.out]
    exact ⟨rfl, HB4.out⟩
  · have HP : Hid (putM S C ids = (⟨#[]⟩, checkM S C ids)) := Lib.hid (by unfold putM; rw [if_neg hc])
    generalize checkM S C ids = R at *
    have hc2 : (R == 0) = false := by simp [hc]
    have hc3 : (R != 0) = true := by simp [hc]
    go_enter Try.func16, Try.ntmps16
    go_wp2_with fail
    refine (HT.out _ HS0.out).mono ?_
    rintro e w1 ⟨rfl, hb⟩
    have HB1 := Lib.hid (below_cons HB0.out hb)
    clear hb m0 m1 m2
    go_wp2
    go_ret2
    rw [HP.out]
    exact ⟨rfl, HB1.out⟩
end Go.Proofs.Ytanehgnpominiaa

