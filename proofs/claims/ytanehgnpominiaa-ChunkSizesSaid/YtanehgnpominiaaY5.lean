/-
  The law of ChunkSizes for all arguments that the row lets in. Conditions: none.
-/
import Derived.Test.YtanehgnpominiaaY2
set_option linter.unusedVariables false
set_option linter.unusedSimpArgs false
set_option maxRecDepth 100000
namespace Go.Proofs.Ytanehgnpominiaa
open Go.RowKit
theorem slT_at {w : World} {b o : Nat} {xs : List ByteArray} (h : Sl strC 1 w (some ⟨b, o, none⟩) xs) (i : Nat) (hi : i < xs.length) : b < w.heap.size ∧ w.cell? ⟨b, o + i, none⟩ = some (.string xs[i]) := by
  obtain ⟨b', o', e, hb, hc⟩ := slT_str h i hi
  simp only [Option.some.injEq, Addr.mk.injEq, and_true] at e
  obtain ⟨rfl, rfl⟩ := e
  exact ⟨hb, hc⟩
set_option maxHeartbeats 4000000 in
theorem sizes_long (s : ByteArray) (i : Int) (w : World) (h1 : 600 < s.size) : Calls Try.prog 6 #[.string s, .int .u8 i] w fun e w' => e = .returned (.bool true) ∧ Below w.heap.size w w' := by
  have g1 : (600 : Int) < (s.size : Int) := by omega
  go_enter Try.func6, Try.ntmps6
  go_wp2_with fail
  refine (awake_any _).mono ?_
  rintro e w2 ⟨rfl, hb⟩
  go_wp2
  go_ret
  exact ⟨rfl, hb⟩
theorem manV_ok {s : ByteArray} {k : Nat} (h1 : 1 ≤ k) (h2 : k ≤ 4096) (h3 : s.size ≤ 600) : cutV s k = (cuts k s, 0) ∧ manV s k = ((s.size : Int), (k : Int), (cuts k s).map idV, 0) := by
  have hm := manyC_le s.size k h1
  have hc : cutV s k = (cuts k s, 0) := by
    unfold cutV
    rw [if_neg (by omega), Int.toNat_natCast, if_neg (by omega)]
  refine ⟨hc, ?_⟩
  unfold manV
  rw [hc]; rfl
set_option maxHeartbeats 8000000 in
theorem sizes_main (s : ByteArray) (i : Nat) (w : World) (h1 : s.size ≤ 600) (hi : i < 256) : Calls Try.prog 6 #[.string s, .int .u8 i] w fun e w' => e = .returned (.bool true) ∧ Below w.heap.size w w' := by
  have g1 : ¬ (600 : Int) < (s.size : Int) := by omega
  obtain ⟨r, hr⟩ : ∃ r, r = i % 64 := ⟨_, rfl⟩
  have hrl : r < 64 := by omega
  have hrem : ((i : Int).tmod 64) = (r : Int) := by rw [hr]; exact (Int.ofNat_tmod i 64).symm
  obtain ⟨k, hk⟩ : ∃ k, k = r + 1 := ⟨_, rfl⟩
  have hk1 : 1 ≤ k ∧ k ≤ 64 := by omega
  obtain ⟨hcv, hmv⟩ := manV_ok (s := s) hk1.1 (by omega) h1
  have T1 := fun W => ccut_any s (k : Int) W
  have T2 := fun W => man_any s (k : Int) W (by omega)
  unfold cutE at T1
  unfold manE mf at T2
  rw [hcv] at T1
  rw [hmv] at T2
  have hll : (cuts k s).length ≤ 600 := by rw [cuts_many hk1.1 s.size s (Nat.le_refl _)]; have := manyC_le s.size k hk1.1; omega
  have HSZ := Lib.hid (fun j hj => cuts_sizes hk1.1 j s hj)
  generalize cuts k s = L at *
  dsimp only at T1 T2
  simp only [List.length_map] at T2
  have HT1 := Lib.hid T1; have HT2 := Lib.hid T2
  clear T1 T2 hcv hmv hr
  have hk2 : (k : Int) = (r : Int) + 1 := by omega
  rw [hk2] at HT1 HT2
  obtain ⟨NL, hNL⟩ : ∃ n, n = L.length := ⟨_, rfl⟩
  have HNL := Lib.hid hNL
  rw [← hNL] at hll HT1 HT2
  clear hNL
  go_enter Try.func6, Try.ntmps6
  go_wp2_with fail
  refine (HT1.out _).mono ?_
  rintro e w1 ⟨a1, c1, rfl, hc1, hs, hb⟩
  have HS1 := Lib.hid hs; have HB := Lib.hid hb
  clear hs hb
  go_wp2_with fail
  refine (HT2.out _).mono ?_
  rintro e w2 ⟨a2, c2, rfl, hs, hb⟩
  have hbn := below_new w2 (.cells #[.int .i64 s.size, .int .i64 ((r : Int) + 1), .slice a2 NL c2] 31)
  have HM := Lib.hid (Bk.new w2 31 #[.int .i64 s.size, .int .i64 ((r : Int) + 1), .slice a2 NL c2])
  have HS1 := Lib.hid ((HS1.out.keep hb).keep hbn); have HS2 := Lib.hid (hs.keep hbn); have HB := Lib.hid (below_cons (below_cons HB.out hb) hbn)
  clear hs hb hbn HT1 HT2
  have hss : ((s.size : Int) == (s.size : Int)) = true := by simp
  have hnn : ((NL : Int) == (NL : Int)) = true := by simp
  have hrr : ((r : Int) + 1 == (r : Int) + 1) = true := by simp
  go_wp2
  generalize (w2.alloc (.cells #[.int .i64 s.size, .int .i64 ((r : Int) + 1), .slice a2 NL c2] 31)) = W2 at *
  generalize w2.heap.size = p8 at *
  go_loopw [10] (fun q wr => ∃ j : Nat, q = .int .i64 j ∧ j ≤ NL ∧ Below W2.heap.size W2 wr) (fun q _ => NL - (intOf q).toNat)
  case atStart => exact ⟨0, rfl, by omega, Below.refl _ _⟩
  case round =>
    obtain ⟨j, rfl, hj, hbw⟩ := hrel
    have HBW := Lib.hid hbw
    clear hbw
    by_cases hlt : j < NL
    · have hjl : j < L.length := by rw [← HNL.out]; exact hlt
      obtain ⟨b2, o2, rfl, _, _⟩ := slT_str HS1.out j hjl
      obtain ⟨b3, o3, rfl, _, _⟩ := slT_str HS2.out j (by simpa using hjl)
      have HCX : Hid (∀ W, Below W2.heap.size W2 W → ∀ q (hq : q < L.length), W.cell? ⟨b2, o2 + q, none⟩ = some (.string L[q]) ∧ W.cell? ⟨b3, o3 + q, none⟩ = some (.string (idV L[q])) ∧ W.cell? ⟨p8, 2, none⟩ = some (.slice (some ⟨b3, o3, none⟩) NL c2)) := Lib.hid (fun W h q hq => by
        have h2 := slT_at HS1.out q hq
        have h3 := slT_at HS2.out q (by simpa using hq)
        rw [List.getElem_map] at h3
        exact ⟨(h.cell (p := ⟨b2, o2 + q, none⟩) h2.1).trans h2.2, (h.cell (p := ⟨b3, o3 + q, none⟩) h3.1).trans h3.2, ((HM.out.keep h).2 2 _ rfl).1⟩)
      have c0 := (HCX.out wr HBW.out j hjl).1
      have hsz := HSZ.out j hjl
      have HCJ := Lib.hid (fun W h => HCX.out W h j hjl)
      have HCQ := Lib.hid (fun q hq W h => HCX.out W h q hq)
      rw [← HNL.out] at hsz
      have HIY : Hid (∀ q (hq : q < L.length), L[q] = L[j] → idV L[q] = idV L[j]) := Lib.hid (fun q hq e => by rw [e])
      generalize L[j] = y at *
      generalize idV y = iy at *
      have hne := nonempty_of_pos (b := y) (by omega)
      have hyk : ¬ ((r : Int) + 1) < (y.size : Int) := by omega
      have hw : IntKind.i64.wrap ((NL : Int) - 1) = (NL : Int) - 1 := by rw [IntKind.wrap_i64]; omega
      have hjN : (j : Int) < (NL : Int) := by omega
      have d2 : decide ((r : Int) + 1 < (y.size : Int)) = false := decide_eq_false hyk
      by_cases hx : y.size < k
      · have hj2 : ¬ j + 1 < NL := by intro h; have := hsz.2.2 h; omega
        have d3 : decide ((j : Int) < (NL : Int) - 1) = false := decide_eq_false (by omega)
        have d3' : ¬ (j : Int) < (NL : Int) - 1 := by omega
        have d1 : decide ((y.size : Int) < (r : Int) + 1) = true := decide_eq_true (by omega)
        have d1' : (y.size : Int) < (r : Int) + 1 := by omega
        clear hsz
        go_wp2
        go_loopw [11] (fun q wr => ∃ m : Nat, q = .int .i64 m ∧ m ≤ j ∧ Below W2.heap.size W2 wr) (fun q _ => j - (intOf q).toNat)
        case atStart => exact ⟨0, rfl, by omega, HBW.out⟩
        case round =>
          clear c0
          obtain ⟨m, rfl, hm, hbw⟩ := hrel
          have HBI := Lib.hid hbw
          clear hbw
          by_cases hmj : m < j
          · have hml : m < L.length := by omega
            have HCM := Lib.hid (HCQ.out m hml)
            have HIX := Lib.hid (HIY.out m hml)
            generalize L[m] = x at *
            generalize idV x = ix at *
            have hP0 : Below W2.heap.size W2 wr.drew := HBI.out.drew
            have hmN : (m : Int) < (NL : Int) := by omega
            have hmJ : (m : Int) < (j : Int) := by omega
            go_wp2_with fail
            by_cases e : x = y
            · have e1 := str_eq e
              have e3 := str_eq (HIX.out e)
              clear e
              refine wp_region_held_drew (S := fun w' => Below W2.heap.size W2 w') (by kernel_rfl) (by (first | exact hP0)) (fun hHeld => ?_)
              refine wpAnyH_take (i := 0) (oi := { dst := some 92, op := Go.Op.move (Go.Operand.tmp 6), type := 23, pos := "law.go:102", after := #[], guard := none }) (v := ?_) rfl (by kernel_rfl) (by kernel_rfl) (by kernel_rfl) (fun _ _ _ h => h) (Or.inl ⟨by rfl, ?_⟩) (by assumption) ?_
              (rotate_left; focus (intro wS hSw; have s0 := (HCJ.out wS hSw).1; have s1 := (HCJ.out wS hSw).2.1; have s2 := (HCJ.out wS hSw).2.2; have s3 := (HCM.out wS hSw).1; have s4 := (HCM.out wS hSw).2.1; clear hSw; go_simp; (try rw [if_neg (by omega)]); try with_reducible rfl))
              (try simp only [Act.put, List.setIfInBounds_toArray, List.set_cons_zero, List.set_cons_succ])
              refine wpAnyH_take (i := 1) (oi := { dst := some 93, op := Go.Op.move (Go.Operand.tmp 11), type := 3, pos := "law.go:102", after := #[], guard := none }) (v := ?_) rfl (by kernel_rfl) (by kernel_rfl) (by kernel_rfl) (fun _ _ _ h => h) (Or.inl ⟨by rfl, ?_⟩) (by assumption) ?_
              (rotate_left; focus (intro wS hSw; have s0 := (HCJ.out wS hSw).1; have s1 := (HCJ.out wS hSw).2.1; have s2 := (HCJ.out wS hSw).2.2; have s3 := (HCM.out wS hSw).1; have s4 := (HCM.out wS hSw).2.1; clear hSw; go_simp; (try rw [if_neg (by omega)]); try with_reducible rfl))
              (try simp only [Act.put, List.setIfInBounds_toArray, List.set_cons_zero, List.set_cons_succ])
              refine wpAnyH_take (i := 2) (oi := { dst := some 94, op := Go.Op.indexAddr 23 (Go.Operand.tmp 92) (Go.Operand.tmp 93), type := 0, pos := "law.go:102", after := #[{ on := 0, ground := Go.Ground.data }, { on := 1, ground := Go.Ground.data }], guard := none }) (v := ?_) rfl (by kernel_rfl) (by kernel_rfl) (by kernel_rfl) (fun _ _ _ h => h) (Or.inl ⟨by rfl, ?_⟩) (by assumption) ?_
              (rotate_left; focus (intro wS hSw; have s0 := (HCJ.out wS hSw).1; have s1 := (HCJ.out wS hSw).2.1; have s2 := (HCJ.out wS hSw).2.2; have s3 := (HCM.out wS hSw).1; have s4 := (HCM.out wS hSw).2.1; clear hSw; go_simp; (try rw [if_neg (by omega)]); try with_reducible rfl))
              (try simp only [Act.put, List.setIfInBounds_toArray, List.set_cons_zero, List.set_cons_succ])
              refine wpAnyH_take (i := 3) (oi := { dst := some 95, op := Go.Op.load 9 (Go.Operand.tmp 94), type := 9, pos := "law.go:102", after := #[{ on := 2, ground := Go.Ground.data }], guard := none }) (v := ?_) rfl (by kernel_rfl) (by kernel_rfl) (by kernel_rfl) (fun _ _ _ h => h) (Or.inl ⟨by rfl, ?_⟩) (by assumption) ?_
              (rotate_left; focus (intro wS hSw; have s0 := (HCJ.out wS hSw).1; have s1 := (HCJ.out wS hSw).2.1; have s2 := (HCJ.out wS hSw).2.2; have s3 := (HCM.out wS hSw).1; have s4 := (HCM.out wS hSw).2.1; clear hSw; go_simp; (try rw [if_neg (by omega)]); try with_reducible rfl))
              (try simp only [Act.put, List.setIfInBounds_toArray, List.set_cons_zero, List.set_cons_succ])
              refine wpAnyH_take (i := 4) (oi := { dst := some 96, op := Go.Op.move (Go.Operand.tmp 6), type := 23, pos := "law.go:102", after := #[], guard := none }) (v := ?_) rfl (by kernel_rfl) (by kernel_rfl) (by kernel_rfl) (fun _ _ _ h => h) (Or.inl ⟨by rfl, ?_⟩) (by assumption) ?_
              (rotate_left; focus (intro wS hSw; have s0 := (HCJ.out wS hSw).1; have s1 := (HCJ.out wS hSw).2.1; have s2 := (HCJ.out wS hSw).2.2; have s3 := (HCM.out wS hSw).1; have s4 := (HCM.out wS hSw).2.1; clear hSw; go_simp; (try rw [if_neg (by omega)]); try with_reducible rfl))
              (try simp only [Act.put, List.setIfInBounds_toArray, List.set_cons_zero, List.set_cons_succ])
              refine wpAnyH_take (i := 5) (oi := { dst := some 97, op := Go.Op.move (Go.Operand.tmp 10), type := 3, pos := "law.go:102", after := #[], guard := none }) (v := ?_) rfl (by kernel_rfl) (by kernel_rfl) (by kernel_rfl) (fun _ _ _ h => h) (Or.inl ⟨by rfl, ?_⟩) (by assumption) ?_
              (rotate_left; focus (intro wS hSw; have s0 := (HCJ.out wS hSw).1; have s1 := (HCJ.out wS hSw).2.1; have s2 := (HCJ.out wS hSw).2.2; have s3 := (HCM.out wS hSw).1; have s4 := (HCM.out wS hSw).2.1; clear hSw; go_simp; (try rw [if_neg (by omega)]); try with_reducible rfl))
              (try simp only [Act.put, List.setIfInBounds_toArray, List.set_cons_zero, List.set_cons_succ])
              refine wpAnyH_take (i := 6) (oi := { dst := some 98, op := Go.Op.indexAddr 23 (Go.Operand.tmp 96) (Go.Operand.tmp 97), type := 0, pos := "law.go:102", after := #[{ on := 4, ground := Go.Ground.data }, { on := 5, ground := Go.Ground.data }], guard := none }) (v := ?_) rfl (by kernel_rfl) (by kernel_rfl) (by kernel_rfl) (fun _ _ _ h => h) (Or.inl ⟨by rfl, ?_⟩) (by assumption) ?_
              (rotate_left; focus (intro wS hSw; have s0 := (HCJ.out wS hSw).1; have s1 := (HCJ.out wS hSw).2.1; have s2 := (HCJ.out wS hSw).2.2; have s3 := (HCM.out wS hSw).1; have s4 := (HCM.out wS hSw).2.1; clear hSw; go_simp; (try rw [if_neg (by omega)]); try with_reducible rfl))
              (try simp only [Act.put, List.setIfInBounds_toArray, List.set_cons_zero, List.set_cons_succ])
              refine wpAnyH_take (i := 7) (oi := { dst := some 99, op := Go.Op.load 9 (Go.Operand.tmp 98), type := 9, pos := "law.go:102", after := #[{ on := 6, ground := Go.Ground.data }], guard := none }) (v := ?_) rfl (by kernel_rfl) (by kernel_rfl) (by kernel_rfl) (fun _ _ _ h => h) (Or.inl ⟨by rfl, ?_⟩) (by assumption) ?_
              (rotate_left; focus (intro wS hSw; have s0 := (HCJ.out wS hSw).1; have s1 := (HCJ.out wS hSw).2.1; have s2 := (HCJ.out wS hSw).2.2; have s3 := (HCM.out wS hSw).1; have s4 := (HCM.out wS hSw).2.1; clear hSw; go_simp; (try rw [if_neg (by omega)]); try with_reducible rfl))
              (try simp only [Act.put, List.setIfInBounds_toArray, List.set_cons_zero, List.set_cons_succ])
              refine wpAnyH_take (i := 8) (oi := { dst := some 100, op := Go.Op.binOp Go.BinOp.eql 9 (Go.Operand.tmp 95) (Go.Operand.tmp 99) 9, type := 4, pos := "law.go:102", after := #[{ on := 3, ground := Go.Ground.data }, { on := 7, ground := Go.Ground.data }], guard := none }) (v := ?_) rfl (by kernel_rfl) (by kernel_rfl) (by kernel_rfl) (fun _ _ _ h => h) (Or.inl ⟨by rfl, ?_⟩) (by assumption) ?_
              (rotate_left; focus (intro wS hSw; have s0 := (HCJ.out wS hSw).1; have s1 := (HCJ.out wS hSw).2.1; have s2 := (HCJ.out wS hSw).2.2; have s3 := (HCM.out wS hSw).1; have s4 := (HCM.out wS hSw).2.1; clear hSw; go_simp; (try rw [if_neg (by omega)]); try with_reducible rfl))
              (try simp only [Act.put, List.setIfInBounds_toArray, List.set_cons_zero, List.set_cons_succ])
              refine wpAnyH_take (i := 9) (oi := { dst := some 101, op := Go.Op.move (Go.Operand.tmp 100), type := 4, pos := "law.go:102", after := #[{ on := 8, ground := Go.Ground.data }], guard := none }) (v := ?_) rfl (by kernel_rfl) (by kernel_rfl) (by kernel_rfl) (fun _ _ _ h => h) (Or.inl ⟨by rfl, ?_⟩) (by assumption) ?_
              (rotate_left; focus (intro wS hSw; have s0 := (HCJ.out wS hSw).1; have s1 := (HCJ.out wS hSw).2.1; have s2 := (HCJ.out wS hSw).2.2; have s3 := (HCM.out wS hSw).1; have s4 := (HCM.out wS hSw).2.1; clear hSw; go_simp; (try rw [if_neg (by omega)]); try with_reducible rfl))
              (try simp only [Act.put, List.setIfInBounds_toArray, List.set_cons_zero, List.set_cons_succ])
              refine wpAnyH_take (i := 10) (oi := { dst := some 102, op := Go.Op.fieldAddr 31 (Go.Operand.tmp 8) 2, type := 0, pos := "law.go:102", after := #[{ on := 9, ground := Go.Ground.guard }], guard := some (9, true) }) (v := ?_) rfl (by kernel_rfl) (by kernel_rfl) (by kernel_rfl) (fun _ _ _ h => h) (Or.inl ⟨by rfl, ?_⟩) (by assumption) ?_
              (rotate_left; focus (intro wS hSw; have s0 := (HCJ.out wS hSw).1; have s1 := (HCJ.out wS hSw).2.1; have s2 := (HCJ.out wS hSw).2.2; have s3 := (HCM.out wS hSw).1; have s4 := (HCM.out wS hSw).2.1; clear hSw; go_simp; (try rw [if_neg (by omega)]); try with_reducible rfl))
              (try simp only [Act.put, List.setIfInBounds_toArray, List.set_cons_zero, List.set_cons_succ])
              refine wpAnyH_take (i := 11) (oi := { dst := some 103, op := Go.Op.load 23 (Go.Operand.tmp 102), type := 23, pos := "law.go:102", after := #[{ on := 10, ground := Go.Ground.data }, { on := 9, ground := Go.Ground.guard }], guard := some (9, true) }) (v := ?_) rfl (by kernel_rfl) (by kernel_rfl) (by kernel_rfl) (fun _ _ _ h => h) (Or.inl ⟨by rfl, ?_⟩) (by assumption) ?_
              (rotate_left; focus (intro wS hSw; have s0 := (HCJ.out wS hSw).1; have s1 := (HCJ.out wS hSw).2.1; have s2 := (HCJ.out wS hSw).2.2; have s3 := (HCM.out wS hSw).1; have s4 := (HCM.out wS hSw).2.1; clear hSw; go_simp; (try rw [if_neg (by omega)]); try with_reducible rfl))
              (try simp only [Act.put, List.setIfInBounds_toArray, List.set_cons_zero, List.set_cons_succ])
              refine wpAnyH_take (i := 12) (oi := { dst := some 104, op := Go.Op.move (Go.Operand.tmp 11), type := 3, pos := "law.go:102", after := #[{ on := 9, ground := Go.Ground.guard }], guard := some (9, true) }) (v := ?_) rfl (by kernel_rfl) (by kernel_rfl) (by kernel_rfl) (fun _ _ _ h => h) (Or.inl ⟨by rfl, ?_⟩) (by assumption) ?_
              (rotate_left; focus (intro wS hSw; have s0 := (HCJ.out wS hSw).1; have s1 := (HCJ.out wS hSw).2.1; have s2 := (HCJ.out wS hSw).2.2; have s3 := (HCM.out wS hSw).1; have s4 := (HCM.out wS hSw).2.1; clear hSw; go_simp; (try rw [if_neg (by omega)]); try with_reducible rfl))
              (try simp only [Act.put, List.setIfInBounds_toArray, List.set_cons_zero, List.set_cons_succ])
              refine wpAnyH_take (i := 13) (oi := { dst := some 105, op := Go.Op.indexAddr 23 (Go.Operand.tmp 103) (Go.Operand.tmp 104), type := 0, pos := "law.go:102", after := #[{ on := 11, ground := Go.Ground.data }, { on := 12, ground := Go.Ground.data }, { on := 9, ground := Go.Ground.guard }], guard := some (9, true) }) (v := ?_) rfl (by kernel_rfl) (by kernel_rfl) (by kernel_rfl) (fun _ _ _ h => h) (Or.inl ⟨by rfl, ?_⟩) (by assumption) ?_
              (rotate_left; focus (intro wS hSw; have s0 := (HCJ.out wS hSw).1; have s1 := (HCJ.out wS hSw).2.1; have s2 := (HCJ.out wS hSw).2.2; have s3 := (HCM.out wS hSw).1; have s4 := (HCM.out wS hSw).2.1; clear hSw; go_simp; (try rw [if_neg (by omega)]); try with_reducible rfl))
              (try simp only [Act.put, List.setIfInBounds_toArray, List.set_cons_zero, List.set_cons_succ])
              refine wpAnyH_take (i := 14) (oi := { dst := some 106, op := Go.Op.load 9 (Go.Operand.tmp 105), type := 9, pos := "law.go:102", after := #[{ on := 13, ground := Go.Ground.data }, { on := 9, ground := Go.Ground.guard }], guard := some (9, true) }) (v := ?_) rfl (by kernel_rfl) (by kernel_rfl) (by kernel_rfl) (fun _ _ _ h => h) (Or.inl ⟨by rfl, ?_⟩) (by assumption) ?_
              (rotate_left; focus (intro wS hSw; have s0 := (HCJ.out wS hSw).1; have s1 := (HCJ.out wS hSw).2.1; have s2 := (HCJ.out wS hSw).2.2; have s3 := (HCM.out wS hSw).1; have s4 := (HCM.out wS hSw).2.1; clear hSw; go_simp; (try rw [if_neg (by omega)]); try with_reducible rfl))
              (try simp only [Act.put, List.setIfInBounds_toArray, List.set_cons_zero, List.set_cons_succ])
              refine wpAnyH_take (i := 15) (oi := { dst := some 107, op := Go.Op.fieldAddr 31 (Go.Operand.tmp 8) 2, type := 0, pos := "law.go:102", after := #[{ on := 9, ground := Go.Ground.guard }], guard := some (9, true) }) (v := ?_) rfl (by kernel_rfl) (by kernel_rfl) (by kernel_rfl) (fun _ _ _ h => h) (Or.inl ⟨by rfl, ?_⟩) (by assumption) ?_
              (rotate_left; focus (intro wS hSw; have s0 := (HCJ.out wS hSw).1; have s1 := (HCJ.out wS hSw).2.1; have s2 := (HCJ.out wS hSw).2.2; have s3 := (HCM.out wS hSw).1; have s4 := (HCM.out wS hSw).2.1; clear hSw; go_simp; (try rw [if_neg (by omega)]); try with_reducible rfl))
              (try simp only [Act.put, List.setIfInBounds_toArray, List.set_cons_zero, List.set_cons_succ])
              refine wpAnyH_take (i := 16) (oi := { dst := some 108, op := Go.Op.load 23 (Go.Operand.tmp 107), type := 23, pos := "law.go:102", after := #[{ on := 15, ground := Go.Ground.data }, { on := 9, ground := Go.Ground.guard }], guard := some (9, true) }) (v := ?_) rfl (by kernel_rfl) (by kernel_rfl) (by kernel_rfl) (fun _ _ _ h => h) (Or.inl ⟨by rfl, ?_⟩) (by assumption) ?_
              (rotate_left; focus (intro wS hSw; have s0 := (HCJ.out wS hSw).1; have s1 := (HCJ.out wS hSw).2.1; have s2 := (HCJ.out wS hSw).2.2; have s3 := (HCM.out wS hSw).1; have s4 := (HCM.out wS hSw).2.1; clear hSw; go_simp; (try rw [if_neg (by omega)]); try with_reducible rfl))
              (try simp only [Act.put, List.setIfInBounds_toArray, List.set_cons_zero, List.set_cons_succ])
              refine wpAnyH_take (i := 17) (oi := { dst := some 109, op := Go.Op.move (Go.Operand.tmp 10), type := 3, pos := "law.go:102", after := #[{ on := 9, ground := Go.Ground.guard }], guard := some (9, true) }) (v := ?_) rfl (by kernel_rfl) (by kernel_rfl) (by kernel_rfl) (fun _ _ _ h => h) (Or.inl ⟨by rfl, ?_⟩) (by assumption) ?_
              (rotate_left; focus (intro wS hSw; have s0 := (HCJ.out wS hSw).1; have s1 := (HCJ.out wS hSw).2.1; have s2 := (HCJ.out wS hSw).2.2; have s3 := (HCM.out wS hSw).1; have s4 := (HCM.out wS hSw).2.1; clear hSw; go_simp; (try rw [if_neg (by omega)]); try with_reducible rfl))
              (try simp only [Act.put, List.setIfInBounds_toArray, List.set_cons_zero, List.set_cons_succ])
              refine wpAnyH_take (i := 18) (oi := { dst := some 110, op := Go.Op.indexAddr 23 (Go.Operand.tmp 108) (Go.Operand.tmp 109), type := 0, pos := "law.go:102", after := #[{ on := 16, ground := Go.Ground.data }, { on := 17, ground := Go.Ground.data }, { on := 9, ground := Go.Ground.guard }], guard := some (9, true) }) (v := ?_) rfl (by kernel_rfl) (by kernel_rfl) (by kernel_rfl) (fun _ _ _ h => h) (Or.inl ⟨by rfl, ?_⟩) (by assumption) ?_
              (rotate_left; focus (intro wS hSw; have s0 := (HCJ.out wS hSw).1; have s1 := (HCJ.out wS hSw).2.1; have s2 := (HCJ.out wS hSw).2.2; have s3 := (HCM.out wS hSw).1; have s4 := (HCM.out wS hSw).2.1; clear hSw; go_simp; (try rw [if_neg (by omega)]); try with_reducible rfl))
              (try simp only [Act.put, List.setIfInBounds_toArray, List.set_cons_zero, List.set_cons_succ])
              refine wpAnyH_take (i := 19) (oi := { dst := some 111, op := Go.Op.load 9 (Go.Operand.tmp 110), type := 9, pos := "law.go:102", after := #[{ on := 18, ground := Go.Ground.data }, { on := 9, ground := Go.Ground.guard }], guard := some (9, true) }) (v := ?_) rfl (by kernel_rfl) (by kernel_rfl) (by kernel_rfl) (fun _ _ _ h => h) (Or.inl ⟨by rfl, ?_⟩) (by assumption) ?_
              (rotate_left; focus (intro wS hSw; have s0 := (HCJ.out wS hSw).1; have s1 := (HCJ.out wS hSw).2.1; have s2 := (HCJ.out wS hSw).2.2; have s3 := (HCM.out wS hSw).1; have s4 := (HCM.out wS hSw).2.1; clear hSw; go_simp; (try rw [if_neg (by omega)]); try with_reducible rfl))
              (try simp only [Act.put, List.setIfInBounds_toArray, List.set_cons_zero, List.set_cons_succ])
              refine wpAnyH_take (i := 20) (oi := { dst := some 112, op := Go.Op.binOp Go.BinOp.neq 9 (Go.Operand.tmp 106) (Go.Operand.tmp 111) 9, type := 4, pos := "law.go:102", after := #[{ on := 14, ground := Go.Ground.data }, { on := 19, ground := Go.Ground.data }, { on := 9, ground := Go.Ground.guard }], guard := some (9, true) }) (v := ?_) rfl (by kernel_rfl) (by kernel_rfl) (by kernel_rfl) (fun _ _ _ h => h) (Or.inl ⟨by rfl, ?_⟩) (by assumption) ?_
              (rotate_left; focus (intro wS hSw; have s0 := (HCJ.out wS hSw).1; have s1 := (HCJ.out wS hSw).2.1; have s2 := (HCJ.out wS hSw).2.2; have s3 := (HCM.out wS hSw).1; have s4 := (HCM.out wS hSw).2.1; clear hSw; go_simp; (try rw [if_neg (by omega)]); try with_reducible rfl))
              (try simp only [Act.put, List.setIfInBounds_toArray, List.set_cons_zero, List.set_cons_succ])
              refine wpAnyH_take (i := 21) (oi := { dst := some 113, op := Go.Op.pick (Go.Operand.tmp 101) (Go.Operand.tmp 112) (Go.Operand.const (Go.Value.bool false)), type := 4, pos := "law.go:102", after := #[{ on := 9, ground := Go.Ground.data }, { on := 20, ground := Go.Ground.data }], guard := none }) (v := ?_) rfl (by kernel_rfl) (by kernel_rfl) (by kernel_rfl) (fun _ _ _ h => h) (Or.inl ⟨by rfl, ?_⟩) (by assumption) ?_
              (rotate_left; focus (intro wS hSw; have s0 := (HCJ.out wS hSw).1; have s1 := (HCJ.out wS hSw).2.1; have s2 := (HCJ.out wS hSw).2.2; have s3 := (HCM.out wS hSw).1; have s4 := (HCM.out wS hSw).2.1; clear hSw; go_simp; (try rw [if_neg (by omega)]); try with_reducible rfl))
              (try simp only [Act.put, List.setIfInBounds_toArray, List.set_cons_zero, List.set_cons_succ])
              refine wpAnyH_done (by kernel_rfl) ?_ _
              clear hP0
              go_wp2
              go_roundw
              case rel => exact ⟨m + 1, by go_num, by omega, HBI.out.drew⟩
              case measure => simp [intOf]; omega
            · have e1 := str_ne e
              clear e
              refine wp_region_held_drew (S := fun w' => Below W2.heap.size W2 w') (by kernel_rfl) (by (first | exact hP0)) (fun hHeld => ?_)
              refine wpAnyH_take (i := 0) (oi := { dst := some 92, op := Go.Op.move (Go.Operand.tmp 6), type := 23, pos := "law.go:102", after := #[], guard := none }) (v := ?_) rfl (by kernel_rfl) (by kernel_rfl) (by kernel_rfl) (fun _ _ _ h => h) (Or.inl ⟨by rfl, ?_⟩) (by assumption) ?_
              (rotate_left; focus (intro wS hSw; have s0 := (HCJ.out wS hSw).1; have s1 := (HCJ.out wS hSw).2.1; have s2 := (HCJ.out wS hSw).2.2; have s3 := (HCM.out wS hSw).1; have s4 := (HCM.out wS hSw).2.1; clear hSw; go_simp; (try rw [if_neg (by omega)]); try with_reducible rfl))
              (try simp only [Act.put, List.setIfInBounds_toArray, List.set_cons_zero, List.set_cons_succ])
              refine wpAnyH_take (i := 1) (oi := { dst := some 93, op := Go.Op.move (Go.Operand.tmp 11), type := 3, pos := "law.go:102", after := #[], guard := none }) (v := ?_) rfl (by kernel_rfl) (by kernel_rfl) (by kernel_rfl) (fun _ _ _ h => h) (Or.inl ⟨by rfl, ?_⟩) (by assumption) ?_
              (rotate_left; focus (intro wS hSw; have s0 := (HCJ.out wS hSw).1; have s1 := (HCJ.out wS hSw).2.1; have s2 := (HCJ.out wS hSw).2.2; have s3 := (HCM.out wS hSw).1; have s4 := (HCM.out wS hSw).2.1; clear hSw; go_simp; (try rw [if_neg (by omega)]); try with_reducible rfl))
              (try simp only [Act.put, List.setIfInBounds_toArray, List.set_cons_zero, List.set_cons_succ])
              refine wpAnyH_take (i := 2) (oi := { dst := some 94, op := Go.Op.indexAddr 23 (Go.Operand.tmp 92) (Go.Operand.tmp 93), type := 0, pos := "law.go:102", after := #[{ on := 0, ground := Go.Ground.data }, { on := 1, ground := Go.Ground.data }], guard := none }) (v := ?_) rfl (by kernel_rfl) (by kernel_rfl) (by kernel_rfl) (fun _ _ _ h => h) (Or.inl ⟨by rfl, ?_⟩) (by assumption) ?_
              (rotate_left; focus (intro wS hSw; have s0 := (HCJ.out wS hSw).1; have s1 := (HCJ.out wS hSw).2.1; have s2 := (HCJ.out wS hSw).2.2; have s3 := (HCM.out wS hSw).1; have s4 := (HCM.out wS hSw).2.1; clear hSw; go_simp; (try rw [if_neg (by omega)]); try with_reducible rfl))
              (try simp only [Act.put, List.setIfInBounds_toArray, List.set_cons_zero, List.set_cons_succ])
              refine wpAnyH_take (i := 3) (oi := { dst := some 95, op := Go.Op.load 9 (Go.Operand.tmp 94), type := 9, pos := "law.go:102", after := #[{ on := 2, ground := Go.Ground.data }], guard := none }) (v := ?_) rfl (by kernel_rfl) (by kernel_rfl) (by kernel_rfl) (fun _ _ _ h => h) (Or.inl ⟨by rfl, ?_⟩) (by assumption) ?_
              (rotate_left; focus (intro wS hSw; have s0 := (HCJ.out wS hSw).1; have s1 := (HCJ.out wS hSw).2.1; have s2 := (HCJ.out wS hSw).2.2; have s3 := (HCM.out wS hSw).1; have s4 := (HCM.out wS hSw).2.1; clear hSw; go_simp; (try rw [if_neg (by omega)]); try with_reducible rfl))
              (try simp only [Act.put, List.setIfInBounds_toArray, List.set_cons_zero, List.set_cons_succ])
              refine wpAnyH_take (i := 4) (oi := { dst := some 96, op := Go.Op.move (Go.Operand.tmp 6), type := 23, pos := "law.go:102", after := #[], guard := none }) (v := ?_) rfl (by kernel_rfl) (by kernel_rfl) (by kernel_rfl) (fun _ _ _ h => h) (Or.inl ⟨by rfl, ?_⟩) (by assumption) ?_
              (rotate_left; focus (intro wS hSw; have s0 := (HCJ.out wS hSw).1; have s1 := (HCJ.out wS hSw).2.1; have s2 := (HCJ.out wS hSw).2.2; have s3 := (HCM.out wS hSw).1; have s4 := (HCM.out wS hSw).2.1; clear hSw; go_simp; (try rw [if_neg (by omega)]); try with_reducible rfl))
              (try simp only [Act.put, List.setIfInBounds_toArray, List.set_cons_zero, List.set_cons_succ])
              refine wpAnyH_take (i := 5) (oi := { dst := some 97, op := Go.Op.move (Go.Operand.tmp 10), type := 3, pos := "law.go:102", after := #[], guard := none }) (v := ?_) rfl (by kernel_rfl) (by kernel_rfl) (by kernel_rfl) (fun _ _ _ h => h) (Or.inl ⟨by rfl, ?_⟩) (by assumption) ?_
              (rotate_left; focus (intro wS hSw; have s0 := (HCJ.out wS hSw).1; have s1 := (HCJ.out wS hSw).2.1; have s2 := (HCJ.out wS hSw).2.2; have s3 := (HCM.out wS hSw).1; have s4 := (HCM.out wS hSw).2.1; clear hSw; go_simp; (try rw [if_neg (by omega)]); try with_reducible rfl))
              (try simp only [Act.put, List.setIfInBounds_toArray, List.set_cons_zero, List.set_cons_succ])
              refine wpAnyH_take (i := 6) (oi := { dst := some 98, op := Go.Op.indexAddr 23 (Go.Operand.tmp 96) (Go.Operand.tmp 97), type := 0, pos := "law.go:102", after := #[{ on := 4, ground := Go.Ground.data }, { on := 5, ground := Go.Ground.data }], guard := none }) (v := ?_) rfl (by kernel_rfl) (by kernel_rfl) (by kernel_rfl) (fun _ _ _ h => h) (Or.inl ⟨by rfl, ?_⟩) (by assumption) ?_
              (rotate_left; focus (intro wS hSw; have s0 := (HCJ.out wS hSw).1; have s1 := (HCJ.out wS hSw).2.1; have s2 := (HCJ.out wS hSw).2.2; have s3 := (HCM.out wS hSw).1; have s4 := (HCM.out wS hSw).2.1; clear hSw; go_simp; (try rw [if_neg (by omega)]); try with_reducible rfl))
              (try simp only [Act.put, List.setIfInBounds_toArray, List.set_cons_zero, List.set_cons_succ])
              refine wpAnyH_take (i := 7) (oi := { dst := some 99, op := Go.Op.load 9 (Go.Operand.tmp 98), type := 9, pos := "law.go:102", after := #[{ on := 6, ground := Go.Ground.data }], guard := none }) (v := ?_) rfl (by kernel_rfl) (by kernel_rfl) (by kernel_rfl) (fun _ _ _ h => h) (Or.inl ⟨by rfl, ?_⟩) (by assumption) ?_
              (rotate_left; focus (intro wS hSw; have s0 := (HCJ.out wS hSw).1; have s1 := (HCJ.out wS hSw).2.1; have s2 := (HCJ.out wS hSw).2.2; have s3 := (HCM.out wS hSw).1; have s4 := (HCM.out wS hSw).2.1; clear hSw; go_simp; (try rw [if_neg (by omega)]); try with_reducible rfl))
              (try simp only [Act.put, List.setIfInBounds_toArray, List.set_cons_zero, List.set_cons_succ])
              refine wpAnyH_take (i := 8) (oi := { dst := some 100, op := Go.Op.binOp Go.BinOp.eql 9 (Go.Operand.tmp 95) (Go.Operand.tmp 99) 9, type := 4, pos := "law.go:102", after := #[{ on := 3, ground := Go.Ground.data }, { on := 7, ground := Go.Ground.data }], guard := none }) (v := ?_) rfl (by kernel_rfl) (by kernel_rfl) (by kernel_rfl) (fun _ _ _ h => h) (Or.inl ⟨by rfl, ?_⟩) (by assumption) ?_
              (rotate_left; focus (intro wS hSw; have s0 := (HCJ.out wS hSw).1; have s1 := (HCJ.out wS hSw).2.1; have s2 := (HCJ.out wS hSw).2.2; have s3 := (HCM.out wS hSw).1; have s4 := (HCM.out wS hSw).2.1; clear hSw; go_simp; (try rw [if_neg (by omega)]); try with_reducible rfl))
              (try simp only [Act.put, List.setIfInBounds_toArray, List.set_cons_zero, List.set_cons_succ])
              refine wpAnyH_take (i := 9) (oi := { dst := some 101, op := Go.Op.move (Go.Operand.tmp 100), type := 4, pos := "law.go:102", after := #[{ on := 8, ground := Go.Ground.data }], guard := none }) (v := ?_) rfl (by kernel_rfl) (by kernel_rfl) (by kernel_rfl) (fun _ _ _ h => h) (Or.inl ⟨by rfl, ?_⟩) (by assumption) ?_
              (rotate_left; focus (intro wS hSw; have s0 := (HCJ.out wS hSw).1; have s1 := (HCJ.out wS hSw).2.1; have s2 := (HCJ.out wS hSw).2.2; have s3 := (HCM.out wS hSw).1; have s4 := (HCM.out wS hSw).2.1; clear hSw; go_simp; (try rw [if_neg (by omega)]); try with_reducible rfl))
              (try simp only [Act.put, List.setIfInBounds_toArray, List.set_cons_zero, List.set_cons_succ])
              refine wpAnyH_take (i := 10) (oi := { dst := some 102, op := Go.Op.fieldAddr 31 (Go.Operand.tmp 8) 2, type := 0, pos := "law.go:102", after := #[{ on := 9, ground := Go.Ground.guard }], guard := some (9, true) }) (v := undef) rfl (by kernel_rfl) (by kernel_rfl) (by kernel_rfl) (fun _ _ _ h => h) (Or.inr ⟨by rfl, rfl⟩) (by assumption) ?_
              (try simp only [Act.put, List.setIfInBounds_toArray, List.set_cons_zero, List.set_cons_succ])
              refine wpAnyH_take (i := 11) (oi := { dst := some 103, op := Go.Op.load 23 (Go.Operand.tmp 102), type := 23, pos := "law.go:102", after := #[{ on := 10, ground := Go.Ground.data }, { on := 9, ground := Go.Ground.guard }], guard := some (9, true) }) (v := undef) rfl (by kernel_rfl) (by kernel_rfl) (by kernel_rfl) (fun _ _ _ h => h) (Or.inr ⟨by rfl, rfl⟩) (by assumption) ?_
              (try simp only [Act.put, List.setIfInBounds_toArray, List.set_cons_zero, List.set_cons_succ])
              refine wpAnyH_take (i := 12) (oi := { dst := some 104, op := Go.Op.move (Go.Operand.tmp 11), type := 3, pos := "law.go:102", after := #[{ on := 9, ground := Go.Ground.guard }], guard := some (9, true) }) (v := undef) rfl (by kernel_rfl) (by kernel_rfl) (by kernel_rfl) (fun _ _ _ h => h) (Or.inr ⟨by rfl, rfl⟩) (by assumption) ?_
              (try simp only [Act.put, List.setIfInBounds_toArray, List.set_cons_zero, List.set_cons_succ])
              refine wpAnyH_take (i := 13) (oi := { dst := some 105, op := Go.Op.indexAddr 23 (Go.Operand.tmp 103) (Go.Operand.tmp 104), type := 0, pos := "law.go:102", after := #[{ on := 11, ground := Go.Ground.data }, { on := 12, ground := Go.Ground.data }, { on := 9, ground := Go.Ground.guard }], guard := some (9, true) }) (v := undef) rfl (by kernel_rfl) (by kernel_rfl) (by kernel_rfl) (fun _ _ _ h => h) (Or.inr ⟨by rfl, rfl⟩) (by assumption) ?_
              (try simp only [Act.put, List.setIfInBounds_toArray, List.set_cons_zero, List.set_cons_succ])
              refine wpAnyH_take (i := 14) (oi := { dst := some 106, op := Go.Op.load 9 (Go.Operand.tmp 105), type := 9, pos := "law.go:102", after := #[{ on := 13, ground := Go.Ground.data }, { on := 9, ground := Go.Ground.guard }], guard := some (9, true) }) (v := undef) rfl (by kernel_rfl) (by kernel_rfl) (by kernel_rfl) (fun _ _ _ h => h) (Or.inr ⟨by rfl, rfl⟩) (by assumption) ?_
              (try simp only [Act.put, List.setIfInBounds_toArray, List.set_cons_zero, List.set_cons_succ])
              refine wpAnyH_take (i := 15) (oi := { dst := some 107, op := Go.Op.fieldAddr 31 (Go.Operand.tmp 8) 2, type := 0, pos := "law.go:102", after := #[{ on := 9, ground := Go.Ground.guard }], guard := some (9, true) }) (v := undef) rfl (by kernel_rfl) (by kernel_rfl) (by kernel_rfl) (fun _ _ _ h => h) (Or.inr ⟨by rfl, rfl⟩) (by assumption) ?_
              (try simp only [Act.put, List.setIfInBounds_toArray, List.set_cons_zero, List.set_cons_succ])
              refine wpAnyH_take (i := 16) (oi := { dst := some 108, op := Go.Op.load 23 (Go.Operand.tmp 107), type := 23, pos := "law.go:102", after := #[{ on := 15, ground := Go.Ground.data }, { on := 9, ground := Go.Ground.guard }], guard := some (9, true) }) (v := undef) rfl (by kernel_rfl) (by kernel_rfl) (by kernel_rfl) (fun _ _ _ h => h) (Or.inr ⟨by rfl, rfl⟩) (by assumption) ?_
              (try simp only [Act.put, List.setIfInBounds_toArray, List.set_cons_zero, List.set_cons_succ])
              refine wpAnyH_take (i := 17) (oi := { dst := some 109, op := Go.Op.move (Go.Operand.tmp 10), type := 3, pos := "law.go:102", after := #[{ on := 9, ground := Go.Ground.guard }], guard := some (9, true) }) (v := undef) rfl (by kernel_rfl) (by kernel_rfl) (by kernel_rfl) (fun _ _ _ h => h) (Or.inr ⟨by rfl, rfl⟩) (by assumption) ?_
              (try simp only [Act.put, List.setIfInBounds_toArray, List.set_cons_zero, List.set_cons_succ])
              refine wpAnyH_take (i := 18) (oi := { dst := some 110, op := Go.Op.indexAddr 23 (Go.Operand.tmp 108) (Go.Operand.tmp 109), type := 0, pos := "law.go:102", after := #[{ on := 16, ground := Go.Ground.data }, { on := 17, ground := Go.Ground.data }, { on := 9, ground := Go.Ground.guard }], guard := some (9, true) }) (v := undef) rfl (by kernel_rfl) (by kernel_rfl) (by kernel_rfl) (fun _ _ _ h => h) (Or.inr ⟨by rfl, rfl⟩) (by assumption) ?_
              (try simp only [Act.put, List.setIfInBounds_toArray, List.set_cons_zero, List.set_cons_succ])
              refine wpAnyH_take (i := 19) (oi := { dst := some 111, op := Go.Op.load 9 (Go.Operand.tmp 110), type := 9, pos := "law.go:102", after := #[{ on := 18, ground := Go.Ground.data }, { on := 9, ground := Go.Ground.guard }], guard := some (9, true) }) (v := undef) rfl (by kernel_rfl) (by kernel_rfl) (by kernel_rfl) (fun _ _ _ h => h) (Or.inr ⟨by rfl, rfl⟩) (by assumption) ?_
              (try simp only [Act.put, List.setIfInBounds_toArray, List.set_cons_zero, List.set_cons_succ])
              refine wpAnyH_take (i := 20) (oi := { dst := some 112, op := Go.Op.binOp Go.BinOp.neq 9 (Go.Operand.tmp 106) (Go.Operand.tmp 111) 9, type := 4, pos := "law.go:102", after := #[{ on := 14, ground := Go.Ground.data }, { on := 19, ground := Go.Ground.data }, { on := 9, ground := Go.Ground.guard }], guard := some (9, true) }) (v := undef) rfl (by kernel_rfl) (by kernel_rfl) (by kernel_rfl) (fun _ _ _ h => h) (Or.inr ⟨by rfl, rfl⟩) (by assumption) ?_
              (try simp only [Act.put, List.setIfInBounds_toArray, List.set_cons_zero, List.set_cons_succ])
              refine wpAnyH_take (i := 21) (oi := { dst := some 113, op := Go.Op.pick (Go.Operand.tmp 101) (Go.Operand.tmp 112) (Go.Operand.const (Go.Value.bool false)), type := 4, pos := "law.go:102", after := #[{ on := 9, ground := Go.Ground.data }, { on := 20, ground := Go.Ground.data }], guard := none }) (v := ?_) rfl (by kernel_rfl) (by kernel_rfl) (by kernel_rfl) (fun _ _ _ h => h) (Or.inl ⟨by rfl, ?_⟩) (by assumption) ?_
              (rotate_left; focus (intro wS hSw; have s0 := (HCJ.out wS hSw).1; have s1 := (HCJ.out wS hSw).2.1; have s2 := (HCJ.out wS hSw).2.2; have s3 := (HCM.out wS hSw).1; have s4 := (HCM.out wS hSw).2.1; clear hSw; go_simp; (try rw [if_neg (by omega)]); try with_reducible rfl))
              (try simp only [Act.put, List.setIfInBounds_toArray, List.set_cons_zero, List.set_cons_succ])
              refine wpAnyH_done (by kernel_rfl) ?_ _
              clear hP0
              go_wp2
              go_roundw
              case rel => exact ⟨m + 1, by go_num, by omega, HBI.out.drew⟩
              case measure => simp [intOf]; omega
          · obtain rfl : m = j := by omega
            have hmm : ¬ (m : Int) < (m : Int) := by omega
            go_wp2
            go_roundw
            case rel => exact ⟨m + 1, by go_num, by omega, HBI.out⟩
            case measure => simp [intOf]; omega
      · have d1 : decide ((y.size : Int) < (r : Int) + 1) = false := decide_eq_false (by omega)
        have d1' : ¬ (y.size : Int) < (r : Int) + 1 := by omega
        clear hsz
        go_wp2
        go_loopw [11] (fun q wr => ∃ m : Nat, q = .int .i64 m ∧ m ≤ j ∧ Below W2.heap.size W2 wr) (fun q _ => j - (intOf q).toNat)
        case atStart => exact ⟨0, rfl, by omega, HBW.out⟩
        case round =>
          clear c0
          obtain ⟨m, rfl, hm, hbw⟩ := hrel
          have HBI := Lib.hid hbw
          clear hbw
          by_cases hmj : m < j
          · have hml : m < L.length := by omega
            have HCM := Lib.hid (HCQ.out m hml)
            have HIX := Lib.hid (HIY.out m hml)
            generalize L[m] = x at *
            generalize idV x = ix at *
            have hP0 : Below W2.heap.size W2 wr.drew := HBI.out.drew
            have hmN : (m : Int) < (NL : Int) := by omega
            have hmJ : (m : Int) < (j : Int) := by omega
            go_wp2_with fail
            by_cases e : x = y
            · have e1 := str_eq e
              have e3 := str_eq (HIX.out e)
              clear e
              refine wp_region_held_drew (S := fun w' => Below W2.heap.size W2 w') (by kernel_rfl) (by (first | exact hP0)) (fun hHeld => ?_)
              refine wpAnyH_take (i := 0) (oi := { dst := some 92, op := Go.Op.move (Go.Operand.tmp 6), type := 23, pos := "law.go:102", after := #[], guard := none }) (v := ?_) rfl (by kernel_rfl) (by kernel_rfl) (by kernel_rfl) (fun _ _ _ h => h) (Or.inl ⟨by rfl, ?_⟩) (by assumption) ?_
              (rotate_left; focus (intro wS hSw; have s0 := (HCJ.out wS hSw).1; have s1 := (HCJ.out wS hSw).2.1; have s2 := (HCJ.out wS hSw).2.2; have s3 := (HCM.out wS hSw).1; have s4 := (HCM.out wS hSw).2.1; clear hSw; go_simp; (try rw [if_neg (by omega)]); try with_reducible rfl))
              (try simp only [Act.put, List.setIfInBounds_toArray, List.set_cons_zero, List.set_cons_succ])
              refine wpAnyH_take (i := 1) (oi := { dst := some 93, op := Go.Op.move (Go.Operand.tmp 11), type := 3, pos := "law.go:102", after := #[], guard := none }) (v := ?_) rfl (by kernel_rfl) (by kernel_rfl) (by kernel_rfl) (fun _ _ _ h => h) (Or.inl ⟨by rfl, ?_⟩) (by assumption) ?_
              (rotate_left; focus (intro wS hSw; have s0 := (HCJ.out wS hSw).1; have s1 := (HCJ.out wS hSw).2.1; have s2 := (HCJ.out wS hSw).2.2; have s3 := (HCM.out wS hSw).1; have s4 := (HCM.out wS hSw).2.1; clear hSw; go_simp; (try rw [if_neg (by omega)]); try with_reducible rfl))
              (try simp only [Act.put, List.setIfInBounds_toArray, List.set_cons_zero, List.set_cons_succ])
              refine wpAnyH_take (i := 2) (oi := { dst := some 94, op := Go.Op.indexAddr 23 (Go.Operand.tmp 92) (Go.Operand.tmp 93), type := 0, pos := "law.go:102", after := #[{ on := 0, ground := Go.Ground.data }, { on := 1, ground := Go.Ground.data }], guard := none }) (v := ?_) rfl (by kernel_rfl) (by kernel_rfl) (by kernel_rfl) (fun _ _ _ h => h) (Or.inl ⟨by rfl, ?_⟩) (by assumption) ?_
              (rotate_left; focus (intro wS hSw; have s0 := (HCJ.out wS hSw).1; have s1 := (HCJ.out wS hSw).2.1; have s2 := (HCJ.out wS hSw).2.2; have s3 := (HCM.out wS hSw).1; have s4 := (HCM.out wS hSw).2.1; clear hSw; go_simp; (try rw [if_neg (by omega)]); try with_reducible rfl))
              (try simp only [Act.put, List.setIfInBounds_toArray, List.set_cons_zero, List.set_cons_succ])
              refine wpAnyH_take (i := 3) (oi := { dst := some 95, op := Go.Op.load 9 (Go.Operand.tmp 94), type := 9, pos := "law.go:102", after := #[{ on := 2, ground := Go.Ground.data }], guard := none }) (v := ?_) rfl (by kernel_rfl) (by kernel_rfl) (by kernel_rfl) (fun _ _ _ h => h) (Or.inl ⟨by rfl, ?_⟩) (by assumption) ?_
              (rotate_left; focus (intro wS hSw; have s0 := (HCJ.out wS hSw).1; have s1 := (HCJ.out wS hSw).2.1; have s2 := (HCJ.out wS hSw).2.2; have s3 := (HCM.out wS hSw).1; have s4 := (HCM.out wS hSw).2.1; clear hSw; go_simp; (try rw [if_neg (by omega)]); try with_reducible rfl))
              (try simp only [Act.put, List.setIfInBounds_toArray, List.set_cons_zero, List.set_cons_succ])
              refine wpAnyH_take (i := 4) (oi := { dst := some 96, op := Go.Op.move (Go.Operand.tmp 6), type := 23, pos := "law.go:102", after := #[], guard := none }) (v := ?_) rfl (by kernel_rfl) (by kernel_rfl) (by kernel_rfl) (fun _ _ _ h => h) (Or.inl ⟨by rfl, ?_⟩) (by assumption) ?_
              (rotate_left; focus (intro wS hSw; have s0 := (HCJ.out wS hSw).1; have s1 := (HCJ.out wS hSw).2.1; have s2 := (HCJ.out wS hSw).2.2; have s3 := (HCM.out wS hSw).1; have s4 := (HCM.out wS hSw).2.1; clear hSw; go_simp; (try rw [if_neg (by omega)]); try with_reducible rfl))
              (try simp only [Act.put, List.setIfInBounds_toArray, List.set_cons_zero, List.set_cons_succ])
              refine wpAnyH_take (i := 5) (oi := { dst := some 97, op := Go.Op.move (Go.Operand.tmp 10), type := 3, pos := "law.go:102", after := #[], guard := none }) (v := ?_) rfl (by kernel_rfl) (by kernel_rfl) (by kernel_rfl) (fun _ _ _ h => h) (Or.inl ⟨by rfl, ?_⟩) (by assumption) ?_
              (rotate_left; focus (intro wS hSw; have s0 := (HCJ.out wS hSw).1; have s1 := (HCJ.out wS hSw).2.1; have s2 := (HCJ.out wS hSw).2.2; have s3 := (HCM.out wS hSw).1; have s4 := (HCM.out wS hSw).2.1; clear hSw; go_simp; (try rw [if_neg (by omega)]); try with_reducible rfl))
              (try simp only [Act.put, List.setIfInBounds_toArray, List.set_cons_zero, List.set_cons_succ])
              refine wpAnyH_take (i := 6) (oi := { dst := some 98, op := Go.Op.indexAddr 23 (Go.Operand.tmp 96) (Go.Operand.tmp 97), type := 0, pos := "law.go:102", after := #[{ on := 4, ground := Go.Ground.data }, { on := 5, ground := Go.Ground.data }], guard := none }) (v := ?_) rfl (by kernel_rfl) (by kernel_rfl) (by kernel_rfl) (fun _ _ _ h => h) (Or.inl ⟨by rfl, ?_⟩) (by assumption) ?_
              (rotate_left; focus (intro wS hSw; have s0 := (HCJ.out wS hSw).1; have s1 := (HCJ.out wS hSw).2.1; have s2 := (HCJ.out wS hSw).2.2; have s3 := (HCM.out wS hSw).1; have s4 := (HCM.out wS hSw).2.1; clear hSw; go_simp; (try rw [if_neg (by omega)]); try with_reducible rfl))
              (try simp only [Act.put, List.setIfInBounds_toArray, List.set_cons_zero, List.set_cons_succ])
              refine wpAnyH_take (i := 7) (oi := { dst := some 99, op := Go.Op.load 9 (Go.Operand.tmp 98), type := 9, pos := "law.go:102", after := #[{ on := 6, ground := Go.Ground.data }], guard := none }) (v := ?_) rfl (by kernel_rfl) (by kernel_rfl) (by kernel_rfl) (fun _ _ _ h => h) (Or.inl ⟨by rfl, ?_⟩) (by assumption) ?_
              (rotate_left; focus (intro wS hSw; have s0 := (HCJ.out wS hSw).1; have s1 := (HCJ.out wS hSw).2.1; have s2 := (HCJ.out wS hSw).2.2; have s3 := (HCM.out wS hSw).1; have s4 := (HCM.out wS hSw).2.1; clear hSw; go_simp; (try rw [if_neg (by omega)]); try with_reducible rfl))
              (try simp only [Act.put, List.setIfInBounds_toArray, List.set_cons_zero, List.set_cons_succ])
              refine wpAnyH_take (i := 8) (oi := { dst := some 100, op := Go.Op.binOp Go.BinOp.eql 9 (Go.Operand.tmp 95) (Go.Operand.tmp 99) 9, type := 4, pos := "law.go:102", after := #[{ on := 3, ground := Go.Ground.data }, { on := 7, ground := Go.Ground.data }], guard := none }) (v := ?_) rfl (by kernel_rfl) (by kernel_rfl) (by kernel_rfl) (fun _ _ _ h => h) (Or.inl ⟨by rfl, ?_⟩) (by assumption) ?_
              (rotate_left; focus (intro wS hSw; have s0 := (HCJ.out wS hSw).1; have s1 := (HCJ.out wS hSw).2.1; have s2 := (HCJ.out wS hSw).2.2; have s3 := (HCM.out wS hSw).1; have s4 := (HCM.out wS hSw).2.1; clear hSw; go_simp; (try rw [if_neg (by omega)]); try with_reducible rfl))
              (try simp only [Act.put, List.setIfInBounds_toArray, List.set_cons_zero, List.set_cons_succ])
              refine wpAnyH_take (i := 9) (oi := { dst := some 101, op := Go.Op.move (Go.Operand.tmp 100), type := 4, pos := "law.go:102", after := #[{ on := 8, ground := Go.Ground.data }], guard := none }) (v := ?_) rfl (by kernel_rfl) (by kernel_rfl) (by kernel_rfl) (fun _ _ _ h => h) (Or.inl ⟨by rfl, ?_⟩) (by assumption) ?_
              (rotate_left; focus (intro wS hSw; have s0 := (HCJ.out wS hSw).1; have s1 := (HCJ.out wS hSw).2.1; have s2 := (HCJ.out wS hSw).2.2; have s3 := (HCM.out wS hSw).1; have s4 := (HCM.out wS hSw).2.1; clear hSw; go_simp; (try rw [if_neg (by omega)]); try with_reducible rfl))
              (try simp only [Act.put, List.setIfInBounds_toArray, List.set_cons_zero, List.set_cons_succ])
              refine wpAnyH_take (i := 10) (oi := { dst := some 102, op := Go.Op.fieldAddr 31 (Go.Operand.tmp 8) 2, type := 0, pos := "law.go:102", after := #[{ on := 9, ground := Go.Ground.guard }], guard := some (9, true) }) (v := ?_) rfl (by kernel_rfl) (by kernel_rfl) (by kernel_rfl) (fun _ _ _ h => h) (Or.inl ⟨by rfl, ?_⟩) (by assumption) ?_
              (rotate_left; focus (intro wS hSw; have s0 := (HCJ.out wS hSw).1; have s1 := (HCJ.out wS hSw).2.1; have s2 := (HCJ.out wS hSw).2.2; have s3 := (HCM.out wS hSw).1; have s4 := (HCM.out wS hSw).2.1; clear hSw; go_simp; (try rw [if_neg (by omega)]); try with_reducible rfl))
              (try simp only [Act.put, List.setIfInBounds_toArray, List.set_cons_zero, List.set_cons_succ])
              refine wpAnyH_take (i := 11) (oi := { dst := some 103, op := Go.Op.load 23 (Go.Operand.tmp 102), type := 23, pos := "law.go:102", after := #[{ on := 10, ground := Go.Ground.data }, { on := 9, ground := Go.Ground.guard }], guard := some (9, true) }) (v := ?_) rfl (by kernel_rfl) (by kernel_rfl) (by kernel_rfl) (fun _ _ _ h => h) (Or.inl ⟨by rfl, ?_⟩) (by assumption) ?_
              (rotate_left; focus (intro wS hSw; have s0 := (HCJ.out wS hSw).1; have s1 := (HCJ.out wS hSw).2.1; have s2 := (HCJ.out wS hSw).2.2; have s3 := (HCM.out wS hSw).1; have s4 := (HCM.out wS hSw).2.1; clear hSw; go_simp; (try rw [if_neg (by omega)]); try with_reducible rfl))
              (try simp only [Act.put, List.setIfInBounds_toArray, List.set_cons_zero, List.set_cons_succ])
              refine wpAnyH_take (i := 12) (oi := { dst := some 104, op := Go.Op.move (Go.Operand.tmp 11), type := 3, pos := "law.go:102", after := #[{ on := 9, ground := Go.Ground.guard }], guard := some (9, true) }) (v := ?_) rfl (by kernel_rfl) (by kernel_rfl) (by kernel_rfl) (fun _ _ _ h => h) (Or.inl ⟨by rfl, ?_⟩) (by assumption) ?_
              (rotate_left; focus (intro wS hSw; have s0 := (HCJ.out wS hSw).1; have s1 := (HCJ.out wS hSw).2.1; have s2 := (HCJ.out wS hSw).2.2; have s3 := (HCM.out wS hSw).1; have s4 := (HCM.out wS hSw).2.1; clear hSw; go_simp; (try rw [if_neg (by omega)]); try with_reducible rfl))
              (try simp only [Act.put, List.setIfInBounds_toArray, List.set_cons_zero, List.set_cons_succ])
              refine wpAnyH_take (i := 13) (oi := { dst := some 105, op := Go.Op.indexAddr 23 (Go.Operand.tmp 103) (Go.Operand.tmp 104), type := 0, pos := "law.go:102", after := #[{ on := 11, ground := Go.Ground.data }, { on := 12, ground := Go.Ground.data }, { on := 9, ground := Go.Ground.guard }], guard := some (9, true) }) (v := ?_) rfl (by kernel_rfl) (by kernel_rfl) (by kernel_rfl) (fun _ _ _ h => h) (Or.inl ⟨by rfl, ?_⟩) (by assumption) ?_
              (rotate_left; focus (intro wS hSw; have s0 := (HCJ.out wS hSw).1; have s1 := (HCJ.out wS hSw).2.1; have s2 := (HCJ.out wS hSw).2.2; have s3 := (HCM.out wS hSw).1; have s4 := (HCM.out wS hSw).2.1; clear hSw; go_simp; (try rw [if_neg (by omega)]); try with_reducible rfl))
              (try simp only [Act.put, List.setIfInBounds_toArray, List.set_cons_zero, List.set_cons_succ])
              refine wpAnyH_take (i := 14) (oi := { dst := some 106, op := Go.Op.load 9 (Go.Operand.tmp 105), type := 9, pos := "law.go:102", after := #[{ on := 13, ground := Go.Ground.data }, { on := 9, ground := Go.Ground.guard }], guard := some (9, true) }) (v := ?_) rfl (by kernel_rfl) (by kernel_rfl) (by kernel_rfl) (fun _ _ _ h => h) (Or.inl ⟨by rfl, ?_⟩) (by assumption) ?_
              (rotate_left; focus (intro wS hSw; have s0 := (HCJ.out wS hSw).1; have s1 := (HCJ.out wS hSw).2.1; have s2 := (HCJ.out wS hSw).2.2; have s3 := (HCM.out wS hSw).1; have s4 := (HCM.out wS hSw).2.1; clear hSw; go_simp; (try rw [if_neg (by omega)]); try with_reducible rfl))
              (try simp only [Act.put, List.setIfInBounds_toArray, List.set_cons_zero, List.set_cons_succ])
              refine wpAnyH_take (i := 15) (oi := { dst := some 107, op := Go.Op.fieldAddr 31 (Go.Operand.tmp 8) 2, type := 0, pos := "law.go:102", after := #[{ on := 9, ground := Go.Ground.guard }], guard := some (9, true) }) (v := ?_) rfl (by kernel_rfl) (by kernel_rfl) (by kernel_rfl) (fun _ _ _ h => h) (Or.inl ⟨by rfl, ?_⟩) (by assumption) ?_
              (rotate_left; focus (intro wS hSw; have s0 := (HCJ.out wS hSw).1; have s1 := (HCJ.out wS hSw).2.1; have s2 := (HCJ.out wS hSw).2.2; have s3 := (HCM.out wS hSw).1; have s4 := (HCM.out wS hSw).2.1; clear hSw; go_simp; (try rw [if_neg (by omega)]); try with_reducible rfl))
              (try simp only [Act.put, List.setIfInBounds_toArray, List.set_cons_zero, List.set_cons_succ])
              refine wpAnyH_take (i := 16) (oi := { dst := some 108, op := Go.Op.load 23 (Go.Operand.tmp 107), type := 23, pos := "law.go:102", after := #[{ on := 15, ground := Go.Ground.data }, { on := 9, ground := Go.Ground.guard }], guard := some (9, true) }) (v := ?_) rfl (by kernel_rfl) (by kernel_rfl) (by kernel_rfl) (fun _ _ _ h => h) (Or.inl ⟨by rfl, ?_⟩) (by assumption) ?_
              (rotate_left; focus (intro wS hSw; have s0 := (HCJ.out wS hSw).1; have s1 := (HCJ.out wS hSw).2.1; have s2 := (HCJ.out wS hSw).2.2; have s3 := (HCM.out wS hSw).1; have s4 := (HCM.out wS hSw).2.1; clear hSw; go_simp; (try rw [if_neg (by omega)]); try with_reducible rfl))
              (try simp only [Act.put, List.setIfInBounds_toArray, List.set_cons_zero, List.set_cons_succ])
              refine wpAnyH_take (i := 17) (oi := { dst := some 109, op := Go.Op.move (Go.Operand.tmp 10), type := 3, pos := "law.go:102", after := #[{ on := 9, ground := Go.Ground.guard }], guard := some (9, true) }) (v := ?_) rfl (by kernel_rfl) (by kernel_rfl) (by kernel_rfl) (fun _ _ _ h => h) (Or.inl ⟨by rfl, ?_⟩) (by assumption) ?_
              (rotate_left; focus (intro wS hSw; have s0 := (HCJ.out wS hSw).1; have s1 := (HCJ.out wS hSw).2.1; have s2 := (HCJ.out wS hSw).2.2; have s3 := (HCM.out wS hSw).1; have s4 := (HCM.out wS hSw).2.1; clear hSw; go_simp; (try rw [if_neg (by omega)]); try with_reducible rfl))
              (try simp only [Act.put, List.setIfInBounds_toArray, List.set_cons_zero, List.set_cons_succ])
              refine wpAnyH_take (i := 18) (oi := { dst := some 110, op := Go.Op.indexAddr 23 (Go.Operand.tmp 108) (Go.Operand.tmp 109), type := 0, pos := "law.go:102", after := #[{ on := 16, ground := Go.Ground.data }, { on := 17, ground := Go.Ground.data }, { on := 9, ground := Go.Ground.guard }], guard := some (9, true) }) (v := ?_) rfl (by kernel_rfl) (by kernel_rfl) (by kernel_rfl) (fun _ _ _ h => h) (Or.inl ⟨by rfl, ?_⟩) (by assumption) ?_
              (rotate_left; focus (intro wS hSw; have s0 := (HCJ.out wS hSw).1; have s1 := (HCJ.out wS hSw).2.1; have s2 := (HCJ.out wS hSw).2.2; have s3 := (HCM.out wS hSw).1; have s4 := (HCM.out wS hSw).2.1; clear hSw; go_simp; (try rw [if_neg (by omega)]); try with_reducible rfl))
              (try simp only [Act.put, List.setIfInBounds_toArray, List.set_cons_zero, List.set_cons_succ])
              refine wpAnyH_take (i := 19) (oi := { dst := some 111, op := Go.Op.load 9 (Go.Operand.tmp 110), type := 9, pos := "law.go:102", after := #[{ on := 18, ground := Go.Ground.data }, { on := 9, ground := Go.Ground.guard }], guard := some (9, true) }) (v := ?_) rfl (by kernel_rfl) (by kernel_rfl) (by kernel_rfl) (fun _ _ _ h => h) (Or.inl ⟨by rfl, ?_⟩) (by assumption) ?_
              (rotate_left; focus (intro wS hSw; have s0 := (HCJ.out wS hSw).1; have s1 := (HCJ.out wS hSw).2.1; have s2 := (HCJ.out wS hSw).2.2; have s3 := (HCM.out wS hSw).1; have s4 := (HCM.out wS hSw).2.1; clear hSw; go_simp; (try rw [if_neg (by omega)]); try with_reducible rfl))
              (try simp only [Act.put, List.setIfInBounds_toArray, List.set_cons_zero, List.set_cons_succ])
              refine wpAnyH_take (i := 20) (oi := { dst := some 112, op := Go.Op.binOp Go.BinOp.neq 9 (Go.Operand.tmp 106) (Go.Operand.tmp 111) 9, type := 4, pos := "law.go:102", after := #[{ on := 14, ground := Go.Ground.data }, { on := 19, ground := Go.Ground.data }, { on := 9, ground := Go.Ground.guard }], guard := some (9, true) }) (v := ?_) rfl (by kernel_rfl) (by kernel_rfl) (by kernel_rfl) (fun _ _ _ h => h) (Or.inl ⟨by rfl, ?_⟩) (by assumption) ?_
              (rotate_left; focus (intro wS hSw; have s0 := (HCJ.out wS hSw).1; have s1 := (HCJ.out wS hSw).2.1; have s2 := (HCJ.out wS hSw).2.2; have s3 := (HCM.out wS hSw).1; have s4 := (HCM.out wS hSw).2.1; clear hSw; go_simp; (try rw [if_neg (by omega)]); try with_reducible rfl))
              (try simp only [Act.put, List.setIfInBounds_toArray, List.set_cons_zero, List.set_cons_succ])
              refine wpAnyH_take (i := 21) (oi := { dst := some 113, op := Go.Op.pick (Go.Operand.tmp 101) (Go.Operand.tmp 112) (Go.Operand.const (Go.Value.bool false)), type := 4, pos := "law.go:102", after := #[{ on := 9, ground := Go.Ground.data }, { on := 20, ground := Go.Ground.data }], guard := none }) (v := ?_) rfl (by kernel_rfl) (by kernel_rfl) (by kernel_rfl) (fun _ _ _ h => h) (Or.inl ⟨by rfl, ?_⟩) (by assumption) ?_
              (rotate_left; focus (intro wS hSw; have s0 := (HCJ.out wS hSw).1; have s1 := (HCJ.out wS hSw).2.1; have s2 := (HCJ.out wS hSw).2.2; have s3 := (HCM.out wS hSw).1; have s4 := (HCM.out wS hSw).2.1; clear hSw; go_simp; (try rw [if_neg (by omega)]); try with_reducible rfl))
              (try simp only [Act.put, List.setIfInBounds_toArray, List.set_cons_zero, List.set_cons_succ])
              refine wpAnyH_done (by kernel_rfl) ?_ _
              clear hP0
              go_wp2
              go_roundw
              case rel => exact ⟨m + 1, by go_num, by omega, HBI.out.drew⟩
              case measure => simp [intOf]; omega
            · have e1 := str_ne e
              clear e
              refine wp_region_held_drew (S := fun w' => Below W2.heap.size W2 w') (by kernel_rfl) (by (first | exact hP0)) (fun hHeld => ?_)
              refine wpAnyH_take (i := 0) (oi := { dst := some 92, op := Go.Op.move (Go.Operand.tmp 6), type := 23, pos := "law.go:102", after := #[], guard := none }) (v := ?_) rfl (by kernel_rfl) (by kernel_rfl) (by kernel_rfl) (fun _ _ _ h => h) (Or.inl ⟨by rfl, ?_⟩) (by assumption) ?_
              (rotate_left; focus (intro wS hSw; have s0 := (HCJ.out wS hSw).1; have s1 := (HCJ.out wS hSw).2.1; have s2 := (HCJ.out wS hSw).2.2; have s3 := (HCM.out wS hSw).1; have s4 := (HCM.out wS hSw).2.1; clear hSw; go_simp; (try rw [if_neg (by omega)]); try with_reducible rfl))
              (try simp only [Act.put, List.setIfInBounds_toArray, List.set_cons_zero, List.set_cons_succ])
              refine wpAnyH_take (i := 1) (oi := { dst := some 93, op := Go.Op.move (Go.Operand.tmp 11), type := 3, pos := "law.go:102", after := #[], guard := none }) (v := ?_) rfl (by kernel_rfl) (by kernel_rfl) (by kernel_rfl) (fun _ _ _ h => h) (Or.inl ⟨by rfl, ?_⟩) (by assumption) ?_
              (rotate_left; focus (intro wS hSw; have s0 := (HCJ.out wS hSw).1; have s1 := (HCJ.out wS hSw).2.1; have s2 := (HCJ.out wS hSw).2.2; have s3 := (HCM.out wS hSw).1; have s4 := (HCM.out wS hSw).2.1; clear hSw; go_simp; (try rw [if_neg (by omega)]); try with_reducible rfl))
              (try simp only [Act.put, List.setIfInBounds_toArray, List.set_cons_zero, List.set_cons_succ])
              refine wpAnyH_take (i := 2) (oi := { dst := some 94, op := Go.Op.indexAddr 23 (Go.Operand.tmp 92) (Go.Operand.tmp 93), type := 0, pos := "law.go:102", after := #[{ on := 0, ground := Go.Ground.data }, { on := 1, ground := Go.Ground.data }], guard := none }) (v := ?_) rfl (by kernel_rfl) (by kernel_rfl) (by kernel_rfl) (fun _ _ _ h => h) (Or.inl ⟨by rfl, ?_⟩) (by assumption) ?_
              (rotate_left; focus (intro wS hSw; have s0 := (HCJ.out wS hSw).1; have s1 := (HCJ.out wS hSw).2.1; have s2 := (HCJ.out wS hSw).2.2; have s3 := (HCM.out wS hSw).1; have s4 := (HCM.out wS hSw).2.1; clear hSw; go_simp; (try rw [if_neg (by omega)]); try with_reducible rfl))
              (try simp only [Act.put, List.setIfInBounds_toArray, List.set_cons_zero, List.set_cons_succ])
              refine wpAnyH_take (i := 3) (oi := { dst := some 95, op := Go.Op.load 9 (Go.Operand.tmp 94), type := 9, pos := "law.go:102", after := #[{ on := 2, ground := Go.Ground.data }], guard := none }) (v := ?_) rfl (by kernel_rfl) (by kernel_rfl) (by kernel_rfl) (fun _ _ _ h => h) (Or.inl ⟨by rfl, ?_⟩) (by assumption) ?_
              (rotate_left; focus (intro wS hSw; have s0 := (HCJ.out wS hSw).1; have s1 := (HCJ.out wS hSw).2.1; have s2 := (HCJ.out wS hSw).2.2; have s3 := (HCM.out wS hSw).1; have s4 := (HCM.out wS hSw).2.1; clear hSw; go_simp; (try rw [if_neg (by omega)]); try with_reducible rfl))
              (try simp only [Act.put, List.setIfInBounds_toArray, List.set_cons_zero, List.set_cons_succ])
              refine wpAnyH_take (i := 4) (oi := { dst := some 96, op := Go.Op.move (Go.Operand.tmp 6), type := 23, pos := "law.go:102", after := #[], guard := none }) (v := ?_) rfl (by kernel_rfl) (by kernel_rfl) (by kernel_rfl) (fun _ _ _ h => h) (Or.inl ⟨by rfl, ?_⟩) (by assumption) ?_
              (rotate_left; focus (intro wS hSw; have s0 := (HCJ.out wS hSw).1; have s1 := (HCJ.out wS hSw).2.1; have s2 := (HCJ.out wS hSw).2.2; have s3 := (HCM.out wS hSw).1; have s4 := (HCM.out wS hSw).2.1; clear hSw; go_simp; (try rw [if_neg (by omega)]); try with_reducible rfl))
              (try simp only [Act.put, List.setIfInBounds_toArray, List.set_cons_zero, List.set_cons_succ])
              refine wpAnyH_take (i := 5) (oi := { dst := some 97, op := Go.Op.move (Go.Operand.tmp 10), type := 3, pos := "law.go:102", after := #[], guard := none }) (v := ?_) rfl (by kernel_rfl) (by kernel_rfl) (by kernel_rfl) (fun _ _ _ h => h) (Or.inl ⟨by rfl, ?_⟩) (by assumption) ?_
              (rotate_left; focus (intro wS hSw; have s0 := (HCJ.out wS hSw).1; have s1 := (HCJ.out wS hSw).2.1; have s2 := (HCJ.out wS hSw).2.2; have s3 := (HCM.out wS hSw).1; have s4 := (HCM.out wS hSw).2.1; clear hSw; go_simp; (try rw [if_neg (by omega)]); try with_reducible rfl))
              (try simp only [Act.put, List.setIfInBounds_toArray, List.set_cons_zero, List.set_cons_succ])
              refine wpAnyH_take (i := 6) (oi := { dst := some 98, op := Go.Op.indexAddr 23 (Go.Operand.tmp 96) (Go.Operand.tmp 97), type := 0, pos := "law.go:102", after := #[{ on := 4, ground := Go.Ground.data }, { on := 5, ground := Go.Ground.data }], guard := none }) (v := ?_) rfl (by kernel_rfl) (by kernel_rfl) (by kernel_rfl) (fun _ _ _ h => h) (Or.inl ⟨by rfl, ?_⟩) (by assumption) ?_
              (rotate_left; focus (intro wS hSw; have s0 := (HCJ.out wS hSw).1; have s1 := (HCJ.out wS hSw).2.1; have s2 := (HCJ.out wS hSw).2.2; have s3 := (HCM.out wS hSw).1; have s4 := (HCM.out wS hSw).2.1; clear hSw; go_simp; (try rw [if_neg (by omega)]); try with_reducible rfl))
              (try simp only [Act.put, List.setIfInBounds_toArray, List.set_cons_zero, List.set_cons_succ])
              refine wpAnyH_take (i := 7) (oi := { dst := some 99, op := Go.Op.load 9 (Go.Operand.tmp 98), type := 9, pos := "law.go:102", after := #[{ on := 6, ground := Go.Ground.data }], guard := none }) (v := ?_) rfl (by kernel_rfl) (by kernel_rfl) (by kernel_rfl) (fun _ _ _ h => h) (Or.inl ⟨by rfl, ?_⟩) (by assumption) ?_
              (rotate_left; focus (intro wS hSw; have s0 := (HCJ.out wS hSw).1; have s1 := (HCJ.out wS hSw).2.1; have s2 := (HCJ.out wS hSw).2.2; have s3 := (HCM.out wS hSw).1; have s4 := (HCM.out wS hSw).2.1; clear hSw; go_simp; (try rw [if_neg (by omega)]); try with_reducible rfl))
              (try simp only [Act.put, List.setIfInBounds_toArray, List.set_cons_zero, List.set_cons_succ])
              refine wpAnyH_take (i := 8) (oi := { dst := some 100, op := Go.Op.binOp Go.BinOp.eql 9 (Go.Operand.tmp 95) (Go.Operand.tmp 99) 9, type := 4, pos := "law.go:102", after := #[{ on := 3, ground := Go.Ground.data }, { on := 7, ground := Go.Ground.data }], guard := none }) (v := ?_) rfl (by kernel_rfl) (by kernel_rfl) (by kernel_rfl) (fun _ _ _ h => h) (Or.inl ⟨by rfl, ?_⟩) (by assumption) ?_
              (rotate_left; focus (intro wS hSw; have s0 := (HCJ.out wS hSw).1; have s1 := (HCJ.out wS hSw).2.1; have s2 := (HCJ.out wS hSw).2.2; have s3 := (HCM.out wS hSw).1; have s4 := (HCM.out wS hSw).2.1; clear hSw; go_simp; (try rw [if_neg (by omega)]); try with_reducible rfl))
              (try simp only [Act.put, List.setIfInBounds_toArray, List.set_cons_zero, List.set_cons_succ])
              refine wpAnyH_take (i := 9) (oi := { dst := some 101, op := Go.Op.move (Go.Operand.tmp 100), type := 4, pos := "law.go:102", after := #[{ on := 8, ground := Go.Ground.data }], guard := none }) (v := ?_) rfl (by kernel_rfl) (by kernel_rfl) (by kernel_rfl) (fun _ _ _ h => h) (Or.inl ⟨by rfl, ?_⟩) (by assumption) ?_
              (rotate_left; focus (intro wS hSw; have s0 := (HCJ.out wS hSw).1; have s1 := (HCJ.out wS hSw).2.1; have s2 := (HCJ.out wS hSw).2.2; have s3 := (HCM.out wS hSw).1; have s4 := (HCM.out wS hSw).2.1; clear hSw; go_simp; (try rw [if_neg (by omega)]); try with_reducible rfl))
              (try simp only [Act.put, List.setIfInBounds_toArray, List.set_cons_zero, List.set_cons_succ])
              refine wpAnyH_take (i := 10) (oi := { dst := some 102, op := Go.Op.fieldAddr 31 (Go.Operand.tmp 8) 2, type := 0, pos := "law.go:102", after := #[{ on := 9, ground := Go.Ground.guard }], guard := some (9, true) }) (v := undef) rfl (by kernel_rfl) (by kernel_rfl) (by kernel_rfl) (fun _ _ _ h => h) (Or.inr ⟨by rfl, rfl⟩) (by assumption) ?_
              (try simp only [Act.put, List.setIfInBounds_toArray, List.set_cons_zero, List.set_cons_succ])
              refine wpAnyH_take (i := 11) (oi := { dst := some 103, op := Go.Op.load 23 (Go.Operand.tmp 102), type := 23, pos := "law.go:102", after := #[{ on := 10, ground := Go.Ground.data }, { on := 9, ground := Go.Ground.guard }], guard := some (9, true) }) (v := undef) rfl (by kernel_rfl) (by kernel_rfl) (by kernel_rfl) (fun _ _ _ h => h) (Or.inr ⟨by rfl, rfl⟩) (by assumption) ?_
              (try simp only [Act.put, List.setIfInBounds_toArray, List.set_cons_zero, List.set_cons_succ])
              refine wpAnyH_take (i := 12) (oi := { dst := some 104, op := Go.Op.move (Go.Operand.tmp 11), type := 3, pos := "law.go:102", after := #[{ on := 9, ground := Go.Ground.guard }], guard := some (9, true) }) (v := undef) rfl (by kernel_rfl) (by kernel_rfl) (by kernel_rfl) (fun _ _ _ h => h) (Or.inr ⟨by rfl, rfl⟩) (by assumption) ?_
              (try simp only [Act.put, List.setIfInBounds_toArray, List.set_cons_zero, List.set_cons_succ])
              refine wpAnyH_take (i := 13) (oi := { dst := some 105, op := Go.Op.indexAddr 23 (Go.Operand.tmp 103) (Go.Operand.tmp 104), type := 0, pos := "law.go:102", after := #[{ on := 11, ground := Go.Ground.data }, { on := 12, ground := Go.Ground.data }, { on := 9, ground := Go.Ground.guard }], guard := some (9, true) }) (v := undef) rfl (by kernel_rfl) (by kernel_rfl) (by kernel_rfl) (fun _ _ _ h => h) (Or.inr ⟨by rfl, rfl⟩) (by assumption) ?_
              (try simp only [Act.put, List.setIfInBounds_toArray, List.set_cons_zero, List.set_cons_succ])
              refine wpAnyH_take (i := 14) (oi := { dst := some 106, op := Go.Op.load 9 (Go.Operand.tmp 105), type := 9, pos := "law.go:102", after := #[{ on := 13, ground := Go.Ground.data }, { on := 9, ground := Go.Ground.guard }], guard := some (9, true) }) (v := undef) rfl (by kernel_rfl) (by kernel_rfl) (by kernel_rfl) (fun _ _ _ h => h) (Or.inr ⟨by rfl, rfl⟩) (by assumption) ?_
              (try simp only [Act.put, List.setIfInBounds_toArray, List.set_cons_zero, List.set_cons_succ])
              refine wpAnyH_take (i := 15) (oi := { dst := some 107, op := Go.Op.fieldAddr 31 (Go.Operand.tmp 8) 2, type := 0, pos := "law.go:102", after := #[{ on := 9, ground := Go.Ground.guard }], guard := some (9, true) }) (v := undef) rfl (by kernel_rfl) (by kernel_rfl) (by kernel_rfl) (fun _ _ _ h => h) (Or.inr ⟨by rfl, rfl⟩) (by assumption) ?_
              (try simp only [Act.put, List.setIfInBounds_toArray, List.set_cons_zero, List.set_cons_succ])
              refine wpAnyH_take (i := 16) (oi := { dst := some 108, op := Go.Op.load 23 (Go.Operand.tmp 107), type := 23, pos := "law.go:102", after := #[{ on := 15, ground := Go.Ground.data }, { on := 9, ground := Go.Ground.guard }], guard := some (9, true) }) (v := undef) rfl (by kernel_rfl) (by kernel_rfl) (by kernel_rfl) (fun _ _ _ h => h) (Or.inr ⟨by rfl, rfl⟩) (by assumption) ?_
              (try simp only [Act.put, List.setIfInBounds_toArray, List.set_cons_zero, List.set_cons_succ])
              refine wpAnyH_take (i := 17) (oi := { dst := some 109, op := Go.Op.move (Go.Operand.tmp 10), type := 3, pos := "law.go:102", after := #[{ on := 9, ground := Go.Ground.guard }], guard := some (9, true) }) (v := undef) rfl (by kernel_rfl) (by kernel_rfl) (by kernel_rfl) (fun _ _ _ h => h) (Or.inr ⟨by rfl, rfl⟩) (by assumption) ?_
              (try simp only [Act.put, List.setIfInBounds_toArray, List.set_cons_zero, List.set_cons_succ])
              refine wpAnyH_take (i := 18) (oi := { dst := some 110, op := Go.Op.indexAddr 23 (Go.Operand.tmp 108) (Go.Operand.tmp 109), type := 0, pos := "law.go:102", after := #[{ on := 16, ground := Go.Ground.data }, { on := 17, ground := Go.Ground.data }, { on := 9, ground := Go.Ground.guard }], guard := some (9, true) }) (v := undef) rfl (by kernel_rfl) (by kernel_rfl) (by kernel_rfl) (fun _ _ _ h => h) (Or.inr ⟨by rfl, rfl⟩) (by assumption) ?_
              (try simp only [Act.put, List.setIfInBounds_toArray, List.set_cons_zero, List.set_cons_succ])
              refine wpAnyH_take (i := 19) (oi := { dst := some 111, op := Go.Op.load 9 (Go.Operand.tmp 110), type := 9, pos := "law.go:102", after := #[{ on := 18, ground := Go.Ground.data }, { on := 9, ground := Go.Ground.guard }], guard := some (9, true) }) (v := undef) rfl (by kernel_rfl) (by kernel_rfl) (by kernel_rfl) (fun _ _ _ h => h) (Or.inr ⟨by rfl, rfl⟩) (by assumption) ?_
              (try simp only [Act.put, List.setIfInBounds_toArray, List.set_cons_zero, List.set_cons_succ])
              refine wpAnyH_take (i := 20) (oi := { dst := some 112, op := Go.Op.binOp Go.BinOp.neq 9 (Go.Operand.tmp 106) (Go.Operand.tmp 111) 9, type := 4, pos := "law.go:102", after := #[{ on := 14, ground := Go.Ground.data }, { on := 19, ground := Go.Ground.data }, { on := 9, ground := Go.Ground.guard }], guard := some (9, true) }) (v := undef) rfl (by kernel_rfl) (by kernel_rfl) (by kernel_rfl) (fun _ _ _ h => h) (Or.inr ⟨by rfl, rfl⟩) (by assumption) ?_
              (try simp only [Act.put, List.setIfInBounds_toArray, List.set_cons_zero, List.set_cons_succ])
              refine wpAnyH_take (i := 21) (oi := { dst := some 113, op := Go.Op.pick (Go.Operand.tmp 101) (Go.Operand.tmp 112) (Go.Operand.const (Go.Value.bool false)), type := 4, pos := "law.go:102", after := #[{ on := 9, ground := Go.Ground.data }, { on := 20, ground := Go.Ground.data }], guard := none }) (v := ?_) rfl (by kernel_rfl) (by kernel_rfl) (by kernel_rfl) (fun _ _ _ h => h) (Or.inl ⟨by rfl, ?_⟩) (by assumption) ?_
              (rotate_left; focus (intro wS hSw; have s0 := (HCJ.out wS hSw).1; have s1 := (HCJ.out wS hSw).2.1; have s2 := (HCJ.out wS hSw).2.2; have s3 := (HCM.out wS hSw).1; have s4 := (HCM.out wS hSw).2.1; clear hSw; go_simp; (try rw [if_neg (by omega)]); try with_reducible rfl))
              (try simp only [Act.put, List.setIfInBounds_toArray, List.set_cons_zero, List.set_cons_succ])
              refine wpAnyH_done (by kernel_rfl) ?_ _
              clear hP0
              go_wp2
              go_roundw
              case rel => exact ⟨m + 1, by go_num, by omega, HBI.out.drew⟩
              case measure => simp [intOf]; omega
          · obtain rfl : m = j := by omega
            have hmm : ¬ (m : Int) < (m : Int) := by omega
            go_wp2
            go_roundw
            case rel => exact ⟨m + 1, by go_num, by omega, HBI.out⟩
            case measure => simp [intOf]; omega
    · obtain rfl : j = NL := by omega
      have hjj : ¬ (j : Int) < (j : Int) := by omega
      have HBR := Lib.hid (HB.out.trans (HBW.out.mono HB.out.size))
      go_wp2_with fail
      refine (awake_any _).mono ?_
      rintro e w3 ⟨rfl, hb⟩
      have HBR := Lib.hid (below_cons HBR.out hb)
      clear hb
      go_wp2
      go_ret
      exact ⟨rfl, HBR.out⟩
theorem sizes_law (s : ByteArray) (i : Int) (w : World) (_hs : s.size ≤ 140737488351232) (hi : (Lit.int .u8 i).wf = true) : Calls Try.prog 6 #[.string s, .int .u8 i] w fun e w' => e = .returned (.bool true) ∧ Below w.heap.size w w' := by
  have hb : 0 ≤ i ∧ i < 256 := by
    simp [Lit.wf, IntKind.min, IntKind.max, IntKind.signed, IntKind.bits] at hi
    omega
  obtain ⟨j, rfl⟩ : ∃ j : Nat, i = j := ⟨i.toNat, by omega⟩
  by_cases h1 : 600 < s.size
  · exact sizes_long s j w h1
  · exact sizes_main s j w (by omega) (by omega)
end Go.Proofs.Ytanehgnpominiaa

