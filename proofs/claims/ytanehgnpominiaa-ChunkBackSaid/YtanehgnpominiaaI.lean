/-
  The contracts of the law's own readers of a text and of texts, and of its Done.
-/
import Derived.Test.YtanehgnpominiaaH
set_option linter.unusedVariables false
set_option linter.unusedSimpArgs false
set_option maxRecDepth 100000
namespace Go.Proofs.Ytanehgnpominiaa
open Go.RowKit
theorem res_two {w W : World} {p B : Nat} {x0 x1 : Value} (h : Bk p [x0, x1] W) (hb : Below B w W) (hB : B ≤ p) (o : Obj) (v0 v1 : Value) :
    (loadVar 67 ⟨p, 0, none⟩).run Try.prog (((W.setCell ⟨p, 0, none⟩ v0).setCell ⟨p, 1, none⟩ v1).alloc o) = .ok (.agg #[v0, v1]) (((W.setCell ⟨p, 0, none⟩ v0).setCell ⟨p, 1, none⟩ v1).alloc o) ∧ Below B w (((W.setCell ⟨p, 0, none⟩ v0).setCell ⟨p, 1, none⟩ v1).alloc o) := by
  have h1 := h.1
  refine ⟨load_R ?_, ((hb.setCell (p := ⟨p, 0, none⟩) hB _).setCell (p := ⟨p, 1, none⟩) hB _).alloc (by simp; omega) _⟩
  exact ((h.set 0 (by simp) v0).set 1 (by simp) v1).keep (below_new _ _)
theorem res_drew {w W : World} {p B : Nat} {x0 x1 : Value} (h : Bk p [x0, x1] W) (hb : Below B w W) (hB : B ≤ p) (o : Obj) (v0 v1 : Value) :
    (loadVar 67 ⟨p, 0, none⟩).run Try.prog (((W.setCell ⟨p, 0, none⟩ v0).setCell ⟨p, 1, none⟩ v1).alloc o).drew = .ok (.agg #[v0, v1]) (((W.setCell ⟨p, 0, none⟩ v0).setCell ⟨p, 1, none⟩ v1).alloc o).drew ∧ Below B w (((W.setCell ⟨p, 0, none⟩ v0).setCell ⟨p, 1, none⟩ v1).alloc o).drew := by
  have h1 := h.1
  refine ⟨load_R (Bk.drew ?_), (((hb.setCell (p := ⟨p, 0, none⟩) hB _).setCell (p := ⟨p, 1, none⟩) hB _).alloc (by simp; omega) _).drew⟩
  exact ((h.set 0 (by simp) v0).set 1 (by simp) v1).keep (below_new _ _)
theorem wR_after {w w1 : World} {x0 x1 v0 v1 : Value} (hb : Below ((w.alloc (.cells #[x0, x1] 67)).alloc (.cells #[v0, v1] 67)).heap.size ((w.alloc (.cells #[x0, x1] 67)).alloc (.cells #[v0, v1] 67)) w1) :
    Bk w.heap.size [x0, x1] w1 ∧ Bk (w.heap.size + 1) [v0, v1] w1 ∧ Below w.heap.size w w1 := by
  have hk := Kp.new (S := fun _ => False) hb
  refine ⟨Bk.kp (by have := (Bk.new w 67 #[x0, x1]); exact this.keep (below_new _ _)) hk (fun h => h), Bk.kp (by have := (Bk.new (w.alloc (.cells #[x0, x1] 67)) 67 #[v0, v1]); simpa using this) hk (fun h => h), ?_⟩
  exact ((below_new w _).alloc (by simp) _).trans (hb.mono (by simp; omega))
theorem ext_ext (s : ByteArray) (k n m : Nat) (h : k + m ≤ s.size) : (s.extract k s.size).extract n m = s.extract (k + n) (k + m) := by
  apply ByteArray.ext
  simp only [ByteArray.data_extract, Array.extract_extract]
  congr 1
  have : s.data.size = s.size := rfl
  omega
def txtRR (s : ByteArray) (e : Int) : Ending := .returned (.tuple #[.agg #[.string (txtO s e).2.1, .int .i64 (txtO s e).2.2], .string (txtO s e).1])
theorem rn_any (s : ByteArray) (e : Int) (w : World) (hs : s.size ≤ 1099511627776) : Calls Try.prog 36 #[.agg #[.string s, .int .i64 e]] w fun r w' => r = numRR s e ∧ Below w.heap.size w w' := by
  by_cases he : e = 0
  · subst he; exact rn_ok s w hs
  · exact rn_err s e w he
theorem rt_err (s : ByteArray) (e0 e : Int) (w : World) (hs : s.size ≤ 1099511627776) (he : e ≠ 0) (hn : numRR s e0 = .returned (.tuple #[.agg #[.string s, .int .i64 e], .int .i64 0])) : Calls Try.prog 54 #[.agg #[.string s, .int .i64 e0]] w fun r w' => r = .returned (.tuple #[.agg #[.string s, .int .i64 e], .string ⟨#[]⟩]) ∧ Below w.heap.size w w' := by
  have e1 : (e == 0) = false := by simp [he]
  have e2 : (e != 0) = true := by simp [he]
  have HN := Lib.hid hn
  clear hn
  go_enter Try.func54, Try.ntmps54
  go_wp2_with fail
  refine (rn_any s e0 _ hs).mono ?_
  rintro r w1 ⟨rfl, hb⟩
  rw [HN.out]
  obtain ⟨r0, r1, hbb⟩ := wR_after hb
  have HR := Lib.hid (res_two r1 hbb (by omega) (.cells #[.string s, .int .i64 e] 67) (.string s) (.int .i64 e))
  obtain ⟨c0, f0⟩ := r0.2 0 _ rfl
  obtain ⟨c1, f1⟩ := r0.2 1 _ rfl
  obtain ⟨d0, g0⟩ := r1.2 0 _ rfl
  obtain ⟨d1, g1⟩ := r1.2 1 _ rfl
  have hz : w.heap.size + 1 < w1.heap.size := r1.1
  have hz2 : w.heap.size < w1.heap.size := r0.1
  clear r0 r1 hb hbb
  go_wp2
  (try simp only [Exit.inBlock, Exit.then])
  refine bodyPost_ret (res_cell rfl rfl rfl HR.out.1) rfl ?_
  exact ⟨rfl, HR.out.2⟩
theorem rt_any (s : ByteArray) (e : Int) (w : World) (hs : s.size ≤ 1099511627776) : Calls Try.prog 54 #[.agg #[.string s, .int .i64 e]] w fun r w' => r = txtRR s e ∧ Below w.heap.size w w' := by
  by_cases he : e = 0
  · subst he
    rcases readV_cases (bys s) with ⟨n, k, h, h1, h2, h3, h4⟩ | ⟨e, he, h⟩
    · have hnr : numRR s 0 = .returned (.tuple #[.agg #[.string (s.extract k s.size), .int .i64 0], .int .i64 n]) := by unfold numRR; rw [numO_ok h]
      rw [bys_len] at h4
      have hq : (s.extract k s.size).size = s.size - k := by rw [ByteArray.size_extract]; omega
      have hv : txtV s = txtI s n k := txtV_ok h
      unfold txtI at hv
      have H1 := ext_ext s k n (s.size - k) (by omega)
      have H0 := ext_ext s k 0 n
      rw [Nat.add_sub_cancel' h4] at H1
      obtain ⟨q, hqq⟩ : ∃ q, q = s.extract k s.size := ⟨_, rfl⟩
      rw [← hqq] at hq hnr H1 H0
      have HNR := Lib.hid hnr
      have HH1 := Lib.hid H1
      have HH0 := Lib.hid H0
      clear hnr h hqq H1 H0
      by_cases h8 : 65536 < n
      · rw [if_pos h8] at hv
        have HT := Lib.hid (show txtRR s 0 = _ by unfold txtRR; rw [txtO_bad (by decide) hv])
        rw [HT.out]
        have d8 : (65536 : Int) < (n : Int) := by omega
        clear hv
        go_enter Try.func54, Try.ntmps54
        go_wp2_with fail
        refine (rn_any s 0 _ hs).mono ?_
        rintro r w1 ⟨rfl, hb⟩
        rw [HNR.out]
        obtain ⟨r0, r1, hbb⟩ := wR_after hb
        have HR := Lib.hid (res_two r1 hbb (by omega) (.cells #[.string q, .int .i64 0] 67) (.string s) (.int .i64 3))
        obtain ⟨c0, f0⟩ := r0.2 0 _ rfl
        obtain ⟨c1, f1⟩ := r0.2 1 _ rfl
        obtain ⟨d0, g0⟩ := r1.2 0 _ rfl
        obtain ⟨d1, g1⟩ := r1.2 1 _ rfl
        have hz : w.heap.size + 1 < w1.heap.size := r1.1
        have hz2 : w.heap.size < w1.heap.size := r0.1
        clear r0 r1 hb hbb
        go_wp2
        (try simp only [Exit.inBlock, Exit.then])
        refine bodyPost_ret (res_cell rfl rfl rfl HR.out.1) rfl ?_
        exact ⟨rfl, HR.out.2⟩
      · rw [if_neg h8] at hv
        have d8 : ¬ (65536 : Int) < (n : Int) := by omega
        by_cases h9 : s.size < k + n
        · rw [if_pos h9] at hv
          have HT := Lib.hid (show txtRR s 0 = _ by unfold txtRR; rw [txtO_bad (by decide) hv])
          rw [HT.out]
          have d9 : (q.size : Int) < (n : Int) := by omega
          clear hv hq
          go_enter Try.func54, Try.ntmps54
          go_wp2_with fail
          refine (rn_any s 0 _ hs).mono ?_
          rintro r w1 ⟨rfl, hb⟩
          rw [HNR.out]
          obtain ⟨r0, r1, hbb⟩ := wR_after hb
          have HR := Lib.hid (res_two r1 hbb (by omega) (.cells #[.string q, .int .i64 0] 67) (.string s) (.int .i64 4))
          obtain ⟨c0, f0⟩ := r0.2 0 _ rfl
          obtain ⟨c1, f1⟩ := r0.2 1 _ rfl
          obtain ⟨d0, g0⟩ := r1.2 0 _ rfl
          obtain ⟨d1, g1⟩ := r1.2 1 _ rfl
          have hz : w.heap.size + 1 < w1.heap.size := r1.1
          have hz2 : w.heap.size < w1.heap.size := r0.1
          clear r0 r1 hb hbb
          go_wp2
          (try simp only [Exit.inBlock, Exit.then])
          refine bodyPost_ret (res_cell rfl rfl rfl HR.out.1) rfl ?_
          exact ⟨rfl, HR.out.2⟩
        · rw [if_neg h9] at hv
          have d9 : ¬ (q.size : Int) < (n : Int) := by omega
          have HT := Lib.hid (show txtRR s 0 = _ by unfold txtRR; rw [txtO_ok hv])
          rw [HT.out, ← HH1.out, show s.extract k (k + n) = q.extract 0 n from (HH0.out (by omega)).symm, ← hq]
          have b1 : (0 : Int) ≤ (n : Int) := by omega
          have b2 : (n : Int) ≤ (q.size : Int) := by omega
          clear hv hq
          go_enter Try.func54, Try.ntmps54
          go_wp2_with fail
          refine (rn_any s 0 _ hs).mono ?_
          rintro r w1 ⟨rfl, hb⟩
          rw [HNR.out]
          obtain ⟨r0, r1, hbb⟩ := wR_after hb
          have HR := Lib.hid (res_drew r1 hbb (by omega) (.cells #[.string q, .int .i64 0] 67) (.string (q.extract n q.size)) (.int .i64 0))
          obtain ⟨c0, f0⟩ := r0.2 0 _ rfl
          obtain ⟨c1, f1⟩ := r0.2 1 _ rfl
          obtain ⟨d0, g0⟩ := r1.2 0 _ rfl
          obtain ⟨d1, g1⟩ := r1.2 1 _ rfl
          have hz : w.heap.size + 1 < w1.heap.size := r1.1
          have hz2 : w.heap.size < w1.heap.size := r0.1
          clear r0 r1 hb hbb
          have hP0 : Bk w1.heap.size [.string q, .int .i64 0] (w1.alloc (.cells #[.string q, .int .i64 0] 67)) := Bk.new _ _ _
          have hP1 : Bk w1.heap.size [.string q, .int .i64 0] (((w1.setCell ⟨w.heap.size + 1, 0, none⟩ (.string (q.extract n q.size))).setCell ⟨w.heap.size + 1, 1, none⟩ (.int .i64 0)).alloc (.cells #[.string q, .int .i64 0] 67)) := by
            have := Bk.new ((w1.setCell ⟨w.heap.size + 1, 0, none⟩ (.string (q.extract n q.size))).setCell ⟨w.heap.size + 1, 1, none⟩ (.int .i64 0)) 67 #[.string q, .int .i64 0]
            simpa using this
          have HP0 := Lib.hid hP0
          have HP1 := Lib.hid hP1
          clear hP0 hP1
          go_wp2
          refine wp_region_held_drew (S := fun w' => Bk w1.heap.size [.string q, .int .i64 0] w') (by kernel_rfl) (by (first | exact HP0.out | exact HP1.out)) (fun hHeld => ?_)
          refine wpAnyH_take (i := 0) (oi := { dst := some 35, op := Go.Op.fieldAddr 67 (Go.Operand.tmp 4) 0, type := 0, pos := "ref.go:97", after := #[], guard := none }) (v := ?_) rfl (by kernel_rfl) (by kernel_rfl) (by kernel_rfl) (fun _ _ _ h => h) (Or.inl ⟨by rfl, ?_⟩) (by assumption) ?_
          (rotate_left; focus (intro wS hSw; have s0 := (hSw.2 0 _ rfl).1; clear hSw; go_simp; (try rw [if_neg (by omega)]); try with_reducible rfl))
          (try simp only [Act.put, List.setIfInBounds_toArray, List.set_cons_zero, List.set_cons_succ])
          refine wpAnyH_take (i := 1) (oi := { dst := some 36, op := Go.Op.load 9 (Go.Operand.tmp 35), type := 9, pos := "ref.go:97", after := #[{ on := 0, ground := Go.Ground.data }], guard := none }) (v := ?_) rfl (by kernel_rfl) (by kernel_rfl) (by kernel_rfl) (fun _ _ _ h => h) (Or.inl ⟨by rfl, ?_⟩) (by assumption) ?_
          (rotate_left; focus (intro wS hSw; have s0 := (hSw.2 0 _ rfl).1; clear hSw; go_simp; (try rw [if_neg (by omega)]); try with_reducible rfl))
          (try simp only [Act.put, List.setIfInBounds_toArray, List.set_cons_zero, List.set_cons_succ])
          refine wpAnyH_take (i := 2) (oi := { dst := some 37, op := Go.Op.move (Go.Operand.tmp 5), type := 3, pos := "ref.go:97", after := #[], guard := none }) (v := ?_) rfl (by kernel_rfl) (by kernel_rfl) (by kernel_rfl) (fun _ _ _ h => h) (Or.inl ⟨by rfl, ?_⟩) (by assumption) ?_
          (rotate_left; focus (intro wS hSw; have s0 := (hSw.2 0 _ rfl).1; clear hSw; go_simp; (try rw [if_neg (by omega)]); try with_reducible rfl))
          (try simp only [Act.put, List.setIfInBounds_toArray, List.set_cons_zero, List.set_cons_succ])
          refine wpAnyH_take (i := 3) (oi := { dst := some 38, op := Go.Op.slice 9 (Go.Operand.tmp 36) (some (Go.Operand.tmp 37)) none none, type := 9, pos := "ref.go:97", after := #[{ on := 1, ground := Go.Ground.data }, { on := 2, ground := Go.Ground.data }], guard := none }) (v := ?_) rfl (by kernel_rfl) (by kernel_rfl) (by kernel_rfl) (fun _ _ _ h => h) (Or.inl ⟨by rfl, ?_⟩) (by assumption) ?_
          (rotate_left; focus (intro wS hSw; ((try dsimp only at hSw); clear hSw; go_simp; (try rw [if_pos (by omega)]); try with_reducible rfl)))
          (try simp only [Act.put, List.setIfInBounds_toArray, List.set_cons_zero, List.set_cons_succ])
          refine wpAnyH_take (i := 4) (oi := { dst := some 39, op := Go.Op.build 67 #[(0, Go.Operand.tmp 38), (1, Go.Operand.const (Go.Value.int Go.IntKind.i64 0))], type := 67, pos := "ref.go:97", after := #[{ on := 3, ground := Go.Ground.data }], guard := none }) (v := ?_) rfl (by kernel_rfl) (by kernel_rfl) (by kernel_rfl) (fun _ _ _ h => h) (Or.inl ⟨by rfl, ?_⟩) (by assumption) ?_
          (rotate_left; focus (intro wS hSw; have s0 := (hSw.2 0 _ rfl).1; clear hSw; go_simp; (try rw [if_neg (by omega)]); try with_reducible rfl))
          (try simp only [Act.put, List.setIfInBounds_toArray, List.set_cons_zero, List.set_cons_succ])
          refine wpAnyH_take (i := 5) (oi := { dst := some 40, op := Go.Op.fieldAddr 67 (Go.Operand.tmp 4) 0, type := 0, pos := "ref.go:97", after := #[], guard := none }) (v := ?_) rfl (by kernel_rfl) (by kernel_rfl) (by kernel_rfl) (fun _ _ _ h => h) (Or.inl ⟨by rfl, ?_⟩) (by assumption) ?_
          (rotate_left; focus (intro wS hSw; have s0 := (hSw.2 0 _ rfl).1; clear hSw; go_simp; (try rw [if_neg (by omega)]); try with_reducible rfl))
          (try simp only [Act.put, List.setIfInBounds_toArray, List.set_cons_zero, List.set_cons_succ])
          refine wpAnyH_take (i := 6) (oi := { dst := some 41, op := Go.Op.load 9 (Go.Operand.tmp 40), type := 9, pos := "ref.go:97", after := #[{ on := 5, ground := Go.Ground.data }], guard := none }) (v := ?_) rfl (by kernel_rfl) (by kernel_rfl) (by kernel_rfl) (fun _ _ _ h => h) (Or.inl ⟨by rfl, ?_⟩) (by assumption) ?_
          (rotate_left; focus (intro wS hSw; have s0 := (hSw.2 0 _ rfl).1; clear hSw; go_simp; (try rw [if_neg (by omega)]); try with_reducible rfl))
          (try simp only [Act.put, List.setIfInBounds_toArray, List.set_cons_zero, List.set_cons_succ])
          refine wpAnyH_take (i := 7) (oi := { dst := some 42, op := Go.Op.move (Go.Operand.tmp 5), type := 3, pos := "ref.go:97", after := #[], guard := none }) (v := ?_) rfl (by kernel_rfl) (by kernel_rfl) (by kernel_rfl) (fun _ _ _ h => h) (Or.inl ⟨by rfl, ?_⟩) (by assumption) ?_
          (rotate_left; focus (intro wS hSw; have s0 := (hSw.2 0 _ rfl).1; clear hSw; go_simp; (try rw [if_neg (by omega)]); try with_reducible rfl))
          (try simp only [Act.put, List.setIfInBounds_toArray, List.set_cons_zero, List.set_cons_succ])
          refine wpAnyH_take (i := 8) (oi := { dst := some 43, op := Go.Op.slice 9 (Go.Operand.tmp 41) none (some (Go.Operand.tmp 42)) none, type := 9, pos := "ref.go:97", after := #[{ on := 6, ground := Go.Ground.data }, { on := 7, ground := Go.Ground.data }], guard := none }) (v := ?_) rfl (by kernel_rfl) (by kernel_rfl) (by kernel_rfl) (fun _ _ _ h => h) (Or.inl ⟨by rfl, ?_⟩) (by assumption) ?_
          (rotate_left; focus (intro wS hSw; ((try dsimp only at hSw); clear hSw; go_simp; (try rw [if_pos (by omega)]); try with_reducible rfl)))
          (try simp only [Act.put, List.setIfInBounds_toArray, List.set_cons_zero, List.set_cons_succ])
          refine wpAnyH_ready (rs := [9]) (by kernel_rfl) (by simp) ?_
          refine AllReadyH.cons (o := { dst := none, op := Go.Op.store 67 (Go.Operand.tmp 2) (Go.Operand.tmp 39), type := 0, pos := "ref.go:97", after := #[{ on := 4, ground := Go.Ground.data }, { on := 0, ground := Go.Ground.phase }, { on := 1, ground := Go.Ground.phase }, { on := 2, ground := Go.Ground.phase }, { on := 3, ground := Go.Ground.phase }, { on := 4, ground := Go.Ground.phase }, { on := 5, ground := Go.Ground.textOnly Go.Departure.lateStores }, { on := 6, ground := Go.Ground.textOnly Go.Departure.lateStores }, { on := 7, ground := Go.Ground.textOnly Go.Departure.lateStores }, { on := 8, ground := Go.Ground.textOnly Go.Departure.lateStoresUnsure }], guard := none }) rfl (fun K hK => ?_) AllReadyH.nil
          go_simp
          refine hK.out _ _ (by (first | exact HP0.out | exact HP1.out)) (fun hHeld => ?_)
          clear hK K
          (try simp only [Act.put, List.setIfInBounds_toArray, List.set_cons_zero, List.set_cons_succ])
          refine wpAnyH_take (i := 10) (oi := { dst := some 3, op := Go.Op.assign (Go.Operand.tmp 43), type := 9, pos := "ref.go:97", after := #[{ on := 8, ground := Go.Ground.data }, { on := 9, ground := Go.Ground.chain }, { on := 0, ground := Go.Ground.phase }, { on := 1, ground := Go.Ground.phase }, { on := 2, ground := Go.Ground.phase }, { on := 3, ground := Go.Ground.phase }, { on := 4, ground := Go.Ground.phase }, { on := 5, ground := Go.Ground.phase }, { on := 6, ground := Go.Ground.phase }, { on := 7, ground := Go.Ground.phase }, { on := 8, ground := Go.Ground.phase }, { on := 9, ground := Go.Ground.phase }], guard := none }) (v := ?_) rfl (by kernel_rfl) (by kernel_rfl) (by kernel_rfl) (fun _ _ _ h => h) (Or.inl ⟨by rfl, ?_⟩) (by assumption) ?_
          (rotate_left; focus (intro wS hSw; have s0 := (hSw.2 0 _ rfl).1; clear hSw; go_simp; (try rw [if_neg (by omega)]); try with_reducible rfl))
          (try simp only [Act.put, List.setIfInBounds_toArray, List.set_cons_zero, List.set_cons_succ])
          refine wpAnyH_done (by kernel_rfl) ?_ _
          go_wp2
          (try simp only [Exit.inBlock, Exit.then])
          refine bodyPost_ret (res_cell rfl rfl rfl HR.out.1) rfl ?_
          exact ⟨rfl, HR.out.2⟩
    · have hx : txtRR s 0 = .returned (.tuple #[.agg #[.string s, .int .i64 e], .string ⟨#[]⟩]) := by unfold txtRR; rw [txtO_bad he (txtV_bad he h)]
      rw [hx]
      exact rt_err s 0 e w hs he (by unfold numRR; rw [numO_bad he h])
  · have hx : txtRR s e = .returned (.tuple #[.agg #[.string s, .int .i64 e], .string ⟨#[]⟩]) := by unfold txtRR; rw [txtO_err he]
    rw [hx]
    exact rt_err s e e w hs he (by unfold numRR; rw [numO_err he])
theorem rdone_any (s : ByteArray) (e : Int) (w : World) : Calls Try.prog 38 #[.agg #[.string s, .int .i64 e]] w fun r w' => r = .returned (.int .i64 (doneV s e)) ∧ Below w.heap.size w w' := by
  unfold doneV
  by_cases he : e = 0
  · subst he
    rw [if_pos rfl]
    by_cases hz : s.size = 0
    · rw [if_pos hz]
      have e2 := empty_of_zero hz
      go_enter Try.func38, Try.ntmps38
      go_wp2
      go_ret
      exact ⟨rfl, below_new _ _⟩
    · rw [if_neg hz]
      have e2 := nonempty_of_pos (b := s) (by omega)
      go_enter Try.func38, Try.ntmps38
      go_wp2
      go_ret
      exact ⟨rfl, below_new _ _⟩
  · rw [if_neg he]
    have e1 : (e == 0) = false := by simp [he]
    go_enter Try.func38, Try.ntmps38
    go_wp2
    go_ret
    exact ⟨rfl, below_new _ _⟩
end Go.Proofs.Ytanehgnpominiaa

