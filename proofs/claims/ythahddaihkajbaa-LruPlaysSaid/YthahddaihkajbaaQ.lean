/-
  The contract of the law's take.
-/
import Derived.Test.YthahddaihkajbaaP
set_option linter.unusedVariables false
set_option linter.unusedSimpArgs false
namespace Go.Proofs.Ythahddaihkajbaa
open Go.RowKit
def takeI (xs : List Itm) (k : ByteArray) : Itm × List Itm × Bool := match findI xs k with
  | some j => if h : j < xs.length then (xs[j], xs.eraseIdx j, true) else ((⟨#[]⟩, ⟨#[]⟩), xs, false)
  | none => ((⟨#[]⟩, ⟨#[]⟩), xs, false)
set_option maxRecDepth 100000 in
set_option maxHeartbeats 8000000 in
theorem take_any {B : Nat} {v : Value} {xs : List Itm} (k : ByteArray) (w : World) (h : w.ownsRow B 35 2 v xs.length (xs.flatMap encI)) (hB : B ≤ w.heap.size) (hsm : xs.length ≤ 5000) :
    Calls Try.prog 13 #[v, .string k] w fun e w' => ∃ vo, e = .returned (.tuple #[.agg #[.string (takeI xs k).1.1, .string (takeI xs k).1.2], vo, .bool (takeI xs k).2.2]) ∧
      w'.ownsRow B 35 2 vo (takeI xs k).2.1.length ((takeI xs k).2.1.flatMap encI) ∧ (∀ g, vo.ownBlock = some g → v.ownBlock = some g ∨ w.heap.size ≤ g) ∧ Below w.heap.size w w' := by
  obtain ⟨i0, hi0, hz0, hz1, hz2⟩ := info_parts infoP
  have HX : Hid (∀ j i, plcK xs k j = some i → j ≤ xs.length → findI xs k = some i) := Lib.hid (fun j i h hj => by
    have := plcK_more xs k h (xs.length - j)
    rw [show j + (xs.length - j) = xs.length by omega] at this
    exact this)
  have HNO : Hid (plcK xs k xs.length = none → takeI xs k = ((⟨#[]⟩, ⟨#[]⟩), xs, false)) := Lib.hid (fun h => by
    unfold takeI findI; rw [h])
  have HYES : Hid (∀ j (hj : j < xs.length), findI xs k = some j → takeI xs k = (xs[j], xs.eraseIdx j, true)) := Lib.hid (fun j hj h => by
    unfold takeI; rw [h]; simp only [dif_pos hj])
  generalize takeI xs k = R at *
  obtain ⟨a, cap, rfl⟩ := own_shape h
  have hA := Bk.new w 35 #[.string ⟨#[]⟩, .string ⟨#[]⟩]
  have hB1 := below_new w (.cells #[.string ⟨#[]⟩, .string ⟨#[]⟩] 35)
  have HA := Lib.hid hA; have HB1 := Lib.hid hB1; have HO1 := Lib.hid (own_kept h hB1); have H := Lib.hid h
  have HL := Lib.hid (load_var (t := 35) (fun _ => by kernel_rfl) (fun _ => by kernel_rfl) hA)
  clear hA hB1 h
  obtain ⟨n, hn⟩ : ∃ n, n = xs.length := ⟨_, rfl⟩
  have HN := Lib.hid hn
  rw [← hn] at hsm
  have hvn : (Value.slice a xs.length cap) = .slice a n cap := by rw [hn]
  rw [hvn]
  clear hvn hn
  go_enter Try.func13, Try.ntmps13
  go_wp2
  have HZ : Hid ((w.alloc (.cells #[.string ⟨#[]⟩, .string ⟨#[]⟩] 35)).heap.size = w.heap.size + 1) := Lib.hid (by simp)
  generalize (w.alloc (.cells #[.string ⟨#[]⟩, .string ⟨#[]⟩] 35)) = W1 at HA HB1 HO1 HL HZ ⊢
  go_loop [7] (fun i => ∃ j : Nat, i = .int .i64 j ∧ j ≤ n ∧ plcK xs k j = none) (fun i => n - (intOf i).toNat)
  case atStart => exact ⟨0, rfl, by omega, rfl⟩
  case round =>
    obtain ⟨j, rfl, hjn, hno⟩ := hrel
    have HN0 := Lib.hid hno
    clear hno
    by_cases h2 : j < n
    · have d2 : decide (j < n) = true := decide_eq_true h2
      have hjl : j < xs.length := by rw [← HN.out]; exact h2
      obtain ⟨g, cap', he⟩ := own_some H.out (by omega)
      simp only [Value.slice.injEq, true_and] at he
      obtain ⟨rfl, rfl⟩ := he
      obtain ⟨c0, c1⟩ := row_cellsP HO1.out j hjl
      have HST : Hid (plcK xs k (j + 1) = if xs[j].1 = k then some j else none) := Lib.hid (by
        rw [plcK, HN0.out]
        simp only [dif_pos hjl])
      have HYJ := Lib.hid (HYES.out j hjl)
      have HRC : Hid (∀ wx, Below w.heap.size w wx → wx.cell? ⟨g, j * 2, none⟩ = some (.string xs[j].1) ∧ wx.cell? ⟨g, j * 2 + 1, none⟩ = some (.string xs[j].2)) := Lib.hid (fun wx hx => row_cellsP (own_kept H.out hx) j hjl)
      generalize hxj : xs[j] = x at *
      obtain ⟨X, Y⟩ := x
      simp only at c0 c1 HST
      clear hxj
      by_cases e : X = k
      · have e1 := str_eq e
        have HRY : Hid (R = ((X, Y), xs.eraseIdx j, true)) := Lib.hid (HYJ.out (HX.out (j + 1) j (by rw [HST.out, if_pos e]) (by omega)))
        clear e
        have hcap : n ≤ cap := by
          obtain ⟨_, ⟨he, _⟩ | ⟨g', cap', cur, he, hb, hg, hn, _⟩⟩ := H.out
          · simp at he
          · simp only [Value.slice.injEq, true_and] at he
            obtain ⟨_, rfl⟩ := he
            rw [HN.out]; exact hn
        have HFL : Hid ((xs.eraseIdx j).flatMap encI = (xs.take j).flatMap encI ++ (xs.drop (j + 1)).flatMap encI) := Lib.hid (erase_flat _ _)
        have HLN : Hid ((xs.eraseIdx j).length = j + (n - (j + 1))) := Lib.hid (by rw [List.length_eraseIdx_of_lt hjl, ← HN.out]; omega)
        have HCL : Hid (∀ wx, Below w.heap.size w wx → wx.cell? ⟨g, j * 2, none⟩ = some (.string X) ∧ wx.cell? ⟨g, j * 2 + 1, none⟩ = some (.string Y)) := Lib.hid HRC.out
        obtain ⟨TK, hTK⟩ : ∃ x, x = (xs.take j).flatMap encI := ⟨_, rfl⟩
        obtain ⟨DK, hDK⟩ : ∃ x, x = (xs.drop (j + 1)).flatMap encI := ⟨_, rfl⟩
        have HTK := Lib.hid hTK; have HDK := Lib.hid hDK
        rw [← hTK, ← hDK] at HFL
        clear hTK hDK
        have hjc : j ≤ cap := by omega
        have hjn' : j ≤ n := by omega
        go_wp2_with (at_builtin; refine wpList_append_own _ rfl _ _ 28 rfl (w.heap.size + 1) 35 i0 (.agg #[.string ByteArray.empty, .string ByteArray.empty]) 2 32 Try.underlying28 hi0 hz0 hz1 hz2 rfl (by decide) _ _ _ rfl (own_nil _ _ _ _) ⟨g, 0, none⟩ j cap TK rfl ?b0 ?b1 ?b2 ?b3 ?b4 ?b5 ?_)
        case b0 => rw [HTK.out, flat_len, List.length_take, ← HN.out]; omega
        case b1 =>
          intro q u hq
          suffices h8 : (xs.flatMap encI)[0 + q]? = some u by
            have h9 := own_cellsP HO1.out 0 q u h8
            rw [Addr.add_lit, Nat.zero_add] at h9
            exact h9
          rw [Nat.zero_add]
          rw [HTK.out, ← flat_take, List.getElem?_take] at hq
          split at hq
          · exact hq
          · cases hq
        case b2 => rw [HTK.out]; exact one_cell _
        case b3 => unfold maxLen; omega
        case b4 => omega
        case b5 => have := HZ.out; omega
        intro v1 w2 ho1 hg1 _
        have hK1 : Kp (fun _ => False) W1 w2 := Kp.grown hg1 (fun q hq => by simp [Value.ownBlock] at hq)
        have HA2 := Lib.hid (HA.out.kp hK1 (fun h => h))
        have HS2 := Lib.hid hK1.size
        have HO2 := Lib.hid (own_kp2 HO1.out hK1 (fun _ _ h => h))
        have HB2 := Lib.hid (HB1.out.trans (hK1.below HB1.out.size (fun _ h => h.elim)))
        have HV1 : Hid (w2.ownsRow (w.heap.size + 1) 35 2 v1 j TK) := Lib.hid (by simpa using ho1)
        obtain ⟨av, cv, rfl⟩ := own_shape ho1
        clear ho1 hg1 hK1
        have hi3 : (0 : Int) ≤ (j : Int) + 1 := by omega
        have hi4 : (j : Int) + 1 ≤ (n : Int) := by omega
        have hi5 : (n : Int) ≤ (cap : Int) := by omega
        have hk1c : j + 1 ≤ cap := by omega
        have hk1n : j + 1 ≤ n := by omega
        have hw1 : IntKind.i64.wrap ((j : Int) + 1) = (j : Int) + 1 := by rw [IntKind.wrap_i64]; omega
        have hw2 : ((j : Int) + 1).toNat = j + 1 := by omega
        by_cases hc : cap = j + 1
        · skip
          go_wp2_with fail
          have hP0 := HB2.out.drew
          refine wp_region_held_drew (S := fun w' => Below w.heap.size w w') (by kernel_rfl) (by (first | exact hP0 | exact hP1 | exact hP2)) (fun hHeld => ?_)
          refine wpAnyH_take (i := 0) (oi := { dst := some 27, op := Go.Op.move (Go.Operand.tmp 0), type := 28, pos := "law.go:34", after := #[], guard := none }) (v := ?_) rfl (by kernel_rfl) (by kernel_rfl) (by kernel_rfl) (fun _ _ _ h => h) (Or.inl ⟨by rfl, ?_⟩) (by assumption) ?_
          (rotate_left; focus (intro wS hSw; have s0 := (HCL.out wS hSw).1; have s1 := (HCL.out wS hSw).2; clear hSw; go_simp; (try rw [if_neg (by omega)]); try with_reducible rfl))
          (try simp only [Act.put, List.setIfInBounds_toArray, List.set_cons_zero, List.set_cons_succ])
          refine wpAnyH_take (i := 1) (oi := { dst := some 28, op := Go.Op.move (Go.Operand.tmp 7), type := 3, pos := "law.go:34", after := #[], guard := none }) (v := ?_) rfl (by kernel_rfl) (by kernel_rfl) (by kernel_rfl) (fun _ _ _ h => h) (Or.inl ⟨by rfl, ?_⟩) (by assumption) ?_
          (rotate_left; focus (intro wS hSw; have s0 := (HCL.out wS hSw).1; have s1 := (HCL.out wS hSw).2; clear hSw; go_simp; (try rw [if_neg (by omega)]); try with_reducible rfl))
          (try simp only [Act.put, List.setIfInBounds_toArray, List.set_cons_zero, List.set_cons_succ])
          refine wpAnyH_take (i := 2) (oi := { dst := some 29, op := Go.Op.indexAddr 28 (Go.Operand.tmp 27) (Go.Operand.tmp 28), type := 0, pos := "law.go:34", after := #[{ on := 0, ground := Go.Ground.data }, { on := 1, ground := Go.Ground.data }], guard := none }) (v := ?_) rfl (by kernel_rfl) (by kernel_rfl) (by kernel_rfl) (fun _ _ _ h => h) (Or.inl ⟨by rfl, ?_⟩) (by assumption) ?_
          (rotate_left; focus (intro wS hSw; have s0 := (HCL.out wS hSw).1; have s1 := (HCL.out wS hSw).2; clear hSw; go_simp; (try rw [if_neg (by omega)]); try with_reducible rfl))
          (try simp only [Act.put, List.setIfInBounds_toArray, List.set_cons_zero, List.set_cons_succ])
          refine wpAnyH_take (i := 3) (oi := { dst := some 30, op := Go.Op.load 35 (Go.Operand.tmp 29), type := 35, pos := "law.go:34", after := #[{ on := 2, ground := Go.Ground.data }], guard := none }) (v := ?_) rfl (by kernel_rfl) (by kernel_rfl) (by kernel_rfl) (fun _ _ _ h => h) (Or.inl ⟨by rfl, ?_⟩) (by assumption) ?_
          (rotate_left; focus (intro wS hSw; have s0 := (HCL.out wS hSw).1; have s1 := (HCL.out wS hSw).2; clear hSw; go_simp; (try rw [if_neg (by omega)]); try with_reducible rfl))
          (try simp only [Act.put, List.setIfInBounds_toArray, List.set_cons_zero, List.set_cons_succ])
          refine wpAnyH_take (i := 4) (oi := { dst := some 31, op := Go.Op.move (Go.Operand.tmp 8), type := 28, pos := "law.go:34", after := #[], guard := none }) (v := ?_) rfl (by kernel_rfl) (by kernel_rfl) (by kernel_rfl) (fun _ _ _ h => h) (Or.inl ⟨by rfl, ?_⟩) (by assumption) ?_
          (rotate_left; focus (intro wS hSw; have s0 := (HCL.out wS hSw).1; have s1 := (HCL.out wS hSw).2; clear hSw; go_simp; (try rw [if_neg (by omega)]); try with_reducible rfl))
          (try simp only [Act.put, List.setIfInBounds_toArray, List.set_cons_zero, List.set_cons_succ])
          refine wpAnyH_take (i := 5) (oi := { dst := some 32, op := Go.Op.move (Go.Operand.tmp 0), type := 28, pos := "law.go:34", after := #[], guard := none }) (v := ?_) rfl (by kernel_rfl) (by kernel_rfl) (by kernel_rfl) (fun _ _ _ h => h) (Or.inl ⟨by rfl, ?_⟩) (by assumption) ?_
          (rotate_left; focus (intro wS hSw; have s0 := (HCL.out wS hSw).1; have s1 := (HCL.out wS hSw).2; clear hSw; go_simp; (try rw [if_neg (by omega)]); try with_reducible rfl))
          (try simp only [Act.put, List.setIfInBounds_toArray, List.set_cons_zero, List.set_cons_succ])
          refine wpAnyH_take (i := 6) (oi := { dst := some 33, op := Go.Op.move (Go.Operand.tmp 7), type := 3, pos := "law.go:34", after := #[], guard := none }) (v := ?_) rfl (by kernel_rfl) (by kernel_rfl) (by kernel_rfl) (fun _ _ _ h => h) (Or.inl ⟨by rfl, ?_⟩) (by assumption) ?_
          (rotate_left; focus (intro wS hSw; have s0 := (HCL.out wS hSw).1; have s1 := (HCL.out wS hSw).2; clear hSw; go_simp; (try rw [if_neg (by omega)]); try with_reducible rfl))
          (try simp only [Act.put, List.setIfInBounds_toArray, List.set_cons_zero, List.set_cons_succ])
          refine wpAnyH_take (i := 7) (oi := { dst := some 34, op := Go.Op.binOp Go.BinOp.add 3 (Go.Operand.tmp 33) (Go.Operand.const (Go.Value.int Go.IntKind.i64 1)) 3, type := 3, pos := "law.go:34", after := #[{ on := 6, ground := Go.Ground.data }], guard := none }) (v := ?_) rfl (by kernel_rfl) (by kernel_rfl) (by kernel_rfl) (fun _ _ _ h => h) (Or.inl ⟨by rfl, ?_⟩) (by assumption) ?_
          (rotate_left; focus (intro wS hSw; have s0 := (HCL.out wS hSw).1; have s1 := (HCL.out wS hSw).2; clear hSw; go_simp; (try rw [if_neg (by omega)]); try with_reducible rfl))
          (try simp only [Act.put, List.setIfInBounds_toArray, List.set_cons_zero, List.set_cons_succ])
          refine wpAnyH_take (i := 8) (oi := { dst := some 35, op := Go.Op.slice 28 (Go.Operand.tmp 32) (some (Go.Operand.tmp 34)) none none, type := 28, pos := "law.go:34", after := #[{ on := 5, ground := Go.Ground.data }, { on := 7, ground := Go.Ground.data }], guard := none }) (v := ?_) rfl (by kernel_rfl) (by kernel_rfl) (by kernel_rfl) (fun _ _ _ h => h) (Or.inl ⟨by rfl, ?_⟩) (by assumption) ?_
          (rotate_left; focus (intro wS hSw; have s0 := (HCL.out wS hSw).1; have s1 := (HCL.out wS hSw).2; clear hSw; go_simp; (try rw [if_neg (by omega)]); try with_reducible rfl))
          (try simp only [Act.put, List.setIfInBounds_toArray, List.set_cons_zero, List.set_cons_succ])
          refine wpAnyH_ready (rs := [9]) (by kernel_rfl) (by simp) ?_
          refine AllReadyH.cons (o := { dst := some 36, op := Go.Op.call { callee := Go.Callee.builtin Go.Builtin.append, args := #[Go.Operand.tmp 31, Go.Operand.tmp 35], argTypes := #[28, 28] }, type := 28, pos := "law.go:34", after := #[{ on := 4, ground := Go.Ground.data }, { on := 8, ground := Go.Ground.data }], guard := none }) rfl (fun K hK => ?_) AllReadyH.nil
          refine wp_append_own_at _ _ _ 28 rfl (w.heap.size + 1) 35 i0 (.agg #[.string ByteArray.empty, .string ByteArray.empty]) 2 32 Try.underlying28 hi0 hz0 hz1 hz2 rfl (by decide) (.slice av j cv) j TK rfl HV1.out ⟨g, 0, none⟩ (n - (j + 1)) (cap - (j + 1)) DK (by go_simp) ?b0 ?b1 ?b2 ?b3 ?b4 ?b5 ?_
          case b0 => have := HN.out; rw [HDK.out, flat_len, List.length_drop]; omega
          case b1 => intro q u hq; rw [HDK.out, List.drop_of_length_le (by rw [← HN.out]; omega)] at hq; simp at hq
          case b2 => rw [HDK.out]; exact one_cell _
          case b3 => unfold maxLen; omega
          case b4 => omega
          case b5 => simp; have := HZ.out; have := HS2.out; omega
          intro v2 w3 ho2 hg2 hat2
          have hK2 : Kp (fun j => w.heap.size + 1 ≤ j) w2 w3 := (Kp.refl (fun j => w.heap.size + 1 ≤ j) w2).drew.trans (Kp.grown hg2 (fun q hq => (HV1.out.lt q hq).1))
          have hA3 := HA2.out.kp hK2 (by omega)
          have hP1 : Below w.heap.size w w3 := HB2.out.trans (hK2.below HB2.out.size (fun j hj => by omega))
          have a0 := (hA3.2 0 _ rfl).1
          have a1 := (hA3.2 1 _ rfl).1
          have f0 := (hA3.2 0 _ rfl).2
          have f1 := (hA3.2 1 _ rfl).2
          have HO3 : Hid (w3.ownsRow (w.heap.size + 1) 35 2 v2 (xs.eraseIdx j).length ((xs.eraseIdx j).flatMap encI)) := Lib.hid (by rw [HFL.out, HLN.out]; simpa using ho2)
          have hA4 : Bk w.heap.size [.string X, .string Y] ((w3.setCell ⟨w.heap.size, 0, none⟩ (.string X)).setCell ⟨w.heap.size, 1, none⟩ (.string Y)) := (hA3.set 0 (by simp) (.string X)).set 1 (by simp) (.string Y)
          have hK4 : Kp (fun j => j = w.heap.size) w3 ((w3.setCell ⟨w.heap.size, 0, none⟩ (.string X)).setCell ⟨w.heap.size, 1, none⟩ (.string Y)) := ((Kp.refl (fun j => j = w.heap.size) w3).set w.heap.size 0 _ rfl).set w.heap.size 1 _ rfl
          have HL4 := Lib.hid (load_var (t := 35) (fun _ => by kernel_rfl) (fun _ => by kernel_rfl) hA4)
          have hP2 := hP1.trans (hK4.below hP1.size (fun j hj => by omega))
          have HO4 := Lib.hid (own_base (own_kp HO3.out hK4 (fun j hj => by omega)) (Nat.le_trans hB (Nat.le_succ _)))
          have HAT := Lib.hid (show ∀ g, v2.ownBlock = some g → w.heap.size ≤ g from fun g hg => Nat.le_trans (Nat.le_succ _) (HO3.out.lt g hg).1)
          have HB4 := Lib.hid hP2
          clear ho2 hg2 hA3 hA4 hK4 hK2 hat2
          refine hK.out _ _ (by (first | exact hP0 | exact hP1 | exact hP2)) (fun hHeld => ?_)
          clear hK K
          (try simp only [Act.put, List.setIfInBounds_toArray, List.set_cons_zero, List.set_cons_succ])
          refine wpAnyH_ready (rs := [10]) (by kernel_rfl) (by simp) ?_
          refine AllReadyH.cons (o := { dst := none, op := Go.Op.store 35 (Go.Operand.tmp 4) (Go.Operand.tmp 30), type := 0, pos := "law.go:34", after := #[{ on := 3, ground := Go.Ground.data }, { on := 9, ground := Go.Ground.chain }, { on := 0, ground := Go.Ground.phase }, { on := 1, ground := Go.Ground.phase }, { on := 2, ground := Go.Ground.phase }, { on := 3, ground := Go.Ground.phase }, { on := 4, ground := Go.Ground.textOnly Go.Departure.lateStores }, { on := 5, ground := Go.Ground.textOnly Go.Departure.lateStores }, { on := 6, ground := Go.Ground.textOnly Go.Departure.lateStores }, { on := 7, ground := Go.Ground.textOnly Go.Departure.lateStores }, { on := 8, ground := Go.Ground.textOnly Go.Departure.lateStoresUnsure }, { on := 9, ground := Go.Ground.textOnly Go.Departure.lateStoresUnsure }], guard := none }) rfl (fun K hK => ?_) AllReadyH.nil
          go_simp
          refine hK.out _ _ (by (first | exact hP0 | exact hP1 | exact hP2)) (fun hHeld => ?_)
          clear hK K
          (try simp only [Act.put, List.setIfInBounds_toArray, List.set_cons_zero, List.set_cons_succ])
          refine wpAnyH_take (i := 11) (oi := { dst := some 5, op := Go.Op.assign (Go.Operand.tmp 36), type := 28, pos := "law.go:34", after := #[{ on := 9, ground := Go.Ground.data }, { on := 10, ground := Go.Ground.chain }, { on := 0, ground := Go.Ground.phase }, { on := 1, ground := Go.Ground.phase }, { on := 2, ground := Go.Ground.phase }, { on := 3, ground := Go.Ground.phase }, { on := 4, ground := Go.Ground.phase }, { on := 5, ground := Go.Ground.phase }, { on := 6, ground := Go.Ground.phase }, { on := 7, ground := Go.Ground.phase }, { on := 8, ground := Go.Ground.phase }, { on := 9, ground := Go.Ground.phase }, { on := 10, ground := Go.Ground.phase }], guard := none }) (v := ?_) rfl (by kernel_rfl) (by kernel_rfl) (by kernel_rfl) (fun _ _ _ h => h) (Or.inl ⟨by rfl, ?_⟩) (by assumption) ?_
          (rotate_left; focus (intro wS hSw; have s0 := (HCL.out wS hSw).1; have s1 := (HCL.out wS hSw).2; clear hSw; go_simp; (try rw [if_neg (by omega)]); try with_reducible rfl))
          (try simp only [Act.put, List.setIfInBounds_toArray, List.set_cons_zero, List.set_cons_succ])
          refine wpAnyH_take (i := 12) (oi := { dst := some 6, op := Go.Op.assign (Go.Operand.const (Go.Value.bool true)), type := 4, pos := "law.go:34", after := #[{ on := 11, ground := Go.Ground.chain }, { on := 0, ground := Go.Ground.phase }, { on := 1, ground := Go.Ground.phase }, { on := 2, ground := Go.Ground.phase }, { on := 3, ground := Go.Ground.phase }, { on := 4, ground := Go.Ground.phase }, { on := 5, ground := Go.Ground.phase }, { on := 6, ground := Go.Ground.phase }, { on := 7, ground := Go.Ground.phase }, { on := 8, ground := Go.Ground.phase }, { on := 9, ground := Go.Ground.phase }, { on := 10, ground := Go.Ground.phase }, { on := 11, ground := Go.Ground.phase }], guard := none }) (v := ?_) rfl (by kernel_rfl) (by kernel_rfl) (by kernel_rfl) (fun _ _ _ h => h) (Or.inl ⟨by rfl, ?_⟩) (by assumption) ?_
          (rotate_left; focus (intro wS hSw; have s0 := (HCL.out wS hSw).1; have s1 := (HCL.out wS hSw).2; clear hSw; go_simp; (try rw [if_neg (by omega)]); try with_reducible rfl))
          (try simp only [Act.put, List.setIfInBounds_toArray, List.set_cons_zero, List.set_cons_succ])
          refine wpAnyH_done (by kernel_rfl) ?_ _
          clear hP0 hP1 hP2
          go_wp2
          (try simp only [Exit.inBlock, Exit.then])
          refine bodyPost_ret (res_cell3 rfl rfl rfl rfl HL4.out) rfl ?_
          rw [HRY.out]
          exact ⟨v2, rfl, HO4.out, fun g hg => .inr (HAT.out g hg), HB4.out⟩
        · skip
          go_wp2_with fail
          have hP0 := HB2.out.drew
          refine wp_region_held_drew (S := fun w' => Below w.heap.size w w') (by kernel_rfl) (by (first | exact hP0 | exact hP1 | exact hP2)) (fun hHeld => ?_)
          refine wpAnyH_take (i := 0) (oi := { dst := some 27, op := Go.Op.move (Go.Operand.tmp 0), type := 28, pos := "law.go:34", after := #[], guard := none }) (v := ?_) rfl (by kernel_rfl) (by kernel_rfl) (by kernel_rfl) (fun _ _ _ h => h) (Or.inl ⟨by rfl, ?_⟩) (by assumption) ?_
          (rotate_left; focus (intro wS hSw; have s0 := (HCL.out wS hSw).1; have s1 := (HCL.out wS hSw).2; clear hSw; go_simp; (try rw [if_neg (by omega)]); try with_reducible rfl))
          (try simp only [Act.put, List.setIfInBounds_toArray, List.set_cons_zero, List.set_cons_succ])
          refine wpAnyH_take (i := 1) (oi := { dst := some 28, op := Go.Op.move (Go.Operand.tmp 7), type := 3, pos := "law.go:34", after := #[], guard := none }) (v := ?_) rfl (by kernel_rfl) (by kernel_rfl) (by kernel_rfl) (fun _ _ _ h => h) (Or.inl ⟨by rfl, ?_⟩) (by assumption) ?_
          (rotate_left; focus (intro wS hSw; have s0 := (HCL.out wS hSw).1; have s1 := (HCL.out wS hSw).2; clear hSw; go_simp; (try rw [if_neg (by omega)]); try with_reducible rfl))
          (try simp only [Act.put, List.setIfInBounds_toArray, List.set_cons_zero, List.set_cons_succ])
          refine wpAnyH_take (i := 2) (oi := { dst := some 29, op := Go.Op.indexAddr 28 (Go.Operand.tmp 27) (Go.Operand.tmp 28), type := 0, pos := "law.go:34", after := #[{ on := 0, ground := Go.Ground.data }, { on := 1, ground := Go.Ground.data }], guard := none }) (v := ?_) rfl (by kernel_rfl) (by kernel_rfl) (by kernel_rfl) (fun _ _ _ h => h) (Or.inl ⟨by rfl, ?_⟩) (by assumption) ?_
          (rotate_left; focus (intro wS hSw; have s0 := (HCL.out wS hSw).1; have s1 := (HCL.out wS hSw).2; clear hSw; go_simp; (try rw [if_neg (by omega)]); try with_reducible rfl))
          (try simp only [Act.put, List.setIfInBounds_toArray, List.set_cons_zero, List.set_cons_succ])
          refine wpAnyH_take (i := 3) (oi := { dst := some 30, op := Go.Op.load 35 (Go.Operand.tmp 29), type := 35, pos := "law.go:34", after := #[{ on := 2, ground := Go.Ground.data }], guard := none }) (v := ?_) rfl (by kernel_rfl) (by kernel_rfl) (by kernel_rfl) (fun _ _ _ h => h) (Or.inl ⟨by rfl, ?_⟩) (by assumption) ?_
          (rotate_left; focus (intro wS hSw; have s0 := (HCL.out wS hSw).1; have s1 := (HCL.out wS hSw).2; clear hSw; go_simp; (try rw [if_neg (by omega)]); try with_reducible rfl))
          (try simp only [Act.put, List.setIfInBounds_toArray, List.set_cons_zero, List.set_cons_succ])
          refine wpAnyH_take (i := 4) (oi := { dst := some 31, op := Go.Op.move (Go.Operand.tmp 8), type := 28, pos := "law.go:34", after := #[], guard := none }) (v := ?_) rfl (by kernel_rfl) (by kernel_rfl) (by kernel_rfl) (fun _ _ _ h => h) (Or.inl ⟨by rfl, ?_⟩) (by assumption) ?_
          (rotate_left; focus (intro wS hSw; have s0 := (HCL.out wS hSw).1; have s1 := (HCL.out wS hSw).2; clear hSw; go_simp; (try rw [if_neg (by omega)]); try with_reducible rfl))
          (try simp only [Act.put, List.setIfInBounds_toArray, List.set_cons_zero, List.set_cons_succ])
          refine wpAnyH_take (i := 5) (oi := { dst := some 32, op := Go.Op.move (Go.Operand.tmp 0), type := 28, pos := "law.go:34", after := #[], guard := none }) (v := ?_) rfl (by kernel_rfl) (by kernel_rfl) (by kernel_rfl) (fun _ _ _ h => h) (Or.inl ⟨by rfl, ?_⟩) (by assumption) ?_
          (rotate_left; focus (intro wS hSw; have s0 := (HCL.out wS hSw).1; have s1 := (HCL.out wS hSw).2; clear hSw; go_simp; (try rw [if_neg (by omega)]); try with_reducible rfl))
          (try simp only [Act.put, List.setIfInBounds_toArray, List.set_cons_zero, List.set_cons_succ])
          refine wpAnyH_take (i := 6) (oi := { dst := some 33, op := Go.Op.move (Go.Operand.tmp 7), type := 3, pos := "law.go:34", after := #[], guard := none }) (v := ?_) rfl (by kernel_rfl) (by kernel_rfl) (by kernel_rfl) (fun _ _ _ h => h) (Or.inl ⟨by rfl, ?_⟩) (by assumption) ?_
          (rotate_left; focus (intro wS hSw; have s0 := (HCL.out wS hSw).1; have s1 := (HCL.out wS hSw).2; clear hSw; go_simp; (try rw [if_neg (by omega)]); try with_reducible rfl))
          (try simp only [Act.put, List.setIfInBounds_toArray, List.set_cons_zero, List.set_cons_succ])
          refine wpAnyH_take (i := 7) (oi := { dst := some 34, op := Go.Op.binOp Go.BinOp.add 3 (Go.Operand.tmp 33) (Go.Operand.const (Go.Value.int Go.IntKind.i64 1)) 3, type := 3, pos := "law.go:34", after := #[{ on := 6, ground := Go.Ground.data }], guard := none }) (v := ?_) rfl (by kernel_rfl) (by kernel_rfl) (by kernel_rfl) (fun _ _ _ h => h) (Or.inl ⟨by rfl, ?_⟩) (by assumption) ?_
          (rotate_left; focus (intro wS hSw; have s0 := (HCL.out wS hSw).1; have s1 := (HCL.out wS hSw).2; clear hSw; go_simp; (try rw [if_neg (by omega)]); try with_reducible rfl))
          (try simp only [Act.put, List.setIfInBounds_toArray, List.set_cons_zero, List.set_cons_succ])
          refine wpAnyH_take (i := 8) (oi := { dst := some 35, op := Go.Op.slice 28 (Go.Operand.tmp 32) (some (Go.Operand.tmp 34)) none none, type := 28, pos := "law.go:34", after := #[{ on := 5, ground := Go.Ground.data }, { on := 7, ground := Go.Ground.data }], guard := none }) (v := ?_) rfl (by kernel_rfl) (by kernel_rfl) (by kernel_rfl) (fun _ _ _ h => h) (Or.inl ⟨by rfl, ?_⟩) (by assumption) ?_
          (rotate_left; focus (intro wS hSw; have s0 := (HCL.out wS hSw).1; have s1 := (HCL.out wS hSw).2; clear hSw; go_simp; (try rw [if_neg (by omega)]); try with_reducible rfl))
          (try simp only [Act.put, List.setIfInBounds_toArray, List.set_cons_zero, List.set_cons_succ])
          refine wpAnyH_ready (rs := [9]) (by kernel_rfl) (by simp) ?_
          refine AllReadyH.cons (o := { dst := some 36, op := Go.Op.call { callee := Go.Callee.builtin Go.Builtin.append, args := #[Go.Operand.tmp 31, Go.Operand.tmp 35], argTypes := #[28, 28] }, type := 28, pos := "law.go:34", after := #[{ on := 4, ground := Go.Ground.data }, { on := 8, ground := Go.Ground.data }], guard := none }) rfl (fun K hK => ?_) AllReadyH.nil
          refine wp_append_own_at _ _ _ 28 rfl (w.heap.size + 1) 35 i0 (.agg #[.string ByteArray.empty, .string ByteArray.empty]) 2 32 Try.underlying28 hi0 hz0 hz1 hz2 rfl (by decide) (.slice av j cv) j TK rfl HV1.out ⟨g, (j + 1) * 2, none⟩ (n - (j + 1)) (cap - (j + 1)) DK (by go_simp) ?b0 ?b1 ?b2 ?b3 ?b4 ?b5 ?_
          case b0 => have := HN.out; rw [HDK.out, flat_len, List.length_drop]; omega
          case b1 => intro q u hq; rw [HDK.out, ← flat_drop, List.getElem?_drop] at hq; exact own_cellsP HO2.out _ q u hq
          case b2 => rw [HDK.out]; exact one_cell _
          case b3 => unfold maxLen; omega
          case b4 => omega
          case b5 => simp; have := HZ.out; have := HS2.out; omega
          intro v2 w3 ho2 hg2 hat2
          have hK2 : Kp (fun j => w.heap.size + 1 ≤ j) w2 w3 := (Kp.refl (fun j => w.heap.size + 1 ≤ j) w2).drew.trans (Kp.grown hg2 (fun q hq => (HV1.out.lt q hq).1))
          have hA3 := HA2.out.kp hK2 (by omega)
          have hP1 : Below w.heap.size w w3 := HB2.out.trans (hK2.below HB2.out.size (fun j hj => by omega))
          have a0 := (hA3.2 0 _ rfl).1
          have a1 := (hA3.2 1 _ rfl).1
          have f0 := (hA3.2 0 _ rfl).2
          have f1 := (hA3.2 1 _ rfl).2
          have HO3 : Hid (w3.ownsRow (w.heap.size + 1) 35 2 v2 (xs.eraseIdx j).length ((xs.eraseIdx j).flatMap encI)) := Lib.hid (by rw [HFL.out, HLN.out]; simpa using ho2)
          have hA4 : Bk w.heap.size [.string X, .string Y] ((w3.setCell ⟨w.heap.size, 0, none⟩ (.string X)).setCell ⟨w.heap.size, 1, none⟩ (.string Y)) := (hA3.set 0 (by simp) (.string X)).set 1 (by simp) (.string Y)
          have hK4 : Kp (fun j => j = w.heap.size) w3 ((w3.setCell ⟨w.heap.size, 0, none⟩ (.string X)).setCell ⟨w.heap.size, 1, none⟩ (.string Y)) := ((Kp.refl (fun j => j = w.heap.size) w3).set w.heap.size 0 _ rfl).set w.heap.size 1 _ rfl
          have HL4 := Lib.hid (load_var (t := 35) (fun _ => by kernel_rfl) (fun _ => by kernel_rfl) hA4)
          have hP2 := hP1.trans (hK4.below hP1.size (fun j hj => by omega))
          have HO4 := Lib.hid (own_base (own_kp HO3.out hK4 (fun j hj => by omega)) (Nat.le_trans hB (Nat.le_succ _)))
          have HAT := Lib.hid (show ∀ g, v2.ownBlock = some g → w.heap.size ≤ g from fun g hg => Nat.le_trans (Nat.le_succ _) (HO3.out.lt g hg).1)
          have HB4 := Lib.hid hP2
          clear ho2 hg2 hA3 hA4 hK4 hK2 hat2
          refine hK.out _ _ (by (first | exact hP0 | exact hP1 | exact hP2)) (fun hHeld => ?_)
          clear hK K
          (try simp only [Act.put, List.setIfInBounds_toArray, List.set_cons_zero, List.set_cons_succ])
          refine wpAnyH_ready (rs := [10]) (by kernel_rfl) (by simp) ?_
          refine AllReadyH.cons (o := { dst := none, op := Go.Op.store 35 (Go.Operand.tmp 4) (Go.Operand.tmp 30), type := 0, pos := "law.go:34", after := #[{ on := 3, ground := Go.Ground.data }, { on := 9, ground := Go.Ground.chain }, { on := 0, ground := Go.Ground.phase }, { on := 1, ground := Go.Ground.phase }, { on := 2, ground := Go.Ground.phase }, { on := 3, ground := Go.Ground.phase }, { on := 4, ground := Go.Ground.textOnly Go.Departure.lateStores }, { on := 5, ground := Go.Ground.textOnly Go.Departure.lateStores }, { on := 6, ground := Go.Ground.textOnly Go.Departure.lateStores }, { on := 7, ground := Go.Ground.textOnly Go.Departure.lateStores }, { on := 8, ground := Go.Ground.textOnly Go.Departure.lateStoresUnsure }, { on := 9, ground := Go.Ground.textOnly Go.Departure.lateStoresUnsure }], guard := none }) rfl (fun K hK => ?_) AllReadyH.nil
          go_simp
          refine hK.out _ _ (by (first | exact hP0 | exact hP1 | exact hP2)) (fun hHeld => ?_)
          clear hK K
          (try simp only [Act.put, List.setIfInBounds_toArray, List.set_cons_zero, List.set_cons_succ])
          refine wpAnyH_take (i := 11) (oi := { dst := some 5, op := Go.Op.assign (Go.Operand.tmp 36), type := 28, pos := "law.go:34", after := #[{ on := 9, ground := Go.Ground.data }, { on := 10, ground := Go.Ground.chain }, { on := 0, ground := Go.Ground.phase }, { on := 1, ground := Go.Ground.phase }, { on := 2, ground := Go.Ground.phase }, { on := 3, ground := Go.Ground.phase }, { on := 4, ground := Go.Ground.phase }, { on := 5, ground := Go.Ground.phase }, { on := 6, ground := Go.Ground.phase }, { on := 7, ground := Go.Ground.phase }, { on := 8, ground := Go.Ground.phase }, { on := 9, ground := Go.Ground.phase }, { on := 10, ground := Go.Ground.phase }], guard := none }) (v := ?_) rfl (by kernel_rfl) (by kernel_rfl) (by kernel_rfl) (fun _ _ _ h => h) (Or.inl ⟨by rfl, ?_⟩) (by assumption) ?_
          (rotate_left; focus (intro wS hSw; have s0 := (HCL.out wS hSw).1; have s1 := (HCL.out wS hSw).2; clear hSw; go_simp; (try rw [if_neg (by omega)]); try with_reducible rfl))
          (try simp only [Act.put, List.setIfInBounds_toArray, List.set_cons_zero, List.set_cons_succ])
          refine wpAnyH_take (i := 12) (oi := { dst := some 6, op := Go.Op.assign (Go.Operand.const (Go.Value.bool true)), type := 4, pos := "law.go:34", after := #[{ on := 11, ground := Go.Ground.chain }, { on := 0, ground := Go.Ground.phase }, { on := 1, ground := Go.Ground.phase }, { on := 2, ground := Go.Ground.phase }, { on := 3, ground := Go.Ground.phase }, { on := 4, ground := Go.Ground.phase }, { on := 5, ground := Go.Ground.phase }, { on := 6, ground := Go.Ground.phase }, { on := 7, ground := Go.Ground.phase }, { on := 8, ground := Go.Ground.phase }, { on := 9, ground := Go.Ground.phase }, { on := 10, ground := Go.Ground.phase }, { on := 11, ground := Go.Ground.phase }], guard := none }) (v := ?_) rfl (by kernel_rfl) (by kernel_rfl) (by kernel_rfl) (fun _ _ _ h => h) (Or.inl ⟨by rfl, ?_⟩) (by assumption) ?_
          (rotate_left; focus (intro wS hSw; have s0 := (HCL.out wS hSw).1; have s1 := (HCL.out wS hSw).2; clear hSw; go_simp; (try rw [if_neg (by omega)]); try with_reducible rfl))
          (try simp only [Act.put, List.setIfInBounds_toArray, List.set_cons_zero, List.set_cons_succ])
          refine wpAnyH_done (by kernel_rfl) ?_ _
          clear hP0 hP1 hP2
          go_wp2
          (try simp only [Exit.inBlock, Exit.then])
          refine bodyPost_ret (res_cell3 rfl rfl rfl rfl HL4.out) rfl ?_
          rw [HRY.out]
          exact ⟨v2, rfl, HO4.out, fun g hg => .inr (HAT.out g hg), HB4.out⟩
      · have e1 := str_ne e
        have HR : Hid (plcK xs k (j + 1) = none) := Lib.hid (by rw [HST.out, if_neg e])
        clear e
        go_wp2
        go_round
        case rel => exact ⟨j + 1, by go_num, by omega, HR.out⟩
        case measure => simp [intOf]; omega
    · have d2 : decide (j < n) = false := decide_eq_false h2
      obtain rfl : j = n := by omega
      have HR := Lib.hid (HNO.out (by rw [← HN.out]; exact HN0.out))
      clear h2
      have a0 := (HA.out.2 0 _ rfl).1; have a1 := (HA.out.2 1 _ rfl).1; have f0 := (HA.out.2 0 _ rfl).2; have f1 := (HA.out.2 1 _ rfl).2
      have hA4 : Bk w.heap.size [.string ⟨#[]⟩, .string ⟨#[]⟩] ((W1.setCell ⟨w.heap.size, 0, none⟩ (.string ⟨#[]⟩)).setCell ⟨w.heap.size, 1, none⟩ (.string ⟨#[]⟩)) := (HA.out.set 0 (by simp) (.string ⟨#[]⟩)).set 1 (by simp) (.string ⟨#[]⟩)
      have hK4 : Kp (fun j => j = w.heap.size) W1 ((W1.setCell ⟨w.heap.size, 0, none⟩ (.string ⟨#[]⟩)).setCell ⟨w.heap.size, 1, none⟩ (.string ⟨#[]⟩)) := ((Kp.refl (fun j => j = w.heap.size) W1).set w.heap.size 0 _ rfl).set w.heap.size 1 _ rfl
      have HL4 := Lib.hid (load_var (t := 35) (fun _ => by kernel_rfl) (fun _ => by kernel_rfl) hA4)
      have HB4 := Lib.hid (HB1.out.trans (hK4.below HB1.out.size (fun j hj => by omega)))
      have HO4 := Lib.hid (own_kp2 HO1.out hK4 (fun g hg e => by have := (H.out.lt g hg).2; omega))
      clear hA4 hK4
      go_wp2
      refine bodyPost_ret (res_cell3 rfl rfl rfl rfl HL4.out) rfl ?_
      rw [HR.out]
      refine ⟨_, rfl, ?_, fun _ hg => .inl hg, HB4.out⟩
      have := HO4.out
      rw [← HN.out] at this
      simpa [HN.out] using this
end Go.Proofs.Ythahddaihkajbaa

