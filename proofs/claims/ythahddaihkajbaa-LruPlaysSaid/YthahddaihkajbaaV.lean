/-
  The contract of the law's do.
-/
import Derived.Test.YthahddaihkajbaaU
set_option linter.unusedVariables false
set_option linter.unusedSimpArgs false
namespace Go.Proofs.Ythahddaihkajbaa
open Go.RowKit
def doI (ms : List Itm) (room : Nat) (kd : Int) (k x : ByteArray) : List Itm := if kd = 0 then putI ms k x room else if kd = 1 then (getT ms k).2.2 else dropI ms k
/-- What the law's take leaves beside the cache. -/
theorem Py.take {w0 w : World} {p room : Nat} {vx : Value} {ms : List Itm} (k : ByteArray) (h : Py w0 w p vx ms ms room) (hn : ms.length ≤ 5000) :
    Calls Try.prog 13 #[vx, .string k] w fun e w' => ∃ vo, e = .returned (.tuple #[.agg #[.string (takeI ms k).1.1, .string (takeI ms k).1.2], vo, .bool (takeI ms k).2.2]) ∧ (∀ q vs, Pz w0 w p vx ms ms room q vs → Pz w0 w' p vo (dropI ms k) ms room q vs ∧ Pz w0 w' p vx ms ms room q vs) ∧ Py w0 w' p vo (dropI ms k) ms room ∧ Py w0 w' p vx ms ms room ∧ Below w.heap.size w w' := by
  refine (take_any k w h.row h.below.size hn).mono ?_
  rintro e w' ⟨vo, rfl, h1, h2, h3⟩
  rw [(take_drop ms k).1] at h1
  exact ⟨vo, rfl, fun q vs hz => ⟨hz.turn h3 h1 h2, hz.turn h3 (own_kept h.row h3) (fun g hg => .inl hg)⟩, h.turn h3 h1 h2, h.keep h3, h3⟩
theorem Py.shape {w W : World} {p room : Nat} {vx : Value} {xs ms : List Itm} (h : Py w W p vx xs ms room) : ∃ a cap, vx = .slice a xs.length cap := own_shape h.row
set_option maxRecDepth 100000 in
set_option maxHeartbeats 8000000 in
theorem do_any {w0 w : World} {p room : Nat} {vx : Value} {ms : List Itm} (kd : Int) (k x : ByteArray) (h : Py w0 w p vx ms ms room) (hr : room ≤ 4096) (hn : ms.length ≤ room) (h1 : 1 ≤ room) :
    Calls Try.prog 7 #[.pointer (some ⟨p, 0, none⟩), vx, .int .i64 room, .agg #[.int .i64 kd, .string k, .string x]] w fun e w' => ∃ vy, e = .returned (.tuple #[vy, .bool true]) ∧ Py w0 w' p vy (doI ms room kd k x) (doI ms room kd k x) room := by
  have hT := take_drop ms k
  have hA := Bk.new w 30 #[.int .i64 kd, .string k, .string x]
  have hB1 := below_new w (.cells #[.int .i64 kd, .string k, .string x] 30)
  have HP1 := Lib.hid (h.keep hB1)
  have HZ1 := Lib.hid (Pz.of h (Nat.le_refl _) hB1 hA)
  have HA := Lib.hid hA
  have c1 := (hA.2 1 _ rfl).1
  have hD := drop_len ms k
  have HTK := fun W p vx (h : Py w0 W p vx ms ms room) => Py.take k h (by omega)
  have HPT := Lib.hid (put_take ms k x room hn)
  have HGS := Lib.hid (get_some ms k)
  have HGN := Lib.hid (get_none ms k)
  have HGL := Lib.hid (get_len ms k)
  have HDO : Hid (doI ms room kd k x = if kd = 0 then putI ms k x room else if kd = 1 then (getT ms k).2.2 else dropI ms k) := Lib.hid rfl
  have HCP := fun W vx xs q vs (h : Pz w0 W p vx xs ms room q vs) => Pz.put k x h hr hn
  have HCG := fun W vx xs q vs (h : Pz w0 W p vx xs ms room q vs) => Pz.get k h (by omega)
  have HCD := fun W vx xs (h : Py w0 W p vx xs ms room) => Py.drop k h (by omega)
  have HT2 := Lib.hid hT.2
  generalize doI ms room kd k x = DO at *
  generalize takeI ms k = R at *
  generalize putI ms k x room = PU at *
  generalize getT ms k = GT at *
  generalize dropI ms k = DR at *
  generalize (findI ms k).isSome = FS at *
  obtain ⟨⟨p1, p2⟩, R2, is⟩ := R
  obtain ⟨g1, g2, gl⟩ := GT
  have hTs := hT.2
  have hTs1 : DR = R2 := hT.1.symm
  dsimp only at *
  subst hTs
  subst hTs1
  obtain ⟨W1, hW1⟩ : ∃ W1, W1 = w.alloc (.cells #[.int .i64 kd, .string k, .string x] 30) := ⟨_, rfl⟩
  clear hT h hA hB1
  go_enter Try.func7, Try.ntmps7
  go_wp2_with fail
  refine (HTK _ _ _ HP1.out).mono ?_
  rintro e w2 ⟨vo, rfl, hzz, h2, h3, h4⟩
  clear HTK
  have HA2 := Lib.hid (HA.out.keep h4)
  have hB3 := below_new w2 (.cells #[.string p1, .string p2] 35)
  have HZD := Lib.hid ((hzz _ _ HZ1.out).1.turn hB3 (own_kept h2.row hB3) (fun g hg => .inl hg))
  have HZP := Lib.hid (Pz.of h2 (Nat.le_refl _) hB3 (Bk.new w2 35 #[.string p1, .string p2]))
  have HZX := Lib.hid (Pz.of h3 (Nat.le_refl _) hB3 (Bk.new w2 35 #[.string p1, .string p2]))
  have HP3 := Lib.hid (h2.keep hB3)
  have HPX := Lib.hid (h3.keep hB3)
  have HA3 := Lib.hid (HA2.out.keep hB3)
  have HAP := Lib.hid (Bk.new w2 35 #[.string p1, .string p2])
  have HZ : Hid ((w2.alloc (.cells #[.string p1, .string p2] 35)).heap.size = w2.heap.size + 1) := Lib.hid (by simp)
  clear hW1 W1 h2 h3 h4 hB3 c1 hzz
  obtain ⟨W3, hW3⟩ : ∃ x, x = w2.alloc (.cells #[.string p1, .string p2] 35) := ⟨_, rfl⟩
  rw [← hW3] at HP3 HPX HA3 HAP HZ HZD HZP HZX
  have c0 := (HA2.out.2 0 _ rfl).1; have c1 := (HA2.out.2 1 _ rfl).1; have c2 := (HA2.out.2 2 _ rfl).1
  have hlt := HA2.out.1
  obtain ⟨ax, cx, rfl⟩ := HPX.out.shape
  obtain ⟨ao, co, rfl⟩ := HP3.out.shape
  by_cases e0 : kd = 0
  · have hb0 : (kd == 0) = true := by simp [e0]
    have HE : Hid (DO = PU) := Lib.hid (by rw [HDO.out, if_pos e0])
    clear e0
    go_wp2_with fail
    rw [← hW3]
    clear hW3
    refine (HCP _ _ _ _ _ HZD.out).mono ?_
    rintro e w4 ⟨rfl, h4, hb4⟩
    have HP4 := Lib.hid h4
    clear HCP c0 c1 c2
    have c1 := (hb4.2 1 _ rfl).1; have c2 := (hb4.2 2 _ rfl).1
    clear h4 hb4
    have hdr := hD
    go_wp2_with (at_builtin; refine wpList_front (W := w4) (ys := DR) rfl rfl k x rfl rfl rfl HP4.out.row (by omega) ?_)
    intro r w5 ho5 hb5
    obtain ⟨g5, cap5, rfl⟩ := own_some ho5 (by omega)
    have hcap : DR.length + 1 ≤ cap5 := by
      obtain ⟨_, ⟨he, _⟩ | ⟨g', cap', cur, he, hb, hg, hn, _⟩⟩ := ho5
      · simp at he
      · simp only [Value.slice.injEq, true_and] at he
        obtain ⟨_, rfl⟩ := he
        exact hn
    have HF : Hid (Py w0 w5 p (.slice (some ⟨g5, 0, none⟩) (min (DR.length + 1) room) cap5) PU PU room) := Lib.hid (HP4.out.turn hb5 (by
      have h8 := own_prefix (m := min (DR.length + 1) room) (xs := ((k, x) :: DR).flatMap encI) ho5 (Nat.min_le_left _ _)
      rw [flat_take, ← HPT.out] at h8
      have h9 : PU.length = min (DR.length + 1) room := by rw [HPT.out, List.length_take, List.length_cons]; omega
      rw [h9]
      exact own_base h8 HP4.out.below.size) (fun g hg => .inr (by simp [Value.ownBlock] at hg; subst hg; exact (ho5.lt _ rfl).1)))
    clear ho5 hb5
    have hc0 : ¬ cap5 = 0 := by omega
    by_cases hle : DR.length + 1 ≤ room
    · rw [Nat.min_eq_left hle] at HF
      have hle2 : (DR.length : Int) + 1 ≤ (room : Int) := by omega
      go_wp2
      go_ret2
      rw [HE.out]
      exact ⟨_, rfl, HF.out⟩
    · rw [Nat.min_eq_right (by omega)] at HF
      have hle2 : ¬ (DR.length : Int) + 1 ≤ (room : Int) := by omega
      have hrc : room ≤ cap5 := by omega
      go_wp2
      go_ret2
      rw [HE.out]
      exact ⟨_, rfl, HF.out⟩
  · have hb0 : (kd == 0) = false := by simp [e0]
    by_cases e1 : kd = 1
    · have hb1 : (kd == 1) = true := by simp [e1]
      have HE : Hid (DO = gl) := Lib.hid (by rw [HDO.out, if_neg e0, if_pos e1])
      clear e0 e1
      cases is with
      | false =>
        have h9 := HGN.out rfl
        simp only [Prod.mk.injEq] at h9
        obtain ⟨rfl, rfl, rfl⟩ := h9
        go_wp2_with fail
        rw [← hW3]
        clear hW3
        refine (HCG _ _ _ _ _ HZX.out).mono ?_
        rintro e w4 ⟨rfl, h4, hb4⟩
        have HP4 := Lib.hid h4
        clear HCG c0 c1 c2 h4 hb4
        go_wp2
        go_ret2
        rw [HE.out]
        exact ⟨_, rfl, HP4.out⟩
      | true =>
        have h9 := HGS.out rfl
        simp only [Prod.mk.injEq] at h9
        obtain ⟨rfl, rfl, rfl⟩ := h9
        go_wp2_with fail
        rw [← hW3]
        clear hW3
        refine (HCG _ _ _ _ _ HZP.out).mono ?_
        rintro e w4 ⟨rfl, h4, hb4⟩
        have HP4 := Lib.hid h4
        have hpp := str_eq (rfl : g1 = g1)
        clear HCG c0 c1 c2 h4
        go_wp2_with fail
        have hP0 := hb4.drew
        refine wp_region_held_drew (S := fun w' => Bk w2.heap.size [.string p1, .string g1] w') (by kernel_rfl) (by (first | exact hP0 | exact hP1 | exact hP2)) (fun hHeld => ?_)
        refine wpAnyH_take (i := 0) (oi := { dst := some 66, op := Go.Op.load 35 (Go.Operand.tmp 10), type := 35, pos := "law.go:59", after := #[], guard := none }) (v := ?_) rfl (by kernel_rfl) (by kernel_rfl) (by kernel_rfl) (fun _ _ _ h => h) (Or.inl ⟨by rfl, ?_⟩) (by assumption) ?_
        (rotate_left; focus (intro wS hSw; have s0 := (hSw.2 0 _ rfl).1; have s1 := (hSw.2 1 _ rfl).1; clear hSw; go_simp; (try rw [if_neg (by omega)]); try with_reducible rfl))
        (try simp only [Act.put, List.setIfInBounds_toArray, List.set_cons_zero, List.set_cons_succ])
        refine wpAnyH_take (i := 2) (oi := { dst := some 68, op := Go.Op.move (Go.Operand.tmp 11), type := 28, pos := "law.go:59", after := #[], guard := none }) (v := ?_) rfl (by kernel_rfl) (by kernel_rfl) (by kernel_rfl) (fun _ _ _ h => h) (Or.inl ⟨by rfl, ?_⟩) (by assumption) ?_
        (rotate_left; focus (intro wS hSw; have s0 := (hSw.2 0 _ rfl).1; have s1 := (hSw.2 1 _ rfl).1; clear hSw; go_simp; (try rw [if_neg (by omega)]); try with_reducible rfl))
        (try simp only [Act.put, List.setIfInBounds_toArray, List.set_cons_zero, List.set_cons_succ])
        refine wpAnyH_take (i := 4) (oi := { dst := some 70, op := Go.Op.move (Go.Operand.tmp 14), type := 9, pos := "law.go:59", after := #[], guard := none }) (v := ?_) rfl (by kernel_rfl) (by kernel_rfl) (by kernel_rfl) (fun _ _ _ h => h) (Or.inl ⟨by rfl, ?_⟩) (by assumption) ?_
        (rotate_left; focus (intro wS hSw; have s0 := (hSw.2 0 _ rfl).1; have s1 := (hSw.2 1 _ rfl).1; clear hSw; go_simp; (try rw [if_neg (by omega)]); try with_reducible rfl))
        (try simp only [Act.put, List.setIfInBounds_toArray, List.set_cons_zero, List.set_cons_succ])
        refine wpAnyH_take (i := 5) (oi := { dst := some 71, op := Go.Op.fieldAddr 35 (Go.Operand.tmp 10) 1, type := 0, pos := "law.go:59", after := #[], guard := none }) (v := ?_) rfl (by kernel_rfl) (by kernel_rfl) (by kernel_rfl) (fun _ _ _ h => h) (Or.inl ⟨by rfl, ?_⟩) (by assumption) ?_
        (rotate_left; focus (intro wS hSw; have s0 := (hSw.2 0 _ rfl).1; have s1 := (hSw.2 1 _ rfl).1; clear hSw; go_simp; (try rw [if_neg (by omega)]); try with_reducible rfl))
        (try simp only [Act.put, List.setIfInBounds_toArray, List.set_cons_zero, List.set_cons_succ])
        refine wpAnyH_take (i := 6) (oi := { dst := some 72, op := Go.Op.load 9 (Go.Operand.tmp 71), type := 9, pos := "law.go:59", after := #[{ on := 5, ground := Go.Ground.data }], guard := none }) (v := ?_) rfl (by kernel_rfl) (by kernel_rfl) (by kernel_rfl) (fun _ _ _ h => h) (Or.inl ⟨by rfl, ?_⟩) (by assumption) ?_
        (rotate_left; focus (intro wS hSw; have s0 := (hSw.2 0 _ rfl).1; have s1 := (hSw.2 1 _ rfl).1; clear hSw; go_simp; (try rw [if_neg (by omega)]); try with_reducible rfl))
        (try simp only [Act.put, List.setIfInBounds_toArray, List.set_cons_zero, List.set_cons_succ])
        refine wpAnyH_take (i := 7) (oi := { dst := some 73, op := Go.Op.binOp Go.BinOp.eql 9 (Go.Operand.tmp 70) (Go.Operand.tmp 72) 9, type := 4, pos := "law.go:59", after := #[{ on := 4, ground := Go.Ground.data }, { on := 6, ground := Go.Ground.data }], guard := none }) (v := ?_) rfl (by kernel_rfl) (by kernel_rfl) (by kernel_rfl) (fun _ _ _ h => h) (Or.inl ⟨by rfl, ?_⟩) (by assumption) ?_
        (rotate_left; focus (intro wS hSw; have s0 := (hSw.2 0 _ rfl).1; have s1 := (hSw.2 1 _ rfl).1; clear hSw; go_simp; (try rw [if_neg (by omega)]); try with_reducible rfl))
        (try simp only [Act.put, List.setIfInBounds_toArray, List.set_cons_zero, List.set_cons_succ])
        refine wpAnyH_ready (rs := [1]) (by kernel_rfl) (by simp) ?_
        refine AllReadyH.cons (o := { dst := some 67, op := Go.Op.buildSlice 28 1 #[(0, Go.Operand.tmp 66)], type := 28, pos := "law.go:59", after := #[{ on := 0, ground := Go.Ground.data }], guard := none }) rfl (fun K hK => ?_) AllReadyH.nil
        go_simp
        have hP1 := hP0.keep (below_new w4.drew (.cells #[.string p1, .string g1] 35))
        refine hK.out _ _ (by (first | exact hP0 | exact hP1 | exact hP2)) (fun hHeld => ?_)
        clear hK K
        (try simp only [Act.put, List.setIfInBounds_toArray, List.set_cons_zero, List.set_cons_succ])
        refine wpAnyH_ready (rs := [3]) (by kernel_rfl) (by simp) ?_
        refine AllReadyH.cons (o := { dst := some 69, op := Go.Op.call { callee := Go.Callee.builtin Go.Builtin.append, args := #[Go.Operand.tmp 67, Go.Operand.tmp 68], argTypes := #[28, 28] }, type := 28, pos := "law.go:59", after := #[{ on := 1, ground := Go.Ground.data }, { on := 2, ground := Go.Ground.data }], guard := none }) rfl (fun K hK => ?_) AllReadyH.nil
        refine wp_front (W := w4.drew) (ys := DR) rfl p1 g1 rfl rfl rfl HP4.out.drew.row (by omega) ?_
        intro r w5 ho5 hb5
        have hP2 := hP0.keep hb5
        have HF := Lib.hid (show Py w0 w5 p r ((p1, g1) :: DR) ((p1, g1) :: DR) room from HP4.out.drew.turn hb5 (own_base ho5 HP4.out.below.size) (fun g hg => .inr (ho5.lt g hg).1))
        clear ho5 hb5
        refine hK.out _ _ (by (first | exact hP0 | exact hP1 | exact hP2)) (fun hHeld => ?_)
        clear hK K
        (try simp only [Act.put, List.setIfInBounds_toArray, List.set_cons_zero, List.set_cons_succ])
        refine wpAnyH_take (i := 8) (oi := { dst := some 74, op := Go.Op.move (Go.Operand.tmp 73), type := 4, pos := "law.go:59", after := #[{ on := 7, ground := Go.Ground.data }, { on := 3, ground := Go.Ground.chain }], guard := none }) (v := ?_) rfl (by kernel_rfl) (by kernel_rfl) (by kernel_rfl) (fun _ _ _ h => h) (Or.inl ⟨by rfl, ?_⟩) (by assumption) ?_
        (rotate_left; focus (intro wS hSw; have s0 := (hSw.2 0 _ rfl).1; have s1 := (hSw.2 1 _ rfl).1; clear hSw; go_simp; (try rw [if_neg (by omega)]); try with_reducible rfl))
        (try simp only [Act.put, List.setIfInBounds_toArray, List.set_cons_zero, List.set_cons_succ])
        refine wpAnyH_take (i := 9) (oi := { dst := some 75, op := Go.Op.move (Go.Operand.tmp 15), type := 4, pos := "law.go:59", after := #[{ on := 8, ground := Go.Ground.guard }, { on := 11, ground := Go.Ground.gcOnly Go.Departure.lateStores }], guard := some (8, true) }) (v := ?_) rfl (by kernel_rfl) (by kernel_rfl) (by kernel_rfl) (fun _ _ _ h => h) (Or.inl ⟨by rfl, ?_⟩) (by assumption) ?_
        (rotate_left; focus (intro wS hSw; have s0 := (hSw.2 0 _ rfl).1; have s1 := (hSw.2 1 _ rfl).1; clear hSw; go_simp; (try rw [if_neg (by omega)]); try with_reducible rfl))
        (try simp only [Act.put, List.setIfInBounds_toArray, List.set_cons_zero, List.set_cons_succ])
        refine wpAnyH_take (i := 10) (oi := { dst := some 76, op := Go.Op.pick (Go.Operand.tmp 74) (Go.Operand.tmp 75) (Go.Operand.const (Go.Value.bool false)), type := 4, pos := "law.go:59", after := #[{ on := 8, ground := Go.Ground.data }, { on := 9, ground := Go.Ground.data }, { on := 11, ground := Go.Ground.gcOnly Go.Departure.lateStores }], guard := none }) (v := ?_) rfl (by kernel_rfl) (by kernel_rfl) (by kernel_rfl) (fun _ _ _ h => h) (Or.inl ⟨by rfl, ?_⟩) (by assumption) ?_
        (rotate_left; focus (intro wS hSw; have s0 := (hSw.2 0 _ rfl).1; have s1 := (hSw.2 1 _ rfl).1; clear hSw; go_simp; (try rw [if_neg (by omega)]); try with_reducible rfl))
        (try simp only [Act.put, List.setIfInBounds_toArray, List.set_cons_zero, List.set_cons_succ])
        refine wpAnyH_take (i := 11) (oi := { dst := some 8, op := Go.Op.assign (Go.Operand.tmp 69), type := 28, pos := "law.go:59", after := #[{ on := 3, ground := Go.Ground.data }, { on := 8, ground := Go.Ground.chain }, { on := 0, ground := Go.Ground.phase }, { on := 1, ground := Go.Ground.phase }, { on := 2, ground := Go.Ground.phase }, { on := 3, ground := Go.Ground.phase }, { on := 4, ground := Go.Ground.textOnly Go.Departure.lateStores }, { on := 5, ground := Go.Ground.textOnly Go.Departure.lateStores }, { on := 6, ground := Go.Ground.textOnly Go.Departure.lateStores }, { on := 7, ground := Go.Ground.textOnly Go.Departure.lateStores }, { on := 8, ground := Go.Ground.textOnly Go.Departure.lateStores }, { on := 9, ground := Go.Ground.textOnly Go.Departure.lateStores }, { on := 10, ground := Go.Ground.textOnly Go.Departure.lateStores }], guard := none }) (v := ?_) rfl (by kernel_rfl) (by kernel_rfl) (by kernel_rfl) (fun _ _ _ h => h) (Or.inl ⟨by rfl, ?_⟩) (by assumption) ?_
        (rotate_left; focus (intro wS hSw; have s0 := (hSw.2 0 _ rfl).1; have s1 := (hSw.2 1 _ rfl).1; clear hSw; go_simp; (try rw [if_neg (by omega)]); try with_reducible rfl))
        (try simp only [Act.put, List.setIfInBounds_toArray, List.set_cons_zero, List.set_cons_succ])
        refine wpAnyH_take (i := 12) (oi := { dst := some 9, op := Go.Op.assign (Go.Operand.tmp 76), type := 4, pos := "law.go:59", after := #[{ on := 10, ground := Go.Ground.data }, { on := 11, ground := Go.Ground.chain }, { on := 0, ground := Go.Ground.phase }, { on := 1, ground := Go.Ground.phase }, { on := 2, ground := Go.Ground.phase }, { on := 3, ground := Go.Ground.phase }, { on := 4, ground := Go.Ground.phase }, { on := 5, ground := Go.Ground.phase }, { on := 6, ground := Go.Ground.phase }, { on := 7, ground := Go.Ground.phase }, { on := 8, ground := Go.Ground.phase }, { on := 9, ground := Go.Ground.phase }, { on := 10, ground := Go.Ground.phase }, { on := 11, ground := Go.Ground.phase }], guard := none }) (v := ?_) rfl (by kernel_rfl) (by kernel_rfl) (by kernel_rfl) (fun _ _ _ h => h) (Or.inl ⟨by rfl, ?_⟩) (by assumption) ?_
        (rotate_left; focus (intro wS hSw; have s0 := (hSw.2 0 _ rfl).1; have s1 := (hSw.2 1 _ rfl).1; clear hSw; go_simp; (try rw [if_neg (by omega)]); try with_reducible rfl))
        (try simp only [Act.put, List.setIfInBounds_toArray, List.set_cons_zero, List.set_cons_succ])
        refine wpAnyH_done (by kernel_rfl) ?_ _
        clear hP0 hP1 hP2 hb4
        go_wp2
        go_ret2
        rw [HE.out]
        exact ⟨r, rfl, HF.out⟩
    · have hb1 : (kd == 1) = false := by simp [e1]
      have HE : Hid (DO = DR) := Lib.hid (by rw [HDO.out, if_neg e0, if_neg e1])
      clear e0 e1
      go_wp2_with fail
      rw [← hW3]
      clear hW3
      refine (HCD _ _ _ HP3.out).mono ?_
      rintro e w4 ⟨rfl, h4⟩
      have HP4 := Lib.hid h4
      have hii : (is == is) = true := by cases is <;> rfl
      clear HCD c0 c1 c2 h4
      go_wp2
      go_ret2
      rw [HE.out]
      exact ⟨_, rfl, HP4.out⟩
end Go.Proofs.Ythahddaihkajbaa

