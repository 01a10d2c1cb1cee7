/-
  The contract of the law's own Sum.
-/
import Derived.Test.YtanehgnpominiaaShJ
import Derived.Maps.AppendAt
set_option linter.unusedVariables false
set_option linter.unusedSimpArgs false
set_option maxRecDepth 100000
namespace Go.Proofs.Ytanehgnpominiaa
open Go.RowKit
theorem wp_append_own_at {P : Program} (w : World) {o : Oper} {a : Act} {K : Act → World → Prop} {Q : Exit → Act → World → Prop} (s x : Operand) (t : TypeId)
    (ho : o.op = .call { callee := .builtin .append, args := #[s, x], argTypes := #[t, t] })
    (base : Nat) (e : TypeId) (i : TypeInfo) (z : Value) (size bytes : Nat) (ht : P.underlying t = some (.slice e)) (hi : P.info? e = some i) (hz : i.zero = some z)
    (hsize : i.size = size) (hby : i.bytes = bytes) (hzs : z.cells.size = size) (hsz : 0 < size)
    (v : Value) (n : Nat) (xs : List Value) (hs : a.eval s = v) (hown : w.ownsRow base e size v n xs)
    (ad : Addr) (m c : Nat) (news : List Value) (hx : a.eval x = .slice (some ad) m c) (hl : news.length = m * size) (hnews : ∀ j u, news[j]? = some u → w.cell? (ad.add j) = some u) (h1 : ∀ u ∈ news, u.oneCell' = true)
    (h63 : n + m ≤ maxLen) (hbytes : (n + m) * bytes ≤ 140737488355328) (hbase : base ≤ w.heap.size)
    (h : ∀ v' w', w'.ownsRow base e size v' (n + m) (xs ++ news) → w.grownBy w' v.ownBlock → (v'.ownBlock = v.ownBlock ∨ v'.ownBlock = some w.heap.size) → K (a.put o.dst v') w') : o.wp P a w K Q := by
  obtain ⟨v', w', hr, h2, h3, h4, h5⟩ := run_append_own_at (P := P) w base t o.type e i z size bytes ht hi hz hsize hby hzs hsz v n xs hown ad m c news hl hnews h1 h63 hbytes hbase
  unfold Oper.wp execOp
  simp only [ho, resolve, invoke, builtin, Sem.run_bind, Sem.run_pure, Result.andThen_ok, List.map_toArray, List.map_cons, List.map_nil, hs, hx, hr]
  exact h v' w' h2 h3 h5
theorem ext_allB (s : ByteArray) : s.extract 0 s.size = s := by
  apply ByteArray.ext
  simp
set_option maxRecDepth 100000 in
set_option maxHeartbeats 8000000 in
theorem rsum_any (s : ByteArray) (w : World) (hsz : s.size ≤ 1099511627000) : Calls Try.prog 46 #[.string s] w fun e w' => e = .returned (.string (sumV s)) ∧ Below w.heap.size w w' := by
  obtain ⟨i0, hi, hz0, hz1, hz2⟩ := info_parts infoB8
  have HSV : Hid (sumV s = txB (dg (sumN (byB s ++ padL s.size) ((s.size + (padL s.size).length) / 64) s0).l)) := Lib.hid (by rw [sumV])
  go_enter Try.func46, Try.ntmps46
  have HN1 : Hid (Bk w.heap.size (celS s0) (w.alloc (.cells (u32s s0.l).toArray 98))) := Lib.hid (by
    have := Bk.new w 98 (u32s s0.l).toArray
    exact this)
  have HB1 := Lib.hid (below_new w (.cells (u32s s0.l).toArray 98))
  rw [s0V] at HB1 HN1
  have hps : (padB s.size).size ≤ 72 := by rw [padB_nat, txB_size]; exact padL_le _
  have HPB := Lib.hid (padB_nat s.size)
  have HPL := Lib.hid (padL_le s.size)
  have HPM := Lib.hid (padL_mod s.size)
  go_wp2_with fail
  refine (rpad_any (s.size : Int) _ (by omega)).mono ?_
  rintro e w2 ⟨rfl, hb2⟩
  obtain ⟨T, hT⟩ : ∃ T, T = s ++ padB s.size := ⟨_, rfl⟩
  obtain ⟨K, hK⟩ : ∃ K, K = (s.size + (padL s.size).length) / 64 := ⟨_, rfl⟩
  have hTs : T.size = 64 * K := by
    have h1 := HPM.out
    rw [hT, ByteArray.size_append, padB_nat, txB_size]
    omega
  have hbT : byB T = byB s ++ padL s.size := by
    rw [hT, byB_app, padB_nat, byB_txB (padL_byte _)]
  obtain ⟨FN, hFN⟩ : ∃ F, F = sumN (byB T) K s0 := ⟨_, rfl⟩
  have HSF : Hid (sumV s = txB (dg FN.l)) := Lib.hid (by rw [hFN, hbT, hK]; exact HSV.out)
  have HFN := Lib.hid hFN
  have HTT := Lib.hid hT
  have HTS := Lib.hid hTs
  have hTb : T.size ≤ 1099511627100 := by rw [hT, ByteArray.size_append]; omega
  have HTB := Lib.hid hTb
  have HNN := Lib.hid (HN1.out.keep hb2)
  have HBB := Lib.hid (below_step HB1.out (Nat.le_refl _) hb2)
  obtain ⟨P, hP⟩ : ∃ P, P = w.heap.size := ⟨_, rfl⟩
  have HP : Hid (w.heap.size ≤ P) := Lib.hid (by omega)
  have HPE := Lib.hid hP
  rw [← hP] at HNN ⊢
  clear hT hK hbT hFN hTs hTb hb2 hP
  go_wp2
  rw [← HTT.out]
  go_loopw [5] (fun v wr => ∃ (q k : Nat) (st : S8), v = .int .i64 (q : Int) ∧ q + 64 * k = T.size ∧ T.size ≤ 1099511627100 ∧ sumN (byB (T.extract q T.size)) k st = FN ∧ Bk P (celS st) wr ∧ st.ok ∧ Below w.heap.size w wr) (fun v _ => T.size - (intOf v).toNat)
  case atStart => exact ⟨0, K, s0, rfl, by have := HTS.out; omega, HTB.out, by rw [ext_allB, HFN.out], HNN.out, s0_ok, HBB.out⟩
  case round =>
    obtain ⟨q, k, st, rfl, hxs, hxb, hsm, hbk, hok, hb⟩ := hrel
    have HXS := Lib.hid hxs
    have HSM := Lib.hid hsm
    have HBK := Lib.hid hbk
    have HBX := Lib.hid hb
    cases k with
    | succ k =>
      have he : (q : Int) < (T.size : Int) := by omega
      have he2 : (q : Int) ≤ (T.size : Int) := by omega
      have he3 : (0 : Int) ≤ (q : Int) := by omega
      obtain ⟨y, hy⟩ : ∃ y, y = T.extract q T.size := ⟨_, rfl⟩
      have HSM2 : Hid (sumN (byB (T.extract (q + 64) T.size)) k (blk st (byB y)) = FN) := Lib.hid (by
        rw [← hsm, hy, byB_extract, byB_extract, sumN_succ, List.drop_drop])
      obtain ⟨st2, hst2⟩ : ∃ s2, s2 = blk st (byB y) := ⟨_, rfl⟩
      rw [← hst2] at HSM2
      have HOK2 : Hid st2.ok := Lib.hid (by rw [hst2]; exact blk_ok _ _)
      have HBLK : Hid (∀ w, Calls Try.prog 65 #[aggS st, .string y] w fun e w' => e = .returned (aggS st2) ∧ Below w.heap.size w w') := Lib.hid (fun w => by rw [hst2]; exact rblock_any st y w hok (by rw [hy, ByteArray.size_extract, Nat.min_self]; omega))
      obtain ⟨c0, f0⟩ := hbk.2 0 _ rfl
      obtain ⟨c1, f1⟩ := hbk.2 1 _ rfl
      obtain ⟨c2, f2⟩ := hbk.2 2 _ rfl
      obtain ⟨c3, f3⟩ := hbk.2 3 _ rfl
      obtain ⟨c4, f4⟩ := hbk.2 4 _ rfl
      obtain ⟨c5, f5⟩ := hbk.2 5 _ rfl
      obtain ⟨c6, f6⟩ := hbk.2 6 _ rfl
      obtain ⟨c7, f7⟩ := hbk.2 7 _ rfl
      have HY := Lib.hid hy
      clear hxs hsm hok hb hst2 hy hbk
      go_wp2
      refine wp_region_still_tail 4 (by kernel_rfl) (by kernel_rfl) ?_
      simp only [List.take_succ_cons, List.take_zero, List.drop_succ_cons, List.drop_zero]
      change wpStill _ _ (wr.drew) _ _ _
      repeat still_step
      refine wpStill_nil ?_
      change wpList _ _ _ _ _ (wr.drew)
      rw [← HY.out]
      go_wp2_with fail
      refine (HBLK.out _).mono ?_
      rintro e w3 ⟨rfl, hb3⟩
      have hb3' : Below wr.heap.size wr w3 := (Below.refl _ wr).drew.trans hb3
      have hbk3 := HBK.out.keep hb3'
      have HS3 := Lib.hid (hbk3.put (vs := celS st2) rfl)
      have HB3 := Lib.hid ((below_step HBX.out (Nat.le_refl _) hb3').trans ((Kp.setCells (Kp.refl (fun k => k = P) w3) P rfl (celS st2) 0).below (by have h1 := HBX.out.size; have h2 := hb3'.size; omega) (fun k hk => by subst hk; exact HP.out)))
      obtain ⟨g0, e0⟩ := hbk3.2 0 _ rfl
      obtain ⟨g1, e1⟩ := hbk3.2 1 _ rfl
      obtain ⟨g2, e2⟩ := hbk3.2 2 _ rfl
      obtain ⟨g3, e3⟩ := hbk3.2 3 _ rfl
      obtain ⟨g4, e4⟩ := hbk3.2 4 _ rfl
      obtain ⟨g5, e5⟩ := hbk3.2 5 _ rfl
      obtain ⟨g6, e6⟩ := hbk3.2 6 _ rfl
      obtain ⟨g7, e7⟩ := hbk3.2 7 _ rfl
      unfold aggS
      clear hb3 hb3' hbk3 c0 c1 c2 c3 c4 c5 c6 c7 f0 f1 f2 f3 f4 f5 f6 f7
      go_wp2
      go_roundw
      case rel => exact ⟨q + 64, k, st2, vint (by omega), by have := HXS.out; omega, hxb, HSM2.out, HS3.out, HOK2.out, HB3.out⟩
      case measure => have := HXS.out; simp [intOf]; omega
    | zero =>
      have he : ¬ (q : Int) < (T.size : Int) := by omega
      have hfin : st = FN := by rw [← hsm, sumN_zero]
      subst hfin
      have HLT : Hid (∀ k, st.l.getD k 0 < 4294967296) := Lib.hid (S8_get_lt hok)
      obtain ⟨L, hL⟩ : ∃ L, L = st.l := ⟨_, rfl⟩
      have HLL : Hid (L.length = 8) := Lib.hid (by rw [hL]; rfl)
      have HBL : Hid (Bk P (u32s L) wr) := Lib.hid (by rw [hL, ← celS_u32]; exact hbk)
      rw [← hL] at HLT HSF
      clear hL hbk hok hsm hxs hb HFN HSV
      go_wp2
      obtain ⟨wo, rfl⟩ : ∃ wo : World, wo = wr := ⟨_, rfl⟩
      go_loopw [6, 7] (fun v i wr => ∃ k : Nat, i = .int .i64 k ∧ k ≤ 8 ∧ wr.ownsRow (w.heap.size + 1) 5 1 v (4 * k) (rowB (dg (L.take k))) ∧ Bk P (u32s L) wr ∧ Below w.heap.size w wr) (fun _ i _ => 8 - (intOf i).toNat)
      case atStart => exact ⟨0, rfl, by omega, own_nil _ _ _ _, HBL.out, HBX.out⟩
      case round =>
        obtain ⟨k, rfl, hk, ho, hbl, hb⟩ := hrel
        obtain ⟨a, cap, rfl, hcap⟩ := own_shape ho
        have HO := Lib.hid ho
        have HB := Lib.hid hb
        clear ho hb
        by_cases hlt : k < 8
        · have d1 : (k : Int) < 8 := by omega
          have HBLK := Lib.hid hbl
          obtain ⟨c0, f0⟩ := hbl.2 k _ (u32s_get (by rw [HLL.out]; exact hlt))
          clear hbl
          have hx := HLT.out k
          have HDG : Hid (dg (L.take (k + 1)) = dg (L.take k) ++ dgW (L.getD k 0)) := Lib.hid (by
            rw [List.take_succ_eq_append_getElem (by rw [HLL.out]; exact hlt), dg_snoc, List.getD_eq_getElem?_getD, List.getElem?_eq_getElem (by rw [HLL.out]; exact hlt)]; rfl)
          obtain ⟨x, hxx⟩ : ∃ x, x = L.getD k 0 := ⟨_, rfl⟩
          have hxe : L.getD k 0 = x := hxx.symm
          rw [← hxx] at c0 hx HDG
          clear hxx
          have hP0 : Bk P (u32s L) wr.drew := HBLK.out.drew
          have hP1 : Bk P (u32s L) (wr.alloc (.cells #[.int .u8 ((x : Int) / 16777216), .int .u8 ((x : Int) / 65536 % 256), .int .u8 ((x : Int) / 256 % 256), .int .u8 ((x : Int) % 256)] 5)).drew := (HBLK.out.keep (below_new wr _)).drew
          have HX := Lib.hid (u32s_get (l := L) (i := k) (by rw [HLL.out]; exact hlt))
          have HXE : Hid (L.getD k 0 = x) := Lib.hid hxe
          have b1 : (0 : Int) ≤ (k : Int) := by omega
          have u1 : IntKind.u8.wrap ((x : Int) / 16777216) = (x : Int) / 16777216 := by rw [IntKind.wrap_u8']; omega
          have u2 : IntKind.u8.wrap ((x : Int) / 65536) = (x : Int) / 65536 % 256 := IntKind.wrap_u8' _
          have u3 : IntKind.u8.wrap ((x : Int) / 256) = (x : Int) / 256 % 256 := IntKind.wrap_u8' _
          have u4 : IntKind.u8.wrap (x : Int) = (x : Int) % 256 := IntKind.wrap_u8' _
          clear hxe
          go_wp2
          refine wp_region_held_drew (S := fun w' => Bk P (u32s L) w') (by kernel_rfl) (by (first | exact hP0 | exact hP1 | exact hP2)) (fun hHeld => ?_)
          refine wpAnyH_take (i := 0) (oi := { dst := some 29, op := Go.Op.move (Go.Operand.tmp 6), type := 76, pos := "ref.go:76", after := #[], guard := none }) (v := ?_) rfl (by kernel_rfl) (by kernel_rfl) (by kernel_rfl) (fun _ _ _ h => h) (Or.inl ⟨by rfl, ?_⟩) (by assumption) ?_
          (rotate_left; focus (intro wS hSw; have s0 := (hSw.2 k _ HX.out).1; rw [HXE.out] at s0; clear hSw; go_simp; (try rw [if_neg (by omega)]); try with_reducible rfl))
          (try simp only [Act.put, List.setIfInBounds_toArray, List.set_cons_zero, List.set_cons_succ])
          refine wpAnyH_take (i := 1) (oi := { dst := some 30, op := Go.Op.move (Go.Operand.tmp 7), type := 3, pos := "ref.go:76", after := #[], guard := none }) (v := ?_) rfl (by kernel_rfl) (by kernel_rfl) (by kernel_rfl) (fun _ _ _ h => h) (Or.inl ⟨by rfl, ?_⟩) (by assumption) ?_
          (rotate_left; focus (intro wS hSw; have s0 := (hSw.2 k _ HX.out).1; rw [HXE.out] at s0; clear hSw; go_simp; (try rw [if_neg (by omega)]); try with_reducible rfl))
          (try simp only [Act.put, List.setIfInBounds_toArray, List.set_cons_zero, List.set_cons_succ])
          refine wpAnyH_take (i := 2) (oi := { dst := some 31, op := Go.Op.indexAddr 98 (Go.Operand.tmp 3) (Go.Operand.tmp 30), type := 0, pos := "ref.go:76", after := #[{ on := 1, ground := Go.Ground.data }], guard := none }) (v := ?_) rfl (by kernel_rfl) (by kernel_rfl) (by kernel_rfl) (fun _ _ _ h => h) (Or.inl ⟨by rfl, ?_⟩) (by assumption) ?_
          (rotate_left; focus (intro wS hSw; have s0 := (hSw.2 k _ HX.out).1; rw [HXE.out] at s0; clear hSw; go_simp; (try rw [if_neg (by omega)]); try with_reducible rfl))
          (try simp only [Act.put, List.setIfInBounds_toArray, List.set_cons_zero, List.set_cons_succ])
          refine wpAnyH_take (i := 3) (oi := { dst := some 32, op := Go.Op.load 97 (Go.Operand.tmp 31), type := 97, pos := "ref.go:76", after := #[{ on := 2, ground := Go.Ground.data }], guard := none }) (v := ?_) rfl (by kernel_rfl) (by kernel_rfl) (by kernel_rfl) (fun _ _ _ h => h) (Or.inl ⟨by rfl, ?_⟩) (by assumption) ?_
          (rotate_left; focus (intro wS hSw; have s0 := (hSw.2 k _ HX.out).1; rw [HXE.out] at s0; clear hSw; go_simp; (try rw [if_neg (by omega)]); try with_reducible rfl))
          (try simp only [Act.put, List.setIfInBounds_toArray, List.set_cons_zero, List.set_cons_succ])
          refine wpAnyH_take (i := 4) (oi := { dst := some 33, op := Go.Op.binOp Go.BinOp.shr 97 (Go.Operand.tmp 32) (Go.Operand.const (Go.Value.int Go.IntKind.u64 24)) 77, type := 97, pos := "ref.go:76", after := #[{ on := 3, ground := Go.Ground.data }], guard := none }) (v := ?_) rfl (by kernel_rfl) (by kernel_rfl) (by kernel_rfl) (fun _ _ _ h => h) (Or.inl ⟨by rfl, ?_⟩) (by assumption) ?_
          (rotate_left; focus (intro wS hSw; have s0 := (hSw.2 k _ HX.out).1; rw [HXE.out] at s0; clear hSw; go_simp; (try rw [if_neg (by omega)]); try with_reducible rfl))
          (try simp only [Act.put, List.setIfInBounds_toArray, List.set_cons_zero, List.set_cons_succ])
          refine wpAnyH_take (i := 5) (oi := { dst := some 34, op := Go.Op.convert 97 5 (Go.Operand.tmp 33), type := 5, pos := "ref.go:76", after := #[{ on := 4, ground := Go.Ground.data }], guard := none }) (v := ?_) rfl (by kernel_rfl) (by kernel_rfl) (by kernel_rfl) (fun _ _ _ h => h) (Or.inl ⟨by rfl, ?_⟩) (by assumption) ?_
          (rotate_left; focus (intro wS hSw; have s0 := (hSw.2 k _ HX.out).1; rw [HXE.out] at s0; clear hSw; go_simp; (try rw [if_neg (by omega)]); try with_reducible rfl))
          (try simp only [Act.put, List.setIfInBounds_toArray, List.set_cons_zero, List.set_cons_succ])
          refine wpAnyH_take (i := 6) (oi := { dst := some 35, op := Go.Op.move (Go.Operand.tmp 7), type := 3, pos := "ref.go:76", after := #[], guard := none }) (v := ?_) rfl (by kernel_rfl) (by kernel_rfl) (by kernel_rfl) (fun _ _ _ h => h) (Or.inl ⟨by rfl, ?_⟩) (by assumption) ?_
          (rotate_left; focus (intro wS hSw; have s0 := (hSw.2 k _ HX.out).1; rw [HXE.out] at s0; clear hSw; go_simp; (try rw [if_neg (by omega)]); try with_reducible rfl))
          (try simp only [Act.put, List.setIfInBounds_toArray, List.set_cons_zero, List.set_cons_succ])
          refine wpAnyH_take (i := 7) (oi := { dst := some 36, op := Go.Op.indexAddr 98 (Go.Operand.tmp 3) (Go.Operand.tmp 35), type := 0, pos := "ref.go:76", after := #[{ on := 6, ground := Go.Ground.data }], guard := none }) (v := ?_) rfl (by kernel_rfl) (by kernel_rfl) (by kernel_rfl) (fun _ _ _ h => h) (Or.inl ⟨by rfl, ?_⟩) (by assumption) ?_
          (rotate_left; focus (intro wS hSw; have s0 := (hSw.2 k _ HX.out).1; rw [HXE.out] at s0; clear hSw; go_simp; (try rw [if_neg (by omega)]); try with_reducible rfl))
          (try simp only [Act.put, List.setIfInBounds_toArray, List.set_cons_zero, List.set_cons_succ])
          refine wpAnyH_take (i := 8) (oi := { dst := some 37, op := Go.Op.load 97 (Go.Operand.tmp 36), type := 97, pos := "ref.go:76", after := #[{ on := 7, ground := Go.Ground.data }], guard := none }) (v := ?_) rfl (by kernel_rfl) (by kernel_rfl) (by kernel_rfl) (fun _ _ _ h => h) (Or.inl ⟨by rfl, ?_⟩) (by assumption) ?_
          (rotate_left; focus (intro wS hSw; have s0 := (hSw.2 k _ HX.out).1; rw [HXE.out] at s0; clear hSw; go_simp; (try rw [if_neg (by omega)]); try with_reducible rfl))
          (try simp only [Act.put, List.setIfInBounds_toArray, List.set_cons_zero, List.set_cons_succ])
          refine wpAnyH_take (i := 9) (oi := { dst := some 38, op := Go.Op.binOp Go.BinOp.shr 97 (Go.Operand.tmp 37) (Go.Operand.const (Go.Value.int Go.IntKind.u64 16)) 77, type := 97, pos := "ref.go:76", after := #[{ on := 8, ground := Go.Ground.data }], guard := none }) (v := ?_) rfl (by kernel_rfl) (by kernel_rfl) (by kernel_rfl) (fun _ _ _ h => h) (Or.inl ⟨by rfl, ?_⟩) (by assumption) ?_
          (rotate_left; focus (intro wS hSw; have s0 := (hSw.2 k _ HX.out).1; rw [HXE.out] at s0; clear hSw; go_simp; (try rw [if_neg (by omega)]); try with_reducible rfl))
          (try simp only [Act.put, List.setIfInBounds_toArray, List.set_cons_zero, List.set_cons_succ])
          refine wpAnyH_take (i := 10) (oi := { dst := some 39, op := Go.Op.convert 97 5 (Go.Operand.tmp 38), type := 5, pos := "ref.go:76", after := #[{ on := 9, ground := Go.Ground.data }], guard := none }) (v := ?_) rfl (by kernel_rfl) (by kernel_rfl) (by kernel_rfl) (fun _ _ _ h => h) (Or.inl ⟨by rfl, ?_⟩) (by assumption) ?_
          (rotate_left; focus (intro wS hSw; have s0 := (hSw.2 k _ HX.out).1; rw [HXE.out] at s0; clear hSw; go_simp; (try rw [if_neg (by omega)]); try with_reducible rfl))
          (try simp only [Act.put, List.setIfInBounds_toArray, List.set_cons_zero, List.set_cons_succ])
          refine wpAnyH_take (i := 11) (oi := { dst := some 40, op := Go.Op.move (Go.Operand.tmp 7), type := 3, pos := "ref.go:76", after := #[], guard := none }) (v := ?_) rfl (by kernel_rfl) (by kernel_rfl) (by kernel_rfl) (fun _ _ _ h => h) (Or.inl ⟨by rfl, ?_⟩) (by assumption) ?_
          (rotate_left; focus (intro wS hSw; have s0 := (hSw.2 k _ HX.out).1; rw [HXE.out] at s0; clear hSw; go_simp; (try rw [if_neg (by omega)]); try with_reducible rfl))
          (try simp only [Act.put, List.setIfInBounds_toArray, List.set_cons_zero, List.set_cons_succ])
          refine wpAnyH_take (i := 12) (oi := { dst := some 41, op := Go.Op.indexAddr 98 (Go.Operand.tmp 3) (Go.Operand.tmp 40), type := 0, pos := "ref.go:76", after := #[{ on := 11, ground := Go.Ground.data }], guard := none }) (v := ?_) rfl (by kernel_rfl) (by kernel_rfl) (by kernel_rfl) (fun _ _ _ h => h) (Or.inl ⟨by rfl, ?_⟩) (by assumption) ?_
          (rotate_left; focus (intro wS hSw; have s0 := (hSw.2 k _ HX.out).1; rw [HXE.out] at s0; clear hSw; go_simp; (try rw [if_neg (by omega)]); try with_reducible rfl))
          (try simp only [Act.put, List.setIfInBounds_toArray, List.set_cons_zero, List.set_cons_succ])
          refine wpAnyH_take (i := 13) (oi := { dst := some 42, op := Go.Op.load 97 (Go.Operand.tmp 41), type := 97, pos := "ref.go:76", after := #[{ on := 12, ground := Go.Ground.data }], guard := none }) (v := ?_) rfl (by kernel_rfl) (by kernel_rfl) (by kernel_rfl) (fun _ _ _ h => h) (Or.inl ⟨by rfl, ?_⟩) (by assumption) ?_
          (rotate_left; focus (intro wS hSw; have s0 := (hSw.2 k _ HX.out).1; rw [HXE.out] at s0; clear hSw; go_simp; (try rw [if_neg (by omega)]); try with_reducible rfl))
          (try simp only [Act.put, List.setIfInBounds_toArray, List.set_cons_zero, List.set_cons_succ])
          refine wpAnyH_take (i := 14) (oi := { dst := some 43, op := Go.Op.binOp Go.BinOp.shr 97 (Go.Operand.tmp 42) (Go.Operand.const (Go.Value.int Go.IntKind.u64 8)) 77, type := 97, pos := "ref.go:76", after := #[{ on := 13, ground := Go.Ground.data }], guard := none }) (v := ?_) rfl (by kernel_rfl) (by kernel_rfl) (by kernel_rfl) (fun _ _ _ h => h) (Or.inl ⟨by rfl, ?_⟩) (by assumption) ?_
          (rotate_left; focus (intro wS hSw; have s0 := (hSw.2 k _ HX.out).1; rw [HXE.out] at s0; clear hSw; go_simp; (try rw [if_neg (by omega)]); try with_reducible rfl))
          (try simp only [Act.put, List.setIfInBounds_toArray, List.set_cons_zero, List.set_cons_succ])
          refine wpAnyH_take (i := 15) (oi := { dst := some 44, op := Go.Op.convert 97 5 (Go.Operand.tmp 43), type := 5, pos := "ref.go:76", after := #[{ on := 14, ground := Go.Ground.data }], guard := none }) (v := ?_) rfl (by kernel_rfl) (by kernel_rfl) (by kernel_rfl) (fun _ _ _ h => h) (Or.inl ⟨by rfl, ?_⟩) (by assumption) ?_
          (rotate_left; focus (intro wS hSw; have s0 := (hSw.2 k _ HX.out).1; rw [HXE.out] at s0; clear hSw; go_simp; (try rw [if_neg (by omega)]); try with_reducible rfl))
          (try simp only [Act.put, List.setIfInBounds_toArray, List.set_cons_zero, List.set_cons_succ])
          refine wpAnyH_take (i := 16) (oi := { dst := some 45, op := Go.Op.move (Go.Operand.tmp 7), type := 3, pos := "ref.go:76", after := #[], guard := none }) (v := ?_) rfl (by kernel_rfl) (by kernel_rfl) (by kernel_rfl) (fun _ _ _ h => h) (Or.inl ⟨by rfl, ?_⟩) (by assumption) ?_
          (rotate_left; focus (intro wS hSw; have s0 := (hSw.2 k _ HX.out).1; rw [HXE.out] at s0; clear hSw; go_simp; (try rw [if_neg (by omega)]); try with_reducible rfl))
          (try simp only [Act.put, List.setIfInBounds_toArray, List.set_cons_zero, List.set_cons_succ])
          refine wpAnyH_take (i := 17) (oi := { dst := some 46, op := Go.Op.indexAddr 98 (Go.Operand.tmp 3) (Go.Operand.tmp 45), type := 0, pos := "ref.go:76", after := #[{ on := 16, ground := Go.Ground.data }], guard := none }) (v := ?_) rfl (by kernel_rfl) (by kernel_rfl) (by kernel_rfl) (fun _ _ _ h => h) (Or.inl ⟨by rfl, ?_⟩) (by assumption) ?_
          (rotate_left; focus (intro wS hSw; have s0 := (hSw.2 k _ HX.out).1; rw [HXE.out] at s0; clear hSw; go_simp; (try rw [if_neg (by omega)]); try with_reducible rfl))
          (try simp only [Act.put, List.setIfInBounds_toArray, List.set_cons_zero, List.set_cons_succ])
          refine wpAnyH_take (i := 18) (oi := { dst := some 47, op := Go.Op.load 97 (Go.Operand.tmp 46), type := 97, pos := "ref.go:76", after := #[{ on := 17, ground := Go.Ground.data }], guard := none }) (v := ?_) rfl (by kernel_rfl) (by kernel_rfl) (by kernel_rfl) (fun _ _ _ h => h) (Or.inl ⟨by rfl, ?_⟩) (by assumption) ?_
          (rotate_left; focus (intro wS hSw; have s0 := (hSw.2 k _ HX.out).1; rw [HXE.out] at s0; clear hSw; go_simp; (try rw [if_neg (by omega)]); try with_reducible rfl))
          (try simp only [Act.put, List.setIfInBounds_toArray, List.set_cons_zero, List.set_cons_succ])
          refine wpAnyH_take (i := 19) (oi := { dst := some 48, op := Go.Op.convert 97 5 (Go.Operand.tmp 47), type := 5, pos := "ref.go:76", after := #[{ on := 18, ground := Go.Ground.data }], guard := none }) (v := ?_) rfl (by kernel_rfl) (by kernel_rfl) (by kernel_rfl) (fun _ _ _ h => h) (Or.inl ⟨by rfl, ?_⟩) (by assumption) ?_
          (rotate_left; focus (intro wS hSw; have s0 := (hSw.2 k _ HX.out).1; rw [HXE.out] at s0; clear hSw; go_simp; (try rw [if_neg (by omega)]); try with_reducible rfl))
          (try simp only [Act.put, List.setIfInBounds_toArray, List.set_cons_zero, List.set_cons_succ])
          refine wpAnyH_ready (rs := [20]) (by kernel_rfl) (by simp) ?_
          refine AllReadyH.cons (o := { dst := some 49, op := Go.Op.buildSlice 76 4 #[(0, Go.Operand.tmp 34), (1, Go.Operand.tmp 39), (2, Go.Operand.tmp 44), (3, Go.Operand.tmp 48)], type := 76, pos := "ref.go:76", after := #[{ on := 5, ground := Go.Ground.data }, { on := 10, ground := Go.Ground.data }, { on := 15, ground := Go.Ground.data }, { on := 19, ground := Go.Ground.data }], guard := none }) rfl (fun K hK => ?_) AllReadyH.nil
          go_simp
          refine hK.out _ _ (by (first | exact hP0 | exact hP1 | exact hP2)) (fun hHeld => ?_)
          clear hK K
          (try simp only [Act.put, List.setIfInBounds_toArray, List.set_cons_zero, List.set_cons_succ])
          refine wpAnyH_ready (rs := [21]) (by kernel_rfl) (by simp) ?_
          refine AllReadyH.cons (o := { dst := some 50, op := Go.Op.call { callee := Go.Callee.builtin Go.Builtin.append, args := #[Go.Operand.tmp 29, Go.Operand.tmp 49], argTypes := #[76, 76] }, type := 76, pos := "ref.go:76", after := #[{ on := 0, ground := Go.Ground.data }, { on := 20, ground := Go.Ground.data }], guard := none }) rfl (fun K hK => ?_) AllReadyH.nil
          refine wp_append_own_at _ _ _ 76 rfl (w.heap.size + 1) 5 i0 (.int .u8 0) 1 1 Try.underlying76 hi hz0 hz1 hz2 rfl (by decide) (.slice a (4 * k) cap) (4 * k) (rowB (dg (L.take k))) rfl (HO.out.alloc _) ⟨wr.heap.size, 0, none⟩ 4 4 [.int .u8 ((x : Int) / 16777216), .int .u8 ((x : Int) / 65536 % 256), .int .u8 ((x : Int) / 256 % 256), .int .u8 ((x : Int) % 256)] rfl rfl ?a1 ?a2 ?a3 ?a4 ?a5 ?_
          case a1 => intro j u hj; exact new_cells wr _ _ j u hj
          case a2 => intro u hu; simp at hu; rcases hu with rfl | rfl | rfl | rfl <;> rfl
          case a3 => unfold maxLen; omega
          case a4 => omega
          case a5 => have := HBLK.out.1; have := HPE.out; simp; omega
          intro v5 w5 hown5 hg5 hat5
          have hb5 : Below w.heap.size w w5 := (HB.out.alloc HB.out.size _).drew.grown hg5 (by have := HB.out.size; simp; omega) (fun q hq => by have := (HO.out.lt q hq).1; omega)
          have hP2 : Bk P (u32s L) w5 := (((HBLK.out.keep (below_new wr (.cells #[.int .u8 ((x : Int) / 16777216), .int .u8 ((x : Int) / 65536 % 256), .int .u8 ((x : Int) / 256 % 256), .int .u8 ((x : Int) % 256)] 5)).drew).kp (Kp.grown (S := fun g => P < g) hg5 (fun q hq => by have := (HO.out.lt q hq).1; have := HPE.out; omega)) (by omega)))
          refine hK.out _ _ (by (first | exact hP0 | exact hP1 | exact hP2)) (fun hHeld => ?_)
          clear hK K
          (try simp only [Act.put, List.setIfInBounds_toArray, List.set_cons_zero, List.set_cons_succ])
          refine wpAnyH_take (i := 22) (oi := { dst := some 6, op := Go.Op.assign (Go.Operand.tmp 50), type := 76, pos := "ref.go:76", after := #[{ on := 21, ground := Go.Ground.data }, { on := 21, ground := Go.Ground.chain }, { on := 0, ground := Go.Ground.phase }, { on := 1, ground := Go.Ground.phase }, { on := 2, ground := Go.Ground.phase }, { on := 3, ground := Go.Ground.phase }, { on := 4, ground := Go.Ground.phase }, { on := 5, ground := Go.Ground.phase }, { on := 6, ground := Go.Ground.phase }, { on := 7, ground := Go.Ground.phase }, { on := 8, ground := Go.Ground.phase }, { on := 9, ground := Go.Ground.phase }, { on := 10, ground := Go.Ground.phase }, { on := 11, ground := Go.Ground.phase }, { on := 12, ground := Go.Ground.phase }, { on := 13, ground := Go.Ground.phase }, { on := 14, ground := Go.Ground.phase }, { on := 15, ground := Go.Ground.phase }, { on := 16, ground := Go.Ground.phase }, { on := 17, ground := Go.Ground.phase }, { on := 18, ground := Go.Ground.phase }, { on := 19, ground := Go.Ground.phase }, { on := 20, ground := Go.Ground.phase }, { on := 21, ground := Go.Ground.phase }], guard := none }) (v := ?_) rfl (by kernel_rfl) (by kernel_rfl) (by kernel_rfl) (fun _ _ _ h => h) (Or.inl ⟨by rfl, ?_⟩) (by assumption) ?_
          (rotate_left; focus (intro wS hSw; have s0 := (hSw.2 k _ HX.out).1; rw [HXE.out] at s0; clear hSw; go_simp; (try rw [if_neg (by omega)]); try with_reducible rfl))
          (try simp only [Act.put, List.setIfInBounds_toArray, List.set_cons_zero, List.set_cons_succ])
          refine wpAnyH_done (by kernel_rfl) ?_ _
          have HB5 := Lib.hid hb5
          have HO5 : Hid (w5.ownsRow (w.heap.size + 1) 5 1 v5 (4 * (k + 1)) (rowB (dg (L.take (k + 1))))) := Lib.hid (by
            rw [HDG.out, rowB_app]
            have e : rowB (dgW x) = [.int .u8 ((x : Int) / 16777216), .int .u8 ((x : Int) / 65536 % 256), .int .u8 ((x : Int) / 256 % 256), .int .u8 ((x : Int) % 256)] := by simp [rowB, dgW]
            rw [e]; exact hown5)
          have HBL5 := Lib.hid hP2
          clear hown5 hg5 hb5
          go_wp2
          go_roundw
          case rel => exact ⟨k + 1, vint (by omega), by omega, HO5.out, HBL5.out, HB5.out⟩
          case measure => simp [intOf]; omega
        · obtain rfl : k = 8 := by omega
          have hcv := conv_ownB HO.out (by rw [dg_len, List.length_take, HLL.out]; rfl)
          rw [List.take_of_length_le (by rw [HLL.out]; exact Nat.le_refl _)] at hcv
          go_wp2
          go_ret
          exact ⟨by rw [HSF.out]; rfl, HB.out⟩
end Go.Proofs.Ytanehgnpominiaa

