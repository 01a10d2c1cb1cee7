/-
  The contract of sieve's of.
-/
import Derived.Test.YtogpjoenfcleoaaB
import Derived.Laws.OwnMore
set_option linter.unusedVariables false
set_option linter.unusedSimpArgs false
namespace Go.Proofs.Ytogpjoenfcleoaa
open Go.RowKit
theorem infoI : (Try.prog.info? 3).map (fun i => (i.zero, i.size, i.bytes)) = some (some (.int .i64 0), 1, 8) := by kernel_rfl
def ofP (s : ByteArray) (t b k : Nat) : List Value := (List.range k).map (fun k => Value.int .i64 ((mk s k b : Nat) : Int)) ++ List.replicate (t - k) (.int .i64 0)
theorem ofP_at (s : ByteArray) (t b k : Nat) (h : k < t) : (ofP s t b k)[k]? = some (.int .i64 0) := by
  unfold ofP
  rw [List.getElem?_append_right (by simp)]
  simp only [List.length_map, List.length_range, Nat.sub_self, List.getElem?_replicate]
  rw [if_pos (by omega)]
theorem ofP_set (s : ByteArray) (t b k : Nat) (h : k < t) : (ofP s t b k).set k (.int .i64 ((mk s k b : Nat) : Int)) = ofP s t b (k + 1) := by
  unfold ofP
  rw [List.set_append_right _ _ (by simp), List.range_succ, List.map_append, show t - k = (t - (k + 1)) + 1 by omega, List.replicate_succ]
  simp
theorem made_int (n : Nat) : (madeCells (Value.int .i64 0).cells (n * 1)).toList = List.replicate n (.int .i64 0) := by
  apply List.ext_getElem
  · simp [madeCells]
  · intro i h1 h2
    simp [madeCells, Value.cells, Nat.mod_one]
theorem own_bk {w : World} {B g n cap : Nat} {e : TypeId} {xs : List Value} (h : w.ownsRow B e 1 (.slice (some ⟨g, 0, none⟩) n cap) n xs) : Bk g xs w := by
  refine ⟨(h.lt g rfl).2, fun i v hv => ⟨?_, h.frozenAt i⟩⟩
  have := h.cells (g := g) rfl i v hv
  by_cases h0 : i = 0
  · subst h0; simpa [Addr.add] using this
  · simpa [Addr.add, h0] using this
theorem sv_bits {p : Nat} {m : List Bool} {b t : Int} {w : World} (h : Bk p (svC m b t) w) (hm : m.length = 4096) : w.cell? ⟨p, 4096, none⟩ = some (.int .i64 b) :=
  (h.2 4096 _ (by unfold svC; rw [List.getElem?_append_right (by simp [hm])]; simp [hm])).1
theorem sv_tries {p : Nat} {m : List Bool} {b t : Int} {w : World} (h : Bk p (svC m b t) w) (hm : m.length = 4096) : w.cell? ⟨p, 4097, none⟩ = some (.int .i64 t) :=
  (h.2 4097 _ (by unfold svC; rw [List.getElem?_append_right (by simp [hm])]; simp [hm])).1
def SvS (p b : Nat) (w : World) : Prop := w.cell? ⟨p, 4096, none⟩ = some (.int .i64 (b : Int))
set_option maxHeartbeats 2000000 in
theorem of_any (p : Nat) (m : List Bool) (b t : Nat) (s : ByteArray) (w : World) (h : Bk p (svC m b t) w) (hm : m.length = 4096) (hb1 : 1 ≤ b) (hb2 : b ≤ 4096) (ht : t ≤ 16) (hs : s.size ≤ 9223372036854775807) : Calls Try.prog 13 #[.pointer (some ⟨p, 0, none⟩), .string s] w fun e w' => e = .returned (.slice (some ⟨w.heap.size, 0, none⟩) t t) ∧ Bk w.heap.size (ofP s t b t) w' ∧ Below w.heap.size w w' := by
  obtain ⟨i0, hi, hz0, hz1, hz2⟩ := info_parts infoI
  have c97 := sv_tries h hm
  have hpl := h.1
  obtain ⟨W, hmk, hown, hgr⟩ := run_make_full (P := Try.prog) (w := w) w.heap.size 41 3 i0 (.int .i64 0) 1 Try.underlying41 hi hz0 hz1 .i64 .i64 t (by rw [hz2]; omega) (by unfold maxLen; omega) (Nat.le_refl _)
  have HBW := Lib.hid (show Below w.heap.size w W from (Below.refl _ w).grown hgr (Nat.le_refl _) (fun q hq => by cases hq))
  rw [made_int] at hown
  have HBK : Hid (Bk w.heap.size (ofP s t b 0) W) := Lib.hid (by
    have h2 := own_bk hown
    unfold ofP; simpa using h2)
  have C96 : Hid (∀ w', Below w.heap.size w w' → w'.cell? ⟨p, 4096, none⟩ = some (.int .i64 b)) := Lib.hid (fun w' hw => by rw [hw.cell (p := ⟨p, 4096, none⟩) hpl]; exact sv_bits h hm)
  clear hown hgr h
  go_enter Try.func13, Try.ntmps13
  go_wp2
  clear hmk
  go_loopw [14] (fun i wr => ∃ k : Nat, i = .int .i64 k ∧ k ≤ t ∧ Bk w.heap.size (ofP s t b k) wr ∧ Below w.heap.size w wr) (fun i _ => t - (intOf i).toNat)
  case atStart => exact ⟨0, rfl, by omega, HBK.out, HBW.out⟩
  case round =>
    obtain ⟨k, rfl, hk, hbk, hbl⟩ := hrel
    by_cases hkt : k < t
    · have d1 : (k : Int) < (t : Int) := by omega
      have d2 : (0 : Int) ≤ (k : Int) := by omega
      have c96 := C96.out wr hbl
      have T : Hid (∀ w, Calls Try.prog 14 #[.int .u32 (k : Int), .string s] w fun e w' => e = .returned (.int .u32 (crc k s.data.toList : Nat)) ∧ Below w.heap.size w w') := Lib.hid (fun w => crc_add k s w (by omega) hs)
      have hc := crc_lt (x := k) (by omega) s.data.toList
      have hml := mk_lt s k hb1
      have hmq : mk s k b = crc k s.data.toList % b := rfl
      have HST := Lib.hid (ofP_set s t b k hkt)
      have HAT := Lib.hid (ofP_at s t b k hkt)
      obtain ⟨q, hq⟩ : ∃ q, q = mk s k b := ⟨_, rfl⟩
      rw [← hq] at hml hmq HST
      obtain ⟨C, hC⟩ : ∃ C, C = crc k s.data.toList := ⟨_, rfl⟩
      rw [← hC] at T hc hmq
      have m1 : Int.tmod (C : Int) (b : Int) = (q : Int) := by rw [Int.tmod_eq_emod_of_nonneg (by omega), hmq]; exact (Int.natCast_emod C b).symm
      have d3 : ¬ (b : Int) = 0 := by omega
      have b1 : ((b : Int) == 0) = false := by simp only [beq_eq_false_iff_ne, ne_eq]; exact d3
      have u1 : IntKind.u32.wrap (k : Int) = (k : Int) := by rw [IntKind.wrap_u32']; omega
      have u2 : IntKind.u32.wrap (b : Int) = (b : Int) := by rw [IntKind.wrap_u32']; omega
      have u4 : IntKind.u32.wrap (q : Int) = (q : Int) := by rw [IntKind.wrap_u32']; omega
      have u3 : IntKind.i64.wrap (q : Int) = (q : Int) := IntWalk.i64_in _ (by omega)
      have HBL := Lib.hid hbl
      have HBQ := Lib.hid hbk
      clear hq hC hmq hbl hbk
      have hgl := HBQ.out.1
      have hpw : p < wr.heap.size := by have := HBL.out.size; omega
      go_wp2
      have hP0 : SvS p b wr := c96
      refine wp_region_held_drew (S := SvS p b) (by kernel_rfl) (by (first | exact hP0 | exact hP1 | exact hP2 _)) (fun hHeld => ?_)
      refine wpAnyH_take (i := 0) (oi := { dst := some 17, op := Go.Op.move (Go.Operand.tmp 5), type := 41, pos := "sieve.go:34", after := #[], guard := none }) (v := ?_) rfl (by kernel_rfl) (by kernel_rfl) (by kernel_rfl) (fun _ _ _ h => h) (Or.inl ⟨by rfl, ?_⟩) (by assumption) ?_
      (rotate_left; focus (intro wS hSw; have s96 : wS.cell? ⟨p, 4096, none⟩ = some (.int .i64 (b : Int)) := hSw; clear hSw; go_simp; (try rw [if_neg (by omega)]); try with_reducible rfl))
      (try simp only [Act.put, List.setIfInBounds_toArray, List.set_cons_zero, List.set_cons_succ])
      refine wpAnyH_take (i := 1) (oi := { dst := some 18, op := Go.Op.move (Go.Operand.tmp 6), type := 3, pos := "sieve.go:34", after := #[], guard := none }) (v := ?_) rfl (by kernel_rfl) (by kernel_rfl) (by kernel_rfl) (fun _ _ _ h => h) (Or.inl ⟨by rfl, ?_⟩) (by assumption) ?_
      (rotate_left; focus (intro wS hSw; have s96 : wS.cell? ⟨p, 4096, none⟩ = some (.int .i64 (b : Int)) := hSw; clear hSw; go_simp; (try rw [if_neg (by omega)]); try with_reducible rfl))
      (try simp only [Act.put, List.setIfInBounds_toArray, List.set_cons_zero, List.set_cons_succ])
      refine wpAnyH_take (i := 2) (oi := { dst := some 19, op := Go.Op.move (Go.Operand.tmp 6), type := 3, pos := "sieve.go:34", after := #[], guard := none }) (v := ?_) rfl (by kernel_rfl) (by kernel_rfl) (by kernel_rfl) (fun _ _ _ h => h) (Or.inl ⟨by rfl, ?_⟩) (by assumption) ?_
      (rotate_left; focus (intro wS hSw; have s96 : wS.cell? ⟨p, 4096, none⟩ = some (.int .i64 (b : Int)) := hSw; clear hSw; go_simp; (try rw [if_neg (by omega)]); try with_reducible rfl))
      (try simp only [Act.put, List.setIfInBounds_toArray, List.set_cons_zero, List.set_cons_succ])
      refine wpAnyH_take (i := 3) (oi := { dst := some 20, op := Go.Op.convert 3 39 (Go.Operand.tmp 19), type := 39, pos := "sieve.go:34", after := #[{ on := 2, ground := Go.Ground.data }], guard := none }) (v := ?_) rfl (by kernel_rfl) (by kernel_rfl) (by kernel_rfl) (fun _ _ _ h => h) (Or.inl ⟨by rfl, ?_⟩) (by assumption) ?_
      (rotate_left; focus (intro wS hSw; have s96 : wS.cell? ⟨p, 4096, none⟩ = some (.int .i64 (b : Int)) := hSw; clear hSw; go_simp; (try rw [if_neg (by omega)]); try with_reducible rfl))
      (try simp only [Act.put, List.setIfInBounds_toArray, List.set_cons_zero, List.set_cons_succ])
      refine wpAnyH_take (i := 4) (oi := { dst := some 21, op := Go.Op.move (Go.Operand.tmp 1), type := 9, pos := "sieve.go:34", after := #[], guard := none }) (v := ?_) rfl (by kernel_rfl) (by kernel_rfl) (by kernel_rfl) (fun _ _ _ h => h) (Or.inl ⟨by rfl, ?_⟩) (by assumption) ?_
      (rotate_left; focus (intro wS hSw; have s96 : wS.cell? ⟨p, 4096, none⟩ = some (.int .i64 (b : Int)) := hSw; clear hSw; go_simp; (try rw [if_neg (by omega)]); try with_reducible rfl))
      (try simp only [Act.put, List.setIfInBounds_toArray, List.set_cons_zero, List.set_cons_succ])
      refine wpAnyH_take (i := 6) (oi := { dst := some 23, op := Go.Op.move (Go.Operand.tmp 0), type := 24, pos := "sieve.go:34", after := #[], guard := none }) (v := ?_) rfl (by kernel_rfl) (by kernel_rfl) (by kernel_rfl) (fun _ _ _ h => h) (Or.inl ⟨by rfl, ?_⟩) (by assumption) ?_
      (rotate_left; focus (intro wS hSw; have s96 : wS.cell? ⟨p, 4096, none⟩ = some (.int .i64 (b : Int)) := hSw; clear hSw; go_simp; (try rw [if_neg (by omega)]); try with_reducible rfl))
      (try simp only [Act.put, List.setIfInBounds_toArray, List.set_cons_zero, List.set_cons_succ])
      refine wpAnyH_take (i := 7) (oi := { dst := some 24, op := Go.Op.nilCheck (Go.Operand.tmp 23), type := 0, pos := "sieve.go:34", after := #[{ on := 6, ground := Go.Ground.data }], guard := none }) (v := ?_) rfl (by kernel_rfl) (by kernel_rfl) (by kernel_rfl) (fun _ _ _ h => h) (Or.inl ⟨by rfl, ?_⟩) (by assumption) ?_
      (rotate_left; focus (intro wS hSw; have s96 : wS.cell? ⟨p, 4096, none⟩ = some (.int .i64 (b : Int)) := hSw; clear hSw; go_simp; (try rw [if_neg (by omega)]); try with_reducible rfl))
      (try simp only [Act.put, List.setIfInBounds_toArray, List.set_cons_zero, List.set_cons_succ])
      refine wpAnyH_take (i := 8) (oi := { dst := some 25, op := Go.Op.fieldAddr 38 (Go.Operand.tmp 24) 1, type := 0, pos := "sieve.go:34", after := #[{ on := 7, ground := Go.Ground.data }], guard := none }) (v := ?_) rfl (by kernel_rfl) (by kernel_rfl) (by kernel_rfl) (fun _ _ _ h => h) (Or.inl ⟨by rfl, ?_⟩) (by assumption) ?_
      (rotate_left; focus (intro wS hSw; have s96 : wS.cell? ⟨p, 4096, none⟩ = some (.int .i64 (b : Int)) := hSw; clear hSw; go_simp; (try rw [if_neg (by omega)]); try with_reducible rfl))
      (try simp only [Act.put, List.setIfInBounds_toArray, List.set_cons_zero, List.set_cons_succ])
      refine wpAnyH_take (i := 9) (oi := { dst := some 26, op := Go.Op.load 3 (Go.Operand.tmp 25), type := 3, pos := "sieve.go:34", after := #[{ on := 8, ground := Go.Ground.data }], guard := none }) (v := ?_) rfl (by kernel_rfl) (by kernel_rfl) (by kernel_rfl) (fun _ _ _ h => h) (Or.inl ⟨by rfl, ?_⟩) (by assumption) ?_
      (rotate_left; focus (intro wS hSw; have s96 : wS.cell? ⟨p, 4096, none⟩ = some (.int .i64 (b : Int)) := hSw; clear hSw; go_simp; (try rw [if_neg (by omega)]); try with_reducible rfl))
      (try simp only [Act.put, List.setIfInBounds_toArray, List.set_cons_zero, List.set_cons_succ])
      refine wpAnyH_take (i := 10) (oi := { dst := some 27, op := Go.Op.convert 3 39 (Go.Operand.tmp 26), type := 39, pos := "sieve.go:34", after := #[{ on := 9, ground := Go.Ground.data }], guard := none }) (v := ?_) rfl (by kernel_rfl) (by kernel_rfl) (by kernel_rfl) (fun _ _ _ h => h) (Or.inl ⟨by rfl, ?_⟩) (by assumption) ?_
      (rotate_left; focus (intro wS hSw; have s96 : wS.cell? ⟨p, 4096, none⟩ = some (.int .i64 (b : Int)) := hSw; clear hSw; go_simp; (try rw [if_neg (by omega)]); try with_reducible rfl))
      (try simp only [Act.put, List.setIfInBounds_toArray, List.set_cons_zero, List.set_cons_succ])
      refine wpAnyH_ready (rs := [5]) (by kernel_rfl) (by simp) ?_
      refine AllReadyH.cons (o := { dst := some 22, op := Go.Op.call { callee := Go.Callee.value (Go.Operand.func 14), args := #[Go.Operand.tmp 20, Go.Operand.tmp 21], argTypes := #[39, 9] }, type := 39, pos := "sieve.go:34", after := #[{ on := 3, ground := Go.Ground.data }, { on := 4, ground := Go.Ground.data }], guard := none }) rfl (fun K hK => ?_) AllReadyH.nil
      go_simp
      refine (T.out _).mono ?_
      rintro e v1 ⟨rfl, hb1⟩
      have hgv : w.heap.size < v1.heap.size := Nat.lt_of_lt_of_le hgl hb1.size
      have c96' : v1.cell? ⟨p, 4096, none⟩ = some (.int .i64 (b : Int)) := by rw [hb1.cell (p := ⟨p, 4096, none⟩) hpw]; exact c96
      have hbkv : Bk w.heap.size (ofP s t b k) v1 := Bk.keep (a := wr.drew) HBQ.out.drew hb1
      have cG := (hbkv.2 k _ HAT.out).1
      have fG := (hbkv.2 k _ HAT.out).2
      have HBV := Lib.hid hbkv
      have HBL2 : Hid (Below w.heap.size w v1) := Lib.hid (below_step HBL.out.drew (Nat.le_refl _) hb1)
      have hP1 : SvS p b v1 := c96'
      have hP2 : ∀ u, SvS p b (v1.setCell ⟨w.heap.size, k, none⟩ u) := fun u => (((Kp.refl (fun q => q = w.heap.size) v1).set w.heap.size k u rfl).cell (p := ⟨p, 4096, none⟩) (by have := hb1.size; simp at this; simp; omega) (by simp; omega)).trans c96'
      clear hb1 hbkv
      (try go_wp2_with fail)
      refine hK.out _ _ (by (first | exact hP0 | exact hP1 | exact hP2 _)) (fun hHeld => ?_)
      clear hK K
      (try simp only [Act.put, List.setIfInBounds_toArray, List.set_cons_zero, List.set_cons_succ])
      refine wpAnyH_take (i := 11) (oi := { dst := some 28, op := Go.Op.binOp Go.BinOp.rem 39 (Go.Operand.tmp 22) (Go.Operand.tmp 27) 39, type := 39, pos := "sieve.go:34", after := #[{ on := 5, ground := Go.Ground.data }, { on := 10, ground := Go.Ground.data }], guard := none }) (v := ?_) rfl (by kernel_rfl) (by kernel_rfl) (by kernel_rfl) (fun _ _ _ h => h) (Or.inl ⟨by rfl, ?_⟩) (by assumption) ?_
      (rotate_left; focus (intro wS hSw; have s96 : wS.cell? ⟨p, 4096, none⟩ = some (.int .i64 (b : Int)) := hSw; clear hSw; go_simp; (try rw [if_neg (by omega)]); try with_reducible rfl))
      (try simp only [Act.put, List.setIfInBounds_toArray, List.set_cons_zero, List.set_cons_succ])
      refine wpAnyH_take (i := 12) (oi := { dst := some 29, op := Go.Op.convert 39 3 (Go.Operand.tmp 28), type := 3, pos := "sieve.go:34", after := #[{ on := 11, ground := Go.Ground.data }], guard := none }) (v := ?_) rfl (by kernel_rfl) (by kernel_rfl) (by kernel_rfl) (fun _ _ _ h => h) (Or.inl ⟨by rfl, ?_⟩) (by assumption) ?_
      (rotate_left; focus (intro wS hSw; have s96 : wS.cell? ⟨p, 4096, none⟩ = some (.int .i64 (b : Int)) := hSw; clear hSw; go_simp; (try rw [if_neg (by omega)]); try with_reducible rfl))
      (try simp only [Act.put, List.setIfInBounds_toArray, List.set_cons_zero, List.set_cons_succ])
      refine wpAnyH_take (i := 13) (oi := { dst := some 30, op := Go.Op.indexAddr 41 (Go.Operand.tmp 17) (Go.Operand.tmp 18), type := 0, pos := "sieve.go:34", after := #[{ on := 0, ground := Go.Ground.data }, { on := 1, ground := Go.Ground.data }, { on := 0, ground := Go.Ground.phase }, { on := 1, ground := Go.Ground.phase }, { on := 2, ground := Go.Ground.phase }, { on := 3, ground := Go.Ground.phase }, { on := 4, ground := Go.Ground.phase }, { on := 5, ground := Go.Ground.phase }, { on := 6, ground := Go.Ground.phase }, { on := 7, ground := Go.Ground.phase }, { on := 8, ground := Go.Ground.phase }, { on := 9, ground := Go.Ground.phase }, { on := 10, ground := Go.Ground.phase }, { on := 11, ground := Go.Ground.phase }, { on := 12, ground := Go.Ground.phase }], guard := none }) (v := ?_) rfl (by kernel_rfl) (by kernel_rfl) (by kernel_rfl) (fun _ _ _ h => h) (Or.inl ⟨by rfl, ?_⟩) (by assumption) ?_
      (rotate_left; focus (intro wS hSw; have s96 : wS.cell? ⟨p, 4096, none⟩ = some (.int .i64 (b : Int)) := hSw; clear hSw; go_simp; (try rw [if_neg (by omega)]); try with_reducible rfl))
      (try simp only [Act.put, List.setIfInBounds_toArray, List.set_cons_zero, List.set_cons_succ])
      refine wpAnyH_ready (rs := [14]) (by kernel_rfl) (by simp) ?_
      refine AllReadyH.cons (o := { dst := none, op := Go.Op.store 3 (Go.Operand.tmp 30) (Go.Operand.tmp 29), type := 0, pos := "sieve.go:34", after := #[{ on := 13, ground := Go.Ground.data }, { on := 12, ground := Go.Ground.data }, { on := 5, ground := Go.Ground.chain }, { on := 0, ground := Go.Ground.phase }, { on := 1, ground := Go.Ground.phase }, { on := 2, ground := Go.Ground.phase }, { on := 3, ground := Go.Ground.phase }, { on := 4, ground := Go.Ground.phase }, { on := 5, ground := Go.Ground.phase }, { on := 6, ground := Go.Ground.phase }, { on := 7, ground := Go.Ground.phase }, { on := 8, ground := Go.Ground.phase }, { on := 9, ground := Go.Ground.phase }, { on := 10, ground := Go.Ground.phase }, { on := 11, ground := Go.Ground.phase }, { on := 12, ground := Go.Ground.phase }], guard := none }) rfl (fun K hK => ?_) AllReadyH.nil
      go_simp
      refine hK.out _ _ (by (first | exact hP0 | exact hP1 | exact hP2 _)) (fun hHeld => ?_)
      clear hK K
      (try simp only [Act.put, List.setIfInBounds_toArray, List.set_cons_zero, List.set_cons_succ])
      refine wpAnyH_done (by kernel_rfl) ?_ _
      all_goals
        go_wp2
        refine ⟨⟨k + 1, vint (by omega), by omega, ?_, ?_⟩, by simp [intOf]; omega⟩
        · rw [← HST.out]
          exact HBV.out.set k (List.getElem?_eq_some_iff.1 HAT.out).1 _
        · exact HBL2.out.trans (((Kp.refl (fun q => q = w.heap.size) v1).set w.heap.size k _ rfl).below (Nat.le_of_lt hgv) (fun q hq => by subst hq; exact Nat.le_refl _))
    · obtain rfl : k = t := by omega
      have d1 : ¬ (k : Int) < (k : Int) := by omega
      go_wp2
      go_ret
      exact ⟨rfl, hbk, hbl⟩
end Go.Proofs.Ytogpjoenfcleoaa

