/-
  The contract of sha's schedule: the words of a block.
-/
import Derived.Test.YtanehgnpominiaaShB
import Derived.StillTailTactics
set_option linter.unusedVariables false
set_option linter.unusedSimpArgs false
namespace Go.Proofs.Ytanehgnpominiaa
open Go.RowKit
def pw (b : List Nat) (i : Nat) : Nat → Nat
  | 0 => 0
  | j + 1 => pw b i j * 256 + b.getD (4 * i + j) 0
theorem pw_lt {b : List Nat} (hb : ∀ j, b.getD j 0 < 256) (i : Nat) : ∀ j, pw b i j < 256 ^ j
  | 0 => by simp [pw]
  | j + 1 => by
    have h1 := pw_lt hb i j
    have h2 := hb (4 * i + j)
    simp only [pw, Nat.pow_succ]
    omega
theorem pw_four (b : List Nat) (i : Nat) : pw b i 4 = wd b i := by
  simp only [pw, wd, Nat.add_zero]
  omega
theorem or_byte32 (v x : Nat) (hv : v < 16777216) (hx : x < 256) : bits .or .u32 ((v : Int) * 256 % 4294967296) (x : Int) = ((v * 256 + x : Nat) : Int) ∧ bits .or .u32 ((v : Int) * 256) (x : Int) = ((v * 256 + x : Nat) : Int) := by
  have h1 := u32_or_nat (v * 256) x (by omega) (by omega)
  rw [nat_join 8 (v * 256) x (by omega) (by omega)] at h1
  have h2 : ((v : Int) * 256 % 4294967296) = ((v * 256 : Nat) : Int) := by omega
  have h3 : ((v : Int) * 256) = ((v * 256 : Nat) : Int) := by omega
  rw [h2, h3]
  exact ⟨h1, h1⟩
/-- The words that lie in a block so far. -/
structure Wk (B P : Nat) (w0 : World) (l : List Nat) (wr : World) : Prop where
  bk : Bk P (u32s (pad64 l)) wr
  le : l.length ≤ 64
  kp : Kp (fun k => k = P) w0 wr
theorem Wk.set {B P : Nat} {w0 wr : World} {l : List Nat} (h : Wk B P w0 l wr) (hl : l.length < 64) (x : Nat) : Wk B P w0 (l ++ [x]) (wr.setCell ⟨P, l.length, none⟩ (.int .u32 (x : Int))) := by
  refine ⟨?_, by simp; omega, h.kp.set P _ _ rfl⟩
  have := h.bk.set l.length (by rw [u32s_len, pad64_len h.le]; exact hl) (.int .u32 (x : Int))
  rw [u32s_set, pad64_set l x hl] at this
  exact this
theorem Wk.last {B P : Nat} {w0 wr : World} {l : List Nat} {y : Nat} (h : Wk B P w0 (l ++ [y]) wr) (x : Nat) : Wk B P w0 (l ++ [x]) (wr.setCell ⟨P, l.length, none⟩ (.int .u32 (x : Int))) := by
  have hl := h.le
  rw [List.length_append, List.length_singleton] at hl
  refine ⟨?_, by simp; omega, h.kp.set P _ _ rfl⟩
  have := h.bk.set l.length (by rw [u32s_len, pad64_len h.le]; omega) (.int .u32 (x : Int))
  rw [u32s_set, ← pad64_set l y (by omega), List.set_set, pad64_set l x (by omega)] at this
  exact this
theorem Wk.get {B P : Nat} {w0 wr : World} {l : List Nat} (h : Wk B P w0 l wr) {i : Nat} (hi : i < l.length) : wr.cell? ⟨P, i, none⟩ = some (.int .u32 (l.getD i 0 : Nat)) ∧ wr.frozen? ⟨P, i, none⟩ = false := by
  have hl := h.le
  have := h.bk.2 i _ (u32s_get (by rw [pad64_len h.le]; omega))
  rw [pad64_get hi] at this
  exact this
theorem Wk.zero {B P : Nat} {w0 wr : World} {l : List Nat} (h : Wk B P w0 l wr) (hl : l.length < 64) : wr.cell? ⟨P, l.length, none⟩ = some (.int .u32 0) ∧ wr.frozen? ⟨P, l.length, none⟩ = false := by
  have := h.bk.2 l.length _ (u32s_get (by rw [pad64_len h.le]; omega))
  rw [pad64_zero l hl] at this
  exact this
theorem Wk.drew {B P : Nat} {w0 wr : World} {l : List Nat} (h : Wk B P w0 l wr) : Wk B P w0 l wr.drew := ⟨h.bk.drew, h.le, h.kp.drew⟩
theorem getD_last (l : List Nat) (x : Nat) : (l ++ [x]).getD l.length 0 = x := by simp [List.getD_eq_getElem?_getD]
theorem getD_app (l : List Nat) (x i : Nat) (h : i < l.length) : (l ++ [x]).getD i 0 = l.getD i 0 := by
  simp only [List.getD_eq_getElem?_getD]
  rw [List.getElem?_append_left h]
theorem pad64_app0 (l : List Nat) (h : l.length < 64) : pad64 (l ++ [0]) = pad64 l := by
  simp only [pad64]
  obtain ⟨m, hm⟩ : ∃ m, 64 - l.length = m + 1 := ⟨63 - l.length, by omega⟩
  rw [hm, List.replicate_succ, List.length_append, List.length_singleton, show 64 - (l.length + 1) = m by omega, List.append_assoc]
  rfl
theorem Wk.app0 {B P : Nat} {w0 wr : World} {l : List Nat} (h : Wk B P w0 l wr) (hl : l.length < 64) : Wk B P w0 (l ++ [0]) wr := ⟨by rw [pad64_app0 l hl]; exact h.bk, by simp; omega, h.kp⟩
theorem slice_four (P q : Nat) (hq : q + 4 ≤ 64) (wr : World) : (Instr.sliceAt 125 (.pointer (some ⟨P, 0, none⟩)) (some (.int .i64 (q : Int))) (some (.int .i64 ((q : Int) + 4))) none).run Try.prog wr = .ok (.slice (some ⟨P, q, none⟩) 4 (64 - q)) wr := by
  have ha : Try.prog.arrayLen 125 = 64 := by kernel_rfl
  have he : Try.prog.elem 125 = 5 := by kernel_rfl
  have ht : Try.prog.underlying 125 = some (.array (Try.prog.arrayLen 125) (Try.prog.elem 125)) := by rw [ha, he]; exact Try.underlying125
  rw [run_sliceAt_array_lh wr 125 ⟨P, 0, none⟩ ht .i64 .i64 (q : Int) ((q : Int) + 4) (by omega) (by omega) (by rw [ha]; omega), ha, he]
  have hz : (sizeOf 5).run Try.prog wr = .ok 1 wr := by kernel_rfl
  rw [hz]
  have h1 : (q : Int).toNat = q := by omega
  have h2 : ((q : Int) + 4).toNat = q + 4 := by omega
  simp only [Result.andThen, slicedAt, h1, h2]
  rw [if_neg (by omega), Nat.mul_one, Addr.add_lit, Nat.zero_add, Nat.add_sub_cancel_left]
set_option maxRecDepth 100000 in
set_option maxHeartbeats 8000000 in
theorem sched_any (s : ByteArray) (w : World) : Calls Try.prog 73 #[.string s] w fun e w' => e = .returned (.agg (u32s (wds (byB s) 64)).toArray) ∧ Below w.heap.size w w' := by
  obtain ⟨W, hcp, h0, h1, h2, hz, hb⟩ := sched_start w s
  have H2 := Lib.hid h2
  have HB := Lib.hid hb
  have HR := Lib.hid h0
  obtain ⟨P, hP⟩ : ∃ P, P = w.heap.size + 1 := ⟨_, rfl⟩
  have HK : Hid (Wk w.heap.size P W [] W) := Lib.hid ⟨by rw [hP]; exact h1, by simp, Kp.refl _ _⟩
  have hbyte : ∀ j, (byB s).getD j 0 < 256 := byB_lt s
  obtain ⟨b, hbb⟩ : ∃ b, b = byB s := ⟨_, rfl⟩
  rw [← hbb] at H2 hbyte ⊢
  have HBY := Lib.hid hbyte
  have HP := Lib.hid hP
  clear h0 h1 h2 hb hbyte hbb
  go_enter Try.func73, Try.ntmps73
  go_wp2
  rw [← hP]
  clear hcp
  have hzP : P < W.heap.size := by omega
  clear hP
  go_loopw [16] (fun i wr => ∃ k : Nat, i = .int .i64 k ∧ k ≤ 16 ∧ Wk w.heap.size P W (wds b k) wr) (fun i _ => 16 - (intOf i).toNat)
  case atStart => exact ⟨0, rfl, by omega, HK.out⟩
  case round =>
    obtain ⟨k, rfl, hk, hw⟩ := hrel
    have HW := Lib.hid hw
    clear hw
    by_cases hlt : k < 16
    · have d1 : (k : Int) < 16 := by omega
      obtain ⟨q, hq⟩ : ∃ q, q = 4 * k := ⟨_, rfl⟩
      have e1 : 4 * (k : Int) = (q : Int) := by omega
      have e2 : (q : Int) + 4 ≤ 64 := by omega
      have HQ := Lib.hid hq
      have hsl := slice_four (P + 1) q (by omega)
      clear hq
      obtain ⟨L, hL⟩ : ∃ L, L = wds b k := ⟨_, rfl⟩
      have hLk : L.length = k := by rw [hL, wds_len]
      have HL := Lib.hid hL
      rw [← hL] at HW
      have HW0 := Lib.hid (HW.out.app0 (by omega))
      have HLK := Lib.hid hLk
      clear hL hLk HW
      go_wp2
      go_loopw [26] (fun i wr => ∃ j : Nat, i = .int .i64 j ∧ j ≤ 4 ∧ Wk w.heap.size P W (L ++ [pw b k j]) wr) (fun i _ => 4 - (intOf i).toNat)
      case atStart => exact ⟨0, rfl, by omega, HW0.out⟩
      case round =>
        obtain ⟨j, rfl, hj, hw⟩ := hrel
        have hH := H2.out
        have hQ := HQ.out
        have hK2 := HLK.out
        by_cases hjl : j < 4
        · have d3 : (j : Int) < 4 := by omega
          have c1 : wr.cell? ⟨P + 1, q + j, none⟩ = some (.int .u8 (b.getD (4 * k + j) 0 : Nat)) := by
            rw [hw.kp.cell (p := ⟨P + 1, q + j, none⟩) (by rw [HP.out]; exact hz) (by simp), HP.out, hQ]
            exact hH _ (by omega)
          obtain ⟨c2, f2⟩ := hw.get (i := k) (by simp; omega)
          rw [show (L ++ [pw b k j]).getD k 0 = pw b k j by rw [← hK2]; exact getD_last _ _] at c2
          have hb := HBY.out (4 * k + j)
          have hv : pw b k j < 16777216 := by
            have h1 := pw_lt HBY.out k j
            have h2 : 256 ^ j ≤ 256 ^ 3 := Nat.pow_le_pow_right (by omega) (by omega)
            omega
          have HV : Hid (pw b k (j + 1) = pw b k j * 256 + b.getD (4 * k + j) 0) := Lib.hid rfl
          have HS := Lib.hid (hw.last (pw b k (j + 1)))
          obtain ⟨v, hvv⟩ : ∃ v, v = pw b k j := ⟨_, rfl⟩
          obtain ⟨x, hxx⟩ : ∃ x, x = b.getD (4 * k + j) 0 := ⟨_, rfl⟩
          rw [← hvv] at c2 hv
          rw [← hxx] at c1 hb
          rw [← hvv, ← hxx] at HV
          have HO := Lib.hid (or_byte32 v x hv hb)
          clear hH hQ hw hvv hxx hK2
          go_wp2
          go_roundw
          case rel =>
            refine ⟨j + 1, vint (by omega), by omega, ?_⟩
            rw [HO.out.2, ← HV.out]
            have h9 := HS.out
            rw [HLK.out] at h9
            exact h9
          case measure => simp [intOf]; omega
        · obtain rfl : j = 4 := by omega
          have HW4 : Hid (Wk w.heap.size P W (wds b (k + 1)) wr) := Lib.hid (by
            rw [wds, if_pos hlt, ← HL.out, ← pw_four]; exact hw)
          clear hH hQ hK2 hw
          go_wp2
          go_roundw
          case rel => exact ⟨k + 1, vint (by omega), by omega, HW4.out⟩
          case measure => simp [intOf]; omega
    · obtain rfl : k = 16 := by omega
      have hbyte := HBY.out
      rw [show ((16 : Nat) : Int) = 16 from rfl]
      go_wp2
      go_loopw [8] (fun i wr => ∃ t : Nat, i = .int .i64 t ∧ 16 ≤ t ∧ t ≤ 64 ∧ Wk w.heap.size P W (wds b t) wr) (fun i _ => 64 - (intOf i).toNat)
      case atStart => exact ⟨16, rfl, by omega, by omega, HW.out⟩
      case round =>
        obtain ⟨t, rfl, ht, ht2, hw⟩ := hrel
        by_cases hlt2 : t < 64
        · have d3 : (t : Int) < 64 := by omega
          obtain ⟨L, hL⟩ : ∃ L, L = wds b t := ⟨_, rfl⟩
          have hLt : L.length = t := by rw [hL, wds_len]
          rw [← hL] at hw
          have hbd : ∀ x ∈ L, x < 4294967296 := by rw [hL]; exact wds_lt hbyte t
          have hget : ∀ i, i < L.length → L.getD i 0 < 4294967296 := fun i hi => by
            rw [List.getD_eq_getElem?_getD, List.getElem?_eq_getElem hi]; exact hbd _ (List.getElem_mem hi)
          obtain ⟨q2, hq2⟩ : ∃ q, q = t - 2 := ⟨_, rfl⟩
          obtain ⟨q7, hq7⟩ : ∃ q, q = t - 7 := ⟨_, rfl⟩
          obtain ⟨q15, hq15⟩ : ∃ q, q = t - 15 := ⟨_, rfl⟩
          obtain ⟨q16, hq16⟩ : ∃ q, q = t - 16 := ⟨_, rfl⟩
          have HN : Hid (wds b (t + 1) = L ++ [(L.getD q16 0 + L.getD q7 0 + sl (L.getD q15 0) + sh (L.getD q2 0)) % 4294967296]) := Lib.hid (by
            rw [wds, if_neg (by omega), hL, hq16, hq7, hq15, hq2])
          have b2 := hget q2 (by omega)
          have b7 := hget q7 (by omega)
          have b15 := hget q15 (by omega)
          have b16 := hget q16 (by omega)
          have g2 := (hw.get (i := q2) (by omega)).1
          have g7 := (hw.get (i := q7) (by omega)).1
          have g15 := (hw.get (i := q15) (by omega)).1
          have g16 := (hw.get (i := q16) (by omega)).1
          obtain ⟨x2, hx2⟩ : ∃ x, x = L.getD q2 0 := ⟨_, rfl⟩
          obtain ⟨x7, hx7⟩ : ∃ x, x = L.getD q7 0 := ⟨_, rfl⟩
          obtain ⟨x15, hx15⟩ : ∃ x, x = L.getD q15 0 := ⟨_, rfl⟩
          obtain ⟨x16, hx16⟩ : ∃ x, x = L.getD q16 0 := ⟨_, rfl⟩
          rw [← hx2] at g2 b2 HN
          rw [← hx7] at g7 b7 HN
          rw [← hx15] at g15 b15 HN
          rw [← hx16] at g16 b16 HN
          have e2 : (t : Int) - 2 = (q2 : Int) := by omega
          have e7 : (t : Int) - 7 = (q7 : Int) := by omega
          have e15 : (t : Int) - 15 = (q15 : Int) := by omega
          have e16 : (t : Int) - 16 = (q16 : Int) := by omega
          have v2 : IntKind.i64.wrap (q2 : Int) = (q2 : Int) := IntWalk.i64_in _ (by omega)
          have v7 : IntKind.i64.wrap (q7 : Int) = (q7 : Int) := IntWalk.i64_in _ (by omega)
          have v15 : IntKind.i64.wrap (q15 : Int) = (q15 : Int) := IntWalk.i64_in _ (by omega)
          have v16 : IntKind.i64.wrap (q16 : Int) = (q16 : Int) := IntWalk.i64_in _ (by omega)
          have k2 : (q2 : Int) < 64 := by omega
          have k7 : (q7 : Int) < 64 := by omega
          have k15 : (q15 : Int) < 64 := by omega
          have k16 : (q16 : Int) < 64 := by omega
          obtain ⟨c0, f0⟩ := hw.zero (by omega)
          rw [hLt] at c0 f0
          have HW3 := Lib.hid hw
          have HLT := Lib.hid hLt
          clear hw hget hbd hLt hL hq2 hq7 hq15 hq16 hx2 hx7 hx15 hx16
          go_wp2
          refine wp_region_held_drew (S := fun w' => w'.cell? ⟨P, q15, none⟩ = some (.int .u32 x15) ∧ w'.cell? ⟨P, q2, none⟩ = some (.int .u32 x2)) (by kernel_rfl) (by (exact ⟨g15, g2⟩)) (fun hHeld => ?_)
          refine wpAnyH_take (i := 0) (oi := { dst := some 45, op := Go.Op.move (Go.Operand.tmp 8), type := 3, pos := "sha.go:52", after := #[], guard := none }) (v := ?_) rfl (by kernel_rfl) (by kernel_rfl) (by kernel_rfl) (fun _ _ _ h => h) (Or.inl ⟨by rfl, ?_⟩) (by assumption) ?_
          (rotate_left; focus (intro wS hSw; obtain ⟨s15, s2⟩ := hSw; go_simp; (try rw [if_neg (by omega)]); try with_reducible rfl))
          (try simp only [Act.put, List.setIfInBounds_toArray, List.set_cons_zero, List.set_cons_succ])
          refine wpAnyH_take (i := 1) (oi := { dst := some 46, op := Go.Op.binOp Go.BinOp.sub 3 (Go.Operand.tmp 45) (Go.Operand.const (Go.Value.int Go.IntKind.i64 15)) 3, type := 3, pos := "sha.go:52", after := #[{ on := 0, ground := Go.Ground.data }], guard := none }) (v := ?_) rfl (by kernel_rfl) (by kernel_rfl) (by kernel_rfl) (fun _ _ _ h => h) (Or.inl ⟨by rfl, ?_⟩) (by assumption) ?_
          (rotate_left; focus (intro wS hSw; obtain ⟨s15, s2⟩ := hSw; go_simp; (try rw [if_neg (by omega)]); try with_reducible rfl))
          (try simp only [Act.put, List.setIfInBounds_toArray, List.set_cons_zero, List.set_cons_succ])
          refine wpAnyH_take (i := 2) (oi := { dst := some 47, op := Go.Op.indexAddr 114 (Go.Operand.tmp 3) (Go.Operand.tmp 46), type := 0, pos := "sha.go:52", after := #[{ on := 1, ground := Go.Ground.data }], guard := none }) (v := ?_) rfl (by kernel_rfl) (by kernel_rfl) (by kernel_rfl) (fun _ _ _ h => h) (Or.inl ⟨by rfl, ?_⟩) (by assumption) ?_
          (rotate_left; focus (intro wS hSw; obtain ⟨s15, s2⟩ := hSw; go_simp; (try rw [if_neg (by omega)]); try with_reducible rfl))
          (try simp only [Act.put, List.setIfInBounds_toArray, List.set_cons_zero, List.set_cons_succ])
          refine wpAnyH_take (i := 3) (oi := { dst := some 48, op := Go.Op.load 97 (Go.Operand.tmp 47), type := 97, pos := "sha.go:52", after := #[{ on := 2, ground := Go.Ground.data }], guard := none }) (v := ?_) rfl (by kernel_rfl) (by kernel_rfl) (by kernel_rfl) (fun _ _ _ h => h) (Or.inl ⟨by rfl, ?_⟩) (by assumption) ?_
          (rotate_left; focus (intro wS hSw; obtain ⟨s15, s2⟩ := hSw; go_simp; (try rw [if_neg (by omega)]); try with_reducible rfl))
          (try simp only [Act.put, List.setIfInBounds_toArray, List.set_cons_zero, List.set_cons_succ])
          refine wpAnyH_take (i := 4) (oi := { dst := some 49, op := Go.Op.move (Go.Operand.tmp 8), type := 3, pos := "sha.go:52", after := #[{ on := 8, ground := Go.Ground.gcOnly Go.Departure.lateStores }], guard := none }) (v := ?_) rfl (by kernel_rfl) (by kernel_rfl) (by kernel_rfl) (fun _ _ _ h => h) (Or.inl ⟨by rfl, ?_⟩) (by assumption) ?_
          (rotate_left; focus (intro wS hSw; obtain ⟨s15, s2⟩ := hSw; go_simp; (try rw [if_neg (by omega)]); try with_reducible rfl))
          (try simp only [Act.put, List.setIfInBounds_toArray, List.set_cons_zero, List.set_cons_succ])
          refine wpAnyH_take (i := 5) (oi := { dst := some 50, op := Go.Op.binOp Go.BinOp.sub 3 (Go.Operand.tmp 49) (Go.Operand.const (Go.Value.int Go.IntKind.i64 2)) 3, type := 3, pos := "sha.go:52", after := #[{ on := 4, ground := Go.Ground.data }, { on := 8, ground := Go.Ground.gcOnly Go.Departure.lateStores }], guard := none }) (v := ?_) rfl (by kernel_rfl) (by kernel_rfl) (by kernel_rfl) (fun _ _ _ h => h) (Or.inl ⟨by rfl, ?_⟩) (by assumption) ?_
          (rotate_left; focus (intro wS hSw; obtain ⟨s15, s2⟩ := hSw; go_simp; (try rw [if_neg (by omega)]); try with_reducible rfl))
          (try simp only [Act.put, List.setIfInBounds_toArray, List.set_cons_zero, List.set_cons_succ])
          refine wpAnyH_take (i := 6) (oi := { dst := some 51, op := Go.Op.indexAddr 114 (Go.Operand.tmp 3) (Go.Operand.tmp 50), type := 0, pos := "sha.go:52", after := #[{ on := 5, ground := Go.Ground.data }, { on := 8, ground := Go.Ground.gcOnly Go.Departure.lateStores }], guard := none }) (v := ?_) rfl (by kernel_rfl) (by kernel_rfl) (by kernel_rfl) (fun _ _ _ h => h) (Or.inl ⟨by rfl, ?_⟩) (by assumption) ?_
          (rotate_left; focus (intro wS hSw; obtain ⟨s15, s2⟩ := hSw; go_simp; (try rw [if_neg (by omega)]); try with_reducible rfl))
          (try simp only [Act.put, List.setIfInBounds_toArray, List.set_cons_zero, List.set_cons_succ])
          refine wpAnyH_take (i := 7) (oi := { dst := some 52, op := Go.Op.load 97 (Go.Operand.tmp 51), type := 97, pos := "sha.go:52", after := #[{ on := 6, ground := Go.Ground.data }, { on := 8, ground := Go.Ground.gcOnly Go.Departure.lateStores }], guard := none }) (v := ?_) rfl (by kernel_rfl) (by kernel_rfl) (by kernel_rfl) (fun _ _ _ h => h) (Or.inl ⟨by rfl, ?_⟩) (by assumption) ?_
          (rotate_left; focus (intro wS hSw; obtain ⟨s15, s2⟩ := hSw; go_simp; (try rw [if_neg (by omega)]); try with_reducible rfl))
          (try simp only [Act.put, List.setIfInBounds_toArray, List.set_cons_zero, List.set_cons_succ])
          refine wpAnyH_take (i := 8) (oi := { dst := some 9, op := Go.Op.assign (Go.Operand.tmp 48), type := 97, pos := "sha.go:52", after := #[{ on := 3, ground := Go.Ground.data }, { on := 0, ground := Go.Ground.phase }, { on := 1, ground := Go.Ground.phase }, { on := 2, ground := Go.Ground.phase }, { on := 3, ground := Go.Ground.phase }, { on := 4, ground := Go.Ground.textOnly Go.Departure.lateStores }, { on := 5, ground := Go.Ground.textOnly Go.Departure.lateStores }, { on := 6, ground := Go.Ground.textOnly Go.Departure.lateStores }, { on := 7, ground := Go.Ground.textOnly Go.Departure.lateStores }], guard := none }) (v := ?_) rfl (by kernel_rfl) (by kernel_rfl) (by kernel_rfl) (fun _ _ _ h => h) (Or.inl ⟨by rfl, ?_⟩) (by assumption) ?_
          (rotate_left; focus (intro wS hSw; obtain ⟨s15, s2⟩ := hSw; go_simp; (try rw [if_neg (by omega)]); try with_reducible rfl))
          (try simp only [Act.put, List.setIfInBounds_toArray, List.set_cons_zero, List.set_cons_succ])
          refine wpAnyH_take (i := 9) (oi := { dst := some 10, op := Go.Op.assign (Go.Operand.tmp 52), type := 97, pos := "sha.go:52", after := #[{ on := 7, ground := Go.Ground.data }, { on := 8, ground := Go.Ground.chain }, { on := 0, ground := Go.Ground.phase }, { on := 1, ground := Go.Ground.phase }, { on := 2, ground := Go.Ground.phase }, { on := 3, ground := Go.Ground.phase }, { on := 4, ground := Go.Ground.phase }, { on := 5, ground := Go.Ground.phase }, { on := 6, ground := Go.Ground.phase }, { on := 7, ground := Go.Ground.phase }, { on := 8, ground := Go.Ground.phase }], guard := none }) (v := ?_) rfl (by kernel_rfl) (by kernel_rfl) (by kernel_rfl) (fun _ _ _ h => h) (Or.inl ⟨by rfl, ?_⟩) (by assumption) ?_
          (rotate_left; focus (intro wS hSw; obtain ⟨s15, s2⟩ := hSw; go_simp; (try rw [if_neg (by omega)]); try with_reducible rfl))
          (try simp only [Act.put, List.setIfInBounds_toArray, List.set_cons_zero, List.set_cons_succ])
          refine wpAnyH_done (by kernel_rfl) ?_ _
          go_wp2
          refine wp_region_still_tail 11 (by kernel_rfl) (by kernel_rfl) ?_
          simp only [List.take_succ_cons, List.take_zero, List.drop_succ_cons, List.drop_zero]
          change wpStill _ _ (wr.drew.drew) _ _ _
          repeat still_step
          refine wpStill_nil ?_
          change wpList _ _ _ _ _ (wr.drew.drew)
          go_wp2
          have eA : ((x16 : Int) + (x7 : Int)) % 4294967296 = (((x16 + x7) % 4294967296 : Nat) : Int) := by omega
          rw [eA]
          clear eA
          obtain ⟨A, hA⟩ : ∃ A, A = (x16 + x7) % 4294967296 := ⟨_, rfl⟩
          have hAl : A < 4294967296 := by rw [hA]; exact Nat.mod_lt _ (by decide)
          rw [← hA]
          have HA := Lib.hid hA
          have hw17 := ((HW3.out.set (by rw [HLT.out]; omega) A).drew).drew
          rw [HLT.out] at hw17
          obtain ⟨w17, h17⟩ : ∃ x, x = (wr.setCell ⟨P, t, none⟩ (.int .u32 (A : Int))).drew.drew := ⟨_, rfl⟩
          rw [← h17] at hw17 ⊢
          have HW17 := Lib.hid hw17
          clear hA h17 g2 g7 g15 g16 c0 f0 b16 b7
          obtain ⟨c0, f0⟩ := hw17.get (i := t) (by simp [HLT.out])
          rw [show (L ++ [A]).getD t 0 = A by rw [← HLT.out]; exact getD_last _ _] at c0
          have r7 := rot_lt (n := 7) b15
          have r18 := rot_lt (n := 18) b15
          have HX1 := Lib.hid (u32_xor_nat _ _ r7 r18)
          have HX2 := Lib.hid (u32_xor_nat _ (x15 / 8) (xor_lt32 r7 r18) (by omega))
          have HSL : Hid (sl x15 = rot 7 x15 ^^^ rot 18 x15 ^^^ (x15 / 8)) := Lib.hid rfl
          clear hw17 r7 r18
          refine wp_region_still_tail 13 (by kernel_rfl) (by kernel_rfl) ?_
          simp only [List.take_succ_cons, List.take_zero, List.drop_succ_cons, List.drop_zero]
          change wpStill _ _ (w17.drew) _ _ _
          repeat still_step
          still_call ((rotl_7 x15 _ b15).mono fun e w' ⟨he, hw⟩ => ⟨he, hw.symm⟩)
          repeat still_step
          still_call ((rotl_18 x15 _ b15).mono fun e w' ⟨he, hw⟩ => ⟨he, hw.symm⟩)
          repeat still_step
          refine wpStill_nil ?_
          change wpList _ _ _ _ _ (w17.drew)
          go_wp2
          have e8 : ((x15 : Int) / 8) = ((x15 / 8 : Nat) : Int) := by omega
          rw [HX1.out, e8, HX2.out, ← HSL.out]
          clear e8 HX1 HX2 HSL
          obtain ⟨B, hB⟩ : ∃ B, B = (A + sl x15) % 4294967296 := ⟨_, rfl⟩
          have eB : ((A : Int) + (sl x15 : Int)) % 4294967296 = (B : Int) := by omega
          rw [eB]
          have hBl : B < 4294967296 := by rw [hB]; exact Nat.mod_lt _ (by decide)
          have HB9 := Lib.hid hB
          have hw18 := (HW17.out.last B).drew
          rw [HLT.out] at hw18
          obtain ⟨w18, h18⟩ : ∃ x, x = (w17.setCell ⟨P, t, none⟩ (.int .u32 (B : Int))).drew := ⟨_, rfl⟩
          rw [← h18] at hw18 ⊢
          have HW18 := Lib.hid hw18
          clear eB hB h18 c0 f0 hAl
          obtain ⟨c0, f0⟩ := hw18.get (i := t) (by simp [HLT.out])
          rw [show (L ++ [B]).getD t 0 = B by rw [← HLT.out]; exact getD_last _ _] at c0
          have r7 := rot_lt (n := 17) b2
          have r18 := rot_lt (n := 19) b2
          have HX1 := Lib.hid (u32_xor_nat _ _ r7 r18)
          have HX2 := Lib.hid (u32_xor_nat _ (x2 / 1024) (xor_lt32 r7 r18) (by omega))
          have HSL : Hid (sh x2 = rot 17 x2 ^^^ rot 19 x2 ^^^ (x2 / 1024)) := Lib.hid rfl
          clear hw18 r7 r18
          refine wp_region_still_tail 13 (by kernel_rfl) (by kernel_rfl) ?_
          simp only [List.take_succ_cons, List.take_zero, List.drop_succ_cons, List.drop_zero]
          change wpStill _ _ (w18.drew) _ _ _
          repeat still_step
          still_call ((rotl_17 x2 _ b2).mono fun e w' ⟨he, hw⟩ => ⟨he, hw.symm⟩)
          repeat still_step
          still_call ((rotl_19 x2 _ b2).mono fun e w' ⟨he, hw⟩ => ⟨he, hw.symm⟩)
          repeat still_step
          refine wpStill_nil ?_
          change wpList _ _ _ _ _ (w18.drew)
          go_wp2
          have e8 : ((x2 : Int) / 1024) = ((x2 / 1024 : Nat) : Int) := by omega
          rw [HX1.out, e8, HX2.out, ← HSL.out]
          clear e8 HX1 HX2 HSL
          obtain ⟨C, hC⟩ : ∃ C, C = (B + sh x2) % 4294967296 := ⟨_, rfl⟩
          have eC : ((B : Int) + (sh x2 : Int)) % 4294967296 = (C : Int) := by omega
          rw [eC]
          have hw19 := (HW18.out.last C).drew
          rw [HLT.out] at hw19
          have HW19 : Hid (Wk w.heap.size P W (wds b (t + 1)) (w18.setCell ⟨P, t, none⟩ (.int .u32 (C : Int))).drew) := Lib.hid (by
            rw [HN.out, show (x16 + x7 + sl x15 + sh x2) % 4294967296 = C by rw [hC, HB9.out, HA.out]; omega]
            exact hw19)
          clear eC hC hw19
          go_roundw
          case rel => exact ⟨t + 1, vint (by omega), by omega, by omega, HW19.out⟩
          case measure => simp [intOf]; omega
        · obtain rfl : t = 64 := by omega
          rw [show ((64 : Nat) : Int) = 64 from rfl]
          have HWF := Lib.hid hw
          clear hw
          obtain ⟨V, hV⟩ : ∃ V, V = u32s (wds b 64) := ⟨_, rfl⟩
          have hVl : V.length = 64 := by rw [hV, u32s_len, wds_len]
          have hBkF : Bk P V wr := by
            have := HWF.out.bk
            rw [show pad64 (wds b 64) = wds b 64 by simp [pad64, wds_len], ← hV] at this
            exact this
          have hV1 : ∀ v ∈ V, v.oneCell' = true := by
            rw [hV]; intro v hv
            obtain ⟨x, _, rfl⟩ := List.mem_map.1 hv
            rfl
          have hR0 : Bk w.heap.size (u32s (pad64 [])) wr := HR.out.kp HWF.out.kp (by have := HP.out; omega)
          have hRl : (u32s (pad64 [])).length = 64 := by rw [u32s_len, pad64_len (by simp)]
          obtain ⟨Z, hZ⟩ : ∃ Z, Z = u32s (pad64 []) := ⟨_, rfl⟩
          rw [← hZ] at hR0 hRl
          have HV := Lib.hid hV
          have hld : (Instr.loadAt 114 (.pointer (some ⟨P, 0, none⟩))).run Try.prog wr = .ok (.agg V.toArray) wr := load_agg (t := 114) (fun _ => by kernel_rfl) (fun _ => by rw [hVl]; kernel_rfl) hBkF
          have hbw : Below w.heap.size w (wr.setCells w.heap.size 0 V) := (HB.out.trans (HWF.out.kp.below HB.out.size (fun k hk => by have := HP.out; omega))).trans ((Kp.setCells (Kp.refl (fun k => k = w.heap.size) wr) w.heap.size rfl V 0).below (by have := HB.out.size; have := HWF.out.kp.size; omega) (fun k hk => by omega))
          have hres : (loadVar 114 ⟨w.heap.size, 0, none⟩).run Try.prog (wr.setCells w.heap.size 0 V) = .ok (.agg V.toArray) (wr.setCells w.heap.size 0 V) := load_var (t := 114) (fun _ => by kernel_rfl) (fun _ => by rw [hVl]; kernel_rfl) (hR0.put (by rw [hVl, hRl]))
          have HRES := Lib.hid hres
          have HBW := Lib.hid hbw
          have HTH := Lib.hid (hR0.there (n := V.length) (by rw [hVl, hRl]; exact Nat.le_refl _))
          have HONE := Lib.hid hV1
          have HVL := Lib.hid hVl
          have HLD := Lib.hid hld
          have HST : Hid ((Instr.storeAt 114 (.pointer (some ⟨w.heap.size, 0, none⟩)) (.agg V.toArray)).run Try.prog wr = .ok () (wr.setCells w.heap.size 0 V)) := Lib.hid (run_store_bk hR0 (by rw [hVl, hRl]) (by rw [hVl]; kernel_rfl) hV1)
          clear hres hbw hV hZ hR0 hRl hV1 hVl hld hBkF
          go_wp2_with (first | (refine wpList_load_run (by rfl) 114 _ (by rfl) (by rfl) HLD.out ?_) | (refine wpList_store_run (by rfl) 114 _ _ (by rfl) (by rfl) (by rfl) HST.out ?_))
          (try simp only [Exit.inBlock, Exit.then])
          refine bodyPost_ret (res_one rfl rfl HRES.out) rfl ?_
          exact ⟨by rw [HV.out], HBW.out⟩
end Go.Proofs.Ytanehgnpominiaa

