/-
  The contracts of hexa's half, Put, and the law's own Put.
-/
import Derived.Test.YtanehgnpominiaaHxA
import Derived.Maps.AppendAt
set_option linter.unusedVariables false
set_option linter.unusedSimpArgs false
set_option maxRecDepth 100000
namespace Go.Proofs.Ytanehgnpominiaa
open Go.RowKit
theorem l16 : (⟨#[48, 49, 50, 51, 52, 53, 54, 55, 56, 57, 97, 98, 99, 100, 101, 102]⟩ : ByteArray).size = 16 := rfl
set_option maxRecDepth 100000 in
theorem half_yes (d : Nat) (hd : d < 16) (w : World) : Calls Try.prog 70 #[.int .u8 (dgN d : Nat)] w fun e w' => e = .returned (.tuple #[.int .u8 d, .bool true]) ∧ Below w.heap.size w w' := by
  have hdl := dgN_lt hd
  go_enter Try.func70, Try.ntmps70
  go_wp2
  go_loopw [7] (fun _ wr => ∃ pos : Nat, pos ≤ d ∧ wr = w.iter (⟨#[48, 49, 50, 51, 52, 53, 54, 55, 56, 57, 97, 98, 99, 100, 101, 102]⟩ : ByteArray) pos) (fun _ wr => 16 - wr.iterPos w.heap.size)
  case atStart => exact ⟨0, by omega, rfl⟩
  case round =>
    obtain ⟨pos, hp, rfl⟩ := hrel
    have hnx : ∀ ty, (Instr.next (.pointer (some ⟨w.heap.size, 0, none⟩)) true ty).run Try.prog (w.iter (⟨#[48, 49, 50, 51, 52, 53, 54, 55, 56, 57, 97, 98, 99, 100, 101, 102]⟩ : ByteArray) pos) = _ := fun ty => run_next_any w (⟨#[48, 49, 50, 51, 52, 53, 54, 55, 56, 57, 97, 98, 99, 100, 101, 102]⟩ : ByteArray) pos ty (by rw [l16]; omega)
    rw [dec16 pos (by omega)] at hnx
    dsimp only at hnx
    by_cases he : pos = d
    · subst he
      go_wp2
      go_ret2
      exact ⟨rfl, below_new _ _⟩
    · have b1 : (((dgN pos : Nat) : Int) == ((dgN d : Nat) : Int)) = false := by
        simp only [beq_eq_false_iff_ne, ne_eq, Int.natCast_inj]
        exact fun e => he (dgN_inj (by omega) hd e)
      go_wp2
      go_roundw
      case rel => exact ⟨pos + 1, by omega, rfl⟩
      case measure => simp; omega
set_option maxRecDepth 100000 in
theorem half_no (r : Nat) (hr2 : r < 256) (hr : ∀ d, d < 16 → dgN d ≠ r) (w : World) : Calls Try.prog 70 #[.int .u8 r] w fun e w' => e = .returned (.tuple #[.int .u8 0, .bool false]) ∧ Below w.heap.size w w' := by
  have HR := Lib.hid hr
  clear hr
  go_enter Try.func70, Try.ntmps70
  go_wp2
  go_loopw [7] (fun _ wr => ∃ pos : Nat, pos ≤ 16 ∧ wr = w.iter (⟨#[48, 49, 50, 51, 52, 53, 54, 55, 56, 57, 97, 98, 99, 100, 101, 102]⟩ : ByteArray) pos) (fun _ wr => 16 - wr.iterPos w.heap.size)
  case atStart => exact ⟨0, by omega, rfl⟩
  case round =>
    obtain ⟨pos, hp, rfl⟩ := hrel
    by_cases he : pos < 16
    · have hnx : ∀ ty, (Instr.next (.pointer (some ⟨w.heap.size, 0, none⟩)) true ty).run Try.prog (w.iter (⟨#[48, 49, 50, 51, 52, 53, 54, 55, 56, 57, 97, 98, 99, 100, 101, 102]⟩ : ByteArray) pos) = _ := fun ty => run_next_any w (⟨#[48, 49, 50, 51, 52, 53, 54, 55, 56, 57, 97, 98, 99, 100, 101, 102]⟩ : ByteArray) pos ty (by rw [l16]; omega)
      rw [dec16 pos he] at hnx
      dsimp only at hnx
      have b1 : (((dgN pos : Nat) : Int) == (r : Int)) = false := by
        simp only [beq_eq_false_iff_ne, ne_eq, Int.natCast_inj]
        exact HR.out pos he
      go_wp2
      go_roundw
      case rel => exact ⟨pos + 1, by omega, rfl⟩
      case measure => simp; omega
    · obtain rfl : pos = 16 := by omega
      have hnx : ∀ ty, (Instr.next (.pointer (some ⟨w.heap.size, 0, none⟩)) true ty).run Try.prog (w.iter (⟨#[48, 49, 50, 51, 52, 53, 54, 55, 56, 57, 97, 98, 99, 100, 101, 102]⟩ : ByteArray) 16) = _ := fun ty => run_next_end w (⟨#[48, 49, 50, 51, 52, 53, 54, 55, 56, 57, 97, 98, 99, 100, 101, 102]⟩ : ByteArray) 16 ty (by rw [l16]; omega)
      go_wp2
      go_ret2
      exact ⟨rfl, below_new _ _⟩
def halfR (c : Nat) : Ending := match halfO c with
  | some d => .returned (.tuple #[.int .u8 (d : Int), .bool true])
  | none => .returned (.tuple #[.int .u8 0, .bool false])
theorem half_any (c : Nat) (hc : c < 256) (w : World) : Calls Try.prog 70 #[.int .u8 c] w fun e w' => e = halfR c ∧ Below w.heap.size w w' := by
  unfold halfR
  cases h : halfO c with
  | some d =>
    obtain ⟨h1, h2⟩ := halfO_some h
    subst h2
    exact half_yes d h1 w
  | none => exact half_no c hc (halfO_none h) w
theorem index_dig (d : Nat) (hd : d < 16) (w : World) : (Instr.index 9 (.string (⟨#[48, 49, 50, 51, 52, 53, 54, 55, 56, 57, 97, 98, 99, 100, 101, 102]⟩ : ByteArray)) (.int .u8 (d : Int))).run Try.prog w = .ok (.int .u8 (dgN d : Nat)) w := by
  match d, hd with
  | 0, _ => rfl
  | 1, _ => rfl
  | 2, _ => rfl
  | 3, _ => rfl
  | 4, _ => rfl
  | 5, _ => rfl
  | 6, _ => rfl
  | 7, _ => rfl
  | 8, _ => rfl
  | 9, _ => rfl
  | 10, _ => rfl
  | 11, _ => rfl
  | 12, _ => rfl
  | 13, _ => rfl
  | 14, _ => rfl
  | 15, _ => rfl
  | n + 16, h => omega
theorem take_byB (s : ByteArray) (k : Nat) (h : k < s.size) : (byB s).take (k + 1) = (byB s).take k ++ [(s[k]'h).toNat] := by
  rw [List.take_succ_eq_append_getElem (by rw [byB_len]; exact h)]
  congr 2
  simp [byB]
  rfl
set_option maxHeartbeats 2000000 in
theorem put_any (s : ByteArray) (w : World) (hs : s.size ≤ 1099511627) : Calls Try.prog 43 #[.string s] w fun e w' => e = .returned (.string (putV s)) ∧ Below w.heap.size w w' := by
  obtain ⟨i0, hi, hz0, hz1, hz2⟩ := info_parts infoB8
  obtain ⟨M, hM⟩ : ∃ M, M = 2 * s.size := ⟨_, rfl⟩
  have hM2 : 2 * (s.size : Int) = (M : Int) := by omega
  have hMl : M ≤ 2199023254 := by omega
  obtain ⟨W, hmk, hown, hgr⟩ := run_make_own (P := Try.prog) w w.heap.size 76 5 i0 (.int .u8 0) 1 Try.underlying76 hi hz0 hz1 .i64 .i64 M (by rw [hz2]; omega) (by unfold maxLen; omega) (Nat.le_refl _)
  have hbW : Below w.heap.size w W := (Below.refl _ w).grown hgr (Nat.le_refl _) (fun q hq => by cases hq)
  obtain ⟨cap, w2, hcv, hcc, hcb⟩ := bytes_conv (P := Try.prog) W 9 76 5 s Try.underlying9 Try.underlying76 Try.underlying5
  have HCC := Lib.hid hcc
  have HB2 := Lib.hid (below_step hbW (Nat.le_refl _) hcb)
  have HOW : Hid (w2.ownsRow w.heap.size 5 1 (.slice (some ⟨w.heap.size, 0, none⟩) 0 M) 0 []) := Lib.hid (own_kept hown hcb)
  have HWS : Hid (w.heap.size < W.heap.size) := Lib.hid (hown.lt w.heap.size rfl).2
  have HPV : Hid (putV s = txB (putL (byB s))) := Lib.hid rfl
  have HDG := Lib.hid index_dig
  have hlw : W.heap.size < w2.heap.size ∨ s.size = 0 := by
    by_cases h0 : s.size = 0
    · exact .inr h0
    · refine .inl ?_
      have h1 := hcc 0 (by omega)
      unfold World.cell? at h1
      have : w2.heap[W.heap.size]? ≠ none := by intro h; rw [h] at h1; cases h1
      exact (Array.getElem?_eq_some_iff.1 (Option.ne_none_iff_exists'.1 this).choose_spec).1
  have HLW := Lib.hid hlw
  clear hM hcc hown hgr hbW hcb hlw
  go_enter Try.func43, Try.ntmps43
  go_wp2
  clear hmk hcv
  obtain ⟨PW, hPW⟩ : ∃ P, P = W.heap.size := ⟨_, rfl⟩
  rw [← hPW] at HCC HWS HLW ⊢
  clear hPW
  go_loopw [3, 13] (fun v i wr => ∃ k : Nat, i = .int .i64 k ∧ k ≤ s.size ∧ wr.ownsRow w.heap.size 5 1 v (2 * k) (rowB (putL ((byB s).take k))) ∧ v.ownBlock ≠ some PW ∧ (∀ (j : Nat) (hj : j < s.size), wr.cell? ⟨PW, j, none⟩ = some (.int .u8 s[j].toNat)) ∧ Below w.heap.size w wr ∧ w2.heap.size ≤ wr.heap.size) (fun _ i _ => s.size - (intOf i).toNat)
  case atStart => exact ⟨0, rfl, by omega, HOW.out, (by intro h; injection h with h; have := HWS.out; simp at h; omega), HCC.out, HB2.out, Nat.le_refl _⟩
  case round =>
    obtain ⟨k, rfl, hk, ho, hne, hcell, hb, hsz⟩ := hrel
    obtain ⟨a, cp, rfl, hcap⟩ := own_shape ho
    have HO := Lib.hid ho
    have HB := Lib.hid hb
    have HC := Lib.hid hcell
    have HNE := Lib.hid hne
    clear ho hb hcell hne
    by_cases hlt : k < s.size
    · have d1 : (k : Int) < (s.size : Int) := by omega
      have d2 : (0 : Int) ≤ (k : Int) := by omega
      have c0 := HC.out k hlt
      have hx := (s[k]'hlt).toNat_lt
      have HTK := Lib.hid (take_byB s k hlt)
      obtain ⟨x, hxx⟩ : ∃ x, x = (s[k]'hlt).toNat := ⟨_, rfl⟩
      rw [← hxx] at c0 hx HTK
      obtain ⟨q, hq⟩ : ∃ q, q = x / 16 := ⟨_, rfl⟩
      obtain ⟨r, hr⟩ : ∃ r, r = x % 16 := ⟨_, rfl⟩
      have t1 : Int.tdiv (x : Int) 16 = (q : Int) := by rw [Int.tdiv_eq_ediv_of_nonneg (by omega)]; omega
      have t2 : Int.tmod (x : Int) 16 = (r : Int) := by rw [Int.tmod_eq_emod_of_nonneg (by omega)]; omega
      have u1 : IntKind.u8.wrap (q : Int) = (q : Int) := by rw [IntKind.wrap_u8']; omega
      have u2 : IntKind.u8.wrap (r : Int) = (r : Int) := by rw [IntKind.wrap_u8']; omega
      have i1 := HDG.out q (by omega)
      have i2 := HDG.out r (by omega)
      have HPW : Hid (putW x = [dgN q, dgN r]) := Lib.hid (by rw [hq, hr]; rfl)
      have hpl : PW < w2.heap.size := by rcases HLW.out with h | h <;> omega
      obtain ⟨g1, hg1⟩ : ∃ g, g = dgN q := ⟨_, rfl⟩
      obtain ⟨g2, hg2⟩ : ∃ g, g = dgN r := ⟨_, rfl⟩
      rw [← hg1] at i1 HPW
      rw [← hg2] at i2 HPW
      clear hxx hq hr hg1 hg2
      go_wp2
      refine wp_region_held_drew (S := fun _ => True) (by kernel_rfl) (trivial) (fun hHeld => ?_)
      refine wpAnyH_take (i := 0) (oi := { dst := some 17, op := Go.Op.move (Go.Operand.tmp 3), type := 76, pos := "hexa.go:19", after := #[], guard := none }) (v := ?_) rfl (by kernel_rfl) (by kernel_rfl) (by kernel_rfl) (fun _ _ _ h => h) (Or.inl ⟨by rfl, ?_⟩) (by assumption) ?_
      (rotate_left; focus (intro wS hSw; (try dsimp only at hSw); go_simp; (try rw [if_neg (by omega)]); try with_reducible rfl))
      (try simp only [Act.put, List.setIfInBounds_toArray, List.set_cons_zero, List.set_cons_succ])
      refine wpAnyH_take (i := 1) (oi := { dst := some 18, op := Go.Op.move (Go.Operand.tmp 5), type := 5, pos := "hexa.go:19", after := #[], guard := none }) (v := ?_) rfl (by kernel_rfl) (by kernel_rfl) (by kernel_rfl) (fun _ _ _ h => h) (Or.inl ⟨by rfl, ?_⟩) (by assumption) ?_
      (rotate_left; focus (intro wS hSw; (try dsimp only at hSw); go_simp; (try rw [if_neg (by omega)]); try with_reducible rfl))
      (try simp only [Act.put, List.setIfInBounds_toArray, List.set_cons_zero, List.set_cons_succ])
      refine wpAnyH_take (i := 2) (oi := { dst := some 19, op := Go.Op.binOp Go.BinOp.quo 5 (Go.Operand.tmp 18) (Go.Operand.const (Go.Value.int Go.IntKind.u8 16)) 5, type := 5, pos := "hexa.go:19", after := #[{ on := 1, ground := Go.Ground.data }], guard := none }) (v := ?_) rfl (by kernel_rfl) (by kernel_rfl) (by kernel_rfl) (fun _ _ _ h => h) (Or.inl ⟨by rfl, ?_⟩) (by assumption) ?_
      (rotate_left; focus (intro wS hSw; (try dsimp only at hSw); go_simp; (try rw [if_neg (by omega)]); try with_reducible rfl))
      (try simp only [Act.put, List.setIfInBounds_toArray, List.set_cons_zero, List.set_cons_succ])
      refine wpAnyH_take (i := 3) (oi := { dst := some 20, op := Go.Op.index 9 (Go.Operand.const (Go.Value.string { data := #[48, 49, 50, 51, 52, 53, 54, 55, 56, 57, 97, 98, 99, 100, 101, 102] })) (Go.Operand.tmp 19), type := 5, pos := "hexa.go:19", after := #[{ on := 2, ground := Go.Ground.data }], guard := none }) (v := ?_) rfl (by kernel_rfl) (by kernel_rfl) (by kernel_rfl) (fun _ _ _ h => h) (Or.inl ⟨by rfl, ?_⟩) (by assumption) ?_
      (rotate_left; focus (intro wS hSw; (try dsimp only at hSw); go_simp; (try rw [if_neg (by omega)]); try with_reducible rfl))
      (try simp only [Act.put, List.setIfInBounds_toArray, List.set_cons_zero, List.set_cons_succ])
      refine wpAnyH_take (i := 4) (oi := { dst := some 21, op := Go.Op.move (Go.Operand.tmp 5), type := 5, pos := "hexa.go:19", after := #[], guard := none }) (v := ?_) rfl (by kernel_rfl) (by kernel_rfl) (by kernel_rfl) (fun _ _ _ h => h) (Or.inl ⟨by rfl, ?_⟩) (by assumption) ?_
      (rotate_left; focus (intro wS hSw; (try dsimp only at hSw); go_simp; (try rw [if_neg (by omega)]); try with_reducible rfl))
      (try simp only [Act.put, List.setIfInBounds_toArray, List.set_cons_zero, List.set_cons_succ])
      refine wpAnyH_take (i := 5) (oi := { dst := some 22, op := Go.Op.binOp Go.BinOp.rem 5 (Go.Operand.tmp 21) (Go.Operand.const (Go.Value.int Go.IntKind.u8 16)) 5, type := 5, pos := "hexa.go:19", after := #[{ on := 4, ground := Go.Ground.data }], guard := none }) (v := ?_) rfl (by kernel_rfl) (by kernel_rfl) (by kernel_rfl) (fun _ _ _ h => h) (Or.inl ⟨by rfl, ?_⟩) (by assumption) ?_
      (rotate_left; focus (intro wS hSw; (try dsimp only at hSw); go_simp; (try rw [if_neg (by omega)]); try with_reducible rfl))
      (try simp only [Act.put, List.setIfInBounds_toArray, List.set_cons_zero, List.set_cons_succ])
      refine wpAnyH_take (i := 6) (oi := { dst := some 23, op := Go.Op.index 9 (Go.Operand.const (Go.Value.string { data := #[48, 49, 50, 51, 52, 53, 54, 55, 56, 57, 97, 98, 99, 100, 101, 102] })) (Go.Operand.tmp 22), type := 5, pos := "hexa.go:19", after := #[{ on := 5, ground := Go.Ground.data }], guard := none }) (v := ?_) rfl (by kernel_rfl) (by kernel_rfl) (by kernel_rfl) (fun _ _ _ h => h) (Or.inl ⟨by rfl, ?_⟩) (by assumption) ?_
      (rotate_left; focus (intro wS hSw; (try dsimp only at hSw); go_simp; (try rw [if_neg (by omega)]); try with_reducible rfl))
      (try simp only [Act.put, List.setIfInBounds_toArray, List.set_cons_zero, List.set_cons_succ])
      refine wpAnyH_ready (rs := [7]) (by kernel_rfl) (by simp) ?_
      refine AllReadyH.cons (o := { dst := some 24, op := Go.Op.buildSlice 76 2 #[(0, Go.Operand.tmp 20), (1, Go.Operand.tmp 23)], type := 76, pos := "hexa.go:19", after := #[{ on := 3, ground := Go.Ground.data }, { on := 6, ground := Go.Ground.data }], guard := none }) rfl (fun K hK => ?_) AllReadyH.nil
      go_simp
      refine hK.out _ _ (trivial) (fun hHeld => ?_)
      clear hK K
      (try simp only [Act.put, List.setIfInBounds_toArray, List.set_cons_zero, List.set_cons_succ])
      refine wpAnyH_ready (rs := [8]) (by kernel_rfl) (by simp) ?_
      refine AllReadyH.cons (o := { dst := some 25, op := Go.Op.call { callee := Go.Callee.builtin Go.Builtin.append, args := #[Go.Operand.tmp 17, Go.Operand.tmp 24], argTypes := #[76, 76] }, type := 76, pos := "hexa.go:19", after := #[{ on := 0, ground := Go.Ground.data }, { on := 7, ground := Go.Ground.data }], guard := none }) rfl (fun K hK => ?_) AllReadyH.nil
      refine wp_append_own_at _ _ _ 76 rfl w.heap.size 5 i0 (.int .u8 0) 1 1 Try.underlying76 hi hz0 hz1 hz2 rfl (by decide) (.slice a (2 * k) cp) (2 * k) (rowB (putL ((byB s).take k))) rfl (HO.out.alloc _) ⟨wr.heap.size, 0, none⟩ 2 2 [.int .u8 (g1 : Int), .int .u8 (g2 : Int)] rfl rfl ?a1 ?a2 ?a3 ?a4 ?a5 ?_
      case a1 => intro j u hj; exact new_cells wr _ _ j u hj
      case a2 => intro u hu; simp at hu; rcases hu with rfl | rfl <;> rfl
      case a3 => unfold maxLen; omega
      case a4 => omega
      case a5 => have := HB.out.size; simp; omega
      intro v5 w5 hown5 hg5 hat5
      have HB5 : Hid (Below w.heap.size w w5) := Lib.hid ((HB.out.alloc HB.out.size _).drew.grown hg5 (by have := HB.out.size; simp; omega) (fun q hq => (HO.out.lt q hq).1))
      have HO5 : Hid (w5.ownsRow w.heap.size 5 1 v5 (2 * (k + 1)) (rowB (putL ((byB s).take (k + 1))))) := Lib.hid (by
      rw [HTK.out, putL_snoc, HPW.out, rowB_app]
      exact hown5)
      have HN5 : Hid (v5.ownBlock ≠ some PW) := Lib.hid (by
      rcases hat5 with h | h
      · rw [h]; exact HNE.out
      · rw [h]; intro e; injection e with e; simp at e; omega)
      have HS5 : Hid (w2.heap.size ≤ w5.heap.size) := Lib.hid (by have := hg5.size; simp at this; omega)
      have HC5 : Hid (∀ (j : Nat) (hj : j < s.size), w5.cell? ⟨PW, j, none⟩ = some (.int .u8 s[j].toNat)) := Lib.hid (fun j hj => by
      have hk5 := ((Kp.refl (fun k => some k = (Value.slice a (2 * k) cp).ownBlock) wr).alloc (.cells #[.int .u8 (g1 : Int), .int .u8 (g2 : Int)] 5)).drew
      have hk6 : Kp (fun q => (Value.slice a (2 * k) cp).ownBlock = some q) ((wr.alloc (.cells #[.int .u8 (g1 : Int), .int .u8 (g2 : Int)] 5)).drew) w5 := Kp.grown hg5 (fun q hq => hq)
      rw [hk6.cell (p := ⟨PW, j, none⟩) (by simp; omega) HNE.out]
      have hk7 := ((below_new wr (.cells #[.int .u8 (g1 : Int), .int .u8 (g2 : Int)] 5)).drew).cell (p := ⟨PW, j, none⟩) (by simp; omega)
      rw [hk7]
      exact HC.out j hj)
      clear hown5 hg5 hat5
      refine hK.out _ _ (trivial) (fun hHeld => ?_)
      clear hK K
      (try simp only [Act.put, List.setIfInBounds_toArray, List.set_cons_zero, List.set_cons_succ])
      refine wpAnyH_take (i := 9) (oi := { dst := some 3, op := Go.Op.assign (Go.Operand.tmp 25), type := 76, pos := "hexa.go:19", after := #[{ on := 8, ground := Go.Ground.data }, { on := 8, ground := Go.Ground.chain }, { on := 0, ground := Go.Ground.phase }, { on := 1, ground := Go.Ground.phase }, { on := 2, ground := Go.Ground.phase }, { on := 3, ground := Go.Ground.phase }, { on := 4, ground := Go.Ground.phase }, { on := 5, ground := Go.Ground.phase }, { on := 6, ground := Go.Ground.phase }, { on := 7, ground := Go.Ground.phase }, { on := 8, ground := Go.Ground.phase }], guard := none }) (v := ?_) rfl (by kernel_rfl) (by kernel_rfl) (by kernel_rfl) (fun _ _ _ h => h) (Or.inl ⟨by rfl, ?_⟩) (by assumption) ?_
      (rotate_left; focus (intro wS hSw; (try dsimp only at hSw); go_simp; (try rw [if_neg (by omega)]); try with_reducible rfl))
      (try simp only [Act.put, List.setIfInBounds_toArray, List.set_cons_zero, List.set_cons_succ])
      refine wpAnyH_done (by kernel_rfl) ?_ _
      go_wp2
      go_roundw
      case rel => exact ⟨k + 1, vint (by omega), by omega, HO5.out, HN5.out, HC5.out, HB5.out, HS5.out⟩
      case measure => simp [intOf]; omega
    · obtain rfl : k = s.size := by omega
      have hcv := conv_ownB HO.out (by rw [putL_len, List.length_take, byB_len, Nat.min_self])
      rw [List.take_of_length_le (by rw [byB_len]; exact Nat.le_refl _)] at hcv
      go_wp2
      go_ret
      exact ⟨by rw [HPV.out]; rfl, HB.out⟩
end Go.Proofs.Ytanehgnpominiaa

