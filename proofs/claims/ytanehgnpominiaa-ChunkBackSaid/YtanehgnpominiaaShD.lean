/-
  The contract of the law's own words of a block.
-/
import Derived.Test.YtanehgnpominiaaShC
set_option linter.unusedVariables false
set_option linter.unusedSimpArgs false
namespace Go.Proofs.Ytanehgnpominiaa
open Go.RowKit
def w16 (b : List Nat) : List Nat := (List.range 16).map (wd b)
theorem wds16 (b : List Nat) : wds b 16 = w16 b := rfl
theorem w16_len (b : List Nat) : (w16 b).length = 16 := rfl
theorem w16_get (b : List Nat) (i : Nat) (h : i < 16) : (w16 b).getD i 0 = wd b i := by
  simp [w16, List.getD_eq_getElem?_getD, List.getElem?_map, List.getElem?_range h]
theorem getD_take (b : List Nat) (m i : Nat) : (b.take m).getD i 0 = if i < m then b.getD i 0 else 0 := by
  simp only [List.getD_eq_getElem?_getD]
  split
  · rename_i h; rw [List.getElem?_take, if_pos h]
  · rename_i h; rw [List.getElem?_take, if_neg h]; rfl
theorem w16_take (b : List Nat) (m : Nat) (h : 64 ≤ m) : w16 (b.take m) = w16 b := by
  unfold w16
  apply List.map_congr_left
  intro i hi
  rw [List.mem_range] at hi
  unfold wd
  rw [getD_take, getD_take, getD_take, getD_take, if_pos (by omega), if_pos (by omega), if_pos (by omega), if_pos (by omega)]
theorem wd_next (b : List Nat) (m i : Nat) : wd (b.take (m + 1)) i = if i = m / 4 then wd (b.take m) i + b.getD m 0 * 256 ^ (3 - m % 4) else wd (b.take m) i := by
  have hm := Nat.div_add_mod m 4
  have h4 := Nat.mod_lt m (show 0 < 4 by omega)
  obtain ⟨q, hq⟩ : ∃ q, q = m / 4 := ⟨_, rfl⟩
  obtain ⟨r, hr⟩ : ∃ r, r = m % 4 := ⟨_, rfl⟩
  rw [← hq, ← hr] at hm ⊢
  rw [← hr] at h4
  clear hq hr
  subst hm
  unfold wd
  simp only [getD_take]
  by_cases h : i = q
  · rw [if_pos h]
    subst h
    rcases (show r = 0 ∨ r = 1 ∨ r = 2 ∨ r = 3 by omega) with rfl | rfl | rfl | rfl
    · rw [if_pos (by omega), if_neg (by omega), if_neg (by omega), if_neg (by omega), if_neg (by omega), if_neg (by omega), if_neg (by omega), if_neg (by omega)]
      simp only [Nat.add_zero]; omega
    · rw [if_pos (by omega), if_pos (by omega), if_neg (by omega), if_neg (by omega), if_pos (by omega), if_neg (by omega), if_neg (by omega), if_neg (by omega)]
      omega
    · rw [if_pos (by omega), if_pos (by omega), if_pos (by omega), if_neg (by omega), if_pos (by omega), if_pos (by omega), if_neg (by omega), if_neg (by omega)]
      omega
    · rw [if_pos (by omega), if_pos (by omega), if_pos (by omega), if_pos (by omega), if_pos (by omega), if_pos (by omega), if_pos (by omega), if_neg (by omega)]
      omega
  · rw [if_neg h]
    have e : ∀ k, k < 4 → (4 * i + k < 4 * q + r + 1 ↔ 4 * i + k < 4 * q + r) := fun k hk => by omega
    have e0 := e 0 (by omega)
    have e1 := e 1 (by omega)
    have e2 := e 2 (by omega)
    have e3 := e 3 (by omega)
    simp only [Nat.add_zero] at e0
    simp only [e0, e1, e2, e3]
theorem w16_next (b : List Nat) (m : Nat) (h : m < 64) : w16 (b.take (m + 1)) = (w16 (b.take m)).set (m / 4) (wd (b.take m) (m / 4) + b.getD m 0 * 256 ^ (3 - m % 4)) := by
  apply List.ext_getElem?
  intro i
  by_cases hi : i < 16
  · rw [List.getElem?_set]
    simp only [w16, List.getElem?_map, List.getElem?_range hi, Option.map_some, List.length_map, List.length_range]
    rw [wd_next]
    by_cases e : m / 4 = i
    · subst e; simp; omega
    · rw [if_neg (fun h => e h.symm), if_neg e]
  · rw [List.getElem?_eq_none (by rw [w16_len]; omega), List.getElem?_eq_none (by rw [List.length_set, w16_len]; omega)]
theorem wd_mod (b : List Nat) (m : Nat) : wd (b.take m) (m / 4) % 2 ^ (8 * (4 - m % 4)) = 0 := by
  have hm := Nat.div_add_mod m 4
  have h4 := Nat.mod_lt m (show 0 < 4 by omega)
  obtain ⟨q, hq⟩ : ∃ q, q = m / 4 := ⟨_, rfl⟩
  obtain ⟨r, hr⟩ : ∃ r, r = m % 4 := ⟨_, rfl⟩
  rw [← hq, ← hr] at hm
  rw [← hq, ← hr]
  rw [← hr] at h4
  clear hq hr
  subst hm
  unfold wd
  simp only [getD_take]
  rcases (show r = 0 ∨ r = 1 ∨ r = 2 ∨ r = 3 by omega) with rfl | rfl | rfl | rfl
  · rw [if_neg (by omega), if_neg (by omega), if_neg (by omega), if_neg (by omega)]
  · rw [if_pos (by omega), if_neg (by omega), if_neg (by omega), if_neg (by omega)]
    omega
  · rw [if_pos (by omega), if_pos (by omega), if_neg (by omega), if_neg (by omega)]
    omega
  · rw [if_pos (by omega), if_pos (by omega), if_pos (by omega), if_neg (by omega)]
    omega
theorem wd_or (b : List Nat) (hb : ∀ j, b.getD j 0 < 256) (m : Nat) : wd (b.take m) (m / 4) ||| b.getD m 0 * 256 ^ (3 - m % 4) = wd (b.take m) (m / 4) + b.getD m 0 * 256 ^ (3 - m % 4) := by
  refine nat_join (8 * (4 - m % 4)) _ _ (wd_mod b m) ?_
  have h4 := Nat.mod_lt m (show 0 < 4 by omega)
  have hx := hb m
  rcases (show m % 4 = 0 ∨ m % 4 = 1 ∨ m % 4 = 2 ∨ m % 4 = 3 by omega) with e | e | e | e <;> rw [e] <;> omega
theorem take_bd {b : List Nat} (hb : ∀ j, b.getD j 0 < 256) (m j : Nat) : (b.take m).getD j 0 < 256 := by
  rw [getD_take]; split
  · exact hb j
  · omega
theorem or_sh (v x c : Nat) (z : Int) (hv : v < 4294967296) (hx : x * c < 4294967296) (h : v ||| x * c = v + x * c) (hz : z = ((x * c : Nat) : Int)) : bits .or .u32 (v : Int) z = ((v + x * c : Nat) : Int) := by
  rw [hz, ← h]
  exact u32_or_nat v (x * c) hv hx
theorem pad64_upd (l : List Nat) (i x : Nat) (h : i < l.length) : pad64 (l.set i x) = (pad64 l).set i x := by
  simp only [pad64, List.length_set]
  rw [List.set_append_left _ _ h]
theorem Wk.upd {B P : Nat} {w0 wr : World} {l : List Nat} (h : Wk B P w0 l wr) {i : Nat} (hi : i < l.length) (x : Nat) : Wk B P w0 (l.set i x) (wr.setCell ⟨P, i, none⟩ (.int .u32 (x : Int))) := by
  have hl := h.le
  refine ⟨?_, by simpa using hl, h.kp.set P _ _ rfl⟩
  have := h.bk.set i (by rw [u32s_len, pad64_len hl]; omega) (.int .u32 (x : Int))
  rw [u32s_set, ← pad64_upd l i x hi] at this
  exact this
set_option maxRecDepth 100000 in
set_option maxHeartbeats 8000000 in
theorem words_any (s : ByteArray) (w : World) (hsz : s.size ≤ 1099511627776) : Calls Try.prog 75 #[.string s] w fun e w' => e = .returned (.slice (some ⟨w.heap.size, 0, none⟩) 64 64) ∧ Bk w.heap.size (u32s (wds (byB s) 64)) w' ∧ Below w.heap.size w w' := by
  have hz : u32s (pad64 []) = [.int .u32 0, .int .u32 0, .int .u32 0, .int .u32 0, .int .u32 0, .int .u32 0, .int .u32 0, .int .u32 0, .int .u32 0, .int .u32 0, .int .u32 0, .int .u32 0, .int .u32 0, .int .u32 0, .int .u32 0, .int .u32 0, .int .u32 0, .int .u32 0, .int .u32 0, .int .u32 0, .int .u32 0, .int .u32 0, .int .u32 0, .int .u32 0, .int .u32 0, .int .u32 0, .int .u32 0, .int .u32 0, .int .u32 0, .int .u32 0, .int .u32 0, .int .u32 0, .int .u32 0, .int .u32 0, .int .u32 0, .int .u32 0, .int .u32 0, .int .u32 0, .int .u32 0, .int .u32 0, .int .u32 0, .int .u32 0, .int .u32 0, .int .u32 0, .int .u32 0, .int .u32 0, .int .u32 0, .int .u32 0, .int .u32 0, .int .u32 0, .int .u32 0, .int .u32 0, .int .u32 0, .int .u32 0, .int .u32 0, .int .u32 0, .int .u32 0, .int .u32 0, .int .u32 0, .int .u32 0, .int .u32 0, .int .u32 0, .int .u32 0, .int .u32 0] := rfl
  obtain ⟨W, hW⟩ : ∃ W, W = w.alloc (.cells #[.int .u32 0, .int .u32 0, .int .u32 0, .int .u32 0, .int .u32 0, .int .u32 0, .int .u32 0, .int .u32 0, .int .u32 0, .int .u32 0, .int .u32 0, .int .u32 0, .int .u32 0, .int .u32 0, .int .u32 0, .int .u32 0, .int .u32 0, .int .u32 0, .int .u32 0, .int .u32 0, .int .u32 0, .int .u32 0, .int .u32 0, .int .u32 0, .int .u32 0, .int .u32 0, .int .u32 0, .int .u32 0, .int .u32 0, .int .u32 0, .int .u32 0, .int .u32 0, .int .u32 0, .int .u32 0, .int .u32 0, .int .u32 0, .int .u32 0, .int .u32 0, .int .u32 0, .int .u32 0, .int .u32 0, .int .u32 0, .int .u32 0, .int .u32 0, .int .u32 0, .int .u32 0, .int .u32 0, .int .u32 0, .int .u32 0, .int .u32 0, .int .u32 0, .int .u32 0, .int .u32 0, .int .u32 0, .int .u32 0, .int .u32 0, .int .u32 0, .int .u32 0, .int .u32 0, .int .u32 0, .int .u32 0, .int .u32 0, .int .u32 0, .int .u32 0] 97) := ⟨_, rfl⟩
  have hmk : (Instr.makeSlice 118 (.int .i64 64) (.int .i64 64)).run Try.prog w = .ok (.slice (some ⟨w.heap.size, 0, none⟩) 64 64) W := by rw [hW]; kernel_rfl
  have h0 : Bk w.heap.size (u32s (pad64 [])) W := by rw [hW, hz]; exact Bk.new w 97 #[.int .u32 0, .int .u32 0, .int .u32 0, .int .u32 0, .int .u32 0, .int .u32 0, .int .u32 0, .int .u32 0, .int .u32 0, .int .u32 0, .int .u32 0, .int .u32 0, .int .u32 0, .int .u32 0, .int .u32 0, .int .u32 0, .int .u32 0, .int .u32 0, .int .u32 0, .int .u32 0, .int .u32 0, .int .u32 0, .int .u32 0, .int .u32 0, .int .u32 0, .int .u32 0, .int .u32 0, .int .u32 0, .int .u32 0, .int .u32 0, .int .u32 0, .int .u32 0, .int .u32 0, .int .u32 0, .int .u32 0, .int .u32 0, .int .u32 0, .int .u32 0, .int .u32 0, .int .u32 0, .int .u32 0, .int .u32 0, .int .u32 0, .int .u32 0, .int .u32 0, .int .u32 0, .int .u32 0, .int .u32 0, .int .u32 0, .int .u32 0, .int .u32 0, .int .u32 0, .int .u32 0, .int .u32 0, .int .u32 0, .int .u32 0, .int .u32 0, .int .u32 0, .int .u32 0, .int .u32 0, .int .u32 0, .int .u32 0, .int .u32 0, .int .u32 0]
  have HB : Hid (Below w.heap.size w W) := Lib.hid (by rw [hW]; exact below_new _ _)
  obtain ⟨P, hP⟩ : ∃ P, P = w.heap.size := ⟨_, rfl⟩
  have hbyte : ∀ j, (byB s).getD j 0 < 256 := byB_lt s
  have hbl := byB_len s
  have HG : Hid (∀ j (h : j < s.size), (byB s).getD j 0 = (s[j]'h).toNat) := Lib.hid (byB_get s)
  obtain ⟨b, hbb⟩ : ∃ b, b = byB s := ⟨_, rfl⟩
  rw [← hbb] at hbyte hbl HG ⊢
  have HK : Hid (Wk w.heap.size P W (w16 (b.take 0)) W) := Lib.hid ⟨by
    have e : pad64 (w16 (b.take 0)) = pad64 [] := by rw [List.take_zero]; rfl
    rw [e, hP]; exact h0, by rw [w16_len]; omega, Kp.refl _ _⟩
  have HBY := Lib.hid hbyte
  have HBL := Lib.hid hbl
  have HP := Lib.hid hP
  rw [← hP] at hmk ⊢
  clear h0 hbyte hbb hW hz hbl hP
  go_enter Try.func75, Try.ntmps75
  go_wp2
  clear hmk
  go_loopw [4] (fun i wr => ∃ m : Nat, i = .int .i64 m ∧ m ≤ 64 ∧ m ≤ s.size ∧ Wk w.heap.size P W (w16 (b.take m)) wr) (fun i _ => 64 - (intOf i).toNat)
  case atStart => exact ⟨0, rfl, by omega, by omega, HK.out⟩
  case round =>
    obtain ⟨m, rfl, hm, hms, hw⟩ := hrel
    have HW := Lib.hid hw
    by_cases hlt : m < 64 ∧ m < s.size
    · obtain ⟨hl1, hl2⟩ := hlt
      have d1 : (m : Int) < 64 := by omega
      have d2 : (m : Int) < (s.size : Int) := by omega
      obtain ⟨q, hq⟩ : ∃ q, q = m / 4 := ⟨_, rfl⟩
      obtain ⟨r, hr⟩ : ∃ r, r = m % 4 := ⟨_, rfl⟩
      have t1 : Int.tdiv (m : Int) 4 = (q : Int) := by rw [Int.tdiv_eq_ediv_of_nonneg (by omega)]; omega
      have t2 : Int.tmod (m : Int) 4 = (r : Int) := by rw [Int.tmod_eq_emod_of_nonneg (by omega)]; omega
      have hq16 : q < 16 := by omega
      have hr4 : r < 4 := by omega
      have k1 : (q : Int) < 64 := by omega
      have k1b : IntKind.i64.wrap (q : Int) = (q : Int) := IntWalk.i64_in _ (by omega)
      obtain ⟨c0, f0⟩ := hw.get (i := q) (by rw [w16_len]; exact hq16)
      rw [w16_get _ _ hq16] at c0
      have HN := w16_next b m hl1
      have HO := wd_or b HBY.out m
      have hvl := wd_lt (take_bd HBY.out m) q
      rw [← hq, ← hr, HG.out m hl2] at HN HO
      have hx := (s[m]'hl2).toNat_lt
      obtain ⟨v, hv⟩ : ∃ v, v = wd (b.take m) q := ⟨_, rfl⟩
      obtain ⟨x, hxx⟩ : ∃ x, x = (s[m]'hl2).toNat := ⟨_, rfl⟩
      rw [← hv] at c0 HN HO hvl
      rw [← hxx] at HN HO hx
      have HN := Lib.hid HN
      have HR := Lib.hid hr
      have HM := Lib.hid hm
      have g1 : s[m] = s[m] := rfl
      have hxx2 : ((s[m]'hl2).toNat : Int) = (x : Int) := by rw [hxx]
      clear hq hr hv hxx hw g1
      rcases (show r = 0 ∨ r = 1 ∨ r = 2 ∨ r = 3 by omega) with rfl | rfl | rfl | rfl
      · have HE := Lib.hid (or_sh v x 16777216 ((x : Int) * 16777216) hvl (by omega) HO (by omega))
        have HE2 := Lib.hid (or_sh v x 16777216 ((x : Int) * 16777216 % 4294967296) hvl (by omega) HO (by omega))
        have hnx := HW.out.upd (i := q) (by rw [w16_len]; exact hq16) (v + x * 16777216)
        have HNX : Hid (Wk w.heap.size P W (w16 (b.take (m + 1))) (wr.setCell ⟨P, q, none⟩ (.int .u32 ((v + x * 16777216 : Nat) : Int)))) := Lib.hid (by rw [HN.out]; exact hnx)
        clear HO HN hnx
        go_wp2
        refine wp_region_still_tail 20 (by kernel_rfl) (by kernel_rfl) ?_
        simp only [List.take_succ_cons, List.take_zero, List.drop_succ_cons, List.drop_zero]
        change wpStill _ _ (wr.drew) _ _ _
        repeat still_step
        refine wpStill_nil ?_
        change wpList _ _ _ _ _ (wr.drew)
        go_wp2
        first | rw [HE.out] | rw [HE2.out]
        have HNY := Lib.hid HNX.out.drew
        go_roundw
        case rel => exact ⟨m + 1, vint (by omega), by omega, by omega, HNY.out⟩
        case measure => simp [intOf]; omega
      · have HE := Lib.hid (or_sh v x 65536 ((x : Int) * 65536) hvl (by omega) HO (by omega))
        have HE2 := Lib.hid (or_sh v x 65536 ((x : Int) * 65536 % 4294967296) hvl (by omega) HO (by omega))
        have hnx := HW.out.upd (i := q) (by rw [w16_len]; exact hq16) (v + x * 65536)
        have HNX : Hid (Wk w.heap.size P W (w16 (b.take (m + 1))) (wr.setCell ⟨P, q, none⟩ (.int .u32 ((v + x * 65536 : Nat) : Int)))) := Lib.hid (by rw [HN.out]; exact hnx)
        clear HO HN hnx
        go_wp2
        refine wp_region_still_tail 20 (by kernel_rfl) (by kernel_rfl) ?_
        simp only [List.take_succ_cons, List.take_zero, List.drop_succ_cons, List.drop_zero]
        change wpStill _ _ (wr.drew) _ _ _
        repeat still_step
        refine wpStill_nil ?_
        change wpList _ _ _ _ _ (wr.drew)
        go_wp2
        first | rw [HE.out] | rw [HE2.out]
        have HNY := Lib.hid HNX.out.drew
        go_roundw
        case rel => exact ⟨m + 1, vint (by omega), by omega, by omega, HNY.out⟩
        case measure => simp [intOf]; omega
      · have HE := Lib.hid (or_sh v x 256 ((x : Int) * 256) hvl (by omega) HO (by omega))
        have HE2 := Lib.hid (or_sh v x 256 ((x : Int) * 256 % 4294967296) hvl (by omega) HO (by omega))
        have hnx := HW.out.upd (i := q) (by rw [w16_len]; exact hq16) (v + x * 256)
        have HNX : Hid (Wk w.heap.size P W (w16 (b.take (m + 1))) (wr.setCell ⟨P, q, none⟩ (.int .u32 ((v + x * 256 : Nat) : Int)))) := Lib.hid (by rw [HN.out]; exact hnx)
        clear HO HN hnx
        go_wp2
        refine wp_region_still_tail 20 (by kernel_rfl) (by kernel_rfl) ?_
        simp only [List.take_succ_cons, List.take_zero, List.drop_succ_cons, List.drop_zero]
        change wpStill _ _ (wr.drew) _ _ _
        repeat still_step
        refine wpStill_nil ?_
        change wpList _ _ _ _ _ (wr.drew)
        go_wp2
        first | rw [HE.out] | rw [HE2.out]
        have HNY := Lib.hid HNX.out.drew
        go_roundw
        case rel => exact ⟨m + 1, vint (by omega), by omega, by omega, HNY.out⟩
        case measure => simp [intOf]; omega
      · have HE := Lib.hid (or_sh v x 1 (x : Int) hvl (by omega) HO (by omega))
        have HE2 := Lib.hid (or_sh v x 1 ((x : Int) % 4294967296) hvl (by omega) HO (by omega))
        have hnx := HW.out.upd (i := q) (by rw [w16_len]; exact hq16) (v + x * 1)
        have HNX : Hid (Wk w.heap.size P W (w16 (b.take (m + 1))) (wr.setCell ⟨P, q, none⟩ (.int .u32 ((v + x * 1 : Nat) : Int)))) := Lib.hid (by rw [HN.out]; exact hnx)
        clear HO HN hnx
        go_wp2
        refine wp_region_still_tail 20 (by kernel_rfl) (by kernel_rfl) ?_
        simp only [List.take_succ_cons, List.take_zero, List.drop_succ_cons, List.drop_zero]
        change wpStill _ _ (wr.drew) _ _ _
        repeat still_step
        refine wpStill_nil ?_
        change wpList _ _ _ _ _ (wr.drew)
        go_wp2
        first | rw [HE.out] | rw [HE2.out]
        have HNY := Lib.hid HNX.out.drew
        go_roundw
        case rel => exact ⟨m + 1, vint (by omega), by omega, by omega, HNY.out⟩
        case measure => simp [intOf]; omega
    · have hexit : w16 (b.take m) = w16 b := by
        by_cases h64 : m = 64
        · exact w16_take b m (by omega)
        · rw [List.take_of_length_le (by rw [HBL.out]; omega)]
      have HW16 : Hid (Wk w.heap.size P W (wds b 16) wr) := Lib.hid (by rw [wds16, ← hexit]; exact hw)
      have HBY2 := HBY
      clear hw HW hexit HG
      have hcase : (¬ (m : Int) < 64) ∨ ((m : Int) < 64 ∧ ¬ (m : Int) < (s.size : Int)) := by omega
      rcases hcase with d1 | ⟨d1, d2⟩
      all_goals
        go_wp2
        go_loopw [5] (fun i wr => ∃ t : Nat, i = .int .i64 t ∧ 16 ≤ t ∧ t ≤ 64 ∧ Wk w.heap.size P W (wds b t) wr) (fun i _ => 64 - (intOf i).toNat)
        case atStart => exact ⟨16, rfl, by omega, by omega, HW16.out⟩
        case round =>
          obtain ⟨t, rfl, ht, ht2, hw⟩ := hrel
          by_cases hlt2 : t < 64
          · have d3 : (t : Int) < 64 := by omega
            obtain ⟨L, hL⟩ : ∃ L, L = wds b t := ⟨_, rfl⟩
            have hLt : L.length = t := by rw [hL, wds_len]
            rw [← hL] at hw
            have hbd : ∀ x ∈ L, x < 4294967296 := by rw [hL]; exact wds_lt HBY.out t
            have hget : ∀ i, i < L.length → L.getD i 0 < 4294967296 := fun i hi => by
              rw [List.getD_eq_getElem?_getD, List.getElem?_eq_getElem hi]; exact hbd _ (List.getElem_mem hi)
            obtain ⟨q2, hq2⟩ : ∃ q, q = t - 2 := ⟨_, rfl⟩
            obtain ⟨q7, hq7⟩ : ∃ q, q = t - 7 := ⟨_, rfl⟩
            obtain ⟨q15, hq15⟩ : ∃ q, q = t - 15 := ⟨_, rfl⟩
            obtain ⟨q16, hq16⟩ : ∃ q, q = t - 16 := ⟨_, rfl⟩
            have HN : Hid (wds b (t + 1) = L ++ [(L.getD q16 0 + L.getD q7 0 + sl (L.getD q15 0) + sh (L.getD q2 0)) % 4294967296]) := Lib.hid (by
              rw [wds, if_neg (by omega), hL, hq16, hq7, hq15, hq2])
            have b2 := hget q2 (by omega)
            have b7 := hget q7 (by omega)
            have b15 := hget q15 (by omega)
            have b16 := hget q16 (by omega)
            have g2 := (hw.get (i := q2) (by omega)).1
            have g7 := (hw.get (i := q7) (by omega)).1
            have g15 := (hw.get (i := q15) (by omega)).1
            have g16 := (hw.get (i := q16) (by omega)).1
            obtain ⟨x2, hx2⟩ : ∃ x, x = L.getD q2 0 := ⟨_, rfl⟩
            obtain ⟨x7, hx7⟩ : ∃ x, x = L.getD q7 0 := ⟨_, rfl⟩
            obtain ⟨x15, hx15⟩ : ∃ x, x = L.getD q15 0 := ⟨_, rfl⟩
            obtain ⟨x16, hx16⟩ : ∃ x, x = L.getD q16 0 := ⟨_, rfl⟩
            rw [← hx2] at g2 b2 HN
            rw [← hx7] at g7 b7 HN
            rw [← hx15] at g15 b15 HN
            rw [← hx16] at g16 b16 HN
            have e2 : (t : Int) - 2 = (q2 : Int) := by omega
            have e7 : (t : Int) - 7 = (q7 : Int) := by omega
            have e15 : (t : Int) - 15 = (q15 : Int) := by omega
            have e16 : (t : Int) - 16 = (q16 : Int) := by omega
            have v2 : IntKind.i64.wrap (q2 : Int) = (q2 : Int) := IntWalk.i64_in _ (by omega)
            have v7 : IntKind.i64.wrap (q7 : Int) = (q7 : Int) := IntWalk.i64_in _ (by omega)
            have v15 : IntKind.i64.wrap (q15 : Int) = (q15 : Int) := IntWalk.i64_in _ (by omega)
            have v16 : IntKind.i64.wrap (q16 : Int) = (q16 : Int) := IntWalk.i64_in _ (by omega)
            have k2 : (q2 : Int) < 64 := by omega
            have k7 : (q7 : Int) < 64 := by omega
            have k15 : (q15 : Int) < 64 := by omega
            have k16 : (q16 : Int) < 64 := by omega
            obtain ⟨c0, f0⟩ := hw.zero (by omega)
            rw [hLt] at c0 f0
            have HW3 := Lib.hid hw
            have HLT := Lib.hid hLt
            have HX1 := Lib.hid (u32_xor_nat _ _ (rot_lt (n := 7) b15) (rot_lt (n := 18) b15))
            have HX2 := Lib.hid (u32_xor_nat _ (x15 / 8) (xor_lt32 (rot_lt (n := 7) b15) (rot_lt (n := 18) b15)) (by omega))
            have HSL : Hid (sl x15 = rot 7 x15 ^^^ rot 18 x15 ^^^ (x15 / 8)) := Lib.hid rfl
            have HY1 := Lib.hid (u32_xor_nat _ _ (rot_lt (n := 17) b2) (rot_lt (n := 19) b2))
            have HY2 := Lib.hid (u32_xor_nat _ (x2 / 1024) (xor_lt32 (rot_lt (n := 17) b2) (rot_lt (n := 19) b2)) (by omega))
            have HSH : Hid (sh x2 = rot 17 x2 ^^^ rot 19 x2 ^^^ (x2 / 1024)) := Lib.hid rfl
            have lsl := sl_lt b15
            have lsh := sh_lt b2
            clear hw hget hbd hLt hL hq2 hq7 hq15 hq16 hx2 hx7 hx15 hx16
            go_wp2
            refine wp_region_held_drew (S := fun w' => w'.cell? ⟨P, q15, none⟩ = some (.int .u32 x15) ∧ w'.cell? ⟨P, q2, none⟩ = some (.int .u32 x2)) (by kernel_rfl) (by (exact ⟨g15, g2⟩)) (fun hHeld => ?_)
            refine wpAnyH_take (i := 0) (oi := { dst := some 45, op := Go.Op.move (Go.Operand.tmp 3), type := 118, pos := "ref.go:28", after := #[], guard := none }) (v := ?_) rfl (by kernel_rfl) (by kernel_rfl) (by kernel_rfl) (fun _ _ _ h => h) (Or.inl ⟨by rfl, ?_⟩) (by assumption) ?_
            (rotate_left; focus (intro wS hSw; obtain ⟨s15, s2⟩ := hSw; go_simp; (try rw [if_neg (by omega)]); try with_reducible rfl))
            (try simp only [Act.put, List.setIfInBounds_toArray, List.set_cons_zero, List.set_cons_succ])
            refine wpAnyH_take (i := 1) (oi := { dst := some 46, op := Go.Op.move (Go.Operand.tmp 5), type := 3, pos := "ref.go:28", after := #[], guard := none }) (v := ?_) rfl (by kernel_rfl) (by kernel_rfl) (by kernel_rfl) (fun _ _ _ h => h) (Or.inl ⟨by rfl, ?_⟩) (by assumption) ?_
            (rotate_left; focus (intro wS hSw; obtain ⟨s15, s2⟩ := hSw; go_simp; (try rw [if_neg (by omega)]); try with_reducible rfl))
            (try simp only [Act.put, List.setIfInBounds_toArray, List.set_cons_zero, List.set_cons_succ])
            refine wpAnyH_take (i := 2) (oi := { dst := some 47, op := Go.Op.binOp Go.BinOp.sub 3 (Go.Operand.tmp 46) (Go.Operand.const (Go.Value.int Go.IntKind.i64 15)) 3, type := 3, pos := "ref.go:28", after := #[{ on := 1, ground := Go.Ground.data }], guard := none }) (v := ?_) rfl (by kernel_rfl) (by kernel_rfl) (by kernel_rfl) (fun _ _ _ h => h) (Or.inl ⟨by rfl, ?_⟩) (by assumption) ?_
            (rotate_left; focus (intro wS hSw; obtain ⟨s15, s2⟩ := hSw; go_simp; (try rw [if_neg (by omega)]); try with_reducible rfl))
            (try simp only [Act.put, List.setIfInBounds_toArray, List.set_cons_zero, List.set_cons_succ])
            refine wpAnyH_take (i := 3) (oi := { dst := some 48, op := Go.Op.indexAddr 118 (Go.Operand.tmp 45) (Go.Operand.tmp 47), type := 0, pos := "ref.go:28", after := #[{ on := 0, ground := Go.Ground.data }, { on := 2, ground := Go.Ground.data }], guard := none }) (v := ?_) rfl (by kernel_rfl) (by kernel_rfl) (by kernel_rfl) (fun _ _ _ h => h) (Or.inl ⟨by rfl, ?_⟩) (by assumption) ?_
            (rotate_left; focus (intro wS hSw; obtain ⟨s15, s2⟩ := hSw; go_simp; (try rw [if_neg (by omega)]); try with_reducible rfl))
            (try simp only [Act.put, List.setIfInBounds_toArray, List.set_cons_zero, List.set_cons_succ])
            refine wpAnyH_take (i := 4) (oi := { dst := some 49, op := Go.Op.load 97 (Go.Operand.tmp 48), type := 97, pos := "ref.go:28", after := #[{ on := 3, ground := Go.Ground.data }], guard := none }) (v := ?_) rfl (by kernel_rfl) (by kernel_rfl) (by kernel_rfl) (fun _ _ _ h => h) (Or.inl ⟨by rfl, ?_⟩) (by assumption) ?_
            (rotate_left; focus (intro wS hSw; obtain ⟨s15, s2⟩ := hSw; go_simp; (try rw [if_neg (by omega)]); try with_reducible rfl))
            (try simp only [Act.put, List.setIfInBounds_toArray, List.set_cons_zero, List.set_cons_succ])
            refine wpAnyH_take (i := 5) (oi := { dst := some 50, op := Go.Op.move (Go.Operand.tmp 3), type := 118, pos := "ref.go:28", after := #[{ on := 10, ground := Go.Ground.gcOnly Go.Departure.lateStores }], guard := none }) (v := ?_) rfl (by kernel_rfl) (by kernel_rfl) (by kernel_rfl) (fun _ _ _ h => h) (Or.inl ⟨by rfl, ?_⟩) (by assumption) ?_
            (rotate_left; focus (intro wS hSw; obtain ⟨s15, s2⟩ := hSw; go_simp; (try rw [if_neg (by omega)]); try with_reducible rfl))
            (try simp only [Act.put, List.setIfInBounds_toArray, List.set_cons_zero, List.set_cons_succ])
            refine wpAnyH_take (i := 6) (oi := { dst := some 51, op := Go.Op.move (Go.Operand.tmp 5), type := 3, pos := "ref.go:28", after := #[{ on := 10, ground := Go.Ground.gcOnly Go.Departure.lateStores }], guard := none }) (v := ?_) rfl (by kernel_rfl) (by kernel_rfl) (by kernel_rfl) (fun _ _ _ h => h) (Or.inl ⟨by rfl, ?_⟩) (by assumption) ?_
            (rotate_left; focus (intro wS hSw; obtain ⟨s15, s2⟩ := hSw; go_simp; (try rw [if_neg (by omega)]); try with_reducible rfl))
            (try simp only [Act.put, List.setIfInBounds_toArray, List.set_cons_zero, List.set_cons_succ])
            refine wpAnyH_take (i := 7) (oi := { dst := some 52, op := Go.Op.binOp Go.BinOp.sub 3 (Go.Operand.tmp 51) (Go.Operand.const (Go.Value.int Go.IntKind.i64 2)) 3, type := 3, pos := "ref.go:28", after := #[{ on := 6, ground := Go.Ground.data }, { on := 10, ground := Go.Ground.gcOnly Go.Departure.lateStores }], guard := none }) (v := ?_) rfl (by kernel_rfl) (by kernel_rfl) (by kernel_rfl) (fun _ _ _ h => h) (Or.inl ⟨by rfl, ?_⟩) (by assumption) ?_
            (rotate_left; focus (intro wS hSw; obtain ⟨s15, s2⟩ := hSw; go_simp; (try rw [if_neg (by omega)]); try with_reducible rfl))
            (try simp only [Act.put, List.setIfInBounds_toArray, List.set_cons_zero, List.set_cons_succ])
            refine wpAnyH_take (i := 8) (oi := { dst := some 53, op := Go.Op.indexAddr 118 (Go.Operand.tmp 50) (Go.Operand.tmp 52), type := 0, pos := "ref.go:28", after := #[{ on := 5, ground := Go.Ground.data }, { on := 7, ground := Go.Ground.data }, { on := 10, ground := Go.Ground.gcOnly Go.Departure.lateStores }], guard := none }) (v := ?_) rfl (by kernel_rfl) (by kernel_rfl) (by kernel_rfl) (fun _ _ _ h => h) (Or.inl ⟨by rfl, ?_⟩) (by assumption) ?_
            (rotate_left; focus (intro wS hSw; obtain ⟨s15, s2⟩ := hSw; go_simp; (try rw [if_neg (by omega)]); try with_reducible rfl))
            (try simp only [Act.put, List.setIfInBounds_toArray, List.set_cons_zero, List.set_cons_succ])
            refine wpAnyH_take (i := 9) (oi := { dst := some 54, op := Go.Op.load 97 (Go.Operand.tmp 53), type := 97, pos := "ref.go:28", after := #[{ on := 8, ground := Go.Ground.data }, { on := 10, ground := Go.Ground.gcOnly Go.Departure.lateStores }], guard := none }) (v := ?_) rfl (by kernel_rfl) (by kernel_rfl) (by kernel_rfl) (fun _ _ _ h => h) (Or.inl ⟨by rfl, ?_⟩) (by assumption) ?_
            (rotate_left; focus (intro wS hSw; obtain ⟨s15, s2⟩ := hSw; go_simp; (try rw [if_neg (by omega)]); try with_reducible rfl))
            (try simp only [Act.put, List.setIfInBounds_toArray, List.set_cons_zero, List.set_cons_succ])
            refine wpAnyH_take (i := 10) (oi := { dst := some 6, op := Go.Op.assign (Go.Operand.tmp 49), type := 97, pos := "ref.go:28", after := #[{ on := 4, ground := Go.Ground.data }, { on := 0, ground := Go.Ground.phase }, { on := 1, ground := Go.Ground.phase }, { on := 2, ground := Go.Ground.phase }, { on := 3, ground := Go.Ground.phase }, { on := 4, ground := Go.Ground.phase }, { on := 5, ground := Go.Ground.textOnly Go.Departure.lateStores }, { on := 6, ground := Go.Ground.textOnly Go.Departure.lateStores }, { on := 7, ground := Go.Ground.textOnly Go.Departure.lateStores }, { on := 8, ground := Go.Ground.textOnly Go.Departure.lateStores }, { on := 9, ground := Go.Ground.textOnly Go.Departure.lateStores }], guard := none }) (v := ?_) rfl (by kernel_rfl) (by kernel_rfl) (by kernel_rfl) (fun _ _ _ h => h) (Or.inl ⟨by rfl, ?_⟩) (by assumption) ?_
            (rotate_left; focus (intro wS hSw; obtain ⟨s15, s2⟩ := hSw; go_simp; (try rw [if_neg (by omega)]); try with_reducible rfl))
            (try simp only [Act.put, List.setIfInBounds_toArray, List.set_cons_zero, List.set_cons_succ])
            refine wpAnyH_take (i := 11) (oi := { dst := some 7, op := Go.Op.assign (Go.Operand.tmp 54), type := 97, pos := "ref.go:28", after := #[{ on := 9, ground := Go.Ground.data }, { on := 10, ground := Go.Ground.chain }, { on := 0, ground := Go.Ground.phase }, { on := 1, ground := Go.Ground.phase }, { on := 2, ground := Go.Ground.phase }, { on := 3, ground := Go.Ground.phase }, { on := 4, ground := Go.Ground.phase }, { on := 5, ground := Go.Ground.phase }, { on := 6, ground := Go.Ground.phase }, { on := 7, ground := Go.Ground.phase }, { on := 8, ground := Go.Ground.phase }, { on := 9, ground := Go.Ground.phase }, { on := 10, ground := Go.Ground.phase }], guard := none }) (v := ?_) rfl (by kernel_rfl) (by kernel_rfl) (by kernel_rfl) (fun _ _ _ h => h) (Or.inl ⟨by rfl, ?_⟩) (by assumption) ?_
            (rotate_left; focus (intro wS hSw; obtain ⟨s15, s2⟩ := hSw; go_simp; (try rw [if_neg (by omega)]); try with_reducible rfl))
            (try simp only [Act.put, List.setIfInBounds_toArray, List.set_cons_zero, List.set_cons_succ])
            refine wpAnyH_done (by kernel_rfl) ?_ _
            go_wp2_with fail
            refine (turn_7 x15 _ b15).mono ?_
            rintro e w1 ⟨rfl, rfl⟩
            go_wp2_with fail
            refine (turn_18 x15 _ b15).mono ?_
            rintro e w1 ⟨rfl, rfl⟩
            go_wp2_with fail
            refine (turn_17 x2 _ b2).mono ?_
            rintro e w1 ⟨rfl, rfl⟩
            go_wp2_with fail
            refine (turn_19 x2 _ b2).mono ?_
            rintro e w1 ⟨rfl, rfl⟩
            have e8 : ((x15 : Int) / 8) = ((x15 / 8 : Nat) : Int) := by omega
            rw [HX1.out, e8, HX2.out, ← HSL.out]
            clear e8
            go_wp2
            have e9 : ((x2 : Int) / 1024) = ((x2 / 1024 : Nat) : Int) := by omega
            rw [HY1.out, e9, HY2.out, ← HSH.out]
            clear e9 HX1 HX2 HSL HY1 HY2 HSH
            obtain ⟨yl, hyl⟩ : ∃ y, y = sl x15 := ⟨_, rfl⟩
            obtain ⟨yh, hyh⟩ : ∃ y, y = sh x2 := ⟨_, rfl⟩
            rw [← hyl] at lsl HN ⊢
            rw [← hyh] at lsh HN ⊢
            clear hyl hyh
            refine wp_region_still_tail 18 (by kernel_rfl) (by kernel_rfl) ?_
            simp only [List.take_succ_cons, List.take_zero, List.drop_succ_cons, List.drop_zero]
            change wpStill _ _ (wr.drew.drew) _ _ _
            repeat still_step
            refine wpStill_nil ?_
            change wpList _ _ _ _ _ (wr.drew.drew)
            go_wp2
            obtain ⟨C, hC⟩ : ∃ C, C = (x16 + x7 + yl + yh) % 4294967296 := ⟨_, rfl⟩
            have eC : ((x16 : Int) + (yl : Int) + (x7 : Int) + (yh : Int)) % 4294967296 = (C : Int) := by omega
            rw [eC]
            have hw19 := (HW3.out.set (by rw [HLT.out]; omega) C).drew.drew
            rw [HLT.out] at hw19
            have HW19 : Hid (Wk w.heap.size P W (wds b (t + 1)) (wr.setCell ⟨P, t, none⟩ (.int .u32 (C : Int))).drew.drew) := Lib.hid (by
              rw [HN.out, ← hC]
              exact hw19)
            clear eC hC hw19
            go_roundw
            case rel => exact ⟨t + 1, vint (by omega), by omega, by omega, HW19.out⟩
            case measure => simp [intOf]; omega
          · obtain rfl : t = 64 := by omega
            rw [show ((64 : Nat) : Int) = 64 from rfl]
            have HWF := Lib.hid hw
            have hBkF : Bk P (u32s (wds b 64)) wr := by
              have := hw.bk
              rw [show pad64 (wds b 64) = wds b 64 by simp [pad64, wds_len]] at this
              exact this
            have HBK := Lib.hid hBkF
            have HBB : Hid (Below P w wr) := Lib.hid (by
              have h5 := HB.out
              have h6 := HP.out
              have h7 : Below w.heap.size w wr := h5.trans (hw.kp.below h5.size (fun k hk => by omega))
              rw [h6]; exact h7)
            clear hw hBkF
            go_wp2
            go_ret
            exact ⟨rfl, HBK.out, HBB.out⟩
end Go.Proofs.Ytanehgnpominiaa

