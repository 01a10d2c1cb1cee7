/-
  The contract of base.Put.
-/
import Derived.Test.YtmfpahnncalcaaaB
set_option linter.unusedVariables false
set_option linter.unusedSimpArgs false
namespace Go.Proofs.Ytmfpahnncalcaaa
open Go.RowKit
theorem wraps_i64 (n : Int) (h0 : 0 ≤ n) (h1 : n < 2 ^ 62) : IntKind.i64.wrap n = n := by rw [IntKind.wrap_i64]; omega
theorem or_byte (X c : Nat) (hX : X < 1048576) (hc : c < 256) : bits .or .i64 ((X : Int) * 256) (c : Int) = ((256 * X + c : Nat) : Int) := by
  rw [bits_join .i64 62 (by decide) wraps_i64 8 ((X : Int) * 256) (c : Int) (by omega) (by omega) (by omega) (by omega) (by omega) (by omega)]
  omega
theorem or_five (X c : Nat) (hX : X < 1048576) (hc : c < 32) : bits .or .i64 ((X : Int) * 32) (c : Int) = ((32 * X + c : Nat) : Int) := by
  rw [bits_join .i64 62 (by decide) wraps_i64 5 ((X : Int) * 32) (c : Int) (by omega) (by omega) (by omega) (by omega) (by omega) (by omega)]
  omega
theorem and_mask (X q : Nat) (hX : X < 1048576) (hq : q ≤ 20) : bits .and .i64 (X : Int) (2 ^ q - 1) = ((X % 2 ^ q : Nat) : Int) := by
  rw [bits_mask .i64 62 (by decide) wraps_i64 q (by omega) (X : Int) (by omega) (by omega)]
  simp
theorem wrap_b (z : Nat) (z1 : 1 ≤ z) (z2 : z ≤ 128) : wrap64 (z : Int) = z ∧ wrap64 ((z : Int) - 1) = (z : Int) - 1 := by
  have h0 : -9223372036854775808 ≤ (z : Int) - 1 := by omega
  have h1 : (z : Int) - 1 ≤ 9223372036854775807 := by omega
  have h2 : -9223372036854775808 ≤ (z : Int) := by omega
  have h3 : (z : Int) ≤ 9223372036854775807 := by omega
  rw [wrap64_id h0 h1, wrap64_id h2 h3]
  exact ⟨rfl, rfl⟩
theorem wrap_pow (q : Nat) (h : q ≤ 7) : wrap64 (2 ^ q) = 2 ^ q ∧ wrap64 (2 ^ q - 1) = 2 ^ q - 1 := by
  have h1 : (2 : Nat) ^ q ≤ 2 ^ 7 := Nat.pow_le_pow_right (by omega) h
  have h2 := wrap_b (2 ^ q) Nat.one_le_two_pow h1
  have hz : ((2 ^ q : Nat) : Int) = (2 : Int) ^ q := by simp
  rw [hz] at h2
  exact h2
theorem wrap_d (d : Nat) (h : d < 2 ^ 5) : wrap64 (d : Int) = (d : Int) := wrap64_id (by omega) (by omega)
theorem bd_string {w : World} {B b : Nat} {p v : Value} {bs : List Nat} (h : Bd w B b p v bs) (hb : ∀ c ∈ bs, c < 256) : Calls Try.prog 10 #[.pointer (some ⟨b, 0, none⟩)] w fun e w' => e = .returned (.string (txt bs)) ∧ Below b w w' := by
  have hc : Lib.byteCells (bs.map UInt8.ofNat) = rowU bs := by
    unfold rowU
    rw [Lib.byteCells, List.map_map]
    apply List.map_congr_left
    intro c hc
    have := hb c hc
    simp [Nat.mod_eq_of_lt this]
  have hI : Lib.IsBuilder 32 5 b b (Lib.byteCells (bs.map UInt8.ofNat)) w := by
    rw [hc]
    have h9 : Lib.BuilderAt 32 5 b b p (rowU bs) w := ⟨Nat.le_refl _, v, h.1, by rw [rowU_len]; exact own_base h.2.1 (by have := h.2.2.1; omega), fun e => by have := (h.2.1.lt b e).1; have := h.2.2.1; omega⟩
    rcases h.2.2.2.2 with rfl | rfl
    · exact Or.inl h9
    · exact Or.inr h9
  exact Try.Builder_String_any b b (bs.map UInt8.ofNat) w hI (by have := h.lt; omega)
theorem let_lt (ds : List Nat) (hd : ∀ c ∈ ds, c < 32) : ∀ c ∈ ds.map letN, c < 256 := by
  intro c hc
  obtain ⟨d, hd2, rfl⟩ := List.mem_map.1 hc
  have := hd d hd2
  unfold letN
  split <;> omega
set_option maxRecDepth 100000 in
set_option maxHeartbeats 8000000 in
theorem Put_any (s : ByteArray) (w : World) (hs : s.size ≤ 100000) : Calls Try.prog 6 #[.string s] w fun e w' => e = .returned (.string (txt ((dig (bitL (bys s)) (many5 s.size)).map letN))) ∧ Below w.heap.size w w' := by
  have hHW := (fun d hd w => letter_at d hd w)
  obtain ⟨cap, w2, hcv, hcc, hcb⟩ := bytes_conv (P := Try.prog) (w.alloc (.cells #[.pointer none, .slice none 0 0] 32)) 9 30 5 s Try.underlying9 Try.underlying30 Try.underlying5
  have hblk : (w.alloc (.cells #[.pointer none, .slice none 0 0] 32)).heap[w.heap.size]? = some (.cells #[.pointer none, .slice none 0 0] 32 (0, 0)) := Array.getElem?_push_size
  have hlt : w.heap.size < (w.alloc (.cells #[.pointer none, .slice none 0 0] 32)).heap.size := by simp
  have hb2 : w2.heap[w.heap.size]? = some (.cells #[.pointer none, .slice none 0 0] 32 (0, 0)) := by rw [hcb.block _ hlt]; exact hblk
  have hsz : (w.alloc (.cells #[.pointer none, .slice none 0 0] 32)).heap.size = w.heap.size + 1 := by simp
  have HB2 := Lib.hid (below_step (below_new w (.cells #[.pointer none, .slice none 0 0] 32)) (Nat.le_refl _) hcb)
  have HCC := Lib.hid hcc
  have HZ : Hid (w.heap.size + 1 ≤ w2.heap.size) := Lib.hid (by have := hcb.size; omega)
  have hltb : s.size = 0 ∨ w.heap.size + 1 < w2.heap.size := by
    by_cases h0 : s.size = 0
    · exact Or.inl h0
    · right
      have h1 := hcc 0 (by omega)
      rw [hsz] at h1
      apply Classical.byContradiction
      intro hc
      unfold World.cell? at h1
      rw [Array.getElem?_eq_none (show w2.heap.size ≤ w.heap.size + 1 by omega)] at h1
      simp at h1
  have HLT := Lib.hid hltb
  rw [hsz] at hcv
  have HB0 : Hid (Bd w2 w2.heap.size w.heap.size (.pointer none) (.slice none 0 0) []) := Lib.hid ⟨hb2, own_nil _ _ _ _, by have := HZ.out; omega, Nat.le_refl _, Or.inl rfl⟩
  have HS := Lib.hid hsz
  clear hcc hcb hblk hlt hb2 hltb hHW hsz
  go_enter Try.func6, Try.ntmps6
  go_wp2
  rw [HS.out] at HCC
  go_loopw [4, 5, 11] (fun bits mn i wr => ∃ (k j m : Nat) (p v : Value), k ≤ s.size ∧ i = .int .i64 k ∧ mn = .int .i64 m ∧ 5 * j + m = 8 * k ∧ m < 5 ∧ bits = .int .i64 (P (bitL (bys s)) (5 * j) m) ∧ Bd wr w2.heap.size w.heap.size p v ((dig (bitL (bys s)) j).map letN) ∧ Kp (fun i => i = w.heap.size ∨ w2.heap.size ≤ i) w2 wr) (fun _ _ i _ => s.size - (intOf i).toNat)
  case atStart => exact ⟨0, 0, 0, _, _, by omega, rfl, rfl, rfl, by omega, rfl, HB0.out, Kp.refl _ _⟩
  case round =>
    obtain ⟨k, j, m, p, v, hk, rfl, rfl, hjm, hm5, rfl, hbd, hkp⟩ := hrel
    by_cases hlt : k < s.size
    · have gi : (k : Int) < (s.size : Int) := by omega
      have c1 : wr.cell? ⟨w.heap.size + 1, k, none⟩ = some (.int .u8 s[k].toNat) := by
        rw [hkp.cell (p := ⟨w.heap.size + 1, k, none⟩) (show w.heap.size + 1 < w2.heap.size by have := HLT.out; omega) (show ¬ (w.heap.size + 1 = w.heap.size ∨ w2.heap.size ≤ w.heap.size + 1) by have := HLT.out; omega)]
        exact HCC.out k hlt
      have HBD := Lib.hid hbd; have HKP := Lib.hid hkp
      clear hbd hkp
      have hp := P_lt (bitL (bys s)) (bitL_lt _) (5 * j) m
      have hp2 : P (bitL (bys s)) (5 * j) m < 16 := by
        have : 2 ^ m ≤ 2 ^ 4 := Nat.pow_le_pow_right (by omega) (by omega)
        omega
      have HN : Hid (P (bitL (bys s)) (5 * j) (m + 8) = 256 * P (bitL (bys s)) (5 * j) m + s[k].toNat) := Lib.hid (by
        rw [P_add, show 5 * j + m = 8 * k from hjm, bitL_byte _ (bys_lt s) k (by rw [bys_len]; exact hlt), bys_get s k hlt]
        omega)
      have hcl := s[k].toNat_lt
      generalize P (bitL (bys s)) (5 * j) m = X at hp2 HN ⊢
      generalize s[k].toNat = c at hcl HN c1 ⊢
      have w1 : wrap64 ((X : Int) * 256) = (X : Int) * 256 := wrap64_id (by omega) (by omega)
      have w2 : wrap64 (c : Int) = (c : Int) := wrap64_id (by omega) (by omega)
      have w3 := or_byte X c (by omega) hcl
      rw [← HN.out] at w3
      clear hp
      go_wp2
      clear w1 w2 w3 c1
      have HI : Hid (5 * j + (m + 8) = 8 * (k + 1)) := Lib.hid (by omega)
      have hm8 : ((m : Int) + 8) = ((m + 8 : Nat) : Int) := by omega
      rw [hm8]
      have HM12 : Hid (m + 8 ≤ 12) := Lib.hid (by omega)
      generalize m + 8 = M at HI HM12 ⊢
      go_loopw [4, 5] (fun bits mn wq => ∃ (j m : Nat) (p v : Value), mn = .int .i64 m ∧ 5 * j + m = 8 * (k + 1) ∧ m ≤ 12 ∧ bits = .int .i64 (P (bitL (bys s)) (5 * j) m) ∧ Bd wq w2.heap.size w.heap.size p v ((dig (bitL (bys s)) j).map letN) ∧ Kp (fun i => i = w.heap.size ∨ w2.heap.size ≤ i) w2 wq) (fun _ mn _ => (intOf mn).toNat)
      case atStart => exact ⟨j, M, p, v, rfl, HI.out, HM12.out, rfl, HBD.out, HKP.out⟩
      case round =>
        obtain ⟨j, m, p, v, rfl, hjm, hm12, rfl, hbd, hkp⟩ := hrel
        by_cases h5 : 5 ≤ m
        · obtain ⟨q, hq⟩ : ∃ q : Nat, (m : Int) - 5 = (q : Int) := ⟨m - 5, by omega⟩
          have hqm : m = 5 + q := by omega
          have hsp := P_split (bitL (bys s)) (bitL_lt _) (5 * j) 5 q
          rw [← hqm] at hsp
          have hp := P_lt (bitL (bys s)) (bitL_lt _) (5 * j) m
          have hd := P_lt (bitL (bys s)) (bitL_lt _) (5 * j) 5
          have hp2 : P (bitL (bys s)) (5 * j) m < 4096 := by
            have : 2 ^ m ≤ 2 ^ 12 := Nat.pow_le_pow_right (by omega) (by omega)
            omega
          generalize hX : P (bitL (bys s)) (5 * j) m = X at hp2 hsp ⊢
          generalize hD : P (bitL (bys s)) (5 * j) 5 = d at hsp hd
          have HDD := Lib.hid hD
          clear hX hD
          have hsh : (X : Int) / 2 ^ q = (d : Int) := by rw [← hsp.1]; simp
          have g5 : (5 : Int) ≤ (m : Int) := by omega
          have HLT2 := letter_at d hd wr
          have HQM := Lib.hid hqm
          clear hqm
          have HBD := Lib.hid hbd; have HKP := Lib.hid hkp; have HSP := Lib.hid hsp
          clear hbd hkp hp hsp
          have HJ : Hid (j ≤ 200000) := Lib.hid (by omega)
          go_wp2_with fail
          refine (wb_any (letN d) HBD.out (by have := HJ.out; simp [dig_len]; omega)).mono ?_
          rintro e w5 ⟨rfl, p5, v5, hb5, hk5⟩
          have HB5 : Hid (Bd w5 w2.heap.size w.heap.size p5 v5 ((dig (bitL (bys s)) (j + 1)).map letN)) := Lib.hid (by rw [dig_succ, List.map_append, HDD.out]; exact hb5)
          have HK5 := Lib.hid (HKP.out.trans hk5)
          clear hb5 hk5
          have w1 := (wrap_pow q (by have := HQM.out; omega)).1
          have w4 := (wrap_pow q (by have := HQM.out; omega)).2
          have w3 := and_mask X q (by omega) (by have := HQM.out; omega)
          rw [HSP.out.2] at w3
          go_wp2
          go_roundw
          case rel => exact ⟨j + 1, q, p5, v5, rfl, by have := HQM.out; omega, by have := HQM.out; omega, by rw [show 5 * (j + 1) = 5 * j + 5 by omega], HB5.out, HK5.out⟩
          case measure => have := HQM.out; simp [intOf]; omega
        · have g5 : ¬ (5 : Int) ≤ (m : Int) := by omega
          have HBD := Lib.hid hbd; have HKP := Lib.hid hkp
          clear hbd hkp
          go_wp2
          go_roundw
          case rel => exact ⟨k + 1, j, m, p, v, by omega, by go_num, rfl, hjm, by omega, rfl, HBD.out, HKP.out⟩
          case measure => simp [intOf]; omega
    · obtain rfl : k = s.size := by omega
      have HBD := Lib.hid hbd; have HKP := Lib.hid hkp
      clear hbd hkp
      by_cases hm0 : m = 0
      · subst hm0
        have hj : j = many5 s.size := by unfold many5; omega
        go_wp2_with fail
        refine (bd_string HBD.out (let_lt _ (dig_lt _ (bitL_lt _) _))).mono ?_
        rintro e w5 ⟨rfl, hb5⟩
        rw [hj]
        go_wp2
        go_ret
        exact ⟨rfl, (HB2.out.trans (HKP.out.below HB2.out.size (fun i hi => by have := HZ.out; omega))).trans hb5⟩
      · obtain ⟨q, hq⟩ : ∃ q : Nat, (5 : Int) - (m : Int) = (q : Int) := ⟨5 - m, by omega⟩
        have hqm : m + q = 5 := by omega
        have hadd := P_add (bitL (bys s)) (5 * j) m q
        rw [hqm, P_zero (5 * j + m) q (fun k h1 h2 => bitL_end _ k (by rw [bys_len]; omega)), Nat.add_zero] at hadd
        have hd := P_lt (bitL (bys s)) (bitL_lt _) (5 * j) 5
        have hj : j + 1 = many5 s.size := by unfold many5; omega
        generalize hX : P (bitL (bys s)) (5 * j) m = X at hadd ⊢
        generalize hD : P (bitL (bys s)) (5 * j) 5 = d at hadd hd
        have HDD := Lib.hid hD
        clear hX hD
        have g0 : (0 : Int) < (m : Int) := by clear hadd; omega
        have HLB : Hid (((dig (bitL (bys s)) j).map letN).length ≤ 1000000) := Lib.hid (by clear hadd; unfold many5 at hj; simp [dig_len]; omega)
        have hsh : (X : Int) * 2 ^ q = (d : Int) := by rw [hadd]; simp
        have w1 := wrap_d d hd
        have HLT2 := letter_at d hd wr
        have HJ := Lib.hid hj
        clear hadd hqm hj hm0 hjm
        go_wp2_with fail
        clear hsh w1
        refine (wb_any (letN d) HBD.out HLB.out).mono ?_
        rintro e w5 ⟨rfl, p5, v5, hb5, hk5⟩
        have HB5 : Hid (Bd w5 w2.heap.size w.heap.size p5 v5 ((dig (bitL (bys s)) (j + 1)).map letN)) := Lib.hid (by rw [dig_succ, List.map_append, HDD.out]; exact hb5)
        have HK5 := Lib.hid (HKP.out.trans hk5)
        clear hb5 hk5
        go_wp2_with fail
        refine (bd_string HB5.out (let_lt _ (dig_lt _ (bitL_lt _) _))).mono ?_
        rintro e w6 ⟨rfl, hb6⟩
        rw [HJ.out]
        go_wp2
        go_ret
        exact ⟨rfl, (HB2.out.trans (HK5.out.below HB2.out.size (fun i hi => by have := HZ.out; omega))).trans hb6⟩
end Go.Proofs.Ytmfpahnncalcaaa
