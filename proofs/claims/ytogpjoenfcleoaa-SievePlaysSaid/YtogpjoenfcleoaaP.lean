/-
  The walk of SievePlays.
-/
import Derived.Test.YtogpjoenfcleoaaN
set_option linter.unusedVariables false
set_option linter.unusedSimpArgs false
namespace Go.Proofs.Ytogpjoenfcleoaa
open Go.RowKit
theorem infoB : (Try.prog.info? 4).map (fun i => (i.zero, i.size, i.bytes)) = some (some (.bool false), 1, 1) := by kernel_rfl
theorem made_bool (n : Nat) : (madeCells (Value.bool false).cells (n * 1)).toList = List.replicate n (.bool false) := by
  apply List.ext_getElem
  · simp [madeCells]
  · intro i h1 h2
    simp [madeCells, Value.cells, Nat.mod_one]
def OutM (m : List Bool) (b : Nat) : Prop := ∀ j, b ≤ j → m.getD j false = false
theorem plays_long (b t : Int) (a : Option Addr) (n c : Nat) (w : World) (h : 30 < n) (hn : n ≤ 9223372036854775807) : Calls Try.prog 3 #[.int .i64 b, .int .i64 t, .slice a n c] w fun e w' => e = .returned (.bool true) ∧ Below w.heap.size w w' := by
  have g1 : (30 : Int) < (n : Int) := by omega
  go_enter Try.func3, Try.ntmps3
  go_wp2_with fail
  refine (awake_any _).mono ?_
  rintro e w1 ⟨rfl, hb⟩
  go_wp2
  go_ret
  exact ⟨rfl, hb⟩
theorem plays_bad (b t : Int) (a : Option Addr) (n c : Nat) (w : World) (h : n ≤ 30) (hbt : b < 1 ∨ 4096 < b ∨ t < 1 ∨ 16 < t) : Calls Try.prog 3 #[.int .i64 b, .int .i64 t, .slice a n c] w fun e w' => e = .returned (.bool true) ∧ Below w.heap.size w w' := by
  have g1 : ¬ (30 : Int) < (n : Int) := by omega
  have T := Lib.hid (new_bad b t w hbt)
  have H := Lib.hid hbt
  clear hbt
  by_cases h1 : b < 1
  · go_enter Try.func3, Try.ntmps3
    go_wp2_with fail
    refine T.out.mono ?_
    rintro e w1 ⟨rfl, rfl⟩
    go_wp2_with fail
    refine (awake_any _).mono ?_
    rintro e w1 ⟨rfl, hb⟩
    go_wp2
    go_ret
    exact ⟨rfl, hb⟩
  · by_cases h2 : 4096 < b
    · go_enter Try.func3, Try.ntmps3
      go_wp2_with fail
      refine T.out.mono ?_
      rintro e w1 ⟨rfl, rfl⟩
      go_wp2_with fail
      refine (awake_any _).mono ?_
      rintro e w1 ⟨rfl, hb⟩
      go_wp2
      go_ret
      exact ⟨rfl, hb⟩
    · by_cases h3 : t < 1
      · go_enter Try.func3, Try.ntmps3
        go_wp2_with fail
        refine T.out.mono ?_
        rintro e w1 ⟨rfl, rfl⟩
        go_wp2_with fail
        refine (awake_any _).mono ?_
        rintro e w1 ⟨rfl, hb⟩
        go_wp2
        go_ret
        exact ⟨rfl, hb⟩
      · have h4 : 16 < t := by have := H.out; omega
        go_enter Try.func3, Try.ntmps3
        go_wp2_with fail
        refine T.out.mono ?_
        rintro e w1 ⟨rfl, rfl⟩
        go_wp2_with fail
        refine (awake_any _).mono ?_
        rintro e w1 ⟨rfl, hb⟩
        go_wp2
        go_ret
        exact ⟨rfl, hb⟩
set_option maxRecDepth 100000 in
set_option maxHeartbeats 16000000 in
theorem plays_walk (b t : Nat) (l : List ByteArray) (a : Option Addr) (c : Nat) (w : World) (hl : l.length ≤ 30) (hb1 : 1 ≤ b) (hb2 : b ≤ 4096) (ht1 : 1 ≤ t) (ht2 : t ≤ 16) (ha : Sl strC 1 w a l) : Calls Try.prog 3 #[.int .i64 b, .int .i64 t, .slice a l.length c] w fun e w' => e = .returned (.bool true) ∧ Below w.heap.size w w' := by
  obtain ⟨i0, hi, hz0, hz1, hz2⟩ := info_parts infoB
  have HA := Lib.hid ha
  clear ha
  have g1 : ¬ (30 : Int) < (l.length : Int) := by omega
  have g2 : ¬ (b : Int) < 1 := by omega
  have g3 : ¬ (4096 : Int) < (b : Int) := by omega
  have g4 : ¬ (t : Int) < 1 := by omega
  have g5 : ¬ (16 : Int) < (t : Int) := by omega
  have HMK : Hid (∀ w1 : World, ∃ W, (Instr.makeSlice 28 (.int .i64 (b : Int)) (.int .i64 (b : Int))).run Try.prog w1 = .ok (.slice (some ⟨w1.heap.size, 0, none⟩) b b) W ∧ Bk w1.heap.size ((noM.take b).map Value.bool) W ∧ Below w1.heap.size w1 W) := Lib.hid (fun w1 => by
    obtain ⟨W, hmk, hown, hgr⟩ := run_make_full (P := Try.prog) (w := w1) w1.heap.size 28 4 i0 (.bool false) 1 Try.underlying28 hi hz0 hz1 .i64 .i64 b (by rw [hz2]; omega) (by unfold maxLen; omega) (Nat.le_refl _)
    rw [made_bool] at hown
    refine ⟨W, hmk, ?_, (Below.refl _ w1).grown hgr (Nat.le_refl _) (fun q hq => by cases hq)⟩
    have h2 := own_bk hown
    rw [noM_take b hb2, List.map_replicate]
    exact h2)
  clear hi hz0 hz1 hz2
  go_enter Try.func3, Try.ntmps3
  go_wp2_with fail
  refine (new_any b t w (by omega) (by omega) (by omega) (by omega)).mono ?_
  rintro e w1 ⟨rfl, hq, hb⟩
  obtain ⟨p, hp⟩ : ∃ p, p = w.heap.size := ⟨_, rfl⟩
  rw [← hp] at hq ⊢
  have hq : Bk p (svC noM b t) w1 := hq
  have hpq : p < w1.heap.size := hq.1
  obtain ⟨W, hmk, hbk, hbl⟩ := HMK.out w1
  obtain ⟨g, hg⟩ : ∃ g, g = w1.heap.size := ⟨_, rfl⟩
  rw [← hg] at hmk hbk hpq
  have HQ := Lib.hid (hq.keep hbl); have HB := Lib.hid (below_step hb (Nat.le_refl _) hbl); have HP := Lib.hid hp; have HS := Lib.hid hbk; have HPG := Lib.hid hpq; have HG := Lib.hid hg
  clear hq hb hp hbk hbl hpq hg HMK
  go_wp2
  clear g1 g2 g3 g4 g5 hmk
  go_loopw [10] (fun i wr => ∃ (k : Nat) (m : List Bool), i = .int .i64 k ∧ k ≤ l.length ∧ m.length = 4096 ∧ OutM m b ∧ Bk p (svC m b t) wr ∧ Bk g ((m.take b).map Value.bool) wr ∧ Below w.heap.size w wr) (fun i _ => l.length - (intOf i).toNat)
  case atStart => exact ⟨0, noM, rfl, by omega, noM_len, fun j _ => noM_get j, HQ.out, HS.out, HB.out⟩
  case round =>
    clear HQ HS HB
    obtain ⟨k, m, rfl, hk, hml, hom, hbp, hbs, hbw⟩ := hrel
    have HML := Lib.hid hml; have HOM := Lib.hid hom; have HBP := Lib.hid hbp; have HBS := Lib.hid hbs; have HBW := Lib.hid hbw
    clear hml hom hbp hbs hbw
    by_cases hlt : k < l.length
    · have d1 : (k : Int) < (l.length : Int) := by omega
      have d2 : (0 : Int) ≤ (k : Int) := by omega
      have HCX : Hid (∀ w2, Below w.heap.size w w2 → ∃ b1 o1, a = some ⟨b1, o1, none⟩ ∧ w2.cell? ⟨b1, o1 + k, none⟩ = some (.string l[k])) := Lib.hid (fun w2 h2 => by
        obtain ⟨b1, o1, e, _, hc⟩ := sl_str (HA.out.keep h2) k hlt
        exact ⟨b1, o1, e, hc⟩)
      obtain ⟨X, hX⟩ : ∃ X, X = l[k] := ⟨_, rfl⟩
      rw [← hX] at HCX
      clear hX
      obtain ⟨b1, o1, rfl, hc1⟩ := HCX.out wr HBW.out
      have HC2 : Hid (∀ w2, Below w.heap.size w w2 → w2.cell? ⟨b1, o1 + k, none⟩ = some (.string X)) := Lib.hid (fun w2 h2 => by
        obtain ⟨b3, o3, e, hc⟩ := HCX.out w2 h2
        obtain ⟨rfl, rfl⟩ : b1 = b3 ∧ o1 = o3 := by simpa using e
        exact hc)
      clear HCX
      by_cases hs : X.size ≤ 100
      · have d3 : ¬ (100 : Int) < (X.size : Int) := by omega
        go_wp2
        clear d3
        go_loop [11, 12] (fun h i => ∃ j : Nat, i = .int .i64 j ∧ j ≤ t ∧ h = .bool (hasN m X b j)) (fun _ i => t - (intOf i).toNat)
        case atStart => exact ⟨0, rfl, by omega, rfl⟩
        case round =>
          obtain ⟨j, rfl, hj, rfl⟩ := hrel
          by_cases hjt : j < t
          · have e1 : (j : Int) < (t : Int) := by omega
            have hqb := mk_lt X j hb1
            have HR : Hid (hasN m X b (j + 1) = (hasN m X b j && m.getD (mk X j b) false)) := Lib.hid rfl
            have T := Lib.hid (fun w => mark_any X j b w (by omega) (by omega) hb1 hb2)
            obtain ⟨q, hq⟩ : ∃ q, q = mk X j b := ⟨_, rfl⟩
            rw [← hq] at hqb HR T
            clear hq
            have cS := (HBS.out.2 q _ (take_getD m b q hqb (by rw [HML.out]; exact hb2))).1
            have e2 : (0 : Int) ≤ (q : Int) := by omega
            have e3 : (q : Int) < (b : Int) := by omega
            generalize m.getD q false = y at cS HR
            generalize hasN m X b j = x at HR ⊢
            cases x with
            | true =>
              go_wp2_with fail
              refine (T.out _).mono ?_
              rintro e w3 ⟨rfl, rfl⟩
              go_wp2
              go_round
              case rel => exact ⟨j + 1, by go_num, by omega, by rw [HR.out]; simp⟩
              case measure => simp [intOf]; omega
            | false =>
              go_wp2
              go_round
              case rel => exact ⟨j + 1, by go_num, by omega, by rw [HR.out]; simp⟩
              case measure => simp [intOf]; omega
          · obtain rfl : j = t := by omega
            have e1 : ¬ (j : Int) < (j : Int) := by omega
            clear hj hjt
            go_wp2_with fail
            refine (has_any p m b j X wr HBP.out HML.out hb1 hb2 ht2 (by omega)).mono ?_
            rintro e w3 ⟨rfl, hb⟩
            have HBP3 := Lib.hid (HBP.out.keep hb); have HBS3 := Lib.hid (HBS.out.keep hb); have HBW3 := Lib.hid (below_step HBW.out (Nat.le_refl _) hb)
            have hc3 := HC2.out w3 HBW3.out
            clear hb hc1 HBP HBS HBW e1
            obtain ⟨x, hx⟩ : ∃ x, x = hasN m X b j := ⟨_, rfl⟩
            rw [← hx]
            clear hx
            have bx : (x != x) = false := by cases x <;> rfl
            by_cases h3 : k % 3 = 2
            · have b3 : ((k : Int) % 3 == 2) = true := by simp; omega
              go_wp2
              go_roundw
              case rel => exact ⟨k + 1, m, by go_num, by omega, HML.out, HOM.out, HBP3.out, HBS3.out, HBW3.out⟩
              case measure => simp [intOf]; omega
            · have b3 : ((k : Int) % 3 == 2) = false := by simp; omega
              go_wp2_with fail
              refine (add_any p m b j X w3 HBP3.out HML.out hb1 hb2 ht2 (by omega)).mono ?_
              rintro e w4 ⟨rfl, hq, hkp⟩
              have HBS4 := Lib.hid (HBS3.out.kp hkp (fun e => by have := HPG.out; omega))
              have HBW4 := Lib.hid (HBW3.out.trans (hkp.below (B := w.heap.size) (by have := HBP3.out.1; have := HP.out; omega) (fun j hj => by rw [hj, HP.out]; exact Nat.le_refl _)))
              have HAL := Lib.hid (addN_len m X b)
              have HM2 : Hid ((addN m X b j).length = 4096) := Lib.hid (by rw [addN_len]; exact HML.out)
              have HOM2 : Hid (OutM (addN m X b j) b) := Lib.hid (fun i hi => by rw [addN_out m X b hb1 (by rw [HML.out]; exact hb2) i hi]; exact HOM.out i hi)
              have HHA : Hid (hasN (addN m X b j) X b j = true) := Lib.hid (has_add m X b j hb1 (by rw [HML.out]; exact hb2))
              have HAS : Hid (∀ i, addN m X b (i + 1) = (addN m X b i).set (mk X i b) true) := Lib.hid (fun i => rfl)
              have HBP4 := Lib.hid hq
              clear hq hkp hc3 HBP3 HBS3 HBW3 b3 bx
              go_wp2
              obtain ⟨wo, hwo⟩ : ∃ wo : World, wo = w4 := ⟨_, rfl⟩
              rw [← hwo] at HBP4 HBS4 HBW4 ⊢
              clear hwo
              go_loopw [14] (fun i wr => ∃ (n : Nat), i = .int .i64 n ∧ n ≤ j ∧ Bk p (svC (addN m X b j) b j) wr ∧ Bk g (((addN m X b n).take b).map Value.bool) wr ∧ Below w.heap.size w wr) (fun i _ => j - (intOf i).toNat)
              case atStart => exact ⟨0, rfl, by omega, HBP4.out, HBS4.out, HBW4.out⟩
              case round =>
                clear HBP4 HBS4 HBW4
                obtain ⟨n, rfl, hn, hbp, hbs, hbw⟩ := hrel
                have HBP := Lib.hid hbp; have HBS := Lib.hid hbs; have HBW := Lib.hid hbw
                clear hbp hbs hbw
                by_cases hnj : n < j
                · have e1 : (n : Int) < (j : Int) := by omega
                  have hqb := mk_lt X n hb1
                  have hs2 := HAS.out n
                  have T := Lib.hid (fun w => mark_any X n b w (by omega) (by omega) hb1 hb2)
                  obtain ⟨q, hq⟩ : ∃ q, q = mk X n b := ⟨_, rfl⟩
                  rw [← hq] at hqb hs2 T
                  have HS2 := Lib.hid hs2
                  clear hq hs2
                  have cS := (HBS.out.2 q _ (take_getD (addN m X b n) b q hqb (by rw [HAL.out, HML.out]; exact hb2))).1
                  have fS := (HBS.out.2 q _ (take_getD (addN m X b n) b q hqb (by rw [HAL.out, HML.out]; exact hb2))).2
                  have hcx := HC2.out _ HBW.out
                  have e2 : (0 : Int) ≤ (q : Int) := by omega
                  have e3 : (q : Int) < (b : Int) := by omega
                  have HQL : Hid (q < (((addN m X b n).take b).map Value.bool).length) := Lib.hid (by rw [List.length_map, List.length_take, HAL.out, HML.out]; omega)
                  go_wp2_with fail
                  refine (T.out _).mono ?_
                  rintro e w5 ⟨rfl, rfl⟩
                  go_wp2
                  go_roundw
                  case rel =>
                    refine ⟨n + 1, by go_num, by omega, ?_, ?_, ?_⟩
                    · exact HBP.out.other (q := ⟨g, q, none⟩) (by have := HPG.out; simp; omega) _
                    · rw [HS2.out, ← map_set _ _ _ _ hqb]
                      exact HBS.out.set q HQL.out _
                    · exact HBW.out.setCell (p := ⟨g, q, none⟩) (by have := HPG.out; have := HP.out; simp; omega) _
                  case measure => simp [intOf]; omega
                · obtain rfl : n = j := by omega
                  have e1 : ¬ (n : Int) < (n : Int) := by omega
                  have HCB : Hid (cntM (addN m X b n) 4096 = cntM (addN m X b n) b) := Lib.hid (cnt_all _ b HM2.out hb2 HOM2.out)
                  obtain ⟨M, hM⟩ : ∃ M, M = addN m X b n := ⟨_, rfl⟩
                  rw [← hM] at HBP HBS HM2 HOM2 HHA HCB
                  clear hM HAL HAS hn hnj
                  go_wp2
                  clear e1
                  go_loop [13, 15] (fun c i => ∃ j : Nat, i = .int .i64 j ∧ j ≤ b ∧ c = .int .i64 (cntM M j : Nat)) (fun _ i => b - (intOf i).toNat)
                  case atStart => exact ⟨0, rfl, by omega, rfl⟩
                  case round =>
                    obtain ⟨j, rfl, hj, rfl⟩ := hrel
                    have hle := cntM_le M j
                    by_cases hjb : j < b
                    · have e1 : (j : Int) < (b : Int) := by omega
                      have e2 : (0 : Int) ≤ (j : Int) := by omega
                      have hsc := cntM_succ M j (by rw [HM2.out]; omega)
                      have cS := (HBS.out.2 j _ (take_getD M b j hjb (by rw [HM2.out]; exact hb2))).1
                      obtain ⟨c, hc⟩ : ∃ c, c = cntM M j := ⟨_, rfl⟩
                      rw [← hc] at hle hsc ⊢
                      generalize M.getD j false = y at hsc cS
                      cases y with
                      | true =>
                        have HS : Hid (cntM M (j + 1) = c + 1) := Lib.hid (by rw [hsc]; rfl)
                        clear hsc hc
                        go_wp2
                        go_round
                        case rel => exact ⟨j + 1, vint (by omega), by omega, by rw [HS.out]; exact vint (by omega)⟩
                        case measure => simp [intOf]; omega
                      | false =>
                        have HS : Hid (cntM M (j + 1) = c) := Lib.hid (by rw [hsc]; rfl)
                        clear hsc hc
                        go_wp2
                        go_round
                        case rel => exact ⟨j + 1, vint (by omega), by omega, by rw [HS.out]⟩
                        case measure => simp [intOf]; omega
                    · obtain rfl : j = b := by omega
                      have e1 : ¬ (j : Int) < (j : Int) := by omega
                      have hcx := HC2.out _ HBW.out
                      have T := Lib.hid (count_any p M j n wr HBP.out HM2.out)
                      rw [HCB.out] at T
                      obtain ⟨c, hc⟩ : ∃ c, c = cntM M j := ⟨_, rfl⟩
                      rw [← hc] at T hle ⊢
                      clear hc hj hjb
                      have bc : ((c : Int) != (c : Int)) = false := by simp
                      go_wp2_with fail
                      refine T.out.mono ?_
                      rintro e w5 ⟨rfl, rfl⟩
                      go_wp2_with fail
                      have T2 := has_any p M j n X wr HBP.out HM2.out hb1 hb2 ht2 (by omega)
                      rw [HHA.out] at T2
                      refine T2.mono ?_
                      clear T2
                      rintro e w5 ⟨rfl, hb⟩
                      have HBP5 := Lib.hid (HBP.out.keep hb); have HBS5 := Lib.hid (HBS.out.keep hb); have HBW5 := Lib.hid (below_step HBW.out (Nat.le_refl _) hb)
                      clear hb
                      go_wp2
                      go_roundw
                      case rel => exact ⟨k + 1, M, by go_num, by omega, HM2.out, HOM2.out, HBP5.out, HBS5.out, HBW5.out⟩
                      case measure => simp [intOf]; omega
      · have d3 : (100 : Int) < (X.size : Int) := by omega
        go_wp2
        go_roundw
        case rel => exact ⟨k + 1, m, by go_num, by omega, HML.out, HOM.out, HBP.out, HBS.out, HBW.out⟩
        case measure => simp [intOf]; omega
    · obtain rfl : k = l.length := by omega
      have d1 : ¬ (l.length : Int) < (l.length : Int) := by omega
      go_wp2_with fail
      refine (awake_any _).mono ?_
      rintro e w6 ⟨rfl, hb⟩
      have HBY := Lib.hid (below_step HBW.out (Nat.le_refl _) hb)
      clear hb
      go_wp2
      go_ret
      exact ⟨rfl, HBY.out⟩
theorem plays_law (b t : Int) (u : Value) (l : List ByteArray) (w : World) (_ : (Lit.int .i64 b).wf = true) (_ : (Lit.int .i64 t).wf = true) (h : StrsOk l w u) : Calls Try.prog 3 #[.int .i64 b, .int .i64 t, u] w fun e w' => e = .returned (.bool true) ∧ Below w.heap.size w w' := by
  obtain ⟨a, c, rfl, _, hl, hs, _⟩ := h
  unfold maxLen at hl
  by_cases h1 : 30 < l.length
  · exact plays_long b t a l.length c w h1 hl
  · by_cases h2 : b < 1 ∨ 4096 < b ∨ t < 1 ∨ 16 < t
    · exact plays_bad b t a l.length c w (by omega) h2
    · obtain ⟨bn, rfl⟩ : ∃ n : Nat, b = n := ⟨b.toNat, by omega⟩
      obtain ⟨tn, rfl⟩ : ∃ n : Nat, t = n := ⟨t.toNat, by omega⟩
      exact plays_walk bn tn l a c w (by omega) (by omega) (by omega) (by omega) (by omega) hs
end Go.Proofs.Ytogpjoenfcleoaa

