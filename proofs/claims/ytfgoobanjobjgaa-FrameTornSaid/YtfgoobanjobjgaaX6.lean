/-
  The walk of FrameTorn.
-/
import Derived.Test.YtfgoobanjobjgaaX5
set_option linter.unusedVariables false
set_option linter.unusedSimpArgs false
namespace Go.Proofs.Ytfgoobanjobjgaa
open Go.RowKit Go.WideShapes Go.ChangeShapes Go.ChangeAt Go.Deep
theorem infoInt : (Try.prog.info? 3).map (fun i => (i.zero, i.size, i.bytes)) = some (some (.int .i64 0), 1, 8) := by kernel_rfl
def intC (x : Nat) : List Value := [.int .i64 x]
theorem sl_int {w : World} {a : Option Addr} {xs : List Nat} (h : Sl intC 1 w a xs) (i : Nat) (hi : i < xs.length) : ∃ b o, a = some ⟨b, o, none⟩ ∧ b < w.heap.size ∧ w.cell? ⟨b, o + i, none⟩ = some (.int .i64 (xs[i] : Nat)) := by
  obtain ⟨b, o, ha, hb, hc⟩ := h i hi
  refine ⟨b, o, ha, hb, ?_⟩
  have := hc 0 (.int .i64 (xs[i] : Nat)) rfl
  simpa using this
theorem Sl.take {α : Type} {enc : α → List Value} {size : Nat} {w : World} {a : Option Addr} {xs : List α} (h : Sl enc size w a xs) (m : Nat) : Sl enc size w a (xs.take m) := by
  intro i hi
  rw [List.length_take] at hi
  obtain ⟨b, o, ha, hb, hc⟩ := h i (by omega)
  exact ⟨b, o, ha, hb, fun j v hv => hc j v (by rw [List.getElem_take] at hv; exact hv)⟩
/-- Where the first records end. -/
def endsL (l : List ByteArray) (k : Nat) : List Nat := (List.range k).map fun i => (catR (l.take (i + 1))).size
theorem endsL_len (l : List ByteArray) (k : Nat) : (endsL l k).length = k := by simp [endsL]
theorem endsL_snoc (l : List ByteArray) (k : Nat) : endsL l (k + 1) = endsL l k ++ [(catR (l.take (k + 1))).size] := by simp [endsL, List.range_succ]
theorem endsL_get (l : List ByteArray) (k i : Nat) (h : i < (endsL l k).length) : (endsL l k)[i] = (catR (l.take (i + 1))).size := by simp [endsL]
theorem catR_take_le (l : List ByteArray) (m : Nat) : (catR (l.take m)).size ≤ (catR l).size := by
  conv => rhs; rw [← List.take_append_drop m l, catR_app, ByteArray.size_append]
  omega
theorem catR_bound : ∀ (l : List ByteArray), (∀ s ∈ l, s.size ≤ 300) → (catR l).size ≤ 312 * l.length
  | [], _ => by simp [catR]; decide
  | s :: l, h => by
    have h1 := catR_bound l (fun x hx => h x (by simp [hx]))
    have h2 := h s (by simp)
    have h3 := (recB_size s (by omega)).1
    simp only [catR, ByteArray.size_append, List.length_cons]; omega
theorem torn_big (a : Option Addr) (len cap : Nat) (c : Int) (w : World) (hb : 20 < len) : Calls Try.prog 4 #[.slice a len cap, .int .u16 c] w fun e w' => e = .returned (.bool true) ∧ Below w.heap.size w w' := by
  have hd : (20 : Int) < (len : Int) := by omega
  go_enter Try.func4, Try.ntmps4
  go_wp2_with fail
  refine (awake_any _).mono ?_
  rintro e w3 ⟨rfl, hb3⟩
  go_wp2
  go_ret
  exact ⟨rfl, hb3⟩
set_option maxHeartbeats 1000000 in
theorem torn_walk (l : List ByteArray) (a : Option Addr) (cap c : Nat) (w : World) (h2 : l.length ≤ 20) (hcap : l.length ≤ cap) (hc : c < 65536) (hs : Sl strC 1 w a l) : Calls Try.prog 4 #[.slice a l.length cap, .int .u16 c] w fun e w' => e = .returned (.bool true) ∧ Below w.heap.size w w' := by
  obtain ⟨i0, hi, hz0, hz1, hz2⟩ := info_parts infoInt
  have HS := Lib.hid hs
  clear hs
  have hd : ¬ (20 : Int) < (l.length : Int) := by omega
  go_enter Try.func4, Try.ntmps4
  go_wp2
  go_loopw [5, 6, 7] (fun s v i wr => ∃ (k : Nat) (S : ByteArray), i = .int .i64 k ∧ k ≤ l.length ∧ s = .string S ∧ S = catR (l.take k) ∧ (∀ x ∈ l.take k, x.size ≤ 300) ∧ wr.ownsRow w.heap.size 3 1 v (endsL l k).length ((endsL l k).flatMap intC) ∧ Below w.heap.size w wr) (fun _ _ i _ => l.length - (intOf i).toNat)
  case atStart => exact ⟨0, _, rfl, by omega, rfl, rfl, by simp, own_nil _ _ _ _, Below.refl _ _⟩
  case round =>
    obtain ⟨k, S, rfl, hk, rfl, hS, hall, ho, hb⟩ := hrel
    have HA := Lib.hid hall
    have HO := Lib.hid ho
    have HB := Lib.hid hb
    have HSS := Lib.hid hS
    have hSl : S.size ≤ 312 * 20 := by
      have := catR_bound _ hall
      rw [hS]
      rw [List.length_take] at this
      omega
    obtain ⟨ae, ce, rfl, hce, hsle⟩ := own_sl (enc := intC) (size := 1) (fun _ => rfl) (by decide) ho
    have HSE := Lib.hid hsle
    have hEl := endsL_len l k
    clear hall ho hb hS hsle
    by_cases hlt : k < l.length
    · obtain ⟨b, o, rfl, hbl, hc0⟩ := sl_str HS.out k hlt
      have hc : wr.cell? ⟨b, o + k, none⟩ = some (.string l[k]) := by rw [HB.out.cell (p := ⟨b, o + k, none⟩) hbl]; exact hc0
      obtain ⟨Y, hY⟩ : ∃ Y, Y = l[k] := ⟨_, rfl⟩
      rw [← hY] at hc
      have HY := Lib.hid hY
      clear hY hc0
      by_cases hy : 300 < Y.size
      · have f1 : (300 : Int) < (Y.size : Int) := by omega
        clear hEl
        go_wp2_with fail
        refine (awake_any _).mono ?_
        rintro e w5 ⟨rfl, hb5⟩
        go_wp2
        go_ret
        exact ⟨rfl, below_step HB.out (Nat.le_refl _) hb5⟩
      · have f : ¬ (300 : Int) < (Y.size : Int) := by omega
        have HA2 : Hid (∀ x ∈ l.take (k + 1), x.size ≤ 300) := Lib.hid (by
          rw [take_next l k hlt]
          intro x hx
          rcases List.mem_append.1 hx with hx | hx
          · exact HA.out x hx
          · rw [List.mem_singleton.1 hx, ← HY.out]; omega)
        have hR := (recB_size Y (by omega)).1
        obtain ⟨R, hRR⟩ : ∃ R, R = recB Y := ⟨_, rfl⟩
        rw [← hRR] at hR
        have HP := Lib.hid (putR_ok (s := Y) (by omega))
        rw [← hRR] at HP
        have HS2 : Hid (S ++ R = catR (l.take (k + 1))) := Lib.hid (by rw [take_next l k hlt, catR_snoc, ← HSS.out, hRR, ← HY.out])
        obtain ⟨n, hn⟩ : ∃ n, n = (endsL l k).length := ⟨_, rfl⟩
        have HN : Hid (n = k) := Lib.hid (by rw [hn, endsL_len])
        have hn20 : n ≤ 20 := by rw [hn, endsL_len]; omega
        rw [← hn] at HO
        rw [← hn]
        clear hRR hEl hn
        go_wp2_with fail
        refine (fput_any Y _).mono ?_
        rintro e w2 ⟨rfl, hb2⟩
        rw [HP.out]
        have HB2 := Lib.hid (below_step HB.out (Nat.le_refl _) hb2)
        have HO2 := Lib.hid (own_kept HO.out hb2)
        clear hb2
        go_wp2_with (at_builtin; refine wpList_append_own _ rfl _ _ 38 rfl w.heap.size 3 i0 (.int .i64 0) 1 8 Try.underlying38 hi hz0 hz1 hz2 rfl (by decide) _ _ _ rfl (HO2.out.alloc _) ⟨_, 0, none⟩ 1 1 [.int .i64 ((S.size : Int) + (R.size : Int))] rfl rfl ?a1 ?a2 ?a3 ?a4 ?a5 ?_)
        case a1 => intro j u hj; exact new_cells _ _ _ j u hj
        case a2 => intro u hu; simp at hu; subst hu; rfl
        case a3 => unfold maxLen; omega
        case a4 => omega
        case a5 => have := HB2.out.size; simp; omega
        intro v5 w5 hown5 hg5 _
        have HB5 : Hid (Below w.heap.size w w5) := Lib.hid ((HB2.out.alloc HB2.out.size _).grown hg5 (by have := HB2.out.size; simp; omega) (fun q hq => (HO2.out.lt q hq).1))
        have HO5 : Hid (w5.ownsRow w.heap.size 3 1 v5 (endsL l (k + 1)).length ((endsL l (k + 1)).flatMap intC)) := Lib.hid (by
          have e1 : (endsL l (k + 1)).flatMap intC = (endsL l k).flatMap intC ++ [.int .i64 ((S.size : Int) + (R.size : Int))] := by
            rw [endsL_snoc, List.flatMap_append]
            congr 1
            rw [← HS2.out, ByteArray.size_append]
            simp [intC]
          rw [e1, endsL_len]
          have h5 := hown5
          rw [show n + 1 = k + 1 by rw [HN.out]] at h5
          exact h5)
        clear hown5 hg5
        go_wp2
        go_roundw
        case rel => exact ⟨k + 1, S ++ R, vint (by omega), by omega, rfl, HS2.out, HA2.out, HO5.out, HB5.out⟩
        case measure => simp [intOf]; omega
    · obtain rfl : k = l.length := by omega
      have d1 : ¬ ((l.length : Int) < (l.length : Int)) := by omega
      rw [List.take_length] at HSS HA
      have HOK : Hid (okT l) := Lib.hid (fun x hx => by have := HA.out x hx; omega)
      have hrm : Int.tmod (c : Int) ((S.size : Int) + 1) = ((c % (S.size + 1) : Nat) : Int) := by rw [Int.tmod_eq_emod_of_nonneg (by omega)]; rfl
      have hKl : c % (S.size + 1) < S.size + 1 := Nat.mod_lt _ (by omega)
      obtain ⟨K, hK⟩ : ∃ K, K = c % (S.size + 1) := ⟨_, rfl⟩
      rw [← hK] at hrm hKl
      have b1 : (0 : Int) ≤ (K : Int) := by omega
      have b2 : (K : Int) ≤ (S.size : Int) := by omega
      have hne : ¬ ((S.size : Int) + 1 = 0) := by omega
      have hsz : (S.extract 0 K).size ≤ 1099511627776 := by rw [ByteArray.size_extract]; omega
      have hsm : ∀ m, m ≤ l.length → (catR (l.take m)).size ≤ K → (m = l.length ∨ K < (catR (l.take (m + 1))).size) → allF (S.extract 0 K) = (l.take m, (catR (l.take m)).size) := by
        intro m hm h1 h2
        rw [HSS.out]
        exact torn_split HOK.out hm h1 (by rw [← HSS.out]; omega) h2
      have HSM := Lib.hid hsm
      have HE := Lib.hid hEl
      have hEl' : (endsL l l.length).length = l.length := endsL_len _ _
      rw [hEl'] at *
      clear hK hsm hEl hEl'
      go_wp2_with fail
      refine (fall_any _ wr hsz).mono ?_
      rintro e w5 ⟨a5, cap5, rfl, hcap5, hl5, hsl5, hb5⟩
      obtain ⟨V, hV⟩ : ∃ V, V = allF (S.extract 0 K) := ⟨_, rfl⟩
      rw [← hV] at hcap5 hl5 hsl5 HSM ⊢
      have HB5 := Lib.hid (below_step HB.out (Nat.le_refl _) hb5)
      have HSE5 := Lib.hid (HSE.out.keep hb5)
      have HS5 := Lib.hid (HS.out.keep HB5.out)
      have HSL5 := Lib.hid hsl5
      clear hb5 hsl5 hV hrm
      go_wp2
      go_loop [13] (fun i => ∃ m : Nat, i = .int .i64 m ∧ m ≤ l.length ∧ (catR (l.take m)).size ≤ K) (fun i => l.length - (intOf i).toNat)
      case atStart => exact ⟨0, rfl, by omega, by simp [catR]; exact Nat.zero_le _⟩
      case round =>
        obtain ⟨m, rfl, hm, hmK⟩ := hrel
        have HMK := Lib.hid hmK
        clear hmK
        by_cases hml : m < l.length
        · have hme : m < (endsL l l.length).length := by rw [endsL_len]; exact hml
          obtain ⟨b, o, rfl, hbl, hc⟩ := sl_int HSE5.out m hme
          rw [endsL_get] at hc
          obtain ⟨E, hE⟩ : ∃ E, E = (catR (l.take (m + 1))).size := ⟨_, rfl⟩
          rw [← hE] at hc
          have HE := Lib.hid hE
          clear hE
          have d3 : (m : Int) < (l.length : Int) := by omega
          by_cases hek : E ≤ K
          · have d4 : (E : Int) ≤ (K : Int) := by omega
            have HMK2 : Hid ((catR (l.take (m + 1))).size ≤ K) := Lib.hid (by rw [← HE.out]; exact hek)
            go_wp2
            exact ⟨⟨m + 1, vint (by omega), by omega, HMK2.out⟩, by simp [intOf]; omega⟩
          · have d4 : ¬ (E : Int) ≤ (K : Int) := by omega
            have HVV := Lib.hid (HSM.out m hm HMK.out (.inr (by rw [← HE.out]; omega)))
            clear HSM
            obtain ⟨L, hL⟩ : ∃ L, L = l.take m := ⟨_, rfl⟩
            have hLm : m = L.length := by rw [hL, List.length_take]; omega
            rw [← hL] at HVV
            obtain ⟨N, hN⟩ : ∃ N, N = (catR L).size := ⟨_, rfl⟩
            rw [← hN] at HVV
            have HSX : Hid (Sl strC 1 w5 a L) := Lib.hid (by rw [hL]; exact HS5.out.take m)
            have HL := Lib.hid hL
            have HN := Lib.hid hN
            clear hL hN
            subst hLm
            have hlc : (L.length : Int) ≤ (cap : Int) := by omega
            have hl0 : (0 : Int) ≤ (L.length : Int) := by omega
            rw [HVV.out] at HSL5 hcap5 hl5 ⊢
            dsimp only at hcap5 hl5
            by_cases h0 : L.length = 0
            · have e0 : ((L.length : Int) == 0) = true := by simp [h0]
              have hN0 : N = 0 := by rw [HN.out, show L = [] from List.eq_nil_of_length_eq_zero h0]; rfl
              have e1 : ((N : Int) == 0) = true := by simp [hN0]
              have H0 := Lib.hid h0
              clear h0 hN0
              go_wp2_with fail
              refine (texts_any L L a5 a cap5 cap w5 HSL5.out HSX.out (by omega)).mono ?_
              rintro e w6 ⟨rfl, n6, rfl⟩
              rw [decide_eq_true rfl]
              go_wp2_with fail
              refine (awake_any _).mono ?_
              rintro e w7 ⟨rfl, hb7⟩
              go_wp2
              (try rw [Exit.noGoto_ret])
              go_ret
              exact ⟨rfl, below_step (below_drewN HB5.out _) (Nat.le_refl _) hb7⟩
            · obtain ⟨j, hj⟩ : ∃ j, j = L.length - 1 := ⟨_, rfl⟩
              have hjl : j < (endsL l l.length).length := by rw [endsL_len]; omega
              obtain ⟨b9, o9, hae9, hbl9, hc9⟩ := sl_int HSE5.out j hjl; cases hae9
              rw [endsL_get, show j + 1 = L.length by omega, ← HL.out, ← HN.out] at hc9
              have e0 : ((L.length : Int) == 0) = false := by simp [h0]
              have e1 : (0 : Int) < (L.length : Int) := by omega
              have hjj : (L.length : Int) - 1 = (j : Int) := by omega
              have b8 : (0 : Int) ≤ (j : Int) := by omega
              have b9' : (j : Int) < (l.length : Int) := by omega
              have hjl2 : j < l.length := by omega
              clear h0 hj hjl
              go_wp2_with fail
              refine (texts_any L L a5 a cap5 cap w5 HSL5.out HSX.out (by omega)).mono ?_
              rintro e w6 ⟨rfl, n6, rfl⟩
              rw [decide_eq_true rfl]
              go_wp2_with fail
              refine (awake_any _).mono ?_
              rintro e w7 ⟨rfl, hb7⟩
              go_wp2
              (try rw [Exit.noGoto_ret])
              go_ret
              exact ⟨rfl, below_step (below_drewN HB5.out _) (Nat.le_refl _) hb7⟩
        · have d3 : ¬ (m : Int) < (l.length : Int) := by omega
          have HVV := Lib.hid (HSM.out m hm HMK.out (.inl (by omega)))
          clear HSM
          obtain ⟨L, hL⟩ : ∃ L, L = l.take m := ⟨_, rfl⟩
          have hLm : m = L.length := by rw [hL, List.length_take]; omega
          rw [← hL] at HVV
          obtain ⟨N, hN⟩ : ∃ N, N = (catR L).size := ⟨_, rfl⟩
          rw [← hN] at HVV
          have HSX : Hid (Sl strC 1 w5 a L) := Lib.hid (by rw [hL]; exact HS5.out.take m)
          have HL := Lib.hid hL
          have HN := Lib.hid hN
          clear hL hN
          subst hLm
          have hlc : (L.length : Int) ≤ (cap : Int) := by omega
          have hl0 : (0 : Int) ≤ (L.length : Int) := by omega
          rw [HVV.out] at HSL5 hcap5 hl5 ⊢
          dsimp only at hcap5 hl5
          by_cases h0 : L.length = 0
          · have e0 : ((L.length : Int) == 0) = true := by simp [h0]
            have hN0 : N = 0 := by rw [HN.out, show L = [] from List.eq_nil_of_length_eq_zero h0]; rfl
            have e1 : ((N : Int) == 0) = true := by simp [hN0]
            have H0 := Lib.hid h0
            clear h0 hN0
            go_wp2_with fail
            refine (texts_any L L a5 a cap5 cap w5 HSL5.out HSX.out (by omega)).mono ?_
            rintro e w6 ⟨rfl, n6, rfl⟩
            rw [decide_eq_true rfl]
            go_wp2_with fail
            refine (awake_any _).mono ?_
            rintro e w7 ⟨rfl, hb7⟩
            go_wp2
            (try rw [Exit.noGoto_ret])
            go_ret
            exact ⟨rfl, below_step (below_drewN HB5.out _) (Nat.le_refl _) hb7⟩
          · obtain ⟨j, hj⟩ : ∃ j, j = L.length - 1 := ⟨_, rfl⟩
            have hjl : j < (endsL l l.length).length := by rw [endsL_len]; omega
            obtain ⟨b9, o9, hae9, hbl9, hc9⟩ := sl_int HSE5.out j hjl; cases hae9
            rw [endsL_get, show j + 1 = L.length by omega, ← HL.out, ← HN.out] at hc9
            have e0 : ((L.length : Int) == 0) = false := by simp [h0]
            have e1 : (0 : Int) < (L.length : Int) := by omega
            have hjj : (L.length : Int) - 1 = (j : Int) := by omega
            have b8 : (0 : Int) ≤ (j : Int) := by omega
            have b9' : (j : Int) < (l.length : Int) := by omega
            have hjl2 : j < l.length := by omega
            clear h0 hj hjl
            go_wp2_with fail
            refine (texts_any L L a5 a cap5 cap w5 HSL5.out HSX.out (by omega)).mono ?_
            rintro e w6 ⟨rfl, n6, rfl⟩
            rw [decide_eq_true rfl]
            go_wp2_with fail
            refine (awake_any _).mono ?_
            rintro e w7 ⟨rfl, hb7⟩
            go_wp2
            (try rw [Exit.noGoto_ret])
            go_ret
            exact ⟨rfl, below_step (below_drewN HB5.out _) (Nat.le_refl _) hb7⟩
theorem torn_law (v : Value) (l : List ByteArray) (c : Int) (w : World) (h : StrsOk l w v) (w0 : (Lit.int .u16 c).wf = true) : Calls Try.prog 4 #[v, .int .u16 c] w fun e w' => e = .returned (.bool true) ∧ Below w.heap.size w w' := by
  obtain ⟨a, cap, rfl, hcap, _, hs, _⟩ := h
  by_cases hb : 20 < l.length
  · exact torn_big a _ cap c w hb
  · obtain ⟨h0, h1⟩ := bounds_u16 w0
    obtain ⟨c, rfl⟩ := Int.eq_ofNat_of_zero_le h0
    exact torn_walk l a cap c w (by omega) hcap (by omega) hs
end Go.Proofs.Ytfgoobanjobjgaa

