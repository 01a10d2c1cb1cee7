/-
  The contract of the law's own reader of a number.
-/
import Derived.Test.YtanehgnpominiaaG
import Derived.Test.YtanehgnpominiaaLoad
set_option linter.unusedVariables false
set_option linter.unusedSimpArgs false
set_option maxRecDepth 100000
namespace Go.Proofs.Ytanehgnpominiaa
open Go.RowKit
theorem load_R {p : Nat} {v0 v1 : Value} {w : World} (h : Bk p [v0, v1] w) : (loadVar 67 ⟨p, 0, none⟩).run Try.prog w = .ok (.agg #[v0, v1]) w := load_var (t := 67) (fun _ => by kernel_rfl) (fun _ => by kernel_rfl) h
theorem load_RA {p : Nat} {v0 v1 : Value} {w : World} (h : Bk p [v0, v1] w) : (Instr.loadAt 67 (.pointer (some ⟨p, 0, none⟩))).run Try.prog w = .ok (.agg #[v0, v1]) w := load_agg (t := 67) (fun _ => by kernel_rfl) (fun _ => by kernel_rfl) h
/-- The world in which a reader's value and its result have blocks. -/
def wR (w : World) (x0 x1 v0 v1 : Value) : World := (w.alloc (.cells #[x0, x1] 67)).alloc (.cells #[v0, v1] 67)
theorem wR_load (w : World) (x0 x1 v0 v1 : Value) : (loadVar 67 ⟨w.heap.size + 1, 0, none⟩).run Try.prog (wR w x0 x1 v0 v1) = .ok (.agg #[v0, v1]) (wR w x0 x1 v0 v1) := by
  have := Bk.new (w.alloc (.cells #[x0, x1] 67)) 67 #[v0, v1]
  refine load_R ?_
  simpa [wR] using this
theorem wR_below (w : World) (x0 x1 v0 v1 : Value) : Below w.heap.size w (wR w x0 x1 v0 v1) := (below_new w _).alloc (by simp) _
def numRR (s : ByteArray) (e : Int) : Ending := .returned (.tuple #[.agg #[.string (numO s e).2.1, .int .i64 (numO s e).2.2], .int .i64 (numO s e).1])
theorem rn_err (s : ByteArray) (e : Int) (w : World) (he : e ≠ 0) : Calls Try.prog 36 #[.agg #[.string s, .int .i64 e]] w fun r w' => r = numRR s e ∧ Below w.heap.size w w' := by
  unfold numRR
  rw [numO_err he]
  have e1 : (e == 0) = false := by simp [he]
  have HL := Lib.hid (wR_load w (.string s) (.int .i64 e) (.string s) (.int .i64 e))
  have HB := Lib.hid (wR_below w (.string s) (.int .i64 e) (.string s) (.int .i64 e))
  unfold wR at HL HB
  go_enter Try.func36, Try.ntmps36
  go_wp2
  (try simp only [Exit.inBlock, Exit.then])
  refine bodyPost_ret (res_cell rfl rfl rfl HL.out) rfl ?_
  exact ⟨rfl, HB.out⟩
theorem val_drop (l : List Nat) (k : Nat) (h : k < l.length) : val (l.drop k) = l.getD k 0 % 128 + 128 * val (l.drop (k + 1)) := by
  rw [List.drop_eq_getElem_cons h, val, List.getD_eq_getElem?_getD, List.getElem?_eq_getElem h]; rfl
theorem rn_ok (s : ByteArray) (w : World) (hs : s.size ≤ 1099511627776) : Calls Try.prog 36 #[.agg #[.string s, .int .i64 0]] w fun r w' => r = numRR s 0 ∧ Below w.heap.size w w' := by
  obtain ⟨R, hR⟩ : ∃ R, R = numRR s 0 := ⟨_, rfl⟩
  rw [← hR]
  have HR := Lib.hid hR
  have HF : Hid (∀ v0 v1, (loadVar 67 ⟨w.heap.size + 1, 0, none⟩).run Try.prog (wR w (.string s) (.int .i64 0) v0 v1) = .ok (.agg #[v0, v1]) (wR w (.string s) (.int .i64 0) v0 v1) ∧ Below w.heap.size w (wR w (.string s) (.int .i64 0) v0 v1)) := Lib.hid (fun v0 v1 => ⟨wR_load w _ _ _ _, wR_below w _ _ _ _⟩)
  unfold wR at HF
  clear hR
  go_enter Try.func36, Try.ntmps36
  go_wp2
  go_loopw [4] (fun i wr => ∃ k : Nat, i = .int .i64 k ∧ k ≤ s.size ∧ (∀ j, j < k → 128 ≤ (bys s).getD j 0) ∧ wr = (w.alloc (.cells #[.string s, .int .i64 0] 67)).alloc (.cells #[.string ⟨#[]⟩, .int .i64 0] 67)) (fun i _ => s.size - (intOf i).toNat)
  case atStart => exact ⟨0, rfl, by omega, fun j h => by omega, rfl⟩
  case round =>
    obtain ⟨k, rfl, hk, hall, rfl⟩ := hrel
    have HA := Lib.hid hall
    clear hall
    by_cases hlt : k < s.size
    · have hg := bys_get s k hlt
      have hse : ((k : Int) == (s.size : Int)) = false := by simp; omega
      by_cases hc : 128 ≤ (s[k]'hlt).toNat
      · have d1 : decide ((128 : Int) ≤ ((s[k]'hlt).toNat : Int)) = true := decide_eq_true (by omega)
        have HA2 : Hid (∀ j, j < k + 1 → 128 ≤ (bys s).getD j 0) := Lib.hid (fun j hj => by
          by_cases e : j = k
          · subst e; omega
          · exact HA.out j (by omega))
        clear hg
        go_wp2
        exact ⟨⟨k + 1, vint (by omega), by omega, HA2.out, trivial⟩, by simp [intOf]; omega⟩
      · have d1 : decide ((128 : Int) ≤ ((s[k]'hlt).toNat : Int)) = false := decide_eq_false (by omega)
        have hlow := low_at (l := bys s) (i := k) (by rw [bys_len]; exact hlt) (by omega) HA.out
        have hu : readV (bys s) = readI (bys s) k := by unfold readV; rw [hlow]
        unfold readI at hu
        by_cases h8 : 8 ≤ k
        · rw [if_pos h8] at hu
          have HRR := Lib.hid (HR.out.trans (show numRR s 0 = _ by unfold numRR; rw [numO_bad (by decide) hu]))
          have HFF := Lib.hid (HF.out (.string s) (.int .i64 2))
          have d8 : (7 : Int) < (k : Int) := by omega
          clear hg hu hlow
          go_wp2
          (try simp only [Exit.inBlock, Exit.then])
          refine bodyPost_ret (res_cell rfl rfl rfl HFF.out.1) rfl ?_
          exact ⟨HRR.out.symm, HFF.out.2⟩
        · rw [if_neg h8] at hu
          have d8 : ¬ (7 : Int) < (k : Int) := by omega
          by_cases hz : 0 < k ∧ (bys s).getD k 0 = 0
          · rw [if_pos hz] at hu
            have HRR := Lib.hid (HR.out.trans (show numRR s 0 = _ by unfold numRR; rw [numO_bad (by decide) hu]))
            have HFF := Lib.hid (HF.out (.string s) (.int .i64 5))
            have e1 : (0 : Int) < (k : Int) := by omega
            have e2 : (((s[k]'hlt).toNat : Int) == 0) = true := by simp; omega
            clear hg hu hlow
            go_wp2
            (try simp only [Exit.inBlock, Exit.then])
            refine bodyPost_ret (res_cell rfl rfl rfl HFF.out.1) rfl ?_
            exact ⟨HRR.out.symm, HFF.out.2⟩
          · rw [if_neg hz] at hu
            have HU := Lib.hid hu
            have hb : ¬ ((0 : Int) < (k : Int) ∧ (((s[k]'hlt).toNat : Int) == 0) = true) := by
              rintro ⟨h1, h2⟩
              simp only [beq_iff_eq] at h2
              exact hz ⟨by omega, by omega⟩
            have hbb : (((s[k]'hlt).toNat : Int) == 0) = false ∨ ((((s[k]'hlt).toNat : Int) == 0) = true ∧ ¬ (0 : Int) < (k : Int)) := by
              cases hq : (((s[k]'hlt).toNat : Int) == 0) with
              | false => exact .inl rfl
              | true => exact .inr ⟨rfl, fun h => hb ⟨h, hq⟩⟩
            clear hg hu hlow hb hz
            rcases hbb with e2 | ⟨e2, e3⟩
            · go_wp2
              have hlen : k + 1 ≤ (bys s).length := by rw [bys_len]; omega
              obtain ⟨L, hL⟩ : ∃ L, L = (bys s).take (k + 1) := ⟨_, rfl⟩
              have hLl : L.length = k + 1 := by rw [hL, List.length_take]; omega
              have HLG : Hid (∀ j, j ≤ k → L.getD j 0 = (bys s).getD j 0) := Lib.hid (fun j hj => by rw [hL]; simp only [List.getD_eq_getElem?_getD]; rw [List.getElem?_take, if_pos (by omega)])
              have HUL := Lib.hid hL
              have HLL := Lib.hid hLl
              clear hL hLl
              go_loopw [5, 6] (fun n c wr => ∃ m : Nat, c = .int .i64 ((m : Int) - 1) ∧ m ≤ k + 1 ∧ n = .int .i64 (val (L.drop m) : Nat) ∧ wr = (w.alloc (.cells #[.string s, .int .i64 0] 67)).alloc (.cells #[.string ⟨#[]⟩, .int .i64 0] 67)) (fun _ c _ => (intOf c + 1).toNat)
              case atStart => exact ⟨k + 1, vint (by omega), Nat.le_refl _, by rw [List.drop_of_length_le (by rw [HLL.out]; exact Nat.le_refl _)]; rfl, rfl⟩
              case round =>
                obtain ⟨m, rfl, hm, rfl, rfl⟩ := hrel
                cases m with
                | zero =>
                  rw [List.drop_zero]
                  have hu2 := HU.out
                  rw [← HUL.out] at hu2
                  obtain ⟨X, hX⟩ : ∃ X, X = val L := ⟨_, rfl⟩
                  rw [← hX] at hu2 ⊢
                  clear hX
                  by_cases hbig : 9007199254740992 < X
                  · rw [if_pos hbig] at hu2
                    have HRR := Lib.hid (HR.out.trans (show numRR s 0 = _ by unfold numRR; rw [numO_bad (by decide) hu2]))
                    have HFF := Lib.hid (HF.out (.string s) (.int .i64 2))
                    have d9 : (9007199254740992 : Int) < (X : Int) := by omega
                    clear hu2
                    go_wp2
                    (try simp only [Exit.inBlock, Exit.then])
                    refine bodyPost_ret (res_cell rfl rfl rfl HFF.out.1) rfl ?_
                    exact ⟨HRR.out.symm, HFF.out.2⟩
                  · rw [if_neg hbig] at hu2
                    have HRR := Lib.hid (HR.out.trans (show numRR s 0 = _ by unfold numRR; rw [numO_ok (k := k + 1) hu2]))
                    have HFF := Lib.hid (HF.out (.string (s.extract (k + 1) s.size)) (.int .i64 0))
                    have d9 : ¬ (9007199254740992 : Int) < (X : Int) := by omega
                    clear hu2
                    go_wp2
                    (try simp only [Exit.inBlock, Exit.then])
                    refine bodyPost_ret (res_cell rfl rfl rfl HFF.out.1) rfl ?_
                    exact ⟨HRR.out.symm, HFF.out.2⟩
                | succ m =>
                  have hms : m < s.size := by omega
                  have HV : Hid (val (L.drop m) = (s[m]'hms).toNat % 128 + 128 * val (L.drop (m + 1))) := Lib.hid (by rw [val_drop L m (by rw [HLL.out]; omega), HLG.out m (by omega), bys_get s m hms])
                  have hvl := val_lt (L.drop (m + 1))
                  rw [List.length_drop, HLL.out] at hvl
                  have hP : 128 ^ (k + 1 - (m + 1)) ≤ 128 ^ 7 := Nat.pow_le_pow_right (by omega) (by omega)
                  have hX2 : val (L.drop (m + 1)) ≤ 562949953421312 := by omega
                  obtain ⟨X, hX⟩ : ∃ X, X = val (L.drop (m + 1)) := ⟨_, rfl⟩
                  rw [← hX] at HV hX2 ⊢
                  have hi : ((m + 1 : Nat) : Int) - 1 = (m : Int) := by omega
                  rw [hi]
                  have hcm : Int.tmod ((s[m]'hms).toNat : Int) 128 = ((((s[m]'hms).toNat % 128 : Nat)) : Int) := by rw [Int.tmod_eq_emod_of_nonneg (by omega)]; rfl
                  clear hP hvl hX hi
                  go_wp2
                  exact ⟨⟨m, rfl, by omega, vint (by rw [HV.out]; omega), trivial⟩, by simp [intOf]⟩
            · go_wp2
              have hlen : k + 1 ≤ (bys s).length := by rw [bys_len]; omega
              obtain ⟨L, hL⟩ : ∃ L, L = (bys s).take (k + 1) := ⟨_, rfl⟩
              have hLl : L.length = k + 1 := by rw [hL, List.length_take]; omega
              have HLG : Hid (∀ j, j ≤ k → L.getD j 0 = (bys s).getD j 0) := Lib.hid (fun j hj => by rw [hL]; simp only [List.getD_eq_getElem?_getD]; rw [List.getElem?_take, if_pos (by omega)])
              have HUL := Lib.hid hL
              have HLL := Lib.hid hLl
              clear hL hLl
              go_loopw [5, 6] (fun n c wr => ∃ m : Nat, c = .int .i64 ((m : Int) - 1) ∧ m ≤ k + 1 ∧ n = .int .i64 (val (L.drop m) : Nat) ∧ wr = (w.alloc (.cells #[.string s, .int .i64 0] 67)).alloc (.cells #[.string ⟨#[]⟩, .int .i64 0] 67)) (fun _ c _ => (intOf c + 1).toNat)
              case atStart => exact ⟨k + 1, vint (by omega), Nat.le_refl _, by rw [List.drop_of_length_le (by rw [HLL.out]; exact Nat.le_refl _)]; rfl, rfl⟩
              case round =>
                obtain ⟨m, rfl, hm, rfl, rfl⟩ := hrel
                cases m with
                | zero =>
                  rw [List.drop_zero]
                  have hu2 := HU.out
                  rw [← HUL.out] at hu2
                  obtain ⟨X, hX⟩ : ∃ X, X = val L := ⟨_, rfl⟩
                  rw [← hX] at hu2 ⊢
                  clear hX
                  by_cases hbig : 9007199254740992 < X
                  · rw [if_pos hbig] at hu2
                    have HRR := Lib.hid (HR.out.trans (show numRR s 0 = _ by unfold numRR; rw [numO_bad (by decide) hu2]))
                    have HFF := Lib.hid (HF.out (.string s) (.int .i64 2))
                    have d9 : (9007199254740992 : Int) < (X : Int) := by omega
                    clear hu2
                    go_wp2
                    (try simp only [Exit.inBlock, Exit.then])
                    refine bodyPost_ret (res_cell rfl rfl rfl HFF.out.1) rfl ?_
                    exact ⟨HRR.out.symm, HFF.out.2⟩
                  · rw [if_neg hbig] at hu2
                    have HRR := Lib.hid (HR.out.trans (show numRR s 0 = _ by unfold numRR; rw [numO_ok (k := k + 1) hu2]))
                    have HFF := Lib.hid (HF.out (.string (s.extract (k + 1) s.size)) (.int .i64 0))
                    have d9 : ¬ (9007199254740992 : Int) < (X : Int) := by omega
                    clear hu2
                    go_wp2
                    (try simp only [Exit.inBlock, Exit.then])
                    refine bodyPost_ret (res_cell rfl rfl rfl HFF.out.1) rfl ?_
                    exact ⟨HRR.out.symm, HFF.out.2⟩
                | succ m =>
                  have hms : m < s.size := by omega
                  have HV : Hid (val (L.drop m) = (s[m]'hms).toNat % 128 + 128 * val (L.drop (m + 1))) := Lib.hid (by rw [val_drop L m (by rw [HLL.out]; omega), HLG.out m (by omega), bys_get s m hms])
                  have hvl := val_lt (L.drop (m + 1))
                  rw [List.length_drop, HLL.out] at hvl
                  have hP : 128 ^ (k + 1 - (m + 1)) ≤ 128 ^ 7 := Nat.pow_le_pow_right (by omega) (by omega)
                  have hX2 : val (L.drop (m + 1)) ≤ 562949953421312 := by omega
                  obtain ⟨X, hX⟩ : ∃ X, X = val (L.drop (m + 1)) := ⟨_, rfl⟩
                  rw [← hX] at HV hX2 ⊢
                  have hi : ((m + 1 : Nat) : Int) - 1 = (m : Int) := by omega
                  rw [hi]
                  have hcm : Int.tmod ((s[m]'hms).toNat : Int) 128 = ((((s[m]'hms).toNat % 128 : Nat)) : Int) := by rw [Int.tmod_eq_emod_of_nonneg (by omega)]; rfl
                  clear hP hvl hX hi
                  go_wp2
                  exact ⟨⟨m, rfl, by omega, vint (by rw [HV.out]; omega), trivial⟩, by simp [intOf]⟩
    · have d1 : ¬ ((k : Int) < (s.size : Int)) := by omega
      obtain rfl : k = s.size := by omega
      have hlow := low_none (l := bys s) (fun j hj => HA.out j (by rw [bys_len] at hj; omega))
      have hu : readV (bys s) = (0, 0, 4) := by unfold readV; rw [hlow]
      have HRR := Lib.hid (HR.out.trans (show numRR s 0 = _ by unfold numRR; rw [numO_bad (by decide) hu]))
      have HFF := Lib.hid (HF.out (.string s) (.int .i64 4))
      clear hu hlow
      go_wp2
      (try simp only [Exit.inBlock, Exit.then])
      refine bodyPost_ret (res_cell rfl rfl rfl HFF.out.1) rfl ?_
      exact ⟨HRR.out.symm, HFF.out.2⟩
end Go.Proofs.Ytanehgnpominiaa

