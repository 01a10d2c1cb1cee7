/-
  The contract of pack's Put.
-/
import Derived.Test.YtholjhblpfkbcaaPc
import Derived.Test.YtholjhblpfkbcaaShelf
set_option linter.unusedVariables false
set_option linter.unusedSimpArgs false
namespace Go.Proofs.Ytholjhblpfkbcaa
open Go.RowKit
theorem bld_kept {T e : TypeId} {B b : Nat} {bs : List Value} {w w' : World} (h : Lib.IsBuilder T e B b bs w) (hb : Below w.heap.size w w') : Lib.IsBuilder T e B b bs w' := by
  have key : ∀ p, Lib.BuilderAt T e B b p bs w → Lib.BuilderAt T e B b p bs w' := by
    rintro p ⟨hB, v, hh, ho, hn⟩
    refine ⟨hB, v, ?_, own_kept ho hb, hn⟩
    rw [hb.block b (Array.getElem?_eq_some_iff.1 hh).1]; exact hh
  rcases h with h | h
  · exact .inl (key _ h)
  · exact .inr (key _ h)
theorem strC_app (a b : ByteArray) : Lib.strCells a ++ Lib.strCells b = Lib.strCells (a ++ b) := by
  unfold Lib.strCells
  rw [ByteArray.data_append, Array.toList_append, List.map_append]
theorem cnt_get (c : Nat) : ∀ (l : List Nat) (i : Nat), i < cnt c l → l[i]? = some c
  | [], i, h => by simp [cnt] at h
  | d :: l, i, h => by
    unfold cnt at h
    split at h
    · rename_i hd
      cases i with
      | zero => simp [hd]
      | succ i => simp only [List.getElem?_cons_succ]; exact cnt_get c l i (by omega)
    · omega
theorem cnt_end (c : Nat) : ∀ (l : List Nat), l[cnt c l]? ≠ some c
  | [] => by simp
  | d :: l => by
    unfold cnt
    split
    · simp only [List.getElem?_cons_succ]; exact cnt_end c l
    · rename_i h; simpa using h
theorem bys_at (s : ByteArray) (k : Nat) (h : k < s.size) : (bys s)[k]? = some (s[k]'h).toNat := by
  have h1 := bys_get s k h
  rw [List.getD_eq_getElem?_getD, List.getElem?_eq_getElem (by rw [bys_len]; exact h)] at h1
  rw [List.getElem?_eq_getElem (by rw [bys_len]; exact h)]
  simpa using h1
theorem drop_one (s : ByteArray) (k : Nat) (h : k < s.size) : (bys s).drop k = (s[k]'h).toNat :: (bys s).drop (k + 1) := by
  rw [List.drop_eq_getElem_cons (by rw [bys_len]; exact h)]
  have h1 := bys_at s k h
  rw [List.getElem?_eq_getElem (by rw [bys_len]; exact h)] at h1
  injection h1 with h1
  rw [h1]
theorem run_at (s : ByteArray) (k m : Nat) (h : k < s.size) (hm : m = cnt (s[k]'h).toNat ((bys s).drop (k + 1))) : k + 1 + m ≤ s.size ∧ (∀ i (hi : i < s.size), k ≤ i → i < k + 1 + m → (s[i]'hi).toNat = (s[k]'h).toNat) ∧ (∀ (he : k + 1 + m < s.size), (s[k + 1 + m]'he).toNat ≠ (s[k]'h).toNat) := by
  have h1 := cnt_le (s[k]'h).toNat ((bys s).drop (k + 1))
  rw [← hm, List.length_drop, bys_len] at h1
  refine ⟨by omega, ?_, ?_⟩
  · intro i hi h2 h3
    by_cases hik : i = k
    · subst hik; rfl
    · have h4 := cnt_get (s[k]'h).toNat ((bys s).drop (k + 1)) (i - (k + 1)) (by omega)
      rw [List.getElem?_drop, show k + 1 + (i - (k + 1)) = i by omega, bys_at s i hi] at h4
      injection h4
  · intro he h5
    have h4 := cnt_end (s[k]'h).toNat ((bys s).drop (k + 1))
    rw [← hm, List.getElem?_drop, bys_at s _ he, h5] at h4
    exact h4 rfl
set_option maxHeartbeats 4000000 in
theorem put_any (s : ByteArray) (w : World) (hs : s.size ≤ 1099511627) : Calls Try.prog 5 #[.string s] w fun e w' => e = .returned (.string (txt (ptP s.size (bys s)))) ∧ Below w.heap.size w w' := by
  obtain ⟨R, hR⟩ : ∃ R, R = ptP s.size (bys s) := ⟨_, rfl⟩
  rw [← hR]
  have hRl : R.length ≤ 2 * s.size := by rw [hR]; have := ptP_len s.size (bys s); rw [bys_len] at this; exact this
  go_enter Try.func5, Try.ntmps5
  go_wp2
  refine wp_scope_jumps 0 (fun a' w' => ∃ (k f : Nat) (A : ByteArray) (u5 u6 u7 u8 u9 u10 u11 u12 u13 u14 u15 u16 u17 u18 u19 u20 u21 u22 u23 u24 u25 u26 u27 u28 u29 u30 u31 u32 u33 u34 u35 u36 u37 u38 u39 u40 u41 u42 u43 u44 : Value), a' = { tmps := #[.string s, undef, .string ⟨#[]⟩, .pointer (some ⟨w.heap.size, 0, none⟩), .int .i64 (k : Int), u5, u6, u7, u8, u9, u10, u11, u12, u13, u14, u15, u16, u17, u18, u19, u20, u21, u22, u23, u24, u25, u26, u27, u28, u29, u30, u31, u32, u33, u34, u35, u36, u37, u38, u39, u40, u41, u42, u43, u44], defers := [] } ∧ bys A ++ ptP f ((bys s).drop k) = R ∧ k ≤ s.size ∧ s.size ≤ k + f ∧ Lib.IsBuilder 31 5 w.heap.size w.heap.size (Lib.strCells A) w' ∧ Below w.heap.size w w') (fun a' _ => s.size - (intOf (a'.tmps.getD 4 undef)).toNat) rfl ?_ ?_
  · obtain ⟨A, hA⟩ : ∃ A : ByteArray, A = ⟨#[]⟩ := ⟨_, rfl⟩
    obtain ⟨f, hf⟩ : ∃ f, f = s.size := ⟨_, rfl⟩
    have HK : Hid (bys A ++ ptP f ((bys s).drop 0) = R) := Lib.hid (by rw [hR, hA, hf]; rfl)
    have HBD : Hid (Lib.IsBuilder 31 5 w.heap.size w.heap.size (Lib.strCells A) (w.alloc (.cells #[.pointer none, .slice none 0 0] 31))) := Lib.hid (by
      rw [hA]
      refine .inl ⟨Nat.le_refl _, .slice none 0 0, (by first | (exact Array.getElem?_push_size) | (show (w.heap.push _)[w.heap.size]? = _; simp)), own_nil _ _ _ _, by intro h; cases h⟩)
    have HB : Hid (Below w.heap.size w (w.alloc (.cells #[.pointer none, .slice none 0 0] 31))) := Lib.hid (below_new _ _)
    have hkf : s.size ≤ 0 + f := by omega
    have hA0 : A.size = 0 := by rw [hA]; rfl
    clear hR hA hf
    go_wp2
    go_step3
    by_cases hlt : 0 < s.size
    · obtain ⟨f, rfl⟩ : ∃ j, f = j + 1 := ⟨f - 1, by omega⟩
      obtain ⟨m, hm⟩ : ∃ m, m = cnt (s[0]'hlt).toNat ((bys s).drop (0 + 1)) := ⟨_, rfl⟩
      have hra := run_at s 0 m hlt hm
      have hdr := drop_one s 0 hlt
      have hx := (s[0]'hlt).toNat_lt
      obtain ⟨c, hc⟩ : ∃ c, c = (s[0]'hlt).toNat := ⟨_, rfl⟩
      have g0 : ((s[0]'hlt).toNat : Int) = (c : Int) := by rw [hc]
      rw [← hc] at hm hra hdr
      have hkn : bys A ++ (nb (m + 1) ++ c :: ptP f ((bys s).drop (0 + 1 + m))) = R := by
        rw [← HK.out, hdr, ptP, ← hm, List.drop_drop]
      have HKN := Lib.hid hkn
      have hex : bys (s.extract 0 (0 + 1)) = [c] := by
        rw [bys_extract, List.take_succ_eq_append_getElem (by rw [bys_len]; exact hlt), List.drop_append, List.drop_eq_nil_of_le (by rw [List.length_take]; omega)]
        have h1 := bys_at s 0 hlt
        rw [List.getElem?_eq_getElem (by rw [bys_len]; exact hlt), ← hc] at h1
        injection h1 with h1
        rw [h1]
        simp [List.length_take, bys_len, Nat.min_eq_left (Nat.le_of_lt hlt)]
      have HEX := Lib.hid hex
      have hAl : A.size ≤ 2 * s.size := by
        have h1 := congrArg List.length HK.out
        rw [List.length_append, bys_len] at h1; omega
      obtain ⟨E, hE⟩ : ∃ E, E = 0 + 1 + m := ⟨_, rfl⟩
      rw [← hE] at hra HKN
      have HRA := Lib.hid hra
      have hEs : E ≤ s.size := hra.1
      have hEk : 0 + 1 ≤ E := by omega
      obtain ⟨M, hM⟩ : ∃ M, M = m + 1 := ⟨_, rfl⟩
      rw [← hM] at HKN
      have hEM : (E : Int) - (0 : Int) = (M : Int) := by omega
      have hMl : M ≤ 9007199254740992 := by omega
      have hM1 : M ≤ s.size := by omega
      have T : Hid (∀ w, Calls Try.prog 7 #[.int .i64 M] w fun e w' => e = .returned (.tuple #[.string (txt (nb M)), .int .i64 0]) ∧ Below w.heap.size w w') := Lib.hid (fun w => by
        have h := num_nat M w hMl
        unfold numR at h; rw [numV_ok hMl] at h; exact h)
      obtain ⟨H, hH⟩ : ∃ H, H = txt (nb M) := ⟨_, rfl⟩
      have HHb : Hid (bys H = nb M) := Lib.hid (by rw [hH]; exact bys_txt (nb_byte M))
      have hHz : H.size ≤ 8 := by rw [hH, txt_size]; exact nb_len8 hMl
      rw [← hH] at T
      have d1 : (0 : Int) < (s.size : Int) := by omega
      have d2 : (0 : Int) ≤ (0 : Int) := by omega
      clear hm hra hdr hc hkn hex hE hM hH
      go_wp2
      go_loopw [5] (fun i wx => ∃ j q : Nat, i = .int .i64 j ∧ 0 ≤ j ∧ j ≤ E ∧ wx = (w.alloc (.cells #[.pointer none, .slice none 0 0] 31)).drewN q) (fun i _ => s.size - (intOf i).toNat)
      case atStart => exact ⟨0, 0, rfl, Nat.le_refl _, by omega, rfl⟩
      case round =>
        obtain ⟨j, q, rfl, hkj, hjE, rfl⟩ := hrel
        by_cases hjl : j < E
        · have hjs : j < s.size := by omega
          have g1 : ((s[j]'hjs).toNat : Int) = (c : Int) := by rw [HRA.out.2.1 j hjs hkj hjl]
          have d3 : (0 : Int) ≤ (j : Int) := by omega
          have d4 : (j : Int) < (s.size : Int) := by omega
          go_wp2
          go_quiet (fail)
          go_wp2
          go_roundw
          case rel => exact ⟨j + 1, _, vint (by omega), by omega, by omega, rfl⟩
          case measure => simp [intOf]; omega
        · obtain rfl : j = E := by omega
          by_cases hes : j < s.size
          · obtain ⟨y, hy⟩ : ∃ y, y = (s[j]'hes).toNat := ⟨_, rfl⟩
            have g1 : ((s[j]'hes).toNat : Int) = (y : Int) := by rw [hy]
            have hyc : y ≠ c := by rw [hy]; exact HRA.out.2.2 hes
            have b1 : ((y : Int) == (c : Int)) = false := by simp only [beq_eq_false_iff_ne, ne_eq, Int.natCast_inj]; exact hyc
            have d3 : (0 : Int) ≤ (j : Int) := by omega
            have d4 : (j : Int) < (s.size : Int) := by omega
            clear hy hyc
            go_wp2
            go_quiet (fail)
            go_wp2_with fail
            refine (T.out _).mono ?_
            rintro e w1 ⟨rfl, hb1⟩
            have HBD1 := Lib.hid (bld_kept (bld_kept HBD.out (below_drewN (Below.refl _ _) (q + nq))) hb1)
            have HB1 := Lib.hid (below_step (below_drewN HB.out (q + nq)) (by simp) hb1)
            clear hb1
            go_wp2_with fail
            refine (Try.Builder_WriteString _ _ _ (H ++ s.extract 0 (0 + 1)) _ HBD1.out (by rw [Lib.strCells_length, ByteArray.size_append, ByteArray.size_extract]; omega) HB1.out.size).mono ?_
            rintro e w2 ⟨rfl, hbd2, hb2⟩
            have HBD2 := Lib.hid hbd2
            have HB2 := Lib.hid (HB1.out.trans hb2)
            clear hbd2 hb2
            go_wp2
            go_step3
            refine (show 0 = 0 ∧ _ from ⟨rfl, ⟨j, f, A ++ (H ++ s.extract 0 (0 + 1)), _, _, _, _, _, _, _, _, _, _, _, _, _, _, _, _, _, _, _, _, _, _, _, _, _, _, _, _, _, _, _, _, _, _, _, _, _, _, _, _, rfl, ?_, hEs, by omega, ?_, HB2.out⟩⟩)
            · rw [bys_app, bys_app, HHb.out, HEX.out, ← HKN.out]; simp
            · rw [← strC_app]; exact .inr HBD2.out
          · have d4 : ¬ (j : Int) < (s.size : Int) := by omega
            go_wp2
            go_quiet (fail)
            go_wp2_with fail
            refine (T.out _).mono ?_
            rintro e w1 ⟨rfl, hb1⟩
            have HBD1 := Lib.hid (bld_kept (bld_kept HBD.out (below_drewN (Below.refl _ _) (q + nq))) hb1)
            have HB1 := Lib.hid (below_step (below_drewN HB.out (q + nq)) (by simp) hb1)
            clear hb1
            go_wp2_with fail
            refine (Try.Builder_WriteString _ _ _ (H ++ s.extract 0 (0 + 1)) _ HBD1.out (by rw [Lib.strCells_length, ByteArray.size_append, ByteArray.size_extract]; omega) HB1.out.size).mono ?_
            rintro e w2 ⟨rfl, hbd2, hb2⟩
            have HBD2 := Lib.hid hbd2
            have HB2 := Lib.hid (HB1.out.trans hb2)
            clear hbd2 hb2
            go_wp2
            go_step3
            refine (show 0 = 0 ∧ _ from ⟨rfl, ⟨j, f, A ++ (H ++ s.extract 0 (0 + 1)), _, _, _, _, _, _, _, _, _, _, _, _, _, _, _, _, _, _, _, _, _, _, _, _, _, _, _, _, _, _, _, _, _, _, _, _, _, _, _, _, rfl, ?_, hEs, by omega, ?_, HB2.out⟩⟩)
            · rw [bys_app, bys_app, HHb.out, HEX.out, ← HKN.out]; simp
            · rw [← strC_app]; exact .inr HBD2.out
    · have d1 : ¬ (0 : Int) < (s.size : Int) := by omega
      have HRA : Hid (A = txt R) := Lib.hid (by
        rw [← HK.out, List.drop_eq_nil_of_le (by rw [bys_len]; omega), ptP_nil, List.append_nil, txt_bys])
      go_wp2_with fail
      refine (Try.Builder_String_any _ _ A.data.toList _ HBD.out HB.out.size).mono ?_
      rintro e w1 ⟨rfl, hb1⟩
      have HB1 := Lib.hid (HB.out.trans hb1)
      clear hb1
      go_wp2
      (try simp only [Exit.jump])
      (try rw [Exit.noGoto_ret])
      go_ret
      exact ⟨by rw [← HRA.out]; rfl, HB1.out⟩
  · rintro a' w' ⟨k, f, A, u5, u6, u7, u8, u9, u10, u11, u12, u13, u14, u15, u16, u17, u18, u19, u20, u21, u22, u23, u24, u25, u26, u27, u28, u29, u30, u31, u32, u33, u34, u35, u36, u37, u38, u39, u40, u41, u42, u43, u44, rfl, hk, hks, hkf, hbd, hb⟩
    have HK := Lib.hid hk
    have HBD := Lib.hid hbd
    have HB := Lib.hid hb
    clear hR hk hbd hb
    by_cases hlt : k < s.size
    · obtain ⟨f, rfl⟩ : ∃ j, f = j + 1 := ⟨f - 1, by omega⟩
      obtain ⟨m, hm⟩ : ∃ m, m = cnt (s[k]'hlt).toNat ((bys s).drop (k + 1)) := ⟨_, rfl⟩
      have hra := run_at s k m hlt hm
      have hdr := drop_one s k hlt
      have hx := (s[k]'hlt).toNat_lt
      obtain ⟨c, hc⟩ : ∃ c, c = (s[k]'hlt).toNat := ⟨_, rfl⟩
      have g0 : ((s[k]'hlt).toNat : Int) = (c : Int) := by rw [hc]
      rw [← hc] at hm hra hdr
      have hkn : bys A ++ (nb (m + 1) ++ c :: ptP f ((bys s).drop (k + 1 + m))) = R := by
        rw [← HK.out, hdr, ptP, ← hm, List.drop_drop]
      have HKN := Lib.hid hkn
      have hex : bys (s.extract k (k + 1)) = [c] := by
        rw [bys_extract, List.take_succ_eq_append_getElem (by rw [bys_len]; exact hlt), List.drop_append, List.drop_eq_nil_of_le (by rw [List.length_take]; omega)]
        have h1 := bys_at s k hlt
        rw [List.getElem?_eq_getElem (by rw [bys_len]; exact hlt), ← hc] at h1
        injection h1 with h1
        rw [h1]
        simp [List.length_take, bys_len, Nat.min_eq_left (Nat.le_of_lt hlt)]
      have HEX := Lib.hid hex
      have hAl : A.size ≤ 2 * s.size := by
        have h1 := congrArg List.length HK.out
        rw [List.length_append, bys_len] at h1; omega
      obtain ⟨E, hE⟩ : ∃ E, E = k + 1 + m := ⟨_, rfl⟩
      rw [← hE] at hra HKN
      have HRA := Lib.hid hra
      have hEs : E ≤ s.size := hra.1
      have hEk : k + 1 ≤ E := by omega
      obtain ⟨M, hM⟩ : ∃ M, M = m + 1 := ⟨_, rfl⟩
      rw [← hM] at HKN
      have hEM : (E : Int) - (k : Int) = (M : Int) := by omega
      have hMl : M ≤ 9007199254740992 := by omega
      have hM1 : M ≤ s.size := by omega
      have T : Hid (∀ w, Calls Try.prog 7 #[.int .i64 M] w fun e w' => e = .returned (.tuple #[.string (txt (nb M)), .int .i64 0]) ∧ Below w.heap.size w w') := Lib.hid (fun w => by
        have h := num_nat M w hMl
        unfold numR at h; rw [numV_ok hMl] at h; exact h)
      obtain ⟨H, hH⟩ : ∃ H, H = txt (nb M) := ⟨_, rfl⟩
      have HHb : Hid (bys H = nb M) := Lib.hid (by rw [hH]; exact bys_txt (nb_byte M))
      have hHz : H.size ≤ 8 := by rw [hH, txt_size]; exact nb_len8 hMl
      rw [← hH] at T
      have d1 : (k : Int) < (s.size : Int) := by omega
      have d2 : (0 : Int) ≤ (k : Int) := by omega
      clear hm hra hdr hc hkn hex hE hM hH
      go_wp2
      go_loopw [5] (fun i wx => ∃ j q : Nat, i = .int .i64 j ∧ k ≤ j ∧ j ≤ E ∧ wx = (w').drewN q) (fun i _ => s.size - (intOf i).toNat)
      case atStart => exact ⟨k, 0, rfl, Nat.le_refl _, by omega, rfl⟩
      case round =>
        obtain ⟨j, q, rfl, hkj, hjE, rfl⟩ := hrel
        by_cases hjl : j < E
        · have hjs : j < s.size := by omega
          have g1 : ((s[j]'hjs).toNat : Int) = (c : Int) := by rw [HRA.out.2.1 j hjs hkj hjl]
          have d3 : (0 : Int) ≤ (j : Int) := by omega
          have d4 : (j : Int) < (s.size : Int) := by omega
          go_wp2
          go_quiet (fail)
          go_wp2
          go_roundw
          case rel => exact ⟨j + 1, _, vint (by omega), by omega, by omega, rfl⟩
          case measure => simp [intOf]; omega
        · obtain rfl : j = E := by omega
          by_cases hes : j < s.size
          · obtain ⟨y, hy⟩ : ∃ y, y = (s[j]'hes).toNat := ⟨_, rfl⟩
            have g1 : ((s[j]'hes).toNat : Int) = (y : Int) := by rw [hy]
            have hyc : y ≠ c := by rw [hy]; exact HRA.out.2.2 hes
            have b1 : ((y : Int) == (c : Int)) = false := by simp only [beq_eq_false_iff_ne, ne_eq, Int.natCast_inj]; exact hyc
            have d3 : (0 : Int) ≤ (j : Int) := by omega
            have d4 : (j : Int) < (s.size : Int) := by omega
            clear hy hyc
            go_wp2
            go_quiet (fail)
            go_wp2_with fail
            refine (T.out _).mono ?_
            rintro e w1 ⟨rfl, hb1⟩
            have HBD1 := Lib.hid (bld_kept (bld_kept HBD.out (below_drewN (Below.refl _ _) (q + nq))) hb1)
            have HB1 := Lib.hid (below_step (below_drewN HB.out (q + nq)) (by simp) hb1)
            clear hb1
            go_wp2_with fail
            refine (Try.Builder_WriteString _ _ _ (H ++ s.extract k (k + 1)) _ HBD1.out (by rw [Lib.strCells_length, ByteArray.size_append, ByteArray.size_extract]; omega) HB1.out.size).mono ?_
            rintro e w2 ⟨rfl, hbd2, hb2⟩
            have HBD2 := Lib.hid hbd2
            have HB2 := Lib.hid (HB1.out.trans hb2)
            clear hbd2 hb2
            go_wp2
            go_step3
            refine (show 0 = 0 ∧ _ from ⟨rfl, ⟨j, f, A ++ (H ++ s.extract k (k + 1)), _, _, _, _, _, _, _, _, _, _, _, _, _, _, _, _, _, _, _, _, _, _, _, _, _, _, _, _, _, _, _, _, _, _, _, _, _, _, _, _, rfl, ?_, hEs, by omega, ?_, HB2.out⟩, ?_⟩)
            · rw [bys_app, bys_app, HHb.out, HEX.out, ← HKN.out]; simp
            · rw [← strC_app]; exact .inr HBD2.out
            · simp [intOf]; omega
          · have d4 : ¬ (j : Int) < (s.size : Int) := by omega
            go_wp2
            go_quiet (fail)
            go_wp2_with fail
            refine (T.out _).mono ?_
            rintro e w1 ⟨rfl, hb1⟩
            have HBD1 := Lib.hid (bld_kept (bld_kept HBD.out (below_drewN (Below.refl _ _) (q + nq))) hb1)
            have HB1 := Lib.hid (below_step (below_drewN HB.out (q + nq)) (by simp) hb1)
            clear hb1
            go_wp2_with fail
            refine (Try.Builder_WriteString _ _ _ (H ++ s.extract k (k + 1)) _ HBD1.out (by rw [Lib.strCells_length, ByteArray.size_append, ByteArray.size_extract]; omega) HB1.out.size).mono ?_
            rintro e w2 ⟨rfl, hbd2, hb2⟩
            have HBD2 := Lib.hid hbd2
            have HB2 := Lib.hid (HB1.out.trans hb2)
            clear hbd2 hb2
            go_wp2
            go_step3
            refine (show 0 = 0 ∧ _ from ⟨rfl, ⟨j, f, A ++ (H ++ s.extract k (k + 1)), _, _, _, _, _, _, _, _, _, _, _, _, _, _, _, _, _, _, _, _, _, _, _, _, _, _, _, _, _, _, _, _, _, _, _, _, _, _, _, _, rfl, ?_, hEs, by omega, ?_, HB2.out⟩, ?_⟩)
            · rw [bys_app, bys_app, HHb.out, HEX.out, ← HKN.out]; simp
            · rw [← strC_app]; exact .inr HBD2.out
            · simp [intOf]; omega
    · have d1 : ¬ (k : Int) < (s.size : Int) := by omega
      have HRA : Hid (A = txt R) := Lib.hid (by
        rw [← HK.out, List.drop_eq_nil_of_le (by rw [bys_len]; omega), ptP_nil, List.append_nil, txt_bys])
      go_wp2_with fail
      refine (Try.Builder_String_any _ _ A.data.toList _ HBD.out HB.out.size).mono ?_
      rintro e w1 ⟨rfl, hb1⟩
      have HB1 := Lib.hid (HB.out.trans hb1)
      clear hb1
      go_wp2
      (try simp only [Exit.jump])
      (try rw [Exit.noGoto_ret])
      go_ret
      exact ⟨by rw [← HRA.out]; rfl, HB1.out⟩
end Go.Proofs.Ytholjhblpfkbcaa

