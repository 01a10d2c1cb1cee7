/-
  The contract of Read.
-/
import Derived.Test.YtommogkckooekaaA6
set_option linter.unusedVariables false
set_option linter.unusedSimpArgs false
namespace Go.Proofs.Ytommogkckooekaa
open Go.RowKit
/-- What is read behind so many numbers: the vector so far, what is left, and the error. -/
def stK (s : ByteArray) : Nat → List Int × ByteArray × Int
  | 0 => (noughts 16, s, 0)
  | k + 1 => ((stK s k).1.set k (numO (stK s k).2.1 (stK s k).2.2).1, (numO (stK s k).2.1 (stK s k).2.2).2.1, (numO (stK s k).2.1 (stK s k).2.2).2.2)
theorem stK_len (s : ByteArray) : ∀ k, (stK s k).1.length = 16
  | 0 => rfl
  | k + 1 => by rw [stK]; simp only [List.length_set]; exact stK_len s k
theorem numO_size (s : ByteArray) (e : Int) : (numO s e).2.1.size ≤ s.size := by
  unfold numO
  split
  · split
    · simp only [ByteArray.size_extract]; omega
    · exact Nat.le_refl _
  · exact Nat.le_refl _
theorem stK_size (s : ByteArray) : ∀ k, (stK s k).2.1.size ≤ s.size
  | 0 => Nat.le_refl _
  | k + 1 => by
    have h1 := stK_size s k
    have h2 := numO_size (stK s k).2.1 (stK s k).2.2
    rw [stK]; simp only; omega
def rdE (s : ByteArray) : Int := if doneV (stK s 16).2.1 (stK s 16).2.2 = 0 then chkV (stK s 16).1 else doneV (stK s 16).2.1 (stK s 16).2.2
def rdV (s : ByteArray) : List Int := if rdE s = 0 then (stK s 16).1 else noughts 16
theorem rdV_len (s : ByteArray) : (rdV s).length = 16 := by
  unfold rdV; split
  · exact stK_len s 16
  · rfl
def rdR (s : ByteArray) : Ending := .returned (.tuple #[.agg (ints (rdV s)).toArray, .int .i64 (rdE s)])
theorem rdR_ok {s : ByteArray} (h : rdE s = 0) : rdR s = .returned (.tuple #[.agg (ints (stK s 16).1).toArray, .int .i64 0]) := by unfold rdR rdV; rw [if_pos h, h]
theorem rdR_bad {s : ByteArray} {e : Int} (h : rdE s = e) (he : e ≠ 0) : rdR s = .returned (.tuple #[.agg (ints (noughts 16)).toArray, .int .i64 e]) := by unfold rdR rdV; rw [if_neg (by omega), h]
set_option maxHeartbeats 16000000 in
theorem read_any (s : ByteArray) (w : World) (hs : s.size ≤ 1099511627776) : Calls Try.prog 19 #[.string s] w fun e w' => e = rdR s ∧ Below w.heap.size w w' := by
  have hzv := zero_vec
  have r1 : Bk w.heap.size (ints (noughts 16)) (w.alloc (.cells (ints (noughts 16)).toArray 23)) := Bk.new w 23 (ints (noughts 16)).toArray
  have r3 := below_new w (.cells (ints (noughts 16)).toArray 23)
  have HR1 := Lib.hid r1; have HR3 := Lib.hid r3
  have HSZ := Lib.hid (stK_size s)
  have HNW : Hid (∀ W : World, Bk W.heap.size (ints (noughts 16)) (W.alloc (.cells (ints (noughts 16)).toArray 23))) := Lib.hid (fun W => Bk.new W 23 (ints (noughts 16)).toArray)
  obtain ⟨R, hR⟩ : ∃ R, R = rdR s := ⟨_, rfl⟩
  rw [← hR]
  have HR := Lib.hid hR
  obtain ⟨Z, hZ⟩ : ∃ Z, Z = (ints (noughts 16)).toArray := ⟨_, rfl⟩
  have HZE := Lib.hid hZ
  rw [← hZ] at hzv HR1 HR3 HNW
  obtain ⟨N, hN⟩ : ∃ N, N = ints (noughts 16) := ⟨_, rfl⟩
  have HNE := Lib.hid hN
  have HNL : Hid (N.length = 16) := Lib.hid (by rw [hN, ints_len]; rfl)
  rw [← hN] at HR1
  clear hR hZ hN r1 r3
  go_enter Try.func19, Try.ntmps19
  go_wp2_with fail
  refine (new_any s _).mono ?_
  rintro e w2 ⟨rfl, hrd, hb⟩
  obtain ⟨W1, hW1⟩ : ∃ W1, W1 = w.alloc (.cells Z 23) := ⟨_, rfl⟩
  rw [← hW1] at hrd hb HR1 HR3
  have hsz1 : W1.heap.size = w.heap.size + 1 := by rw [hW1]; simp
  have HRD2 := Lib.hid hrd; have HB2 := Lib.hid (below_step HR3.out (Nat.le_refl _) hb); have HN2 := Lib.hid (HR1.out.keep hb)
  rw [hsz1] at HRD2
  have hsz2 : w.heap.size + 1 < w2.heap.size := by have := hrd.1; omega
  clear hrd hb hW1 hsz1
  go_wp2
  have hrd3 := HRD2.out.keep (below_new w2 (.cells Z 23))
  have hn3 := HN2.out.keep (below_new w2 (.cells Z 23))
  have hv3 := HNW.out w2
  have hb3 := below_step HB2.out (Nat.le_refl _) (below_new w2 (.cells Z 23))
  obtain ⟨q, hq⟩ : ∃ q, q = w2.heap.size := ⟨_, rfl⟩
  obtain ⟨W3, hW3⟩ : ∃ W3, W3 = w2.alloc (.cells Z 23) := ⟨_, rfl⟩
  rw [← hq] at hv3 hsz2
  rw [← hW3] at hrd3 hn3 hv3 hb3
  have HRD3 : Hid (Rd (w.heap.size + 1) s 0 W3) := Lib.hid hrd3
  have HN3 := Lib.hid hn3; have HV3 := Lib.hid hv3; have HB3 := Lib.hid hb3
  have HQL := Lib.hid hsz2
  rw [← hq, ← hW3]
  clear hrd3 hn3 hv3 hb3 hq hW3
  go_loopw [10] (fun i wr => ∃ k : Nat, i = .int .i64 k ∧ k ≤ 16 ∧ Bk q (ints (stK s k).1) wr ∧ Rd (w.heap.size + 1) (stK s k).2.1 (stK s k).2.2 wr ∧ Bk w.heap.size N wr ∧ Below w.heap.size w wr) (fun i _ => 16 - (intOf i).toNat)
  case atStart => exact ⟨0, rfl, by omega, HV3.out, HRD3.out, HN3.out, HB3.out⟩
  case round =>
    clear HV3 HRD3 HN3 HB3
    obtain ⟨k, rfl, hk, hv, hrd, hn, hbw⟩ := hrel
    have HVK := Lib.hid hv; have HRK := Lib.hid hrd; have HNK := Lib.hid hn; have HBW := Lib.hid hbw
    have hsz := HSZ.out k
    have HVN := Lib.hid (stK_len s k)
    clear hv hrd hn hbw
    by_cases hkt : k < 16
    · have d1 : (k : Int) < 16 := by omega
      have d2 : (0 : Int) ≤ (k : Int) := by omega
      have HS1 : Hid ((stK s (k + 1)).1 = (stK s k).1.set k (numO (stK s k).2.1 (stK s k).2.2).1) := Lib.hid rfl
      have HS2 : Hid ((stK s (k + 1)).2.1 = (numO (stK s k).2.1 (stK s k).2.2).2.1) := Lib.hid rfl
      have HS3 : Hid ((stK s (k + 1)).2.2 = (numO (stK s k).2.1 (stK s k).2.2).2.2) := Lib.hid rfl
      have T := Lib.hid (rd_num (w.heap.size + 1) (stK s k).2.1 (stK s k).2.2 wr (by omega) HRK.out)
      obtain ⟨V, hV⟩ : ∃ V, V = (stK s k).1 := ⟨_, rfl⟩
      obtain ⟨n, hn⟩ : ∃ n, n = (numO (stK s k).2.1 (stK s k).2.2).1 := ⟨_, rfl⟩
      obtain ⟨r', hr'⟩ : ∃ r', r' = (numO (stK s k).2.1 (stK s k).2.2).2.1 := ⟨_, rfl⟩
      obtain ⟨e', he'⟩ : ∃ e', e' = (numO (stK s k).2.1 (stK s k).2.2).2.2 := ⟨_, rfl⟩
      rw [← hV] at HVK HVN HS1
      rw [← hn] at T HS1
      rw [← hr'] at T HS2
      rw [← he'] at T HS3
      clear hV hn hr' he'
      go_wp2_with fail
      refine T.out.mono ?_
      rintro e w4 ⟨rfl, hrd4, hk4⟩
      have HRD4 := Lib.hid hrd4
      have HV4 := Lib.hid (HVK.out.kp hk4 (fun e => by have := HQL.out; omega))
      have HN4 := Lib.hid (HNK.out.kp hk4 (fun e => by omega))
      have HB4 := Lib.hid (HBW.out.trans (hk4.below (B := w.heap.size) HBW.out.size (fun j hj => by omega)))
      have cv := (HV4.out.2 k _ (ints_get V k (by rw [HVN.out]; exact hkt))).1
      have fv := (HV4.out.2 k _ (ints_get V k (by rw [HVN.out]; exact hkt))).2
      clear hrd4 hk4
      go_wp2
      go_roundw
      case rel =>
        refine ⟨k + 1, by go_num, by omega, ?_, ?_, HN4.out.other (q := ⟨q, k, none⟩) (by have := HQL.out; simp; omega) _, HB4.out.setCell (p := ⟨q, k, none⟩) (by have := HQL.out; simp; omega) _⟩
        · rw [HS1.out, ← ints_set]
          exact HV4.out.set k (by rw [ints_len, HVN.out]; exact hkt) _
        · rw [HS2.out, HS3.out]
          exact Bk.other (q := ⟨q, k, none⟩) HRD4.out (by have := HQL.out; simp; omega) _
      case measure => simp [intOf]; omega
    · obtain rfl : k = 16 := by omega
      have HRE : Hid (rdE s = if doneV (stK s 16).2.1 (stK s 16).2.2 = 0 then chkV (stK s 16).1 else doneV (stK s 16).2.1 (stK s 16).2.2) := Lib.hid rfl
      have HRO : Hid (rdE s = 0 → R = .returned (.tuple #[.agg (ints (stK s 16).1).toArray, .int .i64 0])) := Lib.hid (fun h => by rw [HR.out]; exact rdR_ok h)
      have TD := Lib.hid (done_any (w.heap.size + 1) (stK s 16).2.1 (stK s 16).2.2 wr HRK.out)
      obtain ⟨V, hV⟩ : ∃ V, V = (stK s 16).1 := ⟨_, rfl⟩
      obtain ⟨D, hD⟩ : ∃ D, D = doneV (stK s 16).2.1 (stK s 16).2.2 := ⟨_, rfl⟩
      rw [← hV] at HVK HVN HRE HRO
      rw [← hD] at TD HRE
      clear hV hD
      have HLD := Lib.hid (vec_load HVK.out HVN.out)
      have TC := Lib.hid (fun w => check_any V w HVN.out)
      obtain ⟨A, hA⟩ : ∃ A, A = (ints V).toArray := ⟨_, rfl⟩
      rw [← hA] at HLD TC HRO
      have HAE := Lib.hid hA
      clear hA
      by_cases hd : D = 0
      · have bd : (D == 0) = true := by simp; exact hd
        rcases chk_two V with hc | hc
        · have HE : Hid (rdE s = 0) := Lib.hid (by rw [HRE.out, if_pos hd, hc])
          rw [hc] at TC
          clear hc hd
          go_wp2_with fail
          refine TD.out.mono ?_
          rintro e w4 ⟨rfl, hx⟩
          obtain rfl : wr = w4 := hx.symm
          clear hx
          go_wp2_with (refine Go.Proofs.Ytommogkckooekaa.wpList_load_run (by rfl) 23 _ (by rfl) (by rfl) HLD.out ?_)
          refine (TC.out _).mono ?_
          rintro e w5 ⟨rfl, hb5⟩
          have HB5 := Lib.hid (below_step HBW.out (Nat.le_refl _) hb5); have HV5 := Lib.hid (HVK.out.keep hb5); have HN5 := Lib.hid (HNK.out.keep hb5)
          have HLD5 : Hid ((Instr.loadAt 23 (.pointer (some ⟨q, 0, none⟩))).run Try.prog w5 = .ok (.agg A) w5) := Lib.hid (by rw [HAE.out]; exact vec_load HV5.out HVN.out)
          have HST : Hid ((Instr.storeAt 23 (.pointer (some ⟨w.heap.size, 0, none⟩)) (.agg A)).run Try.prog w5 = .ok () (w5.setCells w.heap.size 0 (ints V))) := Lib.hid (by rw [HAE.out]; exact run_store_bk (P := Try.prog) (ty := 23) HN5.out (vs := ints V) (by rw [ints_len, HVN.out, HNL.out]) (by rw [ints_len, HVN.out]; kernel_rfl) (ints_one _))
          have HRES : Hid ((loadVar 23 ⟨w.heap.size, 0, none⟩).run Try.prog (w5.setCells w.heap.size 0 (ints V)) = .ok (.agg A) (w5.setCells w.heap.size 0 (ints V))) := Lib.hid (by rw [HAE.out]; exact vec_var (HN5.out.put (by rw [ints_len, HVN.out, HNL.out])) HVN.out)
          have HBF : Hid (Below w.heap.size w (w5.setCells w.heap.size 0 (ints V))) := Lib.hid (HB5.out.trans ((Kp.setCells (Kp.refl (fun j => j = w.heap.size) w5) _ rfl (ints V) 0).below (B := w.heap.size) HB5.out.size (fun j hj => by omega)))
          have HRF := Lib.hid (HRO.out HE.out)
          clear hb5
          go_wp2_with (first | (refine Go.Proofs.Ytommogkckooekaa.wpList_load_run (by rfl) 23 _ (by rfl) (by rfl) HLD5.out ?_) | (refine Go.Proofs.Ytommogkckooekaa.wpList_store_run (by rfl) 23 _ _ (by rfl) (by rfl) (by rfl) HST.out ?_))
          (try simp only [Exit.inBlock, Exit.then])
          refine bodyPost_ret (res_cell rfl rfl rfl HRES.out) rfl ?_
          rw [HRF.out]
          exact ⟨rfl, HBF.out⟩
        · have HE : Hid (rdE s = 2) := Lib.hid (by rw [HRE.out, if_pos hd, hc])
          rw [hc] at TC
          clear hc hd
          go_wp2_with fail
          refine TD.out.mono ?_
          rintro e w4 ⟨rfl, hx⟩
          obtain rfl : wr = w4 := hx.symm
          clear hx
          go_wp2_with (refine Go.Proofs.Ytommogkckooekaa.wpList_load_run (by rfl) 23 _ (by rfl) (by rfl) HLD.out ?_)
          refine (TC.out _).mono ?_
          rintro e w5 ⟨rfl, hb5⟩
          have HB5 := Lib.hid (below_step HBW.out (Nat.le_refl _) hb5); have HN5 := Lib.hid (HNK.out.keep hb5)
          clear hb5
          have HST : Hid ((Instr.storeAt 23 (.pointer (some ⟨w.heap.size, 0, none⟩)) (.agg Z)).run Try.prog w5 = .ok () (w5.setCells w.heap.size 0 N)) := Lib.hid (by rw [HZE.out, ← HNE.out]; exact run_store_bk (P := Try.prog) (ty := 23) HN5.out (vs := N) rfl (by rw [HNL.out]; kernel_rfl) (by rw [HNE.out]; exact ints_one _))
          have HRES : Hid ((loadVar 23 ⟨w.heap.size, 0, none⟩).run Try.prog (w5.setCells w.heap.size 0 N) = .ok (.agg Z) (w5.setCells w.heap.size 0 N)) := Lib.hid (by
            have := HN5.out.put (vs := N) rfl
            rw [HNE.out] at this
            rw [HZE.out, HNE.out]
            exact vec_var this rfl)
          have HBF : Hid (Below w.heap.size w (w5.setCells w.heap.size 0 N)) := Lib.hid (HB5.out.trans ((Kp.setCells (Kp.refl (fun j => j = w.heap.size) w5) _ rfl N 0).below (B := w.heap.size) HB5.out.size (fun j hj => by omega)))
          have HRF : Hid (R = .returned (.tuple #[.agg Z, .int .i64 2])) := Lib.hid (by rw [HR.out, HZE.out]; exact rdR_bad HE.out (by omega))
          go_wp2_with (refine Go.Proofs.Ytommogkckooekaa.wpList_store_run (by rfl) 23 _ _ (by rfl) (by rfl) (by rfl) HST.out ?_)
          (try simp only [Exit.inBlock, Exit.then])
          refine bodyPost_ret (res_cell rfl rfl rfl HRES.out) rfl ?_
          rw [HRF.out]
          exact ⟨rfl, HBF.out⟩
      · have bd : (D == 0) = false := by simp; exact hd
        have bd2 : (D != 0) = true := by simp; exact hd
        have HE : Hid (rdE s = D) := Lib.hid (by rw [HRE.out, if_neg hd])
        have HD := Lib.hid hd
        clear hd
        go_wp2_with fail
        refine TD.out.mono ?_
        rintro e w4 ⟨rfl, hx⟩
        obtain rfl : wr = w4 := hx.symm
        clear hx
        have HST : Hid ((Instr.storeAt 23 (.pointer (some ⟨w.heap.size, 0, none⟩)) (.agg Z)).run Try.prog wr = .ok () (wr.setCells w.heap.size 0 N)) := Lib.hid (by rw [HZE.out, ← HNE.out]; exact run_store_bk (P := Try.prog) (ty := 23) HNK.out (vs := N) rfl (by rw [HNL.out]; kernel_rfl) (by rw [HNE.out]; exact ints_one _))
        have HRES : Hid ((loadVar 23 ⟨w.heap.size, 0, none⟩).run Try.prog (wr.setCells w.heap.size 0 N) = .ok (.agg Z) (wr.setCells w.heap.size 0 N)) := Lib.hid (by
          have := HNK.out.put (vs := N) rfl
          rw [HNE.out] at this
          rw [HZE.out, HNE.out]
          exact vec_var this rfl)
        have HBF : Hid (Below w.heap.size w (wr.setCells w.heap.size 0 N)) := Lib.hid (HBW.out.trans ((Kp.setCells (Kp.refl (fun j => j = w.heap.size) wr) _ rfl N 0).below (B := w.heap.size) HBW.out.size (fun j hj => by omega)))
        have HRF : Hid (R = .returned (.tuple #[.agg Z, .int .i64 D])) := Lib.hid (by rw [HR.out, HZE.out]; exact rdR_bad HE.out HD.out)
        go_wp2_with (refine Go.Proofs.Ytommogkckooekaa.wpList_store_run (by rfl) 23 _ _ (by rfl) (by rfl) (by rfl) HST.out ?_)
        (try simp only [Exit.inBlock, Exit.then])
        refine bodyPost_ret (res_cell rfl rfl rfl HRES.out) rfl ?_
        rw [HRF.out]
        exact ⟨rfl, HBF.out⟩
end Go.Proofs.Ytommogkckooekaa

