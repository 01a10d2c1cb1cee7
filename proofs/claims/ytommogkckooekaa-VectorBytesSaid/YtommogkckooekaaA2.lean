/-
  The contracts of Join and Meet, the code's and the law's own.
-/
import Derived.Test.YtommogkckooekaaA1
import Derived.StillTail
import Derived.StillTailTactics
set_option linter.unusedVariables false
set_option linter.unusedSimpArgs false
namespace Go.Proofs.Ytommogkckooekaa
open Go.RowKit
/-- Two vectors put together, place by place, up to one. -/
def jn (f : Int → Int → Int) (a b : List Int) : Nat → List Int
  | 0 => a
  | k + 1 => (jn f a b k).set k (f (a.getD k 0) (b.getD k 0))
theorem jn_len (f : Int → Int → Int) (a b : List Int) : ∀ k, (jn f a b k).length = a.length
  | 0 => rfl
  | k + 1 => by rw [jn, List.length_set, jn_len f a b k]
theorem getD_setI (l : List Int) (i j : Nat) (x : Int) (hi : i < l.length) : (l.set i x).getD j 0 = if j = i then x else l.getD j 0 := by
  rw [List.getD_eq_getElem?_getD, List.getD_eq_getElem?_getD, List.getElem?_set]
  by_cases h : i = j
  · subst h; simp [hi]
  · rw [if_neg h, if_neg (fun e => h e.symm)]
theorem jn_get (f : Int → Int → Int) (a b : List Int) (j : Nat) : ∀ k, k ≤ a.length → (jn f a b k).getD j 0 = if j < k then f (a.getD j 0) (b.getD j 0) else a.getD j 0
  | 0, _ => by simp [jn]
  | k + 1, hk => by
    rw [jn, getD_setI _ _ _ _ (by rw [jn_len]; omega), jn_get f a b j k (by omega)]
    by_cases h : j = k
    · subst h; simp
    · rw [if_neg h]
      by_cases h2 : j < k
      · rw [if_pos h2, if_pos (by omega)]
      · rw [if_neg h2, if_neg (by omega)]
def jnV (f : Int → Int → Int) (a b : List Int) : List Int := jn f a b 16
theorem jnV_len (f : Int → Int → Int) {a : List Int} (b : List Int) (h : a.length = 16) : (jnV f a b).length = 16 := by rw [jnV, jn_len, h]
theorem jnV_get (f : Int → Int → Int) {a : List Int} (b : List Int) (h : a.length = 16) (j : Nat) (hj : j < 16) : (jnV f a b).getD j 0 = f (a.getD j 0) (b.getD j 0) := by
  rw [jnV, jn_get f a b j 16 (by omega), if_pos hj]
theorem bk_three (w : World) (X Y T : List Value) (E F G : TypeId) : Bk w.heap.size X (((w.alloc (.cells X.toArray E)).alloc (.cells Y.toArray F)).alloc (.cells T.toArray G)) ∧ Bk (w.heap.size + 1) Y (((w.alloc (.cells X.toArray E)).alloc (.cells Y.toArray F)).alloc (.cells T.toArray G)) ∧ Bk (w.heap.size + 1 + 1) T (((w.alloc (.cells X.toArray E)).alloc (.cells Y.toArray F)).alloc (.cells T.toArray G)) ∧ Below w.heap.size w (((w.alloc (.cells X.toArray E)).alloc (.cells Y.toArray F)).alloc (.cells T.toArray G)) := by
  have a1 := Bk.new w E X.toArray
  have a2 := Bk.new (w.alloc (.cells X.toArray E)) F Y.toArray
  have a3 := Bk.new ((w.alloc (.cells X.toArray E)).alloc (.cells Y.toArray F)) G T.toArray
  have s1 : (w.alloc (.cells X.toArray E)).heap.size = w.heap.size + 1 := by simp
  have s2 : ((w.alloc (.cells X.toArray E)).alloc (.cells Y.toArray F)).heap.size = w.heap.size + 1 + 1 := by simp
  rw [s1] at a2
  rw [s2] at a3
  refine ⟨(a1.keep (below_new _ _)).keep (below_new _ _), a2.keep (below_new _ _), a3, ?_⟩
  exact (((Below.refl _ w).alloc (Nat.le_refl _) _).alloc (by simp) _).alloc (by simp; omega) _
set_option maxHeartbeats 8000000 in
theorem join_any (a b : List Int) (w : World) (ha : a.length = 16) (hb : b.length = 16) : Calls Try.prog 8 #[.agg (ints a).toArray, .agg (ints b).toArray] w fun e w' => e = .returned (.agg (ints (jnV mx a b)).toArray) ∧ Below w.heap.size w w' := by
  have HAL := Lib.hid ha; have HBL := Lib.hid hb
  have hzv := zero_vec
  obtain ⟨q1, q2, q3, q4⟩ := bk_three w (ints a) (ints b) (ints (noughts 16)) 23 23 23
  have hmax := max2_int; have hmax2 := max_two
  have HIX := Lib.hid (fun k hk => vec_index b hb k hk)
  have HQ1 := Lib.hid q1; have HQ2 := Lib.hid q2; have HQ3 := Lib.hid q3; have HQ4 := Lib.hid q4
  have HLB := Lib.hid (vec_load q2 hb)
  clear q1 q2 q3 q4 ha hb
  obtain ⟨A, hA⟩ : ∃ A, A = (ints a).toArray := ⟨_, rfl⟩
  obtain ⟨B, hB⟩ : ∃ B, B = (ints b).toArray := ⟨_, rfl⟩
  obtain ⟨Z, hZ⟩ : ∃ Z, Z = (ints (noughts 16)).toArray := ⟨_, rfl⟩
  rw [← hA] at HQ1 HQ2 HQ3 HQ4 HLB ⊢
  rw [← hB] at HQ1 HQ2 HQ3 HQ4 HIX HLB ⊢
  rw [← hZ] at HQ1 HQ2 HQ3 HQ4 hzv HLB
  obtain ⟨V, hV⟩ : ∃ V, V = jnV mx a b := ⟨_, rfl⟩
  rw [← hV]
  have HV := Lib.hid hV
  obtain ⟨I, hI⟩ : ∃ I, I = ints V := ⟨_, rfl⟩
  rw [← hI]
  have HI := Lib.hid hI
  have HJS : Hid (∀ k, jn mx a b (k + 1) = (jn mx a b k).set k (mx (a.getD k 0) (b.getD k 0))) := Lib.hid (fun k => rfl)
  have HZ : Hid (noughts 16 = noughts 16) := Lib.hid rfl
  obtain ⟨N, hN⟩ : ∃ N, N = ints (noughts 16) := ⟨_, rfl⟩
  have HNL : Hid (N.length = 16) := Lib.hid (by rw [hN, ints_len]; rfl)
  rw [← hN] at HQ3
  clear hA hB hZ hV hN hI
  go_enter Try.func8, Try.ntmps8
  go_wp2_with (refine Go.Proofs.Ytommogkckooekaa.wpList_load_run (by rfl) 23 _ (by rfl) (by rfl) HLB.out ?_)
  clear hzv HLB
  obtain ⟨W1, hW1⟩ : ∃ W1, W1 = (((w.alloc (.cells A 23)).alloc (.cells B 23)).alloc (.cells Z 23)) := ⟨_, rfl⟩
  rw [← hW1] at HQ1 HQ2 HQ3 HQ4 ⊢
  clear hW1
  go_loopw [8] (fun i wr => ∃ k : Nat, i = .int .i64 k ∧ k ≤ 16 ∧ Bk w.heap.size (ints (jn mx a b k)) wr ∧ Bk (w.heap.size + 1 + 1) N wr ∧ Below w.heap.size w wr) (fun i _ => 16 - (intOf i).toNat)
  case atStart => exact ⟨0, rfl, by omega, HQ1.out, HQ3.out, HQ4.out⟩
  case round =>
    obtain ⟨k, rfl, hk, hj, hn, hbw⟩ := hrel
    have HJ := Lib.hid hj; have HN := Lib.hid hn; have HB := Lib.hid hbw
    clear hj hn hbw
    by_cases hkt : k < 16
    · have d1 : (k : Int) < 16 := by omega
      have d2 : (0 : Int) ≤ (k : Int) := by omega
      have hix := HIX.out k hkt
      have HKL : Hid (k < (jn mx a b k).length) := Lib.hid (by rw [jn_len, HAL.out]; exact hkt)
      have cx := (HJ.out.2 k _ (ints_get _ k HKL.out)).1
      have fx := (HJ.out.2 k _ (ints_get _ k HKL.out)).2
      rw [jn_get _ _ _ _ _ (by rw [HAL.out]; omega), if_neg (by omega)] at cx
      have hst := HJS.out k
      obtain ⟨x, hx⟩ : ∃ x, x = a.getD k 0 := ⟨_, rfl⟩
      obtain ⟨y, hy⟩ : ∃ y, y = b.getD k 0 := ⟨_, rfl⟩
      rw [← hx] at cx hst
      simp only [← hy] at hix hst
      have HST := Lib.hid hst
      clear hx hy hst
      go_wp2
      go_roundw
      case rel =>
        refine ⟨k + 1, by go_num, by omega, ?_, HN.out.other (q := ⟨w.heap.size, k, none⟩) (by simp <;> omega) _, HB.out.setCell (p := ⟨w.heap.size, k, none⟩) (by simp) _⟩
        rw [HST.out, ← ints_set]
        exact HJ.out.set k (by rw [ints_len]; exact HKL.out) _
      case measure => simp [intOf]; omega
    · obtain rfl : k = 16 := by omega
      have HJV : Hid (Bk w.heap.size (ints V) wr) := Lib.hid (by rw [HV.out]; exact HJ.out)
      have HVL : Hid (V.length = 16) := Lib.hid (by rw [HV.out]; exact jnV_len _ _ HAL.out)
      have HLD := Lib.hid (vec_load HJV.out HVL.out)
      have HST := Lib.hid (run_store_bk (P := Try.prog) (ty := 23) HN.out (vs := ints V) (by rw [ints_len, HVL.out, HNL.out]) (by rw [ints_len, HVL.out]; kernel_rfl) (ints_one V))
      have HRES : Hid ((loadVar 23 ⟨w.heap.size + 1 + 1, 0, none⟩).run Try.prog (wr.setCells (w.heap.size + 1 + 1) 0 (ints V)) = .ok (.agg (ints V).toArray) (wr.setCells (w.heap.size + 1 + 1) 0 (ints V))) := Lib.hid (vec_var (HN.out.put (by rw [ints_len, HVL.out, HNL.out])) HVL.out)
      have HBF : Hid (Below w.heap.size w (wr.setCells (w.heap.size + 1 + 1) 0 (ints V))) := Lib.hid (HB.out.trans ((Kp.setCells (Kp.refl (fun j => j = w.heap.size + 1 + 1) wr) _ rfl (ints V) 0).below (B := w.heap.size) HB.out.size (fun j hj => by omega)))
      rw [← HI.out] at HLD HST HRES HBF
      go_wp2_with (first | (refine Go.Proofs.Ytommogkckooekaa.wpList_load_run (by rfl) 23 _ (by rfl) (by rfl) HLD.out ?_) | (refine Go.Proofs.Ytommogkckooekaa.wpList_store_run (by rfl) 23 _ _ (by rfl) (by rfl) (by rfl) HST.out ?_))
      (try simp only [Exit.inBlock, Exit.then])
      refine bodyPost_ret (res_one rfl rfl HRES.out) rfl ?_
      exact ⟨rfl, HBF.out⟩
set_option maxHeartbeats 8000000 in
theorem meet_any (a b : List Int) (w : World) (ha : a.length = 16) (hb : b.length = 16) : Calls Try.prog 10 #[.agg (ints a).toArray, .agg (ints b).toArray] w fun e w' => e = .returned (.agg (ints (jnV mn a b)).toArray) ∧ Below w.heap.size w w' := by
  have HAL := Lib.hid ha; have HBL := Lib.hid hb
  have hzv := zero_vec
  obtain ⟨q1, q2, q3, q4⟩ := bk_three w (ints a) (ints b) (ints (noughts 16)) 23 23 23
  have hmax := min2_int; have hmax2 := min_two
  have HIX := Lib.hid (fun k hk => vec_index b hb k hk)
  have HQ1 := Lib.hid q1; have HQ2 := Lib.hid q2; have HQ3 := Lib.hid q3; have HQ4 := Lib.hid q4
  have HLB := Lib.hid (vec_load q2 hb)
  clear q1 q2 q3 q4 ha hb
  obtain ⟨A, hA⟩ : ∃ A, A = (ints a).toArray := ⟨_, rfl⟩
  obtain ⟨B, hB⟩ : ∃ B, B = (ints b).toArray := ⟨_, rfl⟩
  obtain ⟨Z, hZ⟩ : ∃ Z, Z = (ints (noughts 16)).toArray := ⟨_, rfl⟩
  rw [← hA] at HQ1 HQ2 HQ3 HQ4 HLB ⊢
  rw [← hB] at HQ1 HQ2 HQ3 HQ4 HIX HLB ⊢
  rw [← hZ] at HQ1 HQ2 HQ3 HQ4 hzv HLB
  obtain ⟨V, hV⟩ : ∃ V, V = jnV mn a b := ⟨_, rfl⟩
  rw [← hV]
  have HV := Lib.hid hV
  obtain ⟨I, hI⟩ : ∃ I, I = ints V := ⟨_, rfl⟩
  rw [← hI]
  have HI := Lib.hid hI
  have HJS : Hid (∀ k, jn mn a b (k + 1) = (jn mn a b k).set k (mn (a.getD k 0) (b.getD k 0))) := Lib.hid (fun k => rfl)
  have HZ : Hid (noughts 16 = noughts 16) := Lib.hid rfl
  obtain ⟨N, hN⟩ : ∃ N, N = ints (noughts 16) := ⟨_, rfl⟩
  have HNL : Hid (N.length = 16) := Lib.hid (by rw [hN, ints_len]; rfl)
  rw [← hN] at HQ3
  clear hA hB hZ hV hN hI
  go_enter Try.func10, Try.ntmps10
  go_wp2_with (refine Go.Proofs.Ytommogkckooekaa.wpList_load_run (by rfl) 23 _ (by rfl) (by rfl) HLB.out ?_)
  clear hzv HLB
  obtain ⟨W1, hW1⟩ : ∃ W1, W1 = (((w.alloc (.cells A 23)).alloc (.cells B 23)).alloc (.cells Z 23)) := ⟨_, rfl⟩
  rw [← hW1] at HQ1 HQ2 HQ3 HQ4 ⊢
  clear hW1
  go_loopw [8] (fun i wr => ∃ k : Nat, i = .int .i64 k ∧ k ≤ 16 ∧ Bk w.heap.size (ints (jn mn a b k)) wr ∧ Bk (w.heap.size + 1 + 1) N wr ∧ Below w.heap.size w wr) (fun i _ => 16 - (intOf i).toNat)
  case atStart => exact ⟨0, rfl, by omega, HQ1.out, HQ3.out, HQ4.out⟩
  case round =>
    obtain ⟨k, rfl, hk, hj, hn, hbw⟩ := hrel
    have HJ := Lib.hid hj; have HN := Lib.hid hn; have HB := Lib.hid hbw
    clear hj hn hbw
    by_cases hkt : k < 16
    · have d1 : (k : Int) < 16 := by omega
      have d2 : (0 : Int) ≤ (k : Int) := by omega
      have hix := HIX.out k hkt
      have HKL : Hid (k < (jn mn a b k).length) := Lib.hid (by rw [jn_len, HAL.out]; exact hkt)
      have cx := (HJ.out.2 k _ (ints_get _ k HKL.out)).1
      have fx := (HJ.out.2 k _ (ints_get _ k HKL.out)).2
      rw [jn_get _ _ _ _ _ (by rw [HAL.out]; omega), if_neg (by omega)] at cx
      have hst := HJS.out k
      obtain ⟨x, hx⟩ : ∃ x, x = a.getD k 0 := ⟨_, rfl⟩
      obtain ⟨y, hy⟩ : ∃ y, y = b.getD k 0 := ⟨_, rfl⟩
      rw [← hx] at cx hst
      simp only [← hy] at hix hst
      have HST := Lib.hid hst
      clear hx hy hst
      go_wp2
      go_roundw
      case rel =>
        refine ⟨k + 1, by go_num, by omega, ?_, HN.out.other (q := ⟨w.heap.size, k, none⟩) (by simp <;> omega) _, HB.out.setCell (p := ⟨w.heap.size, k, none⟩) (by simp) _⟩
        rw [HST.out, ← ints_set]
        exact HJ.out.set k (by rw [ints_len]; exact HKL.out) _
      case measure => simp [intOf]; omega
    · obtain rfl : k = 16 := by omega
      have HJV : Hid (Bk w.heap.size (ints V) wr) := Lib.hid (by rw [HV.out]; exact HJ.out)
      have HVL : Hid (V.length = 16) := Lib.hid (by rw [HV.out]; exact jnV_len _ _ HAL.out)
      have HLD := Lib.hid (vec_load HJV.out HVL.out)
      have HST := Lib.hid (run_store_bk (P := Try.prog) (ty := 23) HN.out (vs := ints V) (by rw [ints_len, HVL.out, HNL.out]) (by rw [ints_len, HVL.out]; kernel_rfl) (ints_one V))
      have HRES : Hid ((loadVar 23 ⟨w.heap.size + 1 + 1, 0, none⟩).run Try.prog (wr.setCells (w.heap.size + 1 + 1) 0 (ints V)) = .ok (.agg (ints V).toArray) (wr.setCells (w.heap.size + 1 + 1) 0 (ints V))) := Lib.hid (vec_var (HN.out.put (by rw [ints_len, HVL.out, HNL.out])) HVL.out)
      have HBF : Hid (Below w.heap.size w (wr.setCells (w.heap.size + 1 + 1) 0 (ints V))) := Lib.hid (HB.out.trans ((Kp.setCells (Kp.refl (fun j => j = w.heap.size + 1 + 1) wr) _ rfl (ints V) 0).below (B := w.heap.size) HB.out.size (fun j hj => by omega)))
      rw [← HI.out] at HLD HST HRES HBF
      go_wp2_with (first | (refine Go.Proofs.Ytommogkckooekaa.wpList_load_run (by rfl) 23 _ (by rfl) (by rfl) HLD.out ?_) | (refine Go.Proofs.Ytommogkckooekaa.wpList_store_run (by rfl) 23 _ _ (by rfl) (by rfl) (by rfl) HST.out ?_))
      (try simp only [Exit.inBlock, Exit.then])
      refine bodyPost_ret (res_one rfl rfl HRES.out) rfl ?_
      exact ⟨rfl, HBF.out⟩
set_option maxHeartbeats 8000000 in
theorem rjoin_any (a b : List Int) (w : World) (ha : a.length = 16) (hb : b.length = 16) : Calls Try.prog 9 #[.agg (ints a).toArray, .agg (ints b).toArray] w fun e w' => e = .returned (.agg (ints (jnV mx a b)).toArray) ∧ Below w.heap.size w w' := by
  have HAL := Lib.hid ha; have HBL := Lib.hid hb
  have hzv := zero_vec
  obtain ⟨q1, q2, q3, q4⟩ := bk_three w (ints a) (ints b) (ints (noughts 16)) 23 23 23
  have hmax := max2_int; have hmax2 := max_two
  have HIX := Lib.hid (fun k hk => vec_index b hb k hk)
  have HQ1 := Lib.hid q1; have HQ2 := Lib.hid q2; have HQ3 := Lib.hid q3; have HQ4 := Lib.hid q4
  have HLB := Lib.hid (vec_load q2 hb)
  clear q1 q2 q3 q4 ha hb
  obtain ⟨A, hA⟩ : ∃ A, A = (ints a).toArray := ⟨_, rfl⟩
  obtain ⟨B, hB⟩ : ∃ B, B = (ints b).toArray := ⟨_, rfl⟩
  obtain ⟨Z, hZ⟩ : ∃ Z, Z = (ints (noughts 16)).toArray := ⟨_, rfl⟩
  rw [← hA] at HQ1 HQ2 HQ3 HQ4 HLB ⊢
  rw [← hB] at HQ1 HQ2 HQ3 HQ4 HIX HLB ⊢
  rw [← hZ] at HQ1 HQ2 HQ3 HQ4 hzv HLB
  obtain ⟨V, hV⟩ : ∃ V, V = jnV mx a b := ⟨_, rfl⟩
  rw [← hV]
  have HV := Lib.hid hV
  obtain ⟨I, hI⟩ : ∃ I, I = ints V := ⟨_, rfl⟩
  rw [← hI]
  have HI := Lib.hid hI
  have HJS : Hid (∀ k, jn mx a b (k + 1) = (jn mx a b k).set k (mx (a.getD k 0) (b.getD k 0))) := Lib.hid (fun k => rfl)
  have HZ : Hid (noughts 16 = noughts 16) := Lib.hid rfl
  obtain ⟨N, hN⟩ : ∃ N, N = ints (noughts 16) := ⟨_, rfl⟩
  have HNL : Hid (N.length = 16) := Lib.hid (by rw [hN, ints_len]; rfl)
  rw [← hN] at HQ3
  clear hA hB hZ hV hN hI
  go_enter Try.func9, Try.ntmps9
  go_wp2
  clear hzv HLB
  obtain ⟨W1, hW1⟩ : ∃ W1, W1 = (((w.alloc (.cells A 23)).alloc (.cells B 23)).alloc (.cells Z 23)) := ⟨_, rfl⟩
  rw [← hW1] at HQ1 HQ2 HQ3 HQ4 ⊢
  clear hW1
  go_loopw [5] (fun i wr => ∃ k : Nat, i = .int .i64 k ∧ k ≤ 16 ∧ Bk w.heap.size (ints (jn mx a b k)) wr ∧ Bk (w.heap.size + 1) (ints b) wr ∧ Bk (w.heap.size + 1 + 1) N wr ∧ Below w.heap.size w wr) (fun i _ => 16 - (intOf i).toNat)
  case atStart => exact ⟨0, rfl, by omega, HQ1.out, HQ2.out, HQ3.out, HQ4.out⟩
  case round =>
    obtain ⟨k, rfl, hk, hj, hb, hn, hbw⟩ := hrel
    have HJ := Lib.hid hj; have HN := Lib.hid hn; have HB := Lib.hid hbw; have HBB := Lib.hid hb
    clear hj hn hbw hb
    by_cases hkt : k < 16
    · have d1 : (k : Int) < 16 := by omega
      have d2 : (0 : Int) ≤ (k : Int) := by omega
      have cy := (HBB.out.2 k _ (ints_get b k (by rw [HBL.out]; exact hkt))).1
      have HKL : Hid (k < (jn mx a b k).length) := Lib.hid (by rw [jn_len, HAL.out]; exact hkt)
      have cx := (HJ.out.2 k _ (ints_get _ k HKL.out)).1
      have fx := (HJ.out.2 k _ (ints_get _ k HKL.out)).2
      rw [jn_get _ _ _ _ _ (by rw [HAL.out]; omega), if_neg (by omega)] at cx
      have hst := HJS.out k
      obtain ⟨x, hx⟩ : ∃ x, x = a.getD k 0 := ⟨_, rfl⟩
      obtain ⟨y, hy⟩ : ∃ y, y = b.getD k 0 := ⟨_, rfl⟩
      rw [← hx] at cx hst
      rw [← hy] at cy hst
      have HST := Lib.hid hst
      clear hx hy hst
      go_wp2
      refine wp_region_still_tail 9 (by kernel_rfl) (by kernel_rfl) ?_
      simp only [List.take_succ_cons, List.take_zero, List.drop_succ_cons, List.drop_zero]
      change wpStill _ _ (wr.drew) _ _ _
      repeat still_step
      refine wpStill_nil ?_
      change wpList _ _ _ _ _ (wr.drew)
      go_wp2
      go_roundw
      case rel =>
        refine ⟨k + 1, by go_num, by omega, ?_, (HBB.out.other (q := ⟨w.heap.size, k, none⟩) (by simp <;> omega) _).drew, (HN.out.other (q := ⟨w.heap.size, k, none⟩) (by simp <;> omega) _).drew, (HB.out.setCell (p := ⟨w.heap.size, k, none⟩) (by simp) _).drew⟩
        rw [HST.out, ← ints_set]
        exact (HJ.out.set k (by rw [ints_len]; exact HKL.out) _).drew
      case measure => simp [intOf]; omega
    · obtain rfl : k = 16 := by omega
      have HJV : Hid (Bk w.heap.size (ints V) wr) := Lib.hid (by rw [HV.out]; exact HJ.out)
      have HVL : Hid (V.length = 16) := Lib.hid (by rw [HV.out]; exact jnV_len _ _ HAL.out)
      have HLD := Lib.hid (vec_load HJV.out HVL.out)
      have HST := Lib.hid (run_store_bk (P := Try.prog) (ty := 23) HN.out (vs := ints V) (by rw [ints_len, HVL.out, HNL.out]) (by rw [ints_len, HVL.out]; kernel_rfl) (ints_one V))
      have HRES : Hid ((loadVar 23 ⟨w.heap.size + 1 + 1, 0, none⟩).run Try.prog (wr.setCells (w.heap.size + 1 + 1) 0 (ints V)) = .ok (.agg (ints V).toArray) (wr.setCells (w.heap.size + 1 + 1) 0 (ints V))) := Lib.hid (vec_var (HN.out.put (by rw [ints_len, HVL.out, HNL.out])) HVL.out)
      have HBF : Hid (Below w.heap.size w (wr.setCells (w.heap.size + 1 + 1) 0 (ints V))) := Lib.hid (HB.out.trans ((Kp.setCells (Kp.refl (fun j => j = w.heap.size + 1 + 1) wr) _ rfl (ints V) 0).below (B := w.heap.size) HB.out.size (fun j hj => by omega)))
      rw [← HI.out] at HLD HST HRES HBF
      go_wp2_with (first | (refine Go.Proofs.Ytommogkckooekaa.wpList_load_run (by rfl) 23 _ (by rfl) (by rfl) HLD.out ?_) | (refine Go.Proofs.Ytommogkckooekaa.wpList_store_run (by rfl) 23 _ _ (by rfl) (by rfl) (by rfl) HST.out ?_))
      (try simp only [Exit.inBlock, Exit.then])
      refine bodyPost_ret (res_one rfl rfl HRES.out) rfl ?_
      exact ⟨rfl, HBF.out⟩
set_option maxHeartbeats 8000000 in
theorem rmeet_any (a b : List Int) (w : World) (ha : a.length = 16) (hb : b.length = 16) : Calls Try.prog 11 #[.agg (ints a).toArray, .agg (ints b).toArray] w fun e w' => e = .returned (.agg (ints (jnV mn a b)).toArray) ∧ Below w.heap.size w w' := by
  have HAL := Lib.hid ha; have HBL := Lib.hid hb
  have hzv := zero_vec
  obtain ⟨q1, q2, q3, q4⟩ := bk_three w (ints a) (ints b) (ints (noughts 16)) 23 23 23
  have hmax := min2_int; have hmax2 := min_two
  have HIX := Lib.hid (fun k hk => vec_index b hb k hk)
  have HQ1 := Lib.hid q1; have HQ2 := Lib.hid q2; have HQ3 := Lib.hid q3; have HQ4 := Lib.hid q4
  have HLB := Lib.hid (vec_load q2 hb)
  clear q1 q2 q3 q4 ha hb
  obtain ⟨A, hA⟩ : ∃ A, A = (ints a).toArray := ⟨_, rfl⟩
  obtain ⟨B, hB⟩ : ∃ B, B = (ints b).toArray := ⟨_, rfl⟩
  obtain ⟨Z, hZ⟩ : ∃ Z, Z = (ints (noughts 16)).toArray := ⟨_, rfl⟩
  rw [← hA] at HQ1 HQ2 HQ3 HQ4 HLB ⊢
  rw [← hB] at HQ1 HQ2 HQ3 HQ4 HIX HLB ⊢
  rw [← hZ] at HQ1 HQ2 HQ3 HQ4 hzv HLB
  obtain ⟨V, hV⟩ : ∃ V, V = jnV mn a b := ⟨_, rfl⟩
  rw [← hV]
  have HV := Lib.hid hV
  obtain ⟨I, hI⟩ : ∃ I, I = ints V := ⟨_, rfl⟩
  rw [← hI]
  have HI := Lib.hid hI
  have HJS : Hid (∀ k, jn mn a b (k + 1) = (jn mn a b k).set k (mn (a.getD k 0) (b.getD k 0))) := Lib.hid (fun k => rfl)
  have HZ : Hid (noughts 16 = noughts 16) := Lib.hid rfl
  obtain ⟨N, hN⟩ : ∃ N, N = ints (noughts 16) := ⟨_, rfl⟩
  have HNL : Hid (N.length = 16) := Lib.hid (by rw [hN, ints_len]; rfl)
  rw [← hN] at HQ3
  clear hA hB hZ hV hN hI
  go_enter Try.func11, Try.ntmps11
  go_wp2
  clear hzv HLB
  obtain ⟨W1, hW1⟩ : ∃ W1, W1 = (((w.alloc (.cells A 23)).alloc (.cells B 23)).alloc (.cells Z 23)) := ⟨_, rfl⟩
  rw [← hW1] at HQ1 HQ2 HQ3 HQ4 ⊢
  clear hW1
  go_loopw [5] (fun i wr => ∃ k : Nat, i = .int .i64 k ∧ k ≤ 16 ∧ Bk w.heap.size (ints (jn mn a b k)) wr ∧ Bk (w.heap.size + 1) (ints b) wr ∧ Bk (w.heap.size + 1 + 1) N wr ∧ Below w.heap.size w wr) (fun i _ => 16 - (intOf i).toNat)
  case atStart => exact ⟨0, rfl, by omega, HQ1.out, HQ2.out, HQ3.out, HQ4.out⟩
  case round =>
    obtain ⟨k, rfl, hk, hj, hb, hn, hbw⟩ := hrel
    have HJ := Lib.hid hj; have HN := Lib.hid hn; have HB := Lib.hid hbw; have HBB := Lib.hid hb
    clear hj hn hbw hb
    by_cases hkt : k < 16
    · have d1 : (k : Int) < 16 := by omega
      have d2 : (0 : Int) ≤ (k : Int) := by omega
      have cy := (HBB.out.2 k _ (ints_get b k (by rw [HBL.out]; exact hkt))).1
      have HKL : Hid (k < (jn mn a b k).length) := Lib.hid (by rw [jn_len, HAL.out]; exact hkt)
      have cx := (HJ.out.2 k _ (ints_get _ k HKL.out)).1
      have fx := (HJ.out.2 k _ (ints_get _ k HKL.out)).2
      rw [jn_get _ _ _ _ _ (by rw [HAL.out]; omega), if_neg (by omega)] at cx
      have hst := HJS.out k
      obtain ⟨x, hx⟩ : ∃ x, x = a.getD k 0 := ⟨_, rfl⟩
      obtain ⟨y, hy⟩ : ∃ y, y = b.getD k 0 := ⟨_, rfl⟩
      rw [← hx] at cx hst
      rw [← hy] at cy hst
      have HST := Lib.hid hst
      clear hx hy hst
      go_wp2
      refine wp_region_still_tail 9 (by kernel_rfl) (by kernel_rfl) ?_
      simp only [List.take_succ_cons, List.take_zero, List.drop_succ_cons, List.drop_zero]
      change wpStill _ _ (wr.drew) _ _ _
      repeat still_step
      refine wpStill_nil ?_
      change wpList _ _ _ _ _ (wr.drew)
      go_wp2
      go_roundw
      case rel =>
        refine ⟨k + 1, by go_num, by omega, ?_, (HBB.out.other (q := ⟨w.heap.size, k, none⟩) (by simp <;> omega) _).drew, (HN.out.other (q := ⟨w.heap.size, k, none⟩) (by simp <;> omega) _).drew, (HB.out.setCell (p := ⟨w.heap.size, k, none⟩) (by simp) _).drew⟩
        rw [HST.out, ← ints_set]
        exact (HJ.out.set k (by rw [ints_len]; exact HKL.out) _).drew
      case measure => simp [intOf]; omega
    · obtain rfl : k = 16 := by omega
      have HJV : Hid (Bk w.heap.size (ints V) wr) := Lib.hid (by rw [HV.out]; exact HJ.out)
      have HVL : Hid (V.length = 16) := Lib.hid (by rw [HV.out]; exact jnV_len _ _ HAL.out)
      have HLD := Lib.hid (vec_load HJV.out HVL.out)
      have HST := Lib.hid (run_store_bk (P := Try.prog) (ty := 23) HN.out (vs := ints V) (by rw [ints_len, HVL.out, HNL.out]) (by rw [ints_len, HVL.out]; kernel_rfl) (ints_one V))
      have HRES : Hid ((loadVar 23 ⟨w.heap.size + 1 + 1, 0, none⟩).run Try.prog (wr.setCells (w.heap.size + 1 + 1) 0 (ints V)) = .ok (.agg (ints V).toArray) (wr.setCells (w.heap.size + 1 + 1) 0 (ints V))) := Lib.hid (vec_var (HN.out.put (by rw [ints_len, HVL.out, HNL.out])) HVL.out)
      have HBF : Hid (Below w.heap.size w (wr.setCells (w.heap.size + 1 + 1) 0 (ints V))) := Lib.hid (HB.out.trans ((Kp.setCells (Kp.refl (fun j => j = w.heap.size + 1 + 1) wr) _ rfl (ints V) 0).below (B := w.heap.size) HB.out.size (fun j hj => by omega)))
      rw [← HI.out] at HLD HST HRES HBF
      go_wp2_with (first | (refine Go.Proofs.Ytommogkckooekaa.wpList_load_run (by rfl) 23 _ (by rfl) (by rfl) HLD.out ?_) | (refine Go.Proofs.Ytommogkckooekaa.wpList_store_run (by rfl) 23 _ _ (by rfl) (by rfl) (by rfl) HST.out ?_))
      (try simp only [Exit.inBlock, Exit.then])
      refine bodyPost_ret (res_one rfl rfl HRES.out) rfl ?_
      exact ⟨rfl, HBF.out⟩
end Go.Proofs.Ytommogkckooekaa

