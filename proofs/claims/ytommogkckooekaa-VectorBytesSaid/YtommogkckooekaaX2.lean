/-
  What is read is put so again; the law's own Read.
-/
import Derived.Test.YtommogkckooekaaX1
set_option linter.unusedVariables false
set_option linter.unusedSimpArgs false
namespace Go.Proofs.Ytommogkckooekaa
open Go.RowKit
theorem numO_nb {s : ByteArray} (h : (numO s 0).2.2 = 0) : s = txt (nb (numO s 0).1.toNat) ++ (numO s 0).2.1 := by
  rcases readV_cases (bys s) with ⟨n, k, g, h1, h2, h3, h4⟩ | ⟨e, he, g⟩
  · rw [numO_ok g]
    obtain ⟨g1, g2⟩ := nb_of_read (bys_lt s) g h2
    simp only [Int.toNat_natCast]
    apply bys_inj
    rw [g1, bys_app, bys_txt (fun c hc => bys_lt s c (List.mem_of_mem_take hc)), bys_extract, ← bys_len, List.take_length, List.take_append_drop]
  · rw [numO_bad he g] at h
    exact absurd h he
theorem catK_same {V W : List Int} : ∀ k, (∀ j, j < k → V.getD j 0 = W.getD j 0) → catK V k = catK W k
  | 0, _ => rfl
  | k + 1, h => by rw [catK, catK, catK_same k (fun j hj => h j (by omega)), h k (by omega)]
theorem stK_cat (s : ByteArray) : ∀ k, k ≤ 16 → (stK s k).2.2 = 0 → s = catK (stK s k).1 k ++ (stK s k).2.1
  | 0, _, _ => by rw [catK, nil_app]; rfl
  | k + 1, hk, h => by
    have hl := stK_len s k
    rw [stK] at h ⊢
    simp only at h ⊢
    have he : (stK s k).2.2 = 0 := by
      apply Classical.byContradiction
      intro hc
      rw [numO_err hc] at h
      exact hc h
    rw [he] at h ⊢
    have ih := stK_cat s k (by omega) he
    have hn := numO_nb h
    rw [catK, catK_same (W := (stK s k).1) k (fun j hj => by rw [getD_setI _ _ _ _ (by omega), if_neg (by omega)]), getD_setI _ _ _ _ (by omega), if_pos rfl, app_assoc, ← hn]
    exact ih
theorem rd_cat {s : ByteArray} (h : rdE s = 0) : catK (rdV s) 16 = s ∧ chkV (rdV s) = 0 := by
  have hv : rdV s = (stK s 16).1 := by unfold rdV; rw [if_pos h]
  unfold rdE at h
  split at h
  · next hd =>
    unfold doneV at hd
    split at hd
    · next he =>
      split at hd
      · next hz =>
        have := stK_cat s 16 (by omega) he
        rw [show (stK s 16).2.1 = ⟨#[]⟩ from ByteArray.ext (Array.eq_empty_of_size_eq_zero hz), app_nil] at this
        rw [hv]
        exact ⟨this.symm, h⟩
      · omega
    · next he => exact absurd hd he
  · next hd => exact absurd h hd
theorem zero_vecA (w : World) : (zeroValue 23).run Try.prog w = .ok (.agg (ints (noughts 16)).toArray) w := zero_vec w
set_option maxHeartbeats 16000000 in
theorem rread_any (s : ByteArray) (w : World) (hs : s.size ≤ 1099511627776) : Calls Try.prog 20 #[.string s] w fun e w' => e = rdR s ∧ Below w.heap.size w w' := by
  have T := Lib.hid (fun W => take_any s W hs)
  obtain ⟨IZ, hIZ⟩ : ∃ I, I = ints (noughts 16) := ⟨_, rfl⟩
  have HIZ := Lib.hid hIZ
  have HZL : Hid (IZ.length = 16) := Lib.hid (len2 hIZ rfl)
  obtain ⟨Z, hZ⟩ : ∃ Z, Z = (ints (noughts 16)).toArray := ⟨_, rfl⟩
  have HZE := Lib.hid hZ
  have hzv := zero_vec
  rw [← hZ] at hzv
  have HVN := Lib.hid (stK_len s 16)
  have HRE : Hid (rdE s = if doneV (stK s 16).2.1 (stK s 16).2.2 = 0 then chkV (stK s 16).1 else doneV (stK s 16).2.1 (stK s 16).2.2) := Lib.hid rfl
  have HRO : Hid (rdE s = 0 → rdR s = .returned (.tuple #[.agg (ints (stK s 16).1).toArray, .int .i64 0])) := Lib.hid (fun h => rdR_ok h)
  have HRN : Hid (∀ e, rdE s = e → e ≠ 0 → rdR s = .returned (.tuple #[.agg Z, .int .i64 e])) := Lib.hid (fun e h he => by rw [rdR_bad h he, hZ])
  have TD := Lib.hid (fun W => rdone_any (stK s 16).2.1 (stK s 16).2.2 W)
  obtain ⟨V, hV⟩ : ∃ V, V = (stK s 16).1 := ⟨_, rfl⟩
  obtain ⟨r, hr⟩ : ∃ r, r = (stK s 16).2.1 := ⟨_, rfl⟩
  obtain ⟨ee, hee⟩ : ∃ e, e = (stK s 16).2.2 := ⟨_, rfl⟩
  obtain ⟨D, hD⟩ : ∃ D, D = doneV (stK s 16).2.1 (stK s 16).2.2 := ⟨_, rfl⟩
  obtain ⟨R, hR⟩ : ∃ R, R = rdR s := ⟨_, rfl⟩
  rw [← hD] at HRE TD
  rw [← hR] at HRO HRN
  rw [← hV] at T HVN HRE HRO
  rw [← hr, ← hee] at T TD
  rw [← hR]
  clear hIZ hZ hV hr hee hD hR
  obtain ⟨IV, hIV⟩ : ∃ I, I = ints V := ⟨_, rfl⟩
  obtain ⟨AV, hAV⟩ : ∃ I, I = (ints V).toArray := ⟨_, rfl⟩
  have HIV := Lib.hid hIV; have HAV := Lib.hid hAV
  have TC := Lib.hid (fun W => rcheck_any V W HVN.out)
  rw [← hAV] at T HRO TC
  have HLV : Hid (∀ (W : World) (p : Nat), Bk p IV W → (Instr.loadAt 23 (.pointer (some ⟨p, 0, none⟩))).run Try.prog W = .ok (.agg AV) W) := Lib.hid (fun W p h => by rw [hAV]; exact sl2 h hIV HVN.out)
  have HRV : Hid (∀ (W : World) (p : Nat), Bk p IV W → (loadVar 23 ⟨p, 0, none⟩).run Try.prog W = .ok (.agg AV) W) := Lib.hid (fun W p h => by rw [hAV]; rw [hIV] at h; exact vec_var h HVN.out)
  have HRZ : Hid (∀ (W : World) (p : Nat), Bk p IZ W → (loadVar 23 ⟨p, 0, none⟩).run Try.prog W = .ok (.agg Z) W) := Lib.hid (fun W p h => by rw [HZE.out]; rw [HIZ.out] at h; exact vec_var h rfl)
  clear hIV hAV
  have hzs : Z.size = 16 := by rw [HZE.out]; kernel_rfl
  have hz1 : ¬ Z = #[] := fun h => by rw [h] at hzs; cases hzs
  go_enter Try.func20, Try.ntmps20
  go_wp2_with (refine wpList_alloc_vec (by rfl) rfl HIZ.out ?_)
  intro w1 p1 hb1 hp1 hw1
  have H1 := Lib.hid hb1; have HB1 := Lib.hid hw1
  have h1w : w.heap.size ≤ p1 := by omega
  clear hb1 hw1 hp1
  go_wp2_with fail
  refine (T.out _).mono ?_
  rintro e w2 ⟨rfl, hb⟩
  have H12 := Lib.hid (H1.out.keep hb); have HB2 := Lib.hid (below_step HB1.out (Nat.le_refl _) hb)
  clear hb H1 HB1
  have b3 : Bk w2.heap.size [.string ⟨#[]⟩, .int .i64 0] (w2.alloc (.cells #[.string ⟨#[]⟩, .int .i64 0] 53)) := Bk.new w2 53 #[.string ⟨#[]⟩, .int .i64 0]
  have H3 := Lib.hid b3; have H13 := Lib.hid (H12.out.keep (below_new w2 (.cells #[.string ⟨#[]⟩, .int .i64 0] 53))); have HB3 := Lib.hid (below_step HB2.out (Nat.le_refl _) (below_new w2 (.cells #[.string ⟨#[]⟩, .int .i64 0] 53)))
  have hsz : (w2.alloc (.cells #[.string ⟨#[]⟩, .int .i64 0] 53)).heap.size = w2.heap.size + 1 := by simp
  have HSZ := Lib.hid hsz
  have hp12 := H12.out.1
  clear b3 hsz H12 HB2
  go_wp2_with (refine wpList_alloc_vec (by rfl) rfl HIZ.out ?_)
  intro w4 p4 hb4 hp4 hw4
  have hw4' : Below (w2.alloc (.cells #[.string ⟨#[]⟩, .int .i64 0] 53)).heap.size (w2.alloc (.cells #[.string ⟨#[]⟩, .int .i64 0] 53)) w4 := by rw [HSZ.out]; exact hw4
  obtain ⟨q, hq⟩ : ∃ q, q = w2.heap.size := ⟨_, rfl⟩
  have H14 := Lib.hid (H13.out.keep hw4')
  have h34 := H3.out.keep hw4'
  rw [← hq] at h34 hp4 ⊢
  have H44 := Lib.hid hb4; have HB4 := Lib.hid (below_step HB3.out (Nat.le_refl _) hw4')
  have h1q : p1 < q := by omega
  have hq4 : q < p4 := by omega
  have hql : q < w4.heap.size := h34.1
  have h4l : p4 < w4.heap.size := hb4.1
  have c0 := (h34.2 0 _ rfl).1; have c1 := (h34.2 1 _ rfl).1; have f0 := (h34.2 0 _ rfl).2; have f1 := (h34.2 1 _ rfl).2
  have hk5 : Kp (fun j => j = q) w4 ((w4.setCell ⟨q, 0, none⟩ (.string r)).setCell ⟨q, 1, none⟩ (.int .i64 ee)) := Kp.set (S := fun j => j = q) (Kp.set (S := fun j => j = q) (Kp.refl _ w4) q 0 _ rfl) q 1 _ rfl
  have h35 : Bk q [.string r, .int .i64 ee] ((w4.setCell ⟨q, 0, none⟩ (.string r)).setCell ⟨q, 1, none⟩ (.int .i64 ee)) := (h34.set 0 (by simp) (.string r)).set 1 (by simp) (.int .i64 ee)
  have H35 := Lib.hid h35; have H15 := Lib.hid (H14.out.kp hk5 (by omega)); have H45 := Lib.hid (H44.out.kp hk5 (by omega)); have HB5 := Lib.hid (HB4.out.trans (hk5.below HB4.out.size (fun j hj => by omega)))
  clear hb4 hw4 hw4' h34 hk5 h35 hp4 hq H3 H13 HSZ H14 H44 HB3 HB4 hp12
  go_wp2_with (refine wpList_store_vec (by rfl) (.tmp 5) (.tmp 12) (by rfl) (by rfl) (by rfl) H45.out HZL.out HIV.out HAV.out HVN.out ?_)
  intro w6 hv6 hk6
  have h36 := H35.out.kp hk6 (by omega)
  have H16 := Lib.hid (H15.out.kp hk6 (by omega)); have H46 := Lib.hid hv6; have HB6 := Lib.hid (HB5.out.trans (hk6.below HB5.out.size (fun j hj => by omega)))
  clear c0 c1 f0 f1
  have c0 := (h36.2 0 _ rfl).1; have c1 := (h36.2 1 _ rfl).1
  clear hv6 hk6 h36 H35 H15 H45 HB5 hql h4l
  by_cases hd : D = 0
  · have bd : (D == 0) = true := by simp; exact hd
    rcases chk_two V with hc | hc
    · have HE : Hid (rdE s = 0) := Lib.hid (by rw [HRE.out, if_pos hd, hc])
      rw [hc] at TC
      clear hc hd
      go_wp2_with fail
      refine (TD.out _).mono ?_
      rintro e w7 ⟨rfl, hb7⟩
      have H17 := Lib.hid (H16.out.keep hb7); have H47 := Lib.hid (H46.out.keep hb7); have HB7 := Lib.hid (below_step HB6.out (Nat.le_refl _) hb7)
      clear hb7 c0 c1
      go_wp2_with (refine Go.Proofs.Ytommogkckooekaa.wpList_load_run (by rfl) 23 _ (by rfl) (by rfl) (HLV.out _ _ H47.out) ?_)
      refine (TC.out _).mono ?_
      rintro e w8 ⟨rfl, hb8⟩
      have H18 := Lib.hid (H17.out.keep hb8); have H48 := Lib.hid (H47.out.keep hb8); have HB8 := Lib.hid (below_step HB7.out (Nat.le_refl _) hb8)
      clear hb8
      go_wp2_with (first | (refine Go.Proofs.Ytommogkckooekaa.wpList_load_run (by rfl) 23 _ (by rfl) (by rfl) (HLV.out _ _ H48.out) ?_) | (refine wpList_store_vec (by rfl) (.tmp 2) (.tmp 23) (by rfl) (by rfl) (by rfl) H18.out HZL.out HIV.out HAV.out HVN.out ?_; intro w9 hv9 hk9))
      have HV9 := Lib.hid hv9
      have HB9 := Lib.hid (HB8.out.trans (hk9.below HB8.out.size (fun j hj => by omega)))
      clear hv9 hk9
      (try go_wp2)
      (try simp only [Exit.inBlock, Exit.then])
      refine bodyPost_ret (res_cell rfl rfl rfl (HRV.out _ _ HV9.out)) rfl ?_
      rw [HRO.out HE.out]
      exact ⟨rfl, HB9.out⟩
    · have HE : Hid (rdE s = 2) := Lib.hid (by rw [HRE.out, if_pos hd, hc])
      rw [hc] at TC
      clear hc hd
      go_wp2_with fail
      refine (TD.out _).mono ?_
      rintro e w7 ⟨rfl, hb7⟩
      have H17 := Lib.hid (H16.out.keep hb7); have H47 := Lib.hid (H46.out.keep hb7); have HB7 := Lib.hid (below_step HB6.out (Nat.le_refl _) hb7)
      clear hb7 c0 c1
      go_wp2_with (refine Go.Proofs.Ytommogkckooekaa.wpList_load_run (by rfl) 23 _ (by rfl) (by rfl) (HLV.out _ _ H47.out) ?_)
      refine (TC.out _).mono ?_
      rintro e w8 ⟨rfl, hb8⟩
      have H18 := Lib.hid (H17.out.keep hb8); have HB8 := Lib.hid (below_step HB7.out (Nat.le_refl _) hb8)
      clear hb8
      go_wp2_with (refine wpList_store_vec (by rfl) (.tmp 2) (.tmp 21) (by rfl) (by rfl) (by rfl) H18.out HZL.out HIZ.out HZE.out rfl ?_; intro w9 hv9 hk9)
      have HV9 := Lib.hid hv9
      have HB9 := Lib.hid (HB8.out.trans (hk9.below HB8.out.size (fun j hj => by omega)))
      clear hv9 hk9
      (try go_wp2)
      (try simp only [Exit.inBlock, Exit.then])
      refine bodyPost_ret (res_cell rfl rfl rfl (HRZ.out _ _ HV9.out)) rfl ?_
      rw [HRN.out 2 HE.out (by omega)]
      exact ⟨rfl, HB9.out⟩
  · have bd : (D == 0) = false := by simp; exact hd
    have bd2 : (D != 0) = true := by simp; exact hd
    have HE : Hid (rdE s = D) := Lib.hid (by rw [HRE.out, if_neg hd])
    have HD := Lib.hid hd
    clear hd
    go_wp2_with fail
    refine (TD.out _).mono ?_
    rintro e w7 ⟨rfl, hb7⟩
    have H17 := Lib.hid (H16.out.keep hb7); have HB7 := Lib.hid (below_step HB6.out (Nat.le_refl _) hb7)
    clear hb7 c0 c1
    go_wp2_with (refine wpList_store_vec (by rfl) (.tmp 2) (.tmp 21) (by rfl) (by rfl) (by rfl) H17.out HZL.out HIZ.out HZE.out rfl ?_; intro w9 hv9 hk9)
    have HV9 := Lib.hid hv9
    have HB9 := Lib.hid (HB7.out.trans (hk9.below HB7.out.size (fun j hj => by omega)))
    clear hv9 hk9
    (try go_wp2)
    (try simp only [Exit.inBlock, Exit.then])
    refine bodyPost_ret (res_cell rfl rfl rfl (HRZ.out _ _ HV9.out)) rfl ?_
    rw [HRN.out D HE.out HD.out]
    exact ⟨rfl, HB9.out⟩
end Go.Proofs.Ytommogkckooekaa

