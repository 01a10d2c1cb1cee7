/-
  The contract of pack's run.
-/
import Derived.Test.YtholjhblpfkbcaaPa
set_option linter.unusedVariables false
set_option linter.unusedSimpArgs false
namespace Go.Proofs.Ytholjhblpfkbcaa
open Go.RowKit
theorem results_tmp4 {fn : Func} {t u v x : Tmp} (h : fn.results = #[.tmp t, .tmp u, .tmp v, .tmp x]) (tmps : Array Value) (P : Program) (w : World) :
    (results fn tmps).run P w = .ok (.tuple #[tmps.getD t undef, tmps.getD u undef, tmps.getD v undef, tmps.getD x undef]) w := by
  simp [results, h]
def runE (s : ByteArray) : Ending := .returned (.tuple #[.int .i64 ((runL (bys s)).1 : Nat), .int .u8 ((runL (bys s)).2.1 : Nat), .int .i64 ((runL (bys s)).2.2.1 : Nat), .int .i64 (runL (bys s)).2.2.2])
theorem run_any (s : ByteArray) (w : World) (hs : s.size ≤ 1099511627776) : Calls Try.prog 10 #[.string s] w fun e w' => e = runE s ∧ Below w.heap.size w w' := by
  rcases readV_sort (bys s) with ⟨n, k, hr, hk1, hn⟩ | ⟨er, her, hr⟩
  · obtain ⟨h1, h2⟩ := nb_of_read (bys_lt s) hr hk1
    rw [bys_len] at h2
    have hlen : (nb n).length = k := by rw [h1, List.length_take, bys_len]; omega
    have ho : numO s 0 = ((n : Int), s.extract k s.size, 0) := by unfold numO; rw [hr]; simp
    have hnv := numV_ok hn
    have hsz : (txt (nb n)).size = k := by rw [txt_size, hlen]
    have T : Hid (∀ w, Calls Try.prog 7 #[.int .i64 n] w fun e w' => e = .returned (.tuple #[.string (txt (nb n)), .int .i64 0]) ∧ Below w.heap.size w w') := Lib.hid (fun w => by
      have h := num_nat n w hn
      unfold numR at h; rw [hnv] at h; exact h)
    by_cases hq : k = s.size
    · have HRE : Hid (runE s = .returned (.tuple #[.int .i64 0, .int .u8 0, .int .i64 0, .int .i64 4])) := Lib.hid (by
        have h3 : runL (bys s) = (0, 0, 0, 4) := by
          unfold runL; rw [hr]; dsimp only; rw [if_pos rfl, Int.toNat_natCast, hlen, bys_len, if_pos hq]
        unfold runE; rw [h3]; rfl)
      obtain ⟨H, hH⟩ : ∃ H, H = txt (nb n) := ⟨_, rfl⟩
      rw [← hH] at T hsz
      clear hH hr h1 hnv hlen
      have hHz : (H.size : Int) = (s.size : Int) := by omega
      have HO := Lib.hid ho
      clear ho
      go_enter Try.func10, Try.ntmps10
      go_wp2_with fail
      refine (new_any s w).mono ?_
      rintro e w1 ⟨rfl, hr1, hb1⟩
      go_wp2_with fail
      refine (rd_num _ _ _ _ hs hr1).mono ?_
      rw [HO.out]
      rintro e w2 ⟨rfl, hr2, hk2⟩
      have HB2 : Hid (Below w.heap.size w w2) := Lib.hid (hb1.trans (hk2.below hb1.size (fun k hk => by subst hk; exact Nat.le_refl _)))
      clear hb1 hk2
      go_wp2_with fail
      refine (err_any _ _ _ _ hr2).mono ?_
      rintro e w3 ⟨rfl, rfl⟩
      go_wp2_with fail
      refine (T.out _).mono ?_
      rintro e w4 ⟨rfl, hb4⟩
      have HB4 := Lib.hid (below_step HB2.out (Nat.le_refl _) hb4)
      clear hb4
      go_wp2
      (try simp only [Exit.inBlock, Exit.then])
      refine bodyPost_ret (results_tmp4 rfl _ _ _) rfl ?_
      rw [HRE.out]
      exact ⟨rfl, HB4.out⟩
    · have hks : k < s.size := by omega
      have hx := (s[k]'hks).toNat_lt
      have HRE : Hid (runE s = .returned (.tuple #[.int .i64 (n : Int), .int .u8 ((s[k]'hks).toNat : Nat), .int .i64 ((k : Int) + 1), .int .i64 0])) := Lib.hid (by
        have h3 : runL (bys s) = (n, (s[k]'hks).toNat, k + 1, 0) := by
          unfold runL; rw [hr]; dsimp only; rw [if_pos rfl, Int.toNat_natCast, hlen, bys_len, if_neg hq, bys_get s k hks]
        unfold runE; rw [h3]; rfl)
      obtain ⟨H, hH⟩ : ∃ H, H = txt (nb n) := ⟨_, rfl⟩
      rw [← hH] at T hsz
      clear hH hr h1 hnv hlen
      have hHz : (H.size : Int) = (k : Int) := by omega
      have d1 : ¬ (k : Int) = (s.size : Int) := by omega
      have d2 : (0 : Int) ≤ (k : Int) := by omega
      have d3 : (k : Int) < (s.size : Int) := by omega
      have HO := Lib.hid ho
      clear ho
      go_enter Try.func10, Try.ntmps10
      go_wp2_with fail
      refine (new_any s w).mono ?_
      rintro e w1 ⟨rfl, hr1, hb1⟩
      go_wp2_with fail
      refine (rd_num _ _ _ _ hs hr1).mono ?_
      rw [HO.out]
      rintro e w2 ⟨rfl, hr2, hk2⟩
      have HB2 : Hid (Below w.heap.size w w2) := Lib.hid (hb1.trans (hk2.below hb1.size (fun k hk => by subst hk; exact Nat.le_refl _)))
      clear hb1 hk2
      go_wp2_with fail
      refine (err_any _ _ _ _ hr2).mono ?_
      rintro e w3 ⟨rfl, rfl⟩
      go_wp2_with fail
      refine (T.out _).mono ?_
      rintro e w4 ⟨rfl, hb4⟩
      have HB4 := Lib.hid (below_step HB2.out (Nat.le_refl _) hb4)
      clear hb4
      go_wp2
      go_quiet (fail)
      go_wp2
      (try simp only [Exit.inBlock, Exit.then])
      refine bodyPost_ret (results_tmp4 rfl _ _ _) rfl ?_
      rw [HRE.out]
      exact ⟨rfl, below_drewN HB4.out _⟩
  · have ho : numO s 0 = (0, s, er) := by unfold numO; rw [hr]; simp [her]
    have HRE : Hid (runE s = .returned (.tuple #[.int .i64 0, .int .u8 0, .int .i64 0, .int .i64 er])) := Lib.hid (by
      have h3 : runL (bys s) = (0, 0, 0, er) := by
        unfold runL; rw [hr]; dsimp only; rw [if_neg her]
      unfold runE; rw [h3]; rfl)
    have d1 : ¬ er = 0 := her
    have HO := Lib.hid ho
    clear ho hr
    go_enter Try.func10, Try.ntmps10
    go_wp2_with fail
    refine (new_any s w).mono ?_
    rintro e w1 ⟨rfl, hr1, hb1⟩
    go_wp2_with fail
    refine (rd_num _ _ _ _ hs hr1).mono ?_
    rw [HO.out]
    rintro e w2 ⟨rfl, hr2, hk2⟩
    have HB2 : Hid (Below w.heap.size w w2) := Lib.hid (hb1.trans (hk2.below hb1.size (fun k hk => by subst hk; exact Nat.le_refl _)))
    clear hb1 hk2
    go_wp2_with fail
    refine (err_any _ _ _ _ hr2).mono ?_
    rintro e w3 ⟨rfl, rfl⟩
    go_wp2
    (try simp only [Exit.inBlock, Exit.then])
    refine bodyPost_ret (results_tmp4 rfl _ _ _) rfl ?_
    rw [HRE.out]
    exact ⟨rfl, HB2.out⟩
end Go.Proofs.Ytholjhblpfkbcaa

