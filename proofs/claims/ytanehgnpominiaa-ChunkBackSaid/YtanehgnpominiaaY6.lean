/-
  The law of ChunkBack for all arguments that the row lets in. Conditions: none.
-/
import Derived.Test.YtanehgnpominiaaY2
set_option linter.unusedVariables false
set_option linter.unusedSimpArgs false
set_option maxRecDepth 100000
namespace Go.Proofs.Ytanehgnpominiaa
open Go.RowKit
theorem readM_okT (s : ByteArray) : okT (readM s).2.2.1 := by
  unfold readM
  split
  · split
    · exact lstO_okT _ _
    · exact okT_nil
  · exact okT_nil
theorem readM_len (s : ByteArray) : (readM s).2.2.1.length ≤ 4096 := by
  unfold readM
  split
  · split
    · next hc => obtain ⟨_, _, _, _, _, _, _, _, h, _⟩ := check_zero hc; exact h
    · exact Nat.zero_le _
  · exact Nat.zero_le _
theorem manV_ok2 {s : ByteArray} {k : Nat} (h1 : 1 ≤ k) (h2 : k ≤ 4096) (h3 : s.size ≤ 600) : cutV s k = (cuts k s, 0) ∧ manV s k = ((s.size : Int), (k : Int), (cuts k s).map idV, 0) := by
  have hm := manyC_le s.size k h1
  have hc : cutV s k = (cuts k s, 0) := by
    unfold cutV
    rw [if_neg (by omega), Int.toNat_natCast, if_neg (by omega)]
  refine ⟨hc, ?_⟩
  unfold manV
  rw [hc]; rfl
set_option maxHeartbeats 4000000 in
theorem back_long (s t : ByteArray) (i : Int) (w : World) (h1 : 600 < s.size ∨ 3000 < t.size) : Calls Try.prog 5 #[.string s, .int .u8 i, .string t] w fun e w' => e = .returned (.bool true) ∧ Below w.heap.size w w' := by
  by_cases h2 : 600 < s.size
  · have g1 : (600 : Int) < (s.size : Int) := by omega
    go_enter Try.func5, Try.ntmps5
    go_wp2_with fail
    refine (awake_any _).mono ?_
    rintro e w2 ⟨rfl, hb⟩
    go_wp2
    go_ret
    exact ⟨rfl, hb⟩
  · have g1 : ¬ (600 : Int) < (s.size : Int) := by omega
    have g2 : (3000 : Int) < (t.size : Int) := by omega
    go_enter Try.func5, Try.ntmps5
    go_wp2_with fail
    refine (awake_any _).mono ?_
    rintro e w2 ⟨rfl, hb⟩
    go_wp2
    go_ret
    exact ⟨rfl, hb⟩
set_option maxHeartbeats 8000000 in
theorem back_main (s t : ByteArray) (i : Nat) (w : World) (h1 : s.size ≤ 600) (h2 : t.size ≤ 3000) (hi : i < 256) : Calls Try.prog 5 #[.string s, .int .u8 i, .string t] w fun e w' => e = .returned (.bool true) ∧ Below w.heap.size w w' := by
  have g1 : ¬ (600 : Int) < (s.size : Int) := by omega
  have g2 : ¬ (3000 : Int) < (t.size : Int) := by omega
  obtain ⟨r, hr⟩ : ∃ r, r = i % 64 := ⟨_, rfl⟩
  have hrl : r < 64 := by omega
  have hrem : ((i : Int).tmod 64) = (r : Int) := by rw [hr]; exact (Int.ofNat_tmod i 64).symm
  obtain ⟨k, hk⟩ : ∃ k, k = r + 1 := ⟨_, rfl⟩
  have hk1 : 1 ≤ k ∧ k ≤ 64 := by omega
  have hmy := manyC_le s.size k hk1.1
  obtain ⟨hcv, hmv⟩ := manV_ok2 (s := s) hk1.1 (by omega) h1
  have hchk := check_cuts (s := s) hk1.1 (by omega) (by omega) (by omega)
  have hjn := join_cuts (s := s) hk1.1 (by omega) (by omega) (by omega)
  have hll : (cuts k s).length ≤ 600 := by rw [cuts_many hk1.1 s.size s (Nat.le_refl _)]; omega
  have hrd := read_putB hchk
  have hps := putB_size hchk
  have hput : putM (s.size : Nat) (k : Nat) ((cuts k s).map idV) = (putB s.size k ((cuts k s).map idV), 0) := by unfold putM; rw [if_pos hchk]; rfl
  have hid : ∀ x ∈ (cuts k s).map idV, x.size ≤ 1099511627 := fun x hx => by
    obtain ⟨y, _, rfl⟩ := List.mem_map.1 hx
    rw [idV_size]; omega
  have hlz : ∀ x ∈ cuts k s, x.size ≤ 1099511627 := fun x hx => by
    obtain ⟨j, hj, rfl⟩ := List.getElem_of_mem hx
    have := cuts_sizes hk1.1 j s hj; omega
  have hcat : (catK (cuts k s)).size ≤ 1099511627776 := by rw [cuts_cat hk1.1 s.size s (Nat.le_refl _)]; omega
  rw [List.length_map] at hps
  have T1 := fun W => ccut_any s (k : Int) W
  have T2 := fun W => man_any s (k : Int) W (by omega)
  have T3 := fun W a c al cl ha hl hcl => cjoin_any (s.size : Nat) (k : Nat) ((cuts k s).map idV) a c (cuts k s) al cl W ha hid hl hcl hlz hcat
  have T4 := fun W a c ha => cput_any (s.size : Nat) (k : Nat) ((cuts k s).map idV) a c W ha hid
  have T5 := fun W => cread_any (putB s.size k ((cuts k s).map idV)) W (by omega)
  have T6 := fun a1 c1 a2 c2 W ha hb => same_any (s.size : Nat) (k : Nat) (s.size : Nat) (k : Nat) ((cuts k s).map idV) ((cuts k s).map idV) a1 a2 c1 c2 W ha hb (by rw [List.length_map]; omega)
  have T7 := fun W => cread_any t W (by omega)
  have T8 := fun W a c ha => cput_any (readM t).1 (readM t).2.1 (readM t).2.2.1 a c W ha (fun x hx => by have := readM_okT t x hx; omega)
  have hback : (readM t).2.2.2 = 0 → putM (readM t).1 (readM t).2.1 (readM t).2.2.1 = (t, 0) := fun h => read_back (by rw [← h])
  unfold cutE at T1
  unfold manE mf at T2 T5 T7
  unfold mf at T3 T4 T6 T8
  rw [hcv] at T1
  rw [hmv] at T2
  rw [hjn] at T3
  rw [hput] at T4
  rw [hrd] at T5
  rw [decide_eq_true ⟨rfl, rfl, rfl⟩] at T6
  generalize putB s.size k ((cuts k s).map idV) = PB at *
  generalize hI : (cuts k s).map idV = I at *
  have hIl : I.length = (cuts k s).length := by rw [← hI, List.length_map]
  rw [hIl] at T2 T3 T4 T5 T6
  dsimp only at T1 T2 T5
  clear hI hIl hchk hjn hrd hput hid hlz hcat hcv hmv hr hps
  generalize cuts k s = L at *
  generalize L.length = NL at *
  generalize putM (readM t).1 (readM t).2.1 (readM t).2.2.1 = PM at *
  generalize readM t = RM at *
  obtain ⟨RS, RC, RI, RE⟩ := RM
  obtain ⟨P1, P2⟩ := PM
  dsimp only at *
  generalize RI.length = NR at *
  have hk2 : (k : Int) = (r : Int) + 1 := by omega
  rw [hk2] at T1 T2 T3 T4 T5 T6
  have HT1 := Lib.hid T1; have HT2 := Lib.hid T2; have HT3 := Lib.hid T3; have HT4 := Lib.hid T4; have HT5 := Lib.hid T5; have HT6 := Lib.hid T6; have HT7 := Lib.hid T7; have HT8 := Lib.hid T8
  have HBK := Lib.hid hback
  clear T1 T2 T3 T4 T5 T6 T7 T8 hback
  go_enter Try.func5, Try.ntmps5
  go_wp2_with fail
  refine (HT1.out _).mono ?_
  rintro e w1 ⟨a1, c1, rfl, hc1, hs, hb⟩
  have HS1 := Lib.hid hs; have HB := Lib.hid hb
  clear hs hb
  go_wp2_with fail
  refine (HT2.out _).mono ?_
  rintro e w2 ⟨a2, c2, rfl, hs, hb⟩
  have hbn := below_new w2 (.cells #[.int .i64 s.size, .int .i64 ((r : Int) + 1), .slice a2 NL c2] 31)
  have HM := Lib.hid (Bk.new w2 31 #[.int .i64 s.size, .int .i64 ((r : Int) + 1), .slice a2 NL c2])
  have HS1 := Lib.hid ((HS1.out.keep hb).keep hbn); have HS2 := Lib.hid (hs.keep hbn); have HB := Lib.hid (below_cons (below_cons HB.out hb) hbn)
  clear hs hb hbn HT1 HT2
  go_wp2_with fail
  generalize (w2.alloc (.cells #[.int .i64 s.size, .int .i64 ((r : Int) + 1), .slice a2 NL c2] 31)) = W2 at *
  generalize w2.heap.size = p2 at *
  refine (HT3.out _ _ _ _ _ HS2.out HS1.out hc1).mono ?_
  rintro e w3 ⟨rfl, hb⟩
  have HM := Lib.hid (HM.out.keep hb); have HS2 := Lib.hid (HS2.out.keep hb); have HB := Lib.hid (below_cons HB.out hb)
  have m0 := (HM.out.2 0 _ rfl).1; have m1 := (HM.out.2 1 _ rfl).1; have m2 := (HM.out.2 2 _ rfl).1
  clear hb
  go_wp2_with fail
  refine (HT4.out _ _ _ HS2.out).mono ?_
  rintro e w4 ⟨rfl, hb⟩
  have HM := Lib.hid (HM.out.keep hb); have HS2 := Lib.hid (HS2.out.keep hb); have HB := Lib.hid (below_cons HB.out hb)
  clear hb m0 m1 m2
  go_wp2_with fail
  refine (HT5.out _).mono ?_
  rintro e w5 ⟨a5, c5, rfl, hs, hb⟩
  have hbn := below_new w5 (.cells #[.int .i64 s.size, .int .i64 ((r : Int) + 1), .slice a5 NL c5] 31)
  have HN := Lib.hid (Bk.new w5 31 #[.int .i64 s.size, .int .i64 ((r : Int) + 1), .slice a5 NL c5])
  have HM := Lib.hid ((HM.out.keep hb).keep hbn); have HS2 := Lib.hid ((HS2.out.keep hb).keep hbn); have HS5 := Lib.hid (hs.keep hbn); have HB := Lib.hid (below_cons (below_cons HB.out hb) hbn)
  clear hs hb hbn
  go_wp2_with fail
  generalize (w5.alloc (.cells #[.int .i64 s.size, .int .i64 ((r : Int) + 1), .slice a5 NL c5] 31)) = W5 at *
  generalize w5.heap.size = p5 at *
  refine (HT7.out _).mono ?_
  rintro e w6 ⟨a6, c6, rfl, hs, hb⟩
  have hbn := below_new w6 (.cells #[.int .i64 RS, .int .i64 RC, .slice a6 NR c6] 31)
  have HZ := Lib.hid (Bk.new w6 31 #[.int .i64 RS, .int .i64 RC, .slice a6 NR c6])
  have HM := Lib.hid ((HM.out.keep hb).keep hbn); have HN := Lib.hid ((HN.out.keep hb).keep hbn); have HS2 := Lib.hid ((HS2.out.keep hb).keep hbn); have HS5 := Lib.hid ((HS5.out.keep hb).keep hbn); have HS6 := Lib.hid (hs.keep hbn); have HB := Lib.hid (below_cons (below_cons HB.out hb) hbn)
  clear hs hb hbn
  go_wp2_with fail
  generalize (w6.alloc (.cells #[.int .i64 RS, .int .i64 RC, .slice a6 NR c6] 31)) = W6 at *
  generalize w6.heap.size = p6 at *
  refine (HT8.out _ _ _ HS6.out).mono ?_
  rintro e w7 ⟨rfl, hb⟩
  have HM := Lib.hid (HM.out.keep hb); have HN := Lib.hid (HN.out.keep hb); have HS2 := Lib.hid (HS2.out.keep hb); have HS5 := Lib.hid (HS5.out.keep hb); have HB := Lib.hid (below_cons HB.out hb)
  have m0 := (HM.out.2 0 _ rfl).1; have m1 := (HM.out.2 1 _ rfl).1; have m2 := (HM.out.2 2 _ rfl).1
  have n0 := (HN.out.2 0 _ rfl).1; have n1 := (HN.out.2 1 _ rfl).1; have n2 := (HN.out.2 2 _ rfl).1
  have hss := str_eq (rfl : s = s)
  clear hb
  by_cases hre : RE = 0
  · have hre1 : (RE == 0) = true := by simp [hre]
    have hre2 : (RE != 0) = false := by simp [hre]
    have hpb := HBK.out hre
    simp only [Prod.mk.injEq] at hpb
    obtain ⟨hpb1, hpb2⟩ := hpb
    subst hpb1 hpb2
    have htt := str_eq (rfl : P1 = P1)
    clear hre
    go_wp2_with fail
    refine (HT6.out _ _ _ _ _ HS5.out HS2.out).mono ?_
    rintro e w8 ⟨rfl, hb⟩
    have HB := Lib.hid (below_cons HB.out hb)
    clear hb m0 m1 m2 n0 n1 n2
    go_wp2_with fail
    refine (awake_any _).mono ?_
    rintro e w9 ⟨rfl, hb⟩
    have HB := Lib.hid (below_cons HB.out hb)
    clear hb
    go_wp2
    go_ret
    exact ⟨rfl, HB.out⟩
  · have hre1 : (RE == 0) = false := by simp [hre]
    have hre2 : (RE != 0) = true := by simp [hre]
    clear hre
    go_wp2_with fail
    refine (HT6.out _ _ _ _ _ HS5.out HS2.out).mono ?_
    rintro e w8 ⟨rfl, hb⟩
    have HB := Lib.hid (below_cons HB.out hb)
    clear hb m0 m1 m2 n0 n1 n2
    go_wp2_with fail
    refine (awake_any _).mono ?_
    rintro e w9 ⟨rfl, hb⟩
    have HB := Lib.hid (below_cons HB.out hb)
    clear hb
    go_wp2
    go_ret
    exact ⟨rfl, HB.out⟩
theorem back_law (s : ByteArray) (i : Int) (t : ByteArray) (w : World) (_hs : s.size ≤ 140737488351232) (hi : (Lit.int .u8 i).wf = true) (_ht : t.size ≤ 140737488351232) : Calls Try.prog 5 #[.string s, .int .u8 i, .string t] w fun e w' => e = .returned (.bool true) ∧ Below w.heap.size w w' := by
  have hb : 0 ≤ i ∧ i < 256 := by
    simp [Lit.wf, IntKind.min, IntKind.max, IntKind.signed, IntKind.bits] at hi
    omega
  obtain ⟨j, rfl⟩ : ∃ j : Nat, i = j := ⟨i.toNat, by omega⟩
  by_cases h1 : 600 < s.size ∨ 3000 < t.size
  · exact back_long s t j w h1
  · exact back_main s t j w (by omega) (by omega) (by omega)
end Go.Proofs.Ytanehgnpominiaa

