/-
  The law of ChunkCuts for all arguments that the row lets in. Conditions: none.
-/
import Derived.Test.YtanehgnpominiaaY2
set_option linter.unusedVariables false
set_option linter.unusedSimpArgs false
set_option maxRecDepth 100000
namespace Go.Proofs.Ytanehgnpominiaa
open Go.RowKit
set_option maxHeartbeats 4000000 in
theorem cuts_few (s : ByteArray) (n : Int) (w : World) (h1 : 2000 < s.size) (h2 : s.size ≤ 32768) : Calls Try.prog 3 #[.string s, .int .i64 n] w fun e w' => e = .returned (.bool true) ∧ Below w.heap.size w w' := by
  have g1 : (2000 : Int) < (s.size : Int) := by omega
  have g2 : (s.size : Int) ≤ 32768 := by omega
  go_enter Try.func3, Try.ntmps3
  go_wp2_with fail
  refine (awake_any _).mono ?_
  rintro e w2 ⟨rfl, hb⟩
  go_wp2
  go_ret
  exact ⟨rfl, hb⟩
set_option maxHeartbeats 8000000 in
theorem cuts_main (s : ByteArray) (n : Int) (w : World) (hs : s.size ≤ 140737488351232) (h : ¬ (2000 < s.size ∧ s.size ≤ 32768)) : Calls Try.prog 3 #[.string s, .int .i64 n] w fun e w' => e = .returned (.bool true) ∧ Below w.heap.size w w' := by
  have hlen := cutV_len s n
  have T1 := Lib.hid (fun W => ccut_any s n W); have T2 := Lib.hid (fun W => rcut_any s n W)
  have T3 := Lib.hid (fun W => man_any s n W (by omega)); have T4 := Lib.hid (fun W => rman_any s n W (by omega))
  unfold cutE at T1 T2
  unfold manE mf at T3 T4
  have hml : (manV s n).2.2.1.length ≤ 4096 := by
    unfold manV
    split
    · show ((cutV s n).1.map idV).length ≤ 4096
      rw [List.length_map]; exact hlen
    · exact Nat.zero_le _
  generalize manV s n = MV at *
  obtain ⟨S, C, I, er⟩ := MV
  generalize cutV s n = CV at *
  obtain ⟨L, ec⟩ := CV
  dsimp only at *
  have TX := Lib.hid (fun a b c d W (ha : Sl strC 1 W a L) (hb : Sl strC 1 W b L) => texts_eq L L a b c d W ha hb (by omega))
  rw [decide_eq_true rfl] at TX
  have TS := Lib.hid (fun a1 c1 a2 c2 W h1 h2 => same_any S C S C I I a1 a2 c1 c2 W h1 h2 (by omega))
  unfold mf at TS
  rw [decide_eq_true ⟨rfl, rfl, rfl⟩] at TS
  generalize L.length = NL at *
  generalize I.length = NI at *
  have hee : (ec == ec) = true := by simp
  have hrr : (er == er) = true := by simp
  go_enter Try.func3, Try.ntmps3
  by_cases g1 : (2000 : Int) < (s.size : Int)
  · have g2 : ¬ (s.size : Int) ≤ 32768 := by omega
    go_wp2_with fail
    refine (T1.out _).mono ?_
    rintro e w1 ⟨a1, c1, rfl, _, hs1, hb⟩
    have HS1 := Lib.hid hs1; have HB := Lib.hid hb
    clear hs1 hb
    go_wp2_with fail
    refine (T2.out _).mono ?_
    rintro e w2 ⟨a2, c2, rfl, _, hs2, hb⟩
    have HS2 := Lib.hid hs2; have HS1 := Lib.hid (HS1.out.keep hb); have HB := Lib.hid (below_cons HB.out hb)
    clear hs2 hb
    by_cases g3 : (60 : Int) < (NL : Int)
    · go_wp2_with fail
      refine (TX.out _ _ _ _ _ HS1.out HS2.out).mono ?_
      rintro e w3 ⟨rfl, k, rfl⟩
      have HB := Lib.hid (below_drewN HB.out k)
      go_wp2_with fail
      refine (awake_any _).mono ?_
      rintro e w4 ⟨rfl, hb⟩
      have HB := Lib.hid (below_cons HB.out hb)
      clear hb
      go_wp2
      go_ret
      exact ⟨rfl, HB.out⟩
    · go_wp2_with fail
      refine (T3.out _).mono ?_
      rintro e w3 ⟨a3, c3, rfl, hs3, hb⟩
      have hbn := below_new w3 (.cells #[.int .i64 S, .int .i64 C, .slice a3 NI c3] 31)
      have HM := Lib.hid (Bk.new w3 31 #[.int .i64 S, .int .i64 C, .slice a3 NI c3])
      have HS3 := Lib.hid (hs3.keep hbn); have HS1 := Lib.hid ((HS1.out.keep hb).keep hbn); have HS2 := Lib.hid ((HS2.out.keep hb).keep hbn); have HB := Lib.hid (below_cons (below_cons HB.out hb) hbn)
      clear hs3 hb hbn
      go_wp2_with fail
      generalize (w3.alloc (.cells #[.int .i64 S, .int .i64 C, .slice a3 NI c3] 31)) = W3 at *
      generalize w3.heap.size = p3 at *
      refine (T4.out _).mono ?_
      rintro e w4 ⟨a4, c4, rfl, hs4, hb⟩
      have hbn := below_new w4 (.cells #[.int .i64 S, .int .i64 C, .slice a4 NI c4] 31)
      have HM4 := Lib.hid (Bk.new w4 31 #[.int .i64 S, .int .i64 C, .slice a4 NI c4])
      have HM := Lib.hid ((HM.out.keep hb).keep hbn)
      have HS4 := Lib.hid (hs4.keep hbn); have HS3 := Lib.hid ((HS3.out.keep hb).keep hbn); have HS1 := Lib.hid ((HS1.out.keep hb).keep hbn); have HS2 := Lib.hid ((HS2.out.keep hb).keep hbn); have HB := Lib.hid (below_cons (below_cons HB.out hb) hbn)
      clear hs4 hb hbn
      go_wp2_with fail
      generalize (w4.alloc (.cells #[.int .i64 S, .int .i64 C, .slice a4 NI c4] 31)) = W4 at *
      generalize w4.heap.size = p4 at *
      refine (TX.out _ _ _ _ _ HS1.out HS2.out).mono ?_
      rintro e w5 ⟨rfl, k, rfl⟩
      have hkb := below_drewN (Below.refl W4.heap.size W4) k
      have HM := Lib.hid (HM.out.keep hkb); have HM4 := Lib.hid (HM4.out.keep hkb); have HS3 := Lib.hid (HS3.out.keep hkb); have HS4 := Lib.hid (HS4.out.keep hkb)
      have HB := Lib.hid (below_drewN HB.out k)
      have m0 := (HM.out.2 0 _ rfl).1; have m1 := (HM.out.2 1 _ rfl).1; have m2 := (HM.out.2 2 _ rfl).1
      have n0 := (HM4.out.2 0 _ rfl).1; have n1 := (HM4.out.2 1 _ rfl).1; have n2 := (HM4.out.2 2 _ rfl).1
      clear hkb
      generalize W4.drewN k = W5 at *
      go_wp2_with fail
      refine (TS.out _ _ _ _ _ HS3.out HS4.out).mono ?_
      rintro e w6 ⟨rfl, hb⟩
      have HB := Lib.hid (below_cons HB.out hb)
      clear hb m0 m1 m2 n0 n1 n2
      go_wp2_with fail
      refine (awake_any _).mono ?_
      rintro e w7 ⟨rfl, hb⟩
      have HB := Lib.hid (below_cons HB.out hb)
      clear hb
      go_wp2
      go_ret
      exact ⟨rfl, HB.out⟩
  · go_wp2_with fail
    refine (T1.out _).mono ?_
    rintro e w1 ⟨a1, c1, rfl, _, hs1, hb⟩
    have HS1 := Lib.hid hs1; have HB := Lib.hid hb
    clear hs1 hb
    go_wp2_with fail
    refine (T2.out _).mono ?_
    rintro e w2 ⟨a2, c2, rfl, _, hs2, hb⟩
    have HS2 := Lib.hid hs2; have HS1 := Lib.hid (HS1.out.keep hb); have HB := Lib.hid (below_cons HB.out hb)
    clear hs2 hb
    by_cases g3 : (60 : Int) < (NL : Int)
    · go_wp2_with fail
      refine (TX.out _ _ _ _ _ HS1.out HS2.out).mono ?_
      rintro e w3 ⟨rfl, k, rfl⟩
      have HB := Lib.hid (below_drewN HB.out k)
      go_wp2_with fail
      refine (awake_any _).mono ?_
      rintro e w4 ⟨rfl, hb⟩
      have HB := Lib.hid (below_cons HB.out hb)
      clear hb
      go_wp2
      go_ret
      exact ⟨rfl, HB.out⟩
    · go_wp2_with fail
      refine (T3.out _).mono ?_
      rintro e w3 ⟨a3, c3, rfl, hs3, hb⟩
      have hbn := below_new w3 (.cells #[.int .i64 S, .int .i64 C, .slice a3 NI c3] 31)
      have HM := Lib.hid (Bk.new w3 31 #[.int .i64 S, .int .i64 C, .slice a3 NI c3])
      have HS3 := Lib.hid (hs3.keep hbn); have HS1 := Lib.hid ((HS1.out.keep hb).keep hbn); have HS2 := Lib.hid ((HS2.out.keep hb).keep hbn); have HB := Lib.hid (below_cons (below_cons HB.out hb) hbn)
      clear hs3 hb hbn
      go_wp2_with fail
      generalize (w3.alloc (.cells #[.int .i64 S, .int .i64 C, .slice a3 NI c3] 31)) = W3 at *
      generalize w3.heap.size = p3 at *
      refine (T4.out _).mono ?_
      rintro e w4 ⟨a4, c4, rfl, hs4, hb⟩
      have hbn := below_new w4 (.cells #[.int .i64 S, .int .i64 C, .slice a4 NI c4] 31)
      have HM4 := Lib.hid (Bk.new w4 31 #[.int .i64 S, .int .i64 C, .slice a4 NI c4])
      have HM := Lib.hid ((HM.out.keep hb).keep hbn)
      have HS4 := Lib.hid (hs4.keep hbn); have HS3 := Lib.hid ((HS3.out.keep hb).keep hbn); have HS1 := Lib.hid ((HS1.out.keep hb).keep hbn); have HS2 := Lib.hid ((HS2.out.keep hb).keep hbn); have HB := Lib.hid (below_cons (below_cons HB.out hb) hbn)
      clear hs4 hb hbn
      go_wp2_with fail
      generalize (w4.alloc (.cells #[.int .i64 S, .int .i64 C, .slice a4 NI c4] 31)) = W4 at *
      generalize w4.heap.size = p4 at *
      refine (TX.out _ _ _ _ _ HS1.out HS2.out).mono ?_
      rintro e w5 ⟨rfl, k, rfl⟩
      have hkb := below_drewN (Below.refl W4.heap.size W4) k
      have HM := Lib.hid (HM.out.keep hkb); have HM4 := Lib.hid (HM4.out.keep hkb); have HS3 := Lib.hid (HS3.out.keep hkb); have HS4 := Lib.hid (HS4.out.keep hkb)
      have HB := Lib.hid (below_drewN HB.out k)
      have m0 := (HM.out.2 0 _ rfl).1; have m1 := (HM.out.2 1 _ rfl).1; have m2 := (HM.out.2 2 _ rfl).1
      have n0 := (HM4.out.2 0 _ rfl).1; have n1 := (HM4.out.2 1 _ rfl).1; have n2 := (HM4.out.2 2 _ rfl).1
      clear hkb
      generalize W4.drewN k = W5 at *
      go_wp2_with fail
      refine (TS.out _ _ _ _ _ HS3.out HS4.out).mono ?_
      rintro e w6 ⟨rfl, hb⟩
      have HB := Lib.hid (below_cons HB.out hb)
      clear hb m0 m1 m2 n0 n1 n2
      go_wp2_with fail
      refine (awake_any _).mono ?_
      rintro e w7 ⟨rfl, hb⟩
      have HB := Lib.hid (below_cons HB.out hb)
      clear hb
      go_wp2
      go_ret
      exact ⟨rfl, HB.out⟩
theorem cuts_law (s : ByteArray) (n : Int) (w : World) (hs : s.size ≤ 140737488351232) (_h : (Lit.int .i64 n).wf = true) : Calls Try.prog 3 #[.string s, .int .i64 n] w fun e w' => e = .returned (.bool true) ∧ Below w.heap.size w w' := by
  by_cases h1 : 2000 < s.size ∧ s.size ≤ 32768
  · exact cuts_few s n w h1.1 h1.2
  · exact cuts_main s n w hs h1
end Go.Proofs.Ytanehgnpominiaa

