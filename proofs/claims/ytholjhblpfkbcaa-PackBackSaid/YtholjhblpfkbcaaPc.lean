/-
  The contract of pack's Read.
-/
import Derived.Test.YtholjhblpfkbcaaPb
set_option linter.unusedVariables false
set_option linter.unusedSimpArgs false
namespace Go.Proofs.Ytholjhblpfkbcaa
open Go.RowKit
def strLen : Value → Nat
  | .string x => x.size
  | _ => 0
theorem row_shape {w : World} {B n : Nat} {v : Value} {bs : List Nat} (h : w.ownsRow B 5 1 v n (rowU bs)) : ∃ a cap, v = .slice a n cap ∧ n ≤ cap := by
  obtain ⟨_, ⟨rfl, h0⟩ | ⟨g, cap, cur, rfl, hb, hg, hn, _⟩⟩ := h
  · exact ⟨none, 0, by rw [h0], by omega⟩
  · exact ⟨some ⟨g, 0, none⟩, cap, rfl, hn⟩
theorem row_last {w : World} {B n : Nat} {v : Value} {o : List Nat} {d : Nat} (h : w.ownsRow B 5 1 v n (rowU (o ++ [d]))) (hn : n = o.length + 1) : ∃ g cap, v = .slice (some ⟨g, 0, none⟩) n cap ∧ n ≤ cap ∧ w.cell? ⟨g, o.length, none⟩ = some (.int .u8 (d : Int)) := by
  have h2 := h
  obtain ⟨_, ⟨rfl, h0⟩ | ⟨g, cap, cur, rfl, hb, hg, hn, _⟩⟩ := h
  · omega
  · refine ⟨g, cap, rfl, hn, ?_⟩
    have := h2.cells (g := g) rfl o.length (.int .u8 (d : Int)) (by simp [rowU])
    by_cases h0 : o = []
    · subst h0; simpa [Addr.add] using this
    · simpa [Addr.add, h0] using this
theorem rep_snoc (o : List Nat) (c j : Nat) : o ++ List.replicate (j + 1) c = (o ++ List.replicate j c) ++ [c] := by
  rw [List.replicate_succ', List.append_assoc]
set_option maxHeartbeats 2000000 in
theorem read_any (s : ByteArray) (w : World) (hs : s.size ≤ 1099511627) : Calls Try.prog 6 #[.string s] w fun e w' => e = .returned (.tuple #[.string (txt (rdP s.size (bys s) []).1), .int .i64 (rdP s.size (bys s) []).2]) ∧ Below w.heap.size w w' := by
  obtain ⟨i0, hi, hz0, hz1, hz2⟩ := info_parts infoU8
  obtain ⟨R, hR⟩ : ∃ R, R = rdP s.size (bys s) [] := ⟨_, rfl⟩
  rw [← hR]
  have HR0 := Lib.hid hR
  clear hR
  go_enter Try.func6, Try.ntmps6
  go_wp2
  go_loopw [0, 4] (fun xs v wr => ∃ (x : ByteArray) (o : List Nat) (f : Nat), xs = .string x ∧ x.size ≤ f ∧ x.size ≤ s.size ∧ o.length ≤ 65536 ∧ wr.ownsRow w.heap.size 5 1 v o.length (rowU o) ∧ R = rdP f (bys x) o ∧ Below w.heap.size w wr) (fun xs _ _ => strLen xs)
  case atStart => exact ⟨s, [], s.size, rfl, Nat.le_refl _, Nat.le_refl _, by simp, own_nil _ _ _ _, HR0.out, Below.refl _ _⟩
  case round =>
    obtain ⟨x, o, f, rfl, hxf, hxs, hol, ho, hrd, hb⟩ := hrel
    have HB := Lib.hid hb
    have HRD := Lib.hid hrd
    have HO := Lib.hid ho
    clear hb hrd ho
    by_cases hz : x.size = 0
    · have e0 := empty_of_zero hz
      have HRE : Hid (R = (o, 0)) := Lib.hid (by
        have h0 : bys x = [] := List.eq_nil_of_length_eq_zero (by rw [bys_len]; exact hz)
        rw [HRD.out, h0, rdP_nil])
      have hcv := conv_own HO.out rfl
      go_wp2
      go_ret2
      rw [HRE.out]
      exact ⟨rfl, HB.out⟩
    · have e0 := nonempty_of_pos (b := x) (by omega)
      obtain ⟨f, rfl⟩ : ∃ j, f = j + 1 := ⟨f - 1, by omega⟩
      have hne : bys x ≠ [] := fun h => hz (by rw [← bys_len, h]; rfl)
      obtain ⟨n, c, k, er, hr⟩ : ∃ n c k e, runL (bys x) = (n, c, k, e) := ⟨_, _, _, _, rfl⟩
      have HRN := Lib.hid hr
      have HNE := Lib.hid hne
      have T : Hid (∀ w, Calls Try.prog 10 #[.string x] w fun e w' => e = .returned (.tuple #[.int .i64 (n : Nat), .int .u8 (c : Nat), .int .i64 (k : Nat), .int .i64 er]) ∧ Below w.heap.size w w') := Lib.hid (fun w => by
        have h := run_any x w (by omega)
        unfold runE at h; rw [hr] at h; exact h)
      by_cases he : er = 0
      · subst he
        obtain ⟨q1, q2, q3, q4⟩ := run_ok (bys_lt x) hr
        rw [bys_len] at q2
        clear q1 hr hne
        by_cases hn0 : n = 0
        · subst hn0
          have HRE : Hid (R = ([], 5)) := Lib.hid (by rw [HRD.out, rdP_form HNE.out HRN.out (.inl rfl)])
          obtain ⟨a, cp, rfl, hcap⟩ := row_shape HO.out
          go_wp2_with fail
          refine (T.out _).mono ?_
          rintro e w1 ⟨rfl, hb1⟩
          have HB1 := Lib.hid (below_step HB.out (Nat.le_refl _) hb1)
          clear hb1
          go_wp2
          go_ret2
          rw [HRE.out]
          exact ⟨rfl, HB1.out⟩
        · rcases List.eq_nil_or_concat o with hoe | ⟨oi, d, hoe⟩
          · have HLS : Hid (¬ (n = 0 ∨ o.getLast? = some c)) := Lib.hid (by rw [hoe]; simp [hn0])
            obtain ⟨a, cp, rfl, hcap⟩ := row_shape HO.out
            have d1 : ¬ (n : Int) = 0 := by omega
            have b0 : ((n : Int) == 0) = false := by simp only [beq_eq_false_iff_ne, ne_eq]; exact d1
            have hoz : o.length = 0 := by rw [hoe]; rfl
            have d2 : ¬ (0 : Int) < (o.length : Int) := by omega
            have HOZ := Lib.hid hoz
            clear hoz hoe
            by_cases h3 : 65536 < n + o.length
            · have HRE : Hid (R = ([], 3)) := Lib.hid (by rw [HRD.out, rdP_long HNE.out HRN.out HLS.out h3])
              have d5 : (65536 : Int) - (o.length : Int) < (n : Int) := by omega
              go_wp2_with fail
              refine (T.out _).mono ?_
              rintro e w1 ⟨rfl, hb1⟩
              have HB1 := Lib.hid (below_step HB.out (Nat.le_refl _) hb1)
              clear hb1
              go_wp2
              go_ret2
              rw [HRE.out]
              exact ⟨rfl, HB1.out⟩
            · have HRE : Hid (R = rdP f ((bys x).drop k) (o ++ List.replicate n c)) := Lib.hid (by rw [HRD.out, rdP_step HNE.out HRN.out HLS.out h3])
              have d5 : ¬ (65536 : Int) - (o.length : Int) < (n : Int) := by omega
              have hnl : n + o.length ≤ 65536 := by omega
              go_wp2_with fail
              refine (T.out _).mono ?_
              rintro e w1 ⟨rfl, hb1⟩
              have HB1 := Lib.hid (below_step HB.out (Nat.le_refl _) hb1)
              have HO1 := Lib.hid (own_kept HO.out hb1)
              clear hb1
              go_wp2
              obtain ⟨wo, rfl⟩ : ∃ wo : World, wo = wr := ⟨_, rfl⟩
              go_loopw [4, 47] (fun v i wx => ∃ j : Nat, i = .int .i64 j ∧ j ≤ n ∧ wx.ownsRow w.heap.size 5 1 v (o ++ List.replicate j c).length (rowU (o ++ List.replicate j c)) ∧ Below w.heap.size w wx) (fun _ i _ => n - (intOf i).toNat)
              case atStart => exact ⟨0, rfl, by omega, by simpa using HO1.out, HB1.out⟩
              case round =>
                obtain ⟨j, rfl, hj, ho2, hb2⟩ := hrel
                have HO2 := Lib.hid ho2
                have HB2 := Lib.hid hb2
                clear ho2 hb2
                by_cases hjn : j < n
                · have d6 : (j : Int) < (n : Int) := by omega
                  go_wp2_with (at_builtin; refine wpList_append_own _ rfl _ _ 29 rfl w.heap.size 5 i0 (.int .u8 0) 1 1 Try.underlying29 hi hz0 hz1 hz2 rfl (by decide) _ _ _ rfl (HO2.out.alloc _) ⟨_, 0, none⟩ 1 1 [.int .u8 (c : Int)] rfl rfl ?a1 ?a2 ?a3 ?a4 ?a5 ?_)
                  case a1 => intro j u hj; exact new_cells _ _ _ j u hj
                  case a2 => intro u hu; simp at hu; subst hu; rfl
                  case a3 => simp only [List.length_append, List.length_replicate]; unfold maxLen; omega
                  case a4 => simp only [List.length_append, List.length_replicate]; omega
                  case a5 => have := HB2.out.size; simp; omega
                  intro v5 w5 hown5 hg5 _
                  have HB5 : Hid (Below w.heap.size w w5) := Lib.hid ((HB2.out.alloc HB2.out.size _).grown hg5 (by have := HB2.out.size; simp; omega) (fun q hq => (HO2.out.lt q hq).1))
                  have HO5 : Hid (w5.ownsRow w.heap.size 5 1 v5 (o ++ List.replicate (j + 1) c).length (rowU (o ++ List.replicate (j + 1) c))) := Lib.hid (by
                    rw [show (o ++ List.replicate (j + 1) c).length = o.length + j + 1 by simp; omega, rep_snoc, ← rowU_snoc]; exact hown5)
                  clear hown5 hg5
                  go_wp2
                  go_roundw
                  case rel => exact ⟨j + 1, vint (by omega), by omega, HO5.out, HB5.out⟩
                  case measure => simp [intOf]; omega
                · obtain rfl : j = n := by omega
                  have d6 : ¬ (j : Int) < (j : Int) := by omega
                  have d7 : (0 : Int) ≤ (k : Int) := by omega
                  have d8 : (k : Int) ≤ (x.size : Int) := by omega
                  have hbx : bys (x.extract k x.size) = (bys x).drop k := by rw [bys_extract, List.take_of_length_le (by rw [bys_len]; exact Nat.le_refl _)]
                  have hxe : (x.extract k x.size).size = x.size - k := by rw [ByteArray.size_extract]; omega
                  have HXE := Lib.hid hxe
                  have HRQ : Hid (R = rdP f (bys (x.extract k x.size)) (o ++ List.replicate j c)) := Lib.hid (by rw [hbx]; exact HRE.out)
                  clear hxe hbx
                  go_wp2
                  go_roundw
                  case rel => exact ⟨x.extract k x.size, o ++ List.replicate j c, f, rfl, by have := HXE.out; omega, by have := HXE.out; omega, by simp; omega, HO2.out, HRQ.out, HB2.out⟩
                  case measure => have := HXE.out; simp only [strLen]; omega
          · rw [List.concat_eq_append] at hoe
            have hlen : o.length = oi.length + 1 := by rw [hoe]; simp
            have hrow := HO.out
            rw [show rowU o = rowU (oi ++ [d]) by rw [hoe]] at hrow
            obtain ⟨g, cp, rfl, hcap, hcell⟩ := row_last hrow hlen
            clear hrow
            have hla : o.getLast? = some d := by rw [hoe]; simp
            have HCL := Lib.hid hcell
            clear hoe hcell
            obtain ⟨q, hq⟩ : ∃ q, q = oi.length := ⟨_, rfl⟩
            rw [← hq] at HCL hlen
            clear hq
            have d1 : ¬ (n : Int) = 0 := by omega
            have b0 : ((n : Int) == 0) = false := by simp only [beq_eq_false_iff_ne, ne_eq]; exact d1
            have d2 : (0 : Int) < (o.length : Int) := by omega
            have d3 : (o.length : Int) - 1 = (q : Int) := by omega
            have d4 : (0 : Int) ≤ (q : Int) := by omega
            have d41 : (q : Int) < (o.length : Int) := by omega
            have HLEN := Lib.hid hlen
            clear hlen
            have HGL : Hid (g < wr.heap.size) := Lib.hid (HO.out.lt g rfl).2
            by_cases hdc : d = c
            · subst hdc
              have HRE : Hid (R = ([], 5)) := Lib.hid (by rw [HRD.out, rdP_form HNE.out HRN.out (.inr hla)])
              go_wp2_with fail
              refine (T.out _).mono ?_
              rintro e w1 ⟨rfl, hb1⟩
              have HB1 := Lib.hid (below_step HB.out (Nat.le_refl _) hb1)
              have hc1 : w1.cell? ⟨g, q, none⟩ = some (.int .u8 (d : Int)) := by rw [hb1.cell (p := ⟨g, q, none⟩) HGL.out]; exact HCL.out
              clear hb1
              go_wp2
              go_ret2
              rw [HRE.out]
              exact ⟨rfl, HB1.out⟩
            · have b1 : ((d : Int) == (c : Int)) = false := by simp only [beq_eq_false_iff_ne, ne_eq, Int.natCast_inj]; exact hdc
              have d9 : ¬ (d : Int) = (c : Int) := by omega
              have HLS : Hid (¬ (n = 0 ∨ o.getLast? = some c)) := Lib.hid (by rw [hla]; simp [hn0, hdc])
              clear hla
              by_cases h3 : 65536 < n + o.length
              · have HRE : Hid (R = ([], 3)) := Lib.hid (by rw [HRD.out, rdP_long HNE.out HRN.out HLS.out h3])
                have d5 : (65536 : Int) - (o.length : Int) < (n : Int) := by omega
                go_wp2_with fail
                refine (T.out _).mono ?_
                rintro e w1 ⟨rfl, hb1⟩
                have HB1 := Lib.hid (below_step HB.out (Nat.le_refl _) hb1)
                have hc1 : w1.cell? ⟨g, q, none⟩ = some (.int .u8 (d : Int)) := by rw [hb1.cell (p := ⟨g, q, none⟩) HGL.out]; exact HCL.out
                clear hb1
                go_wp2
                go_ret2
                rw [HRE.out]
                exact ⟨rfl, HB1.out⟩
              · have HRE : Hid (R = rdP f ((bys x).drop k) (o ++ List.replicate n c)) := Lib.hid (by rw [HRD.out, rdP_step HNE.out HRN.out HLS.out h3])
                have d5 : ¬ (65536 : Int) - (o.length : Int) < (n : Int) := by omega
                have hnl : n + o.length ≤ 65536 := by omega
                go_wp2_with fail
                refine (T.out _).mono ?_
                rintro e w1 ⟨rfl, hb1⟩
                have HB1 := Lib.hid (below_step HB.out (Nat.le_refl _) hb1)
                have HO1 := Lib.hid (own_kept HO.out hb1)
                have hc1 : w1.cell? ⟨g, q, none⟩ = some (.int .u8 (d : Int)) := by rw [hb1.cell (p := ⟨g, q, none⟩) HGL.out]; exact HCL.out
                clear hb1
                go_wp2
                obtain ⟨wo, rfl⟩ : ∃ wo : World, wo = wr := ⟨_, rfl⟩
                go_loopw [4, 47] (fun v i wx => ∃ j : Nat, i = .int .i64 j ∧ j ≤ n ∧ wx.ownsRow w.heap.size 5 1 v (o ++ List.replicate j c).length (rowU (o ++ List.replicate j c)) ∧ Below w.heap.size w wx) (fun _ i _ => n - (intOf i).toNat)
                case atStart => exact ⟨0, rfl, by omega, by simpa using HO1.out, HB1.out⟩
                case round =>
                  obtain ⟨j, rfl, hj, ho2, hb2⟩ := hrel
                  have HO2 := Lib.hid ho2
                  have HB2 := Lib.hid hb2
                  clear ho2 hb2
                  by_cases hjn : j < n
                  · have d6 : (j : Int) < (n : Int) := by omega
                    go_wp2_with (at_builtin; refine wpList_append_own _ rfl _ _ 29 rfl w.heap.size 5 i0 (.int .u8 0) 1 1 Try.underlying29 hi hz0 hz1 hz2 rfl (by decide) _ _ _ rfl (HO2.out.alloc _) ⟨_, 0, none⟩ 1 1 [.int .u8 (c : Int)] rfl rfl ?a1 ?a2 ?a3 ?a4 ?a5 ?_)
                    case a1 => intro j u hj; exact new_cells _ _ _ j u hj
                    case a2 => intro u hu; simp at hu; subst hu; rfl
                    case a3 => simp only [List.length_append, List.length_replicate]; unfold maxLen; omega
                    case a4 => simp only [List.length_append, List.length_replicate]; omega
                    case a5 => have := HB2.out.size; simp; omega
                    intro v5 w5 hown5 hg5 _
                    have HB5 : Hid (Below w.heap.size w w5) := Lib.hid ((HB2.out.alloc HB2.out.size _).grown hg5 (by have := HB2.out.size; simp; omega) (fun q hq => (HO2.out.lt q hq).1))
                    have HO5 : Hid (w5.ownsRow w.heap.size 5 1 v5 (o ++ List.replicate (j + 1) c).length (rowU (o ++ List.replicate (j + 1) c))) := Lib.hid (by
                      rw [show (o ++ List.replicate (j + 1) c).length = o.length + j + 1 by simp; omega, rep_snoc, ← rowU_snoc]; exact hown5)
                    clear hown5 hg5
                    go_wp2
                    go_roundw
                    case rel => exact ⟨j + 1, vint (by omega), by omega, HO5.out, HB5.out⟩
                    case measure => simp [intOf]; omega
                  · obtain rfl : j = n := by omega
                    have d6 : ¬ (j : Int) < (j : Int) := by omega
                    have d7 : (0 : Int) ≤ (k : Int) := by omega
                    have d8 : (k : Int) ≤ (x.size : Int) := by omega
                    have hbx : bys (x.extract k x.size) = (bys x).drop k := by rw [bys_extract, List.take_of_length_le (by rw [bys_len]; exact Nat.le_refl _)]
                    have hxe : (x.extract k x.size).size = x.size - k := by rw [ByteArray.size_extract]; omega
                    have HXE := Lib.hid hxe
                    have HRQ : Hid (R = rdP f (bys (x.extract k x.size)) (o ++ List.replicate j c)) := Lib.hid (by rw [hbx]; exact HRE.out)
                    clear hxe hbx
                    go_wp2
                    go_roundw
                    case rel => exact ⟨x.extract k x.size, o ++ List.replicate j c, f, rfl, by have := HXE.out; omega, by have := HXE.out; omega, by simp; omega, HO2.out, HRQ.out, HB2.out⟩
                    case measure => have := HXE.out; simp only [strLen]; omega
      · have HRE : Hid (R = ([], er)) := Lib.hid (by rw [HRD.out, rdP_bad hne hr he])
        clear hr hne
        go_wp2_with fail
        refine (T.out _).mono ?_
        rintro e w1 ⟨rfl, hb1⟩
        have HB1 := Lib.hid (below_step HB.out (Nat.le_refl _) hb1)
        clear hb1
        go_wp2
        go_ret2
        rw [HRE.out]
        exact ⟨rfl, HB1.out⟩
end Go.Proofs.Ytholjhblpfkbcaa

