/-
  The law of RollCuts for all arguments that the row lets in. Conditions: none.
-/
import Derived.Test.YtmjcbkjihdbhoaaF
import Derived.Test.YtmjcbkjihdbhoaaOpen
set_option linter.unusedVariables false
set_option linter.unusedSimpArgs false
namespace Go.Proofs.Ytmjcbkjihdbhoaa
open Go.RowKit
def strLen (v : Value) : Nat := match v with
  | .string r => r.size
  | _ => 0
theorem own_shape {w : World} {B : Nat} {e : TypeId} {size : Nat} {v : Value} {n : Nat} {xs : List Value} (h : w.ownsRow B e size v n xs) : ∃ a cap, v = .slice a n cap := by
  obtain ⟨_, ⟨rfl, rfl⟩ | ⟨g, cap, cur, rfl, _⟩⟩ := h
  · exact ⟨none, 0, rfl⟩
  · exact ⟨_, cap, rfl⟩
set_option maxRecDepth 100000 in
set_option maxHeartbeats 8000000 in
theorem cuts_few (s : ByteArray) (a b m : Int) (w : World) (h1 : 600 < s.size) (h2 : s.size ≤ 32768) : Calls Try.prog 3 #[.string s, .agg #[.int .i64 a, .int .i64 b, .int .u32 m]] w fun e w' => e = .returned (.bool true) ∧ Below w.heap.size w w' := by
  have g1 : (600 : Int) < (s.size : Int) := by omega
  have g2 : (s.size : Int) ≤ 32768 := by omega
  have HB := Lib.hid (below_new w (.cells #[.int .i64 a, .int .i64 b, .int .u32 m] 24))
  go_enter Try.func3, Try.ntmps3
  go_wp2_with fail
  refine (awake_any _).mono ?_
  rintro e w2 ⟨rfl, hb⟩
  have HB2 := Lib.hid (below_cons HB.out hb)
  clear hb
  go_wp2
  go_ret
  exact ⟨rfl, HB2.out⟩
set_option maxRecDepth 100000 in
set_option maxHeartbeats 8000000 in
theorem cuts_bad (s : ByteArray) (a b m : Int) (w : World) (h1 : s.size ≤ 600 ∨ 32768 < s.size) (h : a < 1 ∨ b < a ∨ 4096 < b) : Calls Try.prog 3 #[.string s, .agg #[.int .i64 a, .int .i64 b, .int .u32 m]] w fun e w' => e = .returned (.bool true) ∧ Below w.heap.size w w' := by
  have HB := Lib.hid (below_new w (.cells #[.int .i64 a, .int .i64 b, .int .u32 m] 24))
  have T := Lib.hid (fun W => cut_bad s a b m W h)
  by_cases g0 : (600 : Int) < (s.size : Int)
  · have g2 : ¬ (s.size : Int) ≤ 32768 := by omega
    by_cases k1 : a < 1
    · go_enter Try.func3, Try.ntmps3
      go_wp2_with fail
      refine (T.out _).mono ?_
      rintro e w1 ⟨rfl, rfl⟩
      go_wp2_with fail
      refine (awake_any _).mono ?_
      rintro e w2 ⟨rfl, hb⟩
      have HB2 := Lib.hid (below_cons HB.out hb)
      clear hb
      go_wp2
      go_ret
      exact ⟨rfl, HB2.out⟩
    · by_cases k2 : b < a
      · go_enter Try.func3, Try.ntmps3
        go_wp2_with fail
        refine (T.out _).mono ?_
        rintro e w1 ⟨rfl, rfl⟩
        go_wp2_with fail
        refine (awake_any _).mono ?_
        rintro e w2 ⟨rfl, hb⟩
        have HB2 := Lib.hid (below_cons HB.out hb)
        clear hb
        go_wp2
        go_ret
        exact ⟨rfl, HB2.out⟩
      · have k3 : 4096 < b := by omega
        go_enter Try.func3, Try.ntmps3
        go_wp2_with fail
        refine (T.out _).mono ?_
        rintro e w1 ⟨rfl, rfl⟩
        go_wp2_with fail
        refine (awake_any _).mono ?_
        rintro e w2 ⟨rfl, hb⟩
        have HB2 := Lib.hid (below_cons HB.out hb)
        clear hb
        go_wp2
        go_ret
        exact ⟨rfl, HB2.out⟩
  · by_cases k1 : a < 1
    · go_enter Try.func3, Try.ntmps3
      go_wp2_with fail
      refine (T.out _).mono ?_
      rintro e w1 ⟨rfl, rfl⟩
      go_wp2_with fail
      refine (awake_any _).mono ?_
      rintro e w2 ⟨rfl, hb⟩
      have HB2 := Lib.hid (below_cons HB.out hb)
      clear hb
      go_wp2
      go_ret
      exact ⟨rfl, HB2.out⟩
    · by_cases k2 : b < a
      · go_enter Try.func3, Try.ntmps3
        go_wp2_with fail
        refine (T.out _).mono ?_
        rintro e w1 ⟨rfl, rfl⟩
        go_wp2_with fail
        refine (awake_any _).mono ?_
        rintro e w2 ⟨rfl, hb⟩
        have HB2 := Lib.hid (below_cons HB.out hb)
        clear hb
        go_wp2
        go_ret
        exact ⟨rfl, HB2.out⟩
      · have k3 : 4096 < b := by omega
        go_enter Try.func3, Try.ntmps3
        go_wp2_with fail
        refine (T.out _).mono ?_
        rintro e w1 ⟨rfl, rfl⟩
        go_wp2_with fail
        refine (awake_any _).mono ?_
        rintro e w2 ⟨rfl, hb⟩
        have HB2 := Lib.hid (below_cons HB.out hb)
        clear hb
        go_wp2
        go_ret
        exact ⟨rfl, HB2.out⟩
set_option maxRecDepth 100000 in
set_option maxHeartbeats 8000000 in
theorem cuts_long (s : ByteArray) (a b m : Int) (w : World) (h1 : 32768 < s.size) (h : ¬ (a < 1 ∨ b < a ∨ 4096 < b)) : Calls Try.prog 3 #[.string s, .agg #[.int .i64 a, .int .i64 b, .int .u32 m]] w fun e w' => e = .returned (.bool true) ∧ Below w.heap.size w w' := by
  have g0 : (600 : Int) < (s.size : Int) := by omega
  have g2 : ¬ (s.size : Int) ≤ 32768 := by omega
  have g3 : (32768 : Int) < (s.size : Int) := by omega
  have k1 : ¬ a < 1 := by omega
  have k2 : ¬ b < a := by omega
  have k3 : ¬ 4096 < b := by omega
  have HB := Lib.hid (below_new w (.cells #[.int .i64 a, .int .i64 b, .int .u32 m] 24))
  have T := Lib.hid (fun W => cut_long s a b m W h h1)
  clear h
  go_enter Try.func3, Try.ntmps3
  go_wp2_with fail
  refine (T.out _).mono ?_
  rintro e w1 ⟨rfl, rfl⟩
  go_wp2_with fail
  refine (awake_any _).mono ?_
  rintro e w2 ⟨rfl, hb⟩
  have HB2 := Lib.hid (below_cons HB.out hb)
  clear hb
  go_wp2
  go_ret
  exact ⟨rfl, HB2.out⟩
set_option maxRecDepth 100000 in
set_option maxHeartbeats 8000000 in
theorem cuts_main (s : ByteArray) (lo hi : Nat) (m : Int) (w : World) (h1 : s.size ≤ 600) (hlo : 1 ≤ lo) (hlh : lo ≤ hi) (hhi : hi ≤ 4096) : Calls Try.prog 3 #[.string s, .agg #[.int .i64 lo, .int .i64 hi, .int .u32 m]] w fun e w' => e = .returned (.bool true) ∧ Below w.heap.size w w' := by
  obtain ⟨i0, hi0, hz0, hz1, hz2⟩ := info_parts infoStr
  have g0 : ¬ (600 : Int) < (s.size : Int) := by omega
  have g3 : ¬ (32768 : Int) < (s.size : Int) := by omega
  have k1 : ¬ (lo : Int) < 1 := by omega
  have k2 : ¬ (hi : Int) < (lo : Int) := by omega
  have k3 : ¬ (4096 : Int) < (hi : Int) := by omega
  have d1 : decide ((lo : Int) < 1) = false := decide_eq_false k1
  have d2 : decide (hi < lo) = false := decide_eq_false (by omega)
  have d3 : decide ((4096 : Int) < (hi : Int)) = false := decide_eq_false k3
  have d4 : decide ((32768 : Int) < (s.size : Int)) = false := decide_eq_false g3
  have hA := Bk.new w 24 #[.int .i64 lo, .int .i64 hi, .int .u32 m]
  have hB := below_new w (.cells #[.int .i64 lo, .int .i64 hi, .int .u32 m] 24)
  have HA := Lib.hid hA; have HB := Lib.hid hB
  have T := Lib.hid (fun W => cut_any s lo hi m W hlo hlh hhi (by omega))
  clear hA hB
  go_enter Try.func3, Try.ntmps3
  go_wp2_with fail
  refine (T.out _).mono ?_
  rintro e w1 ⟨al, cl, rfl, hsl, hb⟩
  have HA1 := Lib.hid (HA.out.keep hb); have HB1 := Lib.hid (below_cons HB.out hb); have HSL := Lib.hid hsl
  clear hb hsl T HA HB
  have hll := cuts_len (m := m) hlo hlh s.size s (Nat.le_refl _)
  obtain ⟨NL, hNL⟩ : ∃ n, n = (cuts lo hi m s).length := ⟨_, rfl⟩
  have HNL := Lib.hid hNL
  rw [← hNL] at hll ⊢
  clear hNL
  have c0 := (HA1.out.2 0 _ rfl).1; have c1 := (HA1.out.2 1 _ rfl).1; have c2 := (HA1.out.2 2 _ rfl).1
  go_wp2
  clear c0 c1 c2
  go_loopw [7, 8] (fun v t wr => ∃ (pre : List ByteArray) (r : ByteArray), t = .string r ∧ cuts lo hi m s = pre ++ cuts lo hi m r ∧ r.size ≤ 600 ∧ wr.ownsRow w1.heap.size 9 1 v pre.length (pre.flatMap strC) ∧ Below w1.heap.size w1 wr) (fun _ t _ => strLen t)
  case atStart => exact ⟨[], s, rfl, rfl, h1, own_nil _ _ _ _, Below.refl _ _⟩
  case round =>
    obtain ⟨pre, r, rfl, hcut, hr, hown, hbw⟩ := hrel
    have HO := Lib.hid hown; have HBW := Lib.hid hbw; have HC := Lib.hid hcut
    have hpl : pre.length ≤ 600 := by
      have := congrArg List.length hcut
      rw [List.length_append, ← HNL.out] at this
      omega
    clear hown hbw hcut
    by_cases h0 : r.size = 0
    · have hem := empty_of_zero h0
      have HE : Hid (cuts lo hi m s = pre) := Lib.hid (by rw [HC.out, cuts_nil lo hi m r h0, List.append_nil])
      obtain ⟨av, cv, rfl, _, hsv⟩ := own_sl (enc := strC) (size := 1) (fun _ => rfl) (by decide) HO.out
      have HSV := Lib.hid hsv
      have T := texts_eq pre pre al av cl cv wr (by rw [← HE.out]; exact HSL.out.keep HBW.out) hsv (by omega)
      rw [decide_eq_true rfl] at T
      have hpn : pre.length = NL := by rw [HNL.out, HE.out]
      rw [hpn] at T ⊢
      have HT := Lib.hid T
      have HBR := Lib.hid (below_step HB1.out (by have := HB1.out.size; omega) HBW.out)
      have HS1 := Lib.hid (fun W => sum_any s W (by omega)); have HS2 := Lib.hid (fun W => lawsum_any s W (by omega))
      clear T hsv
      go_wp2_with fail
      refine HT.out.mono ?_
      rintro e w2 ⟨rfl, n2, rfl⟩
      have HB2 := Lib.hid (below_drewN' HBR.out n2)
      go_wp2_with fail
      refine (HS1.out _).mono ?_
      rintro e w3 ⟨rfl, hb⟩
      have HB3 := Lib.hid (below_step HB2.out (by have := HB2.out.size; omega) hb)
      clear hb
      go_wp2_with fail
      refine (HS2.out _).mono ?_
      rintro e w4 ⟨rfl, hw⟩
      obtain rfl : w3 = w4 := hw.symm
      clear hw
      go_wp2_with fail
      refine (awake_any _).mono ?_
      rintro e w5 ⟨rfl, hb⟩
      have HB5 := Lib.hid (below_step HB3.out (by have := HB3.out.size; omega) hb)
      clear hb
      go_wp2
      go_ret
      exact ⟨rfl, HB5.out⟩
    · have hne := nonempty_of_pos (b := r) (by omega)
      have hbk := HA1.out.keep HBW.out
      have c0 := (hbk.2 0 _ rfl).1; have c1 := (hbk.2 1 _ rfl).1; have c2 := (hbk.2 2 _ rfl).1
      have T := first_any r lo hi m wr (by omega) (by omega) (by omega)
      have hF := fstR_le r lo hi m
      have hF1 := fstR_pos r m hlo hlh h0
      have HN : Hid (cuts lo hi m s = (pre ++ [r.extract 0 (fstR r lo hi m)]) ++ cuts lo hi m (r.extract (fstR r lo hi m) r.size)) := Lib.hid (by rw [HC.out, cuts_cons hlo hlh r h0]; simp)
      generalize fstR r lo hi m = F at *
      have HT := Lib.hid T
      have hfr := rest_size r hF.2.1
      have hfi : (F : Int) ≤ (r.size : Int) := by omega
      clear T hbk
      go_wp2_with fail
      refine HT.out.mono ?_
      rintro e w2 ⟨rfl, hw⟩
      obtain rfl : wr = w2 := hw.symm
      clear hw HT c0 c1 c2
      go_wp2_with (at_builtin; refine wpList_append_own _ rfl _ _ 26 rfl w1.heap.size 9 i0 (.string ByteArray.empty) 1 16 Try.underlying26 hi0 hz0 hz1 hz2 rfl (by decide) _ _ _ rfl (HO.out.alloc _) ⟨wr.heap.size, 0, none⟩ 1 1 [.string (r.extract 0 F)] rfl rfl ?a1 ?a2 ?a3 ?a4 ?a5 ?_)
      case a1 => exact cell_one_new _ _ _
      case a2 => intro u hu; simp at hu; rcases hu with rfl; rfl
      case a3 => unfold maxLen; omega
      case a4 => omega
      case a5 => have h1 := HBW.out.size; simp; omega
      intro v5 w5 hown5 hg5 _
      have HB5 : Hid (Below w1.heap.size w1 w5) := Lib.hid ((HBW.out.alloc HBW.out.size _).grown hg5 (by have := HBW.out.size; simp; omega) (fun q hq => (HO.out.lt q hq).1))
      have HO5 : Hid (w5.ownsRow w1.heap.size 9 1 v5 (pre ++ [r.extract 0 F]).length ((pre ++ [r.extract 0 F]).flatMap strC)) := Lib.hid (by rw [List.length_append, List.flatMap_append]; exact hown5)
      obtain ⟨a5, c5, rfl⟩ := own_shape hown5
      clear hown5 hg5
      go_wp2
      go_roundw
      case rel => exact ⟨pre ++ [r.extract 0 F], r.extract F r.size, rfl, HN.out, by omega, HO5.out, HB5.out⟩
      case measure => show (r.extract F r.size).size < r.size; omega
theorem plan_of {H : Type} {enc : TypeId × Value → H} {w : World} {base n : Nat} {spare : Bool} {held : TypeId → Bool} {cs : List Value} {x : DataW H × List MemPlace}
    (h : DataW.trod enc Try.prog w base held spare n 24 cs = some x) : ∃ (a b m : Int), cs = [.int .i64 a, .int .i64 b, .int .u32 m] := by
  have hl := trod_len Try.underlying24 h
  rw [show Try.prog.cellsOf 24 = 3 by kernel_rfl] at hl
  match cs, hl with
  | [c0, c1, c2], _ =>
    obtain ⟨_, _, e0⟩ := trod_part Try.underlying24 h 0 3 0 1 rfl rfl rfl (by kernel_rfl)
    obtain ⟨_, _, e1⟩ := trod_part Try.underlying24 h 1 3 1 1 rfl rfl rfl (by kernel_rfl)
    obtain ⟨_, _, e2⟩ := trod_part Try.underlying24 h 2 22 2 1 rfl rfl rfl (by kernel_rfl)
    simp only [List.drop_zero, List.drop_succ_cons, List.take_succ_cons, List.take_zero] at e0 e1 e2
    obtain ⟨a, k0, _⟩ := DataW.trod_int Try.underlying3 e0
    obtain ⟨b, k1, _⟩ := DataW.trod_int Try.underlying3 e1
    obtain ⟨m, k2, _⟩ := DataW.trod_int Try.underlying22 e2
    simp only [List.cons.injEq, and_true] at k0 k1 k2
    subst k0 k1 k2
    exact ⟨a, b, m, rfl⟩
def PlanOk (v : Value) : Prop := ∃ (a b m : Int), v = .agg #[.int .i64 a, .int .i64 b, .int .u32 m]
theorem open_plan {H : Type} {enc : TypeId × Value → H} {w : World} {base base0 : Nat} {spare : Bool} {held : TypeId → Bool} {r : Reach} {v : Value} {d : DataW H} {p : List MemPlace}
    (hv : Value.okWide Try.prog w r base0 24 v) (h : DataW.Trod enc Try.prog w base held spare 24 v d p) : ∃ x : Unit, PlanOk v := by
  obtain ⟨cs, rfl⟩ := agg_of Try.underlying24 hv
  obtain ⟨fuel, hf⟩ := h
  simp only [Value.cells] at hf
  obtain ⟨a, b, m, e⟩ := plan_of hf
  obtain ⟨l⟩ := cs
  simp only at e
  exact ⟨(), a, b, m, by rw [e]⟩
theorem cuts_law (s : ByteArray) (v : Value) (_x : Unit) (w : World) (_hs : s.size ≤ 140737488351232) (h : PlanOk v) : Calls Try.prog 3 #[.string s, v] w fun e w' => e = .returned (.bool true) ∧ Below w.heap.size w w' := by
  obtain ⟨a, b, m, rfl⟩ := h
  by_cases h1 : 600 < s.size ∧ s.size ≤ 32768
  · exact cuts_few s a b m w h1.1 h1.2
  · by_cases h2 : a < 1 ∨ b < a ∨ 4096 < b
    · exact cuts_bad s a b m w (by omega) h2
    · by_cases h3 : 32768 < s.size
      · exact cuts_long s a b m w h3 h2
      · obtain ⟨lo, rfl⟩ : ∃ lo : Nat, a = lo := ⟨a.toNat, by omega⟩
        obtain ⟨hi, rfl⟩ : ∃ hi : Nat, b = hi := ⟨b.toNat, by omega⟩
        exact cuts_main s lo hi m w (by omega) (by omega) (by omega) (by omega)
end Go.Proofs.Ytmjcbkjihdbhoaa

