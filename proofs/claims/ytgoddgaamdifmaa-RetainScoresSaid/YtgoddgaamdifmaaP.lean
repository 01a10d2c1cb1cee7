/-
  The law of RetainScores.
-/
import Derived.Test.YtgoddgaamdifmaaK
import Derived.Test.YtgoddgaamdifmaaOpen
set_option linter.unusedVariables false
set_option linter.unusedSimpArgs false
namespace Go.Proofs.Ytgoddgaamdifmaa
open Go.RowKit Go.WideShapes Go.ChangeShapes Go.ChangeAt Go.Deep
def u64C (x : Nat) : List Value := [.int .u64 (x : Int)]
def U64Ok (l : List Nat) (w : World) (v : Value) : Prop := ∃ a cap, v = .slice a l.length cap ∧ l.length ≤ maxLen ∧ Sl u64C 1 w a l ∧ ∀ x ∈ l, x < 18446744073709551616
theorem u64_nat {z : Int} (h : (Lit.int .u64 z).wf = true) : ∃ n : Nat, z = (n : Int) ∧ n < 18446744073709551616 := by
  simp [Lit.wf, IntKind.min, IntKind.max, IntKind.signed, IntKind.bits] at h
  exact ⟨z.toNat, by omega, by omega⟩
theorem open_u64s {H : Type} {enc : TypeId × Value → H} {w : World} {base base0 : Nat} {spare : Bool} {held : TypeId → Bool} {r : Reach} {v : Value} {d : DataW H} {p : List MemPlace}
    (hv : Value.okWide Try.prog w r base0 22 v) (h : DataW.Trod enc Try.prog w base held spare 22 v d p) : ∃ l, U64Ok l w v := by
  obtain ⟨xs, ⟨a, cap, rfl, hcap, hs⟩, hl, hg⟩ := open_sl u64C (fun x => x < 18446744073709551616) 1 Try.underlying22 (by kernel_rfl) (by omega) (fun _ => rfl) (fun n cs y hy => by
    obtain ⟨z, hc, _, hw⟩ := DataW.trod_int Try.underlying23 hy
    obtain ⟨m, rfl, hm⟩ := u64_nat hw
    exact ⟨m, hc, hm⟩) hv h
  exact ⟨xs, a, cap, rfl, hl, hs, hg⟩
theorem u64_at {w : World} {a : Option Addr} {xs : List Nat} (h : Sl u64C 1 w a xs) (i : Nat) (hi : i < xs.length) : ∃ b o, a = some ⟨b, o, none⟩ ∧ b < w.heap.size ∧ w.cell? ⟨b, o + i, none⟩ = some (.int .u64 ((xs[i] : Nat) : Int)) := by
  obtain ⟨b, o, ha, hlt, hc⟩ := h i hi
  refine ⟨b, o, ha, hlt, ?_⟩
  have := hc 0 _ rfl
  rwa [Nat.mul_one, Nat.add_zero] at this
theorem infoF : ∃ i0, Try.prog.info? 26 = some i0 ∧ i0.zero = some (.float .f64 0) ∧ i0.size = 1 ∧ i0.bytes = 8 := ⟨_, rfl, rfl, rfl, rfl⟩
set_option maxRecDepth 100000 in
set_option maxHeartbeats 16000000 in
theorem scores_long (a : Option Addr) (n cap : Nat) (x y : Int) (w : World) (hl : 40 < n) :
    Calls Try.prog 3 #[.slice a n cap, .int .u64 x, .int .u64 y] w fun e w' => e = .returned (.bool true) ∧ Below w.heap.size w w' := by
  have d1 : decide ((40 : Int) < (n : Int)) = true := decide_eq_true (by omega)
  go_enter Try.func3, Try.ntmps3
  go_wp2_with fail
  refine (awake_any _).mono ?_
  rintro e w3 ⟨rfl, hb⟩
  have HB3 := Lib.hid hb
  clear hb
  go_wp2
  go_ret
  exact ⟨rfl, HB3.out⟩
set_option maxRecDepth 100000 in
set_option maxHeartbeats 16000000 in
theorem scores_walk (l : List Nat) (a : Option Addr) (cap : Nat) (x y : Nat) (w : World) (hl : l.length ≤ 40) (hs : Sl u64C 1 w a l) (hg : ∀ x ∈ l, x < 18446744073709551616) :
    Calls Try.prog 3 #[.slice a l.length cap, .int .u64 (x : Int), .int .u64 (y : Int)] w fun e w' => e = .returned (.bool true) ∧ Below w.heap.size w w' := by
  obtain ⟨i0, hi0, hz0, hz1, hz2⟩ := infoF
  have HOK : Hid (fltOk l) := Lib.hid (fun i h => hg _ (List.getElem_mem h))
  obtain ⟨L, hL⟩ : ∃ L, L = l.length := ⟨_, rfl⟩
  have HL := Lib.hid hL
  have HS := Lib.hid hs
  rw [← hL] at hl ⊢
  clear hL hs hg
  have d1 : decide ((40 : Int) < (L : Int)) = false := decide_eq_false (by omega)
  go_enter Try.func3, Try.ntmps3
  go_wp2
  go_loopw [7, 8] (fun v ii wr => ∃ i : Nat, ii = .int .i64 i ∧ i ≤ L ∧ wr.ownsRow w.heap.size 26 1 v (l.take i).length ((l.take i).flatMap fltC) ∧ Below w.heap.size w wr) (fun _ ii _ => L - (intOf ii).toNat)
  case atStart => exact ⟨0, rfl, by omega, by rw [List.take_zero]; exact own_nil _ _ _ _, Below.refl _ _⟩
  case round =>
    obtain ⟨i, rfl, hi, hrow, hbw⟩ := hrel
    rw [List.length_take, Nat.min_eq_left (by rw [← HL.out]; exact hi)] at hrow
    have HROW := Lib.hid hrow; have HBW := Lib.hid hbw
    obtain ⟨av, cv, rfl⟩ := own_shape hrow
    clear hrow hbw
    by_cases hlt : i < L
    · have hil : i < l.length := by rw [← HL.out]; exact hlt
      obtain ⟨b, o, rfl, hb, hc0⟩ := u64_at HS.out i hil
      have hc := (HBW.out.cell (p := ⟨b, o + i, none⟩) hb).trans hc0
      have g1 : (i : Int) < (L : Int) := by omega
      have HTK : Hid (l.take (i + 1) = l.take i ++ [l[i]]) := Lib.hid (List.take_succ_eq_append_getElem hil)
      clear hc0 hb
      generalize l[i] = X at *
      have HR2 := Lib.hid (own_kept HROW.out (below_new wr (.cells #[.float .f64 X] 26)))
      have HB2 := Lib.hid (below_cons HBW.out (below_new wr (.cells #[.float .f64 X] 26)))
      have hmw : w.heap.size ≤ wr.heap.size := HBW.out.size
      go_wp2_with fail
      refine (t_num X wr).mono ?_
      rintro e w' ⟨rfl, rfl⟩
      go_wp2_with (at_builtin; refine wpList_append_own _ rfl _ _ 25 rfl w.heap.size 26 i0 (.float .f64 0) 1 8 Try.underlying25 hi0 hz0 hz1 hz2 rfl (by decide) _ _ _ rfl HR2.out ⟨wr.heap.size, 0, none⟩ 1 1 [.float .f64 X] rfl rfl ?a1 ?a2 ?a3 ?a4 ?a5 ?_)
      case a1 => intro j u hj; exact new_cells _ _ _ j u hj
      case a2 => intro u hu; simp at hu; rcases hu with rfl; rfl
      case a3 => unfold maxLen; omega
      case a4 => omega
      case a5 => simp; omega
      intro v5 w5 hown5 hg5 _
      have HO5 : Hid (w5.ownsRow w.heap.size 26 1 v5 (l.take (i + 1)).length ((l.take (i + 1)).flatMap fltC)) := Lib.hid (by
        rw [List.length_take, Nat.min_eq_left (by omega), HTK.out, List.flatMap_append]
        exact hown5)
      have HB5 : Hid (Below w.heap.size w w5) := Lib.hid (HB2.out.trans ((Kp.grown (S := fun q => w.heap.size ≤ q) hg5 (fun q hq => (HR2.out.lt q hq).1)).below (by simp; omega) (fun q hq => hq)))
      obtain ⟨a5, c5, rfl⟩ := own_shape hown5
      clear hown5 hg5
      go_wp2
      go_roundw
      case rel => exact ⟨i + 1, by go_num, by omega, HO5.out, HB5.out⟩
      case measure => simp [intOf]; omega
    · obtain rfl : L = i := by omega
      have hkk : ¬ (L : Int) < (L : Int) := by omega
      have HSL : Hid (Sl fltC 1 wr av l) := Lib.hid (by
        have hrow := HROW.out
        rw [List.take_of_length_le (by rw [HL.out]; exact Nat.le_refl _), HL.out] at hrow
        obtain ⟨a2, c2, e2, _, hsl⟩ := own_sl (enc := fltC) (l := l) (fun _ => rfl) (by decide) hrow
        simp only [Value.slice.injEq] at e2
        obtain ⟨rfl, _, rfl⟩ := e2
        exact hsl)
      have TB : Hid (∀ W, Sl fltC 1 W av l → Calls Try.prog 8 #[.slice av L cv] W fun e w' => e = .returned (.tuple #[.int .i64 (bestK l L), .bool (decide ((0 : Int) < (L : Int)))]) ∧ ∃ n, w' = W.drewN n) := Lib.hid (fun W h => by rw [HL.out]; exact best_any l av cv W h HOK.out (by rw [← HL.out]; exact hl))
      have TB2 : Hid (∀ W, Sl fltC 1 W av l → Calls Try.prog 9 #[.slice av L cv] W fun e w' => e = .returned (.tuple #[.int .i64 (bestK l L), .bool (decide ((0 : Int) < (L : Int)))]) ∧ ∃ n, w' = W.drewN n) := Lib.hid (fun W h => by rw [HL.out]; exact rbest_any l av cv W h HOK.out (by rw [← HL.out]; exact hl))
      have TD : Hid (∀ W, Sl fltC 1 W av l → Calls Try.prog 13 #[.slice av L cv, .float .f64 x] W fun e w' => e = .returned (.bool (dueB l x)) ∧ ∃ n, w' = W.drewN n) := Lib.hid (fun W h => by rw [HL.out]; exact due_any l x av cv W h HOK.out (by rw [← HL.out]; exact hl))
      have TD2 : Hid (∀ W, Sl fltC 1 W av l → Calls Try.prog 14 #[.slice av L cv, .float .f64 x] W fun e w' => e = .returned (.bool (dueB l x)) ∧ ∃ n, w' = W.drewN n) := Lib.hid (fun W h => by rw [HL.out]; exact rdue_any l x av cv W h HOK.out (by rw [← HL.out]; exact hl))
      have TSC : Hid (∀ W, Calls Try.prog 11 #[.float .f64 x, .float .f64 y] W fun e w' => e = .returned (.float .f64 (scoreN x y)) ∧ W = w') := Lib.hid (fun W => score_any x y W)
      have TSC2 : Hid (∀ W, Calls Try.prog 12 #[.float .f64 x, .float .f64 y] W fun e w' => e = .returned (.float .f64 (scoreN x y)) ∧ W = w') := Lib.hid (fun W => rscore_any x y W)
      have TSM : Hid (∀ W, Calls Try.prog 10 #[.float .f64 (scoreN x y), .float .f64 (scoreN x y)] W fun e w' => e = .returned (.bool true) ∧ W = w') := Lib.hid (fun W => by
        have := same_any (scoreN x y) (scoreN x y) W
        rwa [decide_eq_true rfl] at this)
      generalize bestK l L = BK at TB TB2
      generalize dueB l x = DB at TD TD2
      generalize scoreN x y = SC at TSC TSC2 TSM
      generalize decide ((0 : Int) < (L : Int)) = OKB at TB TB2
      have eD : (DB == DB) = true := by simp
      have eO : (OKB == OKB) = true := by simp
      clear d1 hi hl hi0 hz0 hz1 hz2 HROW
      go_wp2_with fail
      refine (TB.out _ HSL.out).mono ?_
      rintro e w1 ⟨rfl, q1, rfl⟩
      have HS1 := Lib.hid (HSL.out.keep (below_drewN (Below.refl _ _) q1)); have HB1 := Lib.hid (below_drewN HBW.out q1)
      generalize wr.drewN q1 = w1 at *
      go_wp2_with fail
      refine (TB2.out _ HS1.out).mono ?_
      rintro e w1 ⟨rfl, q2, rfl⟩
      have HS2 := Lib.hid (HS1.out.keep (below_drewN (Below.refl _ _) q2)); have HB2 := Lib.hid (below_drewN HB1.out q2)
      generalize w1.drewN q2 = w2 at *
      go_wp2_with fail
      refine (t_num x _).mono ?_
      rintro e w' ⟨rfl, rfl⟩
      go_wp2_with fail
      refine (t_num y _).mono ?_
      rintro e w' ⟨rfl, rfl⟩
      go_wp2_with fail
      refine (TSC.out _).mono ?_
      rintro e w' ⟨rfl, rfl⟩
      go_wp2_with fail
      refine (t_num x _).mono ?_
      rintro e w' ⟨rfl, rfl⟩
      go_wp2_with fail
      refine (t_num y _).mono ?_
      rintro e w' ⟨rfl, rfl⟩
      go_wp2_with fail
      refine (TSC2.out _).mono ?_
      rintro e w' ⟨rfl, rfl⟩
      go_wp2_with fail
      refine (TSM.out _).mono ?_
      rintro e w' ⟨rfl, rfl⟩
      go_wp2_with fail
      refine (t_num x _).mono ?_
      rintro e w' ⟨rfl, rfl⟩
      go_wp2_with fail
      refine (TD.out _ HS2.out).mono ?_
      rintro e w3 ⟨rfl, q3, rfl⟩
      have HS3 := Lib.hid (HS2.out.keep (below_drewN (Below.refl _ _) q3)); have HB3 := Lib.hid (below_drewN HB2.out q3)
      generalize w2.drewN q3 = w3 at *
      go_wp2_with fail
      refine (t_num x _).mono ?_
      rintro e w' ⟨rfl, rfl⟩
      go_wp2_with fail
      refine (TD2.out _ HS3.out).mono ?_
      rintro e w4 ⟨rfl, q4, rfl⟩
      have HB4 := Lib.hid (below_drewN HB3.out q4)
      generalize w3.drewN q4 = w4 at *
      go_wp2_with fail
      refine (awake_any _).mono ?_
      rintro e w5 ⟨rfl, hb⟩
      have HB5 := Lib.hid (below_cons HB4.out hb)
      clear hb
      go_wp2
      go_ret
      exact ⟨rfl, HB5.out⟩
theorem scores_law (v : Value) (l : List Nat) (x y : Int) (w : World) (h : U64Ok l w v) (hx : (Lit.int .u64 x).wf = true) (hy : (Lit.int .u64 y).wf = true) : Calls Try.prog 3 #[v, .int .u64 x, .int .u64 y] w fun e w' => e = .returned (.bool true) ∧ Below w.heap.size w w' := by
  obtain ⟨a, cap, rfl, _, hs, hg⟩ := h
  by_cases hl : l.length ≤ 40
  · obtain ⟨n, rfl, _⟩ := u64_nat hx
    obtain ⟨m, rfl, _⟩ := u64_nat hy
    exact scores_walk l a cap n m w hl hs hg
  · exact scores_long a _ cap x y w (by omega)
end Go.Proofs.Ytgoddgaamdifmaa

