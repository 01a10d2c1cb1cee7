/-
  The contract of few; the law of ChunkReads for all arguments that the row lets in. Conditions: none.
-/
import Derived.Test.YtanehgnpominiaaY2
import Derived.Test.YtanehgnpominiaaOpen
set_option linter.unusedVariables false
set_option linter.unusedSimpArgs false
set_option maxRecDepth 100000
namespace Go.Proofs.Ytanehgnpominiaa
open Go.RowKit Go.WideShapes Go.ChangeShapes Go.ChangeAt Go.Deep
def fewM (ids : List ByteArray) : Bool := decide (ids.length ≤ 40 ∧ ∀ x ∈ ids, x.size ≤ 100)
set_option maxHeartbeats 4000000 in
theorem few_any (S C : Int) (ids : List ByteArray) (a : Option Addr) (c : Nat) (w : World) (h : Sl strC 1 w a ids) :
    Calls Try.prog 14 #[mf S C a ids.length c] w fun e w' => e = .returned (.bool (fewM ids)) ∧ Below w.heap.size w w' := by
  unfold mf
  have hA := Bk.new w 31 #[.int .i64 S, .int .i64 C, .slice a ids.length c]
  have hB0 := below_new w (.cells #[.int .i64 S, .int .i64 C, .slice a ids.length c] 31)
  have HB0 := Lib.hid hB0
  have HS0 := Lib.hid (h.keep hB0)
  have m2 := (hA.2 2 _ rfl).1
  have hsz : (w.alloc (.cells #[.int .i64 S, .int .i64 C, .slice a ids.length c] 31)).heap.size = w.heap.size + 1 := by simp
  obtain ⟨R, hR⟩ : ∃ R, R = fewM ids := ⟨_, rfl⟩
  rw [← hR]
  have HR := Lib.hid hR
  clear hR h hB0
  obtain ⟨NL, hNL⟩ : ∃ x, x = ids.length := ⟨_, rfl⟩
  have HNL := Lib.hid hNL
  rw [← hNL] at m2 hA HB0 HS0 hsz ⊢
  clear hNL
  by_cases h1 : 40 < NL
  · have g1 : (40 : Int) < (NL : Int) := by omega
    have HF : Hid (R = false) := Lib.hid (by rw [HR.out]; unfold fewM; rw [decide_eq_false]; rintro ⟨h, _⟩; have := HNL.out; omega)
    clear hA hsz
    go_enter Try.func14, Try.ntmps14
    go_wp2
    go_ret
    exact ⟨rbool HF.out.symm, HB0.out⟩
  · have g1 : ¬ (40 : Int) < (NL : Int) := by omega
    have HA := Lib.hid hA
    clear hA
    go_enter Try.func14, Try.ntmps14
    go_wp2
    generalize (w.alloc (.cells #[.int .i64 S, .int .i64 C, .slice a NL c] 31)) = W1 at *
    go_loop [3] (fun i => ∃ j : Nat, i = .int .i64 j ∧ j ≤ NL ∧ ∀ q (hq : q < ids.length), q < j → ids[q].size ≤ 100) (fun i => NL - (intOf i).toNat)
    case atStart => exact ⟨0, rfl, by omega, fun q hq h => by omega⟩
    case round =>
      obtain ⟨j, rfl, hj, hall⟩ := hrel
      have HALL := Lib.hid hall
      clear hall
      by_cases hlt : j < NL
      · have hjl : j < ids.length := by rw [← HNL.out]; exact hlt
        obtain ⟨b2, o2, rfl, hb2, c0⟩ := slT_str HS0.out j hjl
        have HX : Hid (100 < ids[j].size → R = false) := Lib.hid (fun h => by
          rw [HR.out]; unfold fewM; rw [decide_eq_false]; rintro ⟨_, h2⟩; have := h2 _ (List.getElem_mem hjl); omega)
        have HN : Hid (¬ 100 < ids[j].size → ∀ q (hq : q < ids.length), q < j + 1 → ids[q].size ≤ 100) := Lib.hid (fun h q hq hqj => by
          by_cases e : q = j
          · subst e; omega
          · exact HALL.out q hq (by omega))
        generalize ids[j] = x at *
        have hjN : (j : Int) < (NL : Int) := by omega
        by_cases hx : 100 < x.size
        · have gx : (100 : Int) < (x.size : Int) := by omega
          have HF := Lib.hid (HX.out hx)
          go_wp2
          go_ret
          exact ⟨rbool HF.out.symm, HB0.out⟩
        · have gx : ¬ (100 : Int) < (x.size : Int) := by omega
          have HF := Lib.hid (HN.out hx)
          go_wp2
          go_round
          case rel => exact ⟨j + 1, by go_num, by omega, HF.out⟩
          case measure => simp [intOf]; omega
      · obtain rfl : j = NL := by omega
        have hjj : ¬ (j : Int) < (j : Int) := by omega
        have HF : Hid (R = true) := Lib.hid (by
          rw [HR.out]; unfold fewM; rw [decide_eq_true]
          refine ⟨by rw [← HNL.out]; omega, fun x hx => ?_⟩
          obtain ⟨q, hq, rfl⟩ := List.getElem_of_mem hx
          exact HALL.out q hq (by rw [HNL.out]; exact hq))
        go_wp2
        go_ret
        exact ⟨rbool HF.out.symm, HB0.out⟩
theorem catK_small (B : Nat) : ∀ (l : List ByteArray), (∀ x ∈ l, x.size ≤ B) → (catK l).size ≤ B * l.length
  | [], _ => by simp [catK]
  | x :: l, h => by
    have ih := catK_small B l (fun y hy => h y (by simp [hy]))
    have := h x (by simp)
    show (x ++ catK l).size ≤ _
    rw [ByteArray.size_append, List.length_cons, Nat.mul_add]; omega
theorem readM_len (s : ByteArray) : (readM s).2.2.1.length ≤ 4096 := by
  unfold readM
  split
  · split
    · next hc => obtain ⟨_, _, _, _, _, _, _, _, h, _⟩ := check_zero hc; exact h
    · exact Nat.zero_le _
  · exact Nat.zero_le _
/-- What lies where the law's last line is reckoned. -/
structure StQ (w W : World) (v0 v1 v2 : Value) (p3 p4 : Nat) (u0 u1 u2 x0 x1 x2 : Value) (a a3 a4 al : Option Addr) (ids RI l : List ByteArray) : Prop where
  below : Below w.heap.size w W
  s0 : Sl strC 1 W a ids
  s3 : Sl strC 1 W a3 RI
  s4 : Sl strC 1 W a4 RI
  sl : Sl strC 1 W al l
  b0 : Bk w.heap.size [v0, v1, v2] W
  b3 : Bk p3 [u0, u1, u2] W
  b4 : Bk p4 [x0, x1, x2] W
theorem StQ.keep {w W W' : World} {v0 v1 v2 : Value} {p3 p4 : Nat} {u0 u1 u2 x0 x1 x2 : Value} {a a3 a4 al : Option Addr} {ids RI l : List ByteArray} (h : StQ w W v0 v1 v2 p3 p4 u0 u1 u2 x0 x1 x2 a a3 a4 al ids RI l) (k : Below W.heap.size W W') : StQ w W' v0 v1 v2 p3 p4 u0 u1 u2 x0 x1 x2 a a3 a4 al ids RI l :=
  ⟨below_cons h.below k, h.s0.keep k, h.s3.keep k, h.s4.keep k, h.sl.keep k, h.b0.keep k, h.b3.keep k, h.b4.keep k⟩
/-- .. and ahead of that. -/
structure StP (w W : World) (v0 v1 v2 : Value) (a al : Option Addr) (ids l : List ByteArray) : Prop where
  below : Below w.heap.size w W
  s0 : Sl strC 1 W a ids
  sl : Sl strC 1 W al l
  b0 : Bk w.heap.size [v0, v1, v2] W
theorem StP.keep {w W W' : World} {v0 v1 v2 : Value} {a al : Option Addr} {ids l : List ByteArray} (h : StP w W v0 v1 v2 a al ids l) (k : Below W.heap.size W W') : StP w W' v0 v1 v2 a al ids l :=
  ⟨below_cons h.below k, h.s0.keep k, h.sl.keep k, h.b0.keep k⟩
set_option maxHeartbeats 8000000 in
theorem reads_main (S C : Int) (ids : List ByteArray) (a : Option Addr) (c : Nat) (s : ByteArray) (l : List ByteArray) (al : Option Addr) (cl : Nat) (w : World) (h : Sl strC 1 w a ids) (hl : Sl strC 1 w al l) (hcl : l.length ≤ cl) (hs : s.size ≤ 140737488351232) :
    Calls Try.prog 4 #[mf S C a ids.length c, .string s, .slice al l.length cl] w fun e w' => e = .returned (.bool true) ∧ Below w.heap.size w w' := by
  have TF := Lib.hid (fun W (h : Sl strC 1 W a ids) => few_any S C ids a c W h)
  unfold mf at TF ⊢
  have hA := Bk.new w 31 #[.int .i64 S, .int .i64 C, .slice a ids.length c]
  have hB0 := below_new w (.cells #[.int .i64 S, .int .i64 C, .slice a ids.length c] 31)
  have HB0 := Lib.hid hB0
  have HS0 := Lib.hid (h.keep hB0); have HL0 := Lib.hid (hl.keep hB0)
  have m0 := (hA.2 0 _ rfl).1; have m1 := (hA.2 1 _ rfl).1; have m2 := (hA.2 2 _ rfl).1
  have HA0 := Lib.hid hA
  clear hA hB0 h hl
  by_cases hf : fewM ids = true
  · have hfew : ids.length ≤ 40 ∧ ∀ x ∈ ids, x.size ≤ 100 := by unfold fewM at hf; exact of_decide_eq_true hf
    rw [hf] at TF
    by_cases h1 : 3000 < s.size
    · have g1 : (3000 : Int) < (s.size : Int) := by omega
      clear hfew hf
      generalize ids.length = NI at *
      go_enter Try.func4, Try.ntmps4
      go_wp2_with fail
      refine (TF.out _ HS0.out).mono ?_
      rintro e w1 ⟨rfl, hb⟩
      have HB := Lib.hid (below_cons HB0.out hb)
      clear hb m0 m1 m2
      go_wp2_with fail
      refine (awake_any _).mono ?_
      rintro e w2 ⟨rfl, hb⟩
      have HB := Lib.hid (below_cons HB.out hb)
      clear hb
      go_wp2
      go_ret
      exact ⟨rfl, HB.out⟩
    · have g1 : ¬ (3000 : Int) < (s.size : Int) := by omega
      by_cases h2 : 40 < l.length
      · have g2 : (40 : Int) < (l.length : Int) := by omega
        clear hfew hf
        generalize ids.length = NI at *
        generalize l.length = NL at *
        go_enter Try.func4, Try.ntmps4
        go_wp2_with fail
        refine (TF.out _ HS0.out).mono ?_
        rintro e w1 ⟨rfl, hb⟩
        have HB := Lib.hid (below_cons HB0.out hb)
        clear hb m0 m1 m2
        go_wp2_with fail
        refine (awake_any _).mono ?_
        rintro e w2 ⟨rfl, hb⟩
        have HB := Lib.hid (below_cons HB.out hb)
        clear hb
        go_wp2
        go_ret
        exact ⟨rfl, HB.out⟩
      · have g2 : ¬ (40 : Int) < (l.length : Int) := by omega
        have HCK := Lib.hid (fun W h => ck_any S C ids a c W h (fun x hx => by have := hfew.2 x hx; omega)); have HRCK := Lib.hid (fun W h => rck_any S C ids a c W h (fun x hx => by have := hfew.2 x hx; omega))
        have HPU := Lib.hid (fun W h => cput_any S C ids a c W h (fun x hx => by have := hfew.2 x hx; omega)); have HRPU := Lib.hid (fun W h => rcput_any S C ids a c W h (fun x hx => by have := hfew.2 x hx; omega))
        have HRD := Lib.hid (fun W => cread_any s W (by omega)); have HRRD := Lib.hid (fun W => rcread_any s W (by omega))
        have HJ := Lib.hid (fun W h1 h2 (h3 : ∀ x ∈ l, x.size ≤ 300) => cjoin_any S C ids a c l al cl W h1 (fun x hx => by have := hfew.2 x hx; omega) h2 hcl (fun x hx => by have := h3 x hx; omega) (by have := catK_small 300 l h3; omega))
        have HRJ := Lib.hid (fun W h1 h2 (h3 : ∀ x ∈ l, x.size ≤ 300) => rcjoin_any S C ids a c l al cl W h1 (fun x hx => by have := hfew.2 x hx; omega) h2 hcl (fun x hx => by have := h3 x hx; omega) (by have := catK_small 300 l h3; omega))
        have hrl : (readM s).2.2.1.length ≤ 9007199254740992 := Nat.le_trans (readM_len s) (by omega)
        unfold mf at HCK HRCK HPU HRPU HJ HRJ
        unfold manE mf at HRD HRRD
        generalize checkM S C ids = CM at *
        generalize putM S C ids = PM at *
        generalize readM s = RM at *
        generalize joinM S C ids l = JM at *
        obtain ⟨P1, P2⟩ := PM
        obtain ⟨J1, J2⟩ := JM
        obtain ⟨RS, RC, RI, RE⟩ := RM
        dsimp only at *
        have TS := Lib.hid (fun a1 c1 a2 c2 W h1 h2 => same_any RS RC RS RC RI RI a1 a2 c1 c2 W h1 h2 hrl)
        unfold mf at TS
        rw [decide_eq_true ⟨rfl, rfl, rfl⟩] at TS
        generalize RI.length = NR at *
        clear hfew hf
        generalize ids.length = NI at *
        obtain ⟨NL, hNL⟩ : ∃ x, x = l.length := ⟨_, rfl⟩
        have HNL := Lib.hid hNL
        rw [← hNL] at g2 hcl HJ HRJ ⊢
        clear hNL h2
        go_enter Try.func4, Try.ntmps4
        go_wp2_with fail
        refine (TF.out _ HS0.out).mono ?_
        rintro e w1 ⟨rfl, hb⟩
        have HB := Lib.hid (below_cons HB0.out hb); have HS := Lib.hid (HS0.out.keep hb); have HL := Lib.hid (HL0.out.keep hb); have HA := Lib.hid (HA0.out.keep hb)
        clear hb m0 m1 m2 HB0 HS0 HL0 HA0 TF
        go_wp2
        go_loop [7] (fun i => ∃ j : Nat, i = .int .i64 j ∧ j ≤ NL ∧ ∀ q (hq : q < l.length), q < j → l[q].size ≤ 300) (fun i => NL - (intOf i).toNat)
        case atStart => exact ⟨0, rfl, by omega, fun q hq h => by omega⟩
        case round =>
          obtain ⟨j, rfl, hj, hall⟩ := hrel
          have HALL := Lib.hid hall
          clear hall
          by_cases hlt : j < NL
          · have hjl : j < l.length := by rw [← HNL.out]; exact hlt
            obtain ⟨b2, o2, rfl, hb2, c0⟩ := slT_str HL.out j hjl
            have HN : Hid (¬ 300 < l[j].size → ∀ q (hq : q < l.length), q < j + 1 → l[q].size ≤ 300) := Lib.hid (fun h q hq hqj => by
              by_cases e : q = j
              · subst e; omega
              · exact HALL.out q hq (by omega))
            generalize l[j] = x at *
            have hjN : (j : Int) < (NL : Int) := by omega
            by_cases hx : 300 < x.size
            · have gx : (300 : Int) < (x.size : Int) := by omega
              go_wp2_with fail
              refine (awake_any _).mono ?_
              rintro e w2 ⟨rfl, hb⟩
              have HB := Lib.hid (below_cons HB.out hb)
              clear hb
              go_wp2
              go_ret
              exact ⟨rfl, HB.out⟩
            · have gx : ¬ (300 : Int) < (x.size : Int) := by omega
              have HF := Lib.hid (HN.out hx)
              go_wp2
              go_round
              case rel => exact ⟨j + 1, by go_num, by omega, HF.out⟩
              case measure => simp [intOf]; omega
          · obtain rfl : j = NL := by omega
            have hjj : ¬ (j : Int) < (j : Int) := by omega
            have hl3 : ∀ x ∈ l, x.size ≤ 300 := fun x hx => by
              obtain ⟨q, hq, rfl⟩ := List.getElem_of_mem hx
              exact HALL.out q hq (by rw [HNL.out]; exact hq)
            have HJ2 := Lib.hid (fun W h1 h2 => HJ.out W h1 h2 hl3); have HRJ2 := Lib.hid (fun W h1 h2 => HRJ.out W h1 h2 hl3)
            have HP := Lib.hid (StP.mk HB.out HS.out HL.out HA.out)
            have m0 := (HP.out.b0.2 0 _ rfl).1; have m1 := (HP.out.b0.2 1 _ rfl).1; have m2 := (HP.out.b0.2 2 _ rfl).1
            clear HALL HJ HRJ hl3 HB HS HL HA HNL
            go_wp2_with fail
            refine (HPU.out _ HP.out.s0).mono ?_
            rintro e w2 ⟨rfl, hb⟩
            have HP := Lib.hid (HP.out.keep hb)
            clear m0 m1 m2 hb
            have m0 := (HP.out.b0.2 0 _ rfl).1; have m1 := (HP.out.b0.2 1 _ rfl).1; have m2 := (HP.out.b0.2 2 _ rfl).1
            go_wp2_with fail
            refine (HRPU.out _ HP.out.s0).mono ?_
            rintro e w3 ⟨rfl, hb⟩
            have HP := Lib.hid (HP.out.keep hb)
            clear m0 m1 m2 hb
            go_wp2_with fail
            refine (HRD.out _).mono ?_
            rintro e w4 ⟨a3, c3, rfl, hs3, hb⟩
            have hbn := below_new w4 (.cells #[.int .i64 RS, .int .i64 RC, .slice a3 NR c3] 31)
            have HM3 := Lib.hid (Bk.new w4 31 #[.int .i64 RS, .int .i64 RC, .slice a3 NR c3])
            have HS3 := Lib.hid (hs3.keep hbn); have HP := Lib.hid ((HP.out.keep hb).keep hbn)
            clear hs3 hb hbn
            go_wp2_with fail
            generalize (w4.alloc (.cells #[.int .i64 RS, .int .i64 RC, .slice a3 NR c3] 31)) = W4 at *
            generalize w4.heap.size = p3 at *
            refine (HRRD.out _).mono ?_
            rintro e w5 ⟨a4, c4, rfl, hs4, hb⟩
            have hbn := below_new w5 (.cells #[.int .i64 RS, .int .i64 RC, .slice a4 NR c4] 31)
            have HM4 := Lib.hid (Bk.new w5 31 #[.int .i64 RS, .int .i64 RC, .slice a4 NR c4])
            have HP := Lib.hid (HP.out.keep hb)
            have m0 := (HP.out.b0.2 0 _ rfl).1; have m1 := (HP.out.b0.2 1 _ rfl).1; have m2 := (HP.out.b0.2 2 _ rfl).1
            have hp5 := HP.out.b0.1
            have HS4 := Lib.hid (hs4.keep hbn); have HP := Lib.hid (HP.out.keep hbn); have HS3 := Lib.hid ((HS3.out.keep hb).keep hbn); have HM3 := Lib.hid ((HM3.out.keep hb).keep hbn)
            have HQ := Lib.hid (StQ.mk HP.out.below HP.out.s0 HS3.out HS4.out HP.out.sl HP.out.b0 HM3.out HM4.out)
            clear hs4 hb hbn HS3 HS4 HM3 HM4 HP
            go_wp2_with fail
            generalize (w5.alloc (.cells #[.int .i64 RS, .int .i64 RC, .slice a4 NR c4] 31)) = W5 at *
            generalize w5.heap.size = p4 at *
            clear m0 m1 m2 hp5
            refine (HJ2.out _ HQ.out.s0 HQ.out.sl).mono ?_
            rintro e w6 ⟨rfl, hb⟩
            have HQ := Lib.hid (HQ.out.keep hb)
            have m0 := (HQ.out.b0.2 0 _ rfl).1; have m1 := (HQ.out.b0.2 1 _ rfl).1; have m2 := (HQ.out.b0.2 2 _ rfl).1
            clear hb
            go_wp2_with fail
            refine (HRJ2.out _ HQ.out.s0 HQ.out.sl).mono ?_
            rintro e w7 ⟨rfl, hb⟩
            have HQ := Lib.hid (HQ.out.keep hb)
            clear hb m0 m1 m2
            have hP0 := HQ.out.keep (Below.refl _ w7).drew
            have t1 : (CM == CM) = true := by simp
            have t2 : (P2 == P2) = true := by simp
            have t3 : (RE == RE) = true := by simp
            have t4 : (J2 == J2) = true := by simp
            have t5 := str_eq (rfl : P1 = P1)
            have t6 := str_eq (rfl : J1 = J1)
            go_wp2_with fail
            refine wp_region_held_drew (S := fun w' => StQ w w' (.int .i64 S) (.int .i64 C) (.slice a NI c) p3 p4 (.int .i64 RS) (.int .i64 RC) (.slice a3 NR c3) (.int .i64 RS) (.int .i64 RC) (.slice a4 NR c4) a a3 a4 al ids RI l) (by kernel_rfl) (by (first | exact hP0 | exact hP1 | exact hP2 | exact hP3 | exact hP4)) (fun hHeld => ?_)
            refine wpAnyH_take (i := 0) (oi := { dst := some 79, op := Go.Op.load 31 (Go.Operand.tmp 3), type := 31, pos := "law.go:67", after := #[], guard := none }) (v := ?_) rfl (by kernel_rfl) (by kernel_rfl) (by kernel_rfl) (fun _ _ _ h => h) (Or.inl ⟨by rfl, ?_⟩) (by assumption) ?_
            (rotate_left; focus (intro wS hSw; have q0 := (hSw.b0.2 0 _ rfl).1; have q1 := (hSw.b0.2 1 _ rfl).1; have q2 := (hSw.b0.2 2 _ rfl).1; have q3 := (hSw.b3.2 0 _ rfl).1; have q4 := (hSw.b3.2 1 _ rfl).1; have q5 := (hSw.b3.2 2 _ rfl).1; have q6 := (hSw.b4.2 0 _ rfl).1; have q7 := (hSw.b4.2 1 _ rfl).1; have q8 := (hSw.b4.2 2 _ rfl).1; clear hSw; go_simp; (try rw [if_neg (by omega)]); try with_reducible rfl))
            (try simp only [Act.put, List.setIfInBounds_toArray, List.set_cons_zero, List.set_cons_succ])
            refine wpAnyH_take (i := 2) (oi := { dst := some 81, op := Go.Op.load 31 (Go.Operand.tmp 3), type := 31, pos := "law.go:67", after := #[], guard := none }) (v := ?_) rfl (by kernel_rfl) (by kernel_rfl) (by kernel_rfl) (fun _ _ _ h => h) (Or.inl ⟨by rfl, ?_⟩) (by assumption) ?_
            (rotate_left; focus (intro wS hSw; have q0 := (hSw.b0.2 0 _ rfl).1; have q1 := (hSw.b0.2 1 _ rfl).1; have q2 := (hSw.b0.2 2 _ rfl).1; have q3 := (hSw.b3.2 0 _ rfl).1; have q4 := (hSw.b3.2 1 _ rfl).1; have q5 := (hSw.b3.2 2 _ rfl).1; have q6 := (hSw.b4.2 0 _ rfl).1; have q7 := (hSw.b4.2 1 _ rfl).1; have q8 := (hSw.b4.2 2 _ rfl).1; clear hSw; go_simp; (try rw [if_neg (by omega)]); try with_reducible rfl))
            (try simp only [Act.put, List.setIfInBounds_toArray, List.set_cons_zero, List.set_cons_succ])
            refine wpAnyH_ready (rs := [1]) (by kernel_rfl) (by simp) ?_
            refine AllReadyH.cons (o := { dst := some 80, op := Go.Op.call { callee := Go.Callee.value (Go.Operand.func 21), args := #[Go.Operand.tmp 79], argTypes := #[31] }, type := 24, pos := "law.go:67", after := #[{ on := 0, ground := Go.Ground.data }], guard := none }) rfl (fun K hK => ?_) AllReadyH.nil
            go_simp
            refine (HCK.out _ hP0.s0).mono ?_
            rintro e z1 ⟨rfl, hb⟩
            have hP1 := hP0.keep hb
            clear hb
            (try go_wp2_with fail)
            refine hK.out _ _ (by (first | exact hP0 | exact hP1 | exact hP2 | exact hP3 | exact hP4)) (fun hHeld => ?_)
            clear hK K
            (try simp only [Act.put, List.setIfInBounds_toArray, List.set_cons_zero, List.set_cons_succ])
            refine wpAnyH_ready (rs := [3]) (by kernel_rfl) (by simp) ?_
            refine AllReadyH.cons (o := { dst := some 82, op := Go.Op.call { callee := Go.Callee.value (Go.Operand.func 22), args := #[Go.Operand.tmp 81], argTypes := #[31] }, type := 3, pos := "law.go:67", after := #[{ on := 2, ground := Go.Ground.data }, { on := 1, ground := Go.Ground.chain }], guard := none }) rfl (fun K hK => ?_) AllReadyH.nil
            go_simp
            refine (HRCK.out _ hP1.s0).mono ?_
            rintro e z2 ⟨rfl, hb⟩
            have hP2 := hP1.keep hb
            clear hb
            (try go_wp2_with fail)
            refine hK.out _ _ (by (first | exact hP0 | exact hP1 | exact hP2 | exact hP3 | exact hP4)) (fun hHeld => ?_)
            clear hK K
            (try simp only [Act.put, List.setIfInBounds_toArray, List.set_cons_zero, List.set_cons_succ])
            refine wpAnyH_take (i := 4) (oi := { dst := some 83, op := Go.Op.binOp Go.BinOp.eql 3 (Go.Operand.tmp 80) (Go.Operand.tmp 82) 3, type := 4, pos := "law.go:67", after := #[{ on := 1, ground := Go.Ground.data }, { on := 3, ground := Go.Ground.data }], guard := none }) (v := ?_) rfl (by kernel_rfl) (by kernel_rfl) (by kernel_rfl) (fun _ _ _ h => h) (Or.inl ⟨by rfl, ?_⟩) (by assumption) ?_
            (rotate_left; focus (intro wS hSw; have q0 := (hSw.b0.2 0 _ rfl).1; have q1 := (hSw.b0.2 1 _ rfl).1; have q2 := (hSw.b0.2 2 _ rfl).1; have q3 := (hSw.b3.2 0 _ rfl).1; have q4 := (hSw.b3.2 1 _ rfl).1; have q5 := (hSw.b3.2 2 _ rfl).1; have q6 := (hSw.b4.2 0 _ rfl).1; have q7 := (hSw.b4.2 1 _ rfl).1; have q8 := (hSw.b4.2 2 _ rfl).1; clear hSw; go_simp; (try rw [if_neg (by omega)]); try with_reducible rfl))
            (try simp only [Act.put, List.setIfInBounds_toArray, List.set_cons_zero, List.set_cons_succ])
            refine wpAnyH_take (i := 5) (oi := { dst := some 84, op := Go.Op.move (Go.Operand.tmp 83), type := 4, pos := "law.go:67", after := #[{ on := 4, ground := Go.Ground.data }, { on := 3, ground := Go.Ground.chain }], guard := none }) (v := ?_) rfl (by kernel_rfl) (by kernel_rfl) (by kernel_rfl) (fun _ _ _ h => h) (Or.inl ⟨by rfl, ?_⟩) (by assumption) ?_
            (rotate_left; focus (intro wS hSw; have q0 := (hSw.b0.2 0 _ rfl).1; have q1 := (hSw.b0.2 1 _ rfl).1; have q2 := (hSw.b0.2 2 _ rfl).1; have q3 := (hSw.b3.2 0 _ rfl).1; have q4 := (hSw.b3.2 1 _ rfl).1; have q5 := (hSw.b3.2 2 _ rfl).1; have q6 := (hSw.b4.2 0 _ rfl).1; have q7 := (hSw.b4.2 1 _ rfl).1; have q8 := (hSw.b4.2 2 _ rfl).1; clear hSw; go_simp; (try rw [if_neg (by omega)]); try with_reducible rfl))
            (try simp only [Act.put, List.setIfInBounds_toArray, List.set_cons_zero, List.set_cons_succ])
            refine wpAnyH_take (i := 6) (oi := { dst := some 85, op := Go.Op.move (Go.Operand.tmp 8), type := 9, pos := "law.go:67", after := #[{ on := 5, ground := Go.Ground.guard }], guard := some (5, true) }) (v := ?_) rfl (by kernel_rfl) (by kernel_rfl) (by kernel_rfl) (fun _ _ _ h => h) (Or.inl ⟨by rfl, ?_⟩) (by assumption) ?_
            (rotate_left; focus (intro wS hSw; have q0 := (hSw.b0.2 0 _ rfl).1; have q1 := (hSw.b0.2 1 _ rfl).1; have q2 := (hSw.b0.2 2 _ rfl).1; have q3 := (hSw.b3.2 0 _ rfl).1; have q4 := (hSw.b3.2 1 _ rfl).1; have q5 := (hSw.b3.2 2 _ rfl).1; have q6 := (hSw.b4.2 0 _ rfl).1; have q7 := (hSw.b4.2 1 _ rfl).1; have q8 := (hSw.b4.2 2 _ rfl).1; clear hSw; go_simp; (try rw [if_neg (by omega)]); try with_reducible rfl))
            (try simp only [Act.put, List.setIfInBounds_toArray, List.set_cons_zero, List.set_cons_succ])
            refine wpAnyH_take (i := 7) (oi := { dst := some 86, op := Go.Op.move (Go.Operand.tmp 10), type := 9, pos := "law.go:67", after := #[{ on := 5, ground := Go.Ground.guard }], guard := some (5, true) }) (v := ?_) rfl (by kernel_rfl) (by kernel_rfl) (by kernel_rfl) (fun _ _ _ h => h) (Or.inl ⟨by rfl, ?_⟩) (by assumption) ?_
            (rotate_left; focus (intro wS hSw; have q0 := (hSw.b0.2 0 _ rfl).1; have q1 := (hSw.b0.2 1 _ rfl).1; have q2 := (hSw.b0.2 2 _ rfl).1; have q3 := (hSw.b3.2 0 _ rfl).1; have q4 := (hSw.b3.2 1 _ rfl).1; have q5 := (hSw.b3.2 2 _ rfl).1; have q6 := (hSw.b4.2 0 _ rfl).1; have q7 := (hSw.b4.2 1 _ rfl).1; have q8 := (hSw.b4.2 2 _ rfl).1; clear hSw; go_simp; (try rw [if_neg (by omega)]); try with_reducible rfl))
            (try simp only [Act.put, List.setIfInBounds_toArray, List.set_cons_zero, List.set_cons_succ])
            refine wpAnyH_take (i := 8) (oi := { dst := some 87, op := Go.Op.binOp Go.BinOp.eql 9 (Go.Operand.tmp 85) (Go.Operand.tmp 86) 9, type := 4, pos := "law.go:67", after := #[{ on := 6, ground := Go.Ground.data }, { on := 7, ground := Go.Ground.data }, { on := 5, ground := Go.Ground.guard }], guard := some (5, true) }) (v := ?_) rfl (by kernel_rfl) (by kernel_rfl) (by kernel_rfl) (fun _ _ _ h => h) (Or.inl ⟨by rfl, ?_⟩) (by assumption) ?_
            (rotate_left; focus (intro wS hSw; have q0 := (hSw.b0.2 0 _ rfl).1; have q1 := (hSw.b0.2 1 _ rfl).1; have q2 := (hSw.b0.2 2 _ rfl).1; have q3 := (hSw.b3.2 0 _ rfl).1; have q4 := (hSw.b3.2 1 _ rfl).1; have q5 := (hSw.b3.2 2 _ rfl).1; have q6 := (hSw.b4.2 0 _ rfl).1; have q7 := (hSw.b4.2 1 _ rfl).1; have q8 := (hSw.b4.2 2 _ rfl).1; clear hSw; go_simp; (try rw [if_neg (by omega)]); try with_reducible rfl))
            (try simp only [Act.put, List.setIfInBounds_toArray, List.set_cons_zero, List.set_cons_succ])
            refine wpAnyH_take (i := 9) (oi := { dst := some 88, op := Go.Op.pick (Go.Operand.tmp 84) (Go.Operand.tmp 87) (Go.Operand.const (Go.Value.bool false)), type := 4, pos := "law.go:67", after := #[{ on := 5, ground := Go.Ground.data }, { on := 8, ground := Go.Ground.data }], guard := none }) (v := ?_) rfl (by kernel_rfl) (by kernel_rfl) (by kernel_rfl) (fun _ _ _ h => h) (Or.inl ⟨by rfl, ?_⟩) (by assumption) ?_
            (rotate_left; focus (intro wS hSw; have q0 := (hSw.b0.2 0 _ rfl).1; have q1 := (hSw.b0.2 1 _ rfl).1; have q2 := (hSw.b0.2 2 _ rfl).1; have q3 := (hSw.b3.2 0 _ rfl).1; have q4 := (hSw.b3.2 1 _ rfl).1; have q5 := (hSw.b3.2 2 _ rfl).1; have q6 := (hSw.b4.2 0 _ rfl).1; have q7 := (hSw.b4.2 1 _ rfl).1; have q8 := (hSw.b4.2 2 _ rfl).1; clear hSw; go_simp; (try rw [if_neg (by omega)]); try with_reducible rfl))
            (try simp only [Act.put, List.setIfInBounds_toArray, List.set_cons_zero, List.set_cons_succ])
            refine wpAnyH_take (i := 10) (oi := { dst := some 89, op := Go.Op.move (Go.Operand.tmp 88), type := 4, pos := "law.go:67", after := #[{ on := 9, ground := Go.Ground.data }, { on := 5, ground := Go.Ground.chain }], guard := none }) (v := ?_) rfl (by kernel_rfl) (by kernel_rfl) (by kernel_rfl) (fun _ _ _ h => h) (Or.inl ⟨by rfl, ?_⟩) (by assumption) ?_
            (rotate_left; focus (intro wS hSw; have q0 := (hSw.b0.2 0 _ rfl).1; have q1 := (hSw.b0.2 1 _ rfl).1; have q2 := (hSw.b0.2 2 _ rfl).1; have q3 := (hSw.b3.2 0 _ rfl).1; have q4 := (hSw.b3.2 1 _ rfl).1; have q5 := (hSw.b3.2 2 _ rfl).1; have q6 := (hSw.b4.2 0 _ rfl).1; have q7 := (hSw.b4.2 1 _ rfl).1; have q8 := (hSw.b4.2 2 _ rfl).1; clear hSw; go_simp; (try rw [if_neg (by omega)]); try with_reducible rfl))
            (try simp only [Act.put, List.setIfInBounds_toArray, List.set_cons_zero, List.set_cons_succ])
            refine wpAnyH_take (i := 11) (oi := { dst := some 90, op := Go.Op.move (Go.Operand.tmp 9), type := 24, pos := "law.go:67", after := #[{ on := 10, ground := Go.Ground.guard }], guard := some (10, true) }) (v := ?_) rfl (by kernel_rfl) (by kernel_rfl) (by kernel_rfl) (fun _ _ _ h => h) (Or.inl ⟨by rfl, ?_⟩) (by assumption) ?_
            (rotate_left; focus (intro wS hSw; have q0 := (hSw.b0.2 0 _ rfl).1; have q1 := (hSw.b0.2 1 _ rfl).1; have q2 := (hSw.b0.2 2 _ rfl).1; have q3 := (hSw.b3.2 0 _ rfl).1; have q4 := (hSw.b3.2 1 _ rfl).1; have q5 := (hSw.b3.2 2 _ rfl).1; have q6 := (hSw.b4.2 0 _ rfl).1; have q7 := (hSw.b4.2 1 _ rfl).1; have q8 := (hSw.b4.2 2 _ rfl).1; clear hSw; go_simp; (try rw [if_neg (by omega)]); try with_reducible rfl))
            (try simp only [Act.put, List.setIfInBounds_toArray, List.set_cons_zero, List.set_cons_succ])
            refine wpAnyH_take (i := 12) (oi := { dst := some 91, op := Go.Op.move (Go.Operand.tmp 11), type := 3, pos := "law.go:67", after := #[{ on := 10, ground := Go.Ground.guard }], guard := some (10, true) }) (v := ?_) rfl (by kernel_rfl) (by kernel_rfl) (by kernel_rfl) (fun _ _ _ h => h) (Or.inl ⟨by rfl, ?_⟩) (by assumption) ?_
            (rotate_left; focus (intro wS hSw; have q0 := (hSw.b0.2 0 _ rfl).1; have q1 := (hSw.b0.2 1 _ rfl).1; have q2 := (hSw.b0.2 2 _ rfl).1; have q3 := (hSw.b3.2 0 _ rfl).1; have q4 := (hSw.b3.2 1 _ rfl).1; have q5 := (hSw.b3.2 2 _ rfl).1; have q6 := (hSw.b4.2 0 _ rfl).1; have q7 := (hSw.b4.2 1 _ rfl).1; have q8 := (hSw.b4.2 2 _ rfl).1; clear hSw; go_simp; (try rw [if_neg (by omega)]); try with_reducible rfl))
            (try simp only [Act.put, List.setIfInBounds_toArray, List.set_cons_zero, List.set_cons_succ])
            refine wpAnyH_take (i := 13) (oi := { dst := some 92, op := Go.Op.binOp Go.BinOp.eql 3 (Go.Operand.tmp 90) (Go.Operand.tmp 91) 3, type := 4, pos := "law.go:67", after := #[{ on := 11, ground := Go.Ground.data }, { on := 12, ground := Go.Ground.data }, { on := 10, ground := Go.Ground.guard }], guard := some (10, true) }) (v := ?_) rfl (by kernel_rfl) (by kernel_rfl) (by kernel_rfl) (fun _ _ _ h => h) (Or.inl ⟨by rfl, ?_⟩) (by assumption) ?_
            (rotate_left; focus (intro wS hSw; have q0 := (hSw.b0.2 0 _ rfl).1; have q1 := (hSw.b0.2 1 _ rfl).1; have q2 := (hSw.b0.2 2 _ rfl).1; have q3 := (hSw.b3.2 0 _ rfl).1; have q4 := (hSw.b3.2 1 _ rfl).1; have q5 := (hSw.b3.2 2 _ rfl).1; have q6 := (hSw.b4.2 0 _ rfl).1; have q7 := (hSw.b4.2 1 _ rfl).1; have q8 := (hSw.b4.2 2 _ rfl).1; clear hSw; go_simp; (try rw [if_neg (by omega)]); try with_reducible rfl))
            (try simp only [Act.put, List.setIfInBounds_toArray, List.set_cons_zero, List.set_cons_succ])
            refine wpAnyH_take (i := 14) (oi := { dst := some 93, op := Go.Op.pick (Go.Operand.tmp 89) (Go.Operand.tmp 92) (Go.Operand.const (Go.Value.bool false)), type := 4, pos := "law.go:67", after := #[{ on := 10, ground := Go.Ground.data }, { on := 13, ground := Go.Ground.data }], guard := none }) (v := ?_) rfl (by kernel_rfl) (by kernel_rfl) (by kernel_rfl) (fun _ _ _ h => h) (Or.inl ⟨by rfl, ?_⟩) (by assumption) ?_
            (rotate_left; focus (intro wS hSw; have q0 := (hSw.b0.2 0 _ rfl).1; have q1 := (hSw.b0.2 1 _ rfl).1; have q2 := (hSw.b0.2 2 _ rfl).1; have q3 := (hSw.b3.2 0 _ rfl).1; have q4 := (hSw.b3.2 1 _ rfl).1; have q5 := (hSw.b3.2 2 _ rfl).1; have q6 := (hSw.b4.2 0 _ rfl).1; have q7 := (hSw.b4.2 1 _ rfl).1; have q8 := (hSw.b4.2 2 _ rfl).1; clear hSw; go_simp; (try rw [if_neg (by omega)]); try with_reducible rfl))
            (try simp only [Act.put, List.setIfInBounds_toArray, List.set_cons_zero, List.set_cons_succ])
            refine wpAnyH_take (i := 15) (oi := { dst := some 94, op := Go.Op.move (Go.Operand.tmp 93), type := 4, pos := "law.go:67", after := #[{ on := 14, ground := Go.Ground.data }, { on := 10, ground := Go.Ground.chain }], guard := none }) (v := ?_) rfl (by kernel_rfl) (by kernel_rfl) (by kernel_rfl) (fun _ _ _ h => h) (Or.inl ⟨by rfl, ?_⟩) (by assumption) ?_
            (rotate_left; focus (intro wS hSw; have q0 := (hSw.b0.2 0 _ rfl).1; have q1 := (hSw.b0.2 1 _ rfl).1; have q2 := (hSw.b0.2 2 _ rfl).1; have q3 := (hSw.b3.2 0 _ rfl).1; have q4 := (hSw.b3.2 1 _ rfl).1; have q5 := (hSw.b3.2 2 _ rfl).1; have q6 := (hSw.b4.2 0 _ rfl).1; have q7 := (hSw.b4.2 1 _ rfl).1; have q8 := (hSw.b4.2 2 _ rfl).1; clear hSw; go_simp; (try rw [if_neg (by omega)]); try with_reducible rfl))
            (try simp only [Act.put, List.setIfInBounds_toArray, List.set_cons_zero, List.set_cons_succ])
            refine wpAnyH_take (i := 16) (oi := { dst := some 95, op := Go.Op.load 31 (Go.Operand.tmp 12), type := 31, pos := "law.go:67", after := #[{ on := 15, ground := Go.Ground.guard }], guard := some (15, true) }) (v := ?_) rfl (by kernel_rfl) (by kernel_rfl) (by kernel_rfl) (fun _ _ _ h => h) (Or.inl ⟨by rfl, ?_⟩) (by assumption) ?_
            (rotate_left; focus (intro wS hSw; have q0 := (hSw.b0.2 0 _ rfl).1; have q1 := (hSw.b0.2 1 _ rfl).1; have q2 := (hSw.b0.2 2 _ rfl).1; have q3 := (hSw.b3.2 0 _ rfl).1; have q4 := (hSw.b3.2 1 _ rfl).1; have q5 := (hSw.b3.2 2 _ rfl).1; have q6 := (hSw.b4.2 0 _ rfl).1; have q7 := (hSw.b4.2 1 _ rfl).1; have q8 := (hSw.b4.2 2 _ rfl).1; clear hSw; go_simp; (try rw [if_neg (by omega)]); try with_reducible rfl))
            (try simp only [Act.put, List.setIfInBounds_toArray, List.set_cons_zero, List.set_cons_succ])
            refine wpAnyH_take (i := 17) (oi := { dst := some 96, op := Go.Op.load 31 (Go.Operand.tmp 14), type := 31, pos := "law.go:67", after := #[{ on := 15, ground := Go.Ground.guard }], guard := some (15, true) }) (v := ?_) rfl (by kernel_rfl) (by kernel_rfl) (by kernel_rfl) (fun _ _ _ h => h) (Or.inl ⟨by rfl, ?_⟩) (by assumption) ?_
            (rotate_left; focus (intro wS hSw; have q0 := (hSw.b0.2 0 _ rfl).1; have q1 := (hSw.b0.2 1 _ rfl).1; have q2 := (hSw.b0.2 2 _ rfl).1; have q3 := (hSw.b3.2 0 _ rfl).1; have q4 := (hSw.b3.2 1 _ rfl).1; have q5 := (hSw.b3.2 2 _ rfl).1; have q6 := (hSw.b4.2 0 _ rfl).1; have q7 := (hSw.b4.2 1 _ rfl).1; have q8 := (hSw.b4.2 2 _ rfl).1; clear hSw; go_simp; (try rw [if_neg (by omega)]); try with_reducible rfl))
            (try simp only [Act.put, List.setIfInBounds_toArray, List.set_cons_zero, List.set_cons_succ])
            refine wpAnyH_ready (rs := [18]) (by kernel_rfl) (by simp) ?_
            refine AllReadyH.cons (o := { dst := some 97, op := Go.Op.call { callee := Go.Callee.value (Go.Operand.func 13), args := #[Go.Operand.tmp 95, Go.Operand.tmp 96], argTypes := #[31, 31] }, type := 4, pos := "law.go:67", after := #[{ on := 16, ground := Go.Ground.data }, { on := 17, ground := Go.Ground.data }, { on := 15, ground := Go.Ground.chain }, { on := 15, ground := Go.Ground.guard }], guard := some (15, true) }) rfl (fun K hK => ?_) AllReadyH.nil
            go_simp
            refine (TS.out _ _ _ _ _ hP2.s3 hP2.s4).mono ?_
            rintro e z3 ⟨rfl, hb⟩
            have hP3 := hP2.keep hb
            clear hb
            (try go_wp2_with fail)
            refine hK.out _ _ (by (first | exact hP0 | exact hP1 | exact hP2 | exact hP3 | exact hP4)) (fun hHeld => ?_)
            clear hK K
            (try simp only [Act.put, List.setIfInBounds_toArray, List.set_cons_zero, List.set_cons_succ])
            refine wpAnyH_take (i := 19) (oi := { dst := some 98, op := Go.Op.pick (Go.Operand.tmp 94) (Go.Operand.tmp 97) (Go.Operand.const (Go.Value.bool false)), type := 4, pos := "law.go:67", after := #[{ on := 15, ground := Go.Ground.data }, { on := 18, ground := Go.Ground.data }], guard := none }) (v := ?_) rfl (by kernel_rfl) (by kernel_rfl) (by kernel_rfl) (fun _ _ _ h => h) (Or.inl ⟨by rfl, ?_⟩) (by assumption) ?_
            (rotate_left; focus (intro wS hSw; have q0 := (hSw.b0.2 0 _ rfl).1; have q1 := (hSw.b0.2 1 _ rfl).1; have q2 := (hSw.b0.2 2 _ rfl).1; have q3 := (hSw.b3.2 0 _ rfl).1; have q4 := (hSw.b3.2 1 _ rfl).1; have q5 := (hSw.b3.2 2 _ rfl).1; have q6 := (hSw.b4.2 0 _ rfl).1; have q7 := (hSw.b4.2 1 _ rfl).1; have q8 := (hSw.b4.2 2 _ rfl).1; clear hSw; go_simp; (try rw [if_neg (by omega)]); try with_reducible rfl))
            (try simp only [Act.put, List.setIfInBounds_toArray, List.set_cons_zero, List.set_cons_succ])
            refine wpAnyH_take (i := 20) (oi := { dst := some 99, op := Go.Op.move (Go.Operand.tmp 98), type := 4, pos := "law.go:67", after := #[{ on := 19, ground := Go.Ground.data }, { on := 18, ground := Go.Ground.chain }], guard := none }) (v := ?_) rfl (by kernel_rfl) (by kernel_rfl) (by kernel_rfl) (fun _ _ _ h => h) (Or.inl ⟨by rfl, ?_⟩) (by assumption) ?_
            (rotate_left; focus (intro wS hSw; have q0 := (hSw.b0.2 0 _ rfl).1; have q1 := (hSw.b0.2 1 _ rfl).1; have q2 := (hSw.b0.2 2 _ rfl).1; have q3 := (hSw.b3.2 0 _ rfl).1; have q4 := (hSw.b3.2 1 _ rfl).1; have q5 := (hSw.b3.2 2 _ rfl).1; have q6 := (hSw.b4.2 0 _ rfl).1; have q7 := (hSw.b4.2 1 _ rfl).1; have q8 := (hSw.b4.2 2 _ rfl).1; clear hSw; go_simp; (try rw [if_neg (by omega)]); try with_reducible rfl))
            (try simp only [Act.put, List.setIfInBounds_toArray, List.set_cons_zero, List.set_cons_succ])
            refine wpAnyH_take (i := 21) (oi := { dst := some 100, op := Go.Op.move (Go.Operand.tmp 13), type := 24, pos := "law.go:67", after := #[{ on := 20, ground := Go.Ground.guard }], guard := some (20, true) }) (v := ?_) rfl (by kernel_rfl) (by kernel_rfl) (by kernel_rfl) (fun _ _ _ h => h) (Or.inl ⟨by rfl, ?_⟩) (by assumption) ?_
            (rotate_left; focus (intro wS hSw; have q0 := (hSw.b0.2 0 _ rfl).1; have q1 := (hSw.b0.2 1 _ rfl).1; have q2 := (hSw.b0.2 2 _ rfl).1; have q3 := (hSw.b3.2 0 _ rfl).1; have q4 := (hSw.b3.2 1 _ rfl).1; have q5 := (hSw.b3.2 2 _ rfl).1; have q6 := (hSw.b4.2 0 _ rfl).1; have q7 := (hSw.b4.2 1 _ rfl).1; have q8 := (hSw.b4.2 2 _ rfl).1; clear hSw; go_simp; (try rw [if_neg (by omega)]); try with_reducible rfl))
            (try simp only [Act.put, List.setIfInBounds_toArray, List.set_cons_zero, List.set_cons_succ])
            refine wpAnyH_take (i := 22) (oi := { dst := some 101, op := Go.Op.move (Go.Operand.tmp 15), type := 3, pos := "law.go:67", after := #[{ on := 20, ground := Go.Ground.guard }], guard := some (20, true) }) (v := ?_) rfl (by kernel_rfl) (by kernel_rfl) (by kernel_rfl) (fun _ _ _ h => h) (Or.inl ⟨by rfl, ?_⟩) (by assumption) ?_
            (rotate_left; focus (intro wS hSw; have q0 := (hSw.b0.2 0 _ rfl).1; have q1 := (hSw.b0.2 1 _ rfl).1; have q2 := (hSw.b0.2 2 _ rfl).1; have q3 := (hSw.b3.2 0 _ rfl).1; have q4 := (hSw.b3.2 1 _ rfl).1; have q5 := (hSw.b3.2 2 _ rfl).1; have q6 := (hSw.b4.2 0 _ rfl).1; have q7 := (hSw.b4.2 1 _ rfl).1; have q8 := (hSw.b4.2 2 _ rfl).1; clear hSw; go_simp; (try rw [if_neg (by omega)]); try with_reducible rfl))
            (try simp only [Act.put, List.setIfInBounds_toArray, List.set_cons_zero, List.set_cons_succ])
            refine wpAnyH_take (i := 23) (oi := { dst := some 102, op := Go.Op.binOp Go.BinOp.eql 3 (Go.Operand.tmp 100) (Go.Operand.tmp 101) 3, type := 4, pos := "law.go:67", after := #[{ on := 21, ground := Go.Ground.data }, { on := 22, ground := Go.Ground.data }, { on := 20, ground := Go.Ground.guard }], guard := some (20, true) }) (v := ?_) rfl (by kernel_rfl) (by kernel_rfl) (by kernel_rfl) (fun _ _ _ h => h) (Or.inl ⟨by rfl, ?_⟩) (by assumption) ?_
            (rotate_left; focus (intro wS hSw; have q0 := (hSw.b0.2 0 _ rfl).1; have q1 := (hSw.b0.2 1 _ rfl).1; have q2 := (hSw.b0.2 2 _ rfl).1; have q3 := (hSw.b3.2 0 _ rfl).1; have q4 := (hSw.b3.2 1 _ rfl).1; have q5 := (hSw.b3.2 2 _ rfl).1; have q6 := (hSw.b4.2 0 _ rfl).1; have q7 := (hSw.b4.2 1 _ rfl).1; have q8 := (hSw.b4.2 2 _ rfl).1; clear hSw; go_simp; (try rw [if_neg (by omega)]); try with_reducible rfl))
            (try simp only [Act.put, List.setIfInBounds_toArray, List.set_cons_zero, List.set_cons_succ])
            refine wpAnyH_take (i := 24) (oi := { dst := some 103, op := Go.Op.pick (Go.Operand.tmp 99) (Go.Operand.tmp 102) (Go.Operand.const (Go.Value.bool false)), type := 4, pos := "law.go:67", after := #[{ on := 20, ground := Go.Ground.data }, { on := 23, ground := Go.Ground.data }], guard := none }) (v := ?_) rfl (by kernel_rfl) (by kernel_rfl) (by kernel_rfl) (fun _ _ _ h => h) (Or.inl ⟨by rfl, ?_⟩) (by assumption) ?_
            (rotate_left; focus (intro wS hSw; have q0 := (hSw.b0.2 0 _ rfl).1; have q1 := (hSw.b0.2 1 _ rfl).1; have q2 := (hSw.b0.2 2 _ rfl).1; have q3 := (hSw.b3.2 0 _ rfl).1; have q4 := (hSw.b3.2 1 _ rfl).1; have q5 := (hSw.b3.2 2 _ rfl).1; have q6 := (hSw.b4.2 0 _ rfl).1; have q7 := (hSw.b4.2 1 _ rfl).1; have q8 := (hSw.b4.2 2 _ rfl).1; clear hSw; go_simp; (try rw [if_neg (by omega)]); try with_reducible rfl))
            (try simp only [Act.put, List.setIfInBounds_toArray, List.set_cons_zero, List.set_cons_succ])
            refine wpAnyH_take (i := 25) (oi := { dst := some 104, op := Go.Op.move (Go.Operand.tmp 103), type := 4, pos := "law.go:67", after := #[{ on := 24, ground := Go.Ground.data }, { on := 20, ground := Go.Ground.chain }], guard := none }) (v := ?_) rfl (by kernel_rfl) (by kernel_rfl) (by kernel_rfl) (fun _ _ _ h => h) (Or.inl ⟨by rfl, ?_⟩) (by assumption) ?_
            (rotate_left; focus (intro wS hSw; have q0 := (hSw.b0.2 0 _ rfl).1; have q1 := (hSw.b0.2 1 _ rfl).1; have q2 := (hSw.b0.2 2 _ rfl).1; have q3 := (hSw.b3.2 0 _ rfl).1; have q4 := (hSw.b3.2 1 _ rfl).1; have q5 := (hSw.b3.2 2 _ rfl).1; have q6 := (hSw.b4.2 0 _ rfl).1; have q7 := (hSw.b4.2 1 _ rfl).1; have q8 := (hSw.b4.2 2 _ rfl).1; clear hSw; go_simp; (try rw [if_neg (by omega)]); try with_reducible rfl))
            (try simp only [Act.put, List.setIfInBounds_toArray, List.set_cons_zero, List.set_cons_succ])
            refine wpAnyH_take (i := 26) (oi := { dst := some 105, op := Go.Op.move (Go.Operand.tmp 16), type := 9, pos := "law.go:67", after := #[{ on := 25, ground := Go.Ground.guard }], guard := some (25, true) }) (v := ?_) rfl (by kernel_rfl) (by kernel_rfl) (by kernel_rfl) (fun _ _ _ h => h) (Or.inl ⟨by rfl, ?_⟩) (by assumption) ?_
            (rotate_left; focus (intro wS hSw; have q0 := (hSw.b0.2 0 _ rfl).1; have q1 := (hSw.b0.2 1 _ rfl).1; have q2 := (hSw.b0.2 2 _ rfl).1; have q3 := (hSw.b3.2 0 _ rfl).1; have q4 := (hSw.b3.2 1 _ rfl).1; have q5 := (hSw.b3.2 2 _ rfl).1; have q6 := (hSw.b4.2 0 _ rfl).1; have q7 := (hSw.b4.2 1 _ rfl).1; have q8 := (hSw.b4.2 2 _ rfl).1; clear hSw; go_simp; (try rw [if_neg (by omega)]); try with_reducible rfl))
            (try simp only [Act.put, List.setIfInBounds_toArray, List.set_cons_zero, List.set_cons_succ])
            refine wpAnyH_take (i := 27) (oi := { dst := some 106, op := Go.Op.move (Go.Operand.tmp 18), type := 9, pos := "law.go:67", after := #[{ on := 25, ground := Go.Ground.guard }], guard := some (25, true) }) (v := ?_) rfl (by kernel_rfl) (by kernel_rfl) (by kernel_rfl) (fun _ _ _ h => h) (Or.inl ⟨by rfl, ?_⟩) (by assumption) ?_
            (rotate_left; focus (intro wS hSw; have q0 := (hSw.b0.2 0 _ rfl).1; have q1 := (hSw.b0.2 1 _ rfl).1; have q2 := (hSw.b0.2 2 _ rfl).1; have q3 := (hSw.b3.2 0 _ rfl).1; have q4 := (hSw.b3.2 1 _ rfl).1; have q5 := (hSw.b3.2 2 _ rfl).1; have q6 := (hSw.b4.2 0 _ rfl).1; have q7 := (hSw.b4.2 1 _ rfl).1; have q8 := (hSw.b4.2 2 _ rfl).1; clear hSw; go_simp; (try rw [if_neg (by omega)]); try with_reducible rfl))
            (try simp only [Act.put, List.setIfInBounds_toArray, List.set_cons_zero, List.set_cons_succ])
            refine wpAnyH_take (i := 28) (oi := { dst := some 107, op := Go.Op.binOp Go.BinOp.eql 9 (Go.Operand.tmp 105) (Go.Operand.tmp 106) 9, type := 4, pos := "law.go:67", after := #[{ on := 26, ground := Go.Ground.data }, { on := 27, ground := Go.Ground.data }, { on := 25, ground := Go.Ground.guard }], guard := some (25, true) }) (v := ?_) rfl (by kernel_rfl) (by kernel_rfl) (by kernel_rfl) (fun _ _ _ h => h) (Or.inl ⟨by rfl, ?_⟩) (by assumption) ?_
            (rotate_left; focus (intro wS hSw; have q0 := (hSw.b0.2 0 _ rfl).1; have q1 := (hSw.b0.2 1 _ rfl).1; have q2 := (hSw.b0.2 2 _ rfl).1; have q3 := (hSw.b3.2 0 _ rfl).1; have q4 := (hSw.b3.2 1 _ rfl).1; have q5 := (hSw.b3.2 2 _ rfl).1; have q6 := (hSw.b4.2 0 _ rfl).1; have q7 := (hSw.b4.2 1 _ rfl).1; have q8 := (hSw.b4.2 2 _ rfl).1; clear hSw; go_simp; (try rw [if_neg (by omega)]); try with_reducible rfl))
            (try simp only [Act.put, List.setIfInBounds_toArray, List.set_cons_zero, List.set_cons_succ])
            refine wpAnyH_take (i := 29) (oi := { dst := some 108, op := Go.Op.pick (Go.Operand.tmp 104) (Go.Operand.tmp 107) (Go.Operand.const (Go.Value.bool false)), type := 4, pos := "law.go:67", after := #[{ on := 25, ground := Go.Ground.data }, { on := 28, ground := Go.Ground.data }], guard := none }) (v := ?_) rfl (by kernel_rfl) (by kernel_rfl) (by kernel_rfl) (fun _ _ _ h => h) (Or.inl ⟨by rfl, ?_⟩) (by assumption) ?_
            (rotate_left; focus (intro wS hSw; have q0 := (hSw.b0.2 0 _ rfl).1; have q1 := (hSw.b0.2 1 _ rfl).1; have q2 := (hSw.b0.2 2 _ rfl).1; have q3 := (hSw.b3.2 0 _ rfl).1; have q4 := (hSw.b3.2 1 _ rfl).1; have q5 := (hSw.b3.2 2 _ rfl).1; have q6 := (hSw.b4.2 0 _ rfl).1; have q7 := (hSw.b4.2 1 _ rfl).1; have q8 := (hSw.b4.2 2 _ rfl).1; clear hSw; go_simp; (try rw [if_neg (by omega)]); try with_reducible rfl))
            (try simp only [Act.put, List.setIfInBounds_toArray, List.set_cons_zero, List.set_cons_succ])
            refine wpAnyH_take (i := 30) (oi := { dst := some 109, op := Go.Op.move (Go.Operand.tmp 108), type := 4, pos := "law.go:67", after := #[{ on := 29, ground := Go.Ground.data }, { on := 25, ground := Go.Ground.chain }], guard := none }) (v := ?_) rfl (by kernel_rfl) (by kernel_rfl) (by kernel_rfl) (fun _ _ _ h => h) (Or.inl ⟨by rfl, ?_⟩) (by assumption) ?_
            (rotate_left; focus (intro wS hSw; have q0 := (hSw.b0.2 0 _ rfl).1; have q1 := (hSw.b0.2 1 _ rfl).1; have q2 := (hSw.b0.2 2 _ rfl).1; have q3 := (hSw.b3.2 0 _ rfl).1; have q4 := (hSw.b3.2 1 _ rfl).1; have q5 := (hSw.b3.2 2 _ rfl).1; have q6 := (hSw.b4.2 0 _ rfl).1; have q7 := (hSw.b4.2 1 _ rfl).1; have q8 := (hSw.b4.2 2 _ rfl).1; clear hSw; go_simp; (try rw [if_neg (by omega)]); try with_reducible rfl))
            (try simp only [Act.put, List.setIfInBounds_toArray, List.set_cons_zero, List.set_cons_succ])
            refine wpAnyH_take (i := 31) (oi := { dst := some 110, op := Go.Op.move (Go.Operand.tmp 17), type := 24, pos := "law.go:67", after := #[{ on := 30, ground := Go.Ground.guard }], guard := some (30, true) }) (v := ?_) rfl (by kernel_rfl) (by kernel_rfl) (by kernel_rfl) (fun _ _ _ h => h) (Or.inl ⟨by rfl, ?_⟩) (by assumption) ?_
            (rotate_left; focus (intro wS hSw; have q0 := (hSw.b0.2 0 _ rfl).1; have q1 := (hSw.b0.2 1 _ rfl).1; have q2 := (hSw.b0.2 2 _ rfl).1; have q3 := (hSw.b3.2 0 _ rfl).1; have q4 := (hSw.b3.2 1 _ rfl).1; have q5 := (hSw.b3.2 2 _ rfl).1; have q6 := (hSw.b4.2 0 _ rfl).1; have q7 := (hSw.b4.2 1 _ rfl).1; have q8 := (hSw.b4.2 2 _ rfl).1; clear hSw; go_simp; (try rw [if_neg (by omega)]); try with_reducible rfl))
            (try simp only [Act.put, List.setIfInBounds_toArray, List.set_cons_zero, List.set_cons_succ])
            refine wpAnyH_take (i := 32) (oi := { dst := some 111, op := Go.Op.move (Go.Operand.tmp 19), type := 3, pos := "law.go:67", after := #[{ on := 30, ground := Go.Ground.guard }], guard := some (30, true) }) (v := ?_) rfl (by kernel_rfl) (by kernel_rfl) (by kernel_rfl) (fun _ _ _ h => h) (Or.inl ⟨by rfl, ?_⟩) (by assumption) ?_
            (rotate_left; focus (intro wS hSw; have q0 := (hSw.b0.2 0 _ rfl).1; have q1 := (hSw.b0.2 1 _ rfl).1; have q2 := (hSw.b0.2 2 _ rfl).1; have q3 := (hSw.b3.2 0 _ rfl).1; have q4 := (hSw.b3.2 1 _ rfl).1; have q5 := (hSw.b3.2 2 _ rfl).1; have q6 := (hSw.b4.2 0 _ rfl).1; have q7 := (hSw.b4.2 1 _ rfl).1; have q8 := (hSw.b4.2 2 _ rfl).1; clear hSw; go_simp; (try rw [if_neg (by omega)]); try with_reducible rfl))
            (try simp only [Act.put, List.setIfInBounds_toArray, List.set_cons_zero, List.set_cons_succ])
            refine wpAnyH_take (i := 33) (oi := { dst := some 112, op := Go.Op.binOp Go.BinOp.eql 3 (Go.Operand.tmp 110) (Go.Operand.tmp 111) 3, type := 4, pos := "law.go:67", after := #[{ on := 31, ground := Go.Ground.data }, { on := 32, ground := Go.Ground.data }, { on := 30, ground := Go.Ground.guard }], guard := some (30, true) }) (v := ?_) rfl (by kernel_rfl) (by kernel_rfl) (by kernel_rfl) (fun _ _ _ h => h) (Or.inl ⟨by rfl, ?_⟩) (by assumption) ?_
            (rotate_left; focus (intro wS hSw; have q0 := (hSw.b0.2 0 _ rfl).1; have q1 := (hSw.b0.2 1 _ rfl).1; have q2 := (hSw.b0.2 2 _ rfl).1; have q3 := (hSw.b3.2 0 _ rfl).1; have q4 := (hSw.b3.2 1 _ rfl).1; have q5 := (hSw.b3.2 2 _ rfl).1; have q6 := (hSw.b4.2 0 _ rfl).1; have q7 := (hSw.b4.2 1 _ rfl).1; have q8 := (hSw.b4.2 2 _ rfl).1; clear hSw; go_simp; (try rw [if_neg (by omega)]); try with_reducible rfl))
            (try simp only [Act.put, List.setIfInBounds_toArray, List.set_cons_zero, List.set_cons_succ])
            refine wpAnyH_take (i := 34) (oi := { dst := some 113, op := Go.Op.pick (Go.Operand.tmp 109) (Go.Operand.tmp 112) (Go.Operand.const (Go.Value.bool false)), type := 4, pos := "law.go:67", after := #[{ on := 30, ground := Go.Ground.data }, { on := 33, ground := Go.Ground.data }], guard := none }) (v := ?_) rfl (by kernel_rfl) (by kernel_rfl) (by kernel_rfl) (fun _ _ _ h => h) (Or.inl ⟨by rfl, ?_⟩) (by assumption) ?_
            (rotate_left; focus (intro wS hSw; have q0 := (hSw.b0.2 0 _ rfl).1; have q1 := (hSw.b0.2 1 _ rfl).1; have q2 := (hSw.b0.2 2 _ rfl).1; have q3 := (hSw.b3.2 0 _ rfl).1; have q4 := (hSw.b3.2 1 _ rfl).1; have q5 := (hSw.b3.2 2 _ rfl).1; have q6 := (hSw.b4.2 0 _ rfl).1; have q7 := (hSw.b4.2 1 _ rfl).1; have q8 := (hSw.b4.2 2 _ rfl).1; clear hSw; go_simp; (try rw [if_neg (by omega)]); try with_reducible rfl))
            (try simp only [Act.put, List.setIfInBounds_toArray, List.set_cons_zero, List.set_cons_succ])
            refine wpAnyH_take (i := 35) (oi := { dst := some 114, op := Go.Op.move (Go.Operand.tmp 113), type := 4, pos := "law.go:67", after := #[{ on := 34, ground := Go.Ground.data }, { on := 30, ground := Go.Ground.chain }], guard := none }) (v := ?_) rfl (by kernel_rfl) (by kernel_rfl) (by kernel_rfl) (fun _ _ _ h => h) (Or.inl ⟨by rfl, ?_⟩) (by assumption) ?_
            (rotate_left; focus (intro wS hSw; have q0 := (hSw.b0.2 0 _ rfl).1; have q1 := (hSw.b0.2 1 _ rfl).1; have q2 := (hSw.b0.2 2 _ rfl).1; have q3 := (hSw.b3.2 0 _ rfl).1; have q4 := (hSw.b3.2 1 _ rfl).1; have q5 := (hSw.b3.2 2 _ rfl).1; have q6 := (hSw.b4.2 0 _ rfl).1; have q7 := (hSw.b4.2 1 _ rfl).1; have q8 := (hSw.b4.2 2 _ rfl).1; clear hSw; go_simp; (try rw [if_neg (by omega)]); try with_reducible rfl))
            (try simp only [Act.put, List.setIfInBounds_toArray, List.set_cons_zero, List.set_cons_succ])
            refine wpAnyH_ready (rs := [36]) (by kernel_rfl) (by simp) ?_
            refine AllReadyH.cons (o := { dst := some 115, op := Go.Op.call { callee := Go.Callee.value (Go.Operand.func 7), args := #[], argTypes := #[] }, type := 4, pos := "law.go:67", after := #[{ on := 35, ground := Go.Ground.chain }, { on := 35, ground := Go.Ground.guard }], guard := some (35, true) }) rfl (fun K hK => ?_) AllReadyH.nil
            go_simp
            refine (awake_any _).mono ?_
            rintro e z4 ⟨rfl, hb⟩
            have hP4 := hP3.keep hb
            clear hb
            (try go_wp2_with fail)
            refine hK.out _ _ (by (first | exact hP0 | exact hP1 | exact hP2 | exact hP3 | exact hP4)) (fun hHeld => ?_)
            clear hK K
            (try simp only [Act.put, List.setIfInBounds_toArray, List.set_cons_zero, List.set_cons_succ])
            refine wpAnyH_take (i := 37) (oi := { dst := some 116, op := Go.Op.pick (Go.Operand.tmp 114) (Go.Operand.tmp 115) (Go.Operand.const (Go.Value.bool false)), type := 4, pos := "law.go:67", after := #[{ on := 35, ground := Go.Ground.data }, { on := 36, ground := Go.Ground.data }], guard := none }) (v := ?_) rfl (by kernel_rfl) (by kernel_rfl) (by kernel_rfl) (fun _ _ _ h => h) (Or.inl ⟨by rfl, ?_⟩) (by assumption) ?_
            (rotate_left; focus (intro wS hSw; have q0 := (hSw.b0.2 0 _ rfl).1; have q1 := (hSw.b0.2 1 _ rfl).1; have q2 := (hSw.b0.2 2 _ rfl).1; have q3 := (hSw.b3.2 0 _ rfl).1; have q4 := (hSw.b3.2 1 _ rfl).1; have q5 := (hSw.b3.2 2 _ rfl).1; have q6 := (hSw.b4.2 0 _ rfl).1; have q7 := (hSw.b4.2 1 _ rfl).1; have q8 := (hSw.b4.2 2 _ rfl).1; clear hSw; go_simp; (try rw [if_neg (by omega)]); try with_reducible rfl))
            (try simp only [Act.put, List.setIfInBounds_toArray, List.set_cons_zero, List.set_cons_succ])
            refine wpAnyH_take (i := 38) (oi := { dst := some 6, op := Go.Op.assign (Go.Operand.tmp 116), type := 4, pos := "law.go:67", after := #[{ on := 37, ground := Go.Ground.data }, { on := 36, ground := Go.Ground.chain }, { on := 0, ground := Go.Ground.phase }, { on := 1, ground := Go.Ground.phase }, { on := 2, ground := Go.Ground.phase }, { on := 3, ground := Go.Ground.phase }, { on := 4, ground := Go.Ground.phase }, { on := 5, ground := Go.Ground.phase }, { on := 6, ground := Go.Ground.phase }, { on := 7, ground := Go.Ground.phase }, { on := 8, ground := Go.Ground.phase }, { on := 9, ground := Go.Ground.phase }, { on := 10, ground := Go.Ground.phase }, { on := 11, ground := Go.Ground.phase }, { on := 12, ground := Go.Ground.phase }, { on := 13, ground := Go.Ground.phase }, { on := 14, ground := Go.Ground.phase }, { on := 15, ground := Go.Ground.phase }, { on := 16, ground := Go.Ground.phase }, { on := 17, ground := Go.Ground.phase }, { on := 18, ground := Go.Ground.phase }, { on := 19, ground := Go.Ground.phase }, { on := 20, ground := Go.Ground.phase }, { on := 21, ground := Go.Ground.phase }, { on := 22, ground := Go.Ground.phase }, { on := 23, ground := Go.Ground.phase }, { on := 24, ground := Go.Ground.phase }, { on := 25, ground := Go.Ground.phase }, { on := 26, ground := Go.Ground.phase }, { on := 27, ground := Go.Ground.phase }, { on := 28, ground := Go.Ground.phase }, { on := 29, ground := Go.Ground.phase }, { on := 30, ground := Go.Ground.phase }, { on := 31, ground := Go.Ground.phase }, { on := 32, ground := Go.Ground.phase }, { on := 33, ground := Go.Ground.phase }, { on := 34, ground := Go.Ground.phase }, { on := 35, ground := Go.Ground.phase }, { on := 36, ground := Go.Ground.phase }, { on := 37, ground := Go.Ground.phase }], guard := none }) (v := ?_) rfl (by kernel_rfl) (by kernel_rfl) (by kernel_rfl) (fun _ _ _ h => h) (Or.inl ⟨by rfl, ?_⟩) (by assumption) ?_
            (rotate_left; focus (intro wS hSw; have q0 := (hSw.b0.2 0 _ rfl).1; have q1 := (hSw.b0.2 1 _ rfl).1; have q2 := (hSw.b0.2 2 _ rfl).1; have q3 := (hSw.b3.2 0 _ rfl).1; have q4 := (hSw.b3.2 1 _ rfl).1; have q5 := (hSw.b3.2 2 _ rfl).1; have q6 := (hSw.b4.2 0 _ rfl).1; have q7 := (hSw.b4.2 1 _ rfl).1; have q8 := (hSw.b4.2 2 _ rfl).1; clear hSw; go_simp; (try rw [if_neg (by omega)]); try with_reducible rfl))
            (try simp only [Act.put, List.setIfInBounds_toArray, List.set_cons_zero, List.set_cons_succ])
            refine wpAnyH_done (by kernel_rfl) ?_ _
            have HBF := Lib.hid hP4.below
            clear hP0 hP1 hP2 hP3 hP4
            go_wp2
            go_ret
            exact ⟨rfl, HBF.out⟩
  · have hff : fewM ids = false := by simpa using hf
    rw [hff] at TF
    generalize ids.length = NI at *
    generalize l.length = NL at *
    go_enter Try.func4, Try.ntmps4
    go_wp2_with fail
    refine (TF.out _ HS0.out).mono ?_
    rintro e w1 ⟨rfl, hb⟩
    have HB := Lib.hid (below_cons HB0.out hb)
    clear hb m0 m1 m2
    go_wp2_with fail
    refine (awake_any _).mono ?_
    rintro e w2 ⟨rfl, hb⟩
    have HB := Lib.hid (below_cons HB.out hb)
    clear hb
    go_wp2
    go_ret
    exact ⟨rfl, HB.out⟩
theorem man_of {H : Type} {enc : TypeId × Value → H} {w : World} {base n : Nat} {spare : Bool} {held : TypeId → Bool} {cs : List Value} {x : DataW H × List MemPlace}
    (h : DataW.trod enc Try.prog w base held spare n 31 cs = some x) : ∃ (S C : Int) (ids : List ByteArray) (a : Option Addr) (c : Nat), cs = [.int .i64 S, .int .i64 C, .slice a ids.length c] ∧ Sl strC 1 w a ids := by
  have hl := trod_len Try.underlying31 h
  rw [show Try.prog.cellsOf 31 = 3 by kernel_rfl] at hl
  obtain ⟨c0, c1, c2, rfl⟩ := list3 hl
  obtain ⟨_, _, e0⟩ := trod_part Try.underlying31 h 0 3 0 1 rfl rfl rfl (by kernel_rfl)
  obtain ⟨_, _, e1⟩ := trod_part Try.underlying31 h 1 3 1 1 rfl rfl rfl (by kernel_rfl)
  obtain ⟨_, _, e2⟩ := trod_part Try.underlying31 h 2 23 2 1 rfl rfl rfl (by kernel_rfl)
  simp only [List.drop_zero, List.drop_succ_cons, List.take_succ_cons, List.take_zero] at e0 e1 e2
  obtain ⟨S, k0, _⟩ := DataW.trod_int Try.underlying3 e0
  obtain ⟨C, k1, _⟩ := DataW.trod_int Try.underlying3 e1
  obtain ⟨xs, ⟨a, cap, k2, hc, hs⟩, _, hg⟩ := strs_of e2
  simp only [List.cons.injEq, and_true] at k0 k1 k2
  subst k0 k1 k2
  exact ⟨S, C, xs, a, cap, rfl, hs⟩
def ManOk (w : World) (v : Value) : Prop := ∃ (S C : Int) (ids : List ByteArray) (a : Option Addr) (c : Nat), v = mf S C a ids.length c ∧ Sl strC 1 w a ids
theorem open_man {H : Type} {enc : TypeId × Value → H} {w : World} {base base0 : Nat} {spare : Bool} {held : TypeId → Bool} {r : Reach} {v : Value} {d : DataW H} {p : List MemPlace}
    (hv : Value.okWide Try.prog w r base0 31 v) (h : DataW.Trod enc Try.prog w base held spare 31 v d p) : ∃ x : Unit, ManOk w v := by
  obtain ⟨cs, rfl⟩ := agg_of Try.underlying31 hv
  obtain ⟨fuel, hf⟩ := h
  simp only [Value.cells] at hf
  obtain ⟨S, C, ids, a, c, e, hs⟩ := man_of hf
  obtain ⟨l⟩ := cs
  simp only at e
  exact ⟨(), S, C, ids, a, c, by rw [e]; rfl, hs⟩
theorem reads_law (v : Value) (_x : Unit) (s : ByteArray) (vl : Value) (l : List ByteArray) (w : World) (h : ManOk w v) (hs : s.size ≤ 140737488351232) (hl : StrsOk l w vl) :
    Calls Try.prog 4 #[v, .string s, vl] w fun e w' => e = .returned (.bool true) ∧ Below w.heap.size w w' := by
  obtain ⟨S, C, ids, a, c, rfl, hsl⟩ := h
  obtain ⟨al, cl, rfl, hcl, _, hll, _⟩ := hl
  exact reads_main S C ids a c s l al cl w hsl hll hcl hs
end Go.Proofs.Ytanehgnpominiaa

