/-
  The contracts of the law's few, and of Ratio, the code's and the law's own.
-/
import Derived.Test.YtoimlaaakkfifaaH
set_option linter.unusedVariables false
set_option linter.unusedSimpArgs false
namespace Go.Proofs.Ytoimlaaakkfifaa
open Go.RowKit
def fewE (x : EntM) : Bool := !(decide (100 < x.e.name.size) || decide (20 < x.e.ids.length) || decide (1073741824 < x.e.chunk) || decide (1073741824 < x.e.size) || decide (x.e.size < -1073741824))
def fewL (l : List EntM) : Bool := decide (l.length ≤ 16) && l.all fewE
theorem fewE_ok {x : EntM} (h : fewE x = true) : x.e.ok := by
  unfold fewE at h
  simp only [Bool.not_eq_true', Bool.or_eq_false_iff, decide_eq_false_iff_not] at h
  obtain ⟨⟨⟨⟨h1, h2⟩, h3⟩, h4⟩, h5⟩ := h
  unfold Ent.ok
  omega
theorem few_ok {l : List EntM} (h : fewL l = true) : l.length ≤ 16 ∧ ∀ e ∈ ents l, e.ok := by
  unfold fewL at h
  rw [Bool.and_eq_true, decide_eq_true_eq, List.all_eq_true] at h
  refine ⟨h.1, fun e he => ?_⟩
  obtain ⟨x, hx, rfl⟩ := List.mem_map.1 he
  exact fewE_ok (h.2 x hx)
theorem few_take (l : List EntM) (k : Nat) (h : k < l.length) : (l.take (k + 1)).all fewE = ((l.take k).all fewE && fewE l[k]) := by
  rw [List.take_succ_eq_append_getElem h, List.all_append]; simp
set_option maxRecDepth 100000 in
set_option maxHeartbeats 16000000 in
theorem few_any (l : List EntM) (a : Option Addr) (cap : Nat) (w : World) (hs : Sl encE 8 w a l) (hlm : l.length ≤ 9223372036854775807) :
    Calls Try.prog 5 #[.slice a l.length cap] w fun r w' => r = .returned (.bool (fewL l)) ∧ Below w.heap.size w w' := by
  by_cases hlen : l.length ≤ 16
  · have d0 : decide ((16 : Int) < (l.length : Int)) = false := decide_eq_false (by omega)
    have HS := Lib.hid hs
    have HTK := Lib.hid (few_take l)
    have HNO : Hid (∀ k (h : k < l.length), fewE l[k] = false → fewL l = false) := Lib.hid (fun k h hf => by
      cases hb : fewL l
      · rfl
      · unfold fewL at hb
        rw [Bool.and_eq_true, List.all_eq_true] at hb
        rw [hb.2 _ (List.getElem_mem h)] at hf
        exact hf)
    have HYS : Hid ((l.take l.length).all fewE = true → fewL l = true) := Lib.hid (fun h => by unfold fewL; rw [List.take_length] at h; rw [h, decide_eq_true hlen]; rfl)
    clear hs hlm
    obtain ⟨n, hn⟩ : ∃ n, n = l.length := ⟨_, rfl⟩
    have HN := Lib.hid hn
    rw [← hn] at hlen d0 HYS ⊢
    clear hn
    go_enter Try.func5, Try.ntmps5
    go_wp2
    go_loopw [3] (fun i wr => ∃ k : Nat, i = .int .i64 k ∧ k ≤ n ∧ (l.take k).all fewE = true ∧ Below w.heap.size w wr) (fun i _ => n - (intOf i).toNat)
    case atStart => exact ⟨0, rfl, by omega, rfl, Below.refl _ _⟩
    case round =>
      obtain ⟨k, rfl, hk, hall, hbw⟩ := hrel
      have HALL := Lib.hid hall; have HBW := Lib.hid hbw
      clear hall hbw
      by_cases hkt : k < n
      · have hkl : k < l.length := by rw [← HN.out]; exact hkt
        obtain ⟨b2, o2, rfl, hb2, hc2⟩ := HS.out k hkl
        have c0 := (HBW.out.cell (p := ⟨b2, o2 + k * 8, none⟩) hb2).trans (hc2 0 _ rfl)
        have c1 := (HBW.out.cell (p := ⟨b2, o2 + k * 8 + 1, none⟩) hb2).trans (hc2 1 _ rfl)
        have c2 := (HBW.out.cell (p := ⟨b2, o2 + k * 8 + 2, none⟩) hb2).trans (hc2 2 _ rfl)
        have c3 := (HBW.out.cell (p := ⟨b2, o2 + k * 8 + 3, none⟩) hb2).trans (hc2 3 _ rfl)
        have hblt : b2 < wr.heap.size := by have := HBW.out.size; omega
        have hbne : b2 ≠ wr.heap.size := by omega
        have HT := Lib.hid (HTK.out k hkl); have HF := Lib.hid (HNO.out k hkl)
        have HE : Hid (fewE l[k] = !(decide (100 < l[k].e.name.size) || decide (20 < l[k].e.ids.length) || decide (1073741824 < l[k].e.chunk) || decide (1073741824 < l[k].e.size) || decide (l[k].e.size < -1073741824))) := Lib.hid rfl
        clear hc2
        have HB1 := Lib.hid (below_step HBW.out (Nat.le_refl _) (below_new wr (.cells #[.int .i64 l[k].e.size, .int .i64 l[k].e.chunk, .slice l[k].a l[k].e.ids.length l[k].c] 36)))
        generalize fewE l[k] = F at *
        generalize l[k].e.name = nm at *
        generalize l[k].e.size = sz at *
        generalize l[k].e.chunk = ch at *
        generalize l[k].e.ids.length = il at *
        generalize l[k].a = la at *
        generalize l[k].c = lc at *
        have d1 : (k : Int) < (n : Int) := by omega
        by_cases g : 100 < nm.size ∨ 20 < il ∨ 1073741824 < ch ∨ 1073741824 < sz ∨ sz < -1073741824
        · have HNF : Hid (fewL l = false) := Lib.hid (HF.out (by
            rw [HE.out]
            rcases g with g | g | g | g | g <;> rw [decide_eq_true g] <;> simp))
          by_cases g1 : 100 < nm.size
          · as_aux_lemma =>
            have q1 : decide ((100 : Int) < (nm.size : Int)) = true := decide_eq_true (by omega)
            clear g
            go_wp2
            go_ret
            rw [HNF.out]
            exact ⟨rfl, HB1.out⟩
          · have q1 : decide ((100 : Int) < (nm.size : Int)) = false := decide_eq_false (by omega)
            by_cases g2 : 20 < il
            · as_aux_lemma =>
              have q2 : decide ((20 : Int) < (il : Int)) = true := decide_eq_true (by omega)
              clear g g1
              go_wp2
              go_ret
              rw [HNF.out]
              exact ⟨rfl, HB1.out⟩
            · have q2 : decide ((20 : Int) < (il : Int)) = false := decide_eq_false (by omega)
              by_cases g3 : 1073741824 < ch
              · as_aux_lemma =>
                have q3 : decide (1073741824 < ch) = true := decide_eq_true g3
                clear g g1 g2
                go_wp2
                go_ret
                rw [HNF.out]
                exact ⟨rfl, HB1.out⟩
              · have q3 : decide (1073741824 < ch) = false := decide_eq_false g3
                by_cases g4 : 1073741824 < sz
                · as_aux_lemma =>
                  have q4 : decide (1073741824 < sz) = true := decide_eq_true g4
                  clear g g1 g2 g3
                  go_wp2
                  go_ret
                  rw [HNF.out]
                  exact ⟨rfl, HB1.out⟩
                · as_aux_lemma =>
                  have q4 : decide (1073741824 < sz) = false := decide_eq_false g4
                  have q5 : decide (sz < -1073741824) = true := decide_eq_true (by omega)
                  clear g g1 g2 g3 g4
                  go_wp2
                  go_ret
                  rw [HNF.out]
                  exact ⟨rfl, HB1.out⟩
        · as_aux_lemma =>
          have q1 : decide ((100 : Int) < (nm.size : Int)) = false := decide_eq_false (by omega)
          have q2 : decide ((20 : Int) < (il : Int)) = false := decide_eq_false (by omega)
          have q3 : decide (1073741824 < ch) = false := decide_eq_false (by omega)
          have q4 : decide (1073741824 < sz) = false := decide_eq_false (by omega)
          have q5 : decide (sz < -1073741824) = false := decide_eq_false (by omega)
          have HFT : Hid (F = true) := Lib.hid (by
            rw [HE.out, decide_eq_false (show ¬ 100 < nm.size by omega), decide_eq_false (show ¬ 20 < il by omega), q3, q4, q5]; rfl)
          clear g
          go_wp2
          go_roundw
          case rel => exact ⟨k + 1, by go_num, by omega, by rw [HT.out, HALL.out, HFT.out]; rfl, HB1.out⟩
          case measure => simp [intOf]; omega
      · obtain rfl : k = n := by omega
        have HR := Lib.hid (HYS.out HALL.out)
        go_wp2
        go_ret
        rw [HR.out]
        exact ⟨rfl, HBW.out⟩
  · have hf : fewL l = false := by unfold fewL; rw [decide_eq_false hlen]; rfl
    have d0 : decide ((16 : Int) < (l.length : Int)) = true := decide_eq_true (by omega)
    rw [hf]
    clear hs
    go_enter Try.func5, Try.ntmps5
    go_wp2
    go_ret
    exact ⟨rfl, Below.refl _ _⟩
/-- All by each once, as a float's bits. -/
def ratV (l : List Ent) : Nat := if onceI l l.length = 0 then 4607182418800017408 else (Ieee.double.div (Ieee.double.nearest false (allI l l.length).toNat 0) (Ieee.double.nearest false (onceI l l.length).toNat 0)).getD 0
theorem rat_div {l : List Ent} (hl : ∀ e ∈ l, e.ok) (hn : l.length ≤ 16) (h : onceI l l.length ≠ 0) : Ieee.double.div (Ieee.double.nearest false (allI l l.length).toNat 0) (Ieee.double.nearest false (onceI l l.length).toNat 0) = some (ratV l) ∧ isNo (ratV l) := by
  have h1 := allI_bound hl l.length
  have h2 := onceI_bound hl l.length
  obtain ⟨r, hr, hn⟩ := div_no (a := (allI l l.length).toNat) (b := (onceI l l.length).toNat) (by omega) (by omega) (by omega)
  unfold ratV
  rw [if_neg h, hr]
  exact ⟨rfl, hn⟩
theorem rat_no {l : List Ent} (hl : ∀ e ∈ l, e.ok) (hn : l.length ≤ 16) : isNo (ratV l) := by
  by_cases h : onceI l l.length = 0
  · unfold ratV; rw [if_pos h]; unfold isNo; omega
  · exact (rat_div hl hn h).2
theorem float_nat {n : Int} (h : 0 ≤ n) : floatOfInt .f64 n = Ieee.double.nearest false n.toNat 0 := by
  have e1 : (decide (n < 0)) = false := decide_eq_false (by omega)
  have e2 : n.natAbs = n.toNat := by omega
  show Ieee.double.write (.number (decide (n < 0)) n.natAbs 0) = _
  rw [e1, e2]; rfl
set_option maxHeartbeats 4000000 in
theorem ratio_any (l : List EntM) (a : Option Addr) (cap : Nat) (w : World) (hs : Sl encE 8 w a l) (hok : ∀ x ∈ l, x.ok w) (hfew : ∀ e ∈ ents l, e.ok) (hl : l.length ≤ 16) :
    Calls Try.prog 11 #[.slice a l.length cap] w fun r w' => r = .returned (.float .f64 (ratV (ents l))) ∧ Below w.heap.size w w' := by
  have T := Lib.hid (shared_any l a cap w hs hok hfew hl)
  have HA := Lib.hid (allI_bound hfew l.length); have HO := Lib.hid (onceI_bound hfew l.length)
  have HD := Lib.hid (rat_div hfew (by rw [ents_len]; exact hl))
  have HZ : Hid (onceI (ents l) (ents l).length = 0 → ratV (ents l) = 4607182418800017408) := Lib.hid (fun h => by unfold ratV; rw [if_pos h])
  rw [ents_len] at HD HZ
  generalize allI (ents l) l.length = A at *
  generalize onceI (ents l) l.length = O at *
  generalize ratV (ents l) = R at *
  clear hs hok hfew
  by_cases hz : O = 0
  · have d1 : (O == 0) = true := by simp; exact hz
    have HR := Lib.hid (HZ.out hz)
    clear hz
    go_enter Try.func11, Try.ntmps11
    go_wp2_with fail
    refine T.out.mono ?_
    rintro e w1 ⟨rfl, hb⟩
    have HB := Lib.hid hb
    clear hb
    go_wp2
    go_ret
    rw [HR.out]
    exact ⟨rfl, HB.out⟩
  · have d1 : (O == 0) = false := by simp; exact hz
    have hq : ∀ w, (binOp .quo 31 (.float .f64 (floatOfInt .f64 A)) (.float .f64 (floatOfInt .f64 O))).run Try.prog w = .ok (.float .f64 R) w := fun w => run_float_arith (P := Try.prog) w .quo 31 .f64 _ _ R (by
      rw [float_nat (by have := HA.out; omega), float_nat (by have := HO.out; omega)]
      exact (HD.out hz).1)
    clear hz
    go_enter Try.func11, Try.ntmps11
    go_wp2_with fail
    refine T.out.mono ?_
    rintro e w1 ⟨rfl, hb⟩
    have HB := Lib.hid hb
    clear hb
    go_wp2
    go_ret
    exact ⟨rfl, HB.out⟩
set_option maxHeartbeats 4000000 in
theorem rratio_any (l : List EntM) (a : Option Addr) (cap : Nat) (w : World) (hs : Sl encE 8 w a l) (hok : ∀ x ∈ l, x.ok w) (hfew : ∀ e ∈ ents l, e.ok) (hl : l.length ≤ 16) :
    Calls Try.prog 12 #[.slice a l.length cap] w fun r w' => r = .returned (.float .f64 (ratV (ents l))) ∧ Below w.heap.size w w' := by
  have T := Lib.hid (rshared_any l a cap w hs hok hfew hl)
  have HA := Lib.hid (allI_bound hfew l.length); have HO := Lib.hid (onceI_bound hfew l.length)
  have HD := Lib.hid (rat_div hfew (by rw [ents_len]; exact hl))
  have HZ : Hid (onceI (ents l) (ents l).length = 0 → ratV (ents l) = 4607182418800017408) := Lib.hid (fun h => by unfold ratV; rw [if_pos h])
  rw [ents_len] at HD HZ
  generalize allI (ents l) l.length = A at *
  generalize onceI (ents l) l.length = O at *
  generalize ratV (ents l) = R at *
  clear hs hok hfew
  by_cases hz : O = 0
  · have d1 : (O == 0) = true := by simp; exact hz
    have HR := Lib.hid (HZ.out hz)
    clear hz
    go_enter Try.func12, Try.ntmps12
    go_wp2_with fail
    refine T.out.mono ?_
    rintro e w1 ⟨rfl, hb⟩
    have HB := Lib.hid hb
    clear hb
    go_wp2
    go_ret
    rw [HR.out]
    exact ⟨rfl, HB.out⟩
  · have d1 : (O == 0) = false := by simp; exact hz
    have hq : ∀ w, (binOp .quo 31 (.float .f64 (floatOfInt .f64 A)) (.float .f64 (floatOfInt .f64 O))).run Try.prog w = .ok (.float .f64 R) w := fun w => run_float_arith (P := Try.prog) w .quo 31 .f64 _ _ R (by
      rw [float_nat (by have := HA.out; omega), float_nat (by have := HO.out; omega)]
      exact (HD.out hz).1)
    clear hz
    go_enter Try.func12, Try.ntmps12
    go_wp2_with fail
    refine T.out.mono ?_
    rintro e w1 ⟨rfl, hb⟩
    have HB := Lib.hid hb
    clear hb
    go_wp2
    go_ret
    exact ⟨rfl, HB.out⟩
end Go.Proofs.Ytoimlaaakkfifaa

