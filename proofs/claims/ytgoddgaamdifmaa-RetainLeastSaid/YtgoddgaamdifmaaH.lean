/-
  The contract of the reference's Plan.
-/
import Derived.Test.YtgoddgaamdifmaaG
set_option linter.unusedVariables false
set_option linter.unusedSimpArgs false
namespace Go.Proofs.Ytgoddgaamdifmaa
open Go.RowKit Go.WideMaps Go.Maps
def boolC (b : Bool) : List Value := [.bool b]
def listB (p : Nat → Bool) (k : Nat) : List Bool := (List.range k).map p
theorem listB_len (p : Nat → Bool) (k : Nat) : (listB p k).length = k := by simp [listB]
theorem listB_next (p : Nat → Bool) (k : Nat) : listB p (k + 1) = listB p k ++ [p k] := by unfold listB; rw [List.range_succ, List.map_append]; rfl
theorem listB_get (p : Nat → Bool) (k i : Nat) (h : i < (listB p k).length) : (listB p k)[i] = p i := by
  have : (listB p k)[i]? = some (p i) := by
    unfold listB
    rw [List.getElem?_map, List.getElem?_range (by rwa [listB_len] at h)]; rfl
  rw [List.getElem?_eq_getElem h] at this
  simpa using this
def RPlanE (n : Nat) (bs : List Bool) (w' : World) (e : Ending) : Prop := ∃ ra rc, e = .returned (.slice ra n rc) ∧ Sl boolC 1 w' ra bs
set_option maxRecDepth 100000 in
set_option maxHeartbeats 16000000 in
theorem rplan_any (l : List Int) (k0 k1 k2 : Int) (a : Option Addr) (cap : Nat) (w : World) (hs : Sl intC 1 w a l) (hg : ∀ x ∈ l, goodI x) (hl : l.length ≤ 40) :
    Calls Try.prog 16 #[.slice a l.length cap, .agg #[.int .i64 k0, .int .i64 k1, .int .i64 k2]] w fun e w' => RPlanE l.length (listB (stay3 l k0 k1 k2 3) l.length) w' e ∧ Below w.heap.size w w' := by
  obtain ⟨i0, hi0, hz0, hz1, hz2⟩ := infoB
  have TS := Lib.hid (fun W (hb : Below w.heap.size w W) i D keep hi hD hD2 => stays_any l i D keep a cap W (hs.keep hb) hg hl hi hD hD2)
  have HST : Hid (∀ i, stay3 l k0 k1 k2 3 i = (stayB l 1 k0 i || stayB l 7 k1 i || stayB l 30 k2 i)) := Lib.hid (fun i => rfl)
  obtain ⟨L, hL⟩ : ∃ L, L = l.length := ⟨_, rfl⟩
  have HL := Lib.hid hL
  rw [← hL] at TS hl ⊢
  clear hs hg hL
  have HBX : Hid (Bk w.heap.size [.int .i64 k0, .int .i64 k1, .int .i64 k2] (w.alloc (.cells #[.int .i64 k0, .int .i64 k1, .int .i64 k2] 35))) := Lib.hid (Bk.new w _ #[.int .i64 k0, .int .i64 k1, .int .i64 k2])
  have HB0 := Lib.hid (below_new w (.cells #[.int .i64 k0, .int .i64 k1, .int .i64 k2] 35))
  go_enter Try.func16, Try.ntmps16
  go_wp2
  go_loopw [5, 6] (fun v ii wr => ∃ i : Nat, ii = .int .i64 i ∧ i ≤ L ∧ Bk w.heap.size [.int .i64 k0, .int .i64 k1, .int .i64 k2] wr ∧ wr.ownsRow (w.heap.size + 1) 4 1 v (listB (stay3 l k0 k1 k2 3) i).length ((listB (stay3 l k0 k1 k2 3) i).flatMap boolC) ∧ Below w.heap.size w wr) (fun _ ii _ => L - (intOf ii).toNat)
  case atStart => exact ⟨0, rfl, by omega, HBX.out, own_nil _ _ _ _, HB0.out⟩
  case round =>
    obtain ⟨i, rfl, hi, hbx, hrow, hbw⟩ := hrel
    clear HBX HB0
    have HBX := Lib.hid hbx; have HROW := Lib.hid hrow; have HBW := Lib.hid hbw
    obtain ⟨av, cv, rfl⟩ := own_shape hrow
    clear hbx hrow hbw
    rw [listB_len] at HROW ⊢
    by_cases hlt : i < L
    · have hil : i < l.length := by rw [← HL.out]; exact hlt
      have g1 : (i : Int) < (L : Int) := by omega
      have HNX := Lib.hid (listB_next (stay3 l k0 k1 k2 3) i)
      have HSTI := Lib.hid (HST.out i)
      have c0 := (HBX.out.2 0 _ rfl).1; have c1 := (HBX.out.2 1 _ rfl).1; have c2 := (HBX.out.2 2 _ rfl).1
      have HF : Hid (∀ (W : World) (B : Bool), stay3 l k0 k1 k2 3 i = B → Bk w.heap.size [.int .i64 k0, .int .i64 k1, .int .i64 k2] W → W.ownsRow (w.heap.size + 1) 4 1 (.slice av i cv) i ((listB (stay3 l k0 k1 k2 3) i).flatMap boolC) → Below w.heap.size w W →
          (Bk w.heap.size [.int .i64 k0, .int .i64 k1, .int .i64 k2] (W.alloc (.cells #[.bool B] 4)) ∧ (W.alloc (.cells #[.bool B] 4)).ownsRow (w.heap.size + 1) 4 1 (.slice av i cv) i ((listB (stay3 l k0 k1 k2 3) i).flatMap boolC) ∧ Below w.heap.size w (W.alloc (.cells #[.bool B] 4)) ∧
            (∀ j u, [Value.bool B][j]? = some u → (W.alloc (.cells #[.bool B] 4)).cell? ((⟨W.heap.size, 0, none⟩ : Addr).add j) = some u) ∧ (∀ u ∈ [Value.bool B], u.oneCell' = true) ∧ w.heap.size + 1 ≤ (W.alloc (.cells #[.bool B] 4)).heap.size) ∧
          ∀ (v' : Value) (w' : World), w'.ownsRow (w.heap.size + 1) 4 1 v' (i + 1) ((listB (stay3 l k0 k1 k2 3) i).flatMap boolC ++ [.bool B]) → (W.alloc (.cells #[.bool B] 4)).grownBy w' (Value.slice av i cv).ownBlock →
            Bk w.heap.size [.int .i64 k0, .int .i64 k1, .int .i64 k2] w' ∧ w'.ownsRow (w.heap.size + 1) 4 1 v' (listB (stay3 l k0 k1 k2 3) (i + 1)).length ((listB (stay3 l k0 k1 k2 3) (i + 1)).flatMap boolC) ∧ Below w.heap.size w w') := Lib.hid (by
        intro W B hB hbx hrow hbw
        have hlt2 := hbx.1
        have hrow2 := own_kept hrow (below_new W (.cells #[.bool B] 4))
        refine ⟨⟨hbx.keep (below_new _ _), hrow2, below_cons hbw (below_new _ _), fun j u hj => new_cells _ _ _ j u hj, fun u hu => by simp at hu; rcases hu with rfl; rfl, by simp; omega⟩, fun v' w' hown hg => ?_⟩
        have hk : Kp (fun q => w.heap.size + 1 ≤ q) (W.alloc (.cells #[.bool B] 4)) w' := Kp.grown hg (fun q hq => (hrow2.lt q hq).1)
        refine ⟨(hbx.keep (below_new W (.cells #[.bool B] 4))).kp hk (by omega), ?_, (below_cons hbw (below_new W (.cells #[.bool B] 4))).trans (hk.below (by simp; omega) (fun q hq => by omega))⟩
        rw [HNX.out, List.length_append, List.flatMap_append, listB_len, hB]
        exact hown)
      have HA3 : Hid (i + 1 ≤ maxLen) := Lib.hid (by unfold maxLen; omega)
      have HA4 : Hid ((i + 1) * 1 ≤ 140737488355328) := Lib.hid (by omega)
      go_wp2_with fail
      refine (TS.out wr HBW.out i 1 k0 hlt (by omega) (by omega)).mono ?_
      rintro e w1 ⟨rfl, hb⟩
      have HBX1 := Lib.hid (HBX.out.keep hb); have HROW1 := Lib.hid (own_kept HROW.out hb); have HB1 := Lib.hid (below_cons HBW.out hb)
      clear hb c0 c1 c2
      have c0 := (HBX1.out.2 0 _ rfl).1; have c1 := (HBX1.out.2 1 _ rfl).1; have c2 := (HBX1.out.2 2 _ rfl).1
      cases hb0 : stayB l 1 k0 i with
      | true =>
        obtain ⟨⟨q1, q2, q3, q4, q5, q6⟩, q7⟩ := HF.out w1 true (by rw [HSTI.out, hb0]; rfl) HBX1.out HROW1.out HB1.out
        have Q2 := Lib.hid q2; have Q4 := Lib.hid q4; have Q5 := Lib.hid q5; have Q6 := Lib.hid q6; have Q7 := Lib.hid q7
        clear q1 q2 q3 q4 q5 q6 q7 hb0
        go_wp2_with (at_builtin; refine wpList_append_own _ rfl _ _ 36 rfl (w.heap.size + 1) 4 i0 (.bool false) 1 1 Try.underlying36 hi0 hz0 hz1 hz2 rfl (by decide) _ _ _ rfl Q2.out ⟨w1.heap.size, 0, none⟩ 1 1 [.bool true] rfl rfl Q4.out Q5.out HA3.out HA4.out Q6.out ?_)
        intro v5 w5 hown5 hg5 _
        obtain ⟨r1, r2, r3⟩ := Q7.out v5 w5 hown5 hg5
        have R1 := Lib.hid r1; have R2 := Lib.hid r2; have R3 := Lib.hid r3
        obtain ⟨a5, c5, rfl⟩ := own_shape hown5
        clear hown5 hg5 r1 r2 r3
        go_wp2
        go_roundw
        case rel => exact ⟨i + 1, by go_num, by omega, R1.out, R2.out, R3.out⟩
        case measure => simp [intOf]; omega
      | false =>
        go_wp2_with fail
        refine (TS.out w1 HB1.out i 7 k1 hlt (by omega) (by omega)).mono ?_
        rintro e w2 ⟨rfl, hb⟩
        have HBX2 := Lib.hid (HBX1.out.keep hb); have HROW2 := Lib.hid (own_kept HROW1.out hb); have HB2 := Lib.hid (below_cons HB1.out hb)
        clear hb c0 c1 c2
        have c0 := (HBX2.out.2 0 _ rfl).1; have c1 := (HBX2.out.2 1 _ rfl).1; have c2 := (HBX2.out.2 2 _ rfl).1
        cases hb1 : stayB l 7 k1 i with
        | true =>
          obtain ⟨⟨q1, q2, q3, q4, q5, q6⟩, q7⟩ := HF.out w2 true (by rw [HSTI.out, hb0, hb1]; rfl) HBX2.out HROW2.out HB2.out
          have Q2 := Lib.hid q2; have Q4 := Lib.hid q4; have Q5 := Lib.hid q5; have Q6 := Lib.hid q6; have Q7 := Lib.hid q7
          clear q1 q2 q3 q4 q5 q6 q7 hb0 hb1
          go_wp2_with (at_builtin; refine wpList_append_own _ rfl _ _ 36 rfl (w.heap.size + 1) 4 i0 (.bool false) 1 1 Try.underlying36 hi0 hz0 hz1 hz2 rfl (by decide) _ _ _ rfl Q2.out ⟨w2.heap.size, 0, none⟩ 1 1 [.bool true] rfl rfl Q4.out Q5.out HA3.out HA4.out Q6.out ?_)
          intro v5 w5 hown5 hg5 _
          obtain ⟨r1, r2, r3⟩ := Q7.out v5 w5 hown5 hg5
          have R1 := Lib.hid r1; have R2 := Lib.hid r2; have R3 := Lib.hid r3
          obtain ⟨a5, c5, rfl⟩ := own_shape hown5
          clear hown5 hg5 r1 r2 r3
          go_wp2
          go_roundw
          case rel => exact ⟨i + 1, by go_num, by omega, R1.out, R2.out, R3.out⟩
          case measure => simp [intOf]; omega
        | false =>
          go_wp2_with fail
          refine (TS.out w2 HB2.out i 30 k2 hlt (by omega) (by omega)).mono ?_
          rintro e w3 ⟨rfl, hb⟩
          have HBX3 := Lib.hid (HBX2.out.keep hb); have HROW3 := Lib.hid (own_kept HROW2.out hb); have HB3 := Lib.hid (below_cons HB2.out hb)
          clear hb c0 c1 c2
          obtain ⟨B, hB⟩ : ∃ B, B = stayB l 30 k2 i := ⟨_, rfl⟩
          rw [← hB]
          obtain ⟨⟨q1, q2, q3, q4, q5, q6⟩, q7⟩ := HF.out w3 B (by rw [HSTI.out, hb0, hb1, hB]; rfl) HBX3.out HROW3.out HB3.out
          have Q2 := Lib.hid q2; have Q4 := Lib.hid q4; have Q5 := Lib.hid q5; have Q6 := Lib.hid q6; have Q7 := Lib.hid q7
          clear q1 q2 q3 q4 q5 q6 q7 hb0 hb1 hB
          go_wp2_with (at_builtin; refine wpList_append_own _ rfl _ _ 36 rfl (w.heap.size + 1) 4 i0 (.bool false) 1 1 Try.underlying36 hi0 hz0 hz1 hz2 rfl (by decide) _ _ _ rfl Q2.out ⟨w3.heap.size, 0, none⟩ 1 1 [.bool B] rfl rfl Q4.out Q5.out HA3.out HA4.out Q6.out ?_)
          intro v5 w5 hown5 hg5 _
          obtain ⟨r1, r2, r3⟩ := Q7.out v5 w5 hown5 hg5
          have R1 := Lib.hid r1; have R2 := Lib.hid r2; have R3 := Lib.hid r3
          obtain ⟨a5, c5, rfl⟩ := own_shape hown5
          clear hown5 hg5 r1 r2 r3
          go_wp2
          go_roundw
          case rel => exact ⟨i + 1, by go_num, by omega, R1.out, R2.out, R3.out⟩
          case measure => simp [intOf]; omega
    · obtain rfl : L = i := by omega
      have hkk : ¬ (L : Int) < (L : Int) := by omega
      have HFIN : Hid (RPlanE L (listB (stay3 l k0 k1 k2 3) L) wr (.returned (.slice av L cv))) := Lib.hid (by
        obtain ⟨a2, c2, e2, _, hsl⟩ := own_sl (enc := boolC) (l := listB (stay3 l k0 k1 k2 3) L) (fun _ => rfl) (by decide) (by rw [listB_len]; exact HROW.out)
        rw [listB_len] at e2
        exact ⟨a2, c2, by rw [e2], hsl⟩)
      go_wp2
      go_ret
      exact ⟨HFIN.out, HBW.out⟩
end Go.Proofs.Ytgoddgaamdifmaa

