/-
  The laws of UsageTells and UsageHolds.
-/
import Derived.Test.YtoimlaaakkfifaaK
set_option linter.unusedVariables false
set_option linter.unusedSimpArgs false
namespace Go.Proofs.Ytoimlaaakkfifaa
open Go.RowKit Go.WideShapes Go.ChangeShapes Go.ChangeAt Go.Deep
set_option maxRecDepth 100000 in
set_option maxHeartbeats 16000000 in
theorem tells_walk (l : List EntM) (nm : ByteArray) (a : Option Addr) (cap : Nat) (w : World) (h : Lies w a l) (hlm : l.length ≤ 9223372036854775807) :
    Calls Try.prog 3 #[.slice a l.length cap, .string nm] w fun r w' => r = .returned (.bool true) ∧ Below w.heap.size w w' := by
  have T0 := Lib.hid (few_any l a cap w h.1 hlm)
  have HL := Lib.hid h
  by_cases hf : fewL l = true
  · rw [hf] at T0
    by_cases hn : nm.size ≤ 100
    · have d1 : decide ((100 : Int) < (nm.size : Int)) = false := decide_eq_false (by omega)
      obtain ⟨hl16, hfew⟩ := few_ok hf
      have HF := Lib.hid hfew
      have T1 : Hid (∀ W, Lies W a l → Calls Try.prog 7 #[.slice a l.length cap, .string nm] W fun r w' => r = .returned (.tuple #[.int .i64 (ownV (ents l) nm), .int .i64 (ownErr (ents l) nm)]) ∧ Below W.heap.size W w') := Lib.hid (fun W h => own_any l nm a cap W h.1 h.2 hfew hl16)
      have T2 : Hid (∀ W, Lies W a l → Calls Try.prog 8 #[.slice a l.length cap, .string nm] W fun r w' => r = .returned (.tuple #[.int .i64 (ownV (ents l) nm), .int .i64 (ownErr (ents l) nm)]) ∧ Below W.heap.size W w') := Lib.hid (fun W h => rown_any l nm a cap W h.1 h.2 hfew hl16)
      have T3 : Hid (∀ W, Lies W a l → Calls Try.prog 9 #[.slice a l.length cap] W fun r w' => r = .returned (.tuple #[.int .i64 (allI (ents l) l.length), .int .i64 (onceI (ents l) l.length)]) ∧ Below W.heap.size W w') := Lib.hid (fun W h => shared_any l a cap W h.1 h.2 hfew hl16)
      have T4 : Hid (∀ W, Lies W a l → Calls Try.prog 10 #[.slice a l.length cap] W fun r w' => r = .returned (.tuple #[.int .i64 (allI (ents l) l.length), .int .i64 (onceI (ents l) l.length)]) ∧ Below W.heap.size W w') := Lib.hid (fun W h => rshared_any l a cap W h.1 h.2 hfew hl16)
      have T5 : Hid (∀ W, Lies W a l → Calls Try.prog 11 #[.slice a l.length cap] W fun r w' => r = .returned (.float .f64 (ratV (ents l))) ∧ Below W.heap.size W w') := Lib.hid (fun W h => ratio_any l a cap W h.1 h.2 hfew hl16)
      have T6 : Hid (∀ W, Lies W a l → Calls Try.prog 12 #[.slice a l.length cap] W fun r w' => r = .returned (.float .f64 (ratV (ents l))) ∧ Below W.heap.size W w') := Lib.hid (fun W h => rratio_any l a cap W h.1 h.2 hfew hl16)
      have HNO := Lib.hid (rat_no hfew (by rw [ents_len]; exact hl16))
      generalize ownV (ents l) nm = OV at *
      generalize ownErr (ents l) nm = OR at *
      generalize allI (ents l) l.length = A at *
      generalize onceI (ents l) l.length = O at *
      generalize ratV (ents l) = R at *
      have e1 : (OV == OV) = true := by simp
      have e2 : (OR == OR) = true := by simp
      have e3 : (A == A) = true := by simp
      have e4 : (O == O) = true := by simp
      have HEQ : Hid (FloatKind.f64.format.order R R = some Ordering.eq) := Lib.hid (order_self HNO.out)
      obtain ⟨n, hn⟩ : ∃ n, n = l.length := ⟨_, rfl⟩
      rw [← hn] at T0 T1 T2 T3 T4 T5 T6 ⊢
      clear hf hl16 hfew hlm h hn
      go_enter Try.func3, Try.ntmps3
      go_wp2_with fail
      refine T0.out.mono ?_
      rintro e w1 ⟨rfl, hb⟩
      have HL1 := Lib.hid (HL.out.keep hb); have HB1 := Lib.hid hb
      clear hb
      go_wp2_with fail
      refine (T1.out _ HL1.out).mono ?_
      rintro e w2 ⟨rfl, hb⟩
      have HL2 := Lib.hid (HL1.out.keep hb); have HB2 := Lib.hid (below_cons HB1.out hb)
      clear hb HL1 HB1
      go_wp2_with fail
      refine (T2.out _ HL2.out).mono ?_
      rintro e w3 ⟨rfl, hb⟩
      have HL3 := Lib.hid (HL2.out.keep hb); have HB3 := Lib.hid (below_cons HB2.out hb)
      clear hb HL2 HB2
      go_wp2_with fail
      refine (T3.out _ HL3.out).mono ?_
      rintro e w4 ⟨rfl, hb⟩
      have HL4 := Lib.hid (HL3.out.keep hb); have HB4 := Lib.hid (below_cons HB3.out hb)
      clear hb HL3 HB3
      go_wp2_with fail
      refine (T4.out _ HL4.out).mono ?_
      rintro e w5 ⟨rfl, hb⟩
      have HL5 := Lib.hid (HL4.out.keep hb); have HB5 := Lib.hid (below_cons HB4.out hb)
      clear hb HL4 HB4
      go_wp2_with fail
      refine (T5.out _ HL5.out).mono ?_
      rintro e w6 ⟨rfl, hb⟩
      have HL6 := Lib.hid (HL5.out.keep hb); have HB6 := Lib.hid (below_cons HB5.out hb)
      clear hb HL5 HB5
      go_wp2_with fail
      refine (T6.out _ HL6.out).mono ?_
      rintro e w7 ⟨rfl, hb⟩
      have HB7 := Lib.hid (below_cons HB6.out hb)
      have heq := HEQ.out
      clear hb HL6 HB6
      go_wp2_with fail
      refine (awake_any _).mono ?_
      rintro e w8 ⟨rfl, hb⟩
      have HB8 := Lib.hid (below_cons HB7.out hb)
      clear hb heq
      go_wp2
      go_ret
      exact ⟨rfl, HB8.out⟩
    · have d1 : decide ((100 : Int) < (nm.size : Int)) = true := decide_eq_true (by omega)
      clear hf h hlm hn
      go_enter Try.func3, Try.ntmps3
      go_wp2_with fail
      refine T0.out.mono ?_
      rintro e w1 ⟨rfl, hb⟩
      have HB1 := Lib.hid hb
      clear hb
      go_wp2_with fail
      refine (awake_any _).mono ?_
      rintro e w8 ⟨rfl, hb⟩
      have HB8 := Lib.hid (below_cons HB1.out hb)
      clear hb
      go_wp2
      go_ret
      exact ⟨rfl, HB8.out⟩
  · rw [show fewL l = false by simpa using hf] at T0
    clear hf h hlm
    go_enter Try.func3, Try.ntmps3
    go_wp2_with fail
    refine T0.out.mono ?_
    rintro e w1 ⟨rfl, hb⟩
    have HB1 := Lib.hid hb
    clear hb
    go_wp2_with fail
    refine (awake_any _).mono ?_
    rintro e w8 ⟨rfl, hb⟩
    have HB8 := Lib.hid (below_cons HB1.out hb)
    clear hb
    go_wp2
    go_ret
    exact ⟨rfl, HB8.out⟩
theorem own_found {l : List Ent} (hl : ∀ e ∈ l, e.ok) {j : Nat} (hj : j < l.length) : ownErr l (nth l j).name = 0 ∧ 0 ≤ ownV l (nth l j).name := by
  unfold ownErr ownV
  cases hp : plc l (nth l j).name l.length with
  | none => exact absurd rfl (plc_no l _ l.length hp j hj)
  | some i => exact ⟨rfl, (ownE_bound hl _ _ _).1⟩
theorem tmod_nat (a b : Nat) : Int.tmod (a : Int) (b : Int) = ((a % b : Nat) : Int) := by simp [Int.tmod]
set_option maxRecDepth 100000 in
set_option maxHeartbeats 16000000 in
theorem holds_walk (l : List EntM) (k : Nat) (a : Option Addr) (cap : Nat) (w : World) (h : Lies w a l) (hlm : l.length ≤ 9223372036854775807) (hk : k ≤ 255) :
    Calls Try.prog 4 #[.slice a l.length cap, .int .u8 k] w fun r w' => r = .returned (.bool true) ∧ Below w.heap.size w w' := by
  have T0 := Lib.hid (few_any l a cap w h.1 hlm)
  have HL := Lib.hid h
  by_cases hf : fewL l = true
  · rw [hf] at T0
    by_cases hn : l.length = 0
    · have d1 : ((l.length : Int) == 0) = true := by rw [hn]; rfl
      have HN0 := Lib.hid hn
      clear hf h hlm hn
      generalize l.length = n at *
      go_enter Try.func4, Try.ntmps4
      go_wp2_with fail
      refine T0.out.mono ?_
      rintro e w1 ⟨rfl, hb⟩
      have HB1 := Lib.hid hb
      clear hb
      go_wp2_with fail
      refine (awake_any _).mono ?_
      rintro e w8 ⟨rfl, hb⟩
      have HB8 := Lib.hid (below_cons HB1.out hb)
      clear hb
      go_wp2
      go_ret
      exact ⟨rfl, HB8.out⟩
    · have d1 : ((l.length : Int) == 0) = false := by simp; intro e; exact hn (by rw [e]; rfl)
      have hpos : 0 < l.length := by omega
      obtain ⟨hl16, hfew⟩ := few_ok hf
      have hjl : k % l.length < l.length := Nat.mod_lt _ hpos
      have hfo := own_found hfew (j := k % l.length) (by rw [ents_len]; exact hjl)
      rw [ents_nth l hjl] at hfo
      have T1 : Hid (∀ (W : World) (nm : ByteArray), Lies W a l → Calls Try.prog 7 #[.slice a l.length cap, .string nm] W fun r w' => r = .returned (.tuple #[.int .i64 (ownV (ents l) nm), .int .i64 (ownErr (ents l) nm)]) ∧ Below W.heap.size W w') := Lib.hid (fun W nm h => own_any l nm a cap W h.1 h.2 hfew hl16)
      have T1' := Lib.hid (fun W h => T1.out W l[k % l.length].e.name h)
      rw [hfo.1] at T1'
      have hov := hfo.2
      have T3 : Hid (∀ W, Lies W a l → Calls Try.prog 9 #[.slice a l.length cap] W fun r w' => r = .returned (.tuple #[.int .i64 (allI (ents l) l.length), .int .i64 (onceI (ents l) l.length)]) ∧ Below W.heap.size W w') := Lib.hid (fun W h => shared_any l a cap W h.1 h.2 hfew hl16)
      have T5 : Hid (∀ W, Lies W a l → Calls Try.prog 11 #[.slice a l.length cap] W fun r w' => r = .returned (.float .f64 (ratV (ents l))) ∧ Below W.heap.size W w') := Lib.hid (fun W h => ratio_any l a cap W h.1 h.2 hfew hl16)
      have HNO := Lib.hid (rat_no hfew (by rw [ents_len]; exact hl16))
      have hao := onceI_bound hfew l.length
      obtain ⟨b, o, rfl, hb0, hc0⟩ := h.1 (k % l.length) hjl
      have HC : Hid (∀ W, Below w.heap.size w W → W.cell? ⟨b, o + k % l.length * 8, none⟩ = some (.string l[k % l.length].e.name)) := Lib.hid (fun W hb => (hb.cell (p := ⟨b, o + k % l.length * 8, none⟩) hb0).trans (hc0 0 _ rfl))
      generalize ownV (ents l) l[k % l.length].e.name = OV at *
      generalize l[k % l.length].e.name = nm at *
      generalize allI (ents l) l.length = A at *
      generalize onceI (ents l) l.length = O at *
      generalize ratV (ents l) = R at *
      have hmod := tmod_nat k l.length
      have hne : (l.length : Int) ≠ 0 := by omega
      have HGE : Hid (FloatKind.f64.format.order R 4607182418800017408 = some Ordering.gt ∨ FloatKind.f64.format.order R 4607182418800017408 = some Ordering.eq) := Lib.hid (order_one HNO.out)
      have e1 : decide ((0 : Int) ≤ O) = true := decide_eq_true hao.1
      have e2 : decide (O ≤ A) = true := decide_eq_true hao.2
      have e3 : decide ((0 : Int) ≤ OV) = true := decide_eq_true hov
      obtain ⟨q, hq⟩ : ∃ q, q = k % l.length := ⟨_, rfl⟩
      rw [← hq] at hmod HC hjl
      obtain ⟨n, hnn⟩ : ∃ n, n = l.length := ⟨_, rfl⟩
      rw [← hnn] at T0 T1' T3 T5 d1 hpos hmod hne hjl hl16 ⊢
      have hq0 : (0 : Int) ≤ (q : Int) := by omega
      have hqn : (q : Int) < (n : Int) := by omega
      clear hf hfew hlm h hn hnn hfo T1 hc0 hq hao hov
      go_enter Try.func4, Try.ntmps4
      go_wp2_with fail
      refine T0.out.mono ?_
      rintro e w1 ⟨rfl, hb⟩
      have HL1 := Lib.hid (HL.out.keep hb); have HB1 := Lib.hid hb
      clear hb
      go_wp2_with fail
      refine (T3.out _ HL1.out).mono ?_
      rintro e w2 ⟨rfl, hb⟩
      have HL2 := Lib.hid (HL1.out.keep hb); have HB2 := Lib.hid (below_cons HB1.out hb)
      clear hb HL1 HB1
      have c0 := HC.out _ HB2.out
      go_wp2_with fail
      refine (T1'.out _ HL2.out).mono ?_
      rintro e w3 ⟨rfl, hb⟩
      have HL3 := Lib.hid (HL2.out.keep hb); have HB3 := Lib.hid (below_cons HB2.out hb)
      clear hb HL2 HB2 c0
      go_wp2_with fail
      refine (T5.out _ HL3.out).mono ?_
      rintro e w4 ⟨rfl, hb⟩
      have HB4 := Lib.hid (below_cons HB3.out hb)
      clear hb HL3 HB3
      rcases HGE.out with hge | hge
      all_goals
        go_wp2_with fail
        refine (awake_any _).mono ?_
        rintro e w8 ⟨rfl, hb⟩
        have HB8 := Lib.hid (below_cons HB4.out hb)
        clear hb hge
        go_wp2
        go_ret
        exact ⟨rfl, HB8.out⟩
  · rw [show fewL l = false by simpa using hf] at T0
    clear hf h hlm
    go_enter Try.func4, Try.ntmps4
    go_wp2_with fail
    refine T0.out.mono ?_
    rintro e w1 ⟨rfl, hb⟩
    have HB1 := Lib.hid hb
    clear hb
    go_wp2_with fail
    refine (awake_any _).mono ?_
    rintro e w8 ⟨rfl, hb⟩
    have HB8 := Lib.hid (below_cons HB1.out hb)
    clear hb
    go_wp2
    go_ret
    exact ⟨rfl, HB8.out⟩
theorem list8 {α : Type} {l : List α} (h : l.length = 8) : ∃ a b c d e f g i, l = [a, b, c, d, e, f, g, i] := by
  match l, h with
  | [a, b, c, d, e, f, g, i], _ => exact ⟨a, b, c, d, e, f, g, i, rfl⟩
theorem entry_of {H : Type} {enc : TypeId × Value → H} {w : World} {base n : Nat} {spare : Bool} {held : TypeId → Bool} {cs : List Value} {x : DataW H × List MemPlace}
    (h : DataW.trod enc Try.prog w base held spare n 40 cs = some x) : ∃ y : EntM, cs = encE y ∧ y.ok w := by
  have hl := trod_len Try.underlying40 h
  rw [show Try.prog.cellsOf 40 = 8 by kernel_rfl] at hl
  obtain ⟨v0, v1, v2, v3, v4, v5, v6, v7, rfl⟩ := list8 hl
  obtain ⟨_, _, e0⟩ := trod_part Try.underlying40 h 0 9 0 1 rfl rfl rfl (by kernel_rfl)
  obtain ⟨_, _, e1⟩ := trod_part Try.underlying40 h 1 36 1 3 rfl rfl rfl (by kernel_rfl)
  obtain ⟨_, _, e2⟩ := trod_part Try.underlying40 h 2 9 4 1 rfl rfl rfl (by kernel_rfl)
  obtain ⟨_, _, e3⟩ := trod_part Try.underlying40 h 3 34 5 1 rfl rfl rfl (by kernel_rfl)
  obtain ⟨_, _, e4⟩ := trod_part Try.underlying40 h 4 37 6 1 rfl rfl rfl (by kernel_rfl)
  obtain ⟨_, _, e5⟩ := trod_part Try.underlying40 h 5 38 7 1 rfl rfl rfl (by kernel_rfl)
  simp only [List.drop_zero, List.drop_succ_cons, List.take_succ_cons, List.take_zero] at e0 e1 e2 e3 e4 e5
  obtain ⟨_, _, f0⟩ := trod_part Try.underlying36 e1 0 3 0 1 rfl rfl rfl (by kernel_rfl)
  obtain ⟨_, _, f1⟩ := trod_part Try.underlying36 e1 1 3 1 1 rfl rfl rfl (by kernel_rfl)
  obtain ⟨_, _, f2⟩ := trod_part Try.underlying36 e1 2 34 2 1 rfl rfl rfl (by kernel_rfl)
  simp only [List.drop_zero, List.drop_succ_cons, List.take_succ_cons, List.take_zero] at f0 f1 f2
  obtain ⟨nm, k0, _⟩ := DataW.trod_string Try.underlying9 e0
  obtain ⟨sz, k1, _⟩ := DataW.trod_int Try.underlying3 f0
  obtain ⟨ch, k2, _⟩ := DataW.trod_int Try.underlying3 f1
  obtain ⟨xs, ⟨a, cap, k3, hc, hs⟩, _, hg⟩ := strs_of f2
  obtain ⟨lab, k4, _⟩ := DataW.trod_string Try.underlying9 e2
  obtain ⟨ta, tn, tc, k5, _⟩ := slice_shape Try.underlying34 e3
  obtain ⟨ka, kn, kc, k6, _⟩ := slice_shape Try.underlying37 e4
  obtain ⟨da, dn, dc, k7, _⟩ := slice_shape Try.underlying38 e5
  simp only [List.cons.injEq, and_true] at k0 k1 k2 k3 k4 k5 k6 k7
  subst k0 k1 k2 k3 k4 k5 k6 k7
  exact ⟨⟨⟨nm, sz, ch, xs⟩, a, cap, lab, ta, tn, tc, ka, kn, kc, da, dn, dc⟩, rfl, hs, hg⟩
def EntsOk (w : World) (v : Value) : Prop := ∃ (l : List EntM) (a : Option Addr) (cap : Nat), v = .slice a l.length cap ∧ Lies w a l ∧ l.length ≤ 9223372036854775807
theorem open_ents {H : Type} {enc : TypeId × Value → H} {w : World} {base base0 : Nat} {spare : Bool} {held : TypeId → Bool} {r : Reach} {v : Value} {d : DataW H} {p : List MemPlace}
    (hv : Value.okWide Try.prog w r base0 22 v) (h : DataW.Trod enc Try.prog w base held spare 22 v d p) : ∃ x : Unit, EntsOk w v := by
  obtain ⟨xs, ⟨a, cap, rfl, _, hs⟩, hlm, hg⟩ := open_sl encE (fun x => x.ok w) 8 Try.underlying22 (by kernel_rfl) (by omega) encE_len (fun n cs y hy => entry_of hy) hv h
  exact ⟨(), xs, a, cap, rfl, ⟨hs, hg⟩, hlm⟩
theorem tells_law (v : Value) (_x : Unit) (nm : ByteArray) (w : World) (h : EntsOk w v) (hn : nm.size ≤ 140737488351232) : Calls Try.prog 3 #[v, .string nm] w fun e w' => e = .returned (.bool true) ∧ Below w.heap.size w w' := by
  obtain ⟨l, a, cap, rfl, hl, hm⟩ := h
  exact tells_walk l nm a cap w hl hm
theorem holds_law (v : Value) (_x : Unit) (i : Int) (w : World) (h : EntsOk w v) (hi : (Lit.int .u8 i).wf = true) : Calls Try.prog 4 #[v, .int .u8 i] w fun e w' => e = .returned (.bool true) ∧ Below w.heap.size w w' := by
  obtain ⟨l, a, cap, rfl, hl, hm⟩ := h
  have hb : 0 ≤ i ∧ i ≤ 255 := by
    simp [Lit.wf, IntKind.min, IntKind.max, IntKind.signed, IntKind.bits] at hi
    omega
  obtain ⟨k, rfl⟩ : ∃ k : Nat, i = k := ⟨i.toNat, by omega⟩
  exact holds_walk l k a cap w hl hm (by omega)
end Go.Proofs.Ytoimlaaakkfifaa

