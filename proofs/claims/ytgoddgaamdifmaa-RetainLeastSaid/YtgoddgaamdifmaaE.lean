/-
  The contract of least.
-/
import Derived.Test.YtgoddgaamdifmaaD
import Derived.WalkMore
set_option linter.unusedVariables false
set_option linter.unusedSimpArgs false
namespace Go.Proofs.Ytgoddgaamdifmaa
open Go.RowKit Go.WideMaps Go.Maps
theorem nodup_sub {α : Type} [DecidableEq α] : ∀ {l m : List α}, l.Nodup → (∀ x ∈ l, x ∈ m) → l.length ≤ m.length
  | [], m, _, _ => by simp
  | x :: l, m, hn, h => by
    obtain ⟨h1, h2⟩ := List.nodup_cons.1 hn
    have hx := h x (by simp)
    have := nodup_sub (l := l) (m := m.erase x) h2 (fun y hy => (List.mem_erase_of_ne (fun e => h1 (by rw [← e]; exact hy))).2 (h y (by simp [hy])))
    rw [List.length_erase_of_mem hx] at this
    have hp : 0 < m.length := List.length_pos_of_mem hx
    simp only [List.length_cons]
    omega
theorem nodup_eq {α : Type} [DecidableEq α] {l m : List α} (hl : l.Nodup) (hm : m.Nodup) (h : ∀ x, x ∈ l ↔ x ∈ m) : l.length = m.length :=
  Nat.le_antisymm (nodup_sub hl (fun x hx => (h x).1 hx)) (nodup_sub hm (fun x hx => (h x).2 hx))
def upTo (ks : List Int) (q : Int) : List Int := ks.filter (fun x => decide (x ≤ q))
def under (ks : List Int) (q : Int) : List Int := ks.filter (fun x => decide (x < q))
theorem mem_upTo {ks : List Int} {q x : Int} : x ∈ upTo ks q ↔ x ∈ ks ∧ x ≤ q := by unfold upTo; rw [List.mem_filter, decide_eq_true_iff]
theorem mem_under {ks : List Int} {q x : Int} : x ∈ under ks q ↔ x ∈ ks ∧ x < q := by unfold under; rw [List.mem_filter, decide_eq_true_iff]
theorem upTo_nodup {ks : List Int} (h : ks.Nodup) (q : Int) : (upTo ks q).Nodup := h.sublist List.filter_sublist
theorem under_nodup {ks : List Int} (h : ks.Nodup) (q : Int) : (under ks q).Nodup := h.sublist List.filter_sublist
theorem upTo_under {ks : List Int} (h : ks.Nodup) {q : Int} (hq : q ∈ ks) : (upTo ks q).length = (under ks q).length + 1 := by
  have : (upTo ks q).length = (q :: under ks q).length := nodup_eq (upTo_nodup h q) (List.nodup_cons.2 ⟨fun hm => by have := (mem_under.1 hm).2; omega, under_nodup h q⟩) (fun x => by
    rw [mem_upTo, List.mem_cons, mem_under]
    constructor
    · rintro ⟨h1, h2⟩
      by_cases e : x = q
      · exact Or.inl e
      · exact Or.inr ⟨h1, by omega⟩
    · rintro (rfl | ⟨h1, h2⟩)
      · exact ⟨hq, by omega⟩
      · exact ⟨h1, by omega⟩)
  simpa using this
/-- So many of the least keys have come. -/
structure LS (ks : List Int) (f : Int → Int) (last : Int) (n : Nat) (os : List Int) : Prop where
  lo : -1 ≤ last
  cnt : (upTo ks last).length = n
  len : os.length = n
  mem : ∀ x, x ∈ os ↔ ∃ p ∈ ks, p ≤ last ∧ f p = x
theorem LS.start {ks : List Int} (h : ∀ x ∈ ks, 0 ≤ x) (f : Int → Int) : LS ks f (-1) 0 [] := by
  refine ⟨by omega, ?_, rfl, fun x => ⟨(fun h => by cases h), ?_⟩⟩
  · rw [List.length_eq_zero_iff, List.eq_nil_iff_forall_not_mem]
    intro x hx
    have := h x (mem_upTo.1 hx).1
    have := (mem_upTo.1 hx).2
    omega
  · rintro ⟨p, hp, h1, _⟩
    have := h p hp
    omega
theorem LS.more {ks : List Int} {f : Int → Int} {last : Int} {n : Nat} {os : List Int} (h : LS ks f last n os) (hn : n < ks.length) : ∃ p ∈ ks, last < p := by
  apply Classical.byContradiction
  intro hc
  have : upTo ks last = ks := by
    unfold upTo
    rw [List.filter_eq_self]
    intro x hx
    rw [decide_eq_true_iff]
    apply Classical.byContradiction
    intro h2
    exact hc ⟨x, hx, by omega⟩
  have h2 := h.cnt
  rw [this] at h2
  omega
theorem LS.step {ks : List Int} {f : Int → Int} {last : Int} {n : Nat} {os : List Int} (h : LS ks f last n os) (hn : ks.Nodup) {q : Int} (hq : q ∈ ks) (hl : last < q) (hmin : ∀ p ∈ ks, last < p → q ≤ p) : LS ks f q (n + 1) (os ++ [f q]) := by
  refine ⟨by have := h.lo; omega, ?_, by rw [List.length_append, h.len]; rfl, fun x => ?_⟩
  · rw [upTo_under hn hq]
    have : (under ks q).length = (upTo ks last).length := nodup_eq (under_nodup hn q) (upTo_nodup hn last) (fun x => by
      rw [mem_upTo, mem_under]
      constructor
      · rintro ⟨h1, h2⟩
        refine ⟨h1, ?_⟩
        apply Classical.byContradiction
        intro h3
        have := hmin x h1 (by omega)
        omega
      · rintro ⟨h1, h2⟩; exact ⟨h1, by omega⟩)
    rw [this, h.cnt]
  · rw [List.mem_append, h.mem x, List.mem_singleton]
    constructor
    · rintro (⟨p, hp, h1, h2⟩ | rfl)
      · exact ⟨p, hp, by omega, h2⟩
      · exact ⟨q, hq, Int.le_refl _, rfl⟩
    · rintro ⟨p, hp, h1, h2⟩
      by_cases e : p ≤ last
      · exact Or.inl ⟨p, hp, e, h2⟩
      · have := hmin p hp (by omega)
        obtain rfl : p = q := by omega
        exact Or.inr h2.symm
def LeastR (ks : List Int) (f : Int → Int) (keep : Int) (m : Nat) (w' : World) (e : Ending) : Prop :=
  ∃ os a c, e = .returned (.slice a os.length c) ∧ Sl intC 1 w' a os ∧ (∀ ad, a = some ad → m ≤ ad.block) ∧ (os.length : Int) ≤ mx keep 0 ∧ os.length ≤ ks.length ∧ ∀ x, x ∈ os ↔ ∃ p ∈ ks, ((under ks p).length : Int) < keep ∧ f p = x
theorem LS.done {ks : List Int} {f : Int → Int} {last : Int} {n : Nat} {os : List Int} (h : LS ks f last n os) (hn : ks.Nodup) {keep : Int} (hR : (n : Int) = mn (mx keep 0) (ks.length : Int)) (x : Int) : x ∈ os ↔ ∃ p ∈ ks, ((under ks p).length : Int) < keep ∧ f p = x := by
  rw [h.mem x]
  have key : ∀ p ∈ ks, (p ≤ last ↔ ((under ks p).length : Int) < keep) := by
    intro p hp
    have h1 := upTo_under hn hp
    have h4 : (upTo ks p).length ≤ ks.length := List.length_filter_le _ _
    have h2 : p ≤ last → (upTo ks p).length ≤ n := fun hle => by
      rw [← h.cnt]
      exact nodup_sub (upTo_nodup hn p) (fun x hx => mem_upTo.2 ⟨(mem_upTo.1 hx).1, by have := (mem_upTo.1 hx).2; omega⟩)
    have h3 : ¬ p ≤ last → n ≤ (under ks p).length := fun hle => by
      rw [← h.cnt]
      exact nodup_sub (upTo_nodup hn last) (fun x hx => mem_under.2 ⟨(mem_upTo.1 hx).1, by have := (mem_upTo.1 hx).2; omega⟩)
    rw [mn_eq, mx_eq] at hR
    constructor
    · intro hle
      have := h2 hle
      omega
    · intro hk
      apply Classical.byContradiction
      intro hle
      have := h3 hle
      omega
  constructor
  · rintro ⟨p, hp, h1, h2⟩; exact ⟨p, hp, (key p hp).1 h1, h2⟩
  · rintro ⟨p, hp, h1, h2⟩; exact ⟨p, hp, (key p hp).2 h1, h2⟩
/-- The least key that is greater than the last one, as far as is seen. -/
structure NX (ks : List Int) (last : Int) (left : List Int) (nx : Int) : Prop where
  is : nx = 9223372036854775807 ∨ nx ∈ ks ∧ last < nx
  min : ∀ p ∈ ks, p ∉ left → last < p → nx ≤ p
theorem NX.start (ks : List Int) (last : Int) : NX ks last ks 9223372036854775807 := ⟨Or.inl rfl, fun p h1 h2 => absurd h1 h2⟩
theorem NX.skip {ks left : List Int} {last nx y : Int} (h : NX ks last left nx) (hn : left.Nodup) (hy : ¬ last < y) : NX ks last (delK left y) nx := ⟨h.is, fun p h1 h2 h3 => by
  by_cases e : p = y
  · subst e; exact absurd h3 hy
  · exact h.min p h1 (fun h4 => h2 ((mem_delK hn _ _).2 ⟨e, h4⟩)) h3⟩
theorem NX.take {ks left : List Int} {last nx y : Int} (h : NX ks last left nx) (hn : left.Nodup) (hk : y ∈ ks) (hy : last < y) : NX ks last (delK left y) (mn nx y) := by
  unfold mn
  refine ⟨?_, fun p h1 h2 h3 => ?_⟩
  · split
    · exact Or.inr ⟨hk, hy⟩
    · exact h.is
  · by_cases e : p = y
    · subst e; split <;> omega
    · have := h.min p h1 (fun h4 => h2 ((mem_delK hn _ _).2 ⟨e, h4⟩)) h3
      split <;> omega
theorem NX.done {ks : List Int} {last nx : Int} (h : NX ks last [] nx) (hg : ∀ x ∈ ks, x ≤ 9223372036854775807) (hex : ∃ p ∈ ks, last < p) : nx ∈ ks ∧ last < nx ∧ ∀ p ∈ ks, last < p → nx ≤ p := by
  have hm : ∀ p ∈ ks, last < p → nx ≤ p := fun p h1 h2 => h.min p h1 (by simp) h2
  obtain ⟨p, hp, hl⟩ := hex
  rcases h.is with e | ⟨h1, h2⟩
  · have h3 := hm p hp hl
    have h4 := hg p hp
    obtain rfl : nx = p := by omega
    exact ⟨hp, hl, hm⟩
  · exact ⟨h1, h2, hm⟩
theorem infoI : ∃ i0, Try.prog.info? 3 = some i0 ∧ i0.zero = some (.int .i64 0) ∧ i0.size = 1 ∧ i0.bytes = 8 := ⟨_, rfl, rfl, rfl, rfl⟩
theorem own_shape {w : World} {B : Nat} {e : TypeId} {size : Nat} {v : Value} {n : Nat} {xs : List Value} (h : w.ownsRow B e size v n xs) : ∃ a cap, v = .slice a n cap := by
  obtain ⟨_, ⟨rfl, rfl⟩ | ⟨g, cap, cur, rfl, _⟩⟩ := h
  · exact ⟨none, 0, rfl⟩
  · exact ⟨_, cap, rfl⟩
theorem goodI_le {x : Int} (h : goodI x) : -9223372036854775808 ≤ x ∧ x ≤ 9223372036854775807 := by
  unfold goodI at h
  simp [Lit.wf, IntKind.min, IntKind.max, IntKind.signed, IntKind.bits] at h
  omega
set_option maxRecDepth 100000 in
set_option maxHeartbeats 8000000 in
theorem least_any (b : Nat) (ks : List Int) (f : Int → Int) (keep : Int) (w : World) (hm : HM kI w b ks f) (h0 : ∀ x ∈ ks, 0 ≤ x) (hl : ks.length ≤ 40) :
    Calls Try.prog 28 #[.map (some b), .int .i64 keep] w fun e w' => LeastR ks f keep w.heap.size w' e ∧ Below w.heap.size w w' := by
  obtain ⟨i0, hi0, hz0, hz1, hz2⟩ := infoI
  obtain ⟨R, hR⟩ : ∃ R : Nat, (R : Int) = mn (mx keep 0) (ks.length : Int) := ⟨(mn (mx keep 0) (ks.length : Int)).toNat, by
    rw [mn_eq, mx_eq]; omega⟩
  have hRl : R ≤ ks.length := by rw [mn_eq, mx_eq] at hR; omega
  have hRk : (R : Int) ≤ mx keep 0 := by rw [mn_eq, mx_eq] at hR; rw [mx_eq]; omega
  have hlen : ∀ ty, (Builtin.len_ #[47] ty #[.map (some b)]).run Try.prog w = .ok (.int .i64 ks.length) w := fun ty => hm.len ty
  have HG : Hid (∀ x ∈ ks, goodI x) := Lib.hid hm.good
  have HND := Lib.hid hm.nodup
  have hblt := hm.lt
  have HMM := Lib.hid hm
  have HL0 := Lib.hid (LS.start h0 f)
  have HRE := Lib.hid hR
  have hRmn : mn (mx keep 0) (ks.length : Int) = (R : Int) := hR.symm
  have HRK := Lib.hid hRk
  have hmax := max2_int; have hmax2 := max_two; have hmin := min2_int; have hmin2 := min_two
  obtain ⟨K, hK⟩ : ∃ K, K = ks.length := ⟨_, rfl⟩
  rw [← hK] at hlen hRmn hRl hl
  have HK := Lib.hid hK
  clear hm hR h0 hRk hK
  go_enter Try.func28, Try.ntmps28
  go_wp2
  clear hlen hRmn
  obtain ⟨m, hme⟩ : ∃ m, m = w.heap.size := ⟨_, rfl⟩
  have HME := Lib.hid hme
  rw [← hme] at hblt
  clear hme
  go_loopw [5, 6, 14] (fun v la r wr => ∃ (n : Nat) (last : Int) (os : List Int), r = .int .i64 n ∧ n ≤ R ∧ la = .int .i64 last ∧ LS ks f last n os ∧ wr.ownsRow m 3 1 v os.length (os.flatMap intC) ∧ HM kI wr b ks f ∧ Below w.heap.size w wr) (fun _ _ r _ => R - (intOf r).toNat)
  case atStart => exact ⟨0, -1, [], rfl, by omega, rfl, HL0.out, own_nil _ _ _ _, HMM.out, Below.refl _ _⟩
  case round =>
    obtain ⟨n, last, os, rfl, hn, rfl, hls, hrow, hm, hbw⟩ := hrel
    have HLS := Lib.hid hls; have HROW := Lib.hid hrow; have HMW := Lib.hid hm; have HBW := Lib.hid hbw
    obtain ⟨av, cv, rfl⟩ := own_shape hrow
    clear hls hrow hm hbw HL0 HMM
    obtain ⟨ln, hln⟩ : ∃ ln, ln = os.length := ⟨_, rfl⟩
    rw [← hln] at HROW ⊢
    have HLN := Lib.hid hln
    clear hln
    obtain ⟨wo, rfl⟩ : ∃ wo : World, wo = wr := ⟨_, rfl⟩
    by_cases hlt : n < R
    · have g1 : (n : Int) < (R : Int) := by omega
      have hsz := HBW.out.size
      go_wp2_with (at_range; refine wpList_range_h HMW.out rfl _ _ rfl rfl rfl ?_; intro w6 hr6 hb6 hz6)
      go_frame
      obtain ⟨r, hre⟩ : ∃ r, r = wo.heap.size := ⟨_, rfl⟩
      rw [← hre] at hr6 ⊢
      have hmr : m ≤ r := by rw [hre, HME.out]; exact hsz
      have HR6 := Lib.hid hr6
      have HROW6 := Lib.hid (own_kept HROW.out hb6)
      have HVR : Hid (∀ q, (Value.slice av ln cv).ownBlock = some q → q ≠ r) := Lib.hid (fun q hq e => by have := (HROW.out.lt q hq).2; omega)
      have HB6 := Lib.hid (below_cons HBW.out hb6)
      have HNX0 := Lib.hid (NX.start ks last)
      have hmw : w.heap.size ≤ r := by rw [hre]; exact hsz
      clear hr6 hb6 hz6 hre hsz
      go_loopw [7, 8] (fun nv _ wr => ∃ (left : List Int) (nx : Int), nv = .int .i64 nx ∧ HR kI wr b r ks f left ∧ NX ks last left nx ∧ wr.ownsRow m 3 1 (.slice av ln cv) ln (os.flatMap intC) ∧ Below w.heap.size w wr) (fun _ _ wr => wr.rangeLeft b r)
      case atStart => exact ⟨ks, _, rfl, HR6.out, HNX0.out, HROW6.out, HB6.out⟩
      case round =>
        obtain ⟨left, nx, rfl, hrg, hnx, hrow, hbw⟩ := hrel
        clear HR6 HNX0 HROW6 HB6
        have HRG := Lib.hid hrg; have HNX := Lib.hid hnx; have HROW7 := Lib.hid hrow; have HBW7 := Lib.hid hbw
        clear hrg hnx hrow hbw
        go_wp2_with (at_next; refine wpList_next_h (Value.int .i64) (fun _ => rfl) (Value.int .i64) (fun _ => rfl) HRG.out rfl _ rfl rfl ?_ ?_)
        · intro hnil
          subst hnil
          obtain ⟨h1, h2, h3⟩ := HNX.out.done (fun x hx => (goodI_le (HG.out x hx)).2) (HLS.out.more (by rw [← HK.out]; omega))
          have HLS2 := Lib.hid (HLS.out.step HND.out h1 h2 h3)
          have hlook : (Instr.lookup 47 (.map (some b)) (.int .i64 nx) false).run Try.prog wr = .ok (.int .i64 (f nx)) wr := HRG.out.hm.get (HG.out nx h1)
          have HM7 := Lib.hid HRG.out.hm
          clear h1 h2 h3
          generalize f nx = fx at *
          have HROW8 := Lib.hid (own_kept HROW7.out (below_new wr (.cells #[.int .i64 fx] 3)))
          have HB8 := Lib.hid (below_cons HBW7.out (below_new wr (.cells #[.int .i64 fx] 3)))
          have HM8 := Lib.hid (HM7.out.keep (below_new wr (.cells #[.int .i64 fx] 3)))
          have hll : ln ≤ 40 := by rw [HLN.out, HLS.out.len]; omega
          have hmw2 : m ≤ wr.heap.size := by have := HBW7.out.size; rw [HME.out]; exact this
          go_wp2_with (at_builtin; refine wpList_append_own _ rfl _ _ 34 rfl m 3 i0 (.int .i64 0) 1 8 Try.underlying34 hi0 hz0 hz1 hz2 rfl (by decide) _ _ _ rfl HROW8.out ⟨wr.heap.size, 0, none⟩ 1 1 [.int .i64 fx] rfl rfl ?a1 ?a2 ?a3 ?a4 ?a5 ?_)
          case a1 => intro j u hj; exact new_cells _ _ _ j u hj
          case a2 => intro u hu; simp at hu; rcases hu with rfl; rfl
          case a3 => unfold maxLen; omega
          case a4 => omega
          case a5 => simp; omega
          intro v5 w5 hown5 hg5 _
          have HO5 : Hid (w5.ownsRow m 3 1 v5 (os ++ [fx]).length ((os ++ [fx]).flatMap intC)) := Lib.hid (by rw [List.length_append, List.flatMap_append, ← HLN.out]; exact hown5)
          have HK5 : Hid (Kp (fun q => (Value.slice av ln cv).ownBlock = some q) (wr.alloc (.cells #[.int .i64 fx] 3)) w5) := Lib.hid (Kp.grown hg5 (fun k e => e))
          have HM5 : Hid (HM kI w5 b ks f) := Lib.hid (HM8.out.kp HK5.out (fun e => by have := (HROW8.out.lt b e).1; omega))
          have HB5 : Hid (Below w.heap.size w w5) := Lib.hid (HB8.out.trans (HK5.out.below (by have := HB8.out.size; exact this) (fun q hq => by rw [← HME.out]; exact (HROW8.out.lt q hq).1)))
          clear hown5 hg5 hlook
          go_wp2
          go_roundw
          case rel => exact ⟨n + 1, nx, _, by go_num, by omega, rfl, HLS2.out, HO5.out, HM5.out, HB5.out⟩
          case measure => simp [intOf]; omega
        · intro y w7 hyl hgy hr7 hlt7 hk7 hz7 hen
          have hyk : y ∈ ks := HRG.out.left_mem y hyl
          have HR7 := Lib.hid hr7; have HLT7 := Lib.hid hlt7
          have HROW8 : Hid (w7.ownsRow m 3 1 (.slice av ln cv) ln (os.flatMap intC)) := Lib.hid (own_kp2 HROW7.out hk7 (fun q hq e => HVR.out q hq e))
          have HB8 : Hid (Below w.heap.size w w7) := Lib.hid (HBW7.out.trans (hk7.below HBW7.out.size (fun j e => by omega)))
          by_cases hly : last < y
          · have HN8 := Lib.hid (HNX.out.take HRG.out.left_nodup hyk hly)
            clear hr7 hlt7 hk7 hz7 hyl hyk
            go_wp2
            go_roundw
            case rel => exact ⟨_, _, rfl, HR7.out, HN8.out, HROW8.out, HB8.out⟩
            case measure => exact HLT7.out
          · have HN8 := Lib.hid (HNX.out.skip HRG.out.left_nodup hly)
            clear hr7 hlt7 hk7 hz7 hyl hyk
            go_wp2
            go_roundw
            case rel => exact ⟨_, _, rfl, HR7.out, HN8.out, HROW8.out, HB8.out⟩
            case measure => exact HLT7.out
    · obtain rfl : R = n := by omega
      have hkk : ¬ (R : Int) < (R : Int) := by omega
      have HLR : Hid (LeastR ks f keep w.heap.size wo (.returned (.slice av ln cv))) := Lib.hid (by
        obtain ⟨a2, c2, e2, _, hsl⟩ := own_sl (enc := intC) (l := os) (fun _ => rfl) (by decide) (by rw [← HLN.out]; exact HROW.out)
        simp only [Value.slice.injEq] at e2
        obtain ⟨rfl, _, rfl⟩ := e2
        exact ⟨os, av, cv, by rw [HLN.out], hsl, (fun ad e => by subst e; rw [← HME.out]; exact (HROW.out.lt ad.block rfl).1), by rw [HLS.out.len]; exact HRK.out, by rw [HLS.out.len, ← HK.out]; exact hRl, HLS.out.done HND.out HRE.out⟩)
      go_wp2
      go_ret
      exact ⟨HLR.out, HBW.out⟩
end Go.Proofs.Ytgoddgaamdifmaa

