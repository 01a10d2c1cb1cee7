/-
  Ages by parts, plain; and the contract of youngest.
-/
import Derived.Test.YtgoddgaamdifmaaHint
import Derived.Test.YtgoddgaamdifmaaOwn
import Derived.Test.YtgoddgaamdifmaaLoad
set_option linter.unusedVariables false
set_option linter.unusedSimpArgs false
namespace Go.Proofs.Ytgoddgaamdifmaa
open Go.RowKit Go.WideMaps Go.Maps
theorem zI (w : World) : (zeroValue 3).run Try.prog w = .ok (.int .i64 0) w := by kernel_rfl
def kI := kindII 47 3 3 Try.underlying47 Try.underlying3 zI
def intC (x : Int) : List Value := [.int .i64 x]
theorem sl_int {w : World} {a : Option Addr} {xs : List Int} (h : Sl intC 1 w a xs) (i : Nat) (hi : i < xs.length) : ∃ b o, a = some ⟨b, o, none⟩ ∧ b < w.heap.size ∧ w.cell? ⟨b, o + i, none⟩ = some (.int .i64 (xs.getD i 0)) := by
  obtain ⟨b, o, ha, hlt, hc⟩ := h i hi
  refine ⟨b, o, ha, hlt, ?_⟩
  have := hc 0 _ rfl
  rw [Nat.mul_one, Nat.add_zero] at this
  rw [this, List.getD_eq_getElem?_getD, List.getElem?_eq_getElem hi]; rfl
def ag (l : List Int) (i : Nat) : Nat := (l.getD i 0).toNat
def pt (l : List Int) (D i : Nat) : Nat := ag l i / D
theorem ag_mx (l : List Int) (i : Nat) : mx (l.getD i 0) 0 = (ag l i : Int) := by unfold mx ag; split <;> omega
def yg (l : List Int) (D : Nat) : Nat → Nat → Option Nat
  | 0, _ => none
  | k + 1, p => if pt l D k = p then (match yg l D k p with
    | none => some k
    | some j => if ag l k < ag l j then some k else some j) else yg l D k p
/-- Is a place the first one of the least age of its part, of the first k? -/
def Yg (l : List Int) (D k p i : Nat) : Prop := i < k ∧ pt l D i = p ∧ ∀ j < k, pt l D j = p → ag l i < ag l j ∨ (ag l i = ag l j ∧ i ≤ j)
theorem yg_none {l : List Int} {D k p : Nat} (h : yg l D k p = none) : ∀ i < k, pt l D i ≠ p := by
  induction k with
  | zero => intro i hi; omega
  | succ k ih =>
    unfold yg at h
    intro i hi
    by_cases e : pt l D k = p
    · rw [if_pos e] at h
      split at h
      · cases h
      · split at h <;> cases h
    · rw [if_neg e] at h
      by_cases e2 : i = k
      · subst e2; exact e
      · exact ih h i (by omega)
theorem yg_some {l : List Int} {D k p i : Nat} (h : yg l D k p = some i) : Yg l D k p i := by
  induction k generalizing i with
  | zero => cases h
  | succ k ih =>
    unfold yg at h
    by_cases e : pt l D k = p
    · rw [if_pos e] at h
      cases hy : yg l D k p with
      | none =>
        rw [hy] at h
        obtain rfl : k = i := by simpa using h
        have hn := yg_none hy
        refine ⟨by omega, e, fun j hj hp => ?_⟩
        by_cases e2 : j = k
        · exact Or.inr ⟨by rw [e2], by omega⟩
        · exact absurd hp (hn j (by omega))
      | some j0 =>
        rw [hy] at h
        obtain ⟨h1, h2, h3⟩ := ih hy
        by_cases hlt : ag l k < ag l j0
        · simp only [if_pos hlt] at h
          obtain rfl : k = i := by simpa using h
          refine ⟨by omega, e, fun j hj hp => ?_⟩
          by_cases e2 : j = k
          · exact Or.inr ⟨by rw [e2], by omega⟩
          · have := h3 j (by omega) hp
            left; omega
        · simp only [if_neg hlt] at h
          obtain rfl : j0 = i := by simpa using h
          refine ⟨by omega, h2, fun j hj hp => ?_⟩
          by_cases e2 : j = k
          · subst e2; omega
          · exact h3 j (by omega) hp
    · rw [if_neg e] at h
      obtain ⟨h1, h2, h3⟩ := ih h
      refine ⟨by omega, h2, fun j hj hp => ?_⟩
      by_cases e2 : j = k
      · subst e2; exact absurd hp e
      · exact h3 j (by omega) hp
theorem Yg.uniq {l : List Int} {D k p i j : Nat} (h : Yg l D k p i) (h2 : Yg l D k p j) : i = j := by
  have a := h.2.2 j h2.1 h2.2.1
  have b := h2.2.2 i h.1 h.2.1
  omega
theorem yg_iff {l : List Int} {D k p i : Nat} : yg l D k p = some i ↔ Yg l D k p i := by
  refine ⟨yg_some, fun h => ?_⟩
  cases e : yg l D k p with
  | none => exact absurd h.2.1 (yg_none e i h.1)
  | some j => rw [(yg_some e).uniq h]
/-- What the map has of the first k ages. -/
structure YM (l : List Int) (D k : Nat) (ks : List Int) (f : Int → Int) : Prop where
  keys : ∀ x, x ∈ ks ↔ ∃ p i : Nat, x = (p : Int) ∧ yg l D k p = some i
  vals : ∀ p i : Nat, yg l D k p = some i → f (p : Int) = (i : Int)
  few : ks.length ≤ k
theorem YM.start (l : List Int) (D : Nat) (f : Int → Int) : YM l D 0 [] f := ⟨fun x => by simp [yg], (fun p i h => by cases h), by simp⟩
theorem YM.put {l : List Int} {D k : Nat} {ks : List Int} {f : Int → Int} (h : YM l D k ks f) (hs : yg l D (k + 1) (pt l D k) = some k) : YM l D (k + 1) (addK ks (pt l D k : Int)) (sef f (pt l D k : Int) (k : Int)) := by
  have key : ∀ p, p ≠ pt l D k → yg l D (k + 1) p = yg l D k p := fun p hp => by
    show (if pt l D k = p then _ else _) = _
    rw [if_neg (fun e => hp e.symm)]
  refine ⟨fun x => ?_, fun p i hi => ?_, ?_⟩
  · rw [mem_addK, h.keys x]
    constructor
    · rintro (⟨p, i, rfl, hi⟩ | rfl)
      · by_cases e : p = pt l D k
        · exact ⟨p, k, rfl, by rw [e]; exact hs⟩
        · exact ⟨p, i, rfl, by rw [key p e]; exact hi⟩
      · exact ⟨_, k, rfl, hs⟩
    · rintro ⟨p, i, rfl, hi⟩
      by_cases e : p = pt l D k
      · exact Or.inr (by rw [e])
      · exact Or.inl ⟨p, i, rfl, by rw [← key p e]; exact hi⟩
  · by_cases e : p = pt l D k
    · subst e
      rw [sef_same]
      rw [hs] at hi
      obtain rfl : k = i := by simpa using hi
      rfl
    · rw [sef_other _ _ (by omega)]
      exact h.vals p i (by rw [← key p e]; exact hi)
  · rw [addK_len]
    have := h.few
    split <;> omega
theorem YM.same {l : List Int} {D k : Nat} {ks : List Int} {f : Int → Int} (h : YM l D k ks f) {j : Nat} (h1 : yg l D k (pt l D k) = some j) (h2 : yg l D (k + 1) (pt l D k) = some j) : YM l D (k + 1) ks f := by
  have key : ∀ p, yg l D (k + 1) p = yg l D k p := fun p => by
    by_cases hp : p = pt l D k
    · rw [hp, h1, h2]
    · show (if pt l D k = p then _ else _) = _
      rw [if_neg (fun e => hp e.symm)]
  refine ⟨fun x => by rw [h.keys x]; simp only [key], fun p i hi => h.vals p i (by rw [← key p]; exact hi), by have := h.few; omega⟩
theorem YM.has {l : List Int} {D k : Nat} {ks : List Int} {f : Int → Int} (h : YM l D k ks f) (p : Nat) : ((p : Int) ∈ ks) ↔ (yg l D k p).isSome = true := by
  rw [h.keys]
  constructor
  · rintro ⟨q, i, e, hi⟩
    obtain rfl : p = q := by omega
    rw [hi]; rfl
  · intro hs
    obtain ⟨i, hi⟩ := Option.isSome_iff_exists.1 hs
    exact ⟨p, i, rfl, hi⟩
def YoungR (l : List Int) (D : Nat) (w' : World) (b : Nat) : Prop := ∃ ks f, HM kI w' b ks f ∧ YM l D l.length ks f
theorem pt_le (l : List Int) (D k : Nat) : pt l D k ≤ ag l k := Nat.div_le_self _ _
theorem i64_of {P A : Nat} (h : P ≤ A) (hA : A ≤ 9223372036854775807) : (P : Int) ≤ 9223372036854775807 ∧ wrap64 (P : Int) = (P : Int) := ⟨by omega, wrap64_id (by omega) (by omega)⟩
theorem quo_nat (A D : Nat) (w : World) (hD : 0 < D) (hA : A ≤ 9223372036854775807) : (binOp .quo 3 (.int .i64 (A : Int)) (.int .i64 (D : Int))).run Try.prog w = .ok (.int .i64 ((A / D : Nat) : Int)) w := by
  have h0 : ¬ D = 0 := by omega
  have he : (A : Int) / (D : Int) = ((A / D : Nat) : Int) := rfl
  have hw : IntKind.i64.wrap ((A : Int) / (D : Int)) = (A : Int) / (D : Int) := by
    rw [he]
    have : A / D ≤ A := Nat.div_le_self _ _
    generalize A / D = q at *
    rw [IntKind.wrap_i64]; omega
  simp [binOp, go_sem, h0, hw]
set_option maxRecDepth 100000 in
set_option maxHeartbeats 8000000 in
theorem youngest_any (l : List Int) (D : Nat) (a : Option Addr) (cap : Nat) (w : World) (hs : Sl intC 1 w a l) (hg : ∀ x ∈ l, goodI x) (hl : l.length ≤ 40) (hD : 0 < D) (hD2 : D ≤ 30) :
    Calls Try.prog 29 #[.slice a l.length cap, .int .i64 D] w fun e w' => e = .returned (.map (some w.heap.size)) ∧ YoungR l D w' w.heap.size ∧ Below w.heap.size w w' := by
  obtain ⟨L, hL⟩ : ∃ L, L = l.length := ⟨_, rfl⟩
  have HS := Lib.hid hs; have HG := Lib.hid hg; have HL := Lib.hid hL
  rw [← hL] at hl ⊢
  clear hs hg hL
  have hmax := max2_int; have hmax2 := max_two
  have hmm := @run_makeMap Try.prog
  have HM0 := Lib.hid (HM.made kI w)
  have HB0 := Lib.hid (below_new w (.map #[] 0))
  go_enter Try.func29, Try.ntmps29
  go_wp2
  go_loopw [14] (fun i wr => ∃ k : Nat, i = .int .i64 k ∧ k ≤ L ∧ (∃ ks f, HM kI wr w.heap.size ks f ∧ YM l D k ks f) ∧ Below w.heap.size w wr) (fun i _ => L - (intOf i).toNat)
  case atStart => exact ⟨0, rfl, by omega, ⟨[], _, HM0.out, YM.start l D _⟩, HB0.out⟩
  case round =>
    obtain ⟨k, rfl, hk, ⟨ks, f, hm, hy⟩, hbw⟩ := hrel
    have HMM := Lib.hid hm; have HY := Lib.hid hy; have HBW := Lib.hid hbw
    clear hm hy hbw HM0 HB0
    by_cases hlt : k < L
    · have hkl : k < l.length := by rw [← HL.out]; exact hlt
      obtain ⟨b, o, rfl, hb1, hc1⟩ := sl_int HS.out k hkl
      have c1 : wr.cell? ⟨b, o + k, none⟩ = some (.int .i64 (l.getD k 0)) := (HBW.out.cell (p := ⟨b, o + k, none⟩) hb1).trans hc1
      have g1 : (k : Int) < (L : Int) := by omega
      have hA : ag l k ≤ 9223372036854775807 := by
        have h2 := HG.out l[k] (List.getElem_mem hkl)
        unfold goodI at h2
        simp only [Lit.wf, IntKind.min, IntKind.max, IntKind.signed, IntKind.bits, Bool.and_eq_true, decide_eq_true_eq] at h2
        unfold ag
        rw [List.getD_eq_getElem?_getD, List.getElem?_eq_getElem hkl]
        simp only [Option.getD_some]
        have := h2.2
        simp at this
        omega
      have hmx := ag_mx l k
      have hq := fun w => quo_nat (ag l k) D w hD hA
      have hgp : goodI ((pt l D k : Nat) : Int) := goodI_of (by omega) (i64_of (pt_le l D k) hA).1
      have hq2 : ∀ w : World, (binOp .quo 3 (.int .i64 (ag l k : Int)) (.int .i64 (D : Int))).run Try.prog w = .ok (.int .i64 (pt l D k : Int)) w := hq
      have hlook : (Instr.lookup 47 (.map (some w.heap.size)) (.int .i64 ((pt l D k : Nat) : Int)) true).run Try.prog wr = .ok (.tuple #[.int .i64 (f ((pt l D k : Nat) : Int)), .bool (decide (((pt l D k : Nat) : Int) ∈ ks))]) wr := HMM.out.get_ok hgp
      have HHAS := Lib.hid (HY.out.has (pt l D k))
      have HNX : Hid (yg l D (k + 1) (pt l D k) = (match yg l D k (pt l D k) with | none => some k | some j => if ag l k < ag l j then some k else some j)) := Lib.hid (by
        show (if pt l D k = pt l D k then _ else _) = _
        rw [if_pos rfl])
      have HVAL := Lib.hid (HY.out.vals (pt l D k))
      have HPUT := Lib.hid HY.out.put; have HSAME : Hid (∀ {j : Nat}, yg l D k (pt l D k) = some j → yg l D (k + 1) (pt l D k) = some j → YM l D (k + 1) ks f) := Lib.hid HY.out.same
      have hmp : ∃ w', (Instr.mapUpdate 47 (.map (some w.heap.size)) (.int .i64 ((pt l D k : Nat) : Int)) (.int .i64 (k : Int))).run Try.prog wr = .ok () w' ∧ HM kI w' w.heap.size (addK ks ((pt l D k : Nat) : Int)) (sef f ((pt l D k : Nat) : Int) (k : Int)) ∧ Kp (fun k => k = w.heap.size) wr w' ∧ w'.heap.size = wr.heap.size := HMM.out.put (x := ((pt l D k : Nat) : Int)) (by have := HY.out.few; simp only [maxLen]; omega) hgp (k : Int)
      clear hq hc1 hgp
      have HA2 : Hid ((ag l k : Int) / (D : Int) = (pt l D k : Int)) := Lib.hid rfl
      obtain ⟨A, hAe⟩ : ∃ A, A = ag l k := ⟨_, rfl⟩
      obtain ⟨P, hP⟩ : ∃ P, P = pt l D k := ⟨_, rfl⟩
      rw [← hAe] at hmx hq2 HA2 hA
      rw [← hP] at hq2 HA2 hlook HHAS hmp
      have hdv := HA2.out
      have hdn : decide (D = 0) = false := decide_eq_false (by omega)
      obtain ⟨hP1, hw64⟩ := i64_of (show P ≤ A by rw [hP, hAe]; exact pt_le l D k) hA
      have HAE := Lib.hid hAe; have HPE := Lib.hid hP
      clear hAe hP HA2
      obtain ⟨w4, hu, hm4, hk4, hz4⟩ := hmp
      have HM4 := Lib.hid hm4
      have HB4 : Hid (Below w.heap.size w w4) := Lib.hid (HBW.out.trans (hk4.below HBW.out.size (fun j e => by omega)))
      clear hm4 hk4 hz4
      generalize l.getD k 0 = x at *
      cases hyg : yg l D k (pt l D k) with
      | none =>
        have hn : ((P : Int) ∈ ks) = False := by
          rw [eq_iff_iff]
          refine ⟨fun h => ?_, fun h => h.elim⟩
          have := HHAS.out.1 h
          rw [HPE.out, hyg] at this
          cases this
        rw [decide_eq_false (fun h => by rw [hn] at h; exact h)] at hlook
        have HY4 : Hid (YM l D (k + 1) (addK ks (P : Int)) (sef f (P : Int) (k : Int))) := Lib.hid (by
          rw [HPE.out]
          exact HPUT.out (by rw [HNX.out, hyg]))
        clear hyg hn
        go_wp2
        go_roundw
        case rel => exact ⟨k + 1, by go_num, by omega, ⟨_, _, HM4.out, HY4.out⟩, HB4.out⟩
        case measure => simp [intOf]; omega
      | some j =>
        have hn : (P : Int) ∈ ks := HHAS.out.2 (by rw [HPE.out, hyg]; rfl)
        have hv : f (P : Int) = (j : Int) := by rw [HPE.out]; exact HVAL.out j hyg
        rw [decide_eq_true hn, hv] at hlook
        have hj := (yg_some hyg).1
        obtain ⟨b2, o2, e2, hb2, hc2⟩ := sl_int HS.out j (by rw [← HL.out]; omega)
        simp only [Option.some.injEq, Addr.mk.injEq, and_true] at e2
        obtain ⟨rfl, rfl⟩ := e2
        have c2 : wr.cell? ⟨b, o + j, none⟩ = some (.int .i64 (l.getD j 0)) := (HBW.out.cell (p := ⟨b, o + j, none⟩) hb1).trans hc2
        have hmx2 := ag_mx l j
        have HLT : Hid (ag l k < ag l j ↔ A < ag l j) := Lib.hid (by rw [HAE.out])
        generalize l.getD j 0 = y at *
        obtain ⟨A2, hA2⟩ : ∃ A2, A2 = ag l j := ⟨_, rfl⟩
        rw [← hA2] at hmx2
        have HA2 := Lib.hid hA2
        have g2 : (j : Int) < (L : Int) := by omega
        clear hn hv hc2 hA2 hb2
        by_cases hlt2 : A < A2
        · have HY4 : Hid (YM l D (k + 1) (addK ks (P : Int)) (sef f (P : Int) (k : Int))) := Lib.hid (by
            rw [HPE.out]
            exact HPUT.out (by rw [HNX.out, hyg]; exact if_pos (HLT.out.2 (by rw [← HA2.out]; exact hlt2))))
          have d1 : decide (A < A2) = true := decide_eq_true hlt2
          clear hyg
          go_wp2
          go_roundw
          case rel => exact ⟨k + 1, by go_num, by omega, ⟨_, _, HM4.out, HY4.out⟩, HB4.out⟩
          case measure => simp [intOf]; omega
        · have HY4 : Hid (YM l D (k + 1) ks f) := Lib.hid (HSAME.out hyg (by
            rw [HNX.out, hyg]
            exact if_neg (fun h => hlt2 (by rw [HA2.out]; exact HLT.out.1 h))))
          have d1 : decide (A < A2) = false := decide_eq_false hlt2
          clear hyg
          go_wp2
          go_roundw
          case rel => exact ⟨k + 1, by go_num, by omega, ⟨_, _, HMM.out, HY4.out⟩, HBW.out⟩
          case measure => simp [intOf]; omega
    · obtain rfl : L = k := by omega
      have hkk : ¬ (L : Int) < (L : Int) := by omega
      have HR : Hid (YoungR l D wr w.heap.size) := Lib.hid ⟨ks, f, HMM.out, by rw [← HL.out]; exact HY.out⟩
      go_wp2
      go_ret
      exact ⟨rfl, HR.out, HBW.out⟩
end Go.Proofs.Ytgoddgaamdifmaa

