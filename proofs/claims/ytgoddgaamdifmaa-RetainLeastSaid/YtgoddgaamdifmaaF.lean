/-
  The contract of Plan.
-/
import Derived.Test.YtgoddgaamdifmaaE
import Derived.Test.YtgoddgaamdifmaaRows2
import Derived.Laws.MakeOwn
import Derived.Deep.RegionHeld3
set_option linter.unusedVariables false
set_option linter.unusedSimpArgs false
namespace Go.Proofs.Ytgoddgaamdifmaa
open Go.RowKit Go.WideMaps Go.Maps
/-- The parts below p, as the reference gathers them from the first k. -/
def lessK (l : List Int) (D p : Nat) : Nat → List Nat
  | 0 => []
  | k + 1 => if pt l D k < p ∧ pt l D k ∉ lessK l D p k then lessK l D p k ++ [pt l D k] else lessK l D p k
theorem lessK_mem (l : List Int) (D p : Nat) : ∀ k x, x ∈ lessK l D p k ↔ x < p ∧ ∃ i < k, pt l D i = x
  | 0, x => by simp [lessK]
  | k + 1, x => by
    have ih := lessK_mem l D p k x
    unfold lessK
    constructor
    · intro h
      split at h
      · rename_i hc
        rcases List.mem_append.1 h with h1 | h1
        · obtain ⟨a, i, b, c⟩ := ih.1 h1
          exact ⟨a, i, by omega, c⟩
        · rw [List.mem_singleton.1 h1]
          exact ⟨hc.1, k, by omega, rfl⟩
      · obtain ⟨a, i, b, c⟩ := ih.1 h
        exact ⟨a, i, by omega, c⟩
    · rintro ⟨h1, i, h2, h3⟩
      by_cases e : i = k
      · subst e
        by_cases hm : pt l D i ∈ lessK l D p i
        · rw [if_neg (fun h => h.2 hm), ← h3]; exact hm
        · rw [if_pos ⟨by omega, hm⟩]
          exact List.mem_append.2 (Or.inr (by rw [h3]; simp))
      · have := ih.2 ⟨h1, i, by omega, h3⟩
        split
        · exact List.mem_append.2 (Or.inl this)
        · exact this
theorem lessK_nodup (l : List Int) (D p : Nat) : ∀ k, (lessK l D p k).Nodup
  | 0 => List.nodup_nil
  | k + 1 => by
    have ih := lessK_nodup l D p k
    unfold lessK
    split
    · rename_i hc
      rw [List.nodup_append]
      refine ⟨ih, by simp, fun a ha b hb e => ?_⟩
      rw [List.mem_singleton] at hb
      exact hc.2 (by rw [← hb, ← e]; exact ha)
    · exact ih
def stayB (l : List Int) (D : Nat) (keep : Int) (i : Nat) : Bool := (yg l D l.length (pt l D i) == some i) && decide (((lessK l D (pt l D i) l.length).length : Int) < keep)
theorem under_less {l : List Int} {D : Nat} {ks : List Int} {f : Int → Int} (h : YM l D l.length ks f) (hn : ks.Nodup) (p : Nat) : (under ks (p : Int)).length = (lessK l D p l.length).length := by
  have hlm : ((lessK l D p l.length).map Int.ofNat).length = (lessK l D p l.length).length := List.length_map _
  rw [← hlm]
  refine nodup_eq (under_nodup hn _) ?_ (fun x => ?_)
  · unfold List.Nodup; rw [List.pairwise_map]
    exact (lessK_nodup l D p l.length).imp (fun hne e => hne (Int.ofNat.inj e))
  · rw [mem_under, h.keys, List.mem_map]
    constructor
    · rintro ⟨⟨q, i, rfl, hi⟩, hlt⟩
      have := (yg_some hi)
      exact ⟨q, (lessK_mem _ _ _ _ _).2 ⟨by omega, i, this.1, this.2.1⟩, rfl⟩
    · rintro ⟨q, hq, rfl⟩
      obtain ⟨h1, i, h2, h3⟩ := (lessK_mem _ _ _ _ _).1 hq
      refine ⟨?_, by show (q : Int) < p; omega⟩
      cases hy : yg l D l.length q with
      | none => exact absurd h3 (yg_none hy i h2)
      | some j => exact ⟨q, j, rfl, hy⟩
theorem out_stay {l : List Int} {D : Nat} {ks : List Int} {f : Int → Int} {keep : Int} {os : List Int} (h : YM l D l.length ks f) (hn : ks.Nodup) (ho : ∀ x, x ∈ os ↔ ∃ p ∈ ks, ((under ks p).length : Int) < keep ∧ f p = x) (i : Nat) : ((i : Int) ∈ os) ↔ stayB l D keep i = true := by
  rw [ho]
  unfold stayB
  rw [Bool.and_eq_true, beq_iff_eq, decide_eq_true_iff]
  constructor
  · rintro ⟨p, hp, h1, h2⟩
    obtain ⟨q, j, rfl, hj⟩ := (h.keys p).1 hp
    have h3 := h.vals q j hj
    obtain rfl : j = i := by omega
    have h4 := (yg_some hj).2.1
    rw [h4]
    exact ⟨hj, by rw [← under_less h hn]; exact h1⟩
  · rintro ⟨h1, h2⟩
    exact ⟨_, (h.keys _).2 ⟨_, _, rfl, h1⟩, by rw [under_less h hn]; exact h2, h.vals _ _ h1⟩
theorem out_lt {l : List Int} {D : Nat} {ks : List Int} {f : Int → Int} {keep : Int} {os : List Int} (h : YM l D l.length ks f) (ho : ∀ x, x ∈ os ↔ ∃ p ∈ ks, ((under ks p).length : Int) < keep ∧ f p = x) : ∀ x ∈ os, ∃ i : Nat, x = (i : Int) ∧ i < l.length := by
  intro x hx
  obtain ⟨p, hp, _, h2⟩ := (ho x).1 hx
  obtain ⟨q, j, rfl, hj⟩ := (h.keys p).1 hp
  exact ⟨j, by rw [← h2, h.vals q j hj], (yg_some hj).1⟩
def rowB (n : Nat) (p : Nat → Bool) : List Value := (List.range n).map fun i => .bool (p i)
theorem rowB_len (n : Nat) (p : Nat → Bool) : (rowB n p).length = n := by simp [rowB]
theorem rowB_get (n : Nat) (p : Nat → Bool) (i : Nat) (h : i < n) : (rowB n p)[i]? = some (.bool (p i)) := by
  unfold rowB
  rw [List.getElem?_map, List.getElem?_range h]; rfl
theorem rowB_congr {n : Nat} {p q : Nat → Bool} (h : ∀ i < n, p i = q i) : rowB n p = rowB n q := by
  unfold rowB
  apply List.map_congr_left
  intro i hi
  rw [h i (List.mem_range.1 hi)]
theorem rowB_set (n : Nat) (p : Nat → Bool) (i : Nat) (h : i < n) (b : Bool) : (rowB n p).set i (.bool b) = rowB n (fun j => if j = i then b else p j) := by
  apply List.ext_getElem?
  intro j
  by_cases e : j = i
  · subst e
    rw [List.getElem?_set_self (by rw [rowB_len]; exact h), rowB_get _ _ _ h, if_pos rfl]
  · rw [List.getElem?_set_ne (fun h => e h.symm)]
    by_cases hj : j < n
    · rw [rowB_get _ _ _ hj, rowB_get _ _ _ hj, if_neg e]
    · rw [List.getElem?_eq_none (by rw [rowB_len]; omega), List.getElem?_eq_none (by rw [rowB_len]; omega)]
def addO (p : Nat → Bool) (os : List Int) (i : Nat) : Bool := p i || decide ((i : Int) ∈ os)
theorem addO_nil (p : Nat → Bool) : addO p [] = p := by funext i; simp [addO]
theorem addO_snoc (n : Nat) (p : Nat → Bool) (os : List Int) (x : Nat) (h : x < n) : (rowB n (addO p os)).set x (.bool true) = rowB n (addO p (os ++ [(x : Int)])) := by
  rw [rowB_set _ _ _ h]
  apply rowB_congr
  intro i hi
  by_cases e : i = x
  · subst e; rw [if_pos rfl]; simp [addO]
  · rw [if_neg e]
    unfold addO
    have : ((i : Int) ∈ os ++ [(x : Int)]) ↔ ((i : Int) ∈ os) := by simp; omega
    rw [decide_eq_decide.2 this]
theorem infoB : ∃ i0, Try.prog.info? 4 = some i0 ∧ i0.zero = some (.bool false) ∧ i0.size = 1 ∧ i0.bytes = 1 := ⟨_, rfl, rfl, rfl, rfl⟩
theorem rowB_made (n : Nat) : madeCells #[.bool false] n = (rowB n (fun _ => false)).toArray := by
  apply Array.ext
  · simp [madeCells, rowB]
  · intro i h1 h2
    simp [madeCells] at h1
    simp [madeCells, rowB, Nat.mod_one]
theorem make_bool (n : Nat) (hn : n ≤ 256) (w : World) : (Instr.makeSlice 36 (.int .i64 n) (.int .i64 n)).run Try.prog w = .ok (.slice (some ⟨w.heap.size, 0, none⟩) n n) (w.alloc (.cells (rowB n (fun _ => false)).toArray 4)) := by
  obtain ⟨i0, hi, hz, h1, h2⟩ := infoB
  have := run_make (P := Try.prog) w 36 4 i0 (.bool false) Try.underlying36 hi hz .i64 .i64 (n : Int) (n : Int) (by omega) (by omega) (by rw [h2]; omega) (by omega)
  rw [Int.toNat_natCast, h1, Nat.mul_one] at this
  rw [this]
  show Result.ok _ (w.alloc (.cells (madeCells #[.bool false] n) 4)) = _
  rw [rowB_made]
/-- What stays by the first so many of the three kinds of parts. -/
def stay3 (l : List Int) (k0 k1 k2 : Int) : Nat → Nat → Bool
  | 0, _ => false
  | 1, i => stayB l 1 k0 i
  | 2, i => stayB l 1 k0 i || stayB l 7 k1 i
  | _, i => stayB l 1 k0 i || stayB l 7 k1 i || stayB l 30 k2 i
def daysAt : Nat → Nat
  | 0 => 1
  | 1 => 7
  | _ => 30
def keepAt (k0 k1 k2 : Int) : Nat → Int
  | 0 => k0
  | 1 => k1
  | _ => k2
theorem stay3_next (l : List Int) (k0 k1 k2 : Int) (j : Nat) (h : j < 3) (i : Nat) : stay3 l k0 k1 k2 (j + 1) i = (stay3 l k0 k1 k2 j i || stayB l (daysAt j) (keepAt k0 k1 k2 j) i) := by
  match j, h with
  | 0, _ => rfl
  | 1, _ => rfl
  | 2, _ => rfl
theorem index3a (w : World) : (Instr.index 35 (.agg #[.int .i64 1, .int .i64 7, .int .i64 30]) (.int .i64 0)).run Try.prog w = .ok (.int .i64 1) w := by kernel_rfl
theorem index3b (w : World) : (Instr.index 35 (.agg #[.int .i64 1, .int .i64 7, .int .i64 30]) (.int .i64 1)).run Try.prog w = .ok (.int .i64 7) w := by kernel_rfl
theorem index3c (w : World) : (Instr.index 35 (.agg #[.int .i64 1, .int .i64 7, .int .i64 30]) (.int .i64 2)).run Try.prog w = .ok (.int .i64 30) w := by kernel_rfl
theorem index3 (j : Nat) (h : j < 3) (w : World) : (Instr.index 35 (.agg #[.int .i64 1, .int .i64 7, .int .i64 30]) (.int .i64 (j : Int))).run Try.prog w = .ok (.int .i64 (daysAt j)) w := by
  match j, h with
  | 0, _ => exact index3a w
  | 1, _ => exact index3b w
  | 2, _ => exact index3c w
theorem keep_at (k0 k1 k2 : Int) (j : Nat) (h : j < 3) : ([.int .i64 k0, .int .i64 k1, .int .i64 k2] : List Value)[j]? = some (.int .i64 (keepAt k0 k1 k2 j)) := by
  match j, h with
  | 0, _ => rfl
  | 1, _ => rfl
  | 2, _ => rfl
theorem addO_stay {l : List Int} {k0 k1 k2 : Int} {j : Nat} (hj : j < 3) {os : List Int} (h : ∀ i : Nat, ((i : Int) ∈ os) ↔ stayB l (daysAt j) (keepAt k0 k1 k2 j) i = true) : addO (stay3 l k0 k1 k2 j) os = stay3 l k0 k1 k2 (j + 1) := by
  funext i
  rw [stay3_next l k0 k1 k2 j hj]
  unfold addO
  congr 1
  rw [Bool.eq_iff_iff, decide_eq_true_iff, h i]
set_option maxRecDepth 100000 in
set_option maxHeartbeats 16000000 in
theorem plan_any (l : List Int) (k0 k1 k2 : Int) (a : Option Addr) (cap : Nat) (w : World) (hs : Sl intC 1 w a l) (hg : ∀ x ∈ l, goodI x) (hl : l.length ≤ 40) :
    Calls Try.prog 15 #[.slice a l.length cap, .agg #[.int .i64 k0, .int .i64 k1, .int .i64 k2]] w fun e w' => e = .returned (.slice (some ⟨w.heap.size + 1, 0, none⟩) l.length l.length) ∧ Bk (w.heap.size + 1) (rowB l.length (stay3 l k0 k1 k2 3)) w' ∧ Below w.heap.size w w' := by
  have TY := Lib.hid (fun W (hb : Below w.heap.size w W) D hD hD2 => youngest_any l D a cap W (hs.keep hb) hg hl hD hD2)
  obtain ⟨L, hL⟩ : ∃ L, L = l.length := ⟨_, rfl⟩
  have HL := Lib.hid hL
  rw [← hL] at TY hl ⊢
  clear hs hg hL
  have hmk := make_bool L (by omega)
  have HBX : Hid (Bk w.heap.size [.int .i64 k0, .int .i64 k1, .int .i64 k2] (w.alloc (.cells #[.int .i64 k0, .int .i64 k1, .int .i64 k2] 35))) := Lib.hid (Bk.new w _ #[.int .i64 k0, .int .i64 k1, .int .i64 k2])
  have HB0 := Lib.hid (below_new w (.cells #[.int .i64 k0, .int .i64 k1, .int .i64 k2] 35))
  have HSZ : Hid ((w.alloc (.cells #[.int .i64 k0, .int .i64 k1, .int .i64 k2] 35)).heap.size = w.heap.size + 1) := Lib.hid (by simp)
  have HRW : Hid (Bk (w.heap.size + 1) (rowB L (stay3 l k0 k1 k2 0)) ((w.alloc (.cells #[.int .i64 k0, .int .i64 k1, .int .i64 k2] 35)).alloc (.cells (rowB L (fun _ => false)).toArray 4))) := Lib.hid (by
    have := Bk.new (w.alloc (.cells #[.int .i64 k0, .int .i64 k1, .int .i64 k2] 35)) 4 (rowB L (fun _ => false)).toArray
    rw [HSZ.out] at this
    exact this)
  have HBX2 := Lib.hid (HBX.out.keep (below_new _ (.cells (rowB L (fun _ => false)).toArray 4)))
  have HB2 := Lib.hid (below_cons HB0.out (below_new _ (.cells (rowB L (fun _ => false)).toArray 4)))
  generalize (rowB L (fun _ => false)).toArray = Z at hmk HRW HBX2 HB2
  clear HBX HB0 HSZ
  go_enter Try.func15, Try.ntmps15
  go_wp2
  clear hmk
  go_loopw [14] (fun i wr => ∃ j : Nat, i = .int .i64 j ∧ j ≤ 3 ∧ Bk w.heap.size [.int .i64 k0, .int .i64 k1, .int .i64 k2] wr ∧ Bk (w.heap.size + 1) (rowB L (stay3 l k0 k1 k2 j)) wr ∧ Below w.heap.size w wr) (fun i _ => 3 - (intOf i).toNat)
  case atStart => exact ⟨0, rfl, by omega, HBX2.out, HRW.out, HB2.out⟩
  case round =>
    obtain ⟨j, rfl, hj, hbx, hrw, hbw⟩ := hrel
    clear HBX2 HRW HB2
    have HBX := Lib.hid hbx; have HRW := Lib.hid hrw; have HBW := Lib.hid hbw
    clear hbx hrw hbw
    by_cases hlt : j < 3
    · have g1 : (j : Int) < 3 := by omega
      have g0 : (0 : Int) ≤ (j : Int) := by omega
      have hidx := index3 j hlt
      have hkp := keep_at k0 k1 k2 j hlt
      have HKP := Lib.hid hkp
      have HNEXT := Lib.hid (fun os h => addO_stay (l := l) (k0 := k0) (k1 := k1) (k2 := k2) hlt (os := os) h)
      have hD : 0 < daysAt j ∧ daysAt j ≤ 30 := by
        match j, hlt with
        | 0, _ => exact ⟨by decide, by decide⟩
        | 1, _ => exact ⟨by decide, by decide⟩
        | 2, _ => exact ⟨by decide, by decide⟩
      clear hkp
      obtain ⟨D, hDe⟩ : ∃ D, D = daysAt j := ⟨_, rfl⟩
      obtain ⟨kp, hke⟩ : ∃ kp, kp = keepAt k0 k1 k2 j := ⟨_, rfl⟩
      rw [← hDe] at hidx HNEXT hD
      rw [← hke] at HNEXT HKP
      clear hDe hke
      obtain ⟨hD1, hD2⟩ := hD
      go_wp2
      have hP0 := And.intro HBX.out.drew (And.intro HRW.out.drew HBW.out.drew)
      refine wp_region_held_drew (S := fun w' => Bk w.heap.size [.int .i64 k0, .int .i64 k1, .int .i64 k2] w' ∧ Bk (w.heap.size + 1) (rowB L (stay3 l k0 k1 k2 j)) w' ∧ Below w.heap.size w w') (by kernel_rfl) (by (first | exact hP2 | exact hP1 | exact hP0)) (fun hHeld => ?_)
      refine wpAnyH_take (i := 0) (oi := { dst := some 18, op := Go.Op.move (Go.Operand.tmp 0), type := 34, pos := "retain.go:83", after := #[], guard := none }) (v := ?_) rfl (by kernel_rfl) (by kernel_rfl) (by kernel_rfl) (fun _ _ _ h => h) (Or.inl ⟨by rfl, ?_⟩) (by assumption) ?_
      (rotate_left; focus (intro wS hSw; have s0 := (hSw.1.2 j _ HKP.out).1; clear hSw; go_simp; (try rw [if_neg (by omega)]); try with_reducible rfl))
      (try simp only [Act.put, List.setIfInBounds_toArray, List.set_cons_zero, List.set_cons_succ])
      refine wpAnyH_take (i := 1) (oi := { dst := some 19, op := Go.Op.move (Go.Operand.tmp 7), type := 3, pos := "retain.go:83", after := #[], guard := none }) (v := ?_) rfl (by kernel_rfl) (by kernel_rfl) (by kernel_rfl) (fun _ _ _ h => h) (Or.inl ⟨by rfl, ?_⟩) (by assumption) ?_
      (rotate_left; focus (intro wS hSw; have s0 := (hSw.1.2 j _ HKP.out).1; clear hSw; go_simp; (try rw [if_neg (by omega)]); try with_reducible rfl))
      (try simp only [Act.put, List.setIfInBounds_toArray, List.set_cons_zero, List.set_cons_succ])
      refine wpAnyH_take (i := 3) (oi := { dst := some 21, op := Go.Op.move (Go.Operand.tmp 6), type := 3, pos := "retain.go:83", after := #[], guard := none }) (v := ?_) rfl (by kernel_rfl) (by kernel_rfl) (by kernel_rfl) (fun _ _ _ h => h) (Or.inl ⟨by rfl, ?_⟩) (by assumption) ?_
      (rotate_left; focus (intro wS hSw; have s0 := (hSw.1.2 j _ HKP.out).1; clear hSw; go_simp; (try rw [if_neg (by omega)]); try with_reducible rfl))
      (try simp only [Act.put, List.setIfInBounds_toArray, List.set_cons_zero, List.set_cons_succ])
      refine wpAnyH_take (i := 4) (oi := { dst := some 22, op := Go.Op.indexAddr 35 (Go.Operand.tmp 3) (Go.Operand.tmp 21), type := 0, pos := "retain.go:83", after := #[{ on := 3, ground := Go.Ground.data }], guard := none }) (v := ?_) rfl (by kernel_rfl) (by kernel_rfl) (by kernel_rfl) (fun _ _ _ h => h) (Or.inl ⟨by rfl, ?_⟩) (by assumption) ?_
      (rotate_left; focus (intro wS hSw; have s0 := (hSw.1.2 j _ HKP.out).1; clear hSw; go_simp; (try rw [if_neg (by omega)]); try with_reducible rfl))
      (try simp only [Act.put, List.setIfInBounds_toArray, List.set_cons_zero, List.set_cons_succ])
      refine wpAnyH_take (i := 5) (oi := { dst := some 23, op := Go.Op.load 3 (Go.Operand.tmp 22), type := 3, pos := "retain.go:83", after := #[{ on := 4, ground := Go.Ground.data }], guard := none }) (v := ?_) rfl (by kernel_rfl) (by kernel_rfl) (by kernel_rfl) (fun _ _ _ h => h) (Or.inl ⟨by rfl, ?_⟩) (by assumption) ?_
      (rotate_left; focus (intro wS hSw; have s0 := (hSw.1.2 j _ HKP.out).1; clear hSw; go_simp; (try rw [if_neg (by omega)]); try with_reducible rfl))
      (try simp only [Act.put, List.setIfInBounds_toArray, List.set_cons_zero, List.set_cons_succ])
      refine wpAnyH_take (i := 8) (oi := { dst := some 26, op := Go.Op.move (Go.Operand.const (Go.Value.int Go.IntKind.i64 0)), type := 3, pos := "retain.go:83", after := #[], guard := none }) (v := ?_) rfl (by kernel_rfl) (by kernel_rfl) (by kernel_rfl) (fun _ _ _ h => h) (Or.inl ⟨by rfl, ?_⟩) (by assumption) ?_
      (rotate_left; focus (intro wS hSw; have s0 := (hSw.1.2 j _ HKP.out).1; clear hSw; go_simp; (try rw [if_neg (by omega)]); try with_reducible rfl))
      (try simp only [Act.put, List.setIfInBounds_toArray, List.set_cons_zero, List.set_cons_succ])
      refine wpAnyH_ready (rs := [2]) (by kernel_rfl) (by simp) ?_
      refine AllReadyH.cons (o := { dst := some 20, op := Go.Op.call { callee := Go.Callee.value (Go.Operand.func 29), args := #[Go.Operand.tmp 18, Go.Operand.tmp 19], argTypes := #[34, 3] }, type := 47, pos := "retain.go:83", after := #[{ on := 0, ground := Go.Ground.data }, { on := 1, ground := Go.Ground.data }], guard := none }) rfl (fun K hK => ?_) AllReadyH.nil
      go_simp
      refine (TY.out _ hHeld.2.2 D hD1 hD2).mono ?_
      rintro e v1 ⟨rfl, hyr, hv⟩
      obtain ⟨ks, f, hm1, hy1⟩ := hyr
      have HM1 := Lib.hid hm1; have HY1 := Lib.hid hy1
      have hP1 := And.intro (hHeld.1.keep hv) (And.intro (hHeld.2.1.keep hv) (below_step hHeld.2.2 (Nat.le_refl _) hv))
      clear hv hm1 hy1
      (try go_wp2_with fail)
      refine hK.out _ _ (by (first | exact hP2 | exact hP1 | exact hP0)) (fun hHeld => ?_)
      clear hK K
      (try simp only [Act.put, List.setIfInBounds_toArray, List.set_cons_zero, List.set_cons_succ])
      refine wpAnyH_ready (rs := [6]) (by kernel_rfl) (by simp) ?_
      refine AllReadyH.cons (o := { dst := some 24, op := Go.Op.call { callee := Go.Callee.value (Go.Operand.func 28), args := #[Go.Operand.tmp 20, Go.Operand.tmp 23], argTypes := #[47, 3] }, type := 34, pos := "retain.go:83", after := #[{ on := 2, ground := Go.Ground.data }, { on := 5, ground := Go.Ground.data }, { on := 2, ground := Go.Ground.chain }], guard := none }) rfl (fun K hK => ?_) AllReadyH.nil
      go_simp
      refine (least_any _ ks f kp _ HM1.out (fun x hx => (by obtain ⟨p, i, rfl, _⟩ := (HY1.out.keys x).1 hx; omega)) (by have := HY1.out.few; rw [← HL.out] at this; omega)).mono ?_
      rintro e v2 ⟨hlr, hv⟩
      obtain ⟨os, oa, oc, rfl, hos, hblk, _, hol, hom⟩ := hlr
      have hos3 := hos; have HBLK := Lib.hid hblk; have HOM := Lib.hid hom; have HOL := Lib.hid hol
      have hP2 := And.intro (hHeld.1.keep hv) (And.intro (hHeld.2.1.keep hv) (below_step hHeld.2.2 (Nat.le_refl _) hv))
      clear hv hos hom hol hblk
      (try go_wp2_with fail)
      refine hK.out _ _ (by (first | exact hP2 | exact hP1 | exact hP0)) (fun hHeld => ?_)
      clear hK K
      (try simp only [Act.put, List.setIfInBounds_toArray, List.set_cons_zero, List.set_cons_succ])
      refine wpAnyH_take (i := 7) (oi := { dst := some 25, op := Go.Op.call { callee := Go.Callee.builtin Go.Builtin.len, args := #[Go.Operand.tmp 24], argTypes := #[34] }, type := 3, pos := "retain.go:83", after := #[{ on := 6, ground := Go.Ground.data }], guard := none }) (v := ?_) rfl (by kernel_rfl) (by kernel_rfl) (by kernel_rfl) (fun _ _ _ h => h) (Or.inl ⟨by rfl, ?_⟩) (by assumption) ?_
      (rotate_left; focus (intro wS hSw; have s0 := (hSw.1.2 j _ HKP.out).1; clear hSw; go_simp; (try rw [if_neg (by omega)]); try with_reducible rfl))
      (try simp only [Act.put, List.setIfInBounds_toArray, List.set_cons_zero, List.set_cons_succ])
      refine wpAnyH_done (by kernel_rfl) ?_ _
      all_goals
        obtain ⟨hbx, hrw, hbw⟩ := hHeld
        have HBX3 := Lib.hid hbx; have HRW3 := Lib.hid hrw; have HBW3 := Lib.hid hbw
        have HST : Hid (∀ i : Nat, ((i : Int) ∈ os) ↔ stayB l D kp i = true) := Lib.hid (fun i => out_stay (by exact HY1.out) HM1.out.nodup HOM.out i)
        have HLT : Hid (∀ x ∈ os, ∃ i : Nat, x = (i : Int) ∧ i < l.length) := Lib.hid (out_lt HY1.out HOM.out)
        have HFIN := Lib.hid (HNEXT.out os HST.out)
        have HOS3 := Lib.hid hos3
        obtain ⟨Q, hQ⟩ : ∃ Q, Q = os.length := ⟨_, rfl⟩
        rw [← hQ]
        have HQ := Lib.hid hQ
        have hq40 : Q ≤ 40 := by have := HOL.out; have h2 := HY1.out.few; rw [← HL.out] at h2; omega
        clear hbx hrw hbw hP0 hP1 hP2 hidx HKP hQ hos3
        have HOA : Hid (∀ ad, oa = some ad → w.heap.size + 1 < ad.block) := Lib.hid (fun ad e => by
          have h1 := HBLK.out ad e
          have h2 := HM1.out.lt
          have h3 := HRW.out.1
          simp at h2
          omega)
        have HADD0 : Hid (Bk (w.heap.size + 1) (rowB L (addO (stay3 l k0 k1 k2 j) (os.take 0))) v2) := Lib.hid (by rw [List.take_zero, addO_nil]; exact HRW3.out)
        go_wp2
        go_loopw [26] (fun qi wr2 => ∃ q : Nat, qi = .int .i64 q ∧ q ≤ Q ∧ Bk w.heap.size [.int .i64 k0, .int .i64 k1, .int .i64 k2] wr2 ∧ Bk (w.heap.size + 1) (rowB L (addO (stay3 l k0 k1 k2 j) (os.take q))) wr2 ∧ Sl intC 1 wr2 oa os ∧ Below w.heap.size w wr2) (fun qi _ => Q - (intOf qi).toNat)
        case atStart => exact ⟨0, rfl, by omega, HBX3.out, HADD0.out, HOS3.out, HBW3.out⟩
        case round =>
          obtain ⟨q, rfl, hq, hbx, hrw, hos, hbw⟩ := hrel
          clear HADD0
          have HBX5 := Lib.hid hbx; have HRW5 := Lib.hid hrw; have HOS5 := Lib.hid hos; have HBW5 := Lib.hid hbw
          clear hbx hrw hos hbw
          by_cases hlq : q < Q
          · have hqo : q < os.length := by rw [← HQ.out]; exact hlq
            obtain ⟨b2, o2, rfl, hb2, hc2⟩ := sl_int HOS5.out q hqo
            have hmem : os.getD q 0 ∈ os := by rw [List.getD_eq_getElem?_getD, List.getElem?_eq_getElem hqo]; exact List.getElem_mem hqo
            obtain ⟨i, hi, hil⟩ := HLT.out _ hmem
            rw [hi] at hc2
            have hiL : i < L := by rw [HL.out]; exact hil
            obtain ⟨hr1, hr2⟩ := HRW5.out.2 i _ (rowB_get L _ i hiL)
            have HTK : Hid (os.take (q + 1) = os.take q ++ [(i : Int)]) := Lib.hid (by
              rw [List.take_succ_eq_append_getElem hqo, ← hi, List.getD_eq_getElem?_getD, List.getElem?_eq_getElem hqo]; rfl)
            have HRW6 : Hid (Bk (w.heap.size + 1) (rowB L (addO (stay3 l k0 k1 k2 j) (os.take (q + 1)))) (wr.setCell ⟨w.heap.size + 1, i, none⟩ (.bool true))) := Lib.hid (by
              have := HRW5.out.set i (by rw [rowB_len]; exact hiL) (.bool true)
              rw [addO_snoc L _ _ i hiL] at this
              rw [HTK.out]; exact this)
            have HBX6 : Hid (Bk w.heap.size [.int .i64 k0, .int .i64 k1, .int .i64 k2] (wr.setCell ⟨w.heap.size + 1, i, none⟩ (.bool true))) := Lib.hid (HBX5.out.other (by show w.heap.size + 1 ≠ w.heap.size; omega) _)
            have HOS6 : Hid (Sl intC 1 (wr.setCell ⟨w.heap.size + 1, i, none⟩ (.bool true)) (some ⟨b2, o2, none⟩) os) := Lib.hid (by
              have hne := HOA.out _ rfl
              intro z hz
              obtain ⟨b3, o3, e3, hb3, hc3⟩ := HOS5.out z hz
              obtain ⟨rfl, rfl⟩ : b2 = b3 ∧ o2 = o3 := by simpa using e3
              refine ⟨b2, o2, rfl, by simpa using hb3, fun u v hv => ?_⟩
              refine (World.cell?_setCell_other (w := wr) (a := ⟨w.heap.size + 1, i, none⟩) (v := .bool true) (b := ⟨b2, o2 + z * 1 + u, none⟩) (fun e => ?_)).trans (hc3 u v hv)
              have e2 : w.heap.size + 1 = b2 := congrArg Addr.block e
              have h9 : w.heap.size + 1 < b2 := hne
              omega)
            have HBW6 : Hid (Below w.heap.size w (wr.setCell ⟨w.heap.size + 1, i, none⟩ (.bool true))) := Lib.hid (HBW5.out.setCell (by simp) _)
            have gi : (i : Int) < (L : Int) := by omega
            have gq : (q : Int) < (Q : Int) := by omega
            clear hi hil hmem hb2
            go_wp2
            go_roundw
            case rel => exact ⟨q + 1, by go_num, by omega, HBX6.out, HRW6.out, HOS6.out, HBW6.out⟩
            case measure => simp [intOf]; omega
          · obtain rfl : Q = q := by omega
            have hkk : ¬ (Q : Int) < (Q : Int) := by omega
            have HRW6 : Hid (Bk (w.heap.size + 1) (rowB L (stay3 l k0 k1 k2 (j + 1))) wr) := Lib.hid (by
              have := HRW5.out
              rwa [List.take_of_length_le (by rw [← HQ.out]; exact Nat.le_refl _), HFIN.out] at this)
            go_wp2
            go_roundw
            case rel => exact ⟨j + 1, by go_num, by omega, HBX5.out, HRW6.out, HBW5.out⟩
            case measure => simp [intOf]; omega
    · obtain rfl : j = 3 := by omega
      go_wp2
      go_ret
      exact ⟨rfl, HRW.out, HBW.out⟩
end Go.Proofs.Ytgoddgaamdifmaa

