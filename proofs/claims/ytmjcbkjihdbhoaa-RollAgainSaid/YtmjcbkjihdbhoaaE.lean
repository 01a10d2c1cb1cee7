/-
  The contract of roll.Cut.
-/
import Derived.Test.YtmjcbkjihdbhoaaD
set_option linter.unusedVariables false
set_option linter.unusedSimpArgs false
namespace Go.Proofs.Ytmjcbkjihdbhoaa
open Go.RowKit Go.Shelf
attribute [local go_sem] Oper.semAt_some
def boxes (w : World) (s : ByteArray) (lo hi : Nat) (m : Int) : World := (((w.alloc (.cells #[.string s] 9)).alloc (.cells #[.int .i64 lo] 3)).alloc (.cells #[.int .i64 hi] 3)).alloc (.cells #[.int .u32 m] 22)
theorem chunks_any (s : ByteArray) (lo hi : Nat) (m : Int) (w : World) : Calls Try.prog 11 #[.string s, .int .i64 lo, .int .i64 hi, .int .u32 m] w fun e w' =>
    e = .returned (.func (.func 12) #[] #[.pointer (some ⟨w.heap.size, 0, none⟩), .pointer (some ⟨w.heap.size + 2, 0, none⟩), .pointer (some ⟨w.heap.size + 1, 0, none⟩), .pointer (some ⟨w.heap.size + 3, 0, none⟩)]) ∧ w' = boxes w s lo hi m := by
  go_enter Try.func11, Try.ntmps11
  go_wp2
  go_ret
  exact ⟨rfl, rfl⟩
theorem boxes_at (w : World) (s : ByteArray) (lo hi : Nat) (m : Int) : Boxed (boxes w s lo hi m) w.heap.size 9 (.string s) ∧ Boxed (boxes w s lo hi m) (w.heap.size + 1) 3 (.int .i64 lo) ∧ Boxed (boxes w s lo hi m) (w.heap.size + 2) 3 (.int .i64 hi) ∧ Boxed (boxes w s lo hi m) (w.heap.size + 3) 22 (.int .u32 m) ∧
    (boxes w s lo hi m).heap.size = w.heap.size + 4 ∧ Below w.heap.size w (boxes w s lo hi m) := by
  unfold boxes
  have b0 := Boxed.new w 9 (.string s)
  have b1 := Boxed.new (w.alloc (.cells #[.string s] 9)) 3 (.int .i64 lo)
  have b2 := Boxed.new ((w.alloc (.cells #[.string s] 9)).alloc (.cells #[.int .i64 lo] 3)) 3 (.int .i64 hi)
  have b3 := Boxed.new (((w.alloc (.cells #[.string s] 9)).alloc (.cells #[.int .i64 lo] 3)).alloc (.cells #[.int .i64 hi] 3)) 22 (.int .u32 m)
  simp only [World.size_alloc] at b1 b2 b3
  exact ⟨((b0.alloc _).alloc _).alloc _, (b1.alloc _).alloc _, b2.alloc _, b3, by simp only [World.size_alloc], (((below_new _ _).alloc (by simp) _).alloc (by simp; omega) _).alloc (by simp; omega) _⟩
theorem cut_bad (s : ByteArray) (a b m : Int) (w : World) (h : a < 1 ∨ b < a ∨ 4096 < b) : Calls Try.prog 6 #[.string s, .int .i64 a, .int .i64 b, .int .u32 m] w fun e w' => e = .returned (.tuple #[.slice none 0 0, .int .i64 1]) ∧ w' = w := by
  by_cases h1 : a < 1
  · go_enter Try.func6, Try.ntmps6
    go_wp2
    go_ret2
    exact ⟨rfl, rfl⟩
  · by_cases h2 : b < a
    · go_enter Try.func6, Try.ntmps6
      go_wp2
      go_ret2
      exact ⟨rfl, rfl⟩
    · have h3 : 4096 < b := by omega
      go_enter Try.func6, Try.ntmps6
      go_wp2
      go_ret2
      exact ⟨rfl, rfl⟩
theorem cut_long (s : ByteArray) (a b m : Int) (w : World) (h : ¬ (a < 1 ∨ b < a ∨ 4096 < b)) (hs : 32768 < s.size) : Calls Try.prog 6 #[.string s, .int .i64 a, .int .i64 b, .int .u32 m] w fun e w' => e = .returned (.tuple #[.slice none 0 0, .int .i64 3]) ∧ w' = w := by
  have h1 : ¬ a < 1 := by omega
  have h2 : ¬ b < a := by omega
  have h3 : ¬ 4096 < b := by omega
  have h4 : (32768 : Int) < (s.size : Int) := by omega
  go_enter Try.func6, Try.ntmps6
  go_wp2
  go_ret2
  exact ⟨rfl, rfl⟩
theorem infoStr : (Try.prog.info? 9).map (fun i => (i.zero, i.size, i.bytes)) = some (some (.string ByteArray.empty), 1, 16) := by kernel_rfl
/-- What the loop of Cut keeps. -/
def CutI (w : World) (pre : List ByteArray) (W : World) : Prop :=
  (∃ v, Boxed W w.heap.size 26 v ∧ W.ownsRow (w.heap.size + 5) 9 1 v pre.length (pre.flatMap strC)) ∧ Below w.heap.size w W ∧ w.heap.size + 5 ≤ W.heap.size
theorem CutI.keep {w A A' : World} {pre : List ByteArray} (h : CutI w pre A) (k : Below A.heap.size A A') : CutI w pre A' := by
  obtain ⟨⟨v, h1, h2⟩, h3, h4⟩ := h
  exact ⟨⟨v, (k.block _ h1.lt).trans h1, own_kept h2 k⟩, below_cons h3 k, Nat.le_trans h4 k.size⟩
theorem CutI.set {w A : World} {pre : List ByteArray} (h : CutI w pre A) (v : Value) : CutI w pre (A.setCell ⟨w.heap.size + 1, 0, none⟩ v) := by
  obtain ⟨⟨u, h1, h2⟩, h3, h4⟩ := h
  have hk : Kp (fun j => j = w.heap.size + 1) A (A.setCell ⟨w.heap.size + 1, 0, none⟩ v) := (Kp.refl (fun j => j = w.heap.size + 1) A).set (w.heap.size + 1) 0 v rfl
  exact ⟨⟨u, box_other h1 _ (by omega) v, own_kp2 h2 hk (fun g hg e => by have := (h2.lt g hg).1; omega)⟩, h3.trans (hk.below h3.size (fun j hj => by omega)), by simpa using h4⟩
theorem CutI.put {w A : World} {pre : List ByteArray} {r : Nat} {o : Obj} (o' : Obj) (h : CutI w pre A) (hr : w.heap.size + 5 ≤ r) (hl : A.heap[r]? = some o) (ho : o.isCells = false) : CutI w pre (A.putObj r o') := by
  obtain ⟨⟨u, h1, h2⟩, h3, h4⟩ := h
  exact ⟨⟨u, (World.putObj_heap_other (by omega)).trans h1, ownsRow_putObj h2 o' hl ho⟩, h3.trans ((Below.refl _ A).grown (grownBy_putObj' A r o') h3.size (fun k e => by cases e; omega)), by simpa using h4⟩
set_option maxRecDepth 100000 in
set_option maxHeartbeats 4000000 in
theorem cut_any2 (s : ByteArray) (lo hi : Nat) (m : Int) (w : World) (hlo : 1 ≤ lo) (hlh : lo ≤ hi) (hhi : hi ≤ 4096) (hs : s.size ≤ 32768) :
    Calls Try.prog 6 #[.string s, .int .i64 lo, .int .i64 hi, .int .u32 m] w fun e w' => ∃ a c, e = .returned (.tuple #[.slice a (cuts lo hi m s).length c, .int .i64 0]) ∧ (cuts lo hi m s).length ≤ c ∧ Sl strC 1 w' a (cuts lo hi m s) ∧ Below w.heap.size w w' := by
  obtain ⟨i0, hi0, hz0, hz1, hz2⟩ := info_parts infoStr
  have g1 : ¬ (lo : Int) < 1 := by omega
  have g2 : ¬ (hi : Int) < (lo : Int) := by omega
  have g3 : ¬ (4096 : Int) < (hi : Int) := by omega
  have g4 : ¬ (32768 : Int) < (s.size : Int) := by omega
  have HC := Lib.hid (fun W => chunks_any s lo hi m W)
  have hb0 := below_new w (.cells #[.slice none 0 0] 26)
  have hO := Boxed.new w 26 (.slice none 0 0)
  obtain ⟨p0, p1, p2, p3, p4, p5⟩ := boxes_at (w.alloc (.cells #[.slice none 0 0] 26)) s lo hi m
  have HQ := Lib.hid (chunks_seq (w.heap.size + 1) s lo hi m _ hlo hlh hhi (by omega) (by simpa only [World.size_alloc] using p0) (by simpa only [World.size_alloc] using p1) (by simpa only [World.size_alloc] using p2) (by simpa only [World.size_alloc] using p3))
  have hI0 : CutI w [] (boxes (w.alloc (.cells #[.slice none 0 0] 26)) s lo hi m) := ⟨⟨.slice none 0 0, (p5.block _ hO.lt).trans hO, own_nil _ _ _ _⟩, below_step hb0 (Nat.le_refl _) p5, by rw [p4]; simp⟩
  have HI0 := Lib.hid hI0
  have HSZ : Hid ((boxes (w.alloc (.cells #[.slice none 0 0] 26)) s lo hi m).heap.size = w.heap.size + 5) := Lib.hid (by rw [p4]; simp)
  have HL := Lib.hid (cuts_len (m := m) hlo hlh s.size s (Nat.le_refl _))
  clear p0 p1 p2 p3 p4 p5 hb0 hO hI0
  refine (callsIn_wide (n := 3)).1 ?_
  refine callsIn_of_wp_marks Try.func6 rfl trivial ?_ rfl
  simp only [Try.ntmps6, List.size_toArray, List.length_cons, List.length_nil, Nat.reduceAdd, Nat.reduceSub, Array.replicate_succ, Array.replicate_zero, List.push_toArray, List.append_toArray, List.nil_append, List.cons_append]
  gi_wp2
  refine ⟨trivial, (callsIn_wide.2 (HC.out _)).mono ?_⟩
  rintro e w' ⟨rfl, rfl⟩
  generalize boxes (w.alloc (.cells #[.slice none 0 0] 26)) s lo hi m = WB at *
  clear g1 g2 g3 g4 HC
  gi_wp2
  refine range_own (gf := 12) (lb := #[.pointer (some ⟨w.heap.size + 1, 0, none⟩), .pointer (some ⟨w.heap.size + 1 + 2, 0, none⟩), .pointer (some ⟨w.heap.size + 1 + 1, 0, none⟩), .pointer (some ⟨w.heap.size + 1 + 3, 0, none⟩)]) (b := w.heap.size + 1) (m := 4) (xs := cuts lo hi m s) (enc := Value.string) rfl (enters_of Try.func12 (by kernel_rfl) rfl) HQ.out
    (by rw [HSZ.out]; omega) (by omega) (CutI w) (fun _ _ _ h k => h.keep k) (fun _ _ v h => h.set v) (fun _ _ _ _ o' h hr hl ho => h.put o' (by rw [HSZ.out] at hr; omega) hl ho) HI0.out
    (fun x => { tmps := #[.string s, .int .i64 lo, .int .i64 hi, .int .u32 m, undef, undef, undef, undef, .slice none 0 0, .int .i64 0, .pointer (some ⟨w.heap.size, 0, none⟩), .string x, .bool false, .int .i64 lo, .bool false, .bool false, .int .i64 lo, .int .i64 hi, .bool false, .bool false, .bool false, .int .i64 hi, .bool false, .bool false, .bool false, .string s, .int .i64 s.size, .bool false, .string s, .int .i64 lo, .int .i64 hi, .int .u32 m,
      .func (.func 12) #[] #[.pointer (some ⟨w.heap.size + 1, 0, none⟩), .pointer (some ⟨w.heap.size + 1 + 2, 0, none⟩), .pointer (some ⟨w.heap.size + 1 + 1, 0, none⟩), .pointer (some ⟨w.heap.size + 1 + 3, 0, none⟩)], .string x, undef, undef, undef, undef, undef], defers := [] }) ?assign ?body ?done
  case assign =>
    intro l x W K hK
    gi_wp2
    exact hK
  case body =>
    rintro l pre x W ⟨⟨v, hv, hrow⟩, hB, hsz⟩ hpre
    have hpl : pre.length < 100000 := by
      have := hpre.length_le
      have := HL.out
      simp at *
      omega
    have hc := hv.cell
    gi_wp2_with (gi_at_builtin; refine wpListIn_append_own _ rfl _ _ 26 rfl (w.heap.size + 5) 9 i0 (.string ByteArray.empty) 1 16 Try.underlying26 hi0 hz0 hz1 hz2 rfl (by decide) _ _ _ rfl (hrow.alloc _) ⟨W.heap.size, 0, none⟩ 1 1 [.string x] rfl rfl (cell_one_new _ _ _) (by simp [Value.oneCell']) (by unfold maxLen; omega) (by omega) (by simp; omega) ?_)
    intro v' w1 hown' hgrow _
    have hne : some w.heap.size ≠ v.ownBlock := fun e => by have := (hrow.lt _ e.symm).1; omega
    have hv1 : Boxed w1 w.heap.size 26 v := (hv.alloc _).kept hgrow hne
    obtain ⟨_, k2, k3, k4, k5⟩ := hv.appended (n₀ := w.heap.size) (by decide) (own_base hrow (by omega)) hB.size (Nat.le_refl _) (own_base hown' (by omega)) hgrow
    have k6 : KpB (w.heap.size + 1) 4 W (w1.setCell ⟨w.heap.size, 0, none⟩ v') := fun k hk1 hk2 => by
      refine (Below.heap_setCell w1 ⟨w.heap.size, 0, none⟩ v' k (by show k ≠ w.heap.size; omega)).trans ?_
      refine (hgrow.block k (by simp; omega) (fun e => by have := (hrow.lt _ e.symm).1; omega)).trans ?_
      exact Below.heap_alloc _ _ _ (by omega)
    have k7 := hown'.kept (grownBy_setCell' w1 w.heap.size v') (.inr (fun e => by have := (hown'.lt _ e).1; omega))
    obtain ⟨g', cap', rfl⟩ := ownsRow_succ hown'
    have hc1 := hv1.cell; have hf1 := hv1.frozen
    have K4 := Lib.hid k4; have K6 := Lib.hid k6; have K7 := Lib.hid k7; have K2 := Lib.hid k2; have K5 := Lib.hid (hB.trans k5); have KS := Lib.hid (Nat.le_trans hsz k5.size)
    clear k2 k3 k4 k5 k6 k7 hc hown' hgrow hne hv1
    gi_wp2
    exact ⟨K4.out.from _, K6.out, ⟨⟨_, K2.out, by simpa [List.flatMap_append, strC] using K7.out⟩, K5.out, KS.out⟩⟩
  case done =>
    rintro D W hD ⟨⟨v, hv, hrow⟩, hB, hsz⟩ hK
    have hc := hv.cell
    gi_wp2
    refine ⟨by simp, .inl ⟨_, _, rfl, run_takeDeferred hK, ?_⟩⟩
    obtain ⟨a, cap, rfl, hcp, hsl⟩ := own_sl (enc := strC) (size := 1) (fun _ => rfl) (by decide) (ownsRow_putObj hrow (.deferred none) hK rfl)
    exact ⟨_, results_tmp2 rfl _ _ _, a, cap, rfl, hcp, hsl, hB.trans ((Below.refl _ W).grown (grownBy_putObj' W D _) hB.size (fun k e => by cases e; rw [HSZ.out] at hD; omega))⟩
theorem cut_any (s : ByteArray) (lo hi : Nat) (m : Int) (w : World) (hlo : 1 ≤ lo) (hlh : lo ≤ hi) (hhi : hi ≤ 4096) (hs : s.size ≤ 32768) :
    Calls Try.prog 6 #[.string s, .int .i64 lo, .int .i64 hi, .int .u32 m] w fun e w' => ∃ a c, e = .returned (.tuple #[.slice a (cuts lo hi m s).length c, .int .i64 0]) ∧ Sl strC 1 w' a (cuts lo hi m s) ∧ Below w.heap.size w w' := by
  refine (cut_any2 s lo hi m w hlo hlh hhi hs).mono ?_
  rintro e w' ⟨a, c, h1, _, h2, h3⟩
  exact ⟨a, c, h1, h2, h3⟩
end Go.Proofs.Ytmjcbkjihdbhoaa

