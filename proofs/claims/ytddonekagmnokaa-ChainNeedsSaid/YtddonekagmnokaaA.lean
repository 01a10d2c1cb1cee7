/-
  Sets of numbers, and a map whose elements are such sets.
-/
import Derived.Test.YtddonekagmnokaaHint
import Derived.Test.YtddonekagmnokaaLoad
import Derived.Test.YtddonekagmnokaaOwn
import Derived.ArgAppend
set_option linter.unusedVariables false
set_option linter.unusedSimpArgs false
namespace Go.Proofs.Ytddonekagmnokaa
open Go.RowKit Go.WideMaps Go.Maps
theorem zB (w : World) : (zeroValue 4).run Try.prog w = .ok (.bool false) w := by kernel_rfl
theorem zM (w : World) : (zeroValue 41).run Try.prog w = .ok (.map none) w := by simp [zeroValue, typeInfo, Try.prog]; rfl
def kB := kindIB 41 3 4 Try.underlying41 Try.underlying3 zB
def kM := kindIM 39 3 41 Try.underlying39 Try.underlying3 zM
/-- Block b is a set of numbers. -/
def St (w : World) (b : Nat) (l : List Int) : Prop := ∃ f, HM kB w b l f ∧ ∀ x, goodI x → f x = decide (x ∈ l)
theorem St.lt {w : World} {b : Nat} {l : List Int} (h : St w b l) : b < w.heap.size := h.choose_spec.1.lt
theorem St.nodup {w : World} {b : Nat} {l : List Int} (h : St w b l) : l.Nodup := h.choose_spec.1.nodup
theorem St.good {w : World} {b : Nat} {l : List Int} (h : St w b l) : ∀ x ∈ l, goodI x := h.choose_spec.1.good
theorem St.kp {S : Nat → Prop} {w w' : World} {b : Nat} {l : List Int} (h : St w b l) (k : Kp S w w') (hn : ¬ S b) : St w' b l := by
  obtain ⟨f, h, hf⟩ := h
  exact ⟨f, h.kp k hn, hf⟩
theorem St.keep {w w' : World} {b : Nat} {l : List Int} (h : St w b l) (k : Below w.heap.size w w') : St w' b l := h.kp (Kp.new (S := fun _ => False) k) (fun h => h)
theorem St.made (w : World) : St (w.alloc (.map #[] 0)) w.heap.size [] := ⟨_, HM.made kB w, fun x _ => by simp [kB, kindIB]⟩
theorem St.get {w : World} {b : Nat} {l : List Int} (h : St w b l) {x : Int} (hx : goodI x) : (Instr.lookup 41 (.map (some b)) (.int .i64 x) false).run Try.prog w = .ok (.bool (decide (x ∈ l))) w := by
  obtain ⟨f, h, hf⟩ := h
  have := h.get hx
  rw [hf x hx] at this
  exact this
theorem St.len {w : World} {b : Nat} {l : List Int} (h : St w b l) (ty : TypeId) : (Builtin.len_ #[41] ty #[.map (some b)]).run Try.prog w = .ok (.int .i64 l.length) w := by
  obtain ⟨f, h, hf⟩ := h
  exact h.len ty
theorem St.put {w : World} {b : Nat} {l : List Int} (h : St w b l) (hn : l.length < maxLen) {x : Int} (hx : goodI x) :
    ∃ w', (Instr.mapUpdate 41 (.map (some b)) (.int .i64 x) (.bool true)).run Try.prog w = .ok () w' ∧ St w' b (addK l x) ∧ Kp (fun k => k = b) w w' ∧ w'.heap.size = w.heap.size := by
  obtain ⟨f, h, hf⟩ := h
  obtain ⟨w', h1, h2, h3, h4⟩ := h.put hn hx true
  refine ⟨w', h1, ⟨_, h2, fun y hy => ?_⟩, h3, h4⟩
  by_cases e : y = x
  · subst e; rw [sef_same]; exact (decide_eq_true ((mem_addK _ _ _).2 (Or.inr rfl))).symm
  · rw [sef_other _ _ e, hf y hy]; exact decide_eq_decide.2 (by rw [mem_addK]; simp [e])
theorem St.del {w : World} {b : Nat} {l : List Int} (h : St w b l) {x : Int} (hx : goodI x) (ty : TypeId) :
    ∃ w', (Builtin.delete_ #[41, 3] ty #[.map (some b), .int .i64 x]).run Try.prog w = .ok (.tuple #[]) w' ∧ St w' b (delK l x) ∧ Kp (fun k => k = b) w w' ∧ w'.heap.size = w.heap.size := by
  have hnd := h.nodup
  obtain ⟨f, h, hf⟩ := h
  obtain ⟨w', h1, h2, h3, h4⟩ := h.del hx ty
  refine ⟨w', h1, ⟨_, h2, fun y hy => ?_⟩, h3, h4⟩
  by_cases e : y = x
  · subst e; rw [sef_same]; exact (decide_eq_false (fun h => ((mem_delK hnd _ _).1 h).1 rfl)).symm
  · rw [sef_other _ _ e, hf y hy]; exact decide_eq_decide.2 (by rw [mem_delK hnd]; simp [e])
/-- Block B is a map whose elements are sets: what each key needs. g tells where each set lies. -/
structure MM (w : World) (lo B : Nat) (ks : List Int) (g : Int → Option Nat) (S : Int → Int → Prop) : Prop where
  base : lo ≤ B
  hm : HM kM w B ks g
  inner : ∀ k ∈ ks, ∃ b l, g k = some b ∧ lo ≤ b ∧ b ≠ B ∧ St w b l ∧ ∀ x, x ∈ l ↔ S k x
  inj : ∀ k ∈ ks, ∀ k' ∈ ks, g k = g k' → k = k'
variable {w w' : World} {lo B : Nat} {ks : List Int} {g : Int → Option Nat} {S S' : Int → Int → Prop}
theorem MM.congr (h : MM w lo B ks g S) (hS : ∀ k ∈ ks, ∀ x, S k x ↔ S' k x) : MM w lo B ks g S' :=
  ⟨h.base, h.hm, fun k hk => by
    obtain ⟨b, l, h1, h2, h3, h4, h5⟩ := h.inner k hk
    exact ⟨b, l, h1, h2, h3, h4, fun x => (h5 x).trans (hS k hk x)⟩, h.inj⟩
theorem MM.kp {T : Nat → Prop} (h : MM w lo B ks g S) (k : Kp T w w') (hn : ∀ i, T i → i < lo) : MM w' lo B ks g S :=
  ⟨h.base, h.hm.kp k (fun e => by have := hn _ e; have := h.base; omega), fun j hj => by
    obtain ⟨b, l, h1, h2, h3, h4, h5⟩ := h.inner j hj
    exact ⟨b, l, h1, h2, h3, h4.kp k (fun e => by have := hn _ e; omega), h5⟩, h.inj⟩
/-- Blocks are turned that are neither the map's nor a set's. -/
theorem MM.kp2 {T : Nat → Prop} (h : MM w lo B ks g S) (k : Kp T w w') (hB : ¬ T B) (hn : ∀ j ∈ ks, ∀ b, g j = some b → ¬ T b) : MM w' lo B ks g S :=
  ⟨h.base, h.hm.kp k hB, fun j hj => by
    obtain ⟨b, l, h1, h2, h3, h4, h5⟩ := h.inner j hj
    exact ⟨b, l, h1, h2, h3, h4.kp k (hn j hj b h1), h5⟩, h.inj⟩
theorem MM.keep (h : MM w lo B ks g S) (k : Below w.heap.size w w') : MM w' lo B ks g S := h.kp2 (Kp.new (S := fun _ => False) k) (fun e => e) (fun _ _ _ _ e => e)
theorem MM.look (h : MM w lo B ks g S) {x : Int} (hx : goodI x) : (Instr.lookup 39 (.map (some B)) (.int .i64 x) false).run Try.prog w = .ok (.map (g x)) w := h.hm.get hx
theorem MM.none (h : MM w lo B ks g S) {x : Int} (hx : goodI x) (hn : x ∉ ks) : g x = none := h.hm.none hx hn
/-- A set is put in. -/
theorem MM.fresh (h : MM w lo B ks g S) (hlo : lo ≤ w.heap.size) (hl : ks.length < maxLen) {x : Int} (hx : goodI x) (hn : x ∉ ks) (hS : ∀ y, ¬ S' x y) (hS' : ∀ k ∈ ks, ∀ y, S k y ↔ S' k y) :
    ∃ w', (Instr.mapUpdate 39 (.map (some B)) (.int .i64 x) (.map (some w.heap.size))).run Try.prog (w.alloc (.map #[] 0)) = .ok () w' ∧ MM w' lo B (addK ks x) (sef g x (some w.heap.size)) S' ∧ Kp (fun k => k = B) w w' := by
  have hBl := h.hm.lt
  have h1 : HM kM (w.alloc (.map #[] 0)) B ks g := h.hm.keep (below_new w _)
  obtain ⟨w', hu, hm, hk, hz⟩ := h1.put hl hx (some w.heap.size)
  have hK : Kp (fun k => k = B) w w' := (Kp.alloc (Kp.refl _ w) _).trans hk
  have hne : ∀ k ∈ ks, k ≠ x := fun k hk e => hn (e ▸ hk)
  have hlt : ∀ k ∈ ks, ∀ b, g k = some b → b < w.heap.size := fun k hk b e => by
    obtain ⟨b', l, e1, _, _, h4, _⟩ := h.inner k hk
    rw [e] at e1
    obtain rfl : b = b' := by simpa using e1
    exact h4.lt
  refine ⟨w', hu, ⟨h.base, hm, fun k hk2 => ?_, fun k hk2 k' hk3 e => ?_⟩, hK⟩
  · rcases (mem_addK _ _ _).1 hk2 with h2 | rfl
    · obtain ⟨b, l, e1, e2, e3, e4, e5⟩ := h.inner k h2
      exact ⟨b, l, by rw [sef_other _ _ (hne k h2)]; exact e1, e2, e3, e4.kp hK (fun e => e3 e), fun y => (e5 y).trans (hS' k h2 y)⟩
    · exact ⟨w.heap.size, [], sef_same _ _ _, hlo, by omega, (St.made w).kp hk (fun e => by omega), fun y => ⟨fun h => by simp at h, fun h => absurd h (hS y)⟩⟩
  · rcases (mem_addK _ _ _).1 hk2 with h2 | rfl
    · rcases (mem_addK _ _ _).1 hk3 with h3 | rfl
      · rw [sef_other _ _ (hne k h2), sef_other _ _ (hne k' h3)] at e
        exact h.inj k h2 k' h3 e
      · rw [sef_other _ _ (hne k h2), sef_same] at e
        exact absurd (hlt k h2 _ e) (Nat.lt_irrefl _)
    · rcases (mem_addK _ _ _).1 hk3 with h3 | rfl
      · rw [sef_other _ _ (hne k' h3), sef_same] at e
        exact absurd (hlt k' h3 _ e.symm) (Nat.lt_irrefl _)
      · rfl
/-- One set is turned. -/
theorem MM.turn (h : MM w lo B ks g S) {k : Int} (hk : k ∈ ks) {b : Nat} (hg : g k = some b) {l' : List Int} (hs : St w' b l') (hkp : Kp (fun i => i = b) w w') (hl : ∀ x, x ∈ l' ↔ S' k x) (hS : ∀ j ∈ ks, j ≠ k → ∀ x, S j x ↔ S' j x) : MM w' lo B ks g S' := by
  obtain ⟨b0, l0, e1, e2, e3, e4, e5⟩ := h.inner k hk
  rw [hg] at e1
  obtain rfl : b = b0 := by simpa using e1
  refine ⟨h.base, h.hm.kp hkp (fun e => e3 e.symm), fun j hj => ?_, h.inj⟩
  by_cases e : j = k
  · subst e
    exact ⟨b, l', hg, e2, e3, hs, hl⟩
  · obtain ⟨b2, l2, f1, f2, f3, f4, f5⟩ := h.inner j hj
    exact ⟨b2, l2, f1, f2, f3, f4.kp hkp (fun eb => e (h.inj j hj k hk (by rw [f1, hg, eb]))), fun x => (f5 x).trans (hS j hj e x)⟩
/-- A row of numbers of the call's own, of which the first ones may be gone. -/
def Qu (w : World) (B : Nat) (v : Value) (l : List Int) : Prop :=
  ∃ g off cap, v = .slice (some ⟨g, off, none⟩) l.length cap ∧ B ≤ g ∧ g < w.heap.size ∧ l.length ≤ cap ∧ cap ≤ maxLen ∧ (∀ j, j < cap → (w.cell? ⟨g, off + j, none⟩).isSome = true ∧ w.frozen? ⟨g, off + j, none⟩ = false) ∧ ∀ j (hj : j < l.length), w.cell? ⟨g, off + j, none⟩ = some (.int .i64 l[j])
theorem Qu.kp {T : Nat → Prop} {v : Value} {l : List Int} (h : Qu w B v l) (k : Kp T w w') (hn : ∀ i, v.ownBlock = some i → ¬ T i) : Qu w' B v l := by
  obtain ⟨g, off, cap, rfl, h1, h2, h3, h4, h5, h6⟩ := h
  have hg : ¬ T g := hn g rfl
  exact ⟨g, off, cap, rfl, h1, Nat.lt_of_lt_of_le h2 k.size, h3, h4, fun j hj => by rw [k.cell (p := ⟨g, off + j, none⟩) h2 hg, k.frozen (p := ⟨g, off + j, none⟩) h2 hg]; exact h5 j hj, fun j hj => by rw [k.cell (p := ⟨g, off + j, none⟩) h2 hg]; exact h6 j hj⟩
theorem Qu.made (w : World) (x : Int) (hB : B ≤ w.heap.size) : Qu (w.alloc (.cells #[.int .i64 x] 3)) B (.slice (some ⟨w.heap.size, 0, none⟩) 1 1) [x] := by
  refine ⟨_, 0, 1, rfl, hB, by simp, Nat.le_refl _, by decide, fun j hj => ?_, fun j hj => ?_⟩
  · obtain rfl : j = 0 := by omega
    rw [cell_new, frozen_new]; exact ⟨rfl, rfl⟩
  · obtain rfl : j = 0 := by simpa using hj
    rw [cell_new]; rfl
theorem Qu.tail {x : Int} {l : List Int} {n cap off g : Nat} (h : Qu w B (.slice (some ⟨g, off, none⟩) n cap) (x :: l)) : Qu w B (.slice (some ⟨g, off + 1, none⟩) l.length (cap - 1)) l := by
  obtain ⟨g, off, cap, e, h1, h2, h3, h4, h5, h6⟩ := h
  simp only [Value.slice.injEq, Option.some.injEq, Addr.mk.injEq, and_true] at e
  obtain ⟨⟨rfl, rfl⟩, _, rfl⟩ := e
  simp only [List.length_cons] at h3
  refine ⟨_, _, _, rfl, h1, h2, by omega, by omega, fun j hj => ?_, fun j hj => ?_⟩
  · have := h5 (j + 1) (by omega)
    rwa [show (off : Nat) + 1 + j = off + (j + 1) by omega]
  · have := h6 (j + 1) (by simpa using hj)
    rw [show (off : Nat) + 1 + j = off + (j + 1) by omega]
    exact this
theorem run_append_qu {v : Value} {l : List Int} (h : Qu w B v l) (hB : B ≤ w.heap.size) (ad : Addr) (c : Nat) (x : Int) (hx : w.cell? (ad.add 0) = some (.int .i64 x)) (h63 : l.length + 1 ≤ 100000) (ty : TypeId) :
    ∃ v' w', (Builtin.append_ #[33, 33] ty #[v, .slice (some ad) 1 c]).run Try.prog w = .ok v' w' ∧ Qu w' B v' (l ++ [x]) ∧ Kp (fun i => v.ownBlock = some i) w w' ∧ ∀ i, v'.ownBlock = some i → v.ownBlock = some i ∨ w.heap.size ≤ i := by
  obtain ⟨g, off, cap, rfl, h1, h2, h3, h4, h5, h6⟩ := h
  have hnews : ∀ j u, ([.int .i64 x] : List Value)[j]? = some u → w.cell? (ad.add j) = some u := fun j u hu => by
    match j, hu with
    | 0, hu => rw [hx]; simpa using hu
    | j + 1, hu => simp at hu
  by_cases hr : l.length + 1 ≤ cap
  · obtain ⟨inf, hinf, hsz⟩ : ∃ i, Try.prog.info? 3 = some i ∧ i.size = 1 := ⟨_, rfl, rfl⟩
    have hrun := run_append_room_cells (P := Try.prog) w 33 ty 3 inf Try.underlying33 hinf g off l.length cap ad 1 c [.int .i64 x] (by rw [hsz]; rfl) hnews (by simp [Value.oneCell']) hr
      (fun j hj => by
        obtain rfl : j = 0 := by simpa using hj
        have := (h5 l.length (by omega)).1
        simpa [hsz] using this) (fun j hj => by
        obtain rfl : j = 0 := by simpa using hj
        have := (h5 l.length (by omega)).2
        simpa [hsz] using this)
    rw [hsz] at hrun
    refine ⟨_, _, hrun, ⟨g, off, cap, by rw [List.length_append]; rfl, h1, ?_, by rw [List.length_append]; exact hr, h4, fun j hj => ?_, fun j hj => ?_⟩, ?_, fun i hi => Or.inl hi⟩
    · show g < (w.setCell _ _).heap.size
      simpa using h2
    · rw [World.frozen?_setCells]
      refine ⟨?_, (h5 j hj).2⟩
      by_cases e : j = l.length
      · subst e
        have := World.cell?_setCells_in g [.int .i64 x] (off + l.length * 1) w (fun i hi => by
          obtain rfl : i = 0 := by simpa using hi
          have := (h5 l.length (by omega)).1
          simpa using this) 0 (by simp)
        simp only [Nat.mul_one, Nat.add_zero] at this
        show ((w.setCells g (off + l.length * 1) [.int .i64 x]).cell? _).isSome = true
        simp only [Nat.mul_one]
        rw [this]; rfl
      · show ((w.setCells g (off + l.length * 1) [.int .i64 x]).cell? _).isSome = true
        rw [World.cell?_setCells_out g _ _ _ _ (fun _ _ => by simp; omega)]
        exact (h5 j hj).1
    · rw [List.length_append] at hj
      simp only [List.length_cons, List.length_nil] at hj
      show (w.setCells g (off + l.length * 1) [.int .i64 x]).cell? _ = _
      by_cases e : j = l.length
      · subst e
        have := World.cell?_setCells_in g [.int .i64 x] (off + l.length * 1) w (fun i hi => by
          obtain rfl : i = 0 := by simpa using hi
          have := (h5 l.length (by omega)).1
          simpa using this) 0 (by simp)
        simp only [Nat.mul_one, Nat.add_zero] at this ⊢
        rw [this]; simp
      · rw [World.cell?_setCells_out g _ _ _ _ (fun _ _ => by simp; omega), List.getElem_append_left (by omega)]
        exact h6 j (by omega)
    · exact Kp.setCell (S := fun i => (Value.slice (some ⟨g, off, none⟩) l.length cap).ownBlock = some i) (p := ⟨g, off + l.length * 1, none⟩) (Kp.refl _ w) rfl (.int .i64 x)
  · obtain ⟨v', w', hrun, r1, r2⟩ := run_append_arg_grows (P := Try.prog) w 33 ty 3 _ (.int .i64 0) 1 8 Try.underlying33 rfl rfl rfl rfl rfl (by decide) ⟨g, off, none⟩ l.length cap (l.map (.int .i64)) (by simp)
      (fun j u hu => by
        rw [Addr.add_lit]
        rw [List.getElem?_map] at hu
        obtain ⟨y, hy, rfl⟩ := Option.map_eq_some_iff.1 hu
        have hj := (List.getElem?_eq_some_iff.1 hy).1
        rw [h6 j hj]
        rw [List.getElem?_eq_getElem hj] at hy
        simp at hy; rw [hy]) ad 1 c [.int .i64 x] rfl hnews (by omega) (by simp only [maxLen]; omega) (by omega)
    obtain ⟨q1, ⟨_, q2⟩ | ⟨g', cap', cur, rfl, q3, q4, q5, q6, q7, q8⟩⟩ := r1
    · omega
    · refine ⟨_, w', hrun, ⟨g', 0, cap', by rw [List.length_append]; rfl, by omega, (Array.getElem?_eq_some_iff.1 q4).1, by rw [List.length_append]; exact q5, q6, fun j hj => ?_, fun j hj => ?_⟩, Kp.grown r2 (fun k e => by cases e), fun i hi => Or.inr (by simp [Value.ownBlock] at hi; omega)⟩
      · rw [Nat.zero_add, cell_of_row w' g' j cur _ (0, 0) q4]
        refine ⟨by simp [show j < cur.size by omega], ?_⟩
        simp [World.frozen?, q4]
      · rw [Nat.zero_add, cell_of_row w' g' j cur _ (0, 0) q4]
        rw [List.length_append] at hj
        simp only [List.length_cons, List.length_nil] at hj
        have h9 : (cur.toList.take ((l.length + 1) * 1))[j]? = (l.map (Value.int .i64) ++ [.int .i64 x])[j]? := by rw [q8]
        rw [List.getElem?_take, if_pos (by omega)] at h9
        rw [← Array.getElem?_toList, h9]
        rw [show (l.map (Value.int .i64) ++ [Value.int .i64 x]) = (l ++ [x]).map (Value.int .i64) by simp, List.getElem?_map, List.getElem?_eq_getElem (by simp; omega)]
        rfl
end Go.Proofs.Ytddonekagmnokaa

