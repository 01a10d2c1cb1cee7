/-
  What Needs keeps: the map of sets, what is seen, and what is to do.
-/
import Derived.Test.YtddonekagmnokaaH
import Derived.Laws.IdiomRangeMap
set_option linter.unusedVariables false
set_option linter.unusedSimpArgs false
namespace Go.Proofs.Ytddonekagmnokaa
open Go.RowKit
/-- What a place needs, and what these need. -/
inductive Rch (E : List (Int × Int)) (i : Int) : Int → Prop
  | one {k : Int} (h : (i, k) ∈ E) : Rch E i k
  | more {j k : Int} (h : Rch E i j) (h2 : (j, k) ∈ E) : Rch E i k
theorem Rch.snd {E : List (Int × Int)} {i k : Int} (h : Rch E i k) : ∃ x, (x, k) ∈ E := by
  cases h with
  | one h => exact ⟨_, h⟩
  | more _ h => exact ⟨_, h⟩
noncomputable def reachB (E : List (Int × Int)) (i : Int) (k : Nat) : Bool := @decide (Rch E i k) (Classical.propDecidable _)
theorem reachB_iff (E : List (Int × Int)) (i : Int) (k : Nat) : reachB E i k = true ↔ Rch E i k := by
  unfold reachB
  exact @decide_eq_true_iff _ (Classical.propDecidable _)
noncomputable def needL (E : List (Int × Int)) (i : Int) (n : Nat) : List Int := ((List.range n).filter (reachB E i)).map Int.ofNat
theorem needL_next (E : List (Int × Int)) (i : Int) (n : Nat) : needL E i (n + 1) = if reachB E i n = true then needL E i n ++ [(n : Int)] else needL E i n := by
  unfold needL
  rw [List.range_succ, List.filter_append, List.map_append]
  by_cases h : reachB E i n = true
  · rw [if_pos h, List.filter_cons, if_pos h]; rfl
  · rw [if_neg h, List.filter_cons, if_neg h]; simp
theorem needL_len (E : List (Int × Int)) (i : Int) (n : Nat) : (needL E i n).length ≤ n := by
  unfold needL
  rw [List.length_map]
  have := List.length_filter_le (reachB E i) (List.range n)
  rwa [List.length_range] at this
/-- Nothing is left that was not seen. -/
theorem reach_closed {E : List (Int × Int)} {i : Int} {sn : List Int} (h0 : ∀ y, (i, y) ∈ E → y ∈ sn) (h1 : ∀ x ∈ sn, ∀ y, (x, y) ∈ E → y ∈ sn) {k : Int} (h : Rch E i k) : k ∈ sn := by
  induction h with
  | one h => exact h0 _ h
  | more _ h2 ih => exact h1 _ ih _ h2
theorem seen_le {E : List (Int × Int)} {i : Int} {sn : List Int} (hn : sn.Nodup) (h : ∀ x ∈ sn, Rch E i x) : sn.length ≤ E.length := by
  have := nodup_sub hn (m := E.map (·.2)) (fun x hx => by
    obtain ⟨y, hy⟩ := (h x hx).snd
    exact List.mem_map.2 ⟨_, hy, rfl⟩)
  rwa [List.length_map] at this
/-- What Needs knows: sn is seen, q is to do; the last ones of what is at hand are still to come. -/
structure Bfs (E : List (Int × Int)) (i : Int) (sn q : List Int) (at_ : Option Int) (left : List Int) : Prop where
  seen : ∀ x ∈ sn, Rch E i x
  todo : ∀ x ∈ q, x = i ∨ x ∈ sn
  here : ∀ x, at_ = some x → x = i ∨ x ∈ sn
  done : ∀ x, (x = i ∨ x ∈ sn) → x ∈ q ∨ ∀ y, (x, y) ∈ E → y ∈ sn ∨ (at_ = some x ∧ y ∈ left)
  few : q.length ≤ sn.length + 1
theorem Bfs.start (E : List (Int × Int)) (i : Int) : Bfs E i [] [i] none [] :=
  ⟨by simp, fun x hx => Or.inl (by simpa using hx), (fun x h => by cases h), fun x hx => Or.inl (by
    rcases hx with rfl | h
    · simp
    · cases h), by simp⟩
theorem Bfs.pop {E : List (Int × Int)} {i : Int} {sn q : List Int} {x : Int} {left : List Int} (h : Bfs E i sn (x :: q) none []) (hl : ∀ y, (x, y) ∈ E → y ∈ left) : Bfs E i sn q (some x) left := by
  refine ⟨h.seen, fun y hy => h.todo y (by simp [hy]), fun y hy => ?_, fun y hy => ?_, by have := h.few; simp at this; omega⟩
  · obtain rfl : x = y := by simpa using hy
    exact h.todo x (by simp)
  · by_cases e : y = x
    · subst e
      exact Or.inr fun z hz => Or.inr ⟨rfl, hl z hz⟩
    · rcases h.done y hy with h1 | h1
      · rcases List.mem_cons.1 h1 with h2 | h2
        · exact absurd h2 e
        · exact Or.inl h2
      · refine Or.inr fun z hz => Or.inl ?_
        rcases h1 z hz with h2 | ⟨h2, _⟩
        · exact h2
        · cases h2
theorem Bfs.over {E : List (Int × Int)} {i : Int} {sn q : List Int} {x : Int} (h : Bfs E i sn q (some x) []) : Bfs E i sn q none [] := by
  refine ⟨h.seen, h.todo, (fun y hy => by cases hy), fun y hy => ?_, h.few⟩
  rcases h.done y hy with h1 | h1
  · exact Or.inl h1
  · refine Or.inr fun z hz => Or.inl ?_
    rcases h1 z hz with h2 | ⟨_, h2⟩
    · exact h2
    · cases h2
theorem Bfs.had {E : List (Int × Int)} {i : Int} {sn q : List Int} {x y : Int} {left : List Int} (hn : left.Nodup) (h : Bfs E i sn q (some x) left) (hy : y ∈ sn) : Bfs E i sn q (some x) (delK left y) := by
  refine ⟨h.seen, h.todo, h.here, fun z hz => ?_, h.few⟩
  rcases h.done z hz with h1 | h1
  · exact Or.inl h1
  · refine Or.inr fun u hu => ?_
    rcases h1 u hu with h2 | ⟨h2, h3⟩
    · exact Or.inl h2
    · by_cases e : u = y
      · exact Or.inl (e ▸ hy)
      · exact Or.inr ⟨h2, (mem_delK hn _ _).2 ⟨e, h3⟩⟩
theorem Bfs.adds {E : List (Int × Int)} {i : Int} {sn q : List Int} {x y : Int} {left : List Int} (hn : left.Nodup) (h : Bfs E i sn q (some x) left) (hxy : (x, y) ∈ E) (hy : y ∉ sn) : Bfs E i (addK sn y) (q ++ [y]) (some x) (delK left y) := by
  have hr : Rch E i y := by
    rcases h.here x rfl with rfl | h1
    · exact .one hxy
    · exact .more (h.seen x h1) hxy
  refine ⟨fun z hz => ?_, fun z hz => ?_, fun z hz => ?_, fun z hz => ?_, ?_⟩
  · rcases (mem_addK _ _ _).1 hz with h1 | rfl
    · exact h.seen z h1
    · exact hr
  · rcases List.mem_append.1 hz with h1 | h1
    · rcases h.todo z h1 with h2 | h2
      · exact Or.inl h2
      · exact Or.inr ((mem_addK _ _ _).2 (Or.inl h2))
    · exact Or.inr ((mem_addK _ _ _).2 (Or.inr (by simpa using h1)))
  · rcases h.here z hz with h2 | h2
    · exact Or.inl h2
    · exact Or.inr ((mem_addK _ _ _).2 (Or.inl h2))
  · by_cases e : z = y
    · exact Or.inl (by simp [e])
    · have hz2 : z = i ∨ z ∈ sn := by
        rcases hz with h1 | h1
        · exact Or.inl h1
        · rcases (mem_addK _ _ _).1 h1 with h2 | h2
          · exact Or.inr h2
          · exact absurd h2 e
      rcases h.done z hz2 with h1 | h1
      · exact Or.inl (by simp [h1])
      · refine Or.inr fun u hu => ?_
        by_cases e2 : u = y
        · exact Or.inl ((mem_addK _ _ _).2 (Or.inr e2))
        · rcases h1 u hu with h2 | ⟨h2, h3⟩
          · exact Or.inl ((mem_addK _ _ _).2 (Or.inl h2))
          · exact Or.inr ⟨h2, (mem_delK hn _ _).2 ⟨e2, h3⟩⟩
  · rw [addK_len, if_neg hy, List.length_append]
    have := h.few
    simp only [List.length_cons, List.length_nil]
    omega
theorem Bfs.all {E : List (Int × Int)} {i : Int} {sn : List Int} (h : Bfs E i sn [] none []) (k : Int) : k ∈ sn ↔ Rch E i k := by
  refine ⟨h.seen k, fun hr => ?_⟩
  have key : ∀ x, (x = i ∨ x ∈ sn) → ∀ y, (x, y) ∈ E → y ∈ sn := fun x hx y hy => by
    rcases h.done x hx with h1 | h1
    · cases h1
    · rcases h1 y hy with h2 | ⟨h2, _⟩
      · exact h2
      · cases h2
  exact reach_closed (key i (Or.inl rfl)) (fun x hx => key x (Or.inr hx)) hr
/-- How much is to be done at most. -/
def bfsM (E : List (Int × Int)) (sn : List Int) (q : Nat) : Nat := 2 * (E.length - sn.length) + q
theorem qu_shape {w : World} {B : Nat} {v : Value} {l : List Int} (h : Qu w B v l) : ∃ g off cap, v = .slice (some ⟨g, off, none⟩) l.length cap := by
  obtain ⟨g, off, cap, rfl, _⟩ := h
  exact ⟨g, off, cap, rfl⟩
theorem Qu.pop {w : World} {B : Nat} {x : Int} {l : List Int} {n cap off g : Nat} (h : Qu w B (.slice (some ⟨g, off, none⟩) n cap) (x :: l)) :
    w.cell? ⟨g, off, none⟩ = some (.int .i64 x) ∧ ∃ o c, (∀ w : World, (Instr.sliceAt 33 (.slice (some ⟨g, off, none⟩) n cap) (some (.int .i64 1)) none none).run Try.prog w = .ok (.slice (some ⟨g, o, none⟩) l.length c) w) ∧ Qu w B (.slice (some ⟨g, o, none⟩) l.length c) l := by
  have h0 := h
  obtain ⟨g1, off1, cap1, e, h1, h2, h3, h4, h5, h6⟩ := h
  simp only [Value.slice.injEq, Option.some.injEq, Addr.mk.injEq, and_true] at e
  obtain ⟨⟨rfl, rfl⟩, rfl, rfl⟩ := e
  simp only [List.length_cons] at h3
  refine ⟨h6 0 (by simp), ?_⟩
  have ht : Try.prog.underlying 33 = some (.slice (Try.prog.elem 33)) := Try.underlying33
  have hz : ∀ w : World, (sizeOf (Try.prog.elem 33)).run Try.prog w = .ok 1 w := fun w => by kernel_rfl
  by_cases e : cap = 1
  · subst e
    refine ⟨off, 0, fun w => ?_, ?_⟩
    · rw [run_sliceAt_slice w 33 _ _ _ _ ht, run_slice_l w 33 _ _ _ ht .i64 1 (by decide) (by simp only [List.length_cons]; omega), hz]
      simp [Result.andThen, sliced]
    · obtain rfl : l = [] := List.eq_nil_of_length_eq_zero (by omega)
      exact ⟨_, _, _, rfl, h1, h2, Nat.le_refl _, by omega, fun j hj => by omega, fun j hj => by simp at hj⟩
  · refine ⟨off + 1, cap - 1, fun w => ?_, h0.tail⟩
    rw [run_sliceAt_slice w 33 _ _ _ _ ht, run_slice_l w 33 _ _ _ ht .i64 1 (by decide) (by simp only [List.length_cons]; omega), hz]
    simp [Result.andThen, sliced, e, Addr.add]
theorem wpList_append_qu {w : World} {ops : Array Oper} {rest : List Oper} {o : Oper} {a : Act} {Q : Exit → Act → World → Prop} {s x : Operand} {B : Nat} {v : Value} {l : List Int} {ad : Addr} {c : Nat} {y : Int} (hgd : o.guard = none)
    (ho : o.op = .call { callee := .builtin .append, args := #[s, x], argTypes := #[33, 33] }) (hs : a.eval s = v) (hx : a.eval x = .slice (some ad) 1 c) (h : Qu w B v l) (hB : B ≤ w.heap.size) (hc : w.cell? (ad.add 0) = some (.int .i64 y)) (h63 : l.length + 1 ≤ 100000)
    (hK : ∀ v' w', Qu w' B v' (l ++ [y]) → Kp (fun i => v.ownBlock = some i) w w' → (∀ i, v'.ownBlock = some i → v.ownBlock = some i ∨ w.heap.size ≤ i) → wpList Try.prog ops Q rest (a.put o.dst v') w') : wpList Try.prog ops Q (o :: rest) a w := by
  obtain ⟨v', w', hr, h1, h2, h3⟩ := run_append_qu h hB ad c y hc h63 o.type
  refine wpList_plain hgd fun K hK2 => ?_
  unfold Oper.wp execOp
  simp only [ho, resolve, invoke, builtin, Sem.run_bind, Sem.run_pure, Result.andThen_ok, List.map_toArray, List.map_cons, List.map_nil, hs, hx, hr]
  exact hK2 _ _ (hK v' w' h1 h2 h3)
/-- The memory of Needs. -/
structure NS (wr : World) (lo B b10 : Nat) (ks : List Int) (g : Int → Option Nat) (S : Int → Int → Prop) (sn : List Int) (v : Value) (q : List Int) : Prop where
  mm : MM wr lo B ks g S
  st : St wr b10 sn
  qu : Qu wr lo v q
  ne : b10 ≠ B
  lo8 : lo ≤ b10
  nei : ∀ k ∈ ks, g k ≠ some b10
  nq : ∀ i, v.ownBlock = some i → i ≠ B ∧ i ≠ b10 ∧ i < wr.heap.size ∧ ∀ k ∈ ks, g k ≠ some i
variable {w w' : World} {lo B b10 : Nat} {ks : List Int} {g : Int → Option Nat} {S : Int → Int → Prop} {sn : List Int} {v : Value} {q : List Int}
theorem NS.kp {T : Nat → Prop} (h : NS w lo B b10 ks g S sn v q) (k : Kp T w w') (h1 : ¬ T B) (h2 : ¬ T b10) (h3 : ∀ j ∈ ks, ∀ b, g j = some b → ¬ T b) (h4 : ∀ i, v.ownBlock = some i → ¬ T i) : NS w' lo B b10 ks g S sn v q :=
  ⟨h.mm.kp2 k h1 h3, h.st.kp k h2, h.qu.kp k h4, h.ne, h.lo8, h.nei, fun i hi => by
    obtain ⟨a1, a2, a3, a4⟩ := h.nq i hi
    exact ⟨a1, a2, Nat.lt_of_lt_of_le a3 k.size, a4⟩⟩
theorem NS.keep (h : NS w lo B b10 ks g S sn v q) (k : Below w.heap.size w w') : NS w' lo B b10 ks g S sn v q := h.kp (Kp.new (S := fun _ => False) k) (fun h => h) (fun h => h) (fun _ _ _ _ h => h) (fun _ _ h => h)
theorem NS.see (h : NS w lo B b10 ks g S sn v q) {x : Int} (hx : goodI x) (hl : sn.length < maxLen) :
    ∃ w', (Instr.mapUpdate 41 (.map (some b10)) (.int .i64 x) (.bool true)).run Try.prog w = .ok () w' ∧ NS w' lo B b10 ks g S (addK sn x) v q ∧ Kp (fun k => k = b10) w w' ∧ w'.heap.size = w.heap.size := by
  obtain ⟨w', h1, h2, h3, h4⟩ := h.st.put hl hx
  refine ⟨w', h1, ⟨h.mm.kp2 h3 (fun e => h.ne e.symm) (fun j hj b e e2 => h.nei j hj (by rw [e, e2])), h2, h.qu.kp h3 (fun i hi => (h.nq i hi).2.1), h.ne, h.lo8, h.nei, fun i hi => ?_⟩, h3, h4⟩
  obtain ⟨a1, a2, a3, a4⟩ := h.nq i hi
  exact ⟨a1, a2, Nat.lt_of_lt_of_le a3 h3.size, a4⟩
theorem qu_lt {w : World} {B : Nat} {v : Value} {l : List Int} (h : Qu w B v l) : ∀ i, v.ownBlock = some i → B ≤ i ∧ i < w.heap.size := by
  obtain ⟨g, off, cap, rfl, h1, h2, _⟩ := h
  intro i hi
  obtain rfl : g = i := by simpa [Value.ownBlock] using hi
  exact ⟨h1, h2⟩
theorem NS.push {v' : Value} {q' : List Int} (h : NS w lo B b10 ks g S sn v q) (hq : Qu w' lo v' q') (k : Kp (fun i => v.ownBlock = some i) w w') (ho : ∀ i, v'.ownBlock = some i → v.ownBlock = some i ∨ w.heap.size ≤ i) : NS w' lo B b10 ks g S sn v' q' := by
  have hB := h.mm.hm.lt
  have hb := h.st.lt
  refine ⟨h.mm.kp2 k (fun e => (h.nq _ e).1 rfl) (fun j hj b e e2 => (h.nq b e2).2.2.2 j hj e), h.st.kp k (fun e => (h.nq _ e).2.1 rfl), hq, h.ne, h.lo8, h.nei, fun i hi => ?_⟩
  rcases ho i hi with h1 | h1
  · obtain ⟨a1, a2, a3, a4⟩ := h.nq i h1
    exact ⟨a1, a2, Nat.lt_of_lt_of_le a3 k.size, a4⟩
  · refine ⟨by omega, by omega, (qu_lt hq i hi).2, fun j hj e => ?_⟩
    have := (h.mm.lt_inner hj e).1
    omega
theorem NS.tail {x : Int} {g1 o1 o2 n c c2 : Nat} (h : NS w lo B b10 ks g S sn (.slice (some ⟨g1, o1, none⟩) n c) (x :: q)) {m : Nat} (hq : Qu w lo (.slice (some ⟨g1, o2, none⟩) m c2) q) : NS w lo B b10 ks g S sn (.slice (some ⟨g1, o2, none⟩) m c2) q :=
  ⟨h.mm, h.st, hq, h.ne, h.lo8, h.nei, h.nq⟩
end Go.Proofs.Ytddonekagmnokaa

