/-
  What a call keeps: all blocks but those that are told. A block of whole values that may be written.
-/
import Derived.Test.YtkpnhiafdfbogaaDoorBase2
import Derived.Maps.OwnSet
set_option linter.unusedVariables false
namespace Go.Proofs.YtkpnhiafdfbogaaDoor
open Go.RowKit
/-- w' is w but for the blocks that S tells, and for new ones. -/
structure Kp (S : Nat → Prop) (w w' : World) : Prop where
  os : w'.os = w.os
  tape : w'.tape = w.tape
  output : w'.output = w.output
  size : w.heap.size ≤ w'.heap.size
  block : ∀ k, k < w.heap.size → ¬ S k → w'.heap[k]? = w.heap[k]?
theorem Kp.refl (S : Nat → Prop) (w : World) : Kp S w w := ⟨rfl, rfl, rfl, Nat.le_refl _, fun _ _ _ => rfl⟩
theorem Kp.trans {S : Nat → Prop} {a b c : World} (h : Kp S a b) (k : Kp S b c) : Kp S a c :=
  ⟨k.os.trans h.os, k.tape.trans h.tape, k.output.trans h.output, Nat.le_trans h.size k.size, fun i hi hs => (k.block i (Nat.lt_of_lt_of_le hi h.size) hs).trans (h.block i hi hs)⟩
theorem Kp.mono {S S' : Nat → Prop} {a b : World} (h : Kp S a b) (hs : ∀ k, k < a.heap.size → S k → S' k) : Kp S' a b := ⟨h.os, h.tape, h.output, h.size, fun i hi hn => h.block i hi (fun hk => hn (hs i hi hk))⟩
theorem Kp.of_below {S : Nat → Prop} {B : Nat} {a b : World} (h : Below B a b) (hs : ∀ k, k < a.heap.size → B ≤ k → S k) : Kp S a b := ⟨h.os, h.tape, h.output, h.size, fun i hi hn => h.block i (by
  apply Classical.byContradiction
  intro hc
  exact hn (hs i hi (by omega)))⟩
theorem Kp.new {S : Nat → Prop} {a b : World} (h : Below a.heap.size a b) : Kp S a b := Kp.of_below h (fun k h1 h2 => by omega)
theorem Kp.below {S : Nat → Prop} {B : Nat} {a b : World} (h : Kp S a b) (hB : B ≤ a.heap.size) (hs : ∀ k, S k → B ≤ k) : Below B a b := ⟨h.os, h.tape, h.output, h.size, fun i hi => h.block i (by omega) (fun hk => by have := hs i hk; omega)⟩
theorem Kp.grown {S : Nat → Prop} {a b : World} {row : Option Nat} (h : a.grownBy b row) (hs : ∀ k, row = some k → S k) : Kp S a b := ⟨h.os, h.tape, h.output, h.size, fun i hi hn => h.block i hi (fun e => hn (hs i e.symm))⟩
theorem Kp.drew {S : Nat → Prop} {a b : World} (h : Kp S a b) : Kp S a b.drew := ⟨h.os, h.tape, h.output, h.size, h.block⟩
theorem Kp.alloc {S : Nat → Prop} {a b : World} (h : Kp S a b) (o : Obj) : Kp S a (b.alloc o) := h.trans (Kp.new (below_new b o))
theorem Kp.setCell {S : Nat → Prop} {a b : World} (h : Kp S a b) {p : Addr} (hp : S p.block) (u : Value) : Kp S a (b.setCell p u) :=
  h.trans ⟨rfl, rfl, rfl, by simp, fun k hk hn => Below.heap_setCell b p u k (fun e => hn (e ▸ hp))⟩
theorem Kp.set {S : Nat → Prop} {a b : World} (h : Kp S a b) (p i : Nat) (u : Value) (hp : S p) : Kp S a (b.setCell ⟨p, i, none⟩ u) := Kp.setCell (p := ⟨p, i, none⟩) h hp u
theorem Kp.cell {S : Nat → Prop} {a b : World} (h : Kp S a b) {p : Addr} (hp : p.block < a.heap.size) (hn : ¬ S p.block) : b.cell? p = a.cell? p := World.cell?_of_block (h.block _ hp hn)
theorem Kp.frozen {S : Nat → Prop} {a b : World} (h : Kp S a b) {p : Addr} (hp : p.block < a.heap.size) (hn : ¬ S p.block) : b.frozen? p = a.frozen? p := World.frozen?_of_block (h.block _ hp hn)
/-- Some values lie in a block, from its first cell on; none is frozen. -/
def Bk (p : Nat) (vs : List Value) (w : World) : Prop := p < w.heap.size ∧ ∀ i v, vs[i]? = some v → w.cell? ⟨p, i, none⟩ = some v ∧ w.frozen? ⟨p, i, none⟩ = false
theorem Bk.kp {S : Nat → Prop} {p : Nat} {vs : List Value} {a b : World} (h : Bk p vs a) (k : Kp S a b) (hn : ¬ S p) : Bk p vs b :=
  ⟨Nat.lt_of_lt_of_le h.1 k.size, fun i v hv => ⟨(k.cell (p := ⟨p, i, none⟩) h.1 hn).trans (h.2 i v hv).1, (k.frozen (p := ⟨p, i, none⟩) h.1 hn).trans (h.2 i v hv).2⟩⟩
theorem Bk.keep {p : Nat} {vs : List Value} {a b : World} (h : Bk p vs a) (k : Below a.heap.size a b) : Bk p vs b := h.kp (Kp.new (S := fun _ => False) k) (fun h => h)
theorem Bk.new (w : World) (E : TypeId) (cs : Array Value) : Bk w.heap.size cs.toList (w.alloc (.cells cs E)) := by
  refine ⟨by simp, fun i v hv => ⟨?_, frozen_new _ _ _ _⟩⟩
  rw [cell_new]; simpa using hv
theorem Bk.drew {p : Nat} {vs : List Value} {w : World} (h : Bk p vs w) : Bk p vs w.drew := h
theorem Bk.other {p : Nat} {vs : List Value} {w : World} (h : Bk p vs w) {q : Addr} (hq : q.block ≠ p) (u : Value) : Bk p vs (w.setCell q u) :=
  h.kp (S := fun k => k = q.block) (Kp.setCell (S := fun k => k = q.block) (p := q) (Kp.refl _ w) rfl u) (fun e => hq e.symm)
theorem Bk.set {p : Nat} {vs : List Value} {w : World} (h : Bk p vs w) (i : Nat) (hi : i < vs.length) (u : Value) : Bk p (vs.set i u) (w.setCell ⟨p, i, none⟩ u) := by
  refine ⟨by simpa using h.1, fun j v hv => ?_⟩
  by_cases e : j = i
  · subst e
    rw [List.getElem?_set_self hi] at hv
    obtain rfl : u = v := by simpa using hv
    have h1 := h.2 j _ (List.getElem?_eq_getElem hi)
    exact ⟨World.cell?_setCell_same' _ _ _ (by rw [h1.1]; rfl), by rw [World.frozen?_setCell]; exact h1.2⟩
  · rw [List.getElem?_set_ne (fun h => e h.symm)] at hv
    have h1 := h.2 j _ hv
    exact ⟨(World.cell?_setCell_other (w := w) (a := ⟨p, i, none⟩) (v := u) (b := ⟨p, j, none⟩) (by simp <;> exact fun h => e h.symm)).trans h1.1, by rw [World.frozen?_setCell]; exact h1.2⟩
end Go.Proofs.YtkpnhiafdfbogaaDoor
