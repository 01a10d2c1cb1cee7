/-
  More small words that the walks of this seat share: what a call has made is still there behind the next one.
-/
import Derived.Test.YtkpnhiafdfbogaaDoorBase
import Derived.WalkSmall
namespace Go.Proofs.YtkpnhiafdfbogaaDoor
open Go.RowKit
theorem kept_new {W w1 : World} {cs : Array Value} {E : TypeId} (hb : Below (W.alloc (.cells cs E)).heap.size (W.alloc (.cells cs E)) w1) (i : Nat) : w1.cell? ⟨W.heap.size, i, none⟩ = cs[i]? :=
  (hb.cell (p := ⟨W.heap.size, i, none⟩) (by simp)).trans (cell_new _ _ _ _)
theorem kept_frozen {W w1 : World} {cs : Array Value} {E : TypeId} (hb : Below (W.alloc (.cells cs E)).heap.size (W.alloc (.cells cs E)) w1) (i : Nat) : w1.frozen? ⟨W.heap.size, i, none⟩ = false :=
  (hb.frozen (p := ⟨W.heap.size, i, none⟩) (by simp)).trans (frozen_new _ _ _ _)
theorem kept_lt {W w1 : World} {o : Obj} (hb : Below (W.alloc o).heap.size (W.alloc o) w1) : W.heap.size < w1.heap.size := by have := hb.size; simp at this; omega
theorem below_alloc {W w1 : World} {o : Obj} (hb : Below (W.alloc o).heap.size (W.alloc o) w1) : Below W.heap.size W w1 := ((Below.refl _ _).alloc (Nat.le_refl _) _).trans (hb.mono (by simp))
theorem below_new (W : World) (o : Obj) : Below W.heap.size W (W.alloc o) := (Below.refl _ _).alloc (Nat.le_refl _) _
theorem ret2 {a b c d : Int} {k l : IntKind} (h : a = b) (h' : c = d) : Ending.returned (.tuple #[.int k a, .int l c]) = .returned (.tuple #[.int k b, .int l d]) := by rw [h, h']
theorem wrap64_id {n : Int} (h0 : -9223372036854775808 ≤ n) (h1 : n ≤ 9223372036854775807) : wrap64 n = n := by unfold wrap64; omega
theorem new_cells (w : World) (cs : Array Value) (E : TypeId) (j : Nat) (u : Value) (h : cs.toList[j]? = some u) : (w.alloc (.cells cs E)).cell? ((⟨w.heap.size, 0, none⟩ : Addr).add j) = some u := by
  rw [Addr.add_lit, Nat.zero_add, cell_new]
  simpa using h
/-- A slice whose elements, each of so many cells, are told by enc. -/
def Sl {α : Type} (enc : α → List Value) (size : Nat) (w : World) (a : Option Addr) (xs : List α) : Prop :=
  ∀ i (h : i < xs.length), ∃ b o, a = some ⟨b, o, none⟩ ∧ b < w.heap.size ∧ ∀ j v, (enc xs[i])[j]? = some v → w.cell? ⟨b, o + i * size + j, none⟩ = some v
theorem Sl.keep {α : Type} {enc : α → List Value} {size : Nat} {w w' : World} {a : Option Addr} {xs : List α} (h : Sl enc size w a xs) (hb : Below w.heap.size w w') : Sl enc size w' a xs := by
  intro i hi
  obtain ⟨b, o, ha, hlt, hc⟩ := h i hi
  refine ⟨b, o, ha, Nat.lt_of_lt_of_le hlt hb.size, fun j v hv => ?_⟩
  rw [hb.cell (p := ⟨b, o + i * size + j, none⟩) hlt]
  exact hc j v hv
theorem Sl.nil {α : Type} (enc : α → List Value) (size : Nat) (w : World) (a : Option Addr) : Sl enc size w a [] := fun i h => by cases h
theorem new_cells_at {w : World} {B : Nat} (hB : w.heap.size = B) (cs : Array Value) (E : TypeId) (j : Nat) (u : Value) (h : cs.toList[j]? = some u) : (w.alloc (.cells cs E)).cell? ((⟨B, 0, none⟩ : Addr).add j) = some u := by
  subst hB; exact new_cells w cs E j u h
theorem str_ne {X Y : ByteArray} (h : ¬ X = Y) : (X.toList == Y.toList) = false := by
  rw [beq_eq_false_iff_ne]
  intro e
  rw [Lib.toList_data, Lib.toList_data] at e
  exact h (ByteArray.ext (by rw [← Array.toArray_toList (xs := X.data), e]))
theorem str_eq {X Y : ByteArray} (h : X = Y) : (X.toList == Y.toList) = true := by rw [h]; simp
end Go.Proofs.YtkpnhiafdfbogaaDoor
