/-
  A slice that a call appends to: what its elements read as, and that it is kept.
-/
import Derived.Test.YtkpnhiafdfbogaaDoorKp
set_option linter.unusedVariables false
set_option linter.unusedSimpArgs false
namespace Go.Proofs.YtkpnhiafdfbogaaDoor
open Go.RowKit
theorem flat_get {α : Type} {enc : α → List Value} {size : Nat} (hlen : ∀ x, (enc x).length = size) : ∀ (l : List α) (i : Nat) (hi : i < l.length) (j : Nat) (v : Value), (enc l[i])[j]? = some v → (l.flatMap enc)[i * size + j]? = some v
  | [], i, hi, j, v, h => by cases hi
  | x :: l, 0, hi, j, v, h => by
    have hj : j < (enc x).length := (List.getElem?_eq_some_iff.1 h).1
    rw [List.flatMap_cons, Nat.zero_mul, Nat.zero_add, List.getElem?_append_left hj]
    exact h
  | x :: l, i + 1, hi, j, v, h => by
    rw [List.flatMap_cons, List.getElem?_append_right (by rw [hlen, Nat.add_mul]; omega), hlen, show (i + 1) * size + j - size = i * size + j by rw [Nat.add_mul]; omega]
    exact flat_get hlen l i (by simpa using hi) j v h
theorem own_sl {α : Type} {enc : α → List Value} {size : Nat} (hlen : ∀ x, (enc x).length = size) (hpos : 0 < size) {w : World} {B : Nat} {e : TypeId} {v : Value} {l : List α} (h : w.ownsRow B e size v l.length (l.flatMap enc)) :
    ∃ a cap, v = .slice a l.length cap ∧ l.length ≤ cap ∧ Sl enc size w a l := by
  obtain ⟨_, ⟨rfl, h0⟩ | ⟨g, cap, cur, rfl, hg, hh, hn, hm, hc, ht⟩⟩ := h
  · refine ⟨none, 0, by rw [h0], by omega, ?_⟩
    have : l = [] := List.eq_nil_of_length_eq_zero h0
    subst this; exact Sl.nil _ _ _ _
  · refine ⟨some ⟨g, 0, none⟩, cap, rfl, hn, fun i hi => ⟨g, 0, rfl, ?_, fun j u hj => ?_⟩⟩
    · exact (Array.getElem?_eq_some_iff.1 hh).1
    · have h2 := flat_get hlen l i hi j u hj
      rw [← ht, List.getElem?_take] at h2
      split at h2
      · rw [Nat.zero_add]
        have h3 : w.cell? ⟨g, i * size + j, none⟩ = cur[i * size + j]? := by
          unfold World.cell?
          simp only [hh]
          rfl
        rw [h3]
        simpa using h2
      · cases h2
theorem own_kp {S : Nat → Prop} {w w2 : World} {B : Nat} {e : TypeId} {size : Nat} {v : Value} {n : Nat} {xs : List Value} (h : w.ownsRow B e size v n xs) (k : Kp S w w2) (hS : ∀ g, S g → g < B) : w2.ownsRow B e size v n xs := by
  obtain ⟨h0, h1 | ⟨g, cap, cur, rfl, hg, hh, r⟩⟩ := h
  · exact ⟨h0, .inl h1⟩
  · have hlt : g < w.heap.size := (Array.getElem?_eq_some_iff.1 hh).1
    exact ⟨h0, .inr ⟨g, cap, cur, rfl, hg, by rw [k.block g hlt (fun e => by have := hS g e; omega)]; exact hh, r⟩⟩
theorem own_kp2 {S : Nat → Prop} {w w2 : World} {B : Nat} {e : TypeId} {size : Nat} {v : Value} {n : Nat} {xs : List Value} (h : w.ownsRow B e size v n xs) (k : Kp S w w2) (hS : ∀ g, v.ownBlock = some g → ¬ S g) : w2.ownsRow B e size v n xs := by
  obtain ⟨h0, h1 | ⟨g, cap, cur, rfl, hg, hh, r⟩⟩ := h
  · exact ⟨h0, .inl h1⟩
  · have hlt : g < w.heap.size := (Array.getElem?_eq_some_iff.1 hh).1
    exact ⟨h0, .inr ⟨g, cap, cur, rfl, hg, by rw [k.block g hlt (hS g rfl)]; exact hh, r⟩⟩
theorem own_base {w : World} {B B' : Nat} {e : TypeId} {size : Nat} {v : Value} {n : Nat} {xs : List Value} (h : w.ownsRow B e size v n xs) (hB : B' ≤ B) : w.ownsRow B' e size v n xs := by
  obtain ⟨h0, h1 | ⟨g, cap, cur, rfl, hg, r⟩⟩ := h
  · exact ⟨h0, .inl h1⟩
  · exact ⟨h0, .inr ⟨g, cap, cur, rfl, Nat.le_trans hB hg, r⟩⟩
theorem own_nil (w : World) (B : Nat) (e : TypeId) (size : Nat) : w.ownsRow B e size (.slice none 0 0) 0 [] := World.ownsRow_nil w B e size
theorem own_kept {w w2 : World} {B : Nat} {e : TypeId} {size : Nat} {v : Value} {n : Nat} {xs : List Value} (h : w.ownsRow B e size v n xs) (hb : Below w.heap.size w w2) : w2.ownsRow B e size v n xs := own_kp h (Kp.new (S := fun _ => False) hb) (fun _ h => h.elim)
end Go.Proofs.YtkpnhiafdfbogaaDoor
