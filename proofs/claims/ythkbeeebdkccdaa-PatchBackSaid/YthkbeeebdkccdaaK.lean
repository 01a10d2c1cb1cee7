/-
  The contract of the law's own reader of texts.
-/
import Derived.Test.YthkbeeebdkccdaaJ
set_option linter.unusedVariables false
set_option linter.unusedSimpArgs false
namespace Go.Proofs.Ythkbeeebdkccdaa
open Go.RowKit
def rlR (s : ByteArray) (e : Int) (w w' : World) (r : Ending) : Prop := ∃ a cap, r = .returned (.tuple #[.agg #[.string (lstO s e).2.1, .int .i64 (lstO s e).2.2], .slice a (lstO s e).1.length cap]) ∧ (lstO s e).1.length ≤ cap ∧ Sl strC 1 w' a (lstO s e).1 ∧ (∀ b o, a = some ⟨b, o, none⟩ → w.heap.size ≤ b) ∧ Below w.heap.size w w'
theorem rlR.bad {s : ByteArray} {e e0 : Int} {w w' : World} (h : lstO s e = ([], s, e0)) (hb : Below w.heap.size w w') : rlR s e w w' (.returned (.tuple #[.agg #[.string s, .int .i64 e0], .slice none 0 0])) := by
  unfold rlR; rw [h]; exact ⟨none, 0, rfl, by simp, Sl.nil _ _ _ _, fun b o h => (by cases h), hb⟩
/-- Three blocks: the parameter, the result, and what is left. -/
structure Tri (s : ByteArray) (x : ByteArray) (e : Int) (w : World) (P : Nat) (wr : World) : Prop where
  a : Bk w.heap.size [.string s, .int .i64 0] wr
  b : Bk (w.heap.size + 1) [.string ⟨#[]⟩, .int .i64 0] wr
  c : Bk P [.string x, .int .i64 e] wr
  lt : w.heap.size + 1 < P
  below : Below w.heap.size w wr
theorem Tri.kp {s x : ByteArray} {e : Int} {w wr w2 : World} {P : Nat} {S : Nat → Prop} (h : Tri s x e w P wr) (k : Kp S wr w2) (hS : ∀ g, S g → P < g) : Tri s x e w P w2 :=
  ⟨h.a.kp k (fun g => by have := hS _ g; have := h.lt; omega), h.b.kp k (fun g => by have := hS _ g; have := h.lt; omega), h.c.kp k (fun g => by have := hS _ g; omega), h.lt, h.below.trans (k.below (by have := h.below.size; omega) (fun g hg => by have := hS _ hg; have := h.lt; omega))⟩
theorem Tri.put {s x x' : ByteArray} {e e' : Int} {w wr : World} {P : Nat} (h : Tri s x e w P wr) : Tri s x' e' w P ((wr.setCell ⟨P, 0, none⟩ (.string x')).setCell ⟨P, 1, none⟩ (.int .i64 e')) :=
  ⟨(h.a.other (by have := h.lt; simp; omega) _).other (by have := h.lt; simp; omega) _, (h.b.other (by have := h.lt; simp; omega) _).other (by have := h.lt; simp; omega) _, (h.c.set 0 (by simp) _).set 1 (by simp) _, h.lt, (h.below.setCell (p := ⟨P, 0, none⟩) (by have := h.lt; simp; omega) _).setCell (p := ⟨P, 1, none⟩) (by have := h.lt; simp; omega) _⟩
theorem kp_two (P : Nat) (u v : Value) (w : World) : Kp (fun k => k = P) w ((w.setCell ⟨P, 0, none⟩ u).setCell ⟨P, 1, none⟩ v) := ((Kp.refl (fun k => k = P) w).set P 0 u rfl).set P 1 v rfl
end Go.Proofs.Ythkbeeebdkccdaa

