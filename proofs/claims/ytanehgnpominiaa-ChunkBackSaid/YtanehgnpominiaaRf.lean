/-
  A range over a function whose state lies in a box of its own: the law for the walk; the loop's body never leaves.
-/
import Derived.Test.YtanehgnpominiaaOwn
import Derived.RangeFuncBox
import Derived.RangeFuncLeaves
import Derived.RangeFuncCalls
import Derived.Shelf.Abstract
import Derived.WalkKit
import Derived.OwnWalkIn
import Derived.TacticsInMore
import Derived.LoopNIn
import Derived.LoopIn
import Derived.Maps.AppendAt
set_option linter.unusedVariables false
set_option linter.unusedSimpArgs false
set_option maxRecDepth 100000
namespace Go.Proofs.Ytanehgnpominiaa
open Go Go.RowKit
/-- Some boxes lie as they lay. -/
def KpB (b m : Nat) (W W' : World) : Prop := ∀ k, b ≤ k → k < b + m → W'.heap[k]? = W.heap[k]?
/-- A function that hands just xs to yield, one behind the other; its state is box b; boxes b up to b + m are its own. -/
def SeqC {α : Type} (P : Program) (g : Nat) (lb : Array Value) (enc : α → Value) (b m : Nat) (xs : List α) (w : World) : Prop :=
  ∀ (l : Nat) (J : List α → World → Prop) (W : World), Below w.heap.size w W → (∀ pre A A', J pre A → Below A.heap.size A A' → J pre A') → (∀ pre A v, J pre A → J pre (A.setCell ⟨b, 0, none⟩ v)) →
    (∀ pre x W1, J pre W1 → (pre ++ [x]) <+: xs → YieldAt Fence.wide 1 P l #[enc x] W1 fun e W' => e = .returned (.bool true) ∧ J (pre ++ [x]) W' ∧ KpB b m W1 W') →
    J [] W → CallsIn Fence.wide 2 P g (#[.func (.yield l) #[] #[]] ++ lb) W fun e W' => (∃ v, e = .returned v) ∧ J xs W'
def bodyEnd {α : Type} (B b m : Nat) (I : List α → World → Prop) (xs : List α) (W : World) : Exit → Act → World → Prop
  | .normal, _, W' => KeepsFrom B W W' ∧ KpB b m W W' ∧ I xs W'
  | .ret, _, _ => False
  | .exit _, _, _ => False
  | .goto _, _, _ => False
  | .panic _, _, _ => False
  | .outgrown, _, _ => False
theorem range_own {α : Type} {P : Program} {g : Operand} {p : Tmp} {assign body : Code} {Q : Exit → Act → World → Prop} {a : Act} {w : World} {gf : Nat} {lb : Array Value} {enc : α → Value} {b m : Nat} {xs : List α}
    (hg : a.eval g = .func (.func gf) #[] lb) (eg : ∀ args w, (callFunc gf args).run P w = .ok (.enter gf args) w) (hseq : SeqC P gf lb enc b m xs w) (hb : b + m ≤ w.heap.size) (hm : 0 < m) (I : List α → World → Prop)
    (h1 : ∀ pre A A', I pre A → Below A.heap.size A A' → I pre A') (h2 : ∀ pre A v, I pre A → I pre (A.setCell ⟨b, 0, none⟩ v))
    (h3 : ∀ pre A r o o', I pre A → w.heap.size ≤ r → A.heap[r]? = some o → o.isCells = false → I pre (A.putObj r o')) (h0 : I [] w) (a₁ : α → Act)
    (hassign : ∀ (l : Nat) (x : α) (W : World) (K : Act → World → Prop), K (a₁ x) W → assign.wpIn (Fence.wide.inRound l) 1 P (Exit.then K (fun _ _ _ => False)) { tmps := a.tmps.setIfInBounds p (enc x), defers := [] } W)
    (hbody : ∀ (l : Nat) (pre : List α) (x : α) (W : World), I pre W → (pre ++ [x]) <+: xs → body.wpIn (Fence.wide.inRound l) 1 P (bodyEnd w.heap.size b m I (pre ++ [x]) W) (a₁ x) W)
    (hdone : ∀ (D : Nat) (W : World), w.heap.size ≤ D → I xs W → W.heap[D]? = some (.deferred (some [])) → Q .normal { a with defers := { target := .collected D, args := #[] } :: a.defers } W) :
    (Code.rangeFunc g #[p] assign body).wpIn Fence.wide 3 P Q a w := by
  refine wpIn_rangeFunc fun fn hfn => ?_
  obtain ⟨S, hS⟩ : ∃ S, S = w.heap.size := ⟨_, rfl⟩
  let rc : LoopState → Loop := fun st => { state := st, pending := none, fn, tmps := a.tmps, params := #[p], assign, body, defers := S }
  obtain ⟨W1, hW1⟩ : ∃ W1, (w.alloc (.deferred (some []))).alloc (.loop (rc .ready)) = W1 := ⟨_, rfl⟩
  have b0 := below_new w (.deferred (some []))
  have bW : Below w.heap.size w W1 := by rw [← hW1]; exact below_step b0 (Nat.le_refl _) (below_new _ _)
  have hD1 : W1.heap[S]? = some (.deferred (some [])) := by
    rw [← hW1, hS]
    exact (Below.heap_alloc _ _ _ (by simp)).trans (World.alloc_heap_new w _)
  have hL1 : W1.heap[S + 1]? = some (.loop (rc .ready)) := by
    have := World.alloc_heap_new (w.alloc (.deferred (some []))) (.loop (rc .ready))
    rw [World.size_alloc, ← hS] at this
    rw [← hW1]; exact this
  have hI1 : I [] W1 := h1 _ _ _ h0 bW
  have hent : (Instr.enterLoop fn a.tmps #[p] assign body Fence.wide.round).run P w = .ok (S + 1, [{ target := .collected S, args := #[] }]) W1 := by
    rw [← hW1, hS]
    have := run_enterLoop_outer (P := P) (w := w) fn a.tmps #[p] assign body
    rw [show Fence.wide.round = none from rfl, this]
    simp only [rc, hS]
  refine ⟨S + 1, [{ target := .collected S, args := #[] }], W1, { target := .fn (.func gf) lb, args := #[.func (.yield (S + 1)) #[] #[]] }, W1, gf, #[.func (.yield (S + 1)) #[] #[]] ++ lb, W1, hent, ?_, fun _ _ => trivial, ?_, (fun h => by cases h), ?_⟩
  · simp only [resolve, hg]
    simp [go_sem]
  · simp [invoke, go_sem, eg]
  · refine (hseq (S + 1) (fun pre W => I pre W ∧ W.heap[S + 1]? = some (.loop (rc .ready)) ∧ W.heap[S]? = some (.deferred (some []))) W1 bW ?_ ?_ ?_ ⟨hI1, hL1, hD1⟩).mono ?_
    · rintro pre A A' ⟨q1, q2, q3⟩ hk
      exact ⟨h1 _ _ _ q1 hk, (hk.block _ (Array.getElem?_eq_some_iff.1 q2).1).trans q2, (hk.block _ (Array.getElem?_eq_some_iff.1 q3).1).trans q3⟩
    · rintro pre A v ⟨q1, q2, q3⟩
      exact ⟨h2 _ _ _ q1, (Below.heap_setCell A ⟨b, 0, none⟩ v _ (by show S + 1 ≠ b; omega)).trans q2, (Below.heap_setCell A ⟨b, 0, none⟩ v _ (by show S ≠ b; omega)).trans q3⟩
    · rintro pre x W ⟨q1, q2, q3⟩ hpre
      have hlt : S + 1 < W.heap.size := (Array.getElem?_eq_some_iff.1 q2).1
      have hy : (Instr.yield (S + 1) #[enc x]).run P W = .ok (.round (S + 1) fn (a.tmps.setIfInBounds p (enc x)) assign body) W := by
        have := run_yield (P := P) (args := #[enc x]) q2 rfl
        simpa [rc] using this
      have e0 : (W.putObj (S + 1) (.loop { rc .ready with state := .busy })).heap[S + 1]? = some (.loop { rc .ready with state := .busy }) := World.putObj_heap_same hlt
      have e1 : (W.putObj (S + 1) (.loop { rc .ready with state := .busy })).heap[S]? = some (.deferred (some [])) := (World.putObj_heap_other (by omega)).trans q3
      have e2 : KpB b m W (W.putObj (S + 1) (.loop { rc .ready with state := .busy })) := fun k hk1 hk2 => World.putObj_heap_other (by omega)
      refine ⟨fn, _, assign, body, hy, roundIn_of_wpIn hfn ?_⟩
      refine hassign (S + 1) x W _ ?_
      refine ⟨_, run_beginRound q2 rfl, ?_⟩
      refine wpIn_mono (hbody (S + 1) pre x _ (h3 _ _ _ _ _ q1 (by omega) q2 rfl) hpre) ?_
      rintro e a3 W3 hp
      cases e with
      | normal =>
        obtain ⟨p1, p2, p3⟩ := hp
        have f0 := p1.same _ _ (by omega) e0 rfl
        have f1 := p1.same _ _ (by omega) e1 rfl
        have hr := run_endRound (P := P) none f0
        refine ⟨_, _, hr, rfl, ⟨h3 _ _ _ _ _ p3 (by omega) f0 rfl, World.putObj_heap_same (Array.getElem?_eq_some_iff.1 f0).1, (World.putObj_heap_other (by omega)).trans f1⟩, fun k hk1 hk2 => ?_⟩
        exact (World.putObj_heap_other (by omega)).trans ((p2 k hk1 hk2).trans (e2 k hk1 hk2))
      | ret => exact hp.elim
      | exit id => exact hp.elim
      | goto t => exact hp.elim
      | panic c => exact hp.elim
      | outgrown => exact hp.elim
    · rintro e W2 ⟨⟨v, rfl⟩, q1, q2, q3⟩
      have hr := run_endLoop (P := P) q2 (by simp [rc])
      exact ⟨none, _, hr, hdone S _ (by omega) (h3 _ _ _ _ _ q1 (by omega) q2 rfl) ((World.putObj_heap_other (by omega)).trans q3)⟩
end Go.Proofs.Ytanehgnpominiaa

