/-
  The contracts of what is done at each place, and of along.
-/
import Derived.Test.YtknlfifompmhoaaB
import Derived.StillTail
import Derived.StillTailTactics
set_option linter.unusedVariables false
set_option linter.unusedSimpArgs false
namespace Go.Proofs.Ytknlfifompmhoaa
open Go.RowKit
/-- What a function that has captured two variables reads: a tree's sums, and one whole number. -/
structure Cad (bt bb p gs m : Nat) (w : World) : Prop where
  c1 : w.cell? ⟨bt, 0, none⟩ = some (.pointer (some ⟨p, 0, none⟩))
  c3 : w.cell? ⟨p, 1, none⟩ = some (.slice (some ⟨gs, 0, none⟩) m m)
  n1 : bt ≠ gs
  n2 : bb ≠ gs
  n3 : p ≠ gs
  n4 : bt ≠ bb
  n5 : p ≠ bb
  l1 : bt < w.heap.size
  l2 : bb < w.heap.size
  l3 : p < w.heap.size
theorem Cad.kp {bt bb p gs m : Nat} {S : Nat → Prop} {w w' : World} (h : Cad bt bb p gs m w) (k : Kp S w w') (hS : ∀ j, S j → j = gs ∨ j = bb) : Cad bt bb p gs m w' :=
  ⟨(k.cell (p := ⟨bt, 0, none⟩) h.l1 (fun e => by rcases hS _ e with e | e; exact h.n1 e; exact h.n4 e)).trans h.c1, (k.cell (p := ⟨p, 1, none⟩) h.l3 (fun e => by rcases hS _ e with e | e; exact h.n3 e; exact h.n5 e)).trans h.c3, h.n1, h.n2, h.n3, h.n4, h.n5, Nat.lt_of_lt_of_le h.l1 k.size, Nat.lt_of_lt_of_le h.l2 k.size, Nat.lt_of_lt_of_le h.l3 k.size⟩
theorem kp_drewN {S : Nat → Prop} {a w : World} (h : Kp S a w) (n : Nat) : Kp S a (w.drewN n) := ⟨h.os, h.tape, h.output, h.size, h.block⟩
set_option maxHeartbeats 4000000 in
theorem add1_any (bt bb p gs m k : Nat) (by_ : Int) (sums : List Int) (w : World) (h : Cad bt bb p gs m w) (hb : Bk bb [.int .i64 by_] w) (hr : Bk gs (ints sums) w) (hm : sums.length = m) (hk : k < m) (hm2 : m ≤ 5000)
    (hs : -9223372036854775808 ≤ sums.getD k 0 + by_ ∧ sums.getD k 0 + by_ ≤ 9223372036854775807) :
    Calls Try.prog 12 #[.int .i64 k, .pointer (some ⟨bt, 0, none⟩), .pointer (some ⟨bb, 0, none⟩)] w fun e w' => e = .returned (.tuple #[]) ∧ Bk gs (ints (sums.set k (sums.getD k 0 + by_))) w' ∧ Kp (· = gs) w w' := by
  have c1 := h.c1; have c2 := (hb.2 0 _ rfl).1; have c3 := h.c3
  have c4 := (hr.2 k _ (ints_get sums k (by omega))).1
  have f4 := (hr.2 k _ (ints_get sums k (by omega))).2
  have HR := Lib.hid hr
  have HS := Lib.hid (ints_set sums k (sums.getD k 0 + by_))
  have HKL : Hid (k < (ints sums).length) := Lib.hid (by rw [ints_len]; omega)
  obtain ⟨x, hx⟩ : ∃ x, x = sums.getD k 0 := ⟨_, rfl⟩
  rw [← hx] at c4 hs HS ⊢
  have d1 : (0 : Int) ≤ (k : Int) := by omega
  have d2 : (k : Int) < (m : Int) := by omega
  have d3 : IntKind.i64.wrap (x + by_) = x + by_ := IntWalk.i64_in _ (by omega)
  clear h hb hr hx
  go_enter Try.func12, Try.ntmps12
  go_wp2
  refine wp_region_still_tail 10 (by kernel_rfl) (by kernel_rfl) ?_
  simp only [List.take_succ_cons, List.take_zero, List.drop_succ_cons, List.drop_zero]
  change wpStill _ _ (w.drew) _ _ _
  repeat still_step
  refine wpStill_nil ?_
  change wpList _ _ _ _ _ (w.drew)
  go_wp2
  go_end0
  refine ⟨rfl, ?_, ?_⟩
  · rw [← HS.out]
    exact Bk.set (w := w.drewN _) HR.out k HKL.out _
  · exact ((Kp.refl (· = gs) w).set gs k _ rfl).drew
set_option maxHeartbeats 4000000 in
theorem sum1_any (bt bn p gs m k : Nat) (n : Int) (sums : List Int) (w : World) (h : Cad bt bn p gs m w) (hb : Bk bn [.int .i64 n] w) (hr : Bk gs (ints sums) w) (hm : sums.length = m) (hk : k < m) (hm2 : m ≤ 5000)
    (hs : -9223372036854775808 ≤ n + sums.getD k 0 ∧ n + sums.getD k 0 ≤ 9223372036854775807) :
    Calls Try.prog 14 #[.int .i64 k, .pointer (some ⟨bn, 0, none⟩), .pointer (some ⟨bt, 0, none⟩)] w fun e w' => e = .returned (.tuple #[]) ∧ Bk bn [.int .i64 (n + sums.getD k 0)] w' ∧ Kp (· = bn) w w' := by
  have c1 := h.c1; have c2 := (hb.2 0 _ rfl).1; have f2 := (hb.2 0 _ rfl).2; have c3 := h.c3
  have c4 := (hr.2 k _ (ints_get sums k (by omega))).1
  have HB := Lib.hid hb
  obtain ⟨x, hx⟩ : ∃ x, x = sums.getD k 0 := ⟨_, rfl⟩
  rw [← hx] at c4 hs ⊢
  have d1 : (0 : Int) ≤ (k : Int) := by omega
  have d2 : (k : Int) < (m : Int) := by omega
  have d3 : IntKind.i64.wrap (n + x) = n + x := IntWalk.i64_in _ (by omega)
  clear h hb hr hx
  go_enter Try.func14, Try.ntmps14
  go_wp2
  refine wp_region_still_tail 9 (by kernel_rfl) (by kernel_rfl) ?_
  simp only [List.take_succ_cons, List.take_zero, List.drop_succ_cons, List.drop_zero]
  change wpStill _ _ (w.drew) _ _ _
  repeat still_step
  refine wpStill_nil ?_
  change wpList _ _ _ _ _ (w.drew)
  go_wp2
  go_end0
  refine ⟨rfl, ?_, ?_⟩
  · exact Bk.set (w := w.drewN _) HB.out 0 (by simp) _
  · exact ((Kp.refl (· = bn) w).set bn 0 _ rfl).drew
end Go.Proofs.Ytknlfifompmhoaa

