/-
  The law's awake.
-/
import Derived.Test.YtddonekagmnokaaJ
import Derived.Test.YtddonekagmnokaaTexts
set_option linter.unusedVariables false
set_option linter.unusedSimpArgs false
namespace Go.Proofs.Ytddonekagmnokaa
open Go.RowKit
theorem sl_new (w : World) (l : List ByteArray) (E : TypeId) : Sl strC 1 (w.alloc (.cells (l.map Value.string).toArray E)) (some ⟨w.heap.size, 0, none⟩) l := by
  intro i hi
  refine ⟨w.heap.size, 0, rfl, by simp, fun j v hv => ?_⟩
  have : j = 0 := by
    cases j with
    | zero => rfl
    | succ j => simp [strC] at hv
  subst this
  simp only [strC, List.getElem?_cons_zero, Option.some.injEq] at hv
  subst hv
  rw [cell_new]
  simp [hi]
theorem sl_newP (w : World) (l : List (Int × Int)) (E : TypeId) : Sl pairC 2 (w.alloc (.cells (l.flatMap pairC).toArray E)) (some ⟨w.heap.size, 0, none⟩) l := by
  intro i hi
  refine ⟨w.heap.size, 0, rfl, by simp, fun j v hv => ?_⟩
  rw [cell_new]
  have := flat_get (enc := pairC) (size := 2) (fun _ => rfl) l i hi j v hv
  rw [Nat.zero_add]
  simpa using this
def sA : ByteArray := ⟨#[97]⟩
def sB : ByteArray := ⟨#[98]⟩
theorem ord1 : ordL [(0, 1)] 2 = [1, 0] := by decide +kernel
theorem ord2 : ordL [(0, 0)] 1 = [] := by decide +kernel
theorem need3 : (needL [(0, 1), (1, 2)] 0 3).length = 2 := by
  have r0 : reachB [(0, 1), (1, 2)] 0 0 = false := by
    rw [Bool.eq_false_iff]
    intro h
    obtain ⟨x, hx⟩ := ((reachB_iff _ _ _).1 h).snd
    simp at hx
  have r1 : reachB [(0, 1), (1, 2)] 0 1 = true := (reachB_iff _ _ _).2 (.one (by simp))
  have r2 : reachB [(0, 1), (1, 2)] 0 2 = true := (reachB_iff _ _ _).2 (.more (j := 1) (.one (by simp)) (by simp))
  rw [needL_next, if_pos r2, needL_next, if_pos r1, needL_next, if_neg (by rw [r0]; simp)]
  rfl
theorem a1 (W : World) : Calls Try.prog 6 #[.slice (some ⟨W.heap.size, 0, none⟩) 2 2, .slice (some ⟨W.heap.size + 1, 0, none⟩) 1 1] ((W.alloc (.cells #[.string sA, .string sB] 9)).alloc (.cells #[.int .i64 0, .int .i64 1] 36)) fun e w' => (∃ a c, e = .returned (.tuple #[.slice a 2 c, .int .i64 0]) ∧ Sl strC 1 w' a [sB, sA]) ∧ Below W.heap.size W w' := by
  have hz : (W.alloc (.cells #[.string sA, .string sB] 9)).heap.size = W.heap.size + 1 := by simp
  have h1 := (sl_new W [sA, sB] 9).keep (below_new _ (.cells #[.int .i64 0, .int .i64 1] 36))
  have h2 := sl_newP (W.alloc (.cells #[.string sA, .string sB] 9)) [(0, 1)] 36
  rw [hz] at h2
  have hk : okN (([sA, sB] : List ByteArray).length : Int) [(0, 1)] := fun p hp => by
    rw [List.mem_singleton.1 hp]; unfold inN; simp
  refine (order_ok [sA, sB] _ _ 2 1 [(0, 1)] _ (by decide) (by decide) h1 h2 (fun p hp => by
    rw [List.mem_singleton.1 hp]
    exact ⟨goodI_of (by decide) (by decide), goodI_of (by decide) (by decide)⟩) hk).mono ?_
  rintro e w' ⟨hc, hb⟩
  obtain ⟨a, c, rfl, hs⟩ := (hc.2 hk).2 (by rw [show ([sA, sB] : List ByteArray).length = 2 from rfl, ord1]; rfl)
  rw [show ([sA, sB] : List ByteArray).length = 2 from rfl, ord1] at hs ⊢
  exact ⟨⟨a, c, rfl, hs⟩, (below_new W _).trans ((below_cons (below_new _ _) hb).mono (by simp))⟩
theorem a2 (W : World) : Calls Try.prog 6 #[.slice (some ⟨W.heap.size, 0, none⟩) 1 1, .slice (some ⟨W.heap.size + 1, 0, none⟩) 1 1] ((W.alloc (.cells #[.string sA] 9)).alloc (.cells #[.int .i64 0, .int .i64 0] 36)) fun e w' => e = .returned (.tuple #[.slice none 0 0, .int .i64 11]) ∧ Below W.heap.size W w' := by
  have hz : (W.alloc (.cells #[.string sA] 9)).heap.size = W.heap.size + 1 := by simp
  have h1 := (sl_new W [sA] 9).keep (below_new _ (.cells #[.int .i64 0, .int .i64 0] 36))
  have h2 := sl_newP (W.alloc (.cells #[.string sA] 9)) [(0, 0)] 36
  rw [hz] at h2
  have hk : okN (([sA] : List ByteArray).length : Int) [(0, 0)] := fun p hp => by
    rw [List.mem_singleton.1 hp]; unfold inN; simp
  refine (order_ok [sA] _ _ 1 1 [(0, 0)] _ (by decide) (by decide) h1 h2 (fun p hp => by
    rw [List.mem_singleton.1 hp]
    exact ⟨goodI_of (by decide) (by decide), goodI_of (by decide) (by decide)⟩) hk).mono ?_
  rintro e w' ⟨hc, hb⟩
  obtain rfl := (hc.2 hk).1 (by rw [show ([sA] : List ByteArray).length = 1 from rfl, ord2]; decide)
  exact ⟨rfl, (below_new W _).trans ((below_cons (below_new _ _) hb).mono (by simp))⟩
theorem a3 (W : World) : Calls Try.prog 6 #[.slice (some ⟨W.heap.size, 0, none⟩) 1 1, .slice (some ⟨W.heap.size + 1, 0, none⟩) 1 1] ((W.alloc (.cells #[.string sA] 9)).alloc (.cells #[.int .i64 0, .int .i64 1] 36)) fun e w' => e = .returned (.tuple #[.slice none 0 0, .int .i64 2]) ∧ Below W.heap.size W w' := by
  have hz : (W.alloc (.cells #[.string sA] 9)).heap.size = W.heap.size + 1 := by simp
  have h2 := sl_newP (W.alloc (.cells #[.string sA] 9)) [(0, 1)] 36
  rw [hz] at h2
  have hk : ¬ okN (([sA] : List ByteArray).length : Int) [(0, 1)] := fun h => by
    have := h (0, 1) (by simp)
    unfold inN at this; simp at this
  refine (order_bad [sA] _ _ 1 1 [(0, 1)] _ (by decide) (by decide) h2 hk).mono ?_
  rintro e w' ⟨hc, hb⟩
  obtain rfl := hc.1 hk
  exact ⟨rfl, (below_new W _).trans ((below_cons (below_new _ _) hb).mono (by simp))⟩
theorem a4 (W : World) : Calls Try.prog 10 #[.int .i64 3, .slice (some ⟨W.heap.size, 0, none⟩) 2 2, .int .i64 0] (W.alloc (.cells #[.int .i64 0, .int .i64 1, .int .i64 1, .int .i64 2] 36)) fun e w' => (∃ a c, e = .returned (.tuple #[.slice a 2 c, .int .i64 0])) ∧ Below W.heap.size W w' := by
  have h2 := sl_newP W [(0, 1), (1, 2)] 36
  have hk : MayN ((3 : Nat) : Int) 0 [(0, 1), (1, 2)] := ⟨by decide, by decide, by decide, fun p hp => by
    simp at hp
    rcases hp with rfl | rfl <;> simp [inN]⟩
  refine (needs_ok 3 0 _ 2 [(0, 1), (1, 2)] _ (by decide) (by decide) h2 hk).mono ?_
  rintro e w' ⟨⟨a, c, rfl, _⟩, hb⟩
  rw [need3]
  exact ⟨⟨a, c, rfl⟩, below_cons (below_new W _) hb⟩
theorem a5 (W : World) (a : Option Addr) (c : Nat) (h : Sl strC 1 W a [sB, sA]) : Calls Try.prog 9 #[.slice a 2 c, .slice (some ⟨W.heap.size, 0, none⟩) 2 2] (W.alloc (.cells #[.string sB, .string sA] 9)) fun e w' => e = .returned (.bool true) ∧ Below W.heap.size W w' := by
  refine (texts_eq [sB, sA] [sB, sA] a _ c 2 _ (h.keep (below_new _ _)) (sl_new W [sB, sA] 9) (by decide)).mono ?_
  rintro e w' ⟨rfl, n, rfl⟩
  exact ⟨by rw [decide_eq_true rfl], below_drewN (below_new _ _) n⟩
set_option maxRecDepth 100000 in
set_option maxHeartbeats 4000000 in
theorem awake_any (w : World) : Calls Try.prog 5 #[] w fun e w' => e = .returned (.bool true) ∧ Below w.heap.size w w' := by
  have T1 := Lib.hid a1; have T2 := Lib.hid a2; have T3 := Lib.hid a3; have T4 := Lib.hid a4; have T5 := Lib.hid a5
  unfold sA at T2 T3
  unfold sA sB at T1 T5
  go_enter Try.func5, Try.ntmps5
  go_wp2_with fail
  refine (T1.out _).mono ?_
  rintro e w1 ⟨⟨a1, c1, rfl, hs⟩, hb⟩
  have HS := Lib.hid hs; have HB1 := Lib.hid hb
  clear hs hb
  go_wp2_with fail
  refine (T2.out _).mono ?_
  rintro e w2 ⟨rfl, hb⟩
  have HS2 := Lib.hid (HS.out.keep hb); have HB2 := Lib.hid (below_cons HB1.out hb)
  clear hb HS
  go_wp2_with fail
  refine (T3.out _).mono ?_
  rintro e w3 ⟨rfl, hb⟩
  have HS3 := Lib.hid (HS2.out.keep hb); have HB3 := Lib.hid (below_cons HB2.out hb)
  clear hb HS2
  go_wp2_with fail
  refine (T4.out _).mono ?_
  rintro e w4 ⟨⟨a4, c4, rfl⟩, hb⟩
  have HS4 := Lib.hid (HS3.out.keep hb); have HB4 := Lib.hid (below_cons HB3.out hb)
  clear hb HS3
  go_wp2_with fail
  refine (T5.out _ _ _ HS4.out).mono ?_
  rintro e w5 ⟨rfl, hb⟩
  have HB5 := Lib.hid (below_cons HB4.out hb)
  clear hb HS4
  go_wp2
  go_ret
  exact ⟨rfl, HB5.out⟩
end Go.Proofs.Ytddonekagmnokaa

