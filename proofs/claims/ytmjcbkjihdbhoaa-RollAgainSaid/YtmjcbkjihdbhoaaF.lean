/-
  The law's awake.
-/
import Derived.Test.YtmjcbkjihdbhoaaE
set_option linter.unusedVariables false
set_option linter.unusedSimpArgs false
namespace Go.Proofs.Ytmjcbkjihdbhoaa
open Go.RowKit
theorem sl_new (w : World) (l : List ByteArray) (E : TypeId) : Sl strC 1 (w.alloc (.cells (l.map Value.string).toArray E)) (some ⟨w.heap.size, 0, none⟩) l := by
  intro i hi
  refine ⟨w.heap.size, 0, rfl, by simp, fun j v hv => ?_⟩
  have : j = 0 := by
    cases j with
    | zero => rfl
    | succ j => simp [strC] at hv
  subst this
  simp only [strC, List.getElem?_cons_zero, Option.some.injEq] at hv
  subst hv
  rw [cell_new]
  simp [hi]
theorem below_drewN' {B : Nat} {a b : World} (h : Below B a b) (n : Nat) : Below B a (b.drewN n) := below_drewN h n
def tAE : ByteArray := ⟨#[97, 98, 99, 100, 101]⟩
theorem cutsA : cuts 2 4 0 tAE = [⟨#[97, 98]⟩, ⟨#[99, 100]⟩, ⟨#[101]⟩] := by decide +kernel
theorem cutsB : 0 < (cuts 2 4 4294967295 tAE).length := by
  rw [cuts_cons (by omega) (by omega) tAE (by decide)]; simp
theorem sumE : sumR ⟨#[]⟩ = 0 := by decide +kernel
theorem sumA : sumR ⟨#[97]⟩ = 98 := by decide +kernel
set_option maxHeartbeats 4000000 in
theorem awake_any (w : World) : Calls Try.prog 5 #[] w fun e w' => e = .returned (.bool true) ∧ Below w.heap.size w w' := by
  have T1 : Hid (∀ W, Calls Try.prog 6 #[.string ⟨#[97, 98, 99, 100, 101]⟩, .int .i64 2, .int .i64 4, .int .u32 0] W fun e w' => ∃ a c, e = .returned (.tuple #[.slice a 3 c, .int .i64 0]) ∧ Sl strC 1 w' a [⟨#[97, 98]⟩, ⟨#[99, 100]⟩, ⟨#[101]⟩] ∧ Below W.heap.size W w') := Lib.hid (fun W => by
    have := cut_any tAE 2 4 0 W (by omega) (by omega) (by omega) (by decide)
    rw [cutsA] at this
    exact this)
  have T2 : Hid (∀ W, Calls Try.prog 6 #[.string ⟨#[97, 98, 99, 100, 101]⟩, .int .i64 2, .int .i64 4, .int .u32 4294967295] W fun e w' => ∃ a n c, 0 < n ∧ e = .returned (.tuple #[.slice a n c, .int .i64 0]) ∧ Below W.heap.size W w') := Lib.hid (fun W => by
    refine (cut_any tAE 2 4 4294967295 W (by omega) (by omega) (by omega) (by decide)).mono ?_
    rintro e w' ⟨a, c, rfl, _, hb⟩
    exact ⟨a, _, c, cutsB, rfl, hb⟩)
  have T4 : Hid (∀ (W : World) (a : Option Addr) (c : Nat), Sl strC 1 W a [⟨#[97, 98]⟩, ⟨#[99, 100]⟩, ⟨#[101]⟩] → Calls Try.prog 8 #[.slice a 3 c, .slice (some ⟨W.heap.size, 0, none⟩) 3 3] (W.alloc (.cells #[.string ⟨#[97, 98]⟩, .string ⟨#[99, 100]⟩, .string ⟨#[101]⟩] 9)) fun e w' => e = .returned (.bool true) ∧ Below W.heap.size W w') := Lib.hid (fun W a c h => by
    refine (texts_eq [⟨#[97, 98]⟩, ⟨#[99, 100]⟩, ⟨#[101]⟩] [⟨#[97, 98]⟩, ⟨#[99, 100]⟩, ⟨#[101]⟩] a _ c 3 _ (h.keep (below_new _ _)) (sl_new W [⟨#[97, 98]⟩, ⟨#[99, 100]⟩, ⟨#[101]⟩] 9) (by decide)).mono ?_
    rintro e w' ⟨rfl, n, rfl⟩
    exact ⟨by rw [decide_eq_true rfl], below_drewN' (below_new _ _) n⟩)
  have T5 : Hid (∀ W, Calls Try.prog 9 #[.string ⟨#[]⟩] W fun e w' => e = .returned (.int .u32 0) ∧ Below W.heap.size W w') := Lib.hid (fun W => by
    have := sum_any ⟨#[]⟩ W (by decide)
    rw [sumE] at this; exact this)
  have T6 : Hid (∀ W, Calls Try.prog 9 #[.string ⟨#[97]⟩] W fun e w' => e = .returned (.int .u32 98) ∧ Below W.heap.size W w') := Lib.hid (fun W => by
    have := sum_any ⟨#[97]⟩ W (by decide)
    rw [sumA] at this; exact this)
  go_enter Try.func5, Try.ntmps5
  go_wp2_with fail
  refine (T1.out _).mono ?_
  rintro e w1 ⟨a1, c1, rfl, hs, hb⟩
  have HS := Lib.hid hs; have HB1 := Lib.hid hb
  clear hs hb
  go_wp2_with fail
  refine (T2.out _).mono ?_
  rintro e w2 ⟨a2, n2, c2, hn2, rfl, hb⟩
  have HS2 := Lib.hid (HS.out.keep hb); have HB2 := Lib.hid (below_cons HB1.out hb)
  clear hb
  go_wp2_with fail
  refine (cut_bad _ 2 1 0 _ (by omega)).mono ?_
  rintro e w' ⟨rfl, hw⟩
  obtain rfl : w2 = w' := hw.symm
  clear hw
  go_wp2_with fail
  refine (T4.out _ _ _ HS2.out).mono ?_
  rintro e w3 ⟨rfl, hb⟩
  have HB3 := Lib.hid (below_cons HB2.out hb)
  clear hb
  go_wp2_with fail
  refine (T5.out _).mono ?_
  rintro e w4 ⟨rfl, hb⟩
  have HB4 := Lib.hid (below_cons HB3.out hb)
  clear hb
  go_wp2_with fail
  refine (T6.out _).mono ?_
  rintro e w5 ⟨rfl, hb⟩
  have HB5 := Lib.hid (below_cons HB4.out hb)
  clear hb
  go_wp2
  go_ret
  exact ⟨rfl, HB5.out⟩
end Go.Proofs.Ytmjcbkjihdbhoaa

