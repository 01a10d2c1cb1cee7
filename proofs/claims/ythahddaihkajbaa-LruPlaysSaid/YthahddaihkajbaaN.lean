/-
  awake.
-/
import Derived.Test.YthahddaihkajbaaM
set_option linter.unusedVariables false
set_option linter.unusedSimpArgs false
namespace Go.Proofs.Ythahddaihkajbaa
open Go.RowKit
abbrev tA : ByteArray := ⟨#[97]⟩
abbrev tB : ByteArray := ⟨#[98]⟩
abbrev tC : ByteArray := ⟨#[99]⟩
abbrev t1 : ByteArray := ⟨#[49]⟩
abbrev t2 : ByteArray := ⟨#[50]⟩
abbrev t3 : ByteArray := ⟨#[51]⟩
theorem sl_new (w : World) (l : List ByteArray) (E : TypeId) : Sl strC 1 (w.alloc (.cells (l.map Value.string).toArray E)) (some ⟨w.heap.size, 0, none⟩) l := by
  intro i hi
  refine ⟨w.heap.size, 0, rfl, by simp, fun j v hv => ?_⟩
  rw [cell_new]
  have hj : j = 0 := by
    have := (List.getElem?_eq_some_iff.1 hv).1
    simp [strC] at this; exact this
  subst hj
  simp [strC] at hv
  subst hv
  simp [hi]
theorem below_drewN' {B : Nat} {a w : World} (h : Below B a w) (n : Nat) : Below B a (w.drewN n) := h.trans ⟨rfl, rfl, rfl, Nat.le_refl _, fun _ _ => rfl⟩
set_option maxHeartbeats 8000000 in
theorem awake_any (w : World) : Calls Try.prog 5 #[] w fun e w' => e = .returned (.bool true) ∧ Below w.heap.size w w' := by
  have T1 : Hid (∀ W p, Cx w W p [] 2 → Calls Try.prog 10 #[.pointer (some ⟨p, 0, none⟩), .string ⟨#[97]⟩, .string ⟨#[49]⟩] W fun e w' => e = .returned (.tuple #[]) ∧ Cx w w' p [(tA, t1)] 2) := Lib.hid (fun W p h => by
    have := h.put tA t1 (by decide) (by decide)
    rw [show putI [] tA t1 2 = [(tA, t1)] by decide] at this; exact this)
  have T2 : Hid (∀ W p, Cx w W p [(tA, t1)] 2 → Calls Try.prog 10 #[.pointer (some ⟨p, 0, none⟩), .string ⟨#[98]⟩, .string ⟨#[50]⟩] W fun e w' => e = .returned (.tuple #[]) ∧ Cx w w' p [(tB, t2), (tA, t1)] 2) := Lib.hid (fun W p h => by
    have := h.put tB t2 (by decide) (by decide)
    rw [show putI [(tA, t1)] tB t2 2 = [(tB, t2), (tA, t1)] by decide] at this; exact this)
  have T3 : Hid (∀ W p, Cx w W p [(tB, t2), (tA, t1)] 2 → Calls Try.prog 11 #[.pointer (some ⟨p, 0, none⟩), .string ⟨#[97]⟩] W fun e w' => e = .returned (.tuple #[.string ⟨#[49]⟩, .bool true]) ∧ Cx w w' p [(tA, t1), (tB, t2)] 2) := Lib.hid (fun W p h => by
    have := h.get tA (by decide)
    rw [show getT [(tB, t2), (tA, t1)] tA = (t1, true, [(tA, t1), (tB, t2)]) by decide] at this; exact this)
  have T4 : Hid (∀ W p, Cx w W p [(tA, t1), (tB, t2)] 2 → Calls Try.prog 10 #[.pointer (some ⟨p, 0, none⟩), .string ⟨#[99]⟩, .string ⟨#[51]⟩] W fun e w' => e = .returned (.tuple #[]) ∧ Cx w w' p [(tC, t3), (tA, t1)] 2) := Lib.hid (fun W p h => by
    have := h.put tC t3 (by decide) (by decide)
    rw [show putI [(tA, t1), (tB, t2)] tC t3 2 = [(tC, t3), (tA, t1)] by decide] at this; exact this)
  have T5 : Hid (∀ W p, Cx w W p [(tC, t3), (tA, t1)] 2 → Calls Try.prog 11 #[.pointer (some ⟨p, 0, none⟩), .string ⟨#[98]⟩] W fun e w' => e = .returned (.tuple #[.string ⟨#[]⟩, .bool false]) ∧ Cx w w' p [(tC, t3), (tA, t1)] 2) := Lib.hid (fun W p h => by
    have := h.get tB (by decide)
    rw [show getT [(tC, t3), (tA, t1)] tB = (⟨#[]⟩, false, [(tC, t3), (tA, t1)]) by decide] at this; exact this)
  have T7 : Hid (∀ W p, Cx w W p [(tC, t3), (tA, t1)] 2 → Calls Try.prog 12 #[.pointer (some ⟨p, 0, none⟩), .string ⟨#[99]⟩] W fun e w' => e = .returned (.bool true) ∧ Cx w w' p [(tA, t1)] 2) := Lib.hid (fun W p h => by
    have := h.drop tC (by decide)
    rw [show findI [(tC, t3), (tA, t1)] tC = some 0 by decide, show dropI [(tC, t3), (tA, t1)] tC = [(tA, t1)] by decide] at this; exact this)
  have T8 : Hid (∀ W p, Cx w W p [(tA, t1)] 2 → Calls Try.prog 12 #[.pointer (some ⟨p, 0, none⟩), .string ⟨#[99]⟩] W fun e w' => e = .returned (.bool false) ∧ Cx w w' p [(tA, t1)] 2) := Lib.hid (fun W p h => by
    have := h.drop tC (by decide)
    rw [show findI [(tA, t1)] tC = none by decide, show dropI [(tA, t1)] tC = [(tA, t1)] by decide] at this; exact this)
  have T9 : Hid (∀ (W : World) (a : Option Addr) (c : Nat), Sl strC 1 W a [tC, tA] → Calls Try.prog 8 #[.slice a 2 c, .slice (some ⟨W.heap.size, 0, none⟩) 2 2] (W.alloc (.cells #[.string ⟨#[99]⟩, .string ⟨#[97]⟩] 9)) fun e w' => e = .returned (.bool true) ∧ Below W.heap.size W w') := Lib.hid (fun W a c h => by
    refine (texts_eq [tC, tA] [tC, tA] a _ c 2 _ (h.keep (below_new _ _)) (sl_new W [tC, tA] 9) (by decide)).mono ?_
    rintro e w' ⟨rfl, n, rfl⟩
    exact ⟨by rw [decide_eq_true rfl], below_drewN' (below_new _ _) n⟩)
  go_enter Try.func5, Try.ntmps5
  go_wp2_with fail
  refine (new_any 2 w (by decide) (by decide)).mono ?_
  rintro e w1 ⟨rfl, hc, hb⟩
  have HX1 : Hid (Cx w w1 w.heap.size [] 2) := Lib.hid ⟨_, _, hc, Nat.le_refl _, hb⟩
  clear hc hb
  obtain ⟨p, hp⟩ : ∃ p, p = w.heap.size := ⟨_, rfl⟩
  rw [← hp] at HX1
  rw [← hp]
  have HPE := Lib.hid hp
  clear hp
  go_wp2_with fail
  refine (bad_any 0 _ (by decide)).mono ?_
  rintro e w' ⟨rfl, hw⟩
  obtain rfl : w1 = w' := hw.symm
  clear hw
  go_wp2_with fail
  refine (T1.out _ _ HX1.out).mono ?_
  rintro e w2 ⟨rfl, hx⟩
  have HX2 := Lib.hid hx
  clear hx HX1
  go_wp2_with fail
  refine (T2.out _ _ HX2.out).mono ?_
  rintro e w3 ⟨rfl, hx⟩
  have HX3 := Lib.hid hx
  clear hx HX2
  go_wp2_with fail
  refine (T3.out _ _ HX3.out).mono ?_
  rintro e w4 ⟨rfl, hx⟩
  have HX4 := Lib.hid hx
  clear hx HX3
  go_wp2_with fail
  refine (T4.out _ _ HX4.out).mono ?_
  rintro e w5 ⟨rfl, hx⟩
  have HX5 := Lib.hid hx
  clear hx HX4
  go_wp2_with fail
  refine (T5.out _ _ HX5.out).mono ?_
  rintro e w6 ⟨rfl, hx⟩
  have HX6 := Lib.hid hx
  clear hx HX5
  go_wp2_with fail
  refine (HX6.out.keys (by decide)).mono ?_
  rintro e w7 ⟨a, c, rfl, hs, hx, _⟩
  have HX7 := Lib.hid hx; have HS7 := Lib.hid hs
  clear hx hs HX6
  go_wp2_with fail
  refine (T9.out _ _ _ HS7.out).mono ?_
  rintro e w8 ⟨rfl, hb⟩
  have HX8 := Lib.hid (HX7.out.keep hb)
  clear hb HX7 HS7
  go_wp2_with fail
  refine (T7.out _ _ HX8.out).mono ?_
  rintro e w9 ⟨rfl, hx⟩
  have HX9 := Lib.hid hx
  clear hx HX8
  go_wp2_with fail
  refine (T8.out _ _ HX9.out).mono ?_
  rintro e w10 ⟨rfl, hx⟩
  have HX10 := Lib.hid hx
  clear hx HX9
  go_wp2
  go_ret
  obtain ⟨_, _, _, _, hb⟩ := HX10.out
  exact ⟨rfl, hb⟩
end Go.Proofs.Ythahddaihkajbaa

