/-
  The contract of the law's awake; the law of RefsNone.
-/
import Derived.Test.YtopifdcokfdhlaaE
import Derived.Test.YtopifdcokfdhlaaTexts
import Derived.Test.YtopifdcokfdhlaaOpen
set_option linter.unusedVariables false
set_option linter.unusedSimpArgs false
namespace Go.Proofs.Ytopifdcokfdhlaa
open Go.RowKit
theorem sl_take {w : World} {a : Option Addr} {l : List ByteArray} (h : Sl strC 1 w a l) (k : Nat) : Sl strC 1 w a (l.take k) := by
  intro i hi
  rw [List.length_take] at hi
  obtain ⟨b, o, ha, hb, hc⟩ := h i (by omega)
  refine ⟨b, o, ha, hb, fun j v hv => hc j v ?_⟩
  rw [List.getElem_take] at hv
  exact hv
theorem sl_new (w : World) (l : List ByteArray) (E : TypeId) : Sl strC 1 (w.alloc (.cells (l.map Value.string).toArray E)) (some ⟨w.heap.size, 0, none⟩) l := by
  intro i hi
  refine ⟨w.heap.size, 0, rfl, by simp, fun j v hv => ?_⟩
  rw [cell_new]
  have hj : j = 0 := by
    have := (List.getElem?_eq_some_iff.1 hv).1
    simp [strC] at this; exact this
  subst hj
  simp [strC] at hv
  subst hv
  simp [hi]
theorem below_drewN' {B : Nat} {a w : World} (h : Below B a w) (n : Nat) : Below B a (w.drewN n) := h.trans ⟨rfl, rfl, rfl, Nat.le_refl _, fun _ _ => rfl⟩
abbrev ta : ByteArray := ⟨#[97]⟩
abbrev tb : ByteArray := ⟨#[98]⟩
abbrev tc : ByteArray := ⟨#[99]⟩
abbrev td : ByteArray := ⟨#[100]⟩
theorem one_le (s : ByteArray) (h : s.size ≤ 1) : s.size ≤ maxLen := Nat.le_trans h (by decide)
theorem few_good (l : List ByteArray) (h : ∀ s ∈ l, s.size ≤ 1) : ∀ s ∈ l, s.size ≤ maxLen := fun s hs => one_le s (h s hs)
theorem Kp.alloc_left {S : Nat → Prop} {w w' : World} {o : Obj} (h : Kp S (w.alloc o) w') : Kp S w w' := (Kp.new (below_new w o)).trans h
set_option maxHeartbeats 8000000 in
theorem awake_any (w : World) : Calls Try.prog 5 #[] w fun e w' => e = .returned (.bool true) ∧ Below w.heap.size w w' := by
  have T1 : Hid (∀ (W : World) (p b : Nat), Rx W p b [] → Calls Try.prog 9 #[.pointer (some ⟨p, 0, none⟩), .slice (some ⟨W.heap.size, 0, none⟩) 3 3] (W.alloc (.cells #[.string ⟨#[97]⟩, .string ⟨#[97]⟩, .string ⟨#[98]⟩] 9)) fun e w' => e = .returned (.int .i64 0) ∧ Rx w' p b [ta, ta, tb] ∧ Kp (fun i => i = b) W w') := Lib.hid (fun W p b h =>
    (add_any [ta, ta, tb] _ 3 _ (h.keep (below_new _ _)) (sl_new W [ta, ta, tb] 9) (by decide) (by decide) (few_good _ (by decide))).mono (fun _ _ h => ⟨h.1, h.2.1, h.2.2.alloc_left⟩))
  have T2 : Hid (∀ (W : World) (p b : Nat), Rx W p b [ta, ta, tb] → Calls Try.prog 8 #[.pointer (some ⟨p, 0, none⟩), .slice (some ⟨W.heap.size, 0, none⟩) 1 1] (W.alloc (.cells #[.string ⟨#[97]⟩] 9)) fun e w' => e = .returned (.bool true) ∧ Rx w' p b [ta, tb] ∧ Kp (fun i => i = b) W w') := Lib.hid (fun W p b h => by
    refine (drop_any [ta] _ 1 _ (h.keep (below_new _ _)) (sl_new W [ta] 9) (by decide) (by decide) (few_good _ (by decide))).mono ?_
    rintro e w' ⟨rfl, h1, h2⟩
    rw [show outL [ta, ta, tb] [ta] = [ta, tb] by decide] at h1
    exact ⟨by rw [show okB [ta, ta, tb] [ta] = true by decide], h1, h2.alloc_left⟩)
  have T3 : Hid (∀ (W : World) (p b : Nat), Rx W p b [ta, tb] → Calls Try.prog 8 #[.pointer (some ⟨p, 0, none⟩), .slice (some ⟨W.heap.size, 0, none⟩) 2 2] (W.alloc (.cells #[.string ⟨#[97]⟩, .string ⟨#[97]⟩] 9)) fun e w' => e = .returned (.bool false) ∧ Rx w' p b [ta, tb] ∧ Kp (fun i => i = b) W w') := Lib.hid (fun W p b h => by
    refine (drop_any [ta, ta] _ 2 _ (h.keep (below_new _ _)) (sl_new W [ta, ta] 9) (by decide) (by decide) (few_good _ (by decide))).mono ?_
    rintro e w' ⟨rfl, h1, h2⟩
    rw [show outL [ta, tb] [ta, ta] = [ta, tb] by decide] at h1
    exact ⟨by rw [show okB [ta, tb] [ta, ta] = false by decide], h1, h2.alloc_left⟩)
  have T4 : Hid (∀ (W : World) (p b : Nat), Rx W p b [ta, tb] → Calls Try.prog 11 #[.pointer (some ⟨p, 0, none⟩), .string ⟨#[97]⟩] W fun e w' => e = .returned (.int .i64 1) ∧ w' = W) := Lib.hid (fun W p b h => of_any ta W h (one_le _ (by decide)))
  have T5 : Hid (∀ (W : World) (p b : Nat), Rx W p b [ta, tb] → Calls Try.prog 11 #[.pointer (some ⟨p, 0, none⟩), .string ⟨#[98]⟩] W fun e w' => e = .returned (.int .i64 1) ∧ w' = W) := Lib.hid (fun W p b h => of_any tb W h (one_le _ (by decide)))
  have T6 : Hid (∀ (W : World) (p b : Nat), Rx W p b [ta, tb] → Calls Try.prog 14 #[.pointer (some ⟨p, 0, none⟩)] W fun e w' => e = .returned (.int .i64 2) ∧ w' = W) := Lib.hid (fun W p b h => by
    have := len_any W h
    rw [show onceK [ta, tb] [ta, tb].length = 2 by decide] at this
    exact this)
  have T7 : Hid (∀ (W : World) (p b : Nat), Rx W p b [ta, tb] → Calls Try.prog 13 #[.pointer (some ⟨p, 0, none⟩), .slice (some ⟨W.heap.size, 0, none⟩) 3 3] (W.alloc (.cells #[.string ⟨#[99]⟩, .string ⟨#[97]⟩, .string ⟨#[100]⟩] 9)) fun e w' => ∃ a c, e = .returned (.slice a 2 c) ∧ Sl strC 1 w' a [tc, td] ∧ Below W.heap.size W w') := Lib.hid (fun W p b h => by
    refine (zero_any [tc, ta, td] _ 3 _ (h.keep (below_new _ _)) (sl_new W [tc, ta, td] 9) (by decide) (few_good _ (by decide))).mono ?_
    rintro e w' ⟨v, rfl, ho, hb⟩
    rw [show zeroL [ta, tb] [tc, ta, td] = [tc, td] by decide] at ho
    obtain ⟨a, c, rfl, _, hs⟩ := own_sl (enc := strC) (size := 1) (fun _ => rfl) (by decide) ho
    exact ⟨a, c, rfl, hs, below_alloc hb⟩)
  have T8 : Hid (∀ (W : World) (a : Option Addr) (c : Nat), Sl strC 1 W a [tc, td] → Calls Try.prog 12 #[.slice a 2 c, .slice (some ⟨W.heap.size, 0, none⟩) 2 2] (W.alloc (.cells #[.string ⟨#[99]⟩, .string ⟨#[100]⟩] 9)) fun e w' => e = .returned (.bool true) ∧ Below W.heap.size W w') := Lib.hid (fun W a c h => by
    refine (texts_eq [tc, td] [tc, td] a _ c 2 _ (h.keep (below_new _ _)) (sl_new W [tc, td] 9) (by decide)).mono ?_
    rintro e w' ⟨rfl, n, rfl⟩
    exact ⟨by rw [decide_eq_true rfl], below_drewN' (below_new _ _) n⟩)
  go_enter Try.func5, Try.ntmps5
  go_wp2_with fail
  refine (new_any _).mono ?_
  rintro e w1 ⟨rfl, hx, hb⟩
  have HX1 := Lib.hid hx; have HB1 := Lib.hid hb
  clear hx hb
  obtain ⟨b, hb⟩ : ∃ b, b = w.heap.size := ⟨_, rfl⟩
  obtain ⟨p, hp⟩ : ∃ p, p = w.heap.size + 1 := ⟨_, rfl⟩
  rw [← hp, ← hb] at HX1
  rw [← hp]
  have HBE := Lib.hid hb
  clear hb hp
  have HKB : Hid (∀ w1 w2 : World, Below w.heap.size w w1 → Kp (fun i => i = b) w1 w2 → Below w.heap.size w w2) := Lib.hid (fun w1 w2 h k => h.trans (k.below (B := w.heap.size) h.size (fun j hj => by have := HBE.out; omega)))
  go_wp2_with fail
  refine (T1.out _ _ _ HX1.out).mono ?_
  rintro e w2 ⟨rfl, hx, hk⟩
  have HX2 := Lib.hid hx; have HB2 := Lib.hid (HKB.out _ _ HB1.out hk)
  clear hx hk
  go_wp2_with fail
  refine (T2.out _ _ _ HX2.out).mono ?_
  rintro e w3 ⟨rfl, hx, hk⟩
  have HX3 := Lib.hid hx; have HB3 := Lib.hid (HKB.out _ _ HB2.out hk)
  clear hx hk
  go_wp2_with fail
  refine (T3.out _ _ _ HX3.out).mono ?_
  rintro e w4 ⟨rfl, hx, hk⟩
  have HX4 := Lib.hid hx; have HB4 := Lib.hid (HKB.out _ _ HB3.out hk)
  clear hx hk
  go_wp2_with fail
  refine (T4.out _ _ _ HX4.out).mono ?_
  rintro e w' ⟨rfl, hw⟩
  obtain rfl : w4 = w' := hw.symm
  clear hw
  go_wp2_with fail
  refine (T5.out _ _ _ HX4.out).mono ?_
  rintro e w' ⟨rfl, hw⟩
  obtain rfl : w4 = w' := hw.symm
  clear hw
  go_wp2_with fail
  refine (T6.out _ _ _ HX4.out).mono ?_
  rintro e w' ⟨rfl, hw⟩
  obtain rfl : w4 = w' := hw.symm
  clear hw
  go_wp2_with fail
  refine (T7.out _ _ _ HX4.out).mono ?_
  rintro e w5 ⟨a, c, rfl, hs, hb⟩
  have HS5 := Lib.hid hs; have HB5 := Lib.hid (below_step HB4.out (Nat.le_refl _) hb)
  clear hs hb
  go_wp2_with fail
  refine (T8.out _ _ _ HS5.out).mono ?_
  rintro e w6 ⟨rfl, hb⟩
  have HB6 := Lib.hid (below_step HB5.out (Nat.le_refl _) hb)
  clear hb
  go_wp2
  go_ret
  exact ⟨rfl, HB6.out⟩
set_option maxHeartbeats 4000000 in
theorem none_walk (v : Value) (w : World) : Calls Try.prog 4 #[v] w fun e w' => e = .returned (.bool true) ∧ Below w.heap.size w w' := by
  go_enter Try.func4, Try.ntmps4
  go_wp2_with fail
  refine (add_nil _ _).mono ?_
  rintro e w' ⟨rfl, hw⟩
  obtain rfl : w = w' := hw.symm
  clear hw
  go_wp2_with fail
  refine (drop_nil _ _).mono ?_
  rintro e w' ⟨rfl, hw⟩
  obtain rfl : w = w' := hw.symm
  clear hw
  go_wp2_with fail
  refine (of_nil _ _).mono ?_
  rintro e w' ⟨rfl, hw⟩
  obtain rfl : w = w' := hw.symm
  clear hw
  go_wp2_with fail
  refine (zero_nil _ _).mono ?_
  rintro e w' ⟨rfl, hw⟩
  obtain rfl : w = w' := hw.symm
  clear hw
  go_wp2_with fail
  refine (len_nil _).mono ?_
  rintro e w' ⟨rfl, hw⟩
  obtain rfl : w = w' := hw.symm
  clear hw
  go_wp2_with fail
  refine (awake_any _).mono ?_
  rintro e w' ⟨rfl, hb⟩
  go_wp2
  go_ret
  exact ⟨rfl, hb⟩
theorem none_law (v : Value) (l : List ByteArray) (w : World) (h : StrsOk l w v) : Calls Try.prog 4 #[v] w fun e w' => e = .returned (.bool true) ∧ Below w.heap.size w w' := none_walk v w
end Go.Proofs.Ytopifdcokfdhlaa

