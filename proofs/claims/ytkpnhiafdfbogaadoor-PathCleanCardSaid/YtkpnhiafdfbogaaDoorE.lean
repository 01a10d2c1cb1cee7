/-
  The contracts of HasPrefix and Join, and the law's awake.
-/
import Derived.Test.YtkpnhiafdfbogaaDoorD
import Derived.Test.YtkpnhiafdfbogaaDoorTexts
set_option linter.unusedVariables false
set_option linter.unusedSimpArgs false
namespace Go.Proofs.YtkpnhiafdfbogaaDoor
open Go.RowKit
def pfB (s : ByteArray) : Bool := decide (s.data.toList.head? = some 47)
theorem pfB_none {s : ByteArray} (h : s.size = 0) : pfB s = false := by
  have : s.data.toList = [] := List.eq_nil_of_length_eq_zero (by rw [length_data]; exact h)
  unfold pfB; rw [this]; rfl
theorem pfB_at {s : ByteArray} (h : 0 < s.size) : pfB s = decide (s[0] = 47) := by
  unfold pfB
  have h1 : s.data.toList.head? = some (s.data.toList[0]'(by rw [length_data]; exact h)) := by
    rw [List.head?_eq_getElem?, List.getElem?_eq_getElem]
  rw [h1]
  rw [decide_eq_decide]
  simp only [Option.some.injEq]
  rfl
theorem ext_one {s : ByteArray} (h : 0 < s.size) : (s.extract 0 1).toList = [s[0]] := by
  rw [Lib.toList_data, Lib.extract_data]
  have hl : 0 < s.data.toList.length := by rw [length_data]; exact h
  rw [List.drop_zero, show 1 - 0 = 0 + 1 by omega, List.take_succ_eq_append_getElem hl, List.take_zero, List.nil_append]
  rfl
set_option maxHeartbeats 2000000 in
theorem pref2 (s : ByteArray) (w : World) : Calls Tryd.prog 19 #[.string s, .string ⟨#[47]⟩] w fun e w' => e = .returned (.bool (pfB s)) ∧ w' = w := by
  by_cases h : 0 < s.size
  · have e1 : (1 : Int) ≤ (s.size : Int) := by omega
    have e2 : 1 ≤ s.size := h
    have HP := Lib.hid (pfB_at h)
    have e3 : ((s.extract 0 1).toList == [47]) = decide (s[0] = 47) := by
      rw [ext_one h, Bool.eq_iff_iff, beq_iff_eq, decide_eq_true_iff]; simp
    generalize decide (s[0] = 47) = B at *
    go_enter Tryd.func19, Tryd.ntmps19
    go_wp2
    go_ret
    exact ⟨by rw [HP.out]; rfl, rfl⟩
  · have h0 : s.size = 0 := by omega
    have e1 : ¬ (1 : Int) ≤ (s.size : Int) := by omega
    have HP := Lib.hid (pfB_none h0)
    clear h0 h
    go_enter Tryd.func19, Tryd.ntmps19
    go_wp2
    go_ret
    exact ⟨by rw [HP.out]; rfl, rfl⟩
theorem pref_any (s : ByteArray) (w : World) : Calls Tryd.prog 14 #[.string s, .string ⟨#[47]⟩] w fun e w' => e = .returned (.bool (pfB s)) ∧ w' = w := by
  go_enter Tryd.func14, Tryd.ntmps14
  go_wp2_with fail
  refine (pref2 s w).mono ?_
  rintro e w' ⟨rfl, rfl⟩
  go_wp2
  go_ret
  exact ⟨rfl, rfl⟩
def joinT (a b : ByteArray) : ByteArray := if pfB b = true then cleanT b else cleanT (a ++ ⟨#[47]⟩ ++ b)
theorem size_app3 (a b : ByteArray) : (a ++ (⟨#[47]⟩ : ByteArray) ++ b).size = a.size + 1 + b.size := by
  rw [ByteArray.size_append, ByteArray.size_append]; rfl
set_option maxHeartbeats 2000000 in
theorem pjoin_any (a b : ByteArray) (w : World) (ha : a.size ≤ 1000) (hb : b.size ≤ 1000) (hm : GM w) :
    Calls Tryd.prog 11 #[.string a, .string b] w fun e w' => e = .returned (.string (joinT a b)) ∧ Below w.heap.size w w' := by
  cases hp : pfB b with
  | true =>
    have HJ : Hid (joinT a b = cleanT b) := Lib.hid (by unfold joinT; rw [if_pos hp])
    have T := Lib.hid (clean_any b w (by omega) hm)
    have HP := Lib.hid hp
    clear hp hm
    go_enter Tryd.func11, Tryd.ntmps11
    go_wp2_with fail
    refine (pref_any b w).mono ?_
    rintro e w' ⟨rfl, rfl⟩
    rw [HP.out]
    go_wp2_with fail
    refine T.out.mono ?_
    rintro e w1 ⟨rfl, hbw⟩
    have HB := Lib.hid hbw
    clear hbw
    go_wp2
    go_ret
    exact ⟨by rw [HJ.out]; rfl, HB.out⟩
  | false =>
    have HJ : Hid (joinT a b = cleanT (a ++ ⟨#[47]⟩ ++ b)) := Lib.hid (by unfold joinT; rw [if_neg (by rw [hp]; simp)])
    have T := Lib.hid (clean_any (a ++ ⟨#[47]⟩ ++ b) w (by rw [size_app3]; omega) hm)
    have HP := Lib.hid hp
    clear hp hm
    go_enter Tryd.func11, Tryd.ntmps11
    go_wp2_with fail
    refine (pref_any b w).mono ?_
    rintro e w' ⟨rfl, rfl⟩
    rw [HP.out]
    go_wp2_with fail
    refine T.out.mono ?_
    rintro e w1 ⟨rfl, hbw⟩
    have HB := Lib.hid hbw
    clear hbw
    go_wp2
    go_ret
    exact ⟨by rw [HJ.out]; rfl, HB.out⟩
theorem k1 : cleanT ⟨#[97, 47, 46, 46, 47, 98, 47, 47, 99]⟩ = ⟨#[47, 98, 47, 99]⟩ := by decide +kernel
theorem k2 : cleanT ⟨#[]⟩ = ⟨#[47]⟩ := by decide +kernel
theorem k3 : cleanT ⟨#[47, 46, 46, 47, 120, 47, 46]⟩ = ⟨#[47, 120]⟩ := by decide +kernel
theorem k4 : joinT ⟨#[47, 97]⟩ ⟨#[98]⟩ = ⟨#[47, 97, 47, 98]⟩ := by decide +kernel
theorem k5 : joinT ⟨#[47, 97]⟩ ⟨#[47, 98]⟩ = ⟨#[47, 98]⟩ := by decide +kernel
theorem k6 : partsT ⟨#[47, 97, 47, 98, 47]⟩ = [⟨#[97]⟩, ⟨#[98]⟩] := by decide +kernel
theorem sl_new (w : World) (l : List ByteArray) (E : TypeId) : Sl strC 1 (w.alloc (.cells (l.map Value.string).toArray E)) (some ⟨w.heap.size, 0, none⟩) l := by
  intro i hi
  refine ⟨w.heap.size, 0, rfl, by simp, fun j v hv => ?_⟩
  have : j = 0 := by
    cases j with
    | zero => rfl
    | succ j => simp [strC] at hv
  subst this
  simp only [strC, List.getElem?_cons_zero, Option.some.injEq] at hv
  subst hv
  rw [cell_new]
  simp [hi]
theorem t_texts (W : World) (a : Option Addr) (c : Nat) (h : Sl strC 1 W a [⟨#[97]⟩, ⟨#[98]⟩]) : Calls Tryd.prog 7 #[.slice a 2 c, .slice (some ⟨W.heap.size, 0, none⟩) 2 2] (W.alloc (.cells #[.string ⟨#[97]⟩, .string ⟨#[98]⟩] 9)) fun e w' => e = .returned (.bool true) ∧ Below W.heap.size W w' := by
  refine (texts_eq [⟨#[97]⟩, ⟨#[98]⟩] [⟨#[97]⟩, ⟨#[98]⟩] a _ c 2 _ (h.keep (below_new _ _)) (sl_new W [⟨#[97]⟩, ⟨#[98]⟩] 9) (by decide)).mono ?_
  rintro e w' ⟨rfl, n, rfl⟩
  exact ⟨by rw [decide_eq_true rfl], below_drewN (below_new _ _) n⟩
set_option maxRecDepth 100000 in
set_option maxHeartbeats 4000000 in
theorem awake_any (w : World) (hm : GM w) : Calls Tryd.prog 5 #[] w fun e w' => e = .returned (.bool true) ∧ Below w.heap.size w w' := by
  have HM := Lib.hid hm
  have T1 : Hid (∀ W, GM W → Calls Tryd.prog 10 #[.string ⟨#[97, 47, 46, 46, 47, 98, 47, 47, 99]⟩] W fun e w' => e = .returned (.string ⟨#[47, 98, 47, 99]⟩) ∧ Below W.heap.size W w') := Lib.hid (fun W h => by rw [← k1]; exact clean_any _ W (by decide) h)
  have T2 : Hid (∀ W, GM W → Calls Tryd.prog 10 #[.string ⟨#[]⟩] W fun e w' => e = .returned (.string ⟨#[47]⟩) ∧ Below W.heap.size W w') := Lib.hid (fun W h => by rw [← k2]; exact clean_any _ W (by decide) h)
  have T3 : Hid (∀ W, GM W → Calls Tryd.prog 10 #[.string ⟨#[47, 46, 46, 47, 120, 47, 46]⟩] W fun e w' => e = .returned (.string ⟨#[47, 120]⟩) ∧ Below W.heap.size W w') := Lib.hid (fun W h => by rw [← k3]; exact clean_any _ W (by decide) h)
  have T4 : Hid (∀ W, GM W → Calls Tryd.prog 11 #[.string ⟨#[47, 97]⟩, .string ⟨#[98]⟩] W fun e w' => e = .returned (.string ⟨#[47, 97, 47, 98]⟩) ∧ Below W.heap.size W w') := Lib.hid (fun W h => by rw [← k4]; exact pjoin_any _ _ W (by decide) (by decide) h)
  have T5 : Hid (∀ W, GM W → Calls Tryd.prog 11 #[.string ⟨#[47, 97]⟩, .string ⟨#[47, 98]⟩] W fun e w' => e = .returned (.string ⟨#[47, 98]⟩) ∧ Below W.heap.size W w') := Lib.hid (fun W h => by rw [← k5]; exact pjoin_any _ _ W (by decide) (by decide) h)
  have T6 : Hid (∀ W, GM W → Calls Tryd.prog 8 #[.string ⟨#[47, 97, 47, 98, 47]⟩] W fun e w' => (∃ a c, e = .returned (.slice a 2 c) ∧ Sl strC 1 w' a [⟨#[97]⟩, ⟨#[98]⟩]) ∧ Below W.heap.size W w') := Lib.hid (fun W h => by
    refine (parts_any ⟨#[47, 97, 47, 98, 47]⟩ W (by decide) h).mono ?_
    rintro e w' ⟨⟨a, c, rfl, _, hs⟩, hb⟩
    rw [k6] at hs ⊢
    exact ⟨⟨a, c, rfl, hs⟩, hb⟩)
  clear hm
  go_enter Tryd.func5, Tryd.ntmps5
  go_wp2_with fail
  refine (T1.out _ HM.out).mono ?_
  rintro e w1 ⟨rfl, hb⟩
  have HB1 := Lib.hid hb; have HM1 := Lib.hid (HM.out.keep hb)
  clear hb
  go_wp2_with fail
  refine (T2.out _ HM1.out).mono ?_
  rintro e w2 ⟨rfl, hb⟩
  have HB2 := Lib.hid (below_cons HB1.out hb); have HM2 := Lib.hid (HM1.out.keep hb)
  clear hb
  go_wp2_with fail
  refine (T3.out _ HM2.out).mono ?_
  rintro e w3 ⟨rfl, hb⟩
  have HB3 := Lib.hid (below_cons HB2.out hb); have HM3 := Lib.hid (HM2.out.keep hb)
  clear hb
  go_wp2_with fail
  refine (T4.out _ HM3.out).mono ?_
  rintro e w4 ⟨rfl, hb⟩
  have HB4 := Lib.hid (below_cons HB3.out hb); have HM4 := Lib.hid (HM3.out.keep hb)
  clear hb
  go_wp2_with fail
  refine (T5.out _ HM4.out).mono ?_
  rintro e w5 ⟨rfl, hb⟩
  have HB5 := Lib.hid (below_cons HB4.out hb); have HM5 := Lib.hid (HM4.out.keep hb)
  clear hb
  go_wp2_with fail
  refine (T6.out _ HM5.out).mono ?_
  rintro e w6 ⟨⟨a6, c6, rfl, hs⟩, hb⟩
  have HB6 := Lib.hid (below_cons HB5.out hb); have HS6 := Lib.hid hs
  clear hb hs
  go_wp2_with fail
  refine (t_texts w6 a6 c6 HS6.out).mono ?_
  rintro e w7 ⟨rfl, hb⟩
  have HB7 := Lib.hid (below_cons HB6.out hb)
  clear hb
  go_wp2
  go_ret
  exact ⟨rfl, HB7.out⟩
end Go.Proofs.YtkpnhiafdfbogaaDoor

