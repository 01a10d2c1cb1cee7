/-
  The contract of the law's awake.
-/
import Derived.Test.YtdpgbcogoilniaaC
set_option linter.unusedVariables false
set_option linter.unusedSimpArgs false
namespace Go.Proofs.Ytdpgbcogoilniaa
open Go.RowKit
theorem k1 : isB [97, 42, 99] [97, 98, 98, 99] = true := by simp [isB, partsOf, mat, one]
theorem k2 : isB [97, 63, 99] [97, 99] = false := by simp [isB, partsOf, mat, one]
theorem k3 : isB [92, 42] [42] = true := by simp [isB, partsOf, mat, one]
theorem k4 : isB [92, 42] [120] = false := by simp [isB, partsOf, mat, one]
theorem k5 : isB [] [] = true := by simp [isB, partsOf, mat, one]
def ab : ByteArray := ⟨#[97, 98]⟩
def ba : ByteArray := ⟨#[98]⟩
def aa : ByteArray := ⟨#[97]⟩
theorem p6 : partsOf [97, 42] = some [(0, 97), (42, 0)] := by decide
theorem f6 : [ab, ba, aa].filter (fun s => mat [(0, 97), (42, 0)] s.data.toList) = [ab, aa] := by
  have e1 : mat [(0, 97), (42, 0)] ab.data.toList = true := by simp [ab, mat, one]
  have e2 : mat [(0, 97), (42, 0)] ba.data.toList = false := by simp [ba, mat, one]
  have e3 : mat [(0, 97), (42, 0)] aa.data.toList = true := by simp [aa, mat, one]
  simp [List.filter_cons, e1, e2, e3]
theorem new_texts (w : World) (E : TypeId) (l : List ByteArray) (cs : Array Value) (h : cs = (l.map Value.string).toArray) : Sl encT 1 (w.alloc (.cells cs E)) (some ⟨w.heap.size, 0, none⟩) l := by
  subst h
  refine fun i hi => ⟨w.heap.size, 0, rfl, by simp, fun j u hj => ?_⟩
  have hj2 : j < 1 := (List.getElem?_eq_some_iff.1 hj).1
  obtain rfl : j = 0 := by omega
  rw [cell_new]
  have : some (Value.string l[i]) = some u := hj
  simp [hi, this]
set_option maxHeartbeats 2000000 in
theorem awake_any (w : World) : Calls Try.prog 4 #[] w fun e w' => e = .returned (.bool true) ∧ Below w.heap.size w w' := by
  go_enter Try.func4, Try.ntmps4
  go_wp2_with fail
  refine (some_any _ [ab, ba, aa] _ _ _ (by decide) (by decide) (by decide) (new_texts _ _ _ _ rfl)).mono ?_
  rintro e w1 ⟨hb1, ⟨l, a, cap, hl, rfl, hs⟩ | ⟨hl, rfl⟩⟩
  rotate_left
  · exact absurd (p6.symm.trans hl) (by simp)
  obtain rfl := Option.some.inj (p6.symm.trans hl)
  rw [f6] at hs
  rw [f6]
  have HS := Lib.hid hs
  clear hl hs
  have HB1 := Lib.hid (below_alloc hb1)
  clear hb1
  go_wp2_with fail
  refine (some_any none [] 0 _ _ (by decide) (by decide) (by decide) (Sl.nil _ _ _ _)).mono ?_
  rintro e w2 ⟨hb2, ⟨l, a2, cap2, hl, rfl, hs⟩ | ⟨hl, rfl⟩⟩
  · exact absurd (hl.symm.trans partsOf_cut) (by simp)
  clear hl
  have HS2 := Lib.hid (HS.out.keep hb2)
  have HB2 := Lib.hid (below_cons HB1.out hb2)
  clear hb2
  go_wp2_with fail
  refine (Is_any _ _ _ (by decide) (by decide)).mono ?_
  rintro e w3 ⟨rfl, hb3⟩
  rw [k1]
  have HS3 := Lib.hid (HS2.out.keep hb3)
  have HB3 := Lib.hid (below_cons HB2.out hb3)
  clear hb3
  go_wp2_with fail
  refine (Is_any _ _ _ (by decide) (by decide)).mono ?_
  rintro e w4 ⟨rfl, hb4⟩
  rw [k2]
  have HS4 := Lib.hid (HS3.out.keep hb4)
  have HB4 := Lib.hid (below_cons HB3.out hb4)
  clear hb4
  go_wp2_with fail
  refine (Is_any _ _ _ (by decide) (by decide)).mono ?_
  rintro e w5 ⟨rfl, hb5⟩
  rw [k3]
  have HS5 := Lib.hid (HS4.out.keep hb5)
  have HB5 := Lib.hid (below_cons HB4.out hb5)
  clear hb5
  go_wp2_with fail
  refine (Is_any _ _ _ (by decide) (by decide)).mono ?_
  rintro e w6 ⟨rfl, hb6⟩
  rw [k4]
  have HS6 := Lib.hid (HS5.out.keep hb6)
  have HB6 := Lib.hid (below_cons HB5.out hb6)
  clear hb6
  go_wp2_with fail
  refine (Is_any _ _ _ (by decide) (by decide)).mono ?_
  rintro e w7 ⟨rfl, hb7⟩
  rw [k5]
  have HS7 := Lib.hid (HS6.out.keep hb7)
  have HB7 := Lib.hid (below_cons HB6.out hb7)
  clear hb7
  go_wp2_with fail
  refine (texts_any _ _ [ab, aa] [ab, aa] _ _ _ (by decide) (by decide) (HS7.out.keep (below_new _ _)) (new_texts _ _ _ _ rfl)).mono ?_
  rintro e w8 ⟨rfl, hb8⟩
  have HB8 := Lib.hid (below_cons HB7.out (below_alloc hb8))
  clear hb8
  have ht : decide ([ab, aa] = [ab, aa]) = true := by simp
  rw [ht]
  go_wp2_with fail
  go_ret
  exact ⟨rfl, HB8.out⟩
end Go.Proofs.Ytdpgbcogoilniaa
