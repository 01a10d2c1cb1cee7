/-
  The contract of the law's Texts, which compares two lists.
-/
import Derived.Test.YtkpnhiafdfbogaaDoorKp
import Derived.Test.YtkpnhiafdfbogaaDoorStrs
import Derived.Deep.Draws
set_option linter.unusedVariables false
set_option linter.unusedSimpArgs false
namespace Go.Proofs.YtkpnhiafdfbogaaDoor
open Go.RowKit
theorem slT_str {w : World} {a : Option Addr} {xs : List ByteArray} (h : Sl strC 1 w a xs) (i : Nat) (hi : i < xs.length) : ∃ b o, a = some ⟨b, o, none⟩ ∧ b < w.heap.size ∧ w.cell? ⟨b, o + i, none⟩ = some (.string xs[i]) := by
  obtain ⟨b, o, ha, hlt, hc⟩ := h i hi
  refine ⟨b, o, ha, hlt, ?_⟩
  have := hc 0 _ rfl
  rw [Nat.mul_one, Nat.add_zero] at this
  exact this
theorem takeT_next {α : Type} (l : List α) (k : Nat) (h : k < l.length) : l.take (k + 1) = l.take k ++ [l[k]] := by rw [List.take_succ_eq_append_getElem h]
theorem eqT_take {α : Type} {l m : List α} (hl : l.length = m.length) (h : l.take l.length = m.take l.length) : l = m := by
  rw [List.take_of_length_le (Nat.le_refl _), List.take_of_length_le (by omega)] at h
  exact h
theorem texts_eq (l m : List ByteArray) (a b : Option Addr) (c d : Nat) (w : World) (ha : Sl strC 1 w a l) (hb : Sl strC 1 w b m) (hl : l.length ≤ 9007199254740992) : Calls Tryd.prog 7 #[.slice a l.length c, .slice b m.length d] w fun r w' => r = .returned (.bool (decide (l = m))) ∧ ∃ n, w' = w.drewN n := by
  by_cases hlen : l.length = m.length
  · obtain ⟨L, hL⟩ : ∃ L, L = m.length := ⟨_, rfl⟩
    obtain ⟨D, hD⟩ : ∃ D, D = decide (l = m) := ⟨_, rfl⟩
    rw [← hD, hlen, ← hL]
    rw [hlen, ← hL] at hl
    have HA := Lib.hid ha
    have HB := Lib.hid hb
    have HL := Lib.hid hL
    have HE := Lib.hid hlen
    have HD := Lib.hid hD
    clear ha hb hL hlen hD
    go_enter Tryd.func7, Tryd.ntmps7
    go_wp2
    go_loopw [5] (fun i wr => ∃ k : Nat, i = .int .i64 k ∧ k ≤ L ∧ l.take k = m.take k ∧ ∃ n, wr = w.drewN n) (fun i _ => L - (intOf i).toNat)
    case atStart => exact ⟨0, rfl, by omega, rfl, 0, rfl⟩
    case round =>
      obtain ⟨k, rfl, hk, htk, n, rfl⟩ := hrel
      have HT := Lib.hid htk
      clear htk
      by_cases hlt : k < L
      · have hkl : k < l.length := by rw [HE.out, ← HL.out]; exact hlt
        have hkm : k < m.length := by rw [← HL.out]; exact hlt
        obtain ⟨b1, o1, rfl, hb1, hc1⟩ := slT_str HA.out k hkl
        obtain ⟨b2, o2, rfl, hb2, hc2⟩ := slT_str HB.out k hkm
        obtain ⟨X, hX⟩ : ∃ X, X = l[k] := ⟨_, rfl⟩
        obtain ⟨Y, hY⟩ : ∃ Y, Y = m[k] := ⟨_, rfl⟩
        rw [← hX] at hc1
        rw [← hY] at hc2
        have HX := Lib.hid hX
        have HY := Lib.hid hY
        clear hX hY
        have d1 : (0 : Int) ≤ (k : Int) := by omega
        have d2 : (k : Int) < (L : Int) := by omega
        by_cases hxy : X = Y
        · subst hxy
          have HT2 := Lib.hid (show l.take (k + 1) = m.take (k + 1) by rw [takeT_next l k hkl, takeT_next m k hkm, HT.out, ← HX.out, ← HY.out])
          go_wp2
          go_quiet (fail)
          go_wp2
          exact ⟨⟨k + 1, vint (by omega), by omega, HT2.out, n + nq, rfl⟩, by simp [intOf]; omega⟩
        · have HN : Hid (D = false) := Lib.hid (by
            rw [HD.out]
            refine decide_eq_false (fun e => hxy ?_)
            rw [HX.out, HY.out]; simp only [e])
          have e1 := str_ne hxy
          go_wp2
          go_quiet (fail)
          go_wp2
          go_ret
          rw [HN.out]
          exact ⟨rfl, n + nq, by simp only [World.drewN_drewN]⟩
      · obtain rfl : k = L := by omega
        have HN : Hid (D = true) := Lib.hid (by
          rw [HD.out]
          refine decide_eq_true (eqT_take HE.out ?_)
          rw [HE.out, ← HL.out]; exact HT.out)
        have d1 : ¬ ((k : Int) < (k : Int)) := by omega
        go_wp2
        go_ret
        rw [HN.out]
        exact ⟨rfl, n, rfl⟩
  · have hne : l ≠ m := fun h => hlen (by rw [h])
    rw [decide_eq_false hne]
    have d1 : ((l.length : Int) == (m.length : Int)) = false := by simp; omega
    go_enter Tryd.func7, Tryd.ntmps7
    go_wp2
    go_ret
    exact ⟨rfl, 0, rfl⟩
end Go.Proofs.YtkpnhiafdfbogaaDoor

