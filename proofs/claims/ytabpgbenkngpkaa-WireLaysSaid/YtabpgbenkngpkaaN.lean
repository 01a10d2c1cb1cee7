/-
  The walk of WireLays.
-/
import Derived.Test.YtabpgbenkngpkaaL
set_option linter.unusedVariables false
set_option linter.unusedSimpArgs false
namespace Go.Proofs.Ytabpgbenkngpkaa
open Go.RowKit
def isNum (e : Ending) : Prop := ∃ (A : ByteArray) (E : Int), e = .returned (.tuple #[.string A, .int .i64 E])
theorem numR_is (n : Int) : ∃ (A : ByteArray) (E : Int), numR n = .returned (.tuple #[.string A, .int .i64 E]) := ⟨_, _, rfl⟩
theorem textR_is (s : ByteArray) : ∃ (A : ByteArray) (E : Int), textR s = .returned (.tuple #[.string A, .int .i64 E]) := by
  unfold textR; split <;> exact ⟨_, _, rfl⟩
theorem listR_is (l : List ByteArray) : ∃ (A : ByteArray) (E : Int), listR l = .returned (.tuple #[.string A, .int .i64 E]) := by
  unfold listR; split <;> exact ⟨_, _, rfl⟩
theorem lays_big (n : Int) (s : ByteArray) (a : Option Addr) (len cap : Nat) (w : World) (hb : 70000 < s.size ∨ 5000 < len) : Calls Try.prog 3 #[.int .i64 n, .string s, .slice a len cap] w fun e w' => e = .returned (.bool true) ∧ Below w.heap.size w w' := by
  obtain ⟨A, E, hA⟩ := numR_is n
  have HA := Lib.hid hA
  clear hA
  have e0 := str_eq (X := A) rfl
  have hd : (70000 : Int) < (s.size : Int) ∨ (¬ (70000 : Int) < (s.size : Int) ∧ (5000 : Int) < (len : Int)) := by omega
  go_enter Try.func3, Try.ntmps3
  go_wp2_with fail
  refine (num_any n w).mono ?_
  rintro e w1 ⟨rfl, hb1⟩
  rw [HA.out]
  go_wp2_with fail
  refine (rnum_any n w1).mono ?_
  rintro e w2 ⟨rfl, hb2⟩
  rw [HA.out]
  have HB2 := Lib.hid (below_step hb1 (Nat.le_refl _) hb2)
  clear hb1 hb2 hb
  rcases hd with hd | ⟨hd, hd2⟩
  all_goals
    go_wp2_with fail
    refine (awake_any _).mono ?_
    rintro e w3 ⟨rfl, hb3⟩
    go_wp2
    go_ret
    exact ⟨rfl, below_step HB2.out (Nat.le_refl _) hb3⟩
theorem lays_walk (n : Int) (s : ByteArray) (l : List ByteArray) (a : Option Addr) (cap : Nat) (w : World) (h1 : s.size ≤ 70000) (h2 : l.length ≤ 5000) (hs : Sl strC 1 w a l) : Calls Try.prog 3 #[.int .i64 n, .string s, .slice a l.length cap] w fun e w' => e = .returned (.bool true) ∧ Below w.heap.size w w' := by
  obtain ⟨A, E, hA⟩ := numR_is n
  obtain ⟨C, F, hC⟩ := textR_is s
  obtain ⟨X, G, hX⟩ := listR_is l
  have HA := Lib.hid hA
  have HC := Lib.hid hC
  have HX := Lib.hid hX
  have HS := Lib.hid hs
  clear hA hC hX hs
  have e0 := str_eq (X := A) rfl
  have e1 := str_eq (X := C) rfl
  have e2 := str_eq (X := X) rfl
  have hd : ¬ (70000 : Int) < (s.size : Int) := by omega
  have hd2 : ¬ (5000 : Int) < (l.length : Int) := by omega
  go_enter Try.func3, Try.ntmps3
  go_wp2_with fail
  refine (num_any n w).mono ?_
  rintro e w1 ⟨rfl, hb1⟩
  rw [HA.out]
  go_wp2_with fail
  refine (rnum_any n w1).mono ?_
  rintro e w2 ⟨rfl, hb2⟩
  rw [HA.out]
  have HB2 := Lib.hid (below_step hb1 (Nat.le_refl _) hb2)
  clear hb1 hb2
  go_wp2_with fail
  refine (text_put s w2).mono ?_
  rintro e w3 ⟨rfl, hb3⟩
  rw [HC.out]
  go_wp2_with fail
  refine (rtext_put s w3).mono ?_
  rintro e w4 ⟨rfl, hb4⟩
  rw [HC.out]
  have HB4 := Lib.hid (below_step (below_step HB2.out (Nat.le_refl _) hb3) (Nat.le_refl _) hb4)
  clear hb3 hb4
  go_wp2
  go_loop [15] (fun i => ∃ k : Nat, i = .int .i64 k ∧ k ≤ l.length) (fun i => l.length - (intOf i).toNat)
  case atStart => exact ⟨0, rfl, by omega⟩
  case round =>
    obtain ⟨k, rfl, hk⟩ := hrel
    by_cases hlt : k < l.length
    · obtain ⟨b, o, rfl, hbl, hc0⟩ := sl_str HS.out k hlt
      have hc : w4.cell? ⟨b, o + k, none⟩ = some (.string l[k]) := by rw [HB4.out.cell (p := ⟨b, o + k, none⟩) hbl]; exact hc0
      obtain ⟨Y, hY⟩ : ∃ Y, Y = l[k] := ⟨_, rfl⟩
      rw [← hY] at hc
      clear hc0 hY
      by_cases hy : 300 < Y.size ∧ Y.size ≤ 65536
      · have f1 : (300 : Int) < (Y.size : Int) := by omega
        have f2 : (Y.size : Int) ≤ 65536 := by omega
        go_wp2_with fail
        refine (awake_any _).mono ?_
        rintro e w5 ⟨rfl, hb5⟩
        go_wp2
        go_ret
        exact ⟨rfl, below_step HB4.out (Nat.le_refl _) hb5⟩
      · have f : ¬ (300 : Int) < (Y.size : Int) ∨ ((300 : Int) < (Y.size : Int) ∧ ¬ (Y.size : Int) ≤ 65536) := by omega
        rcases f with f | ⟨f, f2⟩
        all_goals
          go_wp2
          exact ⟨⟨k + 1, vint (by omega), by omega⟩, by simp [intOf]; omega⟩
    · obtain rfl : k = l.length := by omega
      have d1 : ¬ ((l.length : Int) < (l.length : Int)) := by omega
      have HS2 := Lib.hid (HS.out.keep HB4.out)
      go_wp2_with fail
      refine (list_put l a cap w4 HS2.out).mono ?_
      rintro e w5 ⟨rfl, hb5⟩
      rw [HX.out]
      have HB5 := Lib.hid (below_step HB4.out (Nat.le_refl _) hb5)
      have HS3 := Lib.hid (HS.out.keep HB5.out)
      go_wp2_with fail
      refine (rlist_put l a cap w5 HS3.out).mono ?_
      rintro e w6 ⟨rfl, hb6⟩
      rw [HX.out]
      have HB6 := Lib.hid (below_step HB5.out (Nat.le_refl _) hb6)
      clear hb5 hb6
      go_wp2_with fail
      refine (awake_any _).mono ?_
      rintro e w7 ⟨rfl, hb7⟩
      go_wp2
      go_ret
      exact ⟨rfl, below_step HB6.out (Nat.le_refl _) hb7⟩
theorem lays_law (n : Int) (s : ByteArray) (v : Value) (l : List ByteArray) (w : World) (w0 : (Lit.int .i64 n).wf = true) (w1 : s.size ≤ 140737488351232) (h : StrsOk l w v) : Calls Try.prog 3 #[.int .i64 n, .string s, v] w fun e w' => e = .returned (.bool true) ∧ Below w.heap.size w w' := by
  obtain ⟨a, cap, rfl, _, _, hs, _⟩ := h
  by_cases hb : 70000 < s.size ∨ 5000 < l.length
  · exact lays_big n s a _ cap w hb
  · exact lays_walk n s l a cap w (by omega) (by omega) hs
end Go.Proofs.Ytabpgbenkngpkaa

