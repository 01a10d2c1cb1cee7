/-
  The contracts of Check, the code's and the law's own.
-/
import Derived.Test.YtommogkckooekaaA0
set_option linter.unusedVariables false
set_option linter.unusedSimpArgs false
namespace Go.Proofs.Ytommogkckooekaa
open Go.RowKit
def okV (x : Int) : Prop := 0 ≤ x ∧ x ≤ 1099511627776
def chkV (V : List Int) : Int := if (∀ x ∈ V, 0 ≤ x ∧ x ≤ 1099511627776) then 0 else 2
def upTo (V : List Int) (k : Nat) : Prop := ∀ i, i < k → 0 ≤ V.getD i 0 ∧ V.getD i 0 ≤ 1099511627776
theorem chk_yes {V : List Int} (h : upTo V V.length) : chkV V = 0 := by
  unfold chkV
  rw [if_pos]
  intro x hx
  obtain ⟨i, hi, rfl⟩ := List.mem_iff_getElem.1 hx
  have := h i hi
  rw [List.getD_eq_getElem?_getD, List.getElem?_eq_getElem hi] at this
  exact this
theorem chk_no {V : List Int} {k : Nat} (hk : k < V.length) (h : ¬ (0 ≤ V.getD k 0 ∧ V.getD k 0 ≤ 1099511627776)) : chkV V = 2 := by
  unfold chkV
  rw [if_neg]
  intro hc
  apply h
  rw [List.getD_eq_getElem?_getD, List.getElem?_eq_getElem hk]
  exact hc _ (List.getElem_mem hk)
theorem upTo_succ {V : List Int} {k : Nat} (h : upTo V k) (h2 : 0 ≤ V.getD k 0 ∧ V.getD k 0 ≤ 1099511627776) : upTo V (k + 1) := fun i hi => by
  by_cases e : i = k
  · subst e; exact h2
  · exact h i (by omega)
set_option maxHeartbeats 4000000 in
theorem check_any (V : List Int) (w : World) (hV : V.length = 16) : Calls Try.prog 6 #[.agg (ints V).toArray] w fun e w' => e = .returned (.int .i64 (chkV V)) ∧ Below w.heap.size w w' := by
  have HB := Lib.hid (below_new w (.cells (ints V).toArray 23))
  have HLD := Lib.hid (vec_load (Bk.new w 23 (ints V).toArray) hV)
  have HIX := Lib.hid (fun k hk => vec_index V hV k hk)
  have HVL := Lib.hid hV
  obtain ⟨C, hC⟩ : ∃ C, C = chkV V := ⟨_, rfl⟩
  rw [← hC]
  have HC := Lib.hid hC
  obtain ⟨Z, hZ⟩ : ∃ Z, Z = (ints V).toArray := ⟨_, rfl⟩
  rw [← hZ] at HLD HIX HB ⊢
  clear hZ hV hC
  go_enter Try.func6, Try.ntmps6
  go_wp2_with (refine Go.Proofs.Ytommogkckooekaa.wpList_load_run (by rfl) 23 _ (by rfl) (by rfl) HLD.out ?_)
  go_loop [6] (fun i => ∃ k : Nat, i = .int .i64 k ∧ k ≤ 16 ∧ upTo V k) (fun i => 16 - (intOf i).toNat)
  case atStart => exact ⟨0, rfl, by omega, fun i hi => by omega⟩
  case round =>
    obtain ⟨k, rfl, hk, hu⟩ := hrel
    have HU := Lib.hid hu
    clear hu
    by_cases hkt : k < 16
    · have d1 : (k : Int) < 16 := by omega
      have hix := HIX.out k hkt
      obtain ⟨x, hx⟩ : ∃ x, x = V.getD k 0 := ⟨_, rfl⟩
      simp only [← hx] at hix
      have HX := Lib.hid hx
      clear hx
      by_cases h1 : x < 0
      · have HF : Hid (C = 2) := Lib.hid (by rw [HC.out]; exact chk_no (by rw [HVL.out]; exact hkt) (by rw [← HX.out]; omega))
        go_wp2
        go_ret
        rw [HF.out]
        exact ⟨rfl, HB.out⟩
      · by_cases h2 : 1099511627776 < x
        · have HF : Hid (C = 2) := Lib.hid (by rw [HC.out]; exact chk_no (by rw [HVL.out]; exact hkt) (by rw [← HX.out]; omega))
          go_wp2
          go_ret
          rw [HF.out]
          exact ⟨rfl, HB.out⟩
        · have HU2 := Lib.hid (upTo_succ HU.out (by rw [← HX.out]; omega))
          go_wp2
          go_round
          case rel => exact ⟨k + 1, by go_num, by omega, HU2.out⟩
          case measure => simp [intOf]; omega
    · obtain rfl : k = 16 := by omega
      have HF : Hid (C = 0) := Lib.hid (by rw [HC.out]; exact chk_yes (by rw [HVL.out]; exact HU.out))
      go_wp2
      go_ret
      rw [HF.out]
      exact ⟨rfl, HB.out⟩
set_option maxHeartbeats 4000000 in
theorem rcheck_any (V : List Int) (w : World) (hV : V.length = 16) : Calls Try.prog 7 #[.agg (ints V).toArray] w fun e w' => e = .returned (.int .i64 (chkV V)) ∧ Below w.heap.size w w' := by
  have HB := Lib.hid (below_new w (.cells (ints V).toArray 23))
  have HBK : Hid (Bk w.heap.size (ints V) (w.alloc (.cells (ints V).toArray 23))) := Lib.hid (Bk.new w 23 (ints V).toArray)
  have HVL := Lib.hid hV
  obtain ⟨C, hC⟩ : ∃ C, C = chkV V := ⟨_, rfl⟩
  rw [← hC]
  have HC := Lib.hid hC
  obtain ⟨Z, hZ⟩ : ∃ Z, Z = (ints V).toArray := ⟨_, rfl⟩
  rw [← hZ] at HB HBK ⊢
  clear hZ hV hC
  go_enter Try.func7, Try.ntmps7
  go_wp2
  obtain ⟨W1, hW1⟩ : ∃ W1, W1 = w.alloc (.cells Z 23) := ⟨_, rfl⟩
  rw [← hW1] at HB HBK ⊢
  clear hW1
  go_loop [3] (fun i => ∃ k : Nat, i = .int .i64 k ∧ k ≤ 16 ∧ upTo V k) (fun i => 16 - (intOf i).toNat)
  case atStart => exact ⟨0, rfl, by omega, fun i hi => by omega⟩
  case round =>
    obtain ⟨k, rfl, hk, hu⟩ := hrel
    have HU := Lib.hid hu
    clear hu
    by_cases hkt : k < 16
    · have d1 : (k : Int) < 16 := by omega
      have d2 : (0 : Int) ≤ (k : Int) := by omega
      have cx := (HBK.out.2 k _ (ints_get V k (by rw [HVL.out]; exact hkt))).1
      obtain ⟨x, hx⟩ : ∃ x, x = V.getD k 0 := ⟨_, rfl⟩
      rw [← hx] at cx
      have HX := Lib.hid hx
      clear hx
      by_cases h1 : x < 0
      · have HF : Hid (C = 2) := Lib.hid (by rw [HC.out]; exact chk_no (by rw [HVL.out]; exact hkt) (by rw [← HX.out]; omega))
        go_wp2
        go_ret
        rw [HF.out]
        exact ⟨rfl, HB.out⟩
      · by_cases h2 : 1099511627776 < x
        · have HF : Hid (C = 2) := Lib.hid (by rw [HC.out]; exact chk_no (by rw [HVL.out]; exact hkt) (by rw [← HX.out]; omega))
          go_wp2
          go_ret
          rw [HF.out]
          exact ⟨rfl, HB.out⟩
        · have HU2 := Lib.hid (upTo_succ HU.out (by rw [← HX.out]; omega))
          go_wp2
          go_round
          case rel => exact ⟨k + 1, by go_num, by omega, HU2.out⟩
          case measure => simp [intOf]; omega
    · obtain rfl : k = 16 := by omega
      have HF : Hid (C = 0) := Lib.hid (by rw [HC.out]; exact chk_yes (by rw [HVL.out]; exact HU.out))
      go_wp2
      go_ret
      rw [HF.out]
      exact ⟨rfl, HB.out⟩
end Go.Proofs.Ytommogkckooekaa

