/-
  The walk of CrcSums: the law's function returns true, for every sum and every text, without condition.
-/
import Derived.Test.YtmjjoejhofjmjaaB
import Derived.OpenShut
namespace Go.Proofs.Ytmjjoejhofjmjaa
open Go.RowKit
theorem below_step {B : Nat} {a b c : World} (h : Below B a b) (hB : B ≤ a.heap.size) (k : Below b.heap.size b c) : Below B a c := h.trans (k.mono (by have := h.size; omega))
set_option maxHeartbeats 400000 in
theorem sums_walk (a0 : Int) (s : ByteArray) (w : World) (w0 : (Lit.int .u32 a0).wf = true) (w1 : s.size ≤ 140737488351232) :
    Calls Try.prog 3 #[.int .u32 a0, .string s] w fun e w' => e = .returned (.bool true) ∧ Below w.heap.size w w' := by
  obtain ⟨h0, h1⟩ := bounds_u32 w0
  obtain ⟨x, rfl⟩ := Int.eq_ofNat_of_zero_le h0
  clear w0
  by_cases hl : 3000 < s.size
  · go_enter Try.func3, Try.ntmps3
    go_wp2_with (go_at_call 5; refine (awake_any _).mono ?_; rintro e w' ⟨rfl, hb⟩)
    go_ret
    exact ⟨rfl, hb⟩
  · go_enter Try.func3, Try.ntmps3
    go_wp2_with fail
    refine (add_any x _ _ (by omega) (by omega)).mono ?_
    rintro e w1 ⟨rfl, hb1⟩
    go_wp2_with fail
    refine (refAdd_any x _ _ (by omega) (by omega)).mono ?_
    rintro e w1' ⟨rfl, rfl⟩
    go_wp2_with fail
    refine (sum_any _ _ (by omega)).mono ?_
    rintro e w2 ⟨rfl, hb2⟩
    go_wp2_with fail
    refine (refSum_any _ _ (by omega)).mono ?_
    rintro e w2' ⟨rfl, rfl⟩
    go_wp2_with fail
    refine (awake_any _).mono ?_
    rintro e w3 ⟨rfl, hb3⟩
    go_wp2_with fail
    go_ret
    exact ⟨rfl, below_step (below_step hb1 (Nat.le_refl _) hb2) (Nat.le_refl _) hb3⟩
end Go.Proofs.Ytmjjoejhofjmjaa
