/-
  The contracts of quota.New, Left, Of, Take and Give.
-/
import Derived.Test.YtbilnkgicpkdnaaMap
set_option linter.unusedVariables false
set_option linter.unusedSimpArgs false
namespace Go.Proofs.Ytbilnkgicpkdnaa
open Go.RowKit
/-- A quota lies at block p, its map at block b: f tells what anybody has. -/
def Qs (w : World) (p b n : Nat) (f : ByteArray → Int) (left : Int) : Prop := Bk p [.map (some b), .int .i64 left] w ∧ IM w b n f ∧ p ≠ b
theorem Qs.kp {S : Nat → Prop} {w w' : World} {p b n : Nat} {f : ByteArray → Int} {left : Int} (h : Qs w p b n f left) (k : Kp S w w') (h1 : ¬ S p) (h2 : ¬ S b) : Qs w' p b n f left :=
  ⟨h.1.kp k h1, h.2.1.kp k h2, h.2.2⟩
theorem Qs.keep {w w' : World} {p b n : Nat} {f : ByteArray → Int} {left : Int} (h : Qs w p b n f left) (k : Below w.heap.size w w') : Qs w' p b n f left := ⟨h.1.keep k, h.2.1.keep k, h.2.2⟩
theorem Qs.drew {w : World} {p b n : Nat} {f : ByteArray → Int} {left : Int} (h : Qs w p b n f left) : Qs w.drew p b n f left := h
theorem bad_any (m : Int) (w : World) (h : m < 0 ∨ 9007199254740992 < m) : Calls Try.prog 6 #[.int .i64 m] w fun e w' => e = .returned (.tuple #[.pointer none, .int .i64 1]) ∧ w' = w := by
  by_cases h1 : m < 0
  · have d1 : decide (m < 0) = true := decide_eq_true h1
    go_enter Try.func6, Try.ntmps6
    go_wp2_with fail
    go_ret2
    exact ⟨rfl, rfl⟩
  · have d1 : decide (m < 0) = false := decide_eq_false h1
    have d2 : decide (9007199254740992 < m) = true := decide_eq_true (by omega)
    go_enter Try.func6, Try.ntmps6
    go_wp2_with fail
    go_ret2
    exact ⟨rfl, rfl⟩
theorem new_any (m : Int) (w : World) (h0 : 0 ≤ m) (h1 : m ≤ 9007199254740992) : Calls Try.prog 6 #[.int .i64 m] w fun e w' => e = .returned (.tuple #[.pointer (some ⟨w.heap.size + 1, 0, none⟩), .int .i64 0]) ∧ Qs w' (w.heap.size + 1) w.heap.size 0 (fun _ => 0) m ∧ Below w.heap.size w w' := by
  have d1 : decide (m < 0) = false := decide_eq_false (by omega)
  have d2 : decide (9007199254740992 < m) = false := decide_eq_false (by omega)
  have hmm := @run_makeMap Try.prog
  go_enter Try.func6, Try.ntmps6
  go_wp2_with fail
  go_ret2
  refine ⟨rfl, ⟨?_, ?_, by omega⟩, ?_⟩
  · have := Bk.new (w.alloc (.map #[] 0)) 38 #[.map (some w.heap.size), .int .i64 m]
    simpa using this
  · exact (IM.made w).keep (below_new _ _)
  · exact below_step (below_new _ _) (Nat.le_refl _) (below_new _ _)
theorem left_nil (w : World) : Calls Try.prog 10 #[.pointer none] w fun e w' => e = .returned (.int .i64 0) ∧ w' = w := by
  go_enter Try.func10, Try.ntmps10
  go_wp2_with fail
  go_ret
  exact ⟨rfl, rfl⟩
theorem of_nil (s : ByteArray) (w : World) : Calls Try.prog 11 #[.pointer none, .string s] w fun e w' => e = .returned (.int .i64 0) ∧ w' = w := by
  go_enter Try.func11, Try.ntmps11
  go_wp2_with fail
  go_ret
  exact ⟨rfl, rfl⟩
theorem left_any {p b n : Nat} {f : ByteArray → Int} {left : Int} (w : World) (h : Qs w p b n f left) : Calls Try.prog 10 #[.pointer (some ⟨p, 0, none⟩)] w fun e w' => e = .returned (.int .i64 left) ∧ w' = w := by
  have c1 := (h.1.2 1 _ rfl).1
  go_enter Try.func10, Try.ntmps10
  go_wp2_with fail
  go_ret
  exact ⟨rfl, rfl⟩
theorem of_any {p b n : Nat} {f : ByteArray → Int} {left : Int} (s : ByteArray) (w : World) (h : Qs w p b n f left) (hs : s.size ≤ maxLen) : Calls Try.prog 11 #[.pointer (some ⟨p, 0, none⟩), .string s] w fun e w' => e = .returned (.int .i64 (f s)) ∧ w' = w := by
  have c1 := (h.1.2 0 _ rfl).1
  have hg := (h.2.1.get hs).1
  go_enter Try.func11, Try.ntmps11
  go_wp2_with fail
  go_ret
  exact ⟨rfl, rfl⟩
end Go.Proofs.Ytbilnkgicpkdnaa

