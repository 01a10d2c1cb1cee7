/-
  The contracts of lease.named, bad, New and held.
-/
import Derived.Test.YtdneljlgnfondaaGMap
set_option linter.unusedVariables false
set_option linter.unusedSimpArgs false
namespace Go.Proofs.Ytdneljlgnfondaa
open Go.RowKit
/-- Who holds something, till when, and with which fence. -/
abbrev Holder := ByteArray × Int × Int
def encH (h : Holder) : Value := .agg #[.string h.1, .int .i64 h.2.1, .int .i64 h.2.2]
def repH (h : Holder) : DataW Unit := .agg [.lit (.string h.1.data.toList), .lit (.int .i64 h.2.1), .lit (.int .i64 h.2.2)]
def rdL : List Value → Option (DataW Unit × List MemPlace)
  | [.string s, .int .i64 a, .int .i64 b] => some (repH (s, a, b), [])
  | _ => none
def rdH : Value → Option (DataW Unit × List MemPlace)
  | .agg cs => rdL cs.toList
  | _ => none
def z0 : Holder := ((⟨#[]⟩ : ByteArray), 0, 0)
theorem rdL_inv {l : List Value} {x : DataW Unit} {ps : List MemPlace} (h : rdL l = some (x, ps)) : ∃ s a b, l = [.string s, .int .i64 a, .int .i64 b] ∧ x = repH (s, a, b) := by
  unfold rdL at h
  split at h
  · simp only [Option.some.injEq, Prod.mk.injEq] at h
    exact ⟨_, _, _, rfl, h.1.symm⟩
  · cases h
theorem repH_inj {x y : Holder} (h : repH x = repH y) : x = y := by
  obtain ⟨s, a, b⟩ := x
  obtain ⟨t, c, d⟩ := y
  simp only [repH, DataW.agg.injEq, List.cons.injEq, DataW.lit.injEq, Lit.string.injEq, Lit.int.injEq, true_and, and_true] at h
  obtain ⟨h1, h2, h3⟩ := h
  have h4 : s = t := ByteArray.ext (Array.toList_inj.1 h1)
  rw [h4, h2, h3]
def HM : MapOf Holder where
  T := 40
  K := 9
  E := 37
  ht := Try.underlying40
  hk := Try.underlying9
  enc := encH
  rep := repH
  rd := rdH
  z := z0
  hz := fun w => by kernel_rfl
  rd_enc := fun _ => rfl
  rd_inv := fun x v ps h => by
    unfold rdH at h
    split at h
    · rename_i cs
      obtain ⟨s, a, b, e, hx⟩ := rdL_inv h
      rw [repH_inj hx]
      obtain ⟨l⟩ := cs
      simp only at e
      rw [e]; rfl
    · cases h
/-- Leases lie at block p, their map at block b. -/
def Ls (w : World) (p b n : Nat) (f : ByteArray → Holder) (last : Int) : Prop := Bk p [.map (some b), .int .i64 last] w ∧ GM HM w b n f ∧ p ≠ b
theorem Ls.kp {S : Nat → Prop} {w w' : World} {p b n : Nat} {f : ByteArray → Holder} {last : Int} (h : Ls w p b n f last) (k : Kp S w w') (h1 : ¬ S p) (h2 : ¬ S b) : Ls w' p b n f last :=
  ⟨h.1.kp k h1, h.2.1.kp k h2, h.2.2⟩
theorem Ls.keep {w w' : World} {p b n : Nat} {f : ByteArray → Holder} {last : Int} (h : Ls w p b n f last) (k : Below w.heap.size w w') : Ls w' p b n f last := ⟨h.1.keep k, h.2.1.keep k, h.2.2⟩
theorem Ls.drew {w : World} {p b n : Nat} {f : ByteArray → Holder} {last : Int} (h : Ls w p b n f last) : Ls w.drew p b n f last := h
theorem named_yes (s : ByteArray) (w : World) (h0 : 0 < s.size) (h1 : s.size ≤ 64) : Calls Try.prog 9 #[.string s] w fun e w' => e = .returned (.bool true) ∧ w' = w := by
  have d1 := nonempty_of_pos h0
  have d2 : decide ((s.size : Int) ≤ 64) = true := decide_eq_true (by omega)
  go_enter Try.func9, Try.ntmps9
  go_wp2_with fail
  go_ret
  exact ⟨rfl, rfl⟩
theorem named_no (w : World) : Calls Try.prog 9 #[.string ⟨#[]⟩] w fun e w' => e = .returned (.bool false) ∧ w' = w := by
  go_enter Try.func9, Try.ntmps9
  go_wp2_with fail
  go_ret
  exact ⟨rfl, rfl⟩
theorem bad_no (n l : Int) (w : World) (h0 : 0 ≤ n) (h1 : n ≤ 1099511627776) (h2 : 1 ≤ l) (h3 : l ≤ 1099511627776 - n) : Calls Try.prog 10 #[.int .i64 n, .int .i64 l] w fun e w' => e = .returned (.bool false) ∧ w' = w := by
  have d1 : decide (n < 0) = false := decide_eq_false (by omega)
  have d2 : decide (1099511627776 < n) = false := decide_eq_false (by omega)
  have d3 : decide (l < 1) = false := decide_eq_false (by omega)
  have w1 : wrap64 (1099511627776 - n) = 1099511627776 - n := wrap64_id (by omega) (by omega)
  have d4 : decide (1099511627776 - n < l) = false := decide_eq_false (by omega)
  go_enter Try.func10, Try.ntmps10
  go_wp2_with fail
  go_ret
  exact ⟨rfl, rfl⟩
theorem new_any (w : World) : Calls Try.prog 12 #[] w fun e w' => e = .returned (.pointer (some ⟨w.heap.size + 1, 0, none⟩)) ∧ Ls w' (w.heap.size + 1) w.heap.size 0 (fun _ => z0) 0 ∧ Below w.heap.size w w' := by
  have hmm := @run_makeMap Try.prog
  go_enter Try.func12, Try.ntmps12
  go_wp2_with fail
  go_ret
  refine ⟨rfl, ⟨?_, ?_, by omega⟩, ?_⟩
  · have := Bk.new (w.alloc (.map #[] 0)) 42 #[.map (some w.heap.size), .int .i64 0]
    simpa using this
  · exact (GM.made HM w).keep (below_new _ _)
  · exact below_step (below_new _ _) (Nat.le_refl _) (below_new _ _)
end Go.Proofs.Ytdneljlgnfondaa

