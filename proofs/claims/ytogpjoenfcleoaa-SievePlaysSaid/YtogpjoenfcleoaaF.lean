/-
  The contract of sieve's Count.
-/
import Derived.Test.YtogpjoenfcleoaaE
import Derived.Test.YtogpjoenfcleoaaLoad
set_option linter.unusedVariables false
set_option linter.unusedSimpArgs false
namespace Go.Proofs.Ytogpjoenfcleoaa
open Go.RowKit
def cntM (m : List Bool) (k : Nat) : Nat := (m.take k).count true
theorem cntM_le (m : List Bool) (k : Nat) : cntM m k ≤ k := by
  unfold cntM
  exact Nat.le_trans List.count_le_length (by rw [List.length_take]; omega)
theorem cntM_succ (m : List Bool) (k : Nat) (h : k < m.length) : cntM m (k + 1) = cntM m k + if m.getD k false = true then 1 else 0 := by
  unfold cntM
  rw [List.take_succ_eq_append_getElem h, List.count_append]
  have : m.getD k false = m[k] := by rw [List.getD_eq_getElem?_getD, List.getElem?_eq_getElem h]; rfl
  rw [this]
  cases m[k] <;> simp
theorem Bk.left {p : Nat} {xs ys : List Value} {w : World} (h : Bk p (xs ++ ys) w) : Bk p xs w :=
  ⟨h.1, fun i v hv => h.2 i v (by
    rw [List.getElem?_append_left (List.getElem?_eq_some_iff.1 hv).1]; exact hv)⟩
theorem arr_agg (w : World) : (isAgg 36).run Try.prog w = .ok true w := by kernel_rfl
theorem arr_size (w : World) : (sizeOf 36).run Try.prog w = .ok 4096 w := by kernel_rfl
theorem sv_load {p : Nat} {m : List Bool} {b t : Int} {w : World} (h : Bk p (svC m b t) w) (hm : m.length = 4096) : (Instr.loadAt 36 (.pointer (some ⟨p, 0, none⟩))).run Try.prog w = .ok (.agg (m.map Value.bool).toArray) w := by
  have h1 : Bk p (m.map Value.bool) w := Bk.left h
  have h2 : (m.map Value.bool).length = 4096 := by rw [List.length_map, hm]
  obtain ⟨Z, hZ⟩ : ∃ Z, Z = m.map Value.bool := ⟨_, rfl⟩
  rw [← hZ] at h1 h2 ⊢
  exact load_agg arr_agg (fun w => by rw [h2]; exact arr_size w) h1
theorem index_gen {P : Program} {T E : TypeId} {n : Nat} {cs : Array Value} {k : Nat} {v : Value} {w : World} (hu : (underlying T).run P w = .ok (.array n E) w) (hs : (sizeOf E).run P w = .ok 1 w) (ha : (isAgg E).run P w = .ok false w) (hk : k < n) (hv : cs[k]? = some v) : (Instr.index T (.agg cs) (.int .i64 (k : Int))).run P w = .ok v w := by
  have h1 : (k : Int) < (n : Int) := by omega
  simp only [Instr.index, asIntOf, Sem.run_bind, Sem.run_pure, Result.andThen_ok, hu]
  rw [if_pos ⟨by omega, h1⟩]
  simp [Sem.run_bind, hs, part, ha, hv]
theorem arr_under (w : World) : (underlying 36).run Try.prog w = .ok (.array 4096 4) w := by kernel_rfl
theorem sv_get (m : List Bool) (k : Nat) (hk : k < m.length) : (m.map Value.bool).toArray[k]? = some (.bool (m.getD k false)) := by
  simp [List.getD_eq_getElem?_getD, hk]
theorem sv_index (m : List Bool) (hm : m.length = 4096) (k : Nat) (hk : k < 4096) (w : World) : (Instr.index 36 (.agg (m.map Value.bool).toArray) (.int .i64 (k : Int))).run Try.prog w = .ok (.bool (m.getD k false)) w :=
  index_gen (arr_under w) (by kernel_rfl) (by kernel_rfl) hk (sv_get m k (by rw [hm]; exact hk))
end Go.Proofs.Ytogpjoenfcleoaa

