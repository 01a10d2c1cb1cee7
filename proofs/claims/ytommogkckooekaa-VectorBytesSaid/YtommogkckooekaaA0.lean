/-
  Vectors of sixteen whole numbers in memory: loaded, indexed, compared.
-/
import Derived.Test.YtommogkckooekaaK
import Derived.Test.YtommogkckooekaaLoad
import Derived.Test.YtommogkckooekaaArr
import Derived.Test.YtommogkckooekaaRows2
set_option linter.unusedVariables false
set_option linter.unusedSimpArgs false
namespace Go.Proofs.Ytommogkckooekaa
open Go.RowKit
def ints (l : List Int) : List Value := l.map (Value.int .i64)
theorem ints_len (l : List Int) : (ints l).length = l.length := by simp [ints]
theorem ints_get (l : List Int) (k : Nat) (h : k < l.length) : (ints l)[k]? = some (.int .i64 (l.getD k 0)) := by
  simp [ints, List.getD_eq_getElem?_getD, h]
theorem ints_set (l : List Int) (k : Nat) (x : Int) : (ints l).set k (.int .i64 x) = ints (l.set k x) := by
  unfold ints; rw [List.map_set]
theorem ints_one (l : List Int) : ∀ v ∈ ints l, v.oneCell' = true := by
  intro v hv
  obtain ⟨x, _, rfl⟩ := List.mem_map.1 hv
  rfl
theorem vec_agg (w : World) : (isAgg 23).run Try.prog w = .ok true w := by kernel_rfl
theorem vec_size (w : World) : (sizeOf 23).run Try.prog w = .ok 16 w := by kernel_rfl
theorem vec_under (w : World) : (underlying 23).run Try.prog w = .ok (.array 16 3) w := by kernel_rfl
theorem vec_load {p : Nat} {V : List Int} {w : World} (h : Bk p (ints V) w) (hV : V.length = 16) : (Instr.loadAt 23 (.pointer (some ⟨p, 0, none⟩))).run Try.prog w = .ok (.agg (ints V).toArray) w := by
  have h2 : (ints V).length = 16 := by rw [ints_len, hV]
  obtain ⟨Z, hZ⟩ : ∃ Z, Z = ints V := ⟨_, rfl⟩
  rw [← hZ] at h h2 ⊢
  exact load_agg vec_agg (fun w => by rw [h2]; exact vec_size w) h
theorem vec_var {p : Nat} {V : List Int} {w : World} (h : Bk p (ints V) w) (hV : V.length = 16) : (loadVar 23 ⟨p, 0, none⟩).run Try.prog w = .ok (.agg (ints V).toArray) w := by
  have h2 : (ints V).length = 16 := by rw [ints_len, hV]
  obtain ⟨Z, hZ⟩ : ∃ Z, Z = ints V := ⟨_, rfl⟩
  rw [← hZ] at h h2 ⊢
  exact load_var vec_agg (fun w => by rw [h2]; exact vec_size w) h
theorem index_gen {P : Program} {T E : TypeId} {n : Nat} {cs : Array Value} {k : Nat} {v : Value} {w : World} (hu : (underlying T).run P w = .ok (.array n E) w) (hs : (sizeOf E).run P w = .ok 1 w) (ha : (isAgg E).run P w = .ok false w) (hk : k < n) (hv : cs[k]? = some v) : (Instr.index T (.agg cs) (.int .i64 (k : Int))).run P w = .ok v w := by
  have h1 : (k : Int) < (n : Int) := by omega
  simp only [Instr.index, asIntOf, Sem.run_bind, Sem.run_pure, Result.andThen_ok, hu]
  rw [if_pos ⟨by omega, h1⟩]
  simp [Sem.run_bind, hs, part, ha, hv]
theorem vec_index (V : List Int) (hV : V.length = 16) (k : Nat) (hk : k < 16) (w : World) : (Instr.index 23 (.agg (ints V).toArray) (.int .i64 (k : Int))).run Try.prog w = .ok (.int .i64 (V.getD k 0)) w :=
  index_gen (vec_under w) (by kernel_rfl) (by kernel_rfl) hk (by rw [List.getElem?_toArray]; exact ints_get V k (by omega))
def noughts (n : Nat) : List Int := List.replicate n 0
theorem zero_vec (w : World) : (zeroValue 23).run Try.prog w = .ok (.agg (ints (noughts 16)).toArray) w := by kernel_rfl
theorem vec_eql (X Y : List Int) (hX : X.length = 16) (hY : Y.length = 16) (w : World) : (binOp .eql 23 (.agg (ints X).toArray) (.agg (ints Y).toArray)).run Try.prog w = .ok (.bool (decide (X = Y))) w := by
  have h := run_equalIn_arr (P := Try.prog) 23 3 .i64 16 X Y hX hY (by kernel_rfl) (by kernel_rfl) (fun w => by kernel_rfl) (fun w => by kernel_rfl) w
  simp only [binOp, Op.equal, Op.maxDepth]
  simp only [ints, Sem.run_bind, h, Result.andThen_ok, Sem.run_pure]
end Go.Proofs.Ytommogkckooekaa

