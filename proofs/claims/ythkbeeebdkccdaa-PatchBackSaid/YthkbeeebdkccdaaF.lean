/-
  The contract of wire.list, which reads texts.
-/
import Derived.Test.YthkbeeebdkccdaaE
set_option linter.unusedVariables false
set_option linter.unusedSimpArgs false
namespace Go.Proofs.Ythkbeeebdkccdaa
open Go.RowKit
theorem infoStr : (Try.prog.info? 9).map (fun i => (i.zero, i.size, i.bytes)) = some (some (.string ⟨#[]⟩), 1, 16) := by kernel_rfl
/-- What wire.list answers: the texts, how many bytes they have, the error. -/
def lstG (s : ByteArray) : Nat → Nat → List ByteArray → List ByteArray × Nat × Int
  | 0, p, out => (out, p, 0)
  | m + 1, p, out => if (txtV (s.extract p s.size)).2.2 = 0 then lstG s m (p + (txtV (s.extract p s.size)).2.1.toNat) (out ++ [(txtV (s.extract p s.size)).1]) else ([], 0, (txtV (s.extract p s.size)).2.2)
def lstV (s : ByteArray) : List ByteArray × Nat × Int := if (readV (bys s)).2.2 = 0 then (if 4096 < (readV (bys s)).1 then ([], 0, 3) else lstG s (readV (bys s)).1.toNat (readV (bys s)).2.1.toNat []) else ([], 0, (readV (bys s)).2.2)
theorem lstV_bad {s : ByteArray} {e : Int} (he : e ≠ 0) (h : readV (bys s) = (0, 0, e)) : lstV s = ([], 0, e) := by unfold lstV; rw [h, if_neg he]
theorem lstV_long {s : ByteArray} {n k : Nat} (h : readV (bys s) = ((n : Int), (k : Int), 0)) (hn : 4096 < n) : lstV s = ([], 0, 3) := by unfold lstV; rw [h, if_pos rfl, if_pos (by dsimp only; omega)]
theorem lstV_ok {s : ByteArray} {n k : Nat} (h : readV (bys s) = ((n : Int), (k : Int), 0)) (hn : ¬ 4096 < n) : lstV s = lstG s n k [] := by unfold lstV; rw [h, if_pos rfl, if_neg (by dsimp only; omega)]; rfl
theorem lstG_zero (s : ByteArray) (p : Nat) (out : List ByteArray) : lstG s 0 p out = (out, p, 0) := rfl
theorem lstG_ok {s : ByteArray} {m p k : Nat} {out : List ByteArray} {t : ByteArray} (h : txtV (s.extract p s.size) = (t, (k : Int), 0)) : lstG s (m + 1) p out = lstG s m (p + k) (out ++ [t]) := by rw [lstG, h, if_pos rfl]; rfl
theorem lstG_bad {s : ByteArray} {m p : Nat} {out : List ByteArray} {e : Int} (he : e ≠ 0) (h : txtV (s.extract p s.size) = (⟨#[]⟩, 0, e)) : lstG s (m + 1) p out = ([], 0, e) := by rw [lstG, h, if_neg he]
theorem lstG_le {s : ByteArray} : ∀ (m p : Nat) (out : List ByteArray), p ≤ s.size → (lstG s m p out).2.1 ≤ s.size
  | 0, p, out, h => h
  | m + 1, p, out, h => by
    rcases txtV_cases (s.extract p s.size) with ⟨t, k, h1, h2, h3, h4⟩ | ⟨e, he, h1⟩
    · rw [lstG_ok h1]
      rw [ByteArray.size_extract] at h3
      exact lstG_le m (p + k) _ (by omega)
    · rw [lstG_bad he h1]; simp
theorem lstV_le (s : ByteArray) : (lstV s).2.1 ≤ s.size := by
  rcases readV_cases (bys s) with ⟨n, k, h, h1, h2, h3, h4⟩ | ⟨e, he, h⟩
  · by_cases hn : 4096 < n
    · rw [lstV_long h hn]; simp
    · rw [lstV_ok h hn]; rw [bys_len] at h4; exact lstG_le _ _ _ h4
  · rw [lstV_bad he h]; simp
def lstE (V : List ByteArray × Nat × Int) (w w' : World) (e : Ending) : Prop := ∃ a cap, e = .returned (.tuple #[.slice a V.1.length cap, .int .i64 (V.2.1 : Int), .int .i64 V.2.2]) ∧ V.1.length ≤ cap ∧ Sl strC 1 w' a V.1 ∧ (∀ b o, a = some ⟨b, o, none⟩ → w.heap.size ≤ b) ∧ Below w.heap.size w w'
def vlen : Value → Nat
  | .slice _ n _ => n
  | _ => 0
end Go.Proofs.Ythkbeeebdkccdaa

