/-
  The contracts of the law's own readers of a text and of texts, and of its Done.
-/
import Derived.Test.YtommogkckooekaaH
set_option linter.unusedVariables false
set_option linter.unusedSimpArgs false
namespace Go.Proofs.Ytommogkckooekaa
open Go.RowKit
theorem res_two {w W : World} {p B : Nat} {x0 x1 : Value} (h : Bk p [x0, x1] W) (hb : Below B w W) (hB : B ≤ p) (o : Obj) (v0 v1 : Value) :
    (loadVar 53 ⟨p, 0, none⟩).run Try.prog (((W.setCell ⟨p, 0, none⟩ v0).setCell ⟨p, 1, none⟩ v1).alloc o) = .ok (.agg #[v0, v1]) (((W.setCell ⟨p, 0, none⟩ v0).setCell ⟨p, 1, none⟩ v1).alloc o) ∧ Below B w (((W.setCell ⟨p, 0, none⟩ v0).setCell ⟨p, 1, none⟩ v1).alloc o) := by
  have h1 := h.1
  refine ⟨load_R ?_, ((hb.setCell (p := ⟨p, 0, none⟩) hB _).setCell (p := ⟨p, 1, none⟩) hB _).alloc (by simp; omega) _⟩
  exact ((h.set 0 (by simp) v0).set 1 (by simp) v1).keep (below_new _ _)
theorem res_drew {w W : World} {p B : Nat} {x0 x1 : Value} (h : Bk p [x0, x1] W) (hb : Below B w W) (hB : B ≤ p) (o : Obj) (v0 v1 : Value) :
    (loadVar 53 ⟨p, 0, none⟩).run Try.prog (((W.setCell ⟨p, 0, none⟩ v0).setCell ⟨p, 1, none⟩ v1).alloc o).drew = .ok (.agg #[v0, v1]) (((W.setCell ⟨p, 0, none⟩ v0).setCell ⟨p, 1, none⟩ v1).alloc o).drew ∧ Below B w (((W.setCell ⟨p, 0, none⟩ v0).setCell ⟨p, 1, none⟩ v1).alloc o).drew := by
  have h1 := h.1
  refine ⟨load_R (Bk.drew ?_), (((hb.setCell (p := ⟨p, 0, none⟩) hB _).setCell (p := ⟨p, 1, none⟩) hB _).alloc (by simp; omega) _).drew⟩
  exact ((h.set 0 (by simp) v0).set 1 (by simp) v1).keep (below_new _ _)
theorem wR_after {w w1 : World} {x0 x1 v0 v1 : Value} (hb : Below ((w.alloc (.cells #[x0, x1] 53)).alloc (.cells #[v0, v1] 53)).heap.size ((w.alloc (.cells #[x0, x1] 53)).alloc (.cells #[v0, v1] 53)) w1) :
    Bk w.heap.size [x0, x1] w1 ∧ Bk (w.heap.size + 1) [v0, v1] w1 ∧ Below w.heap.size w w1 := by
  have hk := Kp.new (S := fun _ => False) hb
  refine ⟨Bk.kp (by have := (Bk.new w 53 #[x0, x1]); exact this.keep (below_new _ _)) hk (fun h => h), Bk.kp (by have := (Bk.new (w.alloc (.cells #[x0, x1] 53)) 53 #[v0, v1]); simpa using this) hk (fun h => h), ?_⟩
  exact ((below_new w _).alloc (by simp) _).trans (hb.mono (by simp; omega))
theorem ext_ext (s : ByteArray) (k n m : Nat) (h : k + m ≤ s.size) : (s.extract k s.size).extract n m = s.extract (k + n) (k + m) := by
  apply ByteArray.ext
  simp only [ByteArray.data_extract, Array.extract_extract]
  congr 1
  have : s.data.size = s.size := rfl
  omega
def txtRR (s : ByteArray) (e : Int) : Ending := .returned (.tuple #[.agg #[.string (txtO s e).2.1, .int .i64 (txtO s e).2.2], .string (txtO s e).1])
theorem rn_any (s : ByteArray) (e : Int) (w : World) (hs : s.size ≤ 1099511627776) : Calls Try.prog 33 #[.agg #[.string s, .int .i64 e]] w fun r w' => r = numRR s e ∧ Below w.heap.size w w' := by
  by_cases he : e = 0
  · subst he; exact rn_ok s w hs
  · exact rn_err s e w he
theorem rdone_any (s : ByteArray) (e : Int) (w : World) : Calls Try.prog 29 #[.agg #[.string s, .int .i64 e]] w fun r w' => r = .returned (.int .i64 (doneV s e)) ∧ Below w.heap.size w w' := by
  unfold doneV
  by_cases he : e = 0
  · subst he
    rw [if_pos rfl]
    by_cases hz : s.size = 0
    · rw [if_pos hz]
      have e2 := empty_of_zero hz
      go_enter Try.func29, Try.ntmps29
      go_wp2
      go_ret
      exact ⟨rfl, below_new _ _⟩
    · rw [if_neg hz]
      have e2 := nonempty_of_pos (b := s) (by omega)
      go_enter Try.func29, Try.ntmps29
      go_wp2
      go_ret
      exact ⟨rfl, below_new _ _⟩
  · rw [if_neg he]
    have e1 : (e == 0) = false := by simp [he]
    go_enter Try.func29, Try.ntmps29
    go_wp2
    go_ret
    exact ⟨rfl, below_new _ _⟩
end Go.Proofs.Ytommogkckooekaa

