/-
  The contract of the law's own Read.
-/
import Derived.Test.YtlhniaecgiockaaHxD
set_option linter.unusedVariables false
set_option linter.unusedSimpArgs false
namespace Go.Proofs.Ytlhniaecgiockaa
open Go.RowKit
theorem halfD_some {c d : Nat} (h : halfO c = some d) : halfD c = d := by unfold halfD; rw [h]; rfl
theorem halfD_none {c : Nat} (h : halfO c = none) : halfD c = 16 := by unfold halfD; rw [h]; rfl
theorem drop_two (s : ByteArray) (i : Nat) (h : i + 1 < s.size) : (byB s).drop i = (s[i]'(by omega)).toNat :: (s[i + 1]'h).toNat :: (byB s).drop (i + 2) := by
  have h2 : (byB s).length = s.size := byB_len s
  rw [List.drop_eq_getElem_cons (by omega), List.drop_eq_getElem_cons (by omega)]
  have ha := byB_get s i (by omega)
  have hb := byB_get s (i + 1) h
  rw [List.getD_eq_getElem?_getD, List.getElem?_eq_getElem (by omega)] at ha hb
  simp only [Option.getD_some] at ha hb
  rw [ha, hb]
end Go.Proofs.Ytlhniaecgiockaa

