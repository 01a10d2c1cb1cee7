/-
  A vector comes back from its bytes, and bytes from their vector.
-/
import Derived.Test.YtommogkckooekaaA7
import Derived.Test.YtommogkckooekaaPl
set_option linter.unusedVariables false
set_option linter.unusedSimpArgs false
namespace Go.Proofs.Ytommogkckooekaa
open Go.RowKit
def pK (V : List Int) : Nat → List Int
  | 0 => noughts 16
  | k + 1 => (pK V k).set k (V.getD k 0)
theorem pK_len (V : List Int) : ∀ k, (pK V k).length = 16
  | 0 => rfl
  | k + 1 => by rw [pK, List.length_set, pK_len V k]
theorem pK_get (V : List Int) (j : Nat) : ∀ k, k ≤ 16 → j < k → (pK V k).getD j 0 = V.getD j 0
  | 0, _, h => by omega
  | k + 1, hk, h => by
    rw [pK, getD_setI _ _ _ _ (by rw [pK_len]; omega)]
    split
    · next e => rw [e]
    · exact pK_get V j k (by omega) (by omega)
theorem pK_all {V : List Int} (h : V.length = 16) : pK V 16 = V := ext16 (pK_len V 16) h (fun j hj => pK_get V j 16 (by omega) hj)
/-- The bytes of a vector's last numbers. -/
def tlK (V : List Int) : Nat → ByteArray
  | 0 => ⟨#[]⟩
  | m + 1 => txt (nb (V.getD (16 - (m + 1)) 0).toNat) ++ tlK V m
theorem app_assoc (a b c : ByteArray) : a ++ b ++ c = a ++ (b ++ c) := ByteArray.append_assoc
theorem app_nil (a : ByteArray) : a ++ (⟨#[]⟩ : ByteArray) = a := by
  apply ByteArray.ext; simp
theorem nil_app (a : ByteArray) : (⟨#[]⟩ : ByteArray) ++ a = a := by
  apply ByteArray.ext; simp
theorem cat_tl (V : List Int) : ∀ m, m ≤ 16 → catK V (16 - m) ++ tlK V m = catK V 16
  | 0, _ => by rw [tlK, app_nil]
  | m + 1, h => by
    have ih := cat_tl V m (by omega)
    rw [tlK, ← app_assoc, ← ih]
    congr 1
    rw [show 16 - m = (16 - (m + 1)) + 1 by omega, catK]
theorem st_back {V : List Int} (hV : V.length = 16) (h : chkV V = 0) (r : ByteArray) : ∀ k, k ≤ 16 → stK (catK V 16 ++ r) k = (pK V k, tlK V (16 - k) ++ r, 0)
  | 0, _ => by
    have := cat_tl V 16 (by omega)
    rw [Nat.sub_self, catK, nil_app] at this
    rw [stK, pK, this]
  | k + 1, hk => by
    have h2 := chk_up h k (by omega)
    rw [stK, st_back hV h r k (by omega)]
    simp only
    rw [show 16 - k = (16 - (k + 1)) + 1 by omega, tlK, show 16 - (16 - (k + 1) + 1) = k by omega, app_assoc, numO_txt (by omega), pK]
    simp only [Int.toNat_of_nonneg h2.1]
theorem rd_back {V : List Int} (hV : V.length = 16) (h : chkV V = 0) : rdE (catK V 16) = 0 ∧ rdV (catK V 16) = V := by
  have hb := st_back hV h ⟨#[]⟩ 16 (by omega)
  rw [app_nil, app_nil, Nat.sub_self, tlK, pK_all hV] at hb
  have hE : rdE (catK V 16) = 0 := by
    unfold rdE
    rw [hb]
    simp only [doneV, if_true, h]
    rfl
  exact ⟨hE, by unfold rdV; rw [if_pos hE, hb]⟩
theorem rd_more {V : List Int} (hV : V.length = 16) (h : chkV V = 0) (r : ByteArray) (hr : r.size ≠ 0) : rdE (catK V 16 ++ r) = 5 := by
  have hb := st_back hV h r 16 (by omega)
  rw [Nat.sub_self, tlK, nil_app, pK_all hV] at hb
  unfold rdE
  rw [hb]
  simp only [doneV, if_true, if_neg hr]
  rfl
theorem catK_small {V : List Int} : ∀ k, (∀ j, j < k → (V.getD j 0).toNat < 128) → (catK V k).size = k
  | 0, _ => by rw [catK]; rfl
  | k + 1, h => by rw [catK, ByteArray.size_append, catK_small k (fun j hj => h j (by omega)), txt_size, nb_lt (h k (by omega))]; rfl
end Go.Proofs.Ytommogkckooekaa

