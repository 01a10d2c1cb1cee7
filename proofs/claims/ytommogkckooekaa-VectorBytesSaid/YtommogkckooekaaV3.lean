/-
  The law of VectorLattice: plain part.
-/
import Derived.Test.YtommogkckooekaaV2
set_option linter.unusedVariables false
set_option linter.unusedSimpArgs false
namespace Go.Proofs.Ytommogkckooekaa
open Go.RowKit
def leV (a b : List Int) : Prop := ∀ j, j < 16 → a.getD j 0 ≤ b.getD j 0
theorem cmp_le {a b : List Int} (ha : a.length = 16) (hb : b.length = 16) : cmpV a b < 1 ↔ leV a b := by
  rw [← cmp_ref ha hb]
  have h1 := ltB_not b a 16
  unfold leV
  rw [← h1]
  unfold rcmpV
  cases ltB a b 16 <;> cases ltB b a 16 <;> simp
theorem cmp_zero {a b : List Int} (ha : a.length = 16) (hb : b.length = 16) : cmpV a b = 0 ↔ a = b := by
  rw [eq_both ha hb, ← cmp_ref ha hb]
  unfold rcmpV
  cases ltB a b 16 <;> cases ltB b a 16 <;> simp
theorem mx_le (x y z : Int) : mx x y ≤ z ↔ x ≤ z ∧ y ≤ z := by unfold mx; split <;> omega
theorem le_mx (x y : Int) : x ≤ mx x y ∧ y ≤ mx x y := by unfold mx; split <;> omega
theorem mn_le (x y : Int) : mn x y ≤ x ∧ mn x y ≤ y := by unfold mn; split <;> omega
theorem mx_assoc (x y z : Int) : mx x (mx y z) = mx (mx x y) z := by unfold mx; (repeat' split) <;> omega
theorem mx_comm (x y : Int) : mx x y = mx y x := by unfold mx; (repeat' split) <;> omega
theorem mx_self (x : Int) : mx x x = x := by unfold mx; (repeat' split) <;> omega
theorem up1 {a b : List Int} (ha : a.length = 16) : leV a (jnV mx a b) := fun j hj => by rw [jnV_get mx b ha j hj]; exact (le_mx _ _).1
theorem up2 {a b : List Int} (ha : a.length = 16) : leV b (jnV mx a b) := fun j hj => by rw [jnV_get mx b ha j hj]; exact (le_mx _ _).2
theorem dn1 {a b : List Int} (ha : a.length = 16) : leV (jnV mn a b) a := fun j hj => by rw [jnV_get mn b ha j hj]; exact (mn_le _ _).1
theorem dn2 {a b : List Int} (ha : a.length = 16) : leV (jnV mn a b) b := fun j hj => by rw [jnV_get mn b ha j hj]; exact (mn_le _ _).2
theorem least {a b c : List Int} (ha : a.length = 16) : leV (jnV mx a b) c ↔ leV a c ∧ leV b c := by
  constructor
  · intro h
    refine ⟨fun j hj => ?_, fun j hj => ?_⟩ <;> have := h j hj <;> rw [jnV_get mx b ha j hj, mx_le] at this
    · exact this.1
    · exact this.2
  · intro h j hj
    rw [jnV_get mx b ha j hj, mx_le]
    exact ⟨h.1 j hj, h.2 j hj⟩
theorem jn_assoc {a b c : List Int} (ha : a.length = 16) (hb : b.length = 16) : jnV mx a (jnV mx b c) = jnV mx (jnV mx a b) c :=
  ext16 (jnV_len _ _ ha) (jnV_len _ _ (jnV_len _ _ ha)) (fun j hj => by rw [jnV_get mx _ ha j hj, jnV_get mx _ hb j hj, jnV_get mx _ (jnV_len _ _ ha) j hj, jnV_get mx _ ha j hj, mx_assoc])
theorem jn_comm {a b : List Int} (ha : a.length = 16) (hb : b.length = 16) : jnV mx b a = jnV mx a b :=
  ext16 (jnV_len _ _ hb) (jnV_len _ _ ha) (fun j hj => by rw [jnV_get mx _ hb j hj, jnV_get mx _ ha j hj, mx_comm])
theorem jn_self {a : List Int} (ha : a.length = 16) : jnV mx a a = a :=
  ext16 (jnV_len _ _ ha) ha (fun j hj => by rw [jnV_get mx _ ha j hj, mx_self])
end Go.Proofs.Ytommogkckooekaa

