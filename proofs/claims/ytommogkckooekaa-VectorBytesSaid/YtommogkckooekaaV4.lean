/-
  Allocations and stores of vectors in a drawn order.
-/
import Derived.Test.YtommogkckooekaaV3
set_option linter.unusedVariables false
set_option linter.unusedSimpArgs false
namespace Go.Proofs.Ytommogkckooekaa
open Go.RowKit
theorem wp_alloc_vec {o : Oper} {a : Act} {w : World} {K : Act → World → Prop} {Q : Exit → Act → World → Prop} (ho : o.op = .alloc 23) {IZ : List Value} (hI : IZ = ints (noughts 16))
    (h : ∀ (w' : World) (p : Nat), Bk p IZ w' → p = w.heap.size → Below w.heap.size w w' → K (a.put o.dst (.pointer (some ⟨p, 0, none⟩))) w') : o.wp Try.prog a w K Q := by
  have hz := zero_vec
  have h1 := h (w.alloc (.cells (ints (noughts 16)).toArray 23)) w.heap.size (by rw [hI]; exact Bk.new w 23 (ints (noughts 16)).toArray) rfl (below_new _ _)
  obtain ⟨Z, hZ⟩ : ∃ Z, Z = (ints (noughts 16)).toArray := ⟨_, rfl⟩
  rw [← hZ] at hz h1
  have hzs : Z.size = 16 := by rw [hZ]; kernel_rfl
  have hz1 : ¬ Z = #[] := fun h => by rw [h] at hzs; cases hzs
  have hz2 : ¬ Z.size = 0 := by omega
  have hz3 : 0 < Z.size := by omega
  clear hZ h
  unfold Oper.wp execOp
  simp only [ho]
  go_simp
  exact h1
theorem wp_store_vec {o : Oper} {a : Act} {w : World} {K : Act → World → Prop} {Q : Exit → Act → World → Prop} (x y : Operand) (ho : o.op = .store 23 x y) {p : Nat} {A : Array Value} {V : List Int} {I U : List Value}
    (hx : a.eval x = .pointer (some ⟨p, 0, none⟩)) (hy : a.eval y = .agg A) (hb : Bk p U w) (hU : U.length = 16) (hI : I = ints V) (hA : A = (ints V).toArray) (hV : V.length = 16)
    (h : ∀ w' : World, Bk p I w' → Kp (fun j => j = p) w w' → K (a.put o.dst undef) w') : o.wp Try.prog a w K Q :=
  wp_store_run 23 x y ho hx hy (by rw [hA]; exact st2 hb hU hI hV) (h _ (put2 hb hU (len2 hI hV)) (Kp.setCells (Kp.refl (fun j => j = p) w) p rfl I 0))
end Go.Proofs.Ytommogkckooekaa

