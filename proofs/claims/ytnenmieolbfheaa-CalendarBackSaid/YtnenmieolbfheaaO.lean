/-
  How an argument that is an array of whole numbers is opened.
-/
import Derived.Test.YtnenmieolbfheaaBase
import Derived.ProofKit
namespace Go.Proofs.Ytnenmieolbfheaa
open Go.RowKit Go.WideShapes Go.ChangeShapes Go.ChangeAt
theorem open_arr {H : Type} {enc : TypeId × Value → H} {P : Program} {w : World} {base base0 : Nat} {spare : Bool} {held : TypeId → Bool} {r : Reach} {t e : TypeId} {n : Nat} {k : IntKind} {v : Value} {d : DataW H} {p : List MemPlace}
    (hs : P.underlying t = some (.array n e)) (he : P.underlying e = some (.int k)) (hce : P.cellsOf e = 1) (hct : P.cellsOf t = n)
    (hv : Value.okWide P w r base0 t v) (h : DataW.Trod enc P w base held spare t v d p) :
    ∃ zs : List Int, v = .agg (zs.map (Value.int k)).toArray ∧ zs.length = n ∧ ∀ z ∈ zs, (Lit.int k z).wf = true := by
  simp only [Value.okWide, hs] at hv
  obtain ⟨cs, rfl, hsz, _⟩ := hv
  obtain ⟨fuel, hf⟩ := h
  obtain ⟨xs, m, _, _, hlen, hxs, hall⟩ := DataW.trod_array hs hf
  simp only [Value.cells] at hlen hall
  have hl : cs.toList.length = n := by rw [Array.length_toList, hsz, hct]
  have key : ∀ l : List Value, (∀ i (hi : i < l.length), ∃ z, l[i] = Value.int k z ∧ (Lit.int k z).wf = true) → ∃ zs : List Int, l = zs.map (Value.int k) ∧ ∀ z ∈ zs, (Lit.int k z).wf = true := by
    intro l
    induction l with
    | nil => intro _; exact ⟨[], rfl, by simp⟩
    | cons a l ih =>
      intro hq
      obtain ⟨z, hz, wz⟩ := hq 0 (by simp)
      obtain ⟨zs, hzs, wzs⟩ := ih (fun i hi => by
        have := hq (i + 1) (by simp; omega)
        simpa using this)
      refine ⟨z :: zs, ?_, ?_⟩
      · simp at hz; rw [hz, hzs]; rfl
      · intro y hy
        rcases List.mem_cons.1 hy with rfl | hy
        · exact wz
        · exact wzs y hy
  obtain ⟨zs, hzs, wzs⟩ := key cs.toList (fun i hi => by
    have h1 := hall i (by omega)
    rw [hce] at h1
    have h2 : (cs.toList.drop (i * 1)).take 1 = [cs.toList[i]] := by
      rw [Nat.mul_one, List.drop_eq_getElem_cons hi]; rfl
    rw [h2, List.getElem?_eq_getElem (by omega)] at h1
    obtain ⟨z, hc, _, hw⟩ := DataW.trod_int he h1
    exact ⟨z, by simpa using hc, hw⟩)
  refine ⟨zs, ?_, ?_, wzs⟩
  · rw [← hzs]
  · have := congrArg List.length hzs
    rw [List.length_map] at this
    omega
theorem list3 {α : Type} {l : List α} (h : l.length = 3) : ∃ a b c, l = [a, b, c] := by
  match l, h with
  | [a, b, c], _ => exact ⟨a, b, c, rfl⟩
end Go.Proofs.Ytnenmieolbfheaa
