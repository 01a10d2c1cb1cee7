/-
  How arguments are opened: arrays of whole numbers; slices whose elements are of any kind that can be told.
-/
import Derived.Test.YtkpnhiafdfbogaaDoorBase2
import Derived.ProofKit
import Derived.Deep.Slices
namespace Go.Proofs.YtkpnhiafdfbogaaDoor
open Go.RowKit Go.WideShapes Go.ChangeShapes Go.ChangeAt Go.Deep
theorem open_arr_of {H : Type} {enc : TypeId × Value → H} {P : Program} {w : World} {base : Nat} {spare : Bool} {held : TypeId → Bool} {t e : TypeId} {n fuel : Nat} {k : IntKind} {cs : List Value} {x : DataW H × List MemPlace}
    (hs : P.underlying t = some (.array n e)) (he : P.underlying e = some (.int k)) (hce : P.cellsOf e = 1) (hct : P.cellsOf t = n)
    (hf : DataW.trod enc P w base held spare fuel t cs = some x) :
    ∃ zs : List Int, cs = zs.map (Value.int k) ∧ zs.length = n ∧ ∀ z ∈ zs, (Lit.int k z).wf = true := by
  obtain ⟨xs, m, _, _, hlen, hxs, hall⟩ := DataW.trod_array hs hf
  have hl : cs.length = n := by rw [hlen, hct]
  have key : ∀ l : List Value, (∀ i (hi : i < l.length), ∃ z, l[i] = Value.int k z ∧ (Lit.int k z).wf = true) → ∃ zs : List Int, l = zs.map (Value.int k) ∧ ∀ z ∈ zs, (Lit.int k z).wf = true := by
    intro l
    induction l with
    | nil => intro _; exact ⟨[], rfl, by simp⟩
    | cons a l ih =>
      intro hq
      obtain ⟨z, hz, wz⟩ := hq 0 (by simp)
      obtain ⟨zs, hzs, wzs⟩ := ih (fun i hi => by
        have := hq (i + 1) (by simp; omega)
        simpa using this)
      refine ⟨z :: zs, ?_, ?_⟩
      · simp at hz; rw [hz, hzs]; rfl
      · intro y hy
        rcases List.mem_cons.1 hy with rfl | hy
        · exact wz
        · exact wzs y hy
  obtain ⟨zs, hzs, wzs⟩ := key cs (fun i hi => by
    have h1 := hall i (by omega)
    rw [hce] at h1
    have h2 : (cs.drop (i * 1)).take 1 = [cs[i]] := by
      rw [Nat.mul_one, List.drop_eq_getElem_cons hi]; rfl
    rw [h2, List.getElem?_eq_getElem (by omega)] at h1
    obtain ⟨z, hc, _, hw⟩ := DataW.trod_int he h1
    exact ⟨z, by simpa using hc, hw⟩)
  refine ⟨zs, hzs, ?_, wzs⟩
  have := congrArg List.length hzs
  rw [List.length_map] at this
  omega
theorem open_arr {H : Type} {enc : TypeId × Value → H} {P : Program} {w : World} {base base0 : Nat} {spare : Bool} {held : TypeId → Bool} {r : Reach} {t e : TypeId} {n : Nat} {k : IntKind} {v : Value} {d : DataW H} {p : List MemPlace}
    (hs : P.underlying t = some (.array n e)) (he : P.underlying e = some (.int k)) (hce : P.cellsOf e = 1) (hct : P.cellsOf t = n)
    (hv : Value.okWide P w r base0 t v) (h : DataW.Trod enc P w base held spare t v d p) :
    ∃ zs : List Int, v = .agg (zs.map (Value.int k)).toArray ∧ zs.length = n ∧ ∀ z ∈ zs, (Lit.int k z).wf = true := by
  simp only [Value.okWide, hs] at hv
  obtain ⟨cs, rfl, hsz, _⟩ := hv
  obtain ⟨fuel, hf⟩ := h
  obtain ⟨zs, hzs, hl, wzs⟩ := open_arr_of hs he hce hct hf
  refine ⟨zs, ?_, hl, wzs⟩
  simp only [Value.cells] at hzs
  rw [← hzs]
theorem list2 {α : Type} {l : List α} (h : l.length = 2) : ∃ a b, l = [a, b] := by
  match l, h with
  | [a, b], _ => exact ⟨a, b, rfl⟩
theorem list3 {α : Type} {l : List α} (h : l.length = 3) : ∃ a b c, l = [a, b, c] := by
  match l, h with
  | [a, b, c], _ => exact ⟨a, b, c, rfl⟩
/-- A slice whose elements' cells are told by E, each one good. -/
theorem open_sl {α : Type} (E : α → List Value) (good : α → Prop) (size : Nat) {H : Type} {enc : TypeId × Value → H} {P : Program} {w : World} {base base0 : Nat} {spare : Bool} {held : TypeId → Bool} {r : Reach} {t e : TypeId} {v : Value} {d : DataW H} {p : List MemPlace}
    (ht : P.underlying t = some (.slice e)) (hsize : P.cellsOf e = size) (hpos : 0 < size) (hlen : ∀ x, (E x).length = size)
    (hE : ∀ (n : Nat) (cs : List Value) (y : DataW H × List MemPlace), DataW.trod enc P w base held spare n e cs = some y → ∃ x, cs = E x ∧ good x)
    (hv : Value.okWide P w r base0 t v) (h : DataW.Trod enc P w base held spare t v d p) :
    ∃ xs : List α, (∃ a cap, v = .slice a xs.length cap ∧ xs.length ≤ cap ∧ Sl E size w a xs) ∧ xs.length ≤ maxLen ∧ ∀ x ∈ xs, good x := by
  obtain ⟨a0, len0, cap0, rfl⟩ := okWide_slice ht hv
  obtain ⟨fuel, hf⟩ := h
  simp only [Value.cells] at hf
  rcases open_slice ht hf with ⟨hcs, _⟩ | ⟨a, len, cap, m, n, D, Pl, hcs, hb, hl, hm, hmm, _, hcell⟩
  · simp at hcs
    obtain ⟨rfl, rfl, rfl⟩ := hcs
    exact ⟨[], ⟨none, 0, rfl, Nat.zero_le _, Sl.nil _ _ _ _⟩, Nat.zero_le _, by simp⟩
  · simp at hcs
    obtain ⟨rfl, rfl, rfl⟩ := hcs
    have hlm : len0 ≤ m := by rw [hmm]; split <;> omega
    have hspot : 0 < len0 → a.spot = none := by
      intro h0
      obtain ⟨cs', hc, htr⟩ := hcell 0 (by omega)
      rw [hsize] at hc
      obtain ⟨x, rfl, _⟩ := hE _ _ _ htr
      have hx0 : 0 < (E x).length := by rw [hlen]; exact hpos
      have h1 := (World.cells?_some hc).2.2 0 hpos
      rw [Nat.zero_mul, Addr.add_zero', Addr.add_zero', List.getElem?_eq_getElem hx0] at h1
      cases hs : a.spot with
      | none => rfl
      | some q =>
        unfold World.cell? at h1
        rw [hs] at h1
        split at h1 <;> simp at h1
    have each : ∀ i, i < len0 → ∃ x, good x ∧ (∃ b o, a = ⟨b, o, none⟩ ∧ b < w.heap.size ∧ ∀ j v, (E x)[j]? = some v → w.cell? ⟨b, o + i * size + j, none⟩ = some v) := by
      intro i hi
      have hsp := hspot (by omega)
      obtain ⟨b, o, sp⟩ := a
      simp only at hsp
      subst hsp
      obtain ⟨cs', hc, htr⟩ := hcell i (by omega)
      rw [hsize] at hc
      obtain ⟨x, rfl, hg⟩ := hE _ _ _ htr
      have hs := World.cells?_some hc
      have hblk := World.cells?_block hc hpos
      rw [Addr.add_lit] at hblk
      refine ⟨x, hg, b, o, rfl, hblk, fun j v hv => ?_⟩
      have hj : j < size := by rw [← hlen x]; exact (List.getElem?_eq_some_iff.1 hv).1
      rw [← hv]
      have h1 := hs.2.2 j hj
      rw [Addr.add_lit, Addr.add_lit] at h1
      exact h1
    have build : ∀ k, k ≤ len0 → ∃ xs : List α, xs.length = k ∧ (∀ x ∈ xs, good x) ∧ ∀ i (h : i < xs.length), ∃ b o, a = ⟨b, o, none⟩ ∧ b < w.heap.size ∧ ∀ j v, (E xs[i])[j]? = some v → w.cell? ⟨b, o + i * size + j, none⟩ = some v := by
      intro k
      induction k with
      | zero => intro _; exact ⟨[], rfl, by simp, fun i h => by cases h⟩
      | succ k ih =>
        intro hk
        obtain ⟨xs, hxl, hg, hx⟩ := ih (by omega)
        obtain ⟨x, hgx, hxx⟩ := each k (by omega)
        refine ⟨xs ++ [x], by simp [hxl], ?_, ?_⟩
        · intro y hy
          rcases List.mem_append.1 hy with hy | hy
          · exact hg y hy
          · rw [List.mem_singleton.1 hy]; exact hgx
        · intro i hi
          by_cases h : i < xs.length
          · rw [List.getElem_append_left h]; exact hx i h
          · have e : i = k := by simp at hi; omega
            subst e
            have e2 : (xs ++ [x])[i] = x := by rw [List.getElem_append_right (by omega)]; simp
            rw [e2]; exact hxx
    obtain ⟨xs, hxl, hg, hx⟩ := build len0 (Nat.le_refl _)
    subst hxl
    refine ⟨xs, ⟨some a, cap0, rfl, hl, fun i h => ?_⟩, by omega, hg⟩
    obtain ⟨b, o, rfl, h1, h2⟩ := hx i h
    exact ⟨b, o, rfl, h1, h2⟩
/-- (The same, of the cells alone.) A slice whose elements' cells are told by E, each one good. -/
theorem open_sl_of {α : Type} (E : α → List Value) (good : α → Prop) (size : Nat) {H : Type} {enc : TypeId × Value → H} {P : Program} {w : World} {base fuel : Nat} {spare : Bool} {held : TypeId → Bool} {t e : TypeId} {cs : List Value} {x : DataW H × List MemPlace}
    (ht : P.underlying t = some (.slice e)) (hsize : P.cellsOf e = size) (hpos : 0 < size) (hlen : ∀ x, (E x).length = size)
    (hE : ∀ (n : Nat) (cs : List Value) (y : DataW H × List MemPlace), DataW.trod enc P w base held spare n e cs = some y → ∃ x, cs = E x ∧ good x)
    (hf : DataW.trod enc P w base held spare fuel t cs = some x) :
    ∃ xs : List α, (∃ a cap, cs = [.slice a xs.length cap] ∧ xs.length ≤ cap ∧ Sl E size w a xs) ∧ xs.length ≤ maxLen ∧ ∀ x ∈ xs, good x := by
  rcases open_slice ht hf with ⟨hcs, _⟩ | ⟨a, len0, cap0, m, n, D, Pl, hcs, hb, hl, hm, hmm, _, hcell⟩
  · subst hcs
    exact ⟨[], ⟨none, 0, rfl, Nat.zero_le _, Sl.nil _ _ _ _⟩, Nat.zero_le _, by simp⟩
  · subst hcs
    have hlm : len0 ≤ m := by rw [hmm]; split <;> omega
    have hspot : 0 < len0 → a.spot = none := by
      intro h0
      obtain ⟨cs', hc, htr⟩ := hcell 0 (by omega)
      rw [hsize] at hc
      obtain ⟨x, rfl, _⟩ := hE _ _ _ htr
      have hx0 : 0 < (E x).length := by rw [hlen]; exact hpos
      have h1 := (World.cells?_some hc).2.2 0 hpos
      rw [Nat.zero_mul, Addr.add_zero', Addr.add_zero', List.getElem?_eq_getElem hx0] at h1
      cases hs : a.spot with
      | none => rfl
      | some q =>
        unfold World.cell? at h1
        rw [hs] at h1
        split at h1 <;> simp at h1
    have each : ∀ i, i < len0 → ∃ x, good x ∧ (∃ b o, a = ⟨b, o, none⟩ ∧ b < w.heap.size ∧ ∀ j v, (E x)[j]? = some v → w.cell? ⟨b, o + i * size + j, none⟩ = some v) := by
      intro i hi
      have hsp := hspot (by omega)
      obtain ⟨b, o, sp⟩ := a
      simp only at hsp
      subst hsp
      obtain ⟨cs', hc, htr⟩ := hcell i (by omega)
      rw [hsize] at hc
      obtain ⟨x, rfl, hg⟩ := hE _ _ _ htr
      have hs := World.cells?_some hc
      have hblk := World.cells?_block hc hpos
      rw [Addr.add_lit] at hblk
      refine ⟨x, hg, b, o, rfl, hblk, fun j v hv => ?_⟩
      have hj : j < size := by rw [← hlen x]; exact (List.getElem?_eq_some_iff.1 hv).1
      rw [← hv]
      have h1 := hs.2.2 j hj
      rw [Addr.add_lit, Addr.add_lit] at h1
      exact h1
    have build : ∀ k, k ≤ len0 → ∃ xs : List α, xs.length = k ∧ (∀ x ∈ xs, good x) ∧ ∀ i (h : i < xs.length), ∃ b o, a = ⟨b, o, none⟩ ∧ b < w.heap.size ∧ ∀ j v, (E xs[i])[j]? = some v → w.cell? ⟨b, o + i * size + j, none⟩ = some v := by
      intro k
      induction k with
      | zero => intro _; exact ⟨[], rfl, by simp, fun i h => by cases h⟩
      | succ k ih =>
        intro hk
        obtain ⟨xs, hxl, hg, hx⟩ := ih (by omega)
        obtain ⟨x, hgx, hxx⟩ := each k (by omega)
        refine ⟨xs ++ [x], by simp [hxl], ?_, ?_⟩
        · intro y hy
          rcases List.mem_append.1 hy with hy | hy
          · exact hg y hy
          · rw [List.mem_singleton.1 hy]; exact hgx
        · intro i hi
          by_cases h : i < xs.length
          · rw [List.getElem_append_left h]; exact hx i h
          · have e : i = k := by simp at hi; omega
            subst e
            have e2 : (xs ++ [x])[i] = x := by rw [List.getElem_append_right (by omega)]; simp
            rw [e2]; exact hxx
    obtain ⟨xs, hxl, hg, hx⟩ := build len0 (Nat.le_refl _)
    subst hxl
    refine ⟨xs, ⟨some a, cap0, rfl, hl, fun i h => ?_⟩, by omega, hg⟩
    obtain ⟨b, o, rfl, h1, h2⟩ := hx i h
    exact ⟨b, o, rfl, h1, h2⟩
theorem trod_field {H : Type} {enc : TypeId × Value → H} {P : Program} {w : World} {base fuel : Nat} {spare : Bool} {held : TypeId → Bool} {t : TypeId} {fs : Array Field} {cs : List Value} {x : DataW H × List MemPlace}
    (ht : P.underlying t = some (.struct fs)) (h : DataW.trod enc P w base held spare fuel t cs = some x) (i : Nat) (f : Field) (hi : fs[i]? = some f) :
    ∃ n y, DataW.trod enc P w base held spare n f.type ((cs.drop f.offset).take (P.cellsOf f.type)) = some y := by
  obtain ⟨xs, n, _, _, _, hl, hf⟩ := DataW.trod_struct ht h
  have h1 := hf i f hi
  have hlt : i < xs.length := by
    rw [hl]
    exact (Array.getElem?_eq_some_iff.1 hi).1
  rw [List.getElem?_eq_getElem hlt] at h1
  exact ⟨n, _, h1⟩
theorem trod_part {H : Type} {enc : TypeId × Value → H} {P : Program} {w : World} {base fuel : Nat} {spare : Bool} {held : TypeId → Bool} {t : TypeId} {fs : Array Field} {cs : List Value} {x : DataW H × List MemPlace} {f : Field}
    (ht : P.underlying t = some (.struct fs)) (h : DataW.trod enc P w base held spare fuel t cs = some x) (i : Nat) (T : TypeId) (off size : Nat) (hi : fs[i]? = some f) (hT : f.type = T) (ho : f.offset = off) (hc : P.cellsOf T = size) :
    ∃ n y, DataW.trod enc P w base held spare n T ((cs.drop off).take size) = some y := by
  subst hT ho hc
  exact trod_field ht h i f hi
theorem trod_len {H : Type} {enc : TypeId × Value → H} {P : Program} {w : World} {base fuel : Nat} {spare : Bool} {held : TypeId → Bool} {t : TypeId} {fs : Array Field} {cs : List Value} {x : DataW H × List MemPlace}
    (ht : P.underlying t = some (.struct fs)) (h : DataW.trod enc P w base held spare fuel t cs = some x) : cs.length = P.cellsOf t := by
  obtain ⟨xs, n, _, _, hl, _⟩ := DataW.trod_struct ht h
  exact hl
theorem slice_shape {H : Type} {enc : TypeId × Value → H} {P : Program} {w : World} {base fuel : Nat} {spare : Bool} {held : TypeId → Bool} {t e : TypeId} {cs : List Value} {x : DataW H × List MemPlace}
    (ht : P.underlying t = some (.slice e)) (h : DataW.trod enc P w base held spare fuel t cs = some x) : ∃ a len cap, cs = [.slice a len cap] ∧ len ≤ 9223372036854775807 := by
  rcases open_slice ht h with ⟨hcs, _⟩ | ⟨a, len0, cap0, m, n, D, Pl, hcs, hb, hl, hm, hmm, _, hcell⟩
  · exact ⟨none, 0, 0, hcs, by omega⟩
  · exact ⟨some a, len0, cap0, hcs, by
      have : maxLen = 9223372036854775807 := rfl
      omega⟩
theorem agg_of {P : Program} {w : World} {r : Reach} {base0 : Nat} {t : TypeId} {fs : Array Field} {v : Value} (hs : P.underlying t = some (.struct fs)) (hv : Value.okWide P w r base0 t v) : ∃ cs, v = .agg cs := by
  simp only [Value.okWide, hs] at hv
  obtain ⟨cs, rfl, _⟩ := hv
  exact ⟨cs, rfl⟩
theorem list16 {α : Type} {l : List α} (h : l.length = 16) : ∃ a b c d e f g i j k m n o p q r, l = [a, b, c, d, e, f, g, i, j, k, m, n, o, p, q, r] := by
  match l, h with
  | [a, b, c, d, e, f, g, i, j, k, m, n, o, p, q, r], _ => exact ⟨a, b, c, d, e, f, g, i, j, k, m, n, o, p, q, r, rfl⟩
end Go.Proofs.YtkpnhiafdfbogaaDoor
