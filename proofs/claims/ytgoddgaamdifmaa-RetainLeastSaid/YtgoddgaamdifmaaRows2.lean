/-
  Rows of values as whole blocks: stored, loaded, copied into.
-/
import Derived.Test.YtgoddgaamdifmaaKp
import Derived.Test.YtgoddgaamdifmaaProg
import Derived.Deep.MidRow
import Derived.Lib.LazyBuf
set_option linter.unusedVariables false
set_option linter.unusedSimpArgs false
namespace Go.Proofs.Ytgoddgaamdifmaa
open Go.RowKit
theorem Kp.setCells {S : Nat → Prop} {a b : World} (h : Kp S a b) (p : Nat) (hp : S p) : ∀ (vs : List Value) (o : Nat), Kp S a (b.setCells p o vs) := by
  intro vs
  induction vs generalizing b with
  | nil => intro o; exact h
  | cons v r ih => intro o; exact ih (b := b.setCell ⟨p, o, none⟩ v) (h.set p o v hp) (o + 1)
theorem Bk.fill {p : Nat} {vs us : List Value} {w : World} (h : Bk p us w) (hl : vs.length ≤ us.length) : Bk p (vs ++ us.drop vs.length) (w.setCells p 0 vs) := by
  refine ⟨Nat.lt_of_lt_of_le h.1 (Kp.setCells (Kp.refl (fun k => k = p) w) p rfl vs 0).size, fun i v hv => ⟨?_, ?_⟩⟩
  · by_cases hi : i < vs.length
    · rw [List.getElem?_append_left hi, List.getElem?_eq_getElem hi] at hv
      obtain rfl : vs[i] = v := by simpa using hv
      have := World.cell?_setCells_in p vs 0 w (fun j hj => by
        have h1 := (h.2 j _ (List.getElem?_eq_getElem (show j < us.length by omega))).1
        rw [Nat.zero_add, h1]; rfl) i hi
      rw [Nat.zero_add] at this
      exact this
    · rw [List.getElem?_append_right (by omega), List.getElem?_drop] at hv
      rw [World.cell?_setCells_out p vs 0 w ⟨p, i, none⟩ (fun _ _ => .inr (by simp; omega))]
      exact (h.2 i v (by rw [← hv]; congr 1; omega)).1
  · rw [World.frozen?_setCells]
    have hi : i < us.length := by
      have := (List.getElem?_eq_some_iff.1 hv).1
      rw [List.length_append, List.length_drop] at this
      omega
    exact (h.2 i _ (List.getElem?_eq_getElem hi)).2
theorem Bk.put {p : Nat} {vs us : List Value} {w : World} (h : Bk p us w) (hl : vs.length = us.length) : Bk p vs (w.setCells p 0 vs) := by
  have := h.fill (vs := vs) (by omega)
  rw [List.drop_of_length_le (by omega), List.append_nil] at this
  exact this
theorem Bk.there {p : Nat} {us : List Value} {w : World} (h : Bk p us w) {n : Nat} (hn : n ≤ us.length) : w.there p 0 n := fun j hj => by
  have := h.2 j _ (List.getElem?_eq_getElem (show j < us.length by omega))
  rw [Nat.zero_add]
  exact ⟨by rw [this.1]; rfl, this.2⟩
theorem Bk.range {p : Nat} {us : List Value} {w : World} (h : Bk p us w) : w.rangeAt p 0 us := fun j v hv => by
  rw [Nat.zero_add]; exact (h.2 j v hv).1
theorem run_copy_text {P : Program} (w : World) (dT sT ty elem : TypeId) (b o dLen dCap : Nat) (t : ByteArray)
    (hu : P.underlying dT = some (.slice elem)) (hz : ∀ w, (Go.sizeOf elem).run P w = .ok 1 w)
    (hc : ∀ j, j < dLen → (w.cell? ⟨b, o + j, none⟩).isSome = true) (hf : ∀ j, j < dLen → w.frozen? ⟨b, o + j, none⟩ = false) :
    (Builtin.copy_ #[dT, sT] ty #[.slice (some ⟨b, o, none⟩) dLen dCap, .string t]).run P w = .ok (goInt (Nat.min t.size dLen)) (w.setCells b o ((t.data.toList.map fun x => Value.int .u8 (x.toNat : Int)).take (Nat.min t.size dLen))) := by
  have hl : ((t.data.toList.map fun x => Value.int .u8 (x.toNat : Int)).take (Nat.min t.size dLen)).length = Nat.min t.size dLen := by
    rw [List.length_take, List.length_map, ← Lib.size_eq]
    have : Nat.min t.size dLen ≤ t.size := Nat.min_le_left _ _
    omega
  have hle : Nat.min t.size dLen ≤ dLen := Nat.min_le_right _ _
  have hst := run_storeCells_cells (P := P) b o ((t.data.toList.map fun x => Value.int .u8 (x.toNat : Int)).take (Nat.min t.size dLen)) 0 w (by rw [hl]; intro j hj; have := hc j (by omega); simpa using this) (by rw [hl]; intro j hj; have := hf j (by omega); simpa using this) (by
    intro v hv
    obtain ⟨x, _, rfl⟩ := List.mem_map.1 (List.mem_of_mem_take hv)
    rfl)
  simp [Builtin.copy_, run_underlying hu, Builtin.lenOf, Builtin.firstCells, hz]
  simp at hst
  rw [hst]
  rfl
theorem wp_load_run {P : Program} {o : Oper} {a : Act} {w : World} {K : Act → World → Prop} {Q : Exit → Act → World → Prop} (ty : TypeId) (x : Operand) (ho : o.op = .load ty x)
    {p v : Value} (hx : a.eval x = p) (hl : (Instr.loadAt ty p).run P w = .ok v w) (h : K (a.put o.dst v) w) : o.wp P a w K Q := by
  unfold Oper.wp execOp
  simp only [ho, hx, Sem.run_bind, Sem.run_pure, Result.andThen_ok, hl]
  exact h
theorem wpList_load_run {P : Program} {ops : Array Oper} {rest : List Oper} {o : Oper} {a : Act} {w : World} {Q : Exit → Act → World → Prop} (hgd : o.guard = none) (ty : TypeId) (x : Operand) (ho : o.op = .load ty x)
    {p v : Value} (hx : a.eval x = p) (hl : (Instr.loadAt ty p).run P w = .ok v w) (h : wpList P ops Q rest (a.put o.dst v) w) : wpList P ops Q (o :: rest) a w :=
  wpList_plain hgd fun _ hK => wp_load_run ty x ho hx hl (hK _ _ h)
theorem wp_store_run {P : Program} {o : Oper} {a : Act} {w w' : World} {K : Act → World → Prop} {Q : Exit → Act → World → Prop} (ty : TypeId) (x y : Operand) (ho : o.op = .store ty x y)
    {p v : Value} (hx : a.eval x = p) (hy : a.eval y = v) (hl : (Instr.storeAt ty p v).run P w = .ok () w') (h : K (a.put o.dst undef) w') : o.wp P a w K Q := by
  unfold Oper.wp execOp
  simp only [ho, hx, hy, Sem.run_bind, Sem.run_pure, Result.andThen_ok, hl]
  exact h
theorem wpList_store_run {P : Program} {ops : Array Oper} {rest : List Oper} {o : Oper} {a : Act} {w w' : World} {Q : Exit → Act → World → Prop} (hgd : o.guard = none) (ty : TypeId) (x y : Operand) (ho : o.op = .store ty x y)
    {p v : Value} (hx : a.eval x = p) (hy : a.eval y = v) (hl : (Instr.storeAt ty p v).run P w = .ok () w') (h : wpList P ops Q rest (a.put o.dst undef) w') : wpList P ops Q (o :: rest) a w :=
  wpList_plain hgd fun _ hK => wp_store_run ty x y ho hx hy hl (hK _ _ h)
/-- A whole row stored over a block that is known. -/
theorem run_store_bk {P : Program} {w : World} {p : Nat} {us vs : List Value} {ty : TypeId} (h : Bk p us w) (hl : vs.length = us.length) (hi : (P.info? ty).map (·.size) = some vs.length) (h1 : ∀ v ∈ vs, v.oneCell' = true) :
    (Instr.storeAt ty (.pointer (some ⟨p, 0, none⟩)) (.agg vs.toArray)).run P w = .ok () (w.setCells p 0 vs) :=
  run_storeAt_mid w p 0 ty vs.toArray (h.there (by simp; omega)) (by rw [hi]; simp) (all_oneCell_toArray h1)
theorem res_one {P : Program} {fn : Func} {p : Tmp} {ty : TypeId} {tmps : Array Value} {w : World} {A : Nat} {x : Value} (h : fn.results = #[.cell p ty]) (h1 : tmps.getD p undef = .pointer (some ⟨A, 0, none⟩)) (hl : (loadVar ty ⟨A, 0, none⟩).run P w = .ok x w) :
    (results fn tmps).run P w = .ok x w := by
  have hp' : tmps[p]?.getD undef = .pointer (some ⟨A, 0, none⟩) := by simpa using h1
  simp [results, h, hp', asAddr, hl]
end Go.Proofs.Ytgoddgaamdifmaa

