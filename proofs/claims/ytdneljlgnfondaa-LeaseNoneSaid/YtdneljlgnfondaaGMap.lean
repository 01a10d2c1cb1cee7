/-
  A map from texts to elements of any kind that can be told, as a function.
-/
import Derived.Test.YtdneljlgnfondaaKp
import Derived.Test.YtdneljlgnfondaaProg
set_option linter.unusedVariables false
set_option linter.unusedSimpArgs false
namespace Go.Proofs.Ytdneljlgnfondaa
open Go.RowKit Go.WideMaps Go.Maps
def setf {α : Type} (f : ByteArray → α) (s : ByteArray) (v : α) : ByteArray → α := fun t => if t = s then v else f t
theorem setf_same {α : Type} (f : ByteArray → α) (s : ByteArray) (v : α) : setf f s v s = v := by simp [setf]
theorem setf_other {α : Type} (f : ByteArray → α) {s t : ByteArray} (v : α) (h : t ≠ s) : setf f s v t = f t := by simp [setf, h]
theorem gkey_ne {s t : ByteArray} (h : t ≠ s) : Lit.string t.data.toList ≠ Lit.string s.data.toList := by
  intro e
  apply h
  simp only [Lit.string.injEq] at e
  apply ByteArray.ext
  exact Array.toList_inj.1 e
/-- A map's types, and how its elements lie and read. -/
structure MapOf (α : Type) where
  T : TypeId
  K : TypeId
  E : TypeId
  ht : Try.prog.underlying T = some (.map K E)
  hk : Try.prog.underlying K = some .string
  enc : α → Value
  rep : α → DataW Unit
  rd : Value → Option (DataW Unit × List MemPlace)
  z : α
  hz : ∀ w, (zeroValue E).run Try.prog w = .ok (enc z) w
  rd_enc : ∀ x, rd (enc x) = some (rep x, [])
  rd_inv : ∀ x v ps, rd v = some (rep x, ps) → v = enc x
/-- Block b is a map of at most n entries: f tells what is read at any text. -/
def GM {α : Type} (M : MapOf α) (w : World) (b n : Nat) (f : ByteArray → α) : Prop := ∃ D : DataW Unit, w.ownsMap Try.prog M.K M.rd b n D ∧ ∀ s : ByteArray, s.size ≤ maxLen → D.atKey (.string s.data.toList) (M.rep M.z) = M.rep (f s)
theorem GM.made {α : Type} (M : MapOf α) (w : World) : GM M (w.alloc (.map #[] 0)) w.heap.size 0 (fun _ => M.z) := ⟨.map [], World.ownsMap_made _ _ _ _, fun s _ => rfl⟩
theorem GM.lt {α : Type} {M : MapOf α} {w : World} {b n : Nat} {f : ByteArray → α} (h : GM M w b n f) : b < w.heap.size := by
  obtain ⟨D, h, _⟩ := h
  exact h.lt
theorem GM.kp {α : Type} {M : MapOf α} {S : Nat → Prop} {w w' : World} {b n : Nat} {f : ByteArray → α} (h : GM M w b n f) (k : Kp S w w') (hn : ¬ S b) : GM M w' b n f := by
  have hlt := h.lt
  obtain ⟨D, ⟨es, clock, hb, F, hs, hD⟩, hf⟩ := h
  exact ⟨D, ⟨es, clock, (k.block b hlt hn).trans hb, F, hs, hD⟩, hf⟩
theorem GM.keep {α : Type} {M : MapOf α} {w w' : World} {b n : Nat} {f : ByteArray → α} (h : GM M w b n f) (k : Below w.heap.size w w') : GM M w' b n f := h.kp (Kp.new (S := fun _ => False) k) (fun h => h)
theorem GM.drew {α : Type} {M : MapOf α} {w : World} {b n : Nat} {f : ByteArray → α} (h : GM M w b n f) : GM M w.drew b n f := h
theorem GM.get {α : Type} {M : MapOf α} {w : World} {b n : Nat} {f : ByteArray → α} (h : GM M w b n f) {s : ByteArray} (hs : s.size ≤ maxLen) :
    (Instr.lookup M.T (.map (some b)) (.string s) false).run Try.prog w = .ok (M.enc (f s)) w := by
  obtain ⟨D, h, hf⟩ := h
  obtain ⟨v, ps, hrun, hv⟩ := h.lookup (string_keyed M.hk) M.ht (M.hz _) (M.rd_enc _) (keyOf_string_mk M.hk hs)
  rw [hf s hs] at hv
  rw [hrun, M.rd_inv _ _ _ hv]
theorem GM.put {α : Type} {M : MapOf α} {w : World} {b n : Nat} {f : ByteArray → α} (h : GM M w b n f) (hn : n < maxLen) {s : ByteArray} (hs : s.size ≤ maxLen) (v : α) :
    ∃ w', (Instr.mapUpdate M.T (.map (some b)) (.string s) (M.enc v)).run Try.prog w = .ok () w' ∧ GM M w' b (n + 1) (setf f s v) ∧ Kp (fun k => k = b) w w' := by
  obtain ⟨D, h, hf⟩ := h
  obtain ⟨w', hrun, ho, hg⟩ := h.update (string_keyed M.hk) M.ht hn (keyOf_string_mk M.hk hs) (M.rd_enc v)
  refine ⟨w', hrun, ⟨_, ho, fun t ht => ?_⟩, Kp.grown hg (fun k e => by simpa using e.symm)⟩
  by_cases e : t = s
  · subst e
    rw [setf_same, atKey_put_same h.isMap (show WideAt.IsKeyLit (Lit.string _) from trivial)]
  · rw [setf_other _ _ e, atKey_put_other (gkey_ne e), hf t ht]
theorem GM.del {α : Type} {M : MapOf α} {w : World} {b n : Nat} {f : ByteArray → α} (h : GM M w b n f) {s : ByteArray} (hs : s.size ≤ maxLen) (ty : TypeId) :
    ∃ w', (Builtin.delete_ #[M.T, M.K] ty #[.map (some b), .string s]).run Try.prog w = .ok (.tuple #[]) w' ∧ GM M w' b n (setf f s M.z) ∧ Kp (fun k => k = b) w w' := by
  obtain ⟨D, h, hf⟩ := h
  obtain ⟨w', hrun, ho, hg⟩ := h.drop (string_keyed M.hk) M.ht (keyOf_string_mk M.hk hs) ty
  refine ⟨w', hrun, ⟨_, ho, fun t ht => ?_⟩, Kp.grown hg.grown (fun k e => by simpa using e.symm)⟩
  by_cases e : t = s
  · subst e
    rw [setf_same, atKey_del_same]
  · rw [setf_other _ _ e, atKey_del_other (gkey_ne e), hf t ht]
end Go.Proofs.Ytdneljlgnfondaa
