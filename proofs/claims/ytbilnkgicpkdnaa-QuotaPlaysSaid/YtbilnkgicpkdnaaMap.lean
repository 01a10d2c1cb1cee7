/-
  A map from texts to whole numbers, as a function.
-/
import Derived.Test.YtbilnkgicpkdnaaKp
import Derived.Test.YtbilnkgicpkdnaaProg
set_option linter.unusedVariables false
set_option linter.unusedSimpArgs false
namespace Go.Proofs.Ytbilnkgicpkdnaa
open Go.RowKit Go.WideMaps Go.Maps
def upd (f : ByteArray → Int) (s : ByteArray) (v : Int) : ByteArray → Int := fun t => if t = s then v else f t
theorem upd_same (f : ByteArray → Int) (s : ByteArray) (v : Int) : upd f s v s = v := by simp [upd]
theorem upd_other (f : ByteArray → Int) {s t : ByteArray} (v : Int) (h : t ≠ s) : upd f s v t = f t := by simp [upd, h]
theorem keyed36 : Keyed Try.prog 9 := string_keyed Try.underlying9
theorem zero3 (w : World) : (zeroValue 3).run Try.prog w = .ok (.int .i64 0) w := by kernel_rfl
theorem key_ne {s t : ByteArray} (h : t ≠ s) : Lit.string t.data.toList ≠ Lit.string s.data.toList := by
  intro e
  apply h
  simp only [Lit.string.injEq] at e
  apply ByteArray.ext
  exact Array.toList_inj.1 e
/-- Block b is a map from texts to whole numbers, of at most n entries: f tells what is read at any text. -/
def IM (w : World) (b n : Nat) (f : ByteArray → Int) : Prop := ∃ D : DataW Unit, w.ownsMap Try.prog 9 (plainElem Try.prog 3) b n D ∧ ∀ s : ByteArray, s.size ≤ maxLen → D.atKey (.string s.data.toList) (.lit (.int .i64 0)) = .lit (.int .i64 (f s))
theorem IM.made (w : World) : IM (w.alloc (.map #[] 0)) w.heap.size 0 (fun _ => 0) := ⟨.map [], World.ownsMap_made _ _ _ _, fun s _ => rfl⟩
theorem IM.lt {w : World} {b n : Nat} {f : ByteArray → Int} (h : IM w b n f) : b < w.heap.size := by
  obtain ⟨D, h, _⟩ := h
  exact h.lt
theorem IM.kp {S : Nat → Prop} {w w' : World} {b n : Nat} {f : ByteArray → Int} (h : IM w b n f) (k : Kp S w w') (hn : ¬ S b) : IM w' b n f := by
  have hlt := h.lt
  obtain ⟨D, ⟨es, clock, hb, F, hs, hD⟩, hf⟩ := h
  exact ⟨D, ⟨es, clock, (k.block b hlt hn).trans hb, F, hs, hD⟩, hf⟩
theorem IM.keep {w w' : World} {b n : Nat} {f : ByteArray → Int} (h : IM w b n f) (k : Below w.heap.size w w') : IM w' b n f := h.kp (Kp.new (S := fun _ => False) k) (fun h => h)
theorem IM.drew {w : World} {b n : Nat} {f : ByteArray → Int} (h : IM w b n f) : IM w.drew b n f := h
theorem IM.mono {w : World} {b n m : Nat} {f : ByteArray → Int} (h : IM w b n f) (hm : n ≤ m) : IM w b m f := by
  obtain ⟨D, h, hf⟩ := h
  exact ⟨D, h.mono hm, hf⟩
theorem IM.get {w : World} {b n : Nat} {f : ByteArray → Int} (h : IM w b n f) {s : ByteArray} (hs : s.size ≤ maxLen) :
    (Instr.lookup 36 (.map (some b)) (.string s) false).run Try.prog w = .ok (.int .i64 (f s)) w ∧ -9223372036854775808 ≤ f s ∧ f s ≤ 9223372036854775807 := by
  obtain ⟨D, h, hf⟩ := h
  obtain ⟨c, hrun, hat, hwc⟩ := h.lookup_int keyed36 Try.underlying36 Try.underlying3 (zero3 _) (keyOf_string_mk Try.underlying9 hs)
  rw [hf s hs] at hat
  obtain rfl : f s = c := by simpa using hat
  exact ⟨hrun, bounds_i64 hwc⟩
theorem IM.put {w : World} {b n : Nat} {f : ByteArray → Int} (h : IM w b n f) (hn : n < maxLen) {s : ByteArray} (hs : s.size ≤ maxLen) {v : Int} (hv : (Lit.int .i64 v).wf = true) :
    ∃ w', (Instr.mapUpdate 36 (.map (some b)) (.string s) (.int .i64 v)).run Try.prog w = .ok () w' ∧ IM w' b (n + 1) (upd f s v) ∧ Kp (fun k => k = b) w w' := by
  obtain ⟨D, h, hf⟩ := h
  obtain ⟨w', hrun, ho, hg⟩ := h.update keyed36 Try.underlying36 hn (keyOf_string_mk Try.underlying9 hs) (plainElem_int (H := Unit) Try.underlying3 hv)
  refine ⟨w', hrun, ⟨_, ho, fun t ht => ?_⟩, Kp.grown hg (fun k e => by simpa using e.symm)⟩
  by_cases e : t = s
  · subst e
    rw [upd_same, atKey_put_same h.isMap (show WideAt.IsKeyLit (Lit.string _) from trivial)]
  · rw [upd_other _ _ e, atKey_put_other (key_ne e), hf t ht]
theorem IM.del {w : World} {b n : Nat} {f : ByteArray → Int} (h : IM w b n f) {s : ByteArray} (hs : s.size ≤ maxLen) (ty : TypeId) :
    ∃ w', (Builtin.delete_ #[36, 9] ty #[.map (some b), .string s]).run Try.prog w = .ok (.tuple #[]) w' ∧ IM w' b n (upd f s 0) ∧ Kp (fun k => k = b) w w' := by
  obtain ⟨D, h, hf⟩ := h
  obtain ⟨w', hrun, ho, hg⟩ := h.drop keyed36 Try.underlying36 (keyOf_string_mk Try.underlying9 hs) ty
  refine ⟨w', hrun, ⟨_, ho, fun t ht => ?_⟩, Kp.grown hg.grown (fun k e => by simpa using e.symm)⟩
  by_cases e : t = s
  · subst e
    rw [upd_same, atKey_del_same]
  · rw [upd_other _ _ e, atKey_del_other (key_ne e), hf t ht]
end Go.Proofs.Ytbilnkgicpkdnaa
