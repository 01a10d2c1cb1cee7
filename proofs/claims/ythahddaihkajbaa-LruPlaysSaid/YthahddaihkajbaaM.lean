/-
  A cache as the law sees it; awake.
-/
import Derived.Test.YthahddaihkajbaaL
import Derived.Test.YthahddaihkajbaaTexts
set_option linter.unusedVariables false
set_option linter.unusedSimpArgs false
namespace Go.Proofs.Ythahddaihkajbaa
open Go.RowKit
/-- A cache at p, made since w. -/
def Cx (w W : World) (p : Nat) (ms : List Itm) (room : Nat) : Prop := ∃ v B, Cs W p B v ms (room : Int) ∧ w.heap.size ≤ p ∧ Below w.heap.size w W
theorem Cx.keep {w W W' : World} {p room : Nat} {ms : List Itm} (h : Cx w W p ms room) (k : Below W.heap.size W W') : Cx w W' p ms room := by
  obtain ⟨v, B, h1, h2, h3⟩ := h
  exact ⟨v, B, h1.keep k, h2, below_cons h3 k⟩
theorem Cx.drew {w W : World} {p room : Nat} {ms : List Itm} (h : Cx w W p ms room) : Cx w W.drew p ms room := by
  obtain ⟨v, B, h1, h2, h3⟩ := h
  exact ⟨v, B, h1.drew, h2, h3.drew⟩
theorem Cx.step {w W W' : World} {p B : Nat} {v : Value} {ms : List Itm} {room : Int} (h1 : Cs W p B v ms room) (h2 : w.heap.size ≤ p) (h3 : Below w.heap.size w W) (k : Kp (fun j => j = p ∨ v.ownBlock = some j) W W') : Below w.heap.size w W' :=
  h3.trans (k.below (B := w.heap.size) h3.size (fun j hj => by
    rcases hj with rfl | e
    · exact h2
    · have := (h1.2.1.lt _ e).1; have := h1.2.2.1; omega))
theorem Cx.put {w W : World} {p room : Nat} {ms : List Itm} (k x : ByteArray) (h : Cx w W p ms room) (hr : room ≤ 4096) (hn : ms.length ≤ room) :
    Calls Try.prog 10 #[.pointer (some ⟨p, 0, none⟩), .string k, .string x] W fun e w' => e = .returned (.tuple #[]) ∧ Cx w w' p (putI ms k x room) room := by
  obtain ⟨v, B, h1, h2, h3⟩ := h
  refine (put_any k x W h1 hr hn).mono ?_
  rintro e w' ⟨rfl, v', h4, h5, h6⟩
  exact ⟨rfl, v', B, h4, h2, Cx.step h1 h2 h3 h5⟩
theorem Cx.get {w W : World} {p room : Nat} {ms : List Itm} (k : ByteArray) (h : Cx w W p ms room) (hn : ms.length ≤ 5000) :
    Calls Try.prog 11 #[.pointer (some ⟨p, 0, none⟩), .string k] W fun e w' => e = .returned (.tuple #[.string (getT ms k).1, .bool (getT ms k).2.1]) ∧ Cx w w' p (getT ms k).2.2 room := by
  obtain ⟨v, B, h1, h2, h3⟩ := h
  refine (get_any k W h1 hn).mono ?_
  rintro e w' ⟨rfl, v', h4, h5, h6⟩
  exact ⟨rfl, v', B, h4, h2, Cx.step h1 h2 h3 h5⟩
theorem Cx.drop {w W : World} {p room : Nat} {ms : List Itm} (k : ByteArray) (h : Cx w W p ms room) (hn : ms.length ≤ 5000) :
    Calls Try.prog 12 #[.pointer (some ⟨p, 0, none⟩), .string k] W fun e w' => e = .returned (.bool (findI ms k).isSome) ∧ Cx w w' p (dropI ms k) room := by
  obtain ⟨v, B, h1, h2, h3⟩ := h
  refine (drop_any k W h1 hn).mono ?_
  rintro e w' ⟨rfl, v', h4, h5, h6⟩
  exact ⟨rfl, v', B, h4, h2, Cx.step h1 h2 h3 h5⟩
theorem Cx.keys {w W : World} {p room : Nat} {ms : List Itm} (h : Cx w W p ms room) (hn : ms.length ≤ 5000) :
    Calls Try.prog 9 #[.pointer (some ⟨p, 0, none⟩)] W fun e w' => ∃ a c, e = .returned (.slice a (ms.map (·.1)).length c) ∧ Sl strC 1 w' a (ms.map (·.1)) ∧ Cx w w' p ms room ∧ Below W.heap.size W w' := by
  have h0 := h
  obtain ⟨v, B, h1, h2, h3⟩ := h
  refine (keys_any W h1 hn).mono ?_
  rintro e w' ⟨v', rfl, h4, h5⟩
  obtain ⟨a, c, rfl, _, hs⟩ := own_sl (enc := strC) (size := 1) (fun _ => rfl) (by decide) h4
  exact ⟨a, c, rfl, hs, h0.keep h5, h5⟩
end Go.Proofs.Ythahddaihkajbaa

