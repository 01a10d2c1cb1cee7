/-
  The cache and the law's pairs beside it; append in front of a row; a row cut short.
-/
import Derived.Test.YthahddaihkajbaaQ
import Derived.Laws.AppendOwnNone
set_option linter.unusedVariables false
set_option linter.unusedSimpArgs false
namespace Go.Proofs.Ythahddaihkajbaa
open Go.RowKit
/-- A cache at p, and a row of pairs beside it. -/
def Py (w W : World) (p : Nat) (vx : Value) (xs ms : List Itm) (room : Nat) : Prop :=
  ∃ v B, Cs W p B v ms (room : Int) ∧ w.heap.size ≤ p ∧ W.ownsRow w.heap.size 35 2 vx xs.length (xs.flatMap encI) ∧ (∀ g, vx.ownBlock = some g → g ≠ p ∧ v.ownBlock ≠ some g) ∧ Below w.heap.size w W
theorem Py.row {w W : World} {p room : Nat} {vx : Value} {xs ms : List Itm} (h : Py w W p vx xs ms room) : W.ownsRow w.heap.size 35 2 vx xs.length (xs.flatMap encI) := h.elim fun _ ⟨_, _, _, h, _⟩ => h
theorem Py.below {w W : World} {p room : Nat} {vx : Value} {xs ms : List Itm} (h : Py w W p vx xs ms room) : Below w.heap.size w W := h.elim fun _ ⟨_, _, _, _, _, h⟩ => h
theorem Py.cx {w W : World} {p room : Nat} {vx : Value} {xs ms : List Itm} (h : Py w W p vx xs ms room) : Cx w W p ms room := by
  obtain ⟨v, B, h1, h2, h3, h4, h5⟩ := h
  exact ⟨v, B, h1, h2, h5⟩
theorem Py.keep {w W W' : World} {p room : Nat} {vx : Value} {xs ms : List Itm} (h : Py w W p vx xs ms room) (k : Below W.heap.size W W') : Py w W' p vx xs ms room := by
  obtain ⟨v, B, h1, h2, h3, h4, h5⟩ := h
  exact ⟨v, B, h1.keep k, h2, own_kept h3 k, h4, below_cons h5 k⟩
theorem Py.drew {w W : World} {p room : Nat} {vx : Value} {xs ms : List Itm} (h : Py w W p vx xs ms room) : Py w W.drew p vx xs ms room := by
  obtain ⟨v, B, h1, h2, h3, h4, h5⟩ := h
  exact ⟨v, B, h1.drew, h2, h3, h4, h5.drew⟩
theorem Cs.lt {w : World} {p B : Nat} {v : Value} {ms : List Itm} {room : Int} (h : Cs w p B v ms room) : p < w.heap.size ∧ ∀ g, v.ownBlock = some g → g < w.heap.size := ⟨h.1.1, fun g hg => (h.2.1.lt g hg).2⟩
/-- Another row of pairs, in the old one's block or a new one. -/
theorem Py.turn {w W W' : World} {p room : Nat} {vx vy : Value} {xs ys ms : List Itm} (h : Py w W p vx xs ms room) (k : Below W.heap.size W W') (ho : W'.ownsRow w.heap.size 35 2 vy ys.length (ys.flatMap encI))
    (hy : ∀ g, vy.ownBlock = some g → vx.ownBlock = some g ∨ W.heap.size ≤ g) : Py w W' p vy ys ms room := by
  obtain ⟨v, B, h1, h2, h3, h4, h5⟩ := h
  refine ⟨v, B, h1.keep k, h2, ho, fun g hg => ?_, below_cons h5 k⟩
  rcases hy g hg with e | e
  · exact h4 g e
  · exact ⟨by have := h1.lt.1; omega, fun e2 => by have := h1.lt.2 g e2; omega⟩
theorem Py.step {w W W' : World} {p B : Nat} {v v' vx : Value} {ms ns xs : List Itm} {room : Nat} (h1 : Cs W p B v ms room) (h2 : w.heap.size ≤ p) (h3 : W.ownsRow w.heap.size 35 2 vx xs.length (xs.flatMap encI))
    (h4 : ∀ g, vx.ownBlock = some g → g ≠ p ∧ v.ownBlock ≠ some g) (h5 : Below w.heap.size w W) (h6 : Cs W' p B v' ns room) (k : Kp (fun j => j = p ∨ v.ownBlock = some j) W W') (hv : ∀ g, v'.ownBlock = some g → v.ownBlock = some g ∨ W.heap.size ≤ g) : Py w W' p vx xs ns room := by
  refine ⟨v', B, h6, h2, own_kp2 h3 k (fun g hg e => e.elim (fun e => (h4 g hg).1 e) (fun e => (h4 g hg).2 e)), fun g hg => ⟨(h4 g hg).1, fun e => ?_⟩, Cx.step h1 h2 h5 k⟩
  rcases hv g e with e2 | e2
  · exact (h4 g hg).2 e2
  · have := (h3.lt g hg).2; omega
/-- .. and a block that is no block of the cache's. -/
def Pz (w W : World) (p : Nat) (vx : Value) (xs ms : List Itm) (room q : Nat) (vs : List Value) : Prop :=
  ∃ v B, Cs W p B v ms (room : Int) ∧ w.heap.size ≤ p ∧ W.ownsRow w.heap.size 35 2 vx xs.length (xs.flatMap encI) ∧ (∀ g, vx.ownBlock = some g → g ≠ p ∧ v.ownBlock ≠ some g) ∧ Below w.heap.size w W ∧ q ≠ p ∧ v.ownBlock ≠ some q ∧ Bk q vs W
theorem Pz.of {w W W' : World} {p room q : Nat} {vx : Value} {xs ms : List Itm} {vs : List Value} (h : Py w W p vx xs ms room) (hq : W.heap.size ≤ q) (k : Below W.heap.size W W') (hb : Bk q vs W') : Pz w W' p vx xs ms room q vs := by
  obtain ⟨v, B, h1, h2, h3, h4, h5⟩ := h
  exact ⟨v, B, h1.keep k, h2, own_kept h3 k, h4, below_cons h5 k, by have := h1.lt.1; omega, fun e => by have := h1.lt.2 _ e; omega, hb⟩
theorem Pz.py {w W : World} {p room q : Nat} {vx : Value} {xs ms : List Itm} {vs : List Value} (h : Pz w W p vx xs ms room q vs) : Py w W p vx xs ms room := by
  obtain ⟨v, B, h1, h2, h3, h4, h5, _⟩ := h
  exact ⟨v, B, h1, h2, h3, h4, h5⟩
/-- Another row of pairs, in the old one's block or a new one. -/
theorem Pz.turn {w W W' : World} {p room q : Nat} {vx vy : Value} {xs ys ms : List Itm} {vs : List Value} (h : Pz w W p vx xs ms room q vs) (k : Below W.heap.size W W') (ho : W'.ownsRow w.heap.size 35 2 vy ys.length (ys.flatMap encI))
    (hy : ∀ g, vy.ownBlock = some g → vx.ownBlock = some g ∨ W.heap.size ≤ g) : Pz w W' p vy ys ms room q vs := by
  obtain ⟨v, B, h1, h2, h3, h4, h5, h6, h7, h8⟩ := h
  refine ⟨v, B, h1.keep k, h2, ho, fun g hg => ?_, below_cons h5 k, h6, h7, h8.keep k⟩
  rcases hy g hg with e | e
  · exact h4 g e
  · exact ⟨by have := h1.lt.1; omega, fun e2 => by have := h1.lt.2 g e2; omega⟩
theorem Pz.put {w W : World} {p room q : Nat} {vx : Value} {xs ms : List Itm} {vs : List Value} (k x : ByteArray) (h : Pz w W p vx xs ms room q vs) (hr : room ≤ 4096) (hn : ms.length ≤ room) :
    Calls Try.prog 10 #[.pointer (some ⟨p, 0, none⟩), .string k, .string x] W fun e w' => e = .returned (.tuple #[]) ∧ Py w w' p vx xs (putI ms k x room) room ∧ Bk q vs w' := by
  obtain ⟨v, B, h1, h2, h3, h4, h5, h9, h10, h11⟩ := h
  refine (put_any k x W h1 hr hn).mono ?_
  rintro e w' ⟨rfl, v', h6, h7, h8⟩
  exact ⟨rfl, Py.step h1 h2 h3 h4 h5 h6 h7 h8, h11.kp h7 (fun e => e.elim h9 h10)⟩
theorem Pz.get {w W : World} {p room q : Nat} {vx : Value} {xs ms : List Itm} {vs : List Value} (k : ByteArray) (h : Pz w W p vx xs ms room q vs) (hn : ms.length ≤ 5000) :
    Calls Try.prog 11 #[.pointer (some ⟨p, 0, none⟩), .string k] W fun e w' => e = .returned (.tuple #[.string (getT ms k).1, .bool (getT ms k).2.1]) ∧ Py w w' p vx xs (getT ms k).2.2 room ∧ Bk q vs w' := by
  obtain ⟨v, B, h1, h2, h3, h4, h5, h9, h10, h11⟩ := h
  refine (get_any k W h1 hn).mono ?_
  rintro e w' ⟨rfl, v', h6, h7, h8⟩
  exact ⟨rfl, Py.step h1 h2 h3 h4 h5 h6 h7 h8, h11.kp h7 (fun e => e.elim h9 h10)⟩
theorem Py.drop {w W : World} {p room : Nat} {vx : Value} {xs ms : List Itm} (k : ByteArray) (h : Py w W p vx xs ms room) (hn : ms.length ≤ 5000) :
    Calls Try.prog 12 #[.pointer (some ⟨p, 0, none⟩), .string k] W fun e w' => e = .returned (.bool (findI ms k).isSome) ∧ Py w w' p vx xs (dropI ms k) room := by
  obtain ⟨v, B, h1, h2, h3, h4, h5⟩ := h
  refine (drop_any k W h1 hn).mono ?_
  rintro e w' ⟨rfl, v', h6, h7, h8⟩
  exact ⟨rfl, Py.step h1 h2 h3 h4 h5 h6 h7 (fun g hg => .inl (by rw [← h8]; exact hg))⟩
theorem own_prefix {w : World} {B : Nat} {e : TypeId} {size : Nat} {a : Option Addr} {n cap m : Nat} {xs : List Value} (h : w.ownsRow B e size (.slice a n cap) n xs) (hm : m ≤ n) : w.ownsRow B e size (.slice a m cap) m (xs.take (m * size)) := by
  obtain ⟨h0, ⟨he, h1⟩ | ⟨g, cap', cur, he, hg, hh, hn, hc, hs, ht⟩⟩ := h
  · simp only [Value.slice.injEq] at he
    obtain ⟨rfl, h2, rfl⟩ := he
    subst h2
    obtain rfl : m = 0 := by omega
    exact ⟨by simp, .inl ⟨rfl, rfl⟩⟩
  · simp only [Value.slice.injEq, true_and] at he
    obtain ⟨rfl, rfl⟩ := he
    have hms : m * size ≤ n * size := Nat.mul_le_mul_right _ hm
    refine ⟨by rw [List.length_take, h0]; omega, .inr ⟨g, cap, cur, rfl, hg, hh, by omega, hc, hs, ?_⟩⟩
    rw [← ht, List.take_take, Nat.min_eq_left hms]
theorem wp_front {w W : World} {o : Oper} {a : Act} {K : Act → World → Prop} {Q : Exit → Act → World → Prop} {s x : Operand}
    (ho : o.op = .call { callee := .builtin .append, args := #[s, x], argTypes := #[28, 28] }) (k v : ByteArray) {B : Nat} {vo : Value} {ys : List Itm}
    (hs : a.eval s = .slice (some ⟨W.heap.size, 0, none⟩) 1 1) (hx : a.eval x = vo) (hw : w = W.alloc (.cells #[.string k, .string v] 35)) (h : W.ownsRow B 35 2 vo ys.length (ys.flatMap encI)) (hsm : ys.length ≤ 5000)
    (hK : ∀ r w2, w2.ownsRow W.heap.size 35 2 r (ys.length + 1) (((k, v) :: ys).flatMap encI) → Below W.heap.size W w2 → K (a.put o.dst r) w2) : o.wp Try.prog a w K Q := by
  subst hw
  obtain ⟨i0, hi0, hz0, hz1, hz2⟩ := info_parts infoP
  have hown : (W.alloc (.cells #[.string k, .string v] 35)).ownsRow W.heap.size 35 2 (.slice (some ⟨W.heap.size, 0, none⟩) 1 1) 1 [.string k, .string v] := by
    exact World.ownsRow_lit (size := 2) W #[.string k, .string v] 1 (Nat.le_refl _) (by unfold maxLen; omega) rfl
  have hb0 := below_new W (.cells #[.string k, .string v] 35)
  have h2 := own_kept h hb0
  unfold Oper.wp execOp
  by_cases he : ys.length = 0
  · have hv : vo = .slice none 0 0 ∨ ∃ g c, vo = .slice (some ⟨g, 0, none⟩) 0 c := by
      obtain ⟨_, ⟨rfl, _⟩ | ⟨g, cap', cur, rfl, _⟩⟩ := h
      · exact .inl rfl
      · exact .inr ⟨g, cap', by rw [he]⟩
    have hys : ys = [] := List.eq_nil_of_length_eq_zero he
    subst hys
    rcases hv with rfl | ⟨g, c, rfl⟩
    · have hrun := run_append_owned_none (P := Try.prog) (w := W.alloc (.cells #[.string k, .string v] 35)) W.heap.size 28 o.type 35 i0 2 Try.underlying28 hi0 _ 1 _ hown
      simp only [ho, resolve, invoke, builtin, Sem.run_bind, Sem.run_pure, Result.andThen_ok, List.map_toArray, List.map_cons, List.map_nil, hs, hx, hrun]
      exact hK _ _ hown hb0
    · obtain ⟨v', w', hr, h3, h4, h5, h6⟩ := run_append_own_at (P := Try.prog) (W.alloc (.cells #[.string k, .string v] 35)) W.heap.size 28 o.type 35 i0 (.agg #[.string ByteArray.empty, .string ByteArray.empty]) 2 32 Try.underlying28 hi0 hz0 hz1 hz2 rfl (by decide) _ 1 _ hown ⟨g, 0, none⟩ 0 c [] rfl (fun j u hj => by simp at hj) (fun u hu => by simp at hu) (by unfold maxLen; omega) (by omega) (by simp)
      simp only [ho, resolve, invoke, builtin, Sem.run_bind, Sem.run_pure, Result.andThen_ok, List.map_toArray, List.map_cons, List.map_nil, hs, hx, hr]
      exact hK _ _ h3 (hb0.grown h4 (by simp) (fun q hq => (hown.lt q hq).1))
  · obtain ⟨g, c, rfl⟩ := own_some h (by omega)
    obtain ⟨v', w', hr, h3, h4, h5, h6⟩ := run_append_own_at (P := Try.prog) (W.alloc (.cells #[.string k, .string v] 35)) W.heap.size 28 o.type 35 i0 (.agg #[.string ByteArray.empty, .string ByteArray.empty]) 2 32 Try.underlying28 hi0 hz0 hz1 hz2 rfl (by decide) _ 1 _ hown ⟨g, 0, none⟩ ys.length c (ys.flatMap encI) (flat_len _) (fun j u hj => own_cellsP h2 0 j u (by rw [Nat.zero_add]; exact hj)) (one_cell _) (by unfold maxLen; omega) (by omega) (by simp)
    simp only [ho, resolve, invoke, builtin, Sem.run_bind, Sem.run_pure, Result.andThen_ok, List.map_toArray, List.map_cons, List.map_nil, hs, hx, hr]
    exact hK _ _ (by rw [Nat.add_comm]; exact h3) (hb0.grown h4 (by simp) (fun q hq => (hown.lt q hq).1))
theorem wpList_front {w W : World} {ops : Array Oper} {rest : List Oper} {o : Oper} {a : Act} {Q : Exit → Act → World → Prop} {s x : Operand} (hgd : o.guard = none)
    (ho : o.op = .call { callee := .builtin .append, args := #[s, x], argTypes := #[28, 28] }) (k v : ByteArray) {B : Nat} {vo : Value} {ys : List Itm}
    (hs : a.eval s = .slice (some ⟨W.heap.size, 0, none⟩) 1 1) (hx : a.eval x = vo) (hw : w = W.alloc (.cells #[.string k, .string v] 35)) (h : W.ownsRow B 35 2 vo ys.length (ys.flatMap encI)) (hsm : ys.length ≤ 5000)
    (hK : ∀ r w2, w2.ownsRow W.heap.size 35 2 r (ys.length + 1) (((k, v) :: ys).flatMap encI) → Below W.heap.size W w2 → wpList Try.prog ops Q rest (a.put o.dst r) w2) : wpList Try.prog ops Q (o :: rest) a w :=
  wpList_plain hgd fun K hK' => wp_front ho k v hs hx hw h hsm (fun r w2 h1 h2 => hK' _ _ (hK r w2 h1 h2))
theorem put_take (ms : List Itm) (k x : ByteArray) (room : Nat) (hn : ms.length ≤ room) : putI ms k x room = ((k, x) :: dropI ms k).take (min ((dropI ms k).length + 1) room) := by
  have h := drop_len ms k
  unfold putI
  split
  · next h1 =>
    simp only [List.length_cons] at h1
    have h2 : (dropI ms k).length = room := by omega
    rw [Nat.min_eq_right (by omega), List.eraseIdx_eq_take_drop_succ, List.drop_of_length_le (by simp; omega), List.append_nil]
  · next h1 =>
    simp only [List.length_cons] at h1
    rw [Nat.min_eq_left (by omega), List.take_of_length_le (by simp)]
theorem take_drop (ms : List Itm) (k : ByteArray) : (takeI ms k).2.1 = dropI ms k ∧ (takeI ms k).2.2 = (findI ms k).isSome := by
  unfold takeI dropI
  cases hf : findI ms k with
  | none => exact ⟨rfl, rfl⟩
  | some j =>
    have := find_lt hf
    simp only [dif_pos this]
    exact ⟨trivial, rfl⟩
theorem get_some (ms : List Itm) (k : ByteArray) (h : (takeI ms k).2.2 = true) : getT ms k = ((takeI ms k).1.2, true, (takeI ms k).1 :: (takeI ms k).2.1) := by
  unfold takeI getT at *
  cases hf : findI ms k with
  | none => rw [hf] at h; cases h
  | some j =>
    have := find_lt hf
    simp only [dif_pos this]
theorem get_none (ms : List Itm) (k : ByteArray) (h : (takeI ms k).2.2 = false) : getT ms k = (⟨#[]⟩, false, ms) := by
  unfold takeI getT at *
  cases hf : findI ms k with
  | none => rfl
  | some j =>
    have := find_lt hf
    rw [hf] at h
    simp only [dif_pos this] at h
    cases h
end Go.Proofs.Ythahddaihkajbaa

