/-
  A row of items of one's own; the contracts of New, Keys; what is found where.
-/
import Derived.Test.YthahddaihkajbaaOwn
import Derived.Test.YthahddaihkajbaaLoad
import Derived.Test.YthahddaihkajbaaStrs
import Derived.Maps.AppendAt
set_option linter.unusedVariables false
set_option linter.unusedSimpArgs false
namespace Go.Proofs.Ythahddaihkajbaa
open Go.RowKit
abbrev Itm := ByteArray × ByteArray
def encI (m : Itm) : List Value := [.string m.1, .string m.2]
/-- A cache lies at block p; v is its row of items. -/
def Cs (w : World) (p B : Nat) (v : Value) (ms : List Itm) (room : Int) : Prop := Bk p [v, .int .i64 room] w ∧ w.ownsRow B 52 2 v ms.length (ms.flatMap encI) ∧ p < B ∧ B ≤ w.heap.size
theorem Cs.kp {S : Nat → Prop} {w w' : World} {p B : Nat} {v : Value} {ms : List Itm} {room : Int} (h : Cs w p B v ms room) (k : Kp S w w') (h1 : ¬ S p) (h2 : ∀ g, v.ownBlock = some g → ¬ S g) : Cs w' p B v ms room :=
  ⟨h.1.kp k h1, own_kp2 h.2.1 k h2, h.2.2.1, Nat.le_trans h.2.2.2 k.size⟩
theorem Cs.keep {w w' : World} {p B : Nat} {v : Value} {ms : List Itm} {room : Int} (h : Cs w p B v ms room) (k : Below w.heap.size w w') : Cs w' p B v ms room := h.kp (Kp.new (S := fun _ => False) k) (fun h => h) (fun _ _ h => h)
theorem Cs.drew {w : World} {p B : Nat} {v : Value} {ms : List Itm} {room : Int} (h : Cs w p B v ms room) : Cs w.drew p B v ms room := h
theorem bad_any (m : Int) (w : World) (h : m < 1 ∨ 4096 < m) : Calls Try.prog 6 #[.int .i64 m] w fun e w' => e = .returned (.tuple #[.pointer none, .int .i64 1]) ∧ w' = w := by
  by_cases h1 : m < 1
  · have d1 : decide (m < 1) = true := decide_eq_true h1
    go_enter Try.func6, Try.ntmps6
    go_wp2_with fail
    go_ret2
    exact ⟨rfl, rfl⟩
  · have d1 : decide (m < 1) = false := decide_eq_false h1
    have d2 : decide (4096 < m) = true := decide_eq_true (by omega)
    go_enter Try.func6, Try.ntmps6
    go_wp2_with fail
    go_ret2
    exact ⟨rfl, rfl⟩
theorem new_any (m : Int) (w : World) (h0 : 1 ≤ m) (h1 : m ≤ 4096) : Calls Try.prog 6 #[.int .i64 m] w fun e w' => e = .returned (.tuple #[.pointer (some ⟨w.heap.size, 0, none⟩), .int .i64 0]) ∧ Cs w' w.heap.size (w.heap.size + 1) (.slice none 0 0) [] m ∧ Below w.heap.size w w' := by
  have d1 : decide (m < 1) = false := decide_eq_false (by omega)
  have d2 : decide (4096 < m) = false := decide_eq_false (by omega)
  go_enter Try.func6, Try.ntmps6
  go_wp2_with fail
  go_ret2
  refine ⟨rfl, ⟨?_, own_nil _ _ _ _, by omega, by simp⟩, below_new _ _⟩
  exact Bk.new w 48 #[.slice none 0 0, .int .i64 m]
theorem own_shape {w : World} {B : Nat} {e : TypeId} {size : Nat} {v : Value} {n : Nat} {xs : List Value} (h : w.ownsRow B e size v n xs) : ∃ a cap, v = .slice a n cap := by
  obtain ⟨_, ⟨rfl, h0⟩ | ⟨g, cap, cur, rfl, _⟩⟩ := h
  · exact ⟨none, 0, by rw [h0]⟩
  · exact ⟨_, _, rfl⟩
theorem own_some {w : World} {B : Nat} {e : TypeId} {size : Nat} {v : Value} {n : Nat} {xs : List Value} (h : w.ownsRow B e size v n xs) (hn : 0 < n) : ∃ g cap, v = .slice (some ⟨g, 0, none⟩) n cap := by
  obtain ⟨_, ⟨rfl, h0⟩ | ⟨g, cap, cur, rfl, _⟩⟩ := h
  · omega
  · exact ⟨_, _, rfl⟩
theorem infoI : (Try.prog.info? 52).map (fun i => (i.zero, i.size, i.bytes)) = some (some (.agg #[.string ByteArray.empty, .string ByteArray.empty]), 2, 32) := by kernel_rfl
theorem row_cells {w : World} {B : Nat} {g cap : Nat} {ms : List Itm} (h : w.ownsRow B 52 2 (.slice (some ⟨g, 0, none⟩) ms.length cap) ms.length (ms.flatMap encI)) (k : Nat) (hk : k < ms.length) :
    w.cell? ⟨g, k * 2, none⟩ = some (.string ms[k].1) ∧ w.cell? ⟨g, k * 2 + 1, none⟩ = some (.string ms[k].2) := by
  obtain ⟨a, c, e, _, hs⟩ := own_sl (size := 2) (fun _ => rfl) (by decide) h
  obtain ⟨b, o, ha, _, hc⟩ := hs k hk
  simp only [Value.slice.injEq, true_and] at e
  rw [← e.1] at ha
  simp only [Option.some.injEq, Addr.mk.injEq, and_true] at ha
  obtain ⟨rfl, rfl⟩ := ha
  have h0 := hc 0 _ rfl
  have h1 := hc 1 _ rfl
  rw [Nat.zero_add] at h0 h1
  exact ⟨h0, h1⟩
theorem flat_len (l : List Itm) : (l.flatMap encI).length = l.length * 2 := by
  induction l with
  | nil => rfl
  | cons m l ih => rw [List.flatMap_cons, List.length_append, ih]; simp [encI]; omega
theorem erase_flat (ms : List Itm) (k : Nat) : (ms.eraseIdx k).flatMap encI = (ms.take k).flatMap encI ++ (ms.drop (k + 1)).flatMap encI := by
  rw [List.eraseIdx_eq_take_drop_succ, List.flatMap_append]
theorem flat_take (ms : List Itm) (k : Nat) : (ms.flatMap encI).take (k * 2) = (ms.take k).flatMap encI := by
  induction ms generalizing k with
  | nil => simp
  | cons m l ih =>
    cases k with
    | zero => simp
    | succ k =>
      rw [List.take_succ_cons, List.flatMap_cons, List.flatMap_cons, ← ih k]
      have : (encI m).length = 2 := rfl
      rw [List.take_append, this, show (k + 1) * 2 - 2 = k * 2 by omega, List.take_of_length_le (by rw [this]; omega)]
theorem flat_drop (ms : List Itm) (k : Nat) : (ms.flatMap encI).drop (k * 2) = (ms.drop k).flatMap encI := by
  induction ms generalizing k with
  | nil => simp
  | cons m l ih =>
    cases k with
    | zero => simp
    | succ k =>
      rw [List.drop_succ_cons, List.flatMap_cons, ← ih k]
      have : (encI m).length = 2 := rfl
      rw [List.drop_append, this, show (k + 1) * 2 - 2 = k * 2 by omega, List.drop_of_length_le (by rw [this]; omega), List.nil_append]
theorem one_cell (l : List Itm) : ∀ u ∈ l.flatMap encI, u.oneCell' = true := by
  intro u hu
  obtain ⟨m, _, hm⟩ := List.mem_flatMap.1 hu
  simp only [encI, List.mem_cons, List.mem_nil_iff, or_false] at hm
  rcases hm with rfl | rfl <;> rfl
theorem setRow_kp (w : World) (g : Nat) (cs : Array Value) : Kp (fun i => i = g) w (w.setRow g cs) := ⟨rfl, rfl, rfl, by simp [World.setRow], fun k hk hn => setRow_other w g k _ hn⟩
/-- The first place of a key: none. -/
def plcK (ms : List Itm) (k : ByteArray) : Nat → Option Nat
  | 0 => none
  | i + 1 => match plcK ms k i with
    | some j => some j
    | none => if h : i < ms.length then (if ms[i].1 = k then some i else none) else none
def findI (ms : List Itm) (k : ByteArray) : Option Nat := plcK ms k ms.length
theorem plcK_lt (ms : List Itm) (k : ByteArray) : ∀ i j, plcK ms k i = some j → j < i ∧ ∃ h : j < ms.length, (ms[j]'h).1 = k
  | 0, j, h => by simp [plcK] at h
  | i + 1, j, h => by
    rw [plcK] at h
    cases hp : plcK ms k i with
    | some j' =>
      rw [hp] at h
      simp only [Option.some.injEq] at h
      subst h
      have := plcK_lt ms k i j' hp
      exact ⟨by omega, this.2⟩
    | none =>
      rw [hp] at h
      simp only at h
      split at h
      · next hi =>
        split at h
        · next e =>
          simp only [Option.some.injEq] at h
          subst h
          exact ⟨by omega, hi, e⟩
        · cases h
      · cases h
theorem find_lt {ms : List Itm} {k : ByteArray} {j : Nat} (h : findI ms k = some j) : j < ms.length := (plcK_lt ms k _ j h).1
theorem plcK_more (ms : List Itm) (k : ByteArray) {i j : Nat} (h : plcK ms k i = some j) : ∀ d, plcK ms k (i + d) = some j
  | 0 => h
  | d + 1 => by rw [← Nat.add_assoc, plcK, plcK_more ms k h d]
end Go.Proofs.Ythahddaihkajbaa

