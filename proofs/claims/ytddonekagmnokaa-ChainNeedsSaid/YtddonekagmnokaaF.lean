/-
  What Order keeps: the map of sets, what is left, and the names that came.
-/
import Derived.Test.YtddonekagmnokaaE
import Derived.Test.YtddonekagmnokaaStrs
import Derived.Test.YtddonekagmnokaaRows2
set_option linter.unusedVariables false
set_option linter.unusedSimpArgs false
namespace Go.Proofs.Ytddonekagmnokaa
open Go.RowKit
structure OS (wr : World) (lo B b8 : Nat) (ks : List Int) (g : Int → Option Nat) (S : Int → Int → Prop) (lf : List Int) (v : Value) (os : List ByteArray) : Prop where
  mm : MM wr lo B ks g S
  st : St wr b8 lf
  ne : b8 ≠ B
  lo8 : lo ≤ b8
  nei : ∀ k ∈ ks, g k ≠ some b8
  row : wr.ownsRow lo 9 1 v os.length (os.flatMap strC)
variable {w w' : World} {lo B b8 : Nat} {ks : List Int} {g : Int → Option Nat} {S S' : Int → Int → Prop} {lf lf' : List Int} {v : Value} {os : List ByteArray}
theorem hm_block {κ α : Type} [DecidableEq κ] {M : HKind κ α} {w : World} {b : Nat} {ks : List κ} {f : κ → α} (h : HM M w b ks f) : ∃ es c, w.heap[b]? = some (.map es c) := by
  obtain ⟨D, ⟨es, clock, hb, _⟩, _⟩ := h
  exact ⟨es, clock, hb⟩
theorem row_ne {κ α : Type} [DecidableEq κ] {M : HKind κ α} {w : World} {b : Nat} {ks : List κ} {f : κ → α} (h : HM M w b ks f) {e : TypeId} {size n : Nat} {v : Value} {xs : List Value} (hr : w.ownsRow lo e size v n xs) {q : Nat} (hq : v.ownBlock = some q) : q ≠ b := by
  rintro rfl
  obtain ⟨es, c, hb⟩ := hm_block h
  obtain ⟨_, ⟨rfl, _⟩ | ⟨g, cap, cur, rfl, _, hg, _⟩⟩ := hr
  · cases hq
  · obtain rfl : g = q := by simpa [Value.ownBlock] using hq
    rw [hb] at hg; cases hg
/-- All blocks lie below r. -/
def OLt (r B b8 : Nat) (ks : List Int) (g : Int → Option Nat) (v : Value) : Prop := B < r ∧ b8 < r ∧ (∀ k ∈ ks, ∀ b, g k = some b → b < r) ∧ ∀ q, v.ownBlock = some q → q < r
theorem MM.lt_inner {w : World} (h : MM w lo B ks g S) {k : Int} (hk : k ∈ ks) {b : Nat} (e : g k = some b) : b < w.heap.size ∧ lo ≤ b ∧ b ≠ B := by
  obtain ⟨b', l, e1, e2, e3, h4, _⟩ := h.inner k hk
  rw [e] at e1
  obtain rfl : b = b' := by simpa using e1
  exact ⟨h4.lt, e2, e3⟩
theorem OS.lt (h : OS w lo B b8 ks g S lf v os) : OLt w.heap.size B b8 ks g v :=
  ⟨h.mm.hm.lt, h.st.lt, fun k hk b e => (h.mm.lt_inner hk e).1, fun q hq => (h.row.lt q hq).2⟩
theorem OS.keep (h : OS w lo B b8 ks g S lf v os) (k : Below w.heap.size w w') : OS w' lo B b8 ks g S lf v os :=
  ⟨h.mm.keep k, h.st.keep k, h.ne, h.lo8, h.nei, own_kept h.row k⟩
theorem OS.iter (h : OS w lo B b8 ks g S lf v os) {r : Nat} (hr : OLt r B b8 ks g v) (k : Kp (fun i => i = r) w w') : OS w' lo B b8 ks g S lf v os :=
  ⟨h.mm.kp2 k (fun e => by have := hr.1; omega) (fun j hj b e e2 => by have := hr.2.2.1 j hj b e; omega), h.st.kp k (fun e => by have := hr.2.1; omega), h.ne, h.lo8, h.nei, own_kp2 h.row k (fun q hq e => by have := hr.2.2.2 q hq; omega)⟩
theorem OS.strike (h : OS w lo B b8 ks g S lf v os) {x : Int} (hx : goodI x) (ty : TypeId) :
    ∃ w', (Builtin.delete_ #[41, 3] ty #[.map (some b8), .int .i64 x]).run Try.prog w = .ok (.tuple #[]) w' ∧ OS w' lo B b8 ks g S (delK lf x) v os ∧ Kp (fun k => k = b8) w w' := by
  obtain ⟨w', h1, h2, h3, h4⟩ := h.st.del hx ty
  refine ⟨w', h1, ⟨h.mm.kp2 h3 (fun e => h.ne e.symm) (fun j hj b e e2 => h.nei j hj (by rw [e, e2])), h2, h.ne, h.lo8, h.nei, own_kp2 h.row h3 (fun q hq => ?_)⟩, h3⟩
  obtain ⟨f, hm, _⟩ := h.st
  exact row_ne hm h.row hq
theorem OS.turn (h : OS w lo B b8 ks g S lf v os) {k : Int} (hk : k ∈ ks) {x : Int} (hx : goodI x) (hS : ∀ z, S' k z ↔ z ≠ x ∧ S k z) (hS2 : ∀ j ∈ ks, j ≠ k → ∀ z, S j z ↔ S' j z) (ty : TypeId) :
    ∃ b w', g k = some b ∧ (Builtin.delete_ #[41, 3] ty #[.map (some b), .int .i64 x]).run Try.prog w = .ok (.tuple #[]) w' ∧ OS w' lo B b8 ks g S' lf v os ∧ Kp (fun k => k = b) w w' := by
  obtain ⟨b, l, e1, e2, e3, e4, e5⟩ := h.mm.inner k hk
  obtain ⟨w', h1, h2, h3, h4⟩ := e4.del hx ty
  refine ⟨b, w', e1, h1, ⟨h.mm.turn hk e1 h2 h3 (fun z => ?_) hS2, h.st.kp h3 (fun e => h.nei k hk (by rw [e1, e])), h.ne, h.lo8, h.nei, own_kp2 h.row h3 (fun q hq => ?_)⟩, h3⟩
  · rw [mem_delK e4.nodup, e5 z, hS z]
  · obtain ⟨f, hm, _⟩ := e4
    exact row_ne hm h.row hq
theorem OS.congr (h : OS w lo B b8 ks g S lf v os) (hS : ∀ k ∈ ks, ∀ x, S k x ↔ S' k x) : OS w lo B b8 ks g S' lf v os := ⟨h.mm.congr hS, h.st, h.ne, h.lo8, h.nei, h.row⟩
theorem OS.push (h : OS w lo B b8 ks g S lf v os) {v' : Value} {os' : List ByteArray} (hg : w.grownBy w' v.ownBlock) (hr : w'.ownsRow lo 9 1 v' os'.length (os'.flatMap strC)) : OS w' lo B b8 ks g S lf v' os' := by
  have hk : Kp (fun i => v.ownBlock = some i) w w' := Kp.grown hg (fun k e => e)
  refine ⟨h.mm.kp2 hk (fun e => row_ne h.mm.hm h.row e rfl) (fun j hj b e e2 => ?_), h.st.kp hk (fun e => ?_), h.ne, h.lo8, h.nei, hr⟩
  · obtain ⟨b', l, e1, _, _, e4, _⟩ := h.mm.inner j hj
    rw [e] at e1
    obtain rfl : b = b' := by simpa using e1
    obtain ⟨f, hm, _⟩ := e4
    exact row_ne hm h.row e2 rfl
  · obtain ⟨f, hm, _⟩ := h.st
    exact row_ne hm h.row e rfl
theorem MM.lower {w : World} (h : MM w lo B ks g S) {lo' : Nat} (hl : lo' ≤ lo) : MM w lo' B ks g S :=
  ⟨Nat.le_trans hl h.base, h.hm, fun k hk => by
    obtain ⟨b, l, h1, h2, h3⟩ := h.inner k hk
    exact ⟨b, l, h1, Nat.le_trans hl h2, h3⟩, h.inj⟩
/-- Which sets are there of what is left: each place's needs that have not come. -/
def SO (E : List (Int × Int)) (d : List Nat) (k x : Int) : Prop := (k, x) ∈ E ∧ inD d x = false
/-- .. while a place is being struck out of them: those of left are still to come. -/
def SL (E : List (Int × Int)) (d : List Nat) (i : Int) (left : List Int) (k x : Int) : Prop := SO E d k x ∧ (x = i → k ∈ left)
/-- What is read at a place: whether it is left, and how many it needs. -/
theorem OS.needs (h : OS w lo B b8 ks g S lf v os) {x : Int} (hx : goodI x) : (Instr.lookup 39 (.map (some B)) (.int .i64 x) false).run Try.prog w = .ok (.map (g x)) w ∧
    ∃ c : Nat, (∀ ty, (Builtin.len_ #[41] ty #[.map (g x)]).run Try.prog w = .ok (.int .i64 c) w) ∧ (c = 0 ↔ (x ∈ ks → ∀ y, ¬ S x y)) := by
  refine ⟨h.mm.look hx, ?_⟩
  by_cases e : x ∈ ks
  · obtain ⟨b, l, e1, e2, e3, e4, e5⟩ := h.mm.inner x e
    refine ⟨l.length, fun ty => by rw [e1]; exact e4.len ty, fun h0 _ y hy => ?_, fun h0 => ?_⟩
    · have := (e5 y).2 hy
      rw [List.eq_nil_of_length_eq_zero h0] at this
      cases this
    · rcases l with _ | ⟨y, l⟩
      · rfl
      · exact absurd ((e5 y).1 (by simp)) (h0 e y)
  · refine ⟨0, fun ty => by rw [h.mm.none hx e]; exact Maps.len_nil Try.underlying41 ty, fun _ he => absurd he e, fun _ => rfl⟩
end Go.Proofs.Ytddonekagmnokaa

