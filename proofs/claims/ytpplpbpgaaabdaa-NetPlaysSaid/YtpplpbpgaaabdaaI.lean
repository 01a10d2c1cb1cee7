/-
  What a round of NetPlays takes: each contract for any list of messages.
-/
import Derived.Test.YtpplpbpgaaabdaaH
set_option linter.unusedVariables false
set_option linter.unusedSimpArgs false
namespace Go.Proofs.Ytpplpbpgaaabdaa
open Go.RowKit
def getM (xs : List Msg) (i : Int) : Msg := xs.getD (place i xs.length) (0, ⟨#[]⟩)
def rest (xs : List Msg) (i : Int) : List Msg := xs.eraseIdx (place i xs.length)
def have1 (xs : List Msg) : Bool := decide (0 < xs.length)
theorem getM_pos {xs : List Msg} (i : Int) (h : 0 < xs.length) : getM xs i = xs[place i xs.length]'(place_lt i h) := by
  unfold getM
  rw [List.getD_eq_getElem?_getD, List.getElem?_eq_getElem (place_lt i h)]
  rfl
theorem rest_le (xs : List Msg) (i : Int) : (rest xs i).length ≤ xs.length := List.length_eraseIdx_le ..
theorem ref_both {B : Nat} {v : Value} {xs : List Msg} (i : Int) (w : World) (h : w.ownsRow B 32 2 v xs.length (xs.flatMap encM)) (hB : B ≤ w.heap.size) (hsm : xs.length ≤ 5000) (hi : -9223372036854775808 ≤ i ∧ i ≤ 9223372036854775807) :
    Calls Try.prog 7 #[v, .int .i64 i] w fun e w' => ∃ vo, e = .returned (.tuple #[.agg #[.int .i64 (getM xs i).1, .string (getM xs i).2], vo, .bool (have1 xs)]) ∧
      w'.ownsRow B 32 2 vo (rest xs i).length ((rest xs i).flatMap encM) ∧ Below w.heap.size w w' ∧ (∀ g, vo.ownBlock = some g → v.ownBlock = some g ∨ w.heap.size ≤ g) := by
  by_cases hn : 0 < xs.length
  · refine (ref_any i w h hn hsm hi).mono ?_
    rintro e w' ⟨vo, rfl, ho, hb⟩
    refine ⟨vo, ?_, own_base ho hB, hb, fun g hg => Or.inr (ho.lt g hg).1⟩
    rw [getM_pos i hn]
    simp [have1, hn]
  · obtain rfl : xs = [] := List.eq_nil_of_length_eq_zero (by omega)
    obtain ⟨a, cap, rfl⟩ := own_shape h
    refine (ref_none .nilFunc cap a i w).mono ?_
    rintro e w' ⟨rfl, hb⟩
    exact ⟨_, rfl, own_kept h hb, hb, fun g hg => Or.inl hg⟩
theorem peek_both {p B : Nat} {v : Value} {ms : List Msg} {room : Int} (i : Int) (w : World) (h : Ns w p B v ms room) :
    Calls Try.prog 10 #[.pointer (some ⟨p, 0, none⟩), .int .i64 i] w fun e w' => e = .returned (.tuple #[.int .i64 (getM ms i).1, .string (getM ms i).2, .bool (have1 ms)]) ∧ Below w.heap.size w w' := by
  by_cases hn : 0 < ms.length
  · refine (peek_any i w h hn).mono ?_
    rintro e w' ⟨rfl, hb⟩
    refine ⟨?_, hb⟩
    rw [getM_pos i hn]
    simp [have1, hn]
  · obtain rfl : ms = [] := List.eq_nil_of_length_eq_zero (by omega)
    refine (peek_none i w h).mono ?_
    rintro e w' ⟨rfl, rfl⟩
    exact ⟨rfl, Below.refl _ _⟩
theorem take_both {p B : Nat} {v : Value} {ms : List Msg} {room : Int} (i : Int) (w : World) (h : Ns w p B v ms room) (hsm : ms.length ≤ 5000) :
    Calls Try.prog 9 #[.pointer (some ⟨p, 0, none⟩), .int .i64 i] w fun e w' => e = .returned (.tuple #[.int .i64 (getM ms i).1, .string (getM ms i).2, .bool (have1 ms)]) ∧
      ∃ v', Ns w' p B v' (rest ms i) room ∧ Kp (fun j => j = p ∨ v.ownBlock = some j) w w' ∧ v'.ownBlock = v.ownBlock := by
  by_cases hn : 0 < ms.length
  · refine (take_any i w h hn hsm).mono ?_
    rintro e w' ⟨rfl, v', h1, h2, h3⟩
    refine ⟨?_, v', h1, h2, h3⟩
    rw [getM_pos i hn]
    simp [have1, hn]
  · obtain rfl : ms = [] := List.eq_nil_of_length_eq_zero (by omega)
    refine (take_none i w h).mono ?_
    rintro e w' ⟨rfl, rfl⟩
    exact ⟨rfl, v, h, Kp.refl _ _, rfl⟩
theorem wp_append_own_at {P : Program} (w : World) {o : Oper} {a : Act} {K : Act → World → Prop} {Q : Exit → Act → World → Prop} (s x : Operand) (t : TypeId)
    (ho : o.op = .call { callee := .builtin .append, args := #[s, x], argTypes := #[t, t] })
    (base : Nat) (e : TypeId) (i : TypeInfo) (z : Value) (size bytes : Nat) (ht : P.underlying t = some (.slice e)) (hi : P.info? e = some i) (hz : i.zero = some z)
    (hsize : i.size = size) (hby : i.bytes = bytes) (hzs : z.cells.size = size) (hsz : 0 < size)
    (v : Value) (n : Nat) (xs : List Value) (hs : a.eval s = v) (hown : w.ownsRow base e size v n xs)
    (ad : Addr) (m c : Nat) (news : List Value) (hx : a.eval x = .slice (some ad) m c) (hl : news.length = m * size) (hnews : ∀ j u, news[j]? = some u → w.cell? (ad.add j) = some u) (h1 : ∀ u ∈ news, u.oneCell' = true)
    (h63 : n + m ≤ maxLen) (hbytes : (n + m) * bytes ≤ 140737488355328) (hbase : base ≤ w.heap.size)
    (h : ∀ v' w', w'.ownsRow base e size v' (n + m) (xs ++ news) → w.grownBy w' v.ownBlock → (v'.ownBlock = v.ownBlock ∨ v'.ownBlock = some w.heap.size) → K (a.put o.dst v') w') : o.wp P a w K Q := by
  obtain ⟨v', w', hr, h2, h3, h4, h5⟩ := run_append_own_at (P := P) w base t o.type e i z size bytes ht hi hz hsize hby hzs hsz v n xs hown ad m c news hl hnews h1 h63 hbytes hbase
  unfold Oper.wp execOp
  simp only [ho, resolve, invoke, builtin, Sem.run_bind, Sem.run_pure, Result.andThen_ok, List.map_toArray, List.map_cons, List.map_nil, hs, hx, hr]
  exact h v' w' h2 h3 h5
end Go.Proofs.Ytpplpbpgaaabdaa
