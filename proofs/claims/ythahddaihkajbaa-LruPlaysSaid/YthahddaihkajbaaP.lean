/-
  What the law's take wants.
-/
import Derived.Test.YthahddaihkajbaaO
set_option linter.unusedVariables false
set_option linter.unusedSimpArgs false
namespace Go.Proofs.Ythahddaihkajbaa
open Go.RowKit
theorem res_cell3 {fn : Func} {p u u2 : Tmp} {ty : TypeId} {tmps : Array Value} {w : World} {A : Nat} {x v v2 : Value} (h : fn.results = #[.cell p ty, .tmp u, .tmp u2]) (h1 : tmps.getD p undef = .pointer (some ⟨A, 0, none⟩)) (h2 : tmps.getD u undef = v) (h4 : tmps.getD u2 undef = v2) (hl : (loadVar ty ⟨A, 0, none⟩).run Try.prog w = .ok x w) :
    (results fn tmps).run Try.prog w = .ok (.tuple #[x, v, v2]) w := by
  have h3 : (asAddr (.pointer (some ⟨A, 0, none⟩))).run Try.prog w = Result.ok ⟨A, 0, none⟩ w := rfl
  simp at h1 h2 h4
  simp only [results, h]
  simp [Sem.run_bind, Result.andThen, h1, h2, h4, h3, hl]
theorem wp_append_own_at {P : Program} (w : World) {o : Oper} {a : Act} {K : Act → World → Prop} {Q : Exit → Act → World → Prop} (s x : Operand) (t : TypeId)
    (ho : o.op = .call { callee := .builtin .append, args := #[s, x], argTypes := #[t, t] })
    (base : Nat) (e : TypeId) (i : TypeInfo) (z : Value) (size bytes : Nat) (ht : P.underlying t = some (.slice e)) (hi : P.info? e = some i) (hz : i.zero = some z)
    (hsize : i.size = size) (hby : i.bytes = bytes) (hzs : z.cells.size = size) (hsz : 0 < size)
    (v : Value) (n : Nat) (xs : List Value) (hs : a.eval s = v) (hown : w.ownsRow base e size v n xs)
    (ad : Addr) (m c : Nat) (news : List Value) (hx : a.eval x = .slice (some ad) m c) (hl : news.length = m * size) (hnews : ∀ j u, news[j]? = some u → w.cell? (ad.add j) = some u) (h1 : ∀ u ∈ news, u.oneCell' = true)
    (h63 : n + m ≤ maxLen) (hbytes : (n + m) * bytes ≤ 140737488355328) (hbase : base ≤ w.heap.size)
    (h : ∀ v' w', w'.ownsRow base e size v' (n + m) (xs ++ news) → w.grownBy w' v.ownBlock → (v'.ownBlock = v.ownBlock ∨ v'.ownBlock = some w.heap.size) → K (a.put o.dst v') w') : o.wp P a w K Q := by
  obtain ⟨v', w', hr, h2, h3, h4, h5⟩ := run_append_own_at (P := P) w base t o.type e i z size bytes ht hi hz hsize hby hzs hsz v n xs hown ad m c news hl hnews h1 h63 hbytes hbase
  unfold Oper.wp execOp
  simp only [ho, resolve, invoke, builtin, Sem.run_bind, Sem.run_pure, Result.andThen_ok, List.map_toArray, List.map_cons, List.map_nil, hs, hx, hr]
  exact h v' w' h2 h3 h5
theorem infoP : (Try.prog.info? 35).map (fun i => (i.zero, i.size, i.bytes)) = some (some (.agg #[.string ByteArray.empty, .string ByteArray.empty]), 2, 32) := by kernel_rfl
theorem own_cellsP {w : World} {B g cap n : Nat} {xs : List Itm} (h : w.ownsRow B 35 2 (.slice (some ⟨g, 0, none⟩) n cap) n (xs.flatMap encI)) : ∀ o j u, (xs.flatMap encI)[o + j]? = some u → w.cell? ((⟨g, o, none⟩ : Addr).add j) = some u := by
  intro o j u hj
  have := h.cells (g := g) rfl (o + j) u hj
  rw [Addr.add_lit, Nat.zero_add] at this
  rw [Addr.add_lit]
  exact this
theorem row_cellsP {w : World} {B : Nat} {g cap : Nat} {ms : List Itm} (h : w.ownsRow B 35 2 (.slice (some ⟨g, 0, none⟩) ms.length cap) ms.length (ms.flatMap encI)) (k : Nat) (hk : k < ms.length) :
    w.cell? ⟨g, k * 2, none⟩ = some (.string ms[k].1) ∧ w.cell? ⟨g, k * 2 + 1, none⟩ = some (.string ms[k].2) := by
  have h0 := own_cellsP h (k * 2) 0 (.string ms[k].1) (by rw [Nat.add_zero]; exact flat_get (size := 2) (fun _ => rfl) ms k hk 0 _ rfl)
  have h1 := own_cellsP h (k * 2) 1 (.string ms[k].2) (flat_get (size := 2) (fun _ => rfl) ms k hk 1 _ rfl)
  rw [Addr.add_lit] at h0 h1
  exact ⟨h0, h1⟩
end Go.Proofs.Ythahddaihkajbaa

