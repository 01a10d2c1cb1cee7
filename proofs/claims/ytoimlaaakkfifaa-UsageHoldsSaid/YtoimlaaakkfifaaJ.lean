/-
  The contracts of the law's one and awake.
-/
import Derived.Test.YtoimlaaakkfifaaI
import Derived.ArgAppend
import Derived.Test.YtoimlaaakkfifaaLoad
set_option linter.unusedVariables false
set_option linter.unusedSimpArgs false
namespace Go.Proofs.Ytoimlaaakkfifaa
open Go.RowKit
theorem res_one {fn : Func} {p : Tmp} {ty : TypeId} {tmps : Array Value} {w : World} {A : Nat} {x : Value} (h : fn.results = #[.cell p ty]) (h1 : tmps.getD p undef = .pointer (some ⟨A, 0, none⟩)) (hl : (loadVar ty ⟨A, 0, none⟩).run Try.prog w = .ok x w) :
    (results fn tmps).run Try.prog w = .ok x w := by
  have h3 : (asAddr (.pointer (some ⟨A, 0, none⟩))).run Try.prog w = Result.ok ⟨A, 0, none⟩ w := rfl
  simp at h1
  simp only [results, h]
  simp [Sem.run_bind, Result.andThen, h1, h3, hl]
theorem flt_eql {r : Nat} (h : isNo r) (w : World) : (binOp .eql 31 (.float .f64 r) (.float .f64 r)).run Try.prog w = .ok (.bool true) w := by
  have := order_self h
  simp [binOp, Op.floatCmp, FloatKind.format, this]
theorem flt_geq {r : Nat} (h : isNo r) (w : World) : (binOp .geq 31 (.float .f64 r) (.float .f64 4607182418800017408)).run Try.prog w = .ok (.bool true) w := by
  rcases order_one h with h1 | h1 <;> simp [binOp, Op.floatCmp, FloatKind.format, h1]
theorem encE_len (x : EntM) : (encE x).length = 8 := rfl
theorem sl_newE (w : World) (l : List EntM) (E : TypeId) : Sl encE 8 (w.alloc (.cells (l.flatMap encE).toArray E)) (some ⟨w.heap.size, 0, none⟩) l := by
  intro i hi
  refine ⟨w.heap.size, 0, rfl, by simp, fun j v hv => ?_⟩
  rw [cell_new, Nat.zero_add]
  simpa using flat_get (enc := encE) (size := 8) encE_len l i hi j v hv
theorem sl_new (w : World) (l : List ByteArray) (E : TypeId) : Sl strC 1 (w.alloc (.cells (l.map Value.string).toArray E)) (some ⟨w.heap.size, 0, none⟩) l := by
  intro i hi
  refine ⟨w.heap.size, 0, rfl, by simp, fun j v hv => ?_⟩
  rw [cell_new]
  have hj : j = 0 := by
    have := (List.getElem?_eq_some_iff.1 hv).1
    simp [strC] at this; exact this
  subst hj
  simp [strC] at hv
  subst hv
  simp [hi]
theorem flatE_len (l : List EntM) : (l.flatMap encE).length = l.length * 8 := by
  induction l with
  | nil => rfl
  | cons x l ih => rw [List.flatMap_cons, List.length_append, ih, encE_len, List.length_cons]; omega
theorem slE_flat {w : World} {a : Option Addr} {l : List EntM} (h : Sl encE 8 w a l) : ∀ b, a = some b → ∀ j u, (l.flatMap encE)[j]? = some u → w.cell? (b.add j) = some u := by
  intro b hb j u hu
  have hj : j < l.length * 8 := by have := (List.getElem?_eq_some_iff.1 hu).1; rw [flatE_len] at this; exact this
  obtain ⟨b1, o1, e, _, hc⟩ := h (j / 8) (by omega)
  obtain rfl : b = ⟨b1, o1, none⟩ := by rw [hb] at e; simpa using e
  have h9 : j % 8 < (encE l[j / 8]).length := by rw [encE_len]; omega
  have h2 := flat_get (enc := encE) (size := 8) encE_len l (j / 8) (by omega) (j % 8) _ (List.getElem?_eq_getElem h9)
  rw [show j / 8 * 8 + j % 8 = j by omega, hu] at h2
  rw [Addr.add_lit]
  have h3 := hc (j % 8) _ (List.getElem?_eq_getElem h9)
  rw [show o1 + j / 8 * 8 + j % 8 = o1 + j by omega] at h3
  rw [h3, ← h2]
theorem infoE : (Try.prog.info? 40).map (fun i => (i.zero, i.size, i.bytes)) = some (some (.agg #[.string ByteArray.empty, .int .i64 0, .int .i64 0, .slice none 0 0, .string ByteArray.empty, .slice none 0 0, .slice none 0 0, .slice none 0 0]), 8, 144) := by kernel_rfl
def mkE (nm : ByteArray) (sz : Int) (ids : List ByteArray) (a : Option Addr) (c : Nat) : EntM := ⟨⟨nm, sz, 4, ids⟩, a, c, ⟨#[]⟩, none, 0, 0, none, 0, 0, none, 0, 0⟩
set_option maxHeartbeats 4000000 in
theorem one_any (nm : ByteArray) (sz : Int) (a : Option Addr) (n c : Nat) (w : World) : Calls Try.prog 13 #[.string nm, .int .i64 sz, .slice a n c] w fun r w' => r = .returned (.agg #[.string nm, .int .i64 sz, .int .i64 4, .slice a n c, .string ⟨#[]⟩, .slice none 0 0, .slice none 0 0, .slice none 0 0]) ∧ Below w.heap.size w w' := by
  have HB := Lib.hid (below_new w (.cells #[.string nm, .int .i64 sz, .int .i64 4, .slice a n c, .string ⟨#[]⟩, .slice none 0 0, .slice none 0 0, .slice none 0 0] 40))
  have HL := Lib.hid (load_var (t := 40) (fun _ => by kernel_rfl) (fun _ => by kernel_rfl) (Bk.new w 40 #[.string nm, .int .i64 sz, .int .i64 4, .slice a n c, .string ⟨#[]⟩, .slice none 0 0, .slice none 0 0, .slice none 0 0]))
  go_enter Try.func13, Try.ntmps13
  go_wp2
  (try simp only [Exit.inBlock, Exit.then])
  refine bodyPost_ret (res_one rfl rfl HL.out) rfl ?_
  exact ⟨rfl, HB.out⟩
end Go.Proofs.Ytoimlaaakkfifaa

