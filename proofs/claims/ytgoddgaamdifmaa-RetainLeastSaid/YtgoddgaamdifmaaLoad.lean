/-
  A whole struct read out of its block.
-/
import Derived.Test.YtgoddgaamdifmaaKp
import Derived.Test.YtgoddgaamdifmaaProg
import Derived.Laws.ResultCell
set_option linter.unusedVariables false
set_option linter.unusedSimpArgs false
namespace Go.Proofs.Ytgoddgaamdifmaa
open Go.RowKit
theorem load_var {w : World} {p : Nat} {vs : List Value} {t : TypeId} (ht : ∀ w : World, (isAgg t).run Try.prog w = .ok true w) (hz : ∀ w : World, (sizeOf t).run Try.prog w = .ok vs.length w) (h : Bk p vs w) :
    (loadVar t ⟨p, 0, none⟩).run Try.prog w = .ok (.agg vs.toArray) w := by
  have h2 := run_loadCells_list (P := Try.prog) w ⟨p, 0, none⟩ vs (fun j v hv => by
    have := (h.2 j v hv).1
    rw [Addr.add_lit, Nat.zero_add]; exact this)
  simp only [loadVar, Sem.run_bind, Result.andThen, ht, hz, h2, if_true, Sem.run_pure]
theorem load_agg {w : World} {p : Nat} {vs : List Value} {t : TypeId} (ht : ∀ w : World, (isAgg t).run Try.prog w = .ok true w) (hz : ∀ w : World, (sizeOf t).run Try.prog w = .ok vs.length w) (h : Bk p vs w) :
    (Instr.loadAt t (.pointer (some ⟨p, 0, none⟩))).run Try.prog w = .ok (.agg vs.toArray) w := by
  have h3 : (Instr.sureAddr (.pointer (some ⟨p, 0, none⟩))).run Try.prog w = Result.ok ⟨p, 0, none⟩ w := rfl
  simp only [Instr.loadAt, Sem.run_bind, h3, Result.andThen, load_var ht hz h]
theorem exec_load {ρ : Operand → Value} {o : Oper} {t : TypeId} {a : Operand} {w : World} {v p : Value} (h : (Instr.loadAt t p).run Try.prog w = .ok v w) (ho : o.op = .load t a) (hp : ρ a = p) :
    (execOp ρ o).run Try.prog w = .ok (.value v) w := by
  subst hp
  unfold execOp
  rw [ho]
  simp only [Sem.run_bind, h, Result.andThen, Sem.run_pure]
theorem res_cell {fn : Func} {p u : Tmp} {ty : TypeId} {tmps : Array Value} {w : World} {A : Nat} {x v : Value} (h : fn.results = #[.cell p ty, .tmp u]) (h1 : tmps.getD p undef = .pointer (some ⟨A, 0, none⟩)) (h2 : tmps.getD u undef = v) (hl : (loadVar ty ⟨A, 0, none⟩).run Try.prog w = .ok x w) :
    (results fn tmps).run Try.prog w = .ok (.tuple #[x, v]) w := by
  rw [results_cell_tmp h, h1, h2]
  have h3 : (asAddr (.pointer (some ⟨A, 0, none⟩))).run Try.prog w = Result.ok ⟨A, 0, none⟩ w := rfl
  simp only [h3, Result.andThen, hl]
end Go.Proofs.Ytgoddgaamdifmaa
