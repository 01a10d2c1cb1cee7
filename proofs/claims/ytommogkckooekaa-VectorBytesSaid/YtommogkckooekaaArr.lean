/-
  Two arrays of whole numbers are compared.
-/
import Derived.Test.YtommogkckooekaaBase2
import Derived.Laws.StructEq
set_option linter.unusedVariables false
set_option linter.unusedSimpArgs false
namespace Go.Proofs.Ytommogkckooekaa
open Go.RowKit
theorem run_equalIn_arr {P : Program} (t e : TypeId) (k : IntKind) (n : Nat) (xs ys : List Int) (hx : xs.length = n) (hy : ys.length = n) (ht : P.underlying t = some (.array n e)) (he : P.underlying e = some (.int k)) (hz : ∀ w, (sizeOf e).run P w = .ok 1 w)
    (ha : ∀ w, (isAgg e).run P w = .ok false w) (w : World) :
    (Op.equalIn 10000 t (.agg (xs.map (Value.int k)).toArray) (.agg (ys.map (Value.int k)).toArray)).run P w = .ok (decide (xs = ys)) w := by
  rw [show (10000 : Nat) = 9999 + 1 from rfl, Op.equalIn]
  simp only [Sem.run_bind, run_underlying ht, Result.andThen_ok, hz]
  simp only [Std.Legacy.Range.forIn_eq_forIn_range', Std.Legacy.Range.size, Nat.sub_zero, Nat.add_sub_cancel, Nat.div_one]
  have key : ∀ (m s : Nat), s + m = n → (Sem.run P (forIn (List.range' s m) ((none, ()) : Option Bool × Unit) fun i __s => do
            let __do_lift ← part e (List.map (Value.int k) xs).toArray (i * 1)
            let __do_lift_1 ← part e (List.map (Value.int k) ys).toArray (i * 1)
            let __do_lift ← Op.equalIn 9999 e __do_lift __do_lift_1
            if (!__do_lift) = true then pure (ForInStep.done (some false, ())) else pure (ForInStep.yield (none, ()))) w) = .ok (if xs.drop s = ys.drop s then ((none, ()) : Option Bool × Unit) else (some false, ())) w := by
    intro m
    induction m with
    | zero =>
      intro s hs
      have h1 : xs.drop s = [] := List.drop_of_length_le (by omega)
      have h2 : ys.drop s = [] := List.drop_of_length_le (by omega)
      rw [h1, h2, if_pos rfl]
      rfl
    | succ m ih =>
      intro s hs
      have hsx : s < xs.length := by omega
      have hsy : s < ys.length := by omega
      have p1 : (part e (List.map (Value.int k) xs).toArray (s * 1)).run P w = .ok (.int k xs[s]) w := by
        have : (List.map (Value.int k) xs).toArray[s * 1]? = some (.int k xs[s]) := by simp [hsx]
        simp only [part, Sem.run_bind, ha, Result.andThen_ok, this, Sem.run_pure, Bool.false_eq_true, if_false]
      have p2 : (part e (List.map (Value.int k) ys).toArray (s * 1)).run P w = .ok (.int k ys[s]) w := by
        have : (List.map (Value.int k) ys).toArray[s * 1]? = some (.int k ys[s]) := by simp [hsy]
        simp only [part, Sem.run_bind, ha, Result.andThen_ok, this, Sem.run_pure, Bool.false_eq_true, if_false]
      have p3 := run_equalIn_int (P := P) w 9998 e k k xs[s] ys[s] he
      rw [List.range'_succ, List.forIn_cons]
      simp only [Sem.run_bind, p1, p2, Result.andThen_ok, p3]
      rw [List.drop_eq_getElem_cons hsx, List.drop_eq_getElem_cons hsy]
      by_cases hab : xs[s] = ys[s]
      · have : (xs[s] == ys[s]) = true := by simp [hab]
        simp only [this, Bool.not_true, Bool.false_eq_true, if_false, Sem.run_pure, Result.andThen_ok]
        rw [ih (s + 1) (by omega)]
        by_cases hd : xs.drop (s + 1) = ys.drop (s + 1)
        · rw [if_pos hd, if_pos (by rw [hab, hd])]
        · rw [if_neg hd, if_neg (by intro h; injection h with _ h; exact hd h)]
      · have : (xs[s] == ys[s]) = false := by simp [hab]
        simp only [this, Bool.not_false, if_true, Sem.run_pure, Result.andThen_ok]
        rw [if_neg (by intro h; injection h with h _; exact hab h)]
  rw [key n 0 (by omega), Result.andThen_ok, List.drop_zero, List.drop_zero]
  by_cases h : xs = ys
  · rw [if_pos h, decide_eq_true h]; rfl
  · rw [if_neg h, decide_eq_false h]; rfl
end Go.Proofs.Ytommogkckooekaa

