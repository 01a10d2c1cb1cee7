/-
  The steps of slices.Insert at the first place: in place, and in a new row.
-/
import Derived.Test.YthahddaihkajbaaC
import Derived.Lib.AppendZeros
import Derived.Lib.Overlaps
import Derived.Laws.Externs
import Derived.Laws.CopyRow
set_option linter.unusedVariables false
set_option linter.unusedSimpArgs false
namespace Go.Proofs.Ythahddaihkajbaa
open Go.RowKit
theorem run_copy2 (w : World) (ty : TypeId) (g o dLen dCap : Nat) (a : Addr) (sLen sCap : Nat) (cur : Array Value) (cs : List Value)
    (hg : w.heap[g]? = some (.cells cur 52 (0, 0))) (hn : cs.length = Nat.min sLen dLen * 2)
    (hsrc : ∀ j v, cs[j]? = some v → w.cell? (a.add j) = some v) (hfit : o + cs.length ≤ cur.size) (h1 : ∀ v ∈ cs, v.oneCell' = true) :
    (Builtin.copy_ #[44, 44] ty #[.slice (some ⟨g, o, none⟩) dLen dCap, .slice (some a) sLen sCap]).run Try.prog w =
      .ok (goInt (Nat.min sLen dLen)) (w.setRow g (cur.toList.take o ++ cs ++ cur.toList.drop (o + cs.length)).toArray) := by
  have hl := run_loadCells_list (P := Try.prog) w a cs hsrc
  have hst := run_storeCells_at Try.prog g o 52 cs 0 cur w hg (by simpa using hfit) h1
  obtain ⟨i0, hi0, hz0, hz1, hz2⟩ := info_parts infoI
  simp [Builtin.copy_, run_underlying Try.underlying44, Builtin.lenOf, Builtin.firstCells, sizeOf, typeInfo, hi0, hz1, ← hn, hl, hst]
theorem row_load {w : World} {g : Nat} {cur : Array Value} (hg : w.heap[g]? = some (.cells cur 52 (0, 0))) (o j : Nat) (v : Value) (h : cur.toList[o + j]? = some v) : w.cell? ((⟨g, o, none⟩ : Addr).add j) = some v := by
  rw [Addr.add_lit]
  unfold World.cell?
  simp only [hg]
  simpa using h
/-- In place: all items go one place on, and the new one stands ahead. -/
theorem shift_steps {B g cap n q : Nat} {ms : List Itm} (x : Itm) (w : World) (h : w.ownsRow B 52 2 (.slice (some ⟨g, 0, none⟩) n cap) n (ms.flatMap encI)) (hms : ms.length = n) (hroom : n + 1 ≤ cap) (hq : Bk q (encI x) w) (hqg : q ≠ g) :
    ∃ w2 w3, (∀ ty c1 c2, (Builtin.copy_ #[44, 44] ty #[.slice (some ⟨g, 2, none⟩) n c1, .slice (some ⟨g, 0, none⟩) (n + 1) c2]).run Try.prog w = .ok (.int .i64 n) w2) ∧
      (∀ ty c1 c2, (Builtin.copy_ #[44, 44] ty #[.slice (some ⟨g, 0, none⟩) (n + 1) c1, .slice (some ⟨q, 0, none⟩) 1 c2]).run Try.prog w2 = .ok (.int .i64 1) w3) ∧
      w3.ownsRow B 52 2 (.slice (some ⟨g, 0, none⟩) (n + 1) cap) (n + 1) ((x :: ms).flatMap encI) ∧ Kp (fun i => i = g) w w3 := by
  obtain ⟨h0, ⟨he, _⟩ | ⟨g', cap', cur, he, hb, hg, hn, hm, hcs, htake⟩⟩ := h
  · simp at he
  simp only [Value.slice.injEq, Option.some.injEq, Addr.mk.injEq, and_true, true_and] at he
  obtain ⟨rfl, rfl⟩ := he
  have hg1 : w.heap[g]? = some (.cells cur 52 (0, 0)) := hg
  have hfl : (ms.flatMap encI).length = n * 2 := by rw [flat_len, hms]
  have hc1 := fun ty c1 c2 => run_copy2 w ty g 2 n c1 ⟨g, 0, none⟩ (n + 1) c2 cur (ms.flatMap encI) hg1 (by rw [hfl]; congr 1; exact (Nat.min_eq_right (by omega)).symm) (fun j v hj => row_load hg1 0 j v (by
    rw [Nat.zero_add]
    rw [← htake, List.getElem?_take] at hj
    split at hj
    · exact hj
    · cases hj)) (by rw [hfl, hcs]; omega) (one_cell ms)
  rw [show Nat.min (n + 1) n = n from Nat.min_eq_right (by omega)] at hc1
  have hg2 := setRow_heap w g cur (cur.toList.take 2 ++ ms.flatMap encI ++ cur.toList.drop (2 + (ms.flatMap encI).length)).toArray 52 (0, 0) hg1
  have hsz : (cur.toList.take 2 ++ ms.flatMap encI ++ cur.toList.drop (2 + (ms.flatMap encI).length)).length = cap * 2 := by
    rw [List.length_append, List.length_append, List.length_take, List.length_drop, hfl, Array.length_toList, hcs]; omega
  have htl : (cur.toList.take 2).length = 2 := by rw [List.length_take, Array.length_toList, hcs]; omega
  have hdrop : ((cur.toList.take 2 ++ ms.flatMap encI ++ cur.toList.drop (2 + (ms.flatMap encI).length)).drop 2).take (n * 2) = ms.flatMap encI := by
    rw [List.append_assoc, List.drop_append_of_le_length (by omega), List.drop_of_length_le (by omega), List.nil_append, List.take_append_of_le_length (by omega), List.take_of_length_le (by omega)]
  generalize hX : cur.toList.take 2 ++ ms.flatMap encI ++ cur.toList.drop (2 + (ms.flatMap encI).length) = X at *
  have hc2 := fun ty c1 c2 => run_copy2 (w.setRow g X.toArray) ty g 0 (n + 1) c1 ⟨q, 0, none⟩ 1 c2 X.toArray (encI x) hg2 (by rw [show Nat.min 1 (n + 1) = 1 from Nat.min_eq_left (by omega)]; rfl) (fun j v hj => by
    rw [Addr.add_lit, Nat.zero_add]
    have k := setRow_kp w g X.toArray
    rw [k.cell (p := ⟨q, j, none⟩) hq.1 hqg]
    exact (hq.2 j v hj).1) (by simp [encI, hsz]; omega) (by intro v hv; simp [encI] at hv; rcases hv with rfl | rfl <;> rfl)
  rw [show Nat.min 1 (n + 1) = 1 from Nat.min_eq_left (by omega)] at hc2
  refine ⟨_, _, hc1, hc2, ⟨?_, .inr ⟨g, cap, _, rfl, hb, setRow_heap _ g _ _ 52 (0, 0) hg2, by omega, hm, ?_, ?_⟩⟩, (setRow_kp w g _).trans (setRow_kp _ g _)⟩
  · rw [flat_len, List.length_cons, hms]
  · simp [encI, hsz]; omega
  · rw [List.flatMap_cons]
    simp only [List.take_zero, List.nil_append, Nat.zero_add, encI, List.length_cons, List.length_nil]
    rw [List.take_append, show [Value.string x.1, Value.string x.2].length = 2 from rfl, List.take_of_length_le (by simp; omega), show (n + 1) * 2 - 2 = n * 2 by omega]
    rw [show (1 + 1 : Nat) = 2 from rfl, hdrop]
theorem run_append_zeros0 (w : World) (ty : TypeId) (b : Addr) (cap n : Nat) (hg : cap < n) (hn : n ≤ 100000) :
    (Builtin.append_ #[44, 3] ty #[.slice (some b) 0 cap, .int .i64 n]).run Try.prog w =
      .ok (.slice (some ⟨w.heap.size, 0, none⟩) n (grownCap w n cap 52)) (w.drew.alloc (.cells (Builtin.zeroCells #[.string ⟨#[]⟩, .string ⟨#[]⟩] n ++ Builtin.zeroCells #[.string ⟨#[]⟩, .string ⟨#[]⟩] (grownCap w n cap 52 - n)) 52)) := by
  obtain ⟨i, hi, hz, hz1, hz2⟩ := info_parts infoI
  have hn0 : n ≠ 0 := by omega
  have hw : IntKind.i64.wrap (n : Int) = n := by rw [IntKind.wrap_i64]; omega
  have h63' : ¬ (9223372036854775807 < (n : Int)) := by omega
  have h48' : ¬ (281474976710656 < Builtin.nextslicecap n cap * i.bytes) := by
    have := growslice_fits (bytes := i.bytes) hg (by rw [hz2]; omega)
    omega
  have h48i : ¬ (281474976710656 < (n : Int) * (i.bytes : Int)) := by rw [hz2]; omega
  have hneg : ¬ ((n : Int) < 0) := by omega
  have hns : ¬ (n * i.size = 0) := by rw [hz1]; omega
  have hroom : ¬ n ≤ cap := by omega
  have hfc : ∀ w, (loadCells b 0).run Try.prog w = .ok #[] w := fun w => by simp [loadCells, loadCellsFrom]
  have hzc : (Value.agg #[.string ByteArray.empty, .string ByteArray.empty]).cells = #[.string ⟨#[]⟩, .string ⟨#[]⟩] := rfl
  simp [Builtin.append_, run_underlying Try.underlying44, run_underlying Try.underlying3, sizeOf, typeInfo, zeroValue, hi, hz, asInt, asIntOf, hw, hn0, hneg, hns, h63', h48', h48i, hroom, Builtin.firstCells, hfc, Question.forced, newRow, grownCap, hzc]
end Go.Proofs.Ythahddaihkajbaa

