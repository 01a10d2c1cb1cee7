/-
  The contract of slices.Delete: one message is taken out of a row of one's own.
-/
import Derived.Test.YthahddaihkajbaaA
set_option linter.unusedVariables false
set_option linter.unusedSimpArgs false
namespace Go.Proofs.Ythahddaihkajbaa
open Go.RowKit
theorem run_clear1 (w : World) (g o c : Nat) (cur : Array Value) (hg : w.heap[g]? = some (.cells cur 52 (0, 0))) (ho : o + 2 ≤ cur.size) (ty : TypeId) :
    (Builtin.clear_ #[44] ty #[.slice (some ⟨g, o, none⟩) 1 c]).run Try.prog w = .ok (.tuple #[]) (w.setRow g (cur.toList.take o ++ [Value.string ⟨#[]⟩, Value.string ⟨#[]⟩] ++ cur.toList.drop (o + 2)).toArray) := by
  have hz : (zeroValue 52).run Try.prog w = .ok (.agg #[.string ⟨#[]⟩, .string ⟨#[]⟩]) w := by kernel_rfl
  have hst := run_storeCells_at Try.prog g o 52 [Value.string ⟨#[]⟩, Value.string ⟨#[]⟩] 0 cur w hg (by simpa using ho) (by intro v hv; simp at hv; rcases hv with rfl | rfl <;> rfl)
  simp only [Nat.add_zero, List.length_cons, List.length_nil] at hst
  have hzc : (Builtin.zeroCells (Value.agg #[.string ⟨#[]⟩, .string ⟨#[]⟩]).cells 1).toList = [.string ⟨#[]⟩, .string ⟨#[]⟩] := by
    simp [Builtin.zeroCells, Value.cells, List.range, List.range.loop]
  simp [Builtin.clear_, run_underlying Try.underlying44, hz, Result.andThen, hzc, hst]
/-- The two steps of slices.Delete, as equations. -/
theorem delete_steps {B g cap n1 : Nat} {ms : List Itm} (k : Nat) (w : World) (h : w.ownsRow B 52 2 (.slice (some ⟨g, 0, none⟩) ms.length cap) ms.length (ms.flatMap encI)) (hk : k < ms.length) (hn1 : n1 + 1 = ms.length) :
    ∃ w2 w3, (∀ ty, (Builtin.append_ #[44, 44] ty #[.slice (some ⟨g, 0, none⟩) k cap, .slice (if cap = k + 1 then some ⟨g, 0, none⟩ else some ⟨g, (k + 1) * 2, none⟩) (ms.length - (k + 1)) (cap - (k + 1))]).run Try.prog w = .ok (.slice (some ⟨g, 0, none⟩) n1 cap) w2) ∧
      (∀ ty c, (Builtin.clear_ #[44] ty #[.slice (some ⟨g, n1 * 2, none⟩) 1 c]).run Try.prog w2 = .ok (.tuple #[]) w3) ∧
      w3.ownsRow B 52 2 (.slice (some ⟨g, 0, none⟩) n1 cap) n1 ((ms.eraseIdx k).flatMap encI) ∧ Kp (fun i => i = g) w w3 := by
  obtain ⟨i0, hi, hz0, hz1, hz2⟩ := info_parts infoI
  obtain ⟨h0, ⟨he, _⟩ | ⟨g', cap', cur, he, hb, hg, hn, hm, hcs, htake⟩⟩ := h
  · simp at he
  simp only [Value.slice.injEq, Option.some.injEq, Addr.mk.injEq, and_true, true_and] at he
  obtain ⟨rfl, rfl⟩ := he
  have hg1 : w.heap[g]? = some (.cells cur 52 (0, 0)) := hg
  have hlen : ((ms.drop (k + 1)).flatMap encI).length = (ms.length - (k + 1)) * 2 := by rw [flat_len, List.length_drop]
  have hone : ∀ u ∈ (ms.drop (k + 1)).flatMap encI, u.oneCell' = true := by
    intro u hu
    obtain ⟨m, _, hm⟩ := List.mem_flatMap.1 hu
    simp only [encI, List.mem_cons, List.mem_nil_iff, or_false] at hm
    rcases hm with rfl | rfl <;> rfl
  have hnews : ∀ j u, ((ms.drop (k + 1)).flatMap encI)[j]? = some u → w.cell? (Addr.add (⟨g, (k + 1) * 2, none⟩ : Addr) j) = some u := by
    intro j u hj
    rw [← flat_drop, List.getElem?_drop, ← htake, List.getElem?_take] at hj
    split at hj
    · rw [Addr.add_lit]
      unfold World.cell?
      simp only [hg1]
      simpa using hj
    · cases hj
  have hfit : k * i0.size + ((ms.drop (k + 1)).flatMap encI).length ≤ cur.size := by rw [hz1, hlen, hcs]; omega
  have hsz2 : ((ms.drop (k + 1)).flatMap encI).length = (ms.length - (k + 1)) * i0.size := by rw [hz1]; exact hlen
  have happ : ∀ ty, (Builtin.append_ #[44, 44] ty #[.slice (some ⟨g, 0, none⟩) k cap, .slice (if cap = k + 1 then some ⟨g, 0, none⟩ else some ⟨g, (k + 1) * 2, none⟩) (ms.length - (k + 1)) (cap - (k + 1))]).run Try.prog w = .ok (.slice (some ⟨g, 0, none⟩) (k + (ms.length - (k + 1))) cap) (w.setRow g (cur.toList.take (k * 2) ++ (ms.drop (k + 1)).flatMap encI ++ cur.toList.drop (k * 2 + ((ms.drop (k + 1)).flatMap encI).length)).toArray) := by
    intro ty
    have e2 : k * i0.size = k * 2 := by rw [hz1]
    by_cases hc : cap = k + 1
    · rw [if_pos hc]
      have hnil : (ms.drop (k + 1)).flatMap encI = [] := by rw [List.drop_of_length_le (by omega)]; rfl
      have := run_append_room (P := Try.prog) w 44 ty 52 i0 Try.underlying44 hi g k cap cur hg1 ⟨g, 0, none⟩ (ms.length - (k + 1)) (cap - (k + 1)) ((ms.drop (k + 1)).flatMap encI) hsz2 (by rw [hnil]; intro j u hj; simp at hj) hone (by omega) hfit
      rw [e2] at this
      exact this
    · rw [if_neg hc]
      have := run_append_room (P := Try.prog) w 44 ty 52 i0 Try.underlying44 hi g k cap cur hg1 ⟨g, (k + 1) * 2, none⟩ (ms.length - (k + 1)) (cap - (k + 1)) ((ms.drop (k + 1)).flatMap encI) hsz2 hnews hone (by omega) hfit
      rw [e2] at this
      exact this
  have e3 : k + (ms.length - (k + 1)) = n1 := by omega
  rw [e3] at happ
  have hpre : cur.toList.take (k * 2) = (ms.take k).flatMap encI := by
    rw [← flat_take, ← htake, List.take_take, Nat.min_eq_left (by omega)]
  have hg2 := setRow_heap w g cur (cur.toList.take (k * 2) ++ (ms.drop (k + 1)).flatMap encI ++ cur.toList.drop (k * 2 + ((ms.drop (k + 1)).flatMap encI).length)).toArray 52 (0, 0) hg1
  have hsz3 : (cur.toList.take (k * 2) ++ (ms.drop (k + 1)).flatMap encI ++ cur.toList.drop (k * 2 + ((ms.drop (k + 1)).flatMap encI).length)).length = cap * 2 := by
    rw [List.length_append, List.length_append, List.length_take, List.length_drop, hlen, Array.length_toList, hcs]; omega
  have htk : (cur.toList.take (k * 2) ++ (ms.drop (k + 1)).flatMap encI ++ cur.toList.drop (k * 2 + ((ms.drop (k + 1)).flatMap encI).length)).take (n1 * 2) = (ms.eraseIdx k).flatMap encI := by
    have hl2 : (cur.toList.take (k * 2) ++ (ms.drop (k + 1)).flatMap encI).length = n1 * 2 := by
      rw [List.length_append, List.length_take, hlen, Array.length_toList, hcs]; omega
    rw [List.take_append_of_le_length (by omega), List.take_of_length_le (by omega), erase_flat, hpre]
  generalize hX : cur.toList.take (k * 2) ++ (ms.drop (k + 1)).flatMap encI ++ cur.toList.drop (k * 2 + ((ms.drop (k + 1)).flatMap encI).length) = X at *
  have hcl := fun ty c => run_clear1 (w.setRow g X.toArray) g (n1 * 2) c X.toArray hg2 (by simp [hsz3]; omega) ty
  refine ⟨_, _, happ, hcl, ⟨?_, .inr ⟨g, cap, _, rfl, hb, setRow_heap _ g _ _ 52 (0, 0) hg2, by omega, hm, ?_, ?_⟩⟩, (setRow_kp w g _).trans (setRow_kp _ g _)⟩
  · rw [flat_len, List.length_eraseIdx_of_lt hk]; omega
  · simp only [List.size_toArray, List.length_append, List.length_take, List.length_drop, List.length_cons, List.length_nil]
    omega
  · rw [← htk]
    simp only [List.append_assoc]
    rw [List.take_append_of_le_length (by rw [List.length_take]; omega), List.take_take, Nat.min_self]
end Go.Proofs.Ythahddaihkajbaa

