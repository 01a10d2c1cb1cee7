/-
  The contract of slices.Insert at the first place.
-/
import Derived.Test.YthahddaihkajbaaD
set_option linter.unusedVariables false
set_option linter.unusedSimpArgs false
namespace Go.Proofs.Ythahddaihkajbaa
open Go.RowKit
/-- In a new row: the new item, and all others behind it. -/
theorem grow_steps {B g cap n q : Nat} {ms : List Itm} (x : Itm) (w : World) (h : w.ownsRow B 52 2 (.slice (some ⟨g, 0, none⟩) n cap) n (ms.flatMap encI)) (hms : ms.length = n) (hfull : cap < n + 1) (hn5 : n ≤ 5000) (hq : Bk q (encI x) w) (hB : B ≤ w.heap.size) :
    ∃ C w2 w3 w4, n + 1 ≤ C ∧ (∀ ty, (Builtin.append_ #[44, 3] ty #[.slice (some ⟨g, 0, none⟩) 0 cap, .int .i64 (n + 1 : Nat)]).run Try.prog w = .ok (.slice (some ⟨w.heap.size, 0, none⟩) (n + 1) C) w2) ∧
      (∀ ty c1 c2, (Builtin.copy_ #[44, 44] ty #[.slice (some ⟨w.heap.size, 0, none⟩) (n + 1) c1, .slice (some ⟨q, 0, none⟩) 1 c2]).run Try.prog w2 = .ok (.int .i64 1) w3) ∧
      (∀ ty c1 c2, (Builtin.copy_ #[44, 44] ty #[.slice (some ⟨w.heap.size, 2, none⟩) n c1, .slice (some ⟨g, 0, none⟩) n c2]).run Try.prog w3.drew = .ok (.int .i64 n) w4) ∧
      w4.ownsRow B 52 2 (.slice (some ⟨w.heap.size, 0, none⟩) (n + 1) C) (n + 1) ((x :: ms).flatMap encI) ∧ Kp (fun _ => False) w w4 := by
  have hlt := (h.lt g rfl).2
  obtain ⟨h0, ⟨he, _⟩ | ⟨g', cap', cur, he, hb, hg, hn, hm, hcs, htake⟩⟩ := h
  · simp at he
  simp only [Value.slice.injEq, Option.some.injEq, Addr.mk.injEq, and_true, true_and] at he
  obtain ⟨rfl, rfl⟩ := he
  have hg1 : w.heap[g]? = some (.cells cur 52 (0, 0)) := hg
  have hfl : (ms.flatMap encI).length = n * 2 := by rw [flat_len, hms]
  have hap := fun ty => run_append_zeros0 w ty ⟨g, 0, none⟩ cap (n + 1) hfull (by omega)
  have hge := grownCap_ge w (n + 1) cap 52
  have hcm : grownCap w (n + 1) cap 52 ≤ maxLen := grownCap_le_maxLen w (n + 1) cap 52 (by unfold maxLen; omega)
  generalize grownCap w (n + 1) cap 52 = C at *
  obtain ⟨Z, hZ⟩ : ∃ Z, Z = Builtin.zeroCells #[.string ⟨#[]⟩, .string ⟨#[]⟩] (n + 1) ++ Builtin.zeroCells #[.string ⟨#[]⟩, .string ⟨#[]⟩] (C - (n + 1)) := ⟨_, rfl⟩
  have hZs : Z.size = C * 2 := by
    rw [hZ, Array.size_append, size_zeroCells, size_zeroCells]
    show (n + 1) * 2 + (C - (n + 1)) * 2 = C * 2
    omega
  rw [← hZ] at hap
  clear hZ
  have hK2 : Kp (fun _ => False) w (w.drew.alloc (.cells Z 52)) := (Kp.refl _ w).drew.alloc _
  have hgn : (w.drew.alloc (.cells Z 52)).heap[w.heap.size]? = some (.cells Z 52 (0, 0)) := heap_alloc_new w.drew _
  generalize w.drew.alloc (.cells Z 52) = w2 at *
  obtain ⟨G, hG⟩ : ∃ G, G = w.heap.size := ⟨_, rfl⟩
  have hlt' := hlt
  rw [← hG] at hlt' hap hgn hB ⊢
  have hGg : g ≠ G := by omega
  have hqG : q ≠ G := by have := hq.1; rw [← hG] at this; omega
  have hq2 := hq.kp hK2 (fun h => h)
  have hc1 := fun ty c1 c2 => run_copy2 w2 ty G 0 (n + 1) c1 ⟨q, 0, none⟩ 1 c2 Z (encI x) hgn (by rw [show Nat.min 1 (n + 1) = 1 from Nat.min_eq_left (by omega)]; rfl) (fun j v hj => by
    rw [Addr.add_lit, Nat.zero_add]; exact (hq2.2 j v hj).1) (by simp [encI, hZs]; omega) (by intro v hv; simp [encI] at hv; rcases hv with rfl | rfl <;> rfl)
  rw [show Nat.min 1 (n + 1) = 1 from Nat.min_eq_left (by omega)] at hc1
  have hg3 := setRow_heap w2 G Z (Z.toList.take 0 ++ encI x ++ Z.toList.drop (0 + (encI x).length)).toArray 52 (0, 0) hgn
  have hXs : (Z.toList.take 0 ++ encI x ++ Z.toList.drop (0 + (encI x).length)).length = C * 2 := by
    simp [encI, hZs]; omega
  have hX2 : (Z.toList.take 0 ++ encI x ++ Z.toList.drop (0 + (encI x).length)).take 2 = encI x := by simp [encI]
  generalize Z.toList.take 0 ++ encI x ++ Z.toList.drop (0 + (encI x).length) = X at *
  have hgg : (w2.setRow G X.toArray).drew.heap[g]? = some (.cells cur 52 (0, 0)) := by
    show (w2.setRow G X.toArray).heap[g]? = _
    rw [(setRow_kp w2 G X.toArray).block g (Nat.lt_of_lt_of_le hlt hK2.size) hGg, hK2.block g hlt (fun h => h)]
    exact hg1
  have hc2 := fun ty c1 c2 => run_copy2 (w2.setRow G X.toArray).drew ty G 2 n c1 ⟨g, 0, none⟩ n c2 X.toArray (ms.flatMap encI) hg3 (by rw [hfl]; congr 1; exact (Nat.min_self n).symm) (fun j v hj => row_load hgg 0 j v (by
    rw [Nat.zero_add]
    rw [← htake, List.getElem?_take] at hj
    split at hj
    · exact hj
    · cases hj)) (by rw [hfl]; simp [hXs]; omega) (one_cell ms)
  rw [show Nat.min n n = n from Nat.min_self n] at hc2
  refine ⟨C, w2, _, _, hge, hap, hc1, hc2, ⟨?_, .inr ⟨G, C, _, rfl, hB, setRow_heap _ G _ _ 52 (0, 0) hg3, hge, hcm, ?_, ?_⟩⟩, ?_⟩
  · rw [flat_len, List.length_cons, hms]
  · simp [hfl, hXs]; omega
  · rw [List.flatMap_cons]
    have hX2l : (X.take 2).length = 2 := by rw [hX2]; rfl
    show ((X.take 2 ++ ms.flatMap encI ++ X.drop (2 + (ms.flatMap encI).length))).take ((n + 1) * 2) = _
    rw [hX2, List.take_append_of_le_length (by rw [List.length_append, hfl]; simp [encI]; omega), List.take_of_length_le (by rw [List.length_append, hfl]; simp [encI]; omega)]
  · have k3 : Kp (fun j => j = G) w2 (w2.setRow G X.toArray).drew := (setRow_kp w2 G _).drew
    have k4 : Kp (fun j => j = G) (w2.setRow G X.toArray).drew ((w2.setRow G X.toArray).drew.setRow G (X.toArray.toList.take 2 ++ ms.flatMap encI ++ X.toArray.toList.drop (2 + (ms.flatMap encI).length)).toArray) := setRow_kp _ G _
    have k := k3.trans k4
    exact ⟨k.os.trans hK2.os, k.tape.trans hK2.tape, k.output.trans hK2.output, Nat.le_trans hK2.size k.size, fun i hi hn => (k.block i (Nat.lt_of_lt_of_le hi hK2.size) (by omega)).trans (hK2.block i hi hn)⟩
end Go.Proofs.Ythahddaihkajbaa

