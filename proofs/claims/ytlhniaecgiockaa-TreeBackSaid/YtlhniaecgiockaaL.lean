/-
  The walk of TreeTells.
-/
import Derived.Test.YtlhniaecgiockaaK
set_option linter.unusedVariables false
set_option linter.unusedSimpArgs false
namespace Go.Proofs.Ytlhniaecgiockaa
open Go.RowKit
theorem few_yes {l : List ByteArray} (h : fewB l = true) : l.length ≤ 24 ∧ ∀ s ∈ l, s.size ≤ 100 := of_decide_eq_true h
theorem tells_long (l r : List ByteArray) (a b : Option Addr) (c d : Nat) (i : Int) (w : World) (ha : Sl strC 1 w a l) (hb : Sl strC 1 w b r) (hl : l.length ≤ 9223372036854775807) (hr : r.length ≤ 9223372036854775807) (h : fewB l = false ∨ fewB r = false) :
    Calls Try.prog 3 #[.slice a l.length c, .slice b r.length d, .int .i64 i] w fun e w' => e = .returned (.bool true) ∧ Below w.heap.size w w' := by
  have T1 := Lib.hid (few_any l a c w ha hl); have T2 := Lib.hid (few_any r b d w hb hr)
  have H := Lib.hid h
  clear ha hb h
  cases hf : fewB l with
  | false =>
    rw [hf] at T1
    clear hf
    go_enter Try.func3, Try.ntmps3
    go_wp2_with fail
    refine T1.out.mono ?_
    rintro e w1 ⟨rfl, rfl⟩
    go_wp2_with fail
    refine (awake_any _).mono ?_
    rintro e w1 ⟨rfl, hb⟩
    go_wp2
    go_ret
    exact ⟨rfl, hb⟩
  | true =>
    rw [hf] at T1
    have hf2 : fewB r = false := by rcases H.out with h | h; · rw [h] at hf; cases hf
                                    · exact h
    rw [hf2] at T2
    clear hf hf2
    go_enter Try.func3, Try.ntmps3
    go_wp2_with fail
    refine T1.out.mono ?_
    rintro e w1 ⟨rfl, rfl⟩
    go_wp2_with fail
    refine T2.out.mono ?_
    rintro e w1 ⟨rfl, rfl⟩
    go_wp2_with fail
    refine (awake_any _).mono ?_
    rintro e w1 ⟨rfl, hb⟩
    go_wp2
    go_ret
    exact ⟨rfl, hb⟩
set_option maxHeartbeats 8000000 in
theorem tells_walk (l r : List ByteArray) (a b : Option Addr) (c d : Nat) (i : Int) (w : World) (ha : Sl strC 1 w a l) (hb : Sl strC 1 w b r) (hlc : l.length ≤ c) (h1 : fewB l = true) (h2 : fewB r = true) :
    Calls Try.prog 3 #[.slice a l.length c, .slice b r.length d, .int .i64 i] w fun e w' => e = .returned (.bool true) ∧ Below w.heap.size w w' := by
  obtain ⟨hl, hls⟩ := few_yes h1
  obtain ⟨hr, hrs⟩ := few_yes h2
  have T1 := few_any l a c w ha (by omega); have T2 := few_any r b d w hb (by omega)
  rw [h1] at T1
  rw [h2] at T2
  have HT1 := Lib.hid T1; have HT2 := Lib.hid T2; have HA := Lib.hid ha; have HB := Lib.hid hb
  have TR : Hid (∀ W, Below w.heap.size w W → Calls Try.prog 10 #[.slice a l.length c] W fun e w' => e = .returned (.string (rootL l)) ∧ Below W.heap.size W w') := Lib.hid (fun W h => root_any l a c W hls (by omega) (ha.keep h))
  have TR2 : Hid (∀ W, Below w.heap.size w W → Calls Try.prog 11 #[.slice a l.length c] W fun e w' => e = .returned (.string (rootL l)) ∧ Below W.heap.size W w') := Lib.hid (fun W h => rroot_any l.length l a c W (Nat.le_refl _) hlc hls (by omega) (ha.keep h))
  have TA : Hid (∀ W, Below w.heap.size w W → Calls Try.prog 13 #[.slice a l.length c, .slice b r.length d] W fun e w' => e = .returned (.int .i64 (apV l r)) ∧ ∃ n, w' = W.drewN n) := Lib.hid (fun W h => apart_any l r a b c d W (ha.keep h) (hb.keep h) (by omega) (by omega))
  have TB : Hid (∀ W, Below w.heap.size w W → Calls Try.prog 14 #[.slice a l.length c, .slice b r.length d] W fun e w' => e = .returned (.int .i64 (apV l r)) ∧ ∃ n, w' = W.drewN n) := Lib.hid (fun W h => rapart_any l r a b c d W (ha.keep h) (hb.keep h) (by omega) (by omega))
  have sR := str_same (rootL l)
  obtain ⟨R, hR⟩ : ∃ R, R = rootL l := ⟨_, rfl⟩
  obtain ⟨V, hV⟩ : ∃ V, V = apV l r := ⟨_, rfl⟩
  rw [← hR] at TR TR2 sR
  rw [← hV] at TA TB
  have sV : (V == V) = true := by simp
  clear T1 T2 ha hb hR hV h1 h2
  by_cases hi : i < 0 ∨ (l.length : Int) ≤ i
  · have TP := Lib.hid (fun W => path_bad l a c i W hi); have TP2 := Lib.hid (fun W => rpath_bad l a c i W hi)
    have TX : Hid (∀ W, Calls Try.prog 12 #[.slice none 0 0, .slice none 0 0] W fun e w' => e = .returned (.bool true) ∧ ∃ n, w' = W.drewN n) := Lib.hid (fun W => by
      have := texts_eq [] [] none none 0 0 W (Sl.nil _ _ _ _) (Sl.nil _ _ _ _) (by simp)
      rw [decide_eq_true rfl] at this; exact this)
    clear hi
    go_enter Try.func3, Try.ntmps3
    go_wp2_with fail
    refine HT1.out.mono ?_
    rintro e w1 ⟨rfl, rfl⟩
    go_wp2_with fail
    refine HT2.out.mono ?_
    rintro e w1 ⟨rfl, rfl⟩
    go_wp2_with fail
    refine (TP.out _).mono ?_
    rintro e w1 ⟨rfl, rfl⟩
    go_wp2_with fail
    refine (TP2.out _).mono ?_
    rintro e w1 ⟨rfl, rfl⟩
    have HB0 := Lib.hid (Below.refl w.heap.size w)
    go_wp2_with fail
    refine (TR.out _ HB0.out).mono ?_
    rintro e w3 ⟨rfl, hb⟩
    have HB3 := Lib.hid (below_step HB0.out (Nat.le_refl _) hb)
    clear hb
    go_wp2_with fail
    refine (TR2.out _ HB3.out).mono ?_
    rintro e w4 ⟨rfl, hb⟩
    have HB4 := Lib.hid (below_step HB3.out (Nat.le_refl _) hb)
    clear hb
    go_wp2_with fail
    refine (TX.out _).mono ?_
    rintro e w5 ⟨rfl, n1, rfl⟩
    have HB5 := Lib.hid (below_drewN' HB4.out n1)
    generalize w4.drewN n1 = W5 at HB5 ⊢
    go_wp2_with fail
    refine (TA.out _ HB5.out).mono ?_
    rintro e w6 ⟨rfl, n2, rfl⟩
    have HB6 := Lib.hid (below_drewN' HB5.out n2)
    generalize W5.drewN n2 = W6 at HB6 ⊢
    go_wp2_with fail
    refine (TB.out _ HB6.out).mono ?_
    rintro e w7 ⟨rfl, n3, rfl⟩
    have HB7 := Lib.hid (below_drewN' HB6.out n3)
    generalize W6.drewN n3 = W7 at HB7 ⊢
    go_wp2_with fail
    refine (awake_any _).mono ?_
    rintro e w8 ⟨rfl, hb⟩
    have HB8 := Lib.hid (below_step HB7.out (Nat.le_refl _) hb)
    clear hb
    go_wp2
    go_ret
    exact ⟨rfl, HB8.out⟩
  · obtain ⟨k, rfl⟩ : ∃ k : Nat, i = k := ⟨i.toNat, by omega⟩
    have hk : k < l.length := by omega
    have TP := Lib.hid (path_any l a c k w hk hls (by omega) HA.out)
    have TP2 : Hid (∀ W, Below w.heap.size w W → Calls Try.prog 9 #[.slice a l.length c, .int .i64 k] W (PathPost W.heap.size l k W)) := Lib.hid (fun W h => rpath_any l a c k W hk hlc hls (by omega) (HA.out.keep h))
    obtain ⟨p, hp⟩ : ∃ p, p = pathL l k := ⟨_, rfl⟩
    have hpl : p.length ≤ 1048576 := by
      rw [hp, path_len]
      have := sides_le l.length l.length k (Nat.le_refl _); omega
    have TX : Hid (∀ (A B : Option Addr) (c d : Nat) W, Sl strC 1 W A p → Sl strC 1 W B p → Calls Try.prog 12 #[.slice A p.length c, .slice B p.length d] W fun e w' => e = .returned (.bool true) ∧ ∃ n, w' = W.drewN n) := Lib.hid (fun A B c d W h g => by
      have := texts_eq p p A B c d W h g (by omega)
      rw [decide_eq_true rfl] at this; exact this)
    obtain ⟨q, hq⟩ : ∃ q, q = p.length := ⟨_, rfl⟩
    rw [← hq] at TX
    have HPE := Lib.hid hp; have HQE := Lib.hid hq
    clear hi hp hq hpl
    go_enter Try.func3, Try.ntmps3
    go_wp2_with fail
    refine HT1.out.mono ?_
    rintro e w1 ⟨rfl, rfl⟩
    go_wp2_with fail
    refine HT2.out.mono ?_
    rintro e w1 ⟨rfl, rfl⟩
    go_wp2_with fail
    refine TP.out.mono ?_
    rintro e w1 ⟨v1, rfl, ho, hb⟩
    rw [← HPE.out] at ho
    obtain ⟨a1, c1, rfl, _, hs1⟩ := own_sl (enc := strC) (size := 1) (fun _ => rfl) (by decide) ho
    have HP := Lib.hid hs1; have HB1 := Lib.hid hb
    rw [← HQE.out]
    clear ho hs1 hb
    go_wp2_with fail
    refine (TP2.out _ HB1.out).mono ?_
    rintro e w2 ⟨v2, rfl, ho, hb⟩
    rw [← HPE.out] at ho
    obtain ⟨a2, c2, rfl, _, hs2⟩ := own_sl (enc := strC) (size := 1) (fun _ => rfl) (by decide) ho
    have HP2 := Lib.hid (HP.out.keep hb); have HQ2 := Lib.hid hs2; have HB0 := Lib.hid (below_step HB1.out (Nat.le_refl _) hb)
    rw [← HQE.out]
    clear ho hs2 hb
    go_wp2_with fail
    refine (TR.out _ HB0.out).mono ?_
    rintro e w3 ⟨rfl, hb⟩
    have HB3 := Lib.hid (below_step HB0.out (Nat.le_refl _) hb); have HP3 := Lib.hid (HP2.out.keep hb); have HQ3 := Lib.hid (HQ2.out.keep hb)
    clear hb
    go_wp2_with fail
    refine (TR2.out _ HB3.out).mono ?_
    rintro e w4 ⟨rfl, hb⟩
    have HB4 := Lib.hid (below_step HB3.out (Nat.le_refl _) hb); have HP4 := Lib.hid (HP3.out.keep hb); have HQ4 := Lib.hid (HQ3.out.keep hb)
    clear hb
    go_wp2_with fail
    refine (TX.out a1 a2 c1 c2 _ HP4.out HQ4.out).mono ?_
    rintro e w5 ⟨rfl, n1, rfl⟩
    have HB5 := Lib.hid (below_drewN' HB4.out n1)
    generalize w4.drewN n1 = W5 at HB5 ⊢
    go_wp2_with fail
    refine (TA.out _ HB5.out).mono ?_
    rintro e w6 ⟨rfl, n2, rfl⟩
    have HB6 := Lib.hid (below_drewN' HB5.out n2)
    generalize W5.drewN n2 = W6 at HB6 ⊢
    go_wp2_with fail
    refine (TB.out _ HB6.out).mono ?_
    rintro e w7 ⟨rfl, n3, rfl⟩
    have HB7 := Lib.hid (below_drewN' HB6.out n3)
    generalize W6.drewN n3 = W7 at HB7 ⊢
    go_wp2_with fail
    refine (awake_any _).mono ?_
    rintro e w8 ⟨rfl, hb⟩
    have HB8 := Lib.hid (below_step HB7.out (Nat.le_refl _) hb)
    clear hb
    go_wp2
    go_ret
    exact ⟨rfl, HB8.out⟩
theorem tells_law (u : Value) (l : List ByteArray) (v : Value) (r : List ByteArray) (i : Int) (w : World) (h : StrsOk l w u) (h2 : StrsOk r w v) (_ : (Lit.int .i64 i).wf = true) : Calls Try.prog 3 #[u, v, .int .i64 i] w fun e w' => e = .returned (.bool true) ∧ Below w.heap.size w w' := by
  obtain ⟨a, c, rfl, hc, hl, hs, _⟩ := h
  obtain ⟨b, d, rfl, _, hr, ht, _⟩ := h2
  unfold maxLen at hl hr
  by_cases hb : fewB l = true ∧ fewB r = true
  · exact tells_walk l r a b c d i w hs ht hc hb.1 hb.2
  · refine tells_long l r a b c d i w hs ht hl hr ?_
    cases h1 : fewB l <;> cases h2 : fewB r <;> simp_all
end Go.Proofs.Ytlhniaecgiockaa

