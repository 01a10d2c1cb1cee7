/-
  The contracts of wire.List and the law's own List, which write texts.
-/
import Derived.Test.YtanehgnpominiaaD
import Derived.Test.YtanehgnpominiaaStrs
set_option linter.unusedVariables false
set_option linter.unusedSimpArgs false
set_option maxRecDepth 100000
namespace Go.Proofs.Ytanehgnpominiaa
open Go.RowKit
theorem sl_str {w : World} {a : Option Addr} {xs : List ByteArray} (h : Sl strC 1 w a xs) (i : Nat) (hi : i < xs.length) : ∃ b o, a = some ⟨b, o, none⟩ ∧ b < w.heap.size ∧ w.cell? ⟨b, o + i, none⟩ = some (.string xs[i]) := by
  obtain ⟨b, o, ha, hb, hc⟩ := h i hi
  refine ⟨b, o, ha, hb, ?_⟩
  have := hc 0 (.string xs[i]) rfl
  simpa using this
/-- The bytes of texts, one behind the other. -/
def catB : List ByteArray → ByteArray
  | [] => ByteArray.empty
  | s :: l => textB s ++ catB l
theorem catB_snoc (l : List ByteArray) (s : ByteArray) : catB (l ++ [s]) = catB l ++ textB s := by
  induction l with
  | nil => simp [catB]
  | cons x l ih => simp only [List.cons_append, catB, ih, ByteArray.append_assoc]
def okT (l : List ByteArray) : Prop := ∀ s ∈ l, s.size ≤ 65536
def listR (l : List ByteArray) : Ending := if 4096 < l.length ∨ (∃ s ∈ l, 65536 < s.size) then .returned (.tuple #[.string ⟨#[]⟩, .int .i64 3]) else .returned (.tuple #[.string (txt (nb l.length) ++ catB l), .int .i64 0])
theorem listR_bad {l : List ByteArray} (h : 4096 < l.length ∨ (∃ s ∈ l, 65536 < s.size)) : listR l = .returned (.tuple #[.string ⟨#[]⟩, .int .i64 3]) := by unfold listR; rw [if_pos h]
theorem listR_ok {l : List ByteArray} (h : ¬ (4096 < l.length ∨ (∃ s ∈ l, 65536 < s.size))) : listR l = .returned (.tuple #[.string (txt (nb l.length) ++ catB l), .int .i64 0]) := by unfold listR; rw [if_neg h]
theorem catB_size : ∀ (l : List ByteArray), okT l → (catB l).size ≤ 65544 * l.length
  | [], _ => by simp [catB]
  | s :: l, h => by
    have h1 := catB_size l (fun x hx => h x (by simp [hx]))
    have h2 := h s (by simp)
    have h3 := textB_size s (by omega)
    simp only [catB, ByteArray.size_append, List.length_cons]; omega
theorem take_next {α : Type} (l : List α) (k : Nat) (h : k < l.length) : l.take (k + 1) = l.take k ++ [l[k]] := by rw [List.take_succ_eq_append_getElem h]
theorem list_put (l : List ByteArray) (a : Option Addr) (cap : Nat) (w : World) (h : Sl strC 1 w a l) : Calls Try.prog 29 #[.slice a l.length cap] w fun e w' => e = listR l ∧ Below w.heap.size w w' := by
  by_cases hb : 4096 < l.length
  · rw [listR_bad (.inl hb)]
    have d1 : (4096 : Int) < (l.length : Int) := by omega
    go_enter Try.func29, Try.ntmps29
    go_wp2
    go_ret2
    exact ⟨rfl, Below.refl _ _⟩
  · have d1 : ¬ (4096 : Int) < (l.length : Int) := by omega
    obtain ⟨R, hR⟩ : ∃ R, R = listR l := ⟨_, rfl⟩
    rw [← hR]
    have HR := Lib.hid hR
    have HS := Lib.hid h
    clear hR h
    go_enter Try.func29, Try.ntmps29
    go_wp2_with fail
    refine (num_nat l.length _ (by omega)).mono ?_
    rintro e w1 ⟨rfl, hb1⟩
    rw [num_ok (by omega) rfl]
    obtain ⟨N, hN⟩ : ∃ N, N = txt (nb l.length) := ⟨_, rfl⟩
    have hNs : N.size ≤ 8 := by rw [hN, txt_size]; exact nb_len8 (by omega)
    rw [← hN]
    have HN := Lib.hid hN
    clear hN
    have HB1 := Lib.hid hb1
    clear hb1
    go_wp2
    go_loopw [4, 21] (fun s i wr => ∃ k : Nat, i = .int .i64 k ∧ k ≤ l.length ∧ s = .string (N ++ catB (l.take k)) ∧ okT (l.take k) ∧ Below w.heap.size w wr) (fun _ i _ => l.length - (intOf i).toNat)
    case atStart => exact ⟨0, rfl, by omega, by simp [catB], fun s hs => by simp at hs, HB1.out⟩
    case round =>
      obtain ⟨k, rfl, hk, rfl, hok, hb⟩ := hrel
      have HB := Lib.hid hb
      have HOK := Lib.hid hok
      have hcs := catB_size _ hok
      have hcl : (l.take k).length ≤ 4096 := by rw [List.length_take]; omega
      have hsz : (N ++ catB (l.take k)).size ≤ 268500000 := by rw [ByteArray.size_append]; omega
      obtain ⟨C, hC⟩ : ∃ C, C = N ++ catB (l.take k) := ⟨_, rfl⟩
      rw [← hC] at hsz ⊢
      have HC := Lib.hid hC
      clear hb hok hC hcs hcl
      by_cases hlt : k < l.length
      · obtain ⟨b, o, rfl, hbl, hc0⟩ := sl_str HS.out k hlt
        have hc : wr.cell? ⟨b, o + k, none⟩ = some (.string l[k]) := by rw [HB.out.cell (p := ⟨b, o + k, none⟩) hbl]; exact hc0
        obtain ⟨X, hX⟩ : ∃ X, X = l[k] := ⟨_, rfl⟩
        rw [← hX] at hc
        have HX := Lib.hid hX
        clear hc0 hX
        by_cases hx : 65536 < X.size
        · have HRR := Lib.hid (HR.out.trans (listR_bad (.inr ⟨X, by rw [HX.out]; exact List.getElem_mem hlt, hx⟩)))
          go_wp2_with fail
          refine (text_put X _).mono ?_
          rintro e w2 ⟨rfl, hb2⟩
          rw [textR_bad hx]
          have HB2 := Lib.hid (below_step HB.out (Nat.le_refl _) hb2)
          clear hb2
          go_wp2
          go_ret2
          exact ⟨by rw [HRR.out]; rfl, HB2.out⟩
        · have hts := textB_size X (by omega)
          obtain ⟨T, hT⟩ : ∃ T, T = textB X := ⟨_, rfl⟩
          have hTs : T.size ≤ 65544 := by rw [hT]; omega
          have HT := Lib.hid hT
          have HN2 : Hid (C ++ T = N ++ catB (l.take (k + 1))) := Lib.hid (by rw [take_next l k hlt, catB_snoc, HC.out, hT, ← HX.out, ByteArray.append_assoc])
          have HOK2 : Hid (okT (l.take (k + 1))) := Lib.hid (by
            rw [take_next l k hlt]
            intro s hs
            rcases List.mem_append.1 hs with hs | hs
            · exact HOK.out s hs
            · simp only [List.mem_singleton] at hs; rw [hs, ← HX.out]; omega)
          go_wp2_with fail
          refine (text_put X _).mono ?_
          rintro e w2 ⟨rfl, hb2⟩
          rw [textR_ok hx, ← hT]
          clear hts hT
          have HB2 := Lib.hid (below_step HB.out (Nat.le_refl _) hb2)
          clear hb2
          go_wp2
          exact ⟨⟨k + 1, vint (by omega), by omega, by rw [HN2.out], HOK2.out, HB2.out⟩, by simp [intOf]; omega⟩
      · obtain rfl : k = l.length := by omega
        have d2 : ¬ ((l.length : Int) < (l.length : Int)) := by omega
        have HRR := Lib.hid (HR.out.trans (listR_ok (by
          rintro (h | ⟨s, hs, h⟩)
          · omega
          · have := HOK.out s (by rw [List.take_length]; exact hs); omega)))
        go_wp2
        go_ret2
        refine ⟨?_, HB.out⟩
        rw [HRR.out, ← HN.out, HC.out, List.take_length]; rfl
theorem rlist_put (l : List ByteArray) (a : Option Addr) (cap : Nat) (w : World) (h : Sl strC 1 w a l) : Calls Try.prog 31 #[.slice a l.length cap] w fun e w' => e = listR l ∧ Below w.heap.size w w' := by
  by_cases hb : 4096 < l.length
  · rw [listR_bad (.inl hb)]
    have d1 : (4096 : Int) < (l.length : Int) := by omega
    go_enter Try.func31, Try.ntmps31
    go_wp2
    go_ret2
    exact ⟨rfl, Below.refl _ _⟩
  · have d1 : ¬ (4096 : Int) < (l.length : Int) := by omega
    obtain ⟨R, hR⟩ : ∃ R, R = listR l := ⟨_, rfl⟩
    rw [← hR]
    have HR := Lib.hid hR
    have HS := Lib.hid h
    clear hR h
    go_enter Try.func31, Try.ntmps31
    go_wp2_with fail
    refine (rnum_nat l.length _ (by omega)).mono ?_
    rintro e w1 ⟨rfl, hb1⟩
    rw [num_ok (by omega) rfl]
    obtain ⟨N, hN⟩ : ∃ N, N = txt (nb l.length) := ⟨_, rfl⟩
    have hNs : N.size ≤ 8 := by rw [hN, txt_size]; exact nb_len8 (by omega)
    rw [← hN]
    have HN := Lib.hid hN
    clear hN
    have HB1 := Lib.hid hb1
    clear hb1
    go_wp2
    go_loopw [4, 6] (fun s i wr => ∃ k : Nat, i = .int .i64 k ∧ k ≤ l.length ∧ s = .string (N ++ catB (l.take k)) ∧ okT (l.take k) ∧ Below w.heap.size w wr) (fun _ i _ => l.length - (intOf i).toNat)
    case atStart => exact ⟨0, rfl, by omega, by simp [catB], fun s hs => by simp at hs, HB1.out⟩
    case round =>
      obtain ⟨k, rfl, hk, rfl, hok, hb⟩ := hrel
      have HB := Lib.hid hb
      have HOK := Lib.hid hok
      have hcs := catB_size _ hok
      have hcl : (l.take k).length ≤ 4096 := by rw [List.length_take]; omega
      have hsz : (N ++ catB (l.take k)).size ≤ 268500000 := by rw [ByteArray.size_append]; omega
      obtain ⟨C, hC⟩ : ∃ C, C = N ++ catB (l.take k) := ⟨_, rfl⟩
      rw [← hC] at hsz ⊢
      have HC := Lib.hid hC
      clear hb hok hC hcs hcl
      by_cases hlt : k < l.length
      · obtain ⟨b, o, rfl, hbl, hc0⟩ := sl_str HS.out k hlt
        have hc : wr.cell? ⟨b, o + k, none⟩ = some (.string l[k]) := by rw [HB.out.cell (p := ⟨b, o + k, none⟩) hbl]; exact hc0
        obtain ⟨X, hX⟩ : ∃ X, X = l[k] := ⟨_, rfl⟩
        rw [← hX] at hc
        have HX := Lib.hid hX
        clear hc0 hX
        by_cases hx : 65536 < X.size
        · have HRR := Lib.hid (HR.out.trans (listR_bad (.inr ⟨X, by rw [HX.out]; exact List.getElem_mem hlt, hx⟩)))
          go_wp2_with fail
          refine (rtext_put X _).mono ?_
          rintro e w2 ⟨rfl, hb2⟩
          rw [textR_bad hx]
          have HB2 := Lib.hid (below_step HB.out (Nat.le_refl _) hb2)
          clear hb2
          go_wp2
          go_ret2
          exact ⟨by rw [HRR.out]; rfl, HB2.out⟩
        · have hts := textB_size X (by omega)
          obtain ⟨T, hT⟩ : ∃ T, T = textB X := ⟨_, rfl⟩
          have hTs : T.size ≤ 65544 := by rw [hT]; omega
          have HT := Lib.hid hT
          have HN2 : Hid (C ++ T = N ++ catB (l.take (k + 1))) := Lib.hid (by rw [take_next l k hlt, catB_snoc, HC.out, hT, ← HX.out, ByteArray.append_assoc])
          have HOK2 : Hid (okT (l.take (k + 1))) := Lib.hid (by
            rw [take_next l k hlt]
            intro s hs
            rcases List.mem_append.1 hs with hs | hs
            · exact HOK.out s hs
            · simp only [List.mem_singleton] at hs; rw [hs, ← HX.out]; omega)
          go_wp2_with fail
          refine (rtext_put X _).mono ?_
          rintro e w2 ⟨rfl, hb2⟩
          rw [textR_ok hx, ← hT]
          clear hts hT
          have HB2 := Lib.hid (below_step HB.out (Nat.le_refl _) hb2)
          clear hb2
          go_wp2
          exact ⟨⟨k + 1, vint (by omega), by omega, by rw [HN2.out], HOK2.out, HB2.out⟩, by simp [intOf]; omega⟩
      · obtain rfl : k = l.length := by omega
        have d2 : ¬ ((l.length : Int) < (l.length : Int)) := by omega
        have HRR := Lib.hid (HR.out.trans (listR_ok (by
          rintro (h | ⟨s, hs, h⟩)
          · omega
          · have := HOK.out s (by rw [List.take_length]; exact hs); omega)))
        go_wp2
        go_ret2
        refine ⟨?_, HB.out⟩
        rw [HRR.out, ← HN.out, HC.out, List.take_length]; rfl
end Go.Proofs.Ytanehgnpominiaa

