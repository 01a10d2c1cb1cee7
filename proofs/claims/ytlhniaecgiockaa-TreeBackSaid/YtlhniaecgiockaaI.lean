/-
  The contract of Check.
-/
import Derived.Test.YtlhniaecgiockaaH
set_option linter.unusedVariables false
set_option linter.unusedSimpArgs false
namespace Go.Proofs.Ytlhniaecgiockaa
open Go.RowKit
theorem sl_bool {w : World} {a : Option Addr} {xs : List Bool} (h : Sl boolC 1 w a xs) (i : Nat) (hi : i < xs.length) : ∃ b o, a = some ⟨b, o, none⟩ ∧ b < w.heap.size ∧ w.cell? ⟨b, o + i, none⟩ = some (.bool xs[i]) := by
  obtain ⟨b, o, ha, hb, hc⟩ := h i hi
  refine ⟨b, o, ha, hb, ?_⟩
  have := hc 0 (.bool xs[i]) rfl
  simpa using this
theorem check_bad (r : ByteArray) (n i : Int) (s : ByteArray) (l : List ByteArray) (a : Option Addr) (c : Nat) (w : World) (h : i < 0 ∨ n ≤ i ∨ 1048576 < n) :
    Calls Try.prog 15 #[.string r, .int .i64 n, .int .i64 i, .string s, .slice a l.length c] w fun e w' => e = .returned (.bool (checkV r n i s l)) ∧ Below w.heap.size w w' := by
  have HV : Hid (checkV r n i s l = false) := Lib.hid (by unfold checkV; rw [if_pos h])
  have H := Lib.hid h
  obtain ⟨V, hV⟩ : ∃ V, V = checkV r n i s l := ⟨_, rfl⟩
  rw [← hV] at HV ⊢
  clear hV h
  by_cases h0 : i < 0
  · go_enter Try.func15, Try.ntmps15
    go_wp2
    go_ret
    rw [HV.out]
    exact ⟨rfl, Below.refl _ _⟩
  · by_cases h1 : n ≤ i
    · go_enter Try.func15, Try.ntmps15
      go_wp2
      go_ret
      rw [HV.out]
      exact ⟨rfl, Below.refl _ _⟩
    · have h2 : 1048576 < n := by have := H.out; omega
      go_enter Try.func15, Try.ntmps15
      go_wp2
      go_ret
      rw [HV.out]
      exact ⟨rfl, Below.refl _ _⟩
set_option maxHeartbeats 8000000 in
theorem check_ok (r : ByteArray) (n i : Nat) (s : ByteArray) (l : List ByteArray) (a : Option Addr) (c : Nat) (w : World) (hi : i < n) (hn : n ≤ 1048576) (hs : s.size ≤ 1000000) (hsm : ∀ x ∈ l, x.size ≤ 1000000) (hl : l.length ≤ 9007199254740992) (hS : Sl strC 1 w a l) :
    Calls Try.prog 15 #[.string r, .int .i64 n, .int .i64 i, .string s, .slice a l.length c] w fun e w' => e = .returned (.bool (checkV r n i s l)) ∧ Below w.heap.size w w' := by
  have hsl : (sidesL n i).length ≤ n := sides_le n n i (Nat.le_refl _)
  have HV : Hid (checkV r n i s l = (decide (l.length = (sidesL n i).length) && (foldW (sidesL n i) l (leafV s)).toList == r.toList)) := Lib.hid (by
    unfold checkV; rw [if_neg (by omega)]; rfl)
  have HSM := Lib.hid hsm; have HS := Lib.hid hS
  have TS := Lib.hid (sides_any n i w hi hn)
  obtain ⟨V, hV⟩ : ∃ V, V = checkV r n i s l := ⟨_, rfl⟩
  obtain ⟨W, hW⟩ : ∃ W, W = sidesL n i := ⟨_, rfl⟩
  rw [← hV, ← hW] at HV
  rw [← hW] at TS hsl
  rw [← hV]
  have g1 : ¬ (i : Int) < 0 := by omega
  have g2 : ¬ (n : Int) ≤ (i : Int) := by omega
  have g3 : ¬ (1048576 : Int) < (n : Int) := by omega
  clear hV hW hsm hS
  go_enter Try.func15, Try.ntmps15
  go_wp2_with fail
  refine TS.out.mono ?_
  rintro e w1 ⟨v, rfl, ho, hb⟩
  obtain ⟨wa, wc, rfl, _, hsw⟩ := own_sl (enc := boolC) (size := 1) (fun _ => rfl) (by decide) ho
  have HW := Lib.hid hsw; have HB := Lib.hid hb; have HS1 := Lib.hid (HS.out.keep hb)
  clear ho hb hsw g1 g2 g3 TS
  by_cases hlen : l.length = W.length
  · have e1 : ((W.length : Int) == (l.length : Int)) = true := by simp; omega
    have HLN := Lib.hid hlen
    have hsz : (⟨#[0]⟩ ++ s : ByteArray).size ≤ 1099511627000 := by rw [ByteArray.size_append, show (⟨#[0]⟩ : ByteArray).size = 1 from rfl]; omega
    have T4 := Lib.hid (fun w => id_any (⟨#[0]⟩ ++ s) w hsz)
    have hz0 := leafV_size s
    have HLF : Hid (leafV s = idV (⟨#[0]⟩ ++ s)) := Lib.hid rfl
    clear hsz hlen
    go_wp2_with fail
    refine (T4.out _).mono ?_
    rintro e w2 ⟨rfl, hb2⟩
    rw [← HLF.out]
    obtain ⟨L, hL⟩ : ∃ L, L = leafV s := ⟨_, rfl⟩
    rw [← hL] at HLF hz0 HV ⊢
    have HW2 := Lib.hid (HW.out.keep hb2); have HB2 := Lib.hid (below_step HB.out (Nat.le_refl _) hb2); have HS2 := Lib.hid (HS1.out.keep hb2); have HZ0 := Lib.hid hz0
    clear hL hb2 e1 T4 HLF hz0
    go_wp2
    go_loopw [12, 13] (fun x y wr => ∃ k : Nat, k ≤ W.length ∧ x = .string (foldW (W.drop k) (l.drop k) L) ∧ y = .int .i64 ((k : Int) - 1) ∧ Below w2.heap.size w2 wr) (fun _ y _ => (intOf y + 1).toNat)
    case atStart => exact ⟨W.length, Nat.le_refl _, by rw [List.drop_of_length_le (Nat.le_refl _), foldW_nil], rfl, Below.refl _ _⟩
    case round =>
      obtain ⟨k, hk, rfl, rfl, hbw⟩ := hrel
      have HBW := Lib.hid hbw
      clear hbw
      cases k with
      | zero =>
        have d1 : ¬ (0 : Int) ≤ ((0 : Nat) : Int) - 1 := by omega
        have HV2 : Hid (V = ((foldW (W.drop 0) (l.drop 0) L).toList == r.toList)) := Lib.hid (by
          rw [HV.out, decide_eq_true HLN.out, List.drop_zero, List.drop_zero]; rfl)
        obtain ⟨X, hX⟩ : ∃ X, X = foldW (W.drop 0) (l.drop 0) L := ⟨_, rfl⟩
        rw [← hX] at HV2 ⊢
        clear hX
        go_wp2
        go_ret
        rw [HV2.out]
        exact ⟨rfl, below_step HB2.out (Nat.le_refl _) HBW.out⟩
      | succ k =>
        have hkl : k < l.length := by have := HLN.out; omega
        have hkw : k < W.length := by omega
        have d1 : (0 : Int) ≤ ((k + 1 : Nat) : Int) - 1 := by omega
        have d2 : ((k + 1 : Nat) : Int) - 1 = (k : Int) := by omega
        rw [d2] at d1 ⊢
        obtain ⟨b1, o1, rfl, hb1, hc1⟩ := sl_bool (HW2.out.keep HBW.out) k hkw
        obtain ⟨b2, o2, rfl, hb2, hc2⟩ := slT_str (HS2.out.keep HBW.out) k hkl
        have hp := HSM.out _ (List.getElem_mem hkl)
        have HF : Hid (foldW (W.drop k) (l.drop k) L = if W[k] then nodeV l[k] (foldW (W.drop (k + 1)) (l.drop (k + 1)) L) else nodeV (foldW (W.drop (k + 1)) (l.drop (k + 1)) L) l[k]) := Lib.hid (by
          rw [List.drop_eq_getElem_cons hkw, List.drop_eq_getElem_cons hkl, foldW_cons])
        have hz := foldW_size (W.drop (k + 1)) (l.drop (k + 1)) L HZ0.out
        obtain ⟨X, hX⟩ : ∃ X, X = foldW (W.drop (k + 1)) (l.drop (k + 1)) L := ⟨_, rfl⟩
        obtain ⟨Y, hY⟩ : ∃ Y, Y = foldW (W.drop k) (l.drop k) L := ⟨_, rfl⟩
        obtain ⟨P, hP⟩ : ∃ P, P = l[k] := ⟨_, rfl⟩
        obtain ⟨t, ht⟩ : ∃ t, t = W[k] := ⟨_, rfl⟩
        rw [← hP] at hc2 hp
        rw [← hX] at hz
        rw [← hX, ← hY, ← hP, ← ht] at HF
        rw [← hX]
        rw [← ht] at hc1
        have HY := Lib.hid hY
        have l1 : (⟨#[1]⟩ : ByteArray).size = 1 := rfl
        have z1 : (⟨#[1]⟩ ++ P ++ X : ByteArray).size ≤ 1099511627000 := by rw [ByteArray.size_append, ByteArray.size_append, l1]; omega
        have z2 : (⟨#[1]⟩ ++ X ++ P : ByteArray).size ≤ 1099511627000 := by rw [ByteArray.size_append, ByteArray.size_append, l1]; omega
        have T1 := Lib.hid (fun w => id_any (⟨#[1]⟩ ++ P ++ X) w z1)
        have T2 := Lib.hid (fun w => id_any (⟨#[1]⟩ ++ X ++ P) w z2)
        have hkk : k ≤ W.length := by omega
        have HLL : Hid (k < l.length) := Lib.hid hkl
        have g1 : (k : Int) < (W.length : Int) := by omega
        have g2 : (k : Int) < (l.length : Int) := by omega
        clear hX hY hP ht z1 z2 l1 d2 hkw hkl hk
        cases t with
        | true =>
          have HF2 : Hid (Y = idV (⟨#[1]⟩ ++ P ++ X)) := Lib.hid (by rw [HF.out, if_pos rfl]; rfl)
          clear HF
          go_wp2_with fail
          refine (T1.out _).mono ?_
          rintro e w3 ⟨rfl, hb3⟩
          rw [← HF2.out]
          have HB3 := Lib.hid (below_step HBW.out (Nat.le_refl _) hb3)
          clear hb3
          go_wp2
          go_roundw
          case rel => exact ⟨k, hkk, by rw [HY.out], rfl, HB3.out⟩
          case measure => simp [intOf] <;> omega
        | false =>
          have HF2 : Hid (Y = idV (⟨#[1]⟩ ++ X ++ P)) := Lib.hid (by rw [HF.out, if_neg (by simp)]; rfl)
          clear HF
          go_wp2_with fail
          refine (T2.out _).mono ?_
          rintro e w3 ⟨rfl, hb3⟩
          rw [← HF2.out]
          have HB3 := Lib.hid (below_step HBW.out (Nat.le_refl _) hb3)
          clear hb3
          go_wp2
          go_roundw
          case rel => exact ⟨k, hkk, by rw [HY.out], rfl, HB3.out⟩
          case measure => simp [intOf] <;> omega
  · have e1 : ((W.length : Int) == (l.length : Int)) = false := by simp; omega
    have HV2 : Hid (V = false) := Lib.hid (by rw [HV.out, decide_eq_false hlen]; rfl)
    go_wp2
    go_ret
    rw [HV2.out]
    exact ⟨rfl, HB.out⟩
theorem check_any (r : ByteArray) (n i : Int) (s : ByteArray) (l : List ByteArray) (a : Option Addr) (c : Nat) (w : World) (hs : s.size ≤ 1000000) (hsm : ∀ x ∈ l, x.size ≤ 1000000) (hl : l.length ≤ 9007199254740992) (hS : Sl strC 1 w a l) :
    Calls Try.prog 15 #[.string r, .int .i64 n, .int .i64 i, .string s, .slice a l.length c] w fun e w' => e = .returned (.bool (checkV r n i s l)) ∧ Below w.heap.size w w' := by
  by_cases h : i < 0 ∨ n ≤ i ∨ 1048576 < n
  · exact check_bad r n i s l a c w h
  · obtain ⟨m, rfl⟩ : ∃ m : Nat, n = m := ⟨n.toNat, by omega⟩
    obtain ⟨j, rfl⟩ : ∃ j : Nat, i = j := ⟨i.toNat, by omega⟩
    exact check_ok r m j s l a c w (by omega) (by omega) hs hsm hl hS
end Go.Proofs.Ytlhniaecgiockaa

