/-
  The contract of wire.number, which reads a number.
-/
import Derived.Test.YthkbeeebdkccdaaB
set_option linter.unusedVariables false
set_option linter.unusedSimpArgs false
namespace Go.Proofs.Ythkbeeebdkccdaa
open Go.RowKit
def lastR (o : Option Nat) : Ending := match o with
  | none => .returned (.tuple #[.int .i64 0, .bool false])
  | some i => .returned (.tuple #[.int .i64 i, .bool true])
theorem last_any (s : ByteArray) (w : World) (hs : s.size ≤ 1099511627776) : Calls Try.prog 26 #[.string s] w fun e w' => e = lastR (low (bys s)) ∧ w' = w := by
  go_enter Try.func26, Try.ntmps26
  go_wp2
  go_loopw [7] (fun i wr => ∃ k : Nat, i = .int .i64 k ∧ k ≤ s.size ∧ (∀ j, j < k → 128 ≤ (bys s).getD j 0) ∧ wr = w) (fun i _ => s.size - (intOf i).toNat)
  case atStart => exact ⟨0, rfl, by omega, fun j h => by omega, rfl⟩
  case round =>
    obtain ⟨k, rfl, hk, hall, rfl⟩ := hrel
    have HA := Lib.hid hall
    clear hall
    by_cases hlt : k < s.size
    · have hg := bys_get s k hlt
      by_cases hc : (s[k]'hlt).toNat < 128
      · have d1 : decide (((s[k]'hlt).toNat : Int) < 128) = true := decide_eq_true (by omega)
        have HR := Lib.hid (low_at (l := bys s) (i := k) (by rw [bys_len]; exact hlt) (by omega) HA.out)
        clear hg
        go_wp2
        go_ret2
        exact ⟨by rw [HR.out]; rfl, rfl⟩
      · have d1 : decide (((s[k]'hlt).toNat : Int) < 128) = false := decide_eq_false (by omega)
        have HA2 : Hid (∀ j, j < k + 1 → 128 ≤ (bys s).getD j 0) := Lib.hid (fun j hj => by
          by_cases e : j = k
          · subst e; omega
          · exact HA.out j (by omega))
        clear hg
        go_wp2
        refine ⟨⟨k + 1, vint (by omega), by omega, HA2.out, trivial⟩, by simp [intOf]; omega⟩
    · have HR := Lib.hid (low_none (l := bys s) (fun j hj => HA.out j (by rw [bys_len] at hj; omega)))
      have d2 : ¬ ((k : Int) < (s.size : Int)) := by omega
      go_wp2
      go_ret2
      exact ⟨by rw [HR.out]; rfl, rfl⟩
theorem val_step (s : ByteArray) (k : Nat) (h : k < s.size) (h7 : k ≤ 7) : val ((bys s).take (k + 1)) = val ((bys s).take k) + 128 ^ k * ((s[k]'h).toNat % 128) := by
  have hl : k < (bys s).length := by rw [bys_len]; exact h
  rw [List.take_succ_eq_append_getElem hl, val_app, List.length_take, Nat.min_eq_left (by omega)]
  have := bys_get s k h
  rw [List.getD_eq_getElem?_getD, List.getElem?_eq_getElem hl] at this
  simp only [Option.getD_some] at this
  rw [this]
  simp [val]
theorem wraps_i64 (n : Int) (h₀ : 0 ≤ n) (h₁ : n < 2 ^ 62) : IntKind.i64.wrap n = n := by rw [IntKind.wrap_i64]; omega
theorem or_comm' (k : IntKind) (x y : Int) : bits .or k x y = bits .or k y x := by simp only [bits, BitVec.or_comm]
theorem or_shl (X c k : Nat) (hk : k ≤ 7) (hX : X < 128 ^ k) (hc : c < 256) : bits .or .i64 (X : Int) (wrap64 (wrap64 (bits .and .u8 (c : Int) 127) * 2 ^ (7 * k))) = ((X + 128 ^ k * (c % 128) : Nat) : Int) := by
  have h1 : bits .and .u8 (c : Int) 127 = ((c % 128 : Nat) : Int) := by
    rw [show (127 : Int) = 2 ^ 7 - 1 from rfl, bits_mask .u8 8 (by decide) wraps_u8 7 (by decide) (c : Int) (by omega) (by omega)]
    simp
  have hp : (2 : Int) ^ (7 * k) = ((128 ^ k : Nat) : Int) := by rw [Int.pow_mul]; simp
  have hP : 128 ^ k ≤ 128 ^ 7 := Nat.pow_le_pow_right (by omega) hk
  have hm : ((c % 128 : Nat) : Int) * ((128 ^ k : Nat) : Int) = ((128 ^ k * (c % 128) : Nat) : Int) := by rw [Int.mul_comm]; simp
  have hb : 128 ^ k * (c % 128) ≤ 128 ^ 7 * 127 := Nat.mul_le_mul hP (by omega)
  rw [h1, wrap64_id (n := ((c % 128 : Nat) : Int)) (by omega) (by omega), hp, hm, wrap64_id (n := ((128 ^ k * (c % 128) : Nat) : Int)) (by omega) (by omega), or_comm']
  have hd : (((128 ^ k * (c % 128) : Nat) : Int)) % 2 ^ (7 * k) = 0 := by rw [hp, ← Int.natCast_emod, Nat.mul_mod_right]; rfl
  have hX2 : (X : Int) < 2 ^ (7 * k) := by rw [hp]; exact_mod_cast hX
  rw [bits_join .i64 62 (by decide) wraps_i64 (7 * k) _ _ (by omega) hd (by omega) (by omega) hX2 (by omega)]
  omega
def readR (l : List Nat) : Ending := .returned (.tuple #[.int .i64 (readV l).1, .int .i64 (readV l).2.1, .int .i64 (readV l).2.2])
theorem number_any (s : ByteArray) (w : World) (hs : s.size ≤ 1099511627776) : Calls Try.prog 22 #[.string s] w fun e w' => e = readR (bys s) ∧ w' = w := by
  unfold readR
  cases hl : low (bys s) with
  | none =>
    have hr : readV (bys s) = (0, 0, 4) := by unfold readV; rw [hl]
    rw [hr]
    clear hr
    go_enter Try.func22, Try.ntmps22
    go_wp2_with fail
    refine (last_any s _ hs).mono ?_
    rintro e w1 ⟨rfl, hx⟩
    obtain rfl : w = w1 := hx.symm
    rw [hl]
    unfold lastR
    go_wp2
    go_ret3
    exact ⟨rfl, rfl⟩
  | some i =>
    obtain ⟨hi1, hi2, hi3⟩ := low_some hl
    rw [bys_len] at hi1
    have hg := bys_get s i hi1
    have hu : readV (bys s) = readI (bys s) i := by unfold readV; rw [hl]
    unfold readI at hu
    clear hi3
    obtain ⟨V, hV⟩ : ∃ V, V = readV (bys s) := ⟨_, rfl⟩
    rw [← hV] at hu ⊢
    clear hV
    go_enter Try.func22, Try.ntmps22
    go_wp2_with fail
    refine (last_any s _ hs).mono ?_
    rintro e w1 ⟨rfl, hx⟩
    obtain rfl : w = w1 := hx.symm
    rw [hl, show lastR (some i) = .returned (.tuple #[.int .i64 i, .bool true]) from rfl]
    clear hx hl
    by_cases h8 : 8 ≤ i
    · rw [if_pos h8] at hu
      subst hu
      have d8 : (8 : Int) ≤ (i : Int) := by omega
      go_wp2
      go_ret3
      exact ⟨rfl, rfl⟩
    · rw [if_neg h8] at hu
      have d8 : ¬ (8 : Int) ≤ (i : Int) := by omega
      by_cases hz : 0 < i ∧ (bys s).getD i 0 = 0
      · rw [if_pos hz] at hu
        subst hu
        have e1 : (0 : Int) < (i : Int) := by omega
        have e2 : (((s[i]'hi1).toNat : Int) == 0) = true := by simp; omega
        go_wp2
        go_ret3
        exact ⟨rfl, rfl⟩
      · rw [if_neg hz] at hu
        have HU := Lib.hid hu
        have HG := Lib.hid hg
        have HZ := Lib.hid hz
        clear hu hg hz hi2
        have he : (0 : Int) < (i : Int) ∨ ¬ (0 : Int) < (i : Int) := Classical.em _
        have e2 : 0 < (i : Int) → (((s[i]'hi1).toNat : Int) == 0) = false := by
          intro h0
          have := HZ.out
          have := HG.out
          simp; omega
        rcases he with he | he
        · have e3 := e2 he
          clear e2
          go_wp2
          go_loopw [7, 31] (fun n c wr => ∃ k : Nat, c = .int .i64 k ∧ k ≤ i + 1 ∧ n = .int .i64 (val ((bys s).take k) : Nat) ∧ wr = w) (fun _ c _ => i + 1 - (intOf c).toNat)
          case atStart => exact ⟨0, rfl, by omega, rfl, rfl⟩
          case round =>
            obtain ⟨k, rfl, hk, rfl, rfl⟩ := hrel
            obtain ⟨X, hX⟩ : ∃ X, X = val ((bys s).take k) := ⟨_, rfl⟩
            rw [← hX]
            have HX := Lib.hid hX
            have hXl : X < 128 ^ ((bys s).take k).length := by rw [hX]; exact val_lt _
            rw [List.length_take, bys_len, Nat.min_eq_left (by omega)] at hXl
            have HXL := Lib.hid hXl
            clear hX hXl
            by_cases hlt : k < i + 1
            · have hks : k < s.size := by omega
              have HS := Lib.hid (val_step s k hks (by omega))
              have HO := Lib.hid (or_shl X (s[k]'hks).toNat k (by omega) HXL.out (UInt8.toNat_lt _))
              go_wp2
              refine ⟨⟨k + 1, vint (by omega), by omega, vint ?_, trivial⟩, by simp [intOf]; omega⟩
              rw [HO.out, HS.out, HX.out]
            · obtain rfl : k = i + 1 := by omega
              have hu := HU.out
              rw [← HX.out] at hu
              by_cases hb : 9007199254740992 < X
              · rw [if_pos hb] at hu
                subst hu
                have hb2 : (9007199254740992 : Int) < (X : Int) := by omega
                go_wp2
                go_ret3
                exact ⟨rfl, rfl⟩
              · rw [if_neg hb] at hu
                subst hu
                have hb2 : ¬ (9007199254740992 : Int) < (X : Int) := by omega
                go_wp2
                go_ret3
                exact ⟨rfl, rfl⟩
        · clear e2
          go_wp2
          go_loopw [7, 31] (fun n c wr => ∃ k : Nat, c = .int .i64 k ∧ k ≤ i + 1 ∧ n = .int .i64 (val ((bys s).take k) : Nat) ∧ wr = w) (fun _ c _ => i + 1 - (intOf c).toNat)
          case atStart => exact ⟨0, rfl, by omega, rfl, rfl⟩
          case round =>
            obtain ⟨k, rfl, hk, rfl, rfl⟩ := hrel
            obtain ⟨X, hX⟩ : ∃ X, X = val ((bys s).take k) := ⟨_, rfl⟩
            rw [← hX]
            have HX := Lib.hid hX
            have hXl : X < 128 ^ ((bys s).take k).length := by rw [hX]; exact val_lt _
            rw [List.length_take, bys_len, Nat.min_eq_left (by omega)] at hXl
            have HXL := Lib.hid hXl
            clear hX hXl
            by_cases hlt : k < i + 1
            · have hks : k < s.size := by omega
              have HS := Lib.hid (val_step s k hks (by omega))
              have HO := Lib.hid (or_shl X (s[k]'hks).toNat k (by omega) HXL.out (UInt8.toNat_lt _))
              go_wp2
              refine ⟨⟨k + 1, vint (by omega), by omega, vint ?_, trivial⟩, by simp [intOf]; omega⟩
              rw [HO.out, HS.out, HX.out]
            · obtain rfl : k = i + 1 := by omega
              have hu := HU.out
              rw [← HX.out] at hu
              by_cases hb : 9007199254740992 < X
              · rw [if_pos hb] at hu
                subst hu
                have hb2 : (9007199254740992 : Int) < (X : Int) := by omega
                go_wp2
                go_ret3
                exact ⟨rfl, rfl⟩
              · rw [if_neg hb] at hu
                subst hu
                have hb2 : ¬ (9007199254740992 : Int) < (X : Int) := by omega
                go_wp2
                go_ret3
                exact ⟨rfl, rfl⟩
end Go.Proofs.Ythkbeeebdkccdaa

