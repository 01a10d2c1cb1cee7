/-
  The contract of the reference's Add: it returns the sum by the definition, whatever the bytes.
-/
import Derived.Test.YtogpjoenfcleoaaProg
import Derived.Test.YtogpjoenfcleoaaCrcM
import Derived.Test.YtogpjoenfcleoaaBase2
import Derived.WalkKit
import Derived.WalkSpells
import Derived.WalkLawsBesides
import Derived.Outline
import Derived.Lib.Hide
set_option linter.unusedVariables false
set_option linter.unusedSimpArgs false
namespace Go.Proofs.Ytogpjoenfcleoaa
open Go.RowKit
theorem bnot_u32 (x : Nat) (hx : x < 4294967296) : bits .xor .u32 IntKind.u32.max (x : Int) = ((inv x : Nat) : Int) := bxor_u32 4294967295 x (by omega) hx
set_option maxHeartbeats 400000 in
theorem crc_radd (x : Nat) (s : ByteArray) (w : World) (hx : x < 4294967296) (hs : s.size ≤ 9223372036854775807) :
    Calls Try.prog 12 #[.int .u32 x, .string s] w fun e w' => e = .returned (.int .u32 (crc x s.data.toList : Nat)) ∧ w = w' := by
  have hnot := bnot_u32 x hx
  have hi := inv_lt hx
  go_enter Try.func12, Try.ntmps12
  go_wp2
  go_loop [5, 6, 7, 8] (fun c i _ _ => ∃ k : Nat, k ≤ s.size ∧ i = .int .i64 k ∧ c = .int .u32 (addL (inv x) (s.data.toList.take k) : Nat)) (fun _ i _ _ => s.size - (intOf i).toNat)
  case atStart => exact ⟨0, by omega, rfl, rfl⟩
  case round =>
    obtain ⟨k, hk, rfl, rfl⟩ := hrel
    have hm := addL_lt (s.data.toList.take k) hi
    by_cases hlt : k < s.size
    · have HS := Lib.hid (addL_snoc (inv x) (s.data.toList.take k) s[k])
      have HT := Lib.hid (take_snoc s k hlt)
      generalize hM : addL (inv x) (s.data.toList.take k) = M at *
      have HM := Lib.hid hM; clear hM
      have hbt := s[k].toNat_lt
      have hxor := bxor_u32 M s[k].toNat hm (by omega)
      have hxl := xor_lt hm (b := s[k].toNat) (by omega)
      go_wp2
      go_loop [5, 7, 8] (fun c i _ => ∃ j : Nat, j ≤ 8 ∧ i = .int .i64 j ∧ c = .int .u32 (stpN j (M ^^^ s[k].toNat) : Nat)) (fun _ i _ => 8 - (intOf i).toNat)
      case atStart => exact ⟨0, by omega, rfl, rfl⟩
      case round =>
        clear hxor hnot
        obtain ⟨j, hj, rfl, rfl⟩ := hrel
        have hl := stpN_lt hxl j
        have HN : Hid (stpN (j + 1) (M ^^^ s[k].toNat) = stp (stpN j (M ^^^ s[k].toNat))) := Lib.hid rfl
        generalize hN : stpN j (M ^^^ s[k].toNat) = N at *
        have HE := Lib.hid hN; clear hN
        have HX := Lib.hid (bxor_u32 (N / 2) 2197175160 (by omega) (by omega))
        go_wp2
        · go_round
          case rel => exact ⟨j + 1, by omega, by go_num, vint (by rw [HN.out]; unfold stp; rw [if_pos (by simp_all; omega)]; exact HX.out)⟩
          case measure => simp [intOf]; omega
        · go_round
          case rel => exact ⟨j + 1, by omega, by go_num, vint (by rw [HN.out]; unfold stp; rw [if_neg (by simp_all; omega)]; rfl)⟩
          case measure => simp [intOf]; omega
        · obtain rfl : j = 8 := by omega
          go_round
          case rel => exact ⟨k + 1, by omega, by go_num, vint (by rw [HT.out, HS.out, ← HE.out]; rfl)⟩
          case measure => simp [intOf]; omega
    · obtain rfl : k = s.size := by omega
      rw [List.take_of_length_le (by simp)] at hm ⊢
      have HR := Lib.hid (bnot_u32 _ hm)
      go_wp2
      go_ret
      exact ⟨rint HR.out, rfl⟩
set_option maxHeartbeats 400000 in
theorem crc_add (x : Nat) (s : ByteArray) (w : World) (hx : x < 4294967296) (hs : s.size ≤ 9223372036854775807) :
    Calls Try.prog 14 #[.int .u32 x, .string s] w fun e w' => e = .returned (.int .u32 (crc x s.data.toList : Nat)) ∧ Below w.heap.size w w' := by
  have hnot := bnot_u32 x hx
  have hi := inv_lt hx
  obtain ⟨cap, w1, hcv, hc, hb⟩ := bytes_conv (P := Try.prog) w 9 43 5 s Try.underlying9 Try.underlying43 Try.underlying5
  have HC := Lib.hid hc; clear hc
  go_enter Try.func14, Try.ntmps14
  go_wp2
  go_loop [5, 7, 13, 21] (fun c _ i _ => ∃ k : Nat, k ≤ s.size ∧ i = .int .i64 k ∧ c = .int .u32 (addL (inv x) (s.data.toList.take k) : Nat)) (fun _ _ i _ => s.size - (intOf i).toNat)
  case atStart => exact ⟨0, by omega, rfl, rfl⟩
  case round =>
    obtain ⟨k, hk, rfl, rfl⟩ := hrel
    have hm := addL_lt (s.data.toList.take k) hi
    by_cases hlt : k < s.size
    · have HS := Lib.hid (addL_snoc (inv x) (s.data.toList.take k) s[k])
      have HT := Lib.hid (take_snoc s k hlt)
      generalize hM : addL (inv x) (s.data.toList.take k) = M at *
      have HM := Lib.hid hM; clear hM
      have hbt := s[k].toNat_lt
      have hxor := bxor_u32 M s[k].toNat hm (by omega)
      have hxl := xor_lt hm (b := s[k].toNat) (by omega)
      have hc := HC.out k hlt
      go_wp2
      go_loop [5, 21] (fun c i => ∃ j : Nat, j ≤ 8 ∧ i = .int .i64 j ∧ c = .int .u32 (stpN j (M ^^^ s[k].toNat) : Nat)) (fun _ i => 8 - (intOf i).toNat)
      case atStart => exact ⟨0, by omega, rfl, rfl⟩
      case round =>
        clear hxor hnot
        obtain ⟨j, hj, rfl, rfl⟩ := hrel
        have hl := stpN_lt hxl j
        have HN : Hid (stpN (j + 1) (M ^^^ s[k].toNat) = stp (stpN j (M ^^^ s[k].toNat))) := Lib.hid rfl
        generalize hN : stpN j (M ^^^ s[k].toNat) = N at *
        have HE := Lib.hid hN; clear hN
        have HX := Lib.hid (bxor_u32 (N / 2) 2197175160 (by omega) (by omega))
        have hA := band_u32_1 N hl
        go_wp2
        · go_round
          case rel => exact ⟨j + 1, by omega, by go_num, vint (by rw [HN.out]; unfold stp; rw [if_pos (by simp_all; omega)]; exact HX.out)⟩
          case measure => simp [intOf]; omega
        · go_round
          case rel => exact ⟨j + 1, by omega, by go_num, vint (by rw [HN.out]; unfold stp; rw [if_neg (by simp_all; omega)]; rfl)⟩
          case measure => simp [intOf]; omega
        · obtain rfl : j = 8 := by omega
          go_round
          case rel => exact ⟨k + 1, by omega, by go_num, vint (by rw [HT.out, HS.out, ← HE.out]; rfl)⟩
          case measure => simp [intOf]; omega
    · obtain rfl : k = s.size := by omega
      rw [List.take_of_length_le (by simp)] at hm ⊢
      have HR := Lib.hid (bnot_u32 _ hm)
      go_wp2
      go_ret
      exact ⟨rint HR.out, hb⟩
end Go.Proofs.Ytogpjoenfcleoaa

