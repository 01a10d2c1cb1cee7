/-
  The contracts of crc.Add, crc.Sum, the reference's Sum, and the examples' function, for all bytes.
-/
import Derived.Test.YtmjjoejhofjmjaaA
import Derived.Lib.ConvBytes
import Derived.Laws.BytesArg
namespace Go.Proofs.Ytmjjoejhofjmjaa
open Go.RowKit
theorem bytes_conv {P : Program} (w : World) (src dst e : TypeId) (s : ByteArray) {u : TypeDesc}
    (hs : P.underlying src = some u) (hd : P.underlying dst = some (.slice e)) (he : P.underlying e = some (.int .u8)) :
    ∃ (cap : Nat) (w' : World), (convert src dst (.string s)).run P w = .ok (.slice (some ⟨w.heap.size, 0, none⟩) s.size cap) w' ∧
      (∀ (j : Nat) (hj : j < s.size), w'.cell? ⟨w.heap.size, j, none⟩ = some (.int .u8 s[j].toNat)) ∧ Below w.heap.size w w' := by
  refine ⟨_, _, Lib.run_convert_string_bytes w src dst e s hs hd he, ?_, ?_⟩
  · intro j hj
    rw [Lib.bytesWorld_cell w e s j hj]
    have : s.data.toList.getD j 0 = s[j] := by simp [List.getD, hj]; rfl
    rw [this]
  · refine ⟨rfl, rfl, rfl, by rw [Lib.bytesWorld_size]; omega, fun j hj => Lib.bytesWorld_at_old w e s j hj⟩
set_option maxHeartbeats 400000 in
theorem add_any (x : Nat) (s : ByteArray) (w : World) (hx : x < 4294967296) (hs : s.size ≤ 9223372036854775807) :
    Calls Try.prog 6 #[.int .u32 x, .string s] w fun e w' => e = .returned (.int .u32 (crc x s.data.toList : Nat)) ∧ Below w.heap.size w w' := by
  have hnot := bnot_u32 x hx
  have hi := inv_lt hx
  obtain ⟨cap, w1, hcv, hc, hb⟩ := bytes_conv (P := Try.prog) w 9 27 5 s Try.underlying9 Try.underlying27 Try.underlying5
  have HC := Lib.hid hc; clear hc
  go_enter Try.func6, Try.ntmps6
  go_wp2
  go_loop [5, 7, 13, 21] (fun c _ i _ => ∃ k : Nat, k ≤ s.size ∧ i = .int .i64 k ∧ c = .int .u32 (addL (inv x) (s.data.toList.take k) : Nat)) (fun _ _ i _ => s.size - (intOf i).toNat)
  case atStart => exact ⟨0, by omega, rfl, rfl⟩
  case round =>
    obtain ⟨k, hk, rfl, rfl⟩ := hrel
    have hm := addL_lt (s.data.toList.take k) hi
    by_cases hlt : k < s.size
    · have HS := Lib.hid (addL_snoc (inv x) (s.data.toList.take k) s[k])
      have HT := Lib.hid (take_snoc s k hlt)
      generalize hM : addL (inv x) (s.data.toList.take k) = M at *
      have HM := Lib.hid hM; clear hM
      have hbt := s[k].toNat_lt
      have hxor := bxor_u32 M s[k].toNat hm (by omega)
      have hxl := xor_lt hm (b := s[k].toNat) (by omega)
      have hc := HC.out k hlt
      go_wp2
      go_loop [5, 21] (fun c i => ∃ j : Nat, j ≤ 8 ∧ i = .int .i64 j ∧ c = .int .u32 (stpN j (M ^^^ s[k].toNat) : Nat)) (fun _ i => 8 - (intOf i).toNat)
      case atStart => exact ⟨0, by omega, rfl, rfl⟩
      case round =>
        clear hxor hnot
        obtain ⟨j, hj, rfl, rfl⟩ := hrel
        have hl := stpN_lt hxl j
        have HN : Hid (stpN (j + 1) (M ^^^ s[k].toNat) = stp (stpN j (M ^^^ s[k].toNat))) := Lib.hid rfl
        generalize hN : stpN j (M ^^^ s[k].toNat) = N at *
        have HE := Lib.hid hN; clear hN
        have HX := Lib.hid (bxor_u32 (N / 2) 2197175160 (by omega) (by omega))
        have hA := band_u32_1 N hl
        go_wp2
        · go_round
          case rel => exact ⟨j + 1, by omega, by go_num, vint (by rw [HN.out]; unfold stp; rw [if_pos (by simp_all; omega)]; exact HX.out)⟩
          case measure => simp [intOf]; omega
        · go_round
          case rel => exact ⟨j + 1, by omega, by go_num, vint (by rw [HN.out]; unfold stp; rw [if_neg (by simp_all; omega)]; rfl)⟩
          case measure => simp [intOf]; omega
        · obtain rfl : j = 8 := by omega
          go_round
          case rel => exact ⟨k + 1, by omega, by go_num, vint (by rw [HT.out, HS.out, ← HE.out]; rfl)⟩
          case measure => simp [intOf]; omega
    · obtain rfl : k = s.size := by omega
      rw [List.take_of_length_le (by simp)] at hm ⊢
      have HR := Lib.hid (bnot_u32 _ hm)
      go_wp2
      go_ret
      exact ⟨rint HR.out, hb⟩
theorem sum_any (s : ByteArray) (w : World) (hs : s.size ≤ 9223372036854775807) :
    Calls Try.prog 8 #[.string s] w fun e w' => e = .returned (.int .u32 (crc 0 s.data.toList : Nat)) ∧ Below w.heap.size w w' := by
  go_enter Try.func8, Try.ntmps8
  go_wp2_with (go_at_call 6; refine (add_any 0 _ _ (by omega) (by omega)).mono ?_; rintro e w' ⟨rfl, hb⟩)
  go_ret
  exact ⟨rfl, hb⟩
theorem refSum_any (s : ByteArray) (w : World) (hs : s.size ≤ 9223372036854775807) :
    Calls Try.prog 9 #[.string s] w fun e w' => e = .returned (.int .u32 (crc 0 s.data.toList : Nat)) ∧ w = w' := by
  go_enter Try.func9, Try.ntmps9
  go_wp2_with (go_at_call 7; refine (refAdd_any 0 _ _ (by omega) (by omega)).mono ?_; rintro e w' ⟨rfl, rfl⟩)
  go_ret
  exact ⟨rfl, rfl⟩
theorem crc9 : crc 0 (ByteArray.mk #[49, 50, 51, 52, 53, 54, 55, 56, 57]).data.toList = 3808858755 := by decide +kernel
theorem crc0 : crc 0 (ByteArray.mk #[]).data.toList = 0 := by decide +kernel
theorem crc45 : crc (crc 0 (ByteArray.mk #[49, 50, 51, 52]).data.toList) (ByteArray.mk #[53, 54, 55, 56, 57]).data.toList = 3808858755 := by decide +kernel
set_option maxHeartbeats 400000 in
theorem awake_any (w : World) :
    Calls Try.prog 5 #[] w fun e w' => e = .returned (.bool true) ∧ Below w.heap.size w w' := by
  go_enter Try.func5, Try.ntmps5
  go_wp2_with fail
  refine (sum_any _ _ (by decide)).mono ?_
  rintro e w1 ⟨rfl, hb1⟩
  rw [crc9]
  go_wp2_with fail
  refine (sum_any _ _ (by decide)).mono ?_
  rintro e w2 ⟨rfl, hb2⟩
  rw [crc0]
  go_wp2_with fail
  refine (sum_any _ _ (by decide)).mono ?_
  rintro e w3 ⟨rfl, hb3⟩
  go_wp2_with fail
  refine (add_any _ _ _ (crc_lt (by omega) _) (by decide)).mono ?_
  rintro e w4 ⟨rfl, hb4⟩
  rw [crc45]
  go_wp2_with fail
  go_ret
  exact ⟨rfl, ((hb1.trans (hb2.mono hb1.size)).trans (hb3.mono (by have := hb1.size; have := hb2.size; omega))).trans (hb4.mono (by have := hb1.size; have := hb2.size; have := hb3.size; omega))⟩
end Go.Proofs.Ytmjjoejhofjmjaa
