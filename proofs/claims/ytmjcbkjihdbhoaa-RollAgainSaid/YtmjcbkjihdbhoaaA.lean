/-
  The sums of the last bytes: the program's and the law's.
-/
import Derived.Test.YtmjcbkjihdbhoaaRf
import Derived.Test.YtmjcbkjihdbhoaaTexts
set_option linter.unusedVariables false
set_option linter.unusedSimpArgs false
namespace Go.Proofs.Ytmjcbkjihdbhoaa
open Go.RowKit
def stpR (x : Nat) (c : UInt8) : Nat := (x * 16777619 + c.toNat + 1) % 4294967296
def foldR (l : List UInt8) : Nat := l.foldl stpR 0
theorem foldR_snoc (l : List UInt8) (c : UInt8) : foldR (l ++ [c]) = stpR (foldR l) c := by
  unfold foldR; rw [List.foldl_append, List.foldl_cons, List.foldl_nil]
theorem stpR_lt (x : Nat) (c : UInt8) : stpR x c < 4294967296 := by unfold stpR; omega
theorem foldR_lt (l : List UInt8) : foldR l < 4294967296 := by
  unfold foldR
  have : ∀ (l : List UInt8) (x : Nat), x < 4294967296 → l.foldl stpR x < 4294967296 := by
    intro l
    induction l with
    | nil => intro x h; exact h
    | cons c l ih => intro x h; exact ih _ (stpR_lt _ _)
  exact this l 0 (by omega)
def sumR (s : ByteArray) : Nat := foldR (s.data.toList.drop (s.size - 16))
theorem sumR_lt (s : ByteArray) : sumR s < 4294967296 := foldR_lt _
theorem take_snocD (s : ByteArray) (d k : Nat) (h : d + k < s.size) : (s.data.toList.drop d).take (k + 1) = (s.data.toList.drop d).take k ++ [s[d + k]] := by
  rw [List.take_succ_eq_append_getElem (by simp; have : s.data.size = s.size := rfl; omega), List.getElem_drop]; rfl
/-- The sum of the bytes from d on, up to place j. -/
def sumTo (s : ByteArray) (d j : Nat) : Nat := foldR ((s.data.toList.drop d).take (j - d))
theorem sumTo_lt (s : ByteArray) (d j : Nat) : sumTo s d j < 4294967296 := foldR_lt _
theorem sumTo_zero (s : ByteArray) (d : Nat) : sumTo s d d = 0 := by unfold sumTo; rw [Nat.sub_self]; rfl
theorem sumTo_next (s : ByteArray) (d j : Nat) (h : d ≤ j) (hj : j < s.size) : sumTo s d (j + 1) = (sumTo s d j * 16777619 + s[j].toNat + 1) % 4294967296 := by
  obtain ⟨k, rfl⟩ : ∃ k, j = d + k := ⟨j - d, by omega⟩
  unfold sumTo
  rw [show d + k + 1 - d = k + 1 by omega, take_snocD s d k hj, foldR_snoc, show d + k - d = k by omega, stpR]
theorem sumTo_end (s : ByteArray) : sumTo s (s.size - 16) s.size = sumR s := by
  unfold sumTo sumR
  rw [List.take_of_length_le (by simp)]
set_option maxHeartbeats 4000000 in
theorem lawsum_any (s : ByteArray) (w : World) (hs : s.size ≤ 100000) : Calls Try.prog 10 #[.string s] w fun e w' => e = .returned (.int .u32 (sumR s : Nat)) ∧ w' = w := by
  have HE := Lib.hid (sumTo_end s)
  have HN := fun d j h hj => Lib.hid (sumTo_next s d j h hj)
  have HL := sumTo_lt s
  have HZ := Lib.hid (sumTo_zero s)
  generalize sumTo s = P at *
  generalize sumR s = R at *
  obtain ⟨d, hd⟩ : ∃ d, d = s.size - 16 := ⟨_, rfl⟩
  rw [← hd] at HE
  have hds : d ≤ s.size := by omega
  have HD := Lib.hid hd
  clear hd
  go_enter Try.func10, Try.ntmps10
  by_cases h4 : (16 : Int) < (s.size : Int)
  · go_wp2
    go_loop [3, 4] (fun x i => ∃ j : Nat, d ≤ j ∧ j ≤ s.size ∧ i = .int .i64 j ∧ x = .int .u32 (P d j : Nat)) (fun _ i => s.size - (intOf i).toNat)
    case atStart => exact ⟨d, Nat.le_refl _, hds, vint (by have := HD.out; omega), by rw [HZ.out]; rfl⟩
    case round =>
      obtain ⟨j, hdj, hj, rfl, rfl⟩ := hrel
      by_cases hlt : j < s.size
      · have hm := HL d j
        have HS := HN d j hdj hlt
        have hbt := s[j].toNat_lt
        generalize P d j = M at *
        go_wp2
        go_round
        case rel => exact ⟨j + 1, by omega, by omega, by go_num, vint (by rw [HS.out]; (try simp only [IntKind.wrap_u32]); omega)⟩
        case measure => simp [intOf]; omega
      · obtain rfl : j = s.size := by omega
        go_wp2
        go_ret
        exact ⟨rint (by rw [HE.out]), rfl⟩
  · obtain rfl : d = 0 := by have := HD.out; omega
    go_wp2
    go_loop [3, 4] (fun x i => ∃ j : Nat, j ≤ s.size ∧ i = .int .i64 j ∧ x = .int .u32 (P 0 j : Nat)) (fun _ i => s.size - (intOf i).toNat)
    case atStart => exact ⟨0, Nat.zero_le _, rfl, by rw [HZ.out]; rfl⟩
    case round =>
      obtain ⟨j, hj, rfl, rfl⟩ := hrel
      by_cases hlt : j < s.size
      · have hm := HL 0 j
        have HS := HN 0 j (Nat.zero_le _) hlt
        have hbt := s[j].toNat_lt
        generalize P 0 j = M at *
        go_wp2
        go_round
        case rel => exact ⟨j + 1, by omega, by go_num, vint (by rw [HS.out]; (try simp only [IntKind.wrap_u32]); omega)⟩
        case measure => simp [intOf]; omega
      · obtain rfl : j = s.size := by omega
        go_wp2
        go_ret
        exact ⟨rint (by rw [HE.out]), rfl⟩
theorem ext_data (s : ByteArray) (d : Nat) (hd : d ≤ s.size) : (s.extract d s.size).data.toList = s.data.toList.drop d := by
  rw [ByteArray.data_extract, Array.toList_extract, List.extract_eq_take_drop, List.take_of_length_le (by simp)]
theorem ext_get (s : ByteArray) (d j : Nat) (hj : j < (s.extract d s.size).size) (h2 : d + j < s.size) : (s.extract d s.size)[j] = s[d + j] := by
  rw [ByteArray.getElem_extract]
theorem ext_zero (s : ByteArray) : s.extract 0 s.size = s := by
  apply ByteArray.ext
  rw [ByteArray.data_extract]
  exact Array.extract_size
set_option maxHeartbeats 4000000 in
theorem sum_any (s : ByteArray) (w : World) (hs : s.size ≤ 100000) : Calls Try.prog 9 #[.string s] w fun e w' => e = .returned (.int .u32 (sumR s : Nat)) ∧ Below w.heap.size w w' := by
  obtain ⟨d, hd⟩ : ∃ d, d = s.size - 16 := ⟨_, rfl⟩
  obtain ⟨T, hT⟩ : ∃ T, T = s.extract d s.size := ⟨_, rfl⟩
  have hts : T.size = s.size - d := by rw [hT, ByteArray.size_extract]; omega
  have hse : sumR s = sumTo T 0 T.size := by
    unfold sumTo sumR
    rw [← hd, ← ext_data s d (by omega), ← hT, List.drop_zero, Nat.sub_zero, List.take_of_length_le (by simp)]
  have HE := Lib.hid hse
  have HN := fun j hj => Lib.hid (sumTo_next T 0 j (Nat.zero_le _) hj)
  have HL := sumTo_lt T 0
  have HZ := Lib.hid (sumTo_zero T 0)
  generalize sumTo T 0 = P at *
  generalize sumR s = R at *
  obtain ⟨cap, w1, hcv, hc, hb⟩ := bytes_conv (P := Try.prog) w 9 38 5 T Try.underlying9 Try.underlying38 Try.underlying5
  have HC := Lib.hid hc; have HB := Lib.hid hb; have HD := Lib.hid hd; have HT := Lib.hid hT
  clear hc hb hse
  rw [show (Value.string T) = .string (s.extract d s.size) by rw [hT]] at hcv
  have hds : d ≤ s.size := by omega
  have hTl : T.size ≤ 100000 := by omega
  by_cases h4 : (16 : Int) < (s.size : Int)
  · have h5 : ((s.size : Int) - 16).toNat = d := by omega
    clear hd hT hts
    go_enter Try.func9, Try.ntmps9
    go_wp2
    go_loop [3, 14] (fun x i => ∃ j : Nat, j ≤ T.size ∧ i = .int .i64 j ∧ x = .int .u32 (P j : Nat)) (fun _ i => T.size - (intOf i).toNat)
    case atStart => exact ⟨0, Nat.zero_le _, rfl, by rw [HZ.out]; rfl⟩
    case round =>
      obtain ⟨j, hj, rfl, rfl⟩ := hrel
      by_cases hlt : j < T.size
      · have hm := HL j
        have HS := HN j hlt
        have hbt := T[j].toNat_lt
        have hc := HC.out j hlt
        generalize P j = M at *
        go_wp2
        go_round
        case rel => exact ⟨j + 1, by omega, by go_num, vint (by rw [HS.out]; (try simp only [IntKind.wrap_u32]); omega)⟩
        case measure => simp [intOf]; omega
      · obtain rfl : j = T.size := by omega
        go_wp2
        go_ret
        exact ⟨rint (by rw [HE.out]), HB.out⟩
  · obtain rfl : d = 0 := by omega
    rw [ext_zero] at hcv
    clear hd hT hts
    go_enter Try.func9, Try.ntmps9
    go_wp2
    go_loop [3, 14] (fun x i => ∃ j : Nat, j ≤ T.size ∧ i = .int .i64 j ∧ x = .int .u32 (P j : Nat)) (fun _ i => T.size - (intOf i).toNat)
    case atStart => exact ⟨0, Nat.zero_le _, rfl, by rw [HZ.out]; rfl⟩
    case round =>
      obtain ⟨j, hj, rfl, rfl⟩ := hrel
      by_cases hlt : j < T.size
      · have hm := HL j
        have HS := HN j hlt
        have hbt := T[j].toNat_lt
        have hc := HC.out j hlt
        generalize P j = M at *
        go_wp2
        go_round
        case rel => exact ⟨j + 1, by omega, by go_num, vint (by rw [HS.out]; (try simp only [IntKind.wrap_u32]); omega)⟩
        case measure => simp [intOf]; omega
      · obtain rfl : j = T.size := by omega
        go_wp2
        go_ret
        exact ⟨rint (by rw [HE.out]), HB.out⟩
end Go.Proofs.Ytmjcbkjihdbhoaa

