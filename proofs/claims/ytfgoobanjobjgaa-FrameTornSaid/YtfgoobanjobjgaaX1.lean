/-
  The contracts of frame's sum and of the law's own sum: four bytes, the lowest first.
-/
import Derived.Test.YtfgoobanjobjgaaK
import Derived.Test.YtfgoobanjobjgaaCrcA
set_option linter.unusedVariables false
set_option linter.unusedSimpArgs false
namespace Go.Proofs.Ytfgoobanjobjgaa
open Go.RowKit
def le4 (n : Nat) : List Nat := [n % 256, n / 256 % 256, n / 65536 % 256, n / 16777216 % 256]
def sumB (s : ByteArray) : ByteArray := txt (le4 (crc 0 s.data.toList))
theorem sumB_size (s : ByteArray) : (sumB s).size = 4 := by unfold sumB; rw [txt_size]; rfl
theorem conv_row (w : World) (g n c : Nat) (l : List Nat) (hn : n = l.length) (hc : ∀ i, i < l.length → w.cell? ⟨g, i, none⟩ = some (.int .u8 (l.getD i 0 : Nat))) : (convert 53 9 (.slice (some ⟨g, 0, none⟩) n c)).run Try.prog w = .ok (.string (txt l)) w := by
  subst hn
  have := run_convert_bytes_arg (P := Try.prog) w 53 5 Try.underlying53 Try.underlying5 g 0 l.length c (l.map fun (b : Nat) => (b : Int)) (by simp) (fun i hi => by
    rw [Nat.zero_add, hc i hi]
    simp [List.getD_eq_getElem?_getD, hi]) 9 Try.underlying9
  rw [this]
  congr 2
  apply ByteArray.ext
  simp [strOfNums, txt, Function.comp_def]
theorem conv_four (w : World) (E : TypeId) (a b c d : Nat) (x y z v : Int) (cap : Nat) (h1 : x = a) (h2 : y = b) (h3 : z = c) (h4 : v = d) : (convert 53 9 (.slice (some ⟨w.heap.size, 0, none⟩) 4 cap)).run Try.prog (w.alloc (.cells #[.int .u8 x, .int .u8 y, .int .u8 z, .int .u8 v] E)) = .ok (.string (txt [a, b, c, d])) (w.alloc (.cells #[.int .u8 x, .int .u8 y, .int .u8 z, .int .u8 v] E)) := by
  subst h1 h2 h3 h4
  refine conv_row _ _ 4 cap [a, b, c, d] rfl (fun i hi => ?_)
  rw [cell_new]
  match i, hi with
  | 0, _ => rfl
  | 1, _ => rfl
  | 2, _ => rfl
  | 3, _ => rfl
  | i + 4, h => simp at h; omega
theorem rsum_any (s : ByteArray) (w : World) (hs : s.size ≤ 1099511627776) : Calls Try.prog 16 #[.string s] w fun e w' => e = .returned (.string (sumB s)) ∧ Below w.heap.size w w' := by
  obtain ⟨n, hn⟩ : ∃ n, n = crc 0 s.data.toList := ⟨_, rfl⟩
  have hl : n < 4294967296 := by rw [hn]; exact crc_lt (by omega) _
  have HV : Hid (sumB s = txt (le4 n)) := Lib.hid (by rw [hn]; rfl)
  have HN := Lib.hid hn
  clear hn
  go_enter Try.func16, Try.ntmps16
  go_wp2_with fail
  refine (crc_rsum s _ (by omega)).mono ?_
  rintro e w1 ⟨rfl, rfl⟩
  rw [← HN.out]
  have hcv := conv_four w 5 (n % 256) (n / 256 % 256) (n / 65536 % 256) (n / 16777216 % 256) ((n : Int) % 256) ((n : Int) / 256 % 256) ((n : Int) / 65536 % 256) ((n : Int) / 16777216) 4 (by omega) (by omega) (by omega) (by omega)
  go_wp2
  go_ret
  exact ⟨by rw [HV.out]; rfl, below_new _ _⟩
theorem fsum_any (s : ByteArray) (w : World) (hs : s.size ≤ 1099511627776) : Calls Try.prog 14 #[.string s] w fun e w' => e = .returned (.string (sumB s)) ∧ Below w.heap.size w w' := by
  obtain ⟨n, hn⟩ : ∃ n, n = crc 0 s.data.toList := ⟨_, rfl⟩
  have hl : n < 4294967296 := by rw [hn]; exact crc_lt (by omega) _
  have HV : Hid (sumB s = txt (le4 n)) := Lib.hid (by rw [hn]; rfl)
  have HN := Lib.hid hn
  clear hn
  go_enter Try.func14, Try.ntmps14
  go_wp2_with fail
  refine (crc_sum s _ (by omega)).mono ?_
  rintro e w1 ⟨rfl, hb1⟩
  rw [← HN.out]
  have HB1 := Lib.hid hb1
  clear hb1
  go_wp2
  go_loopw [8] (fun i wr => ∃ k : Nat, i = .int .i64 k ∧ k ≤ 4 ∧ wr = w1.alloc (.cells #[.int .u8 (if 0 < k then (n : Int) % 256 else 0), .int .u8 (if 1 < k then (n : Int) / 256 % 256 else 0), .int .u8 (if 2 < k then (n : Int) / 65536 % 256 else 0), .int .u8 (if 3 < k then (n : Int) / 16777216 else 0)] 52)) (fun i _ => 4 - (intOf i).toNat)
  case atStart => exact ⟨0, rfl, by omega, rfl⟩
  case round =>
    obtain ⟨k, rfl, hk, rfl⟩ := hrel
    rcases (show k = 0 ∨ k = 1 ∨ k = 2 ∨ k = 3 ∨ k = 4 by omega) with rfl | rfl | rfl | rfl | rfl
    · go_wp2
      exact ⟨⟨1, vint (by omega), by omega, by simp⟩, by simp [intOf]⟩
    · go_wp2
      exact ⟨⟨2, vint (by omega), by omega, by simp⟩, by simp [intOf]⟩
    · go_wp2
      exact ⟨⟨3, vint (by omega), by omega, by simp⟩, by simp [intOf]⟩
    · go_wp2
      exact ⟨⟨4, vint (by omega), by omega, by simp⟩, by simp [intOf]⟩
    · have hcv := conv_four w1 52 (n % 256) (n / 256 % 256) (n / 65536 % 256) (n / 16777216 % 256) ((n : Int) % 256) ((n : Int) / 256 % 256) ((n : Int) / 65536 % 256) ((n : Int) / 16777216) 4 (by omega) (by omega) (by omega) (by omega)
      go_wp2
      go_ret
      exact ⟨by rw [HV.out]; rfl, HB1.out.alloc HB1.out.size _⟩
end Go.Proofs.Ytfgoobanjobjgaa

