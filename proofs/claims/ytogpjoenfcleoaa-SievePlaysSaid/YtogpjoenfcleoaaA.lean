/-
  Where a text's marks stand; the contract of the law's own mark.
-/
import Derived.Test.YtogpjoenfcleoaaCrcA
import Derived.Test.YtogpjoenfcleoaaRows2
set_option linter.unusedVariables false
set_option linter.unusedSimpArgs false
namespace Go.Proofs.Ytogpjoenfcleoaa
open Go.RowKit
def mk (s : ByteArray) (k bits : Nat) : Nat := crc k s.data.toList % bits
theorem mk_lt (s : ByteArray) (k : Nat) {bits : Nat} (h : 1 ≤ bits) : mk s k bits < bits := Nat.mod_lt _ (by omega)
theorem mark_any (s : ByteArray) (k bits : Nat) (w : World) (hs : s.size ≤ 9223372036854775807) (hk : k ≤ 16) (h1 : 1 ≤ bits) (h2 : bits ≤ 4096) : Calls Try.prog 7 #[.string s, .int .i64 k, .int .i64 bits] w fun e w' => e = .returned (.int .i64 (mk s k bits : Nat)) ∧ w = w' := by
  have hml := mk_lt s k h1
  have T : Hid (∀ w, Calls Try.prog 12 #[.int .u32 (k : Int), .string s] w fun e w' => e = .returned (.int .u32 (crc k s.data.toList : Nat)) ∧ w = w') := Lib.hid (fun w => crc_radd k s w (by omega) hs)
  have hc := crc_lt (x := k) (by omega) s.data.toList
  unfold mk at hml ⊢
  obtain ⟨C, hC⟩ : ∃ C, C = crc k s.data.toList := ⟨_, rfl⟩
  rw [← hC] at T hc hml ⊢
  obtain ⟨q, hq⟩ : ∃ q, q = C % bits := ⟨_, rfl⟩
  rw [← hq] at hml ⊢
  have t1 : Int.tmod (C : Int) (bits : Int) = (q : Int) := by rw [Int.tmod_eq_emod_of_nonneg (by omega), hq]; exact (Int.natCast_emod C bits).symm
  have d1 : ¬ (bits : Int) = 0 := by omega
  have b1 : ((bits : Int) == 0) = false := by simp only [beq_eq_false_iff_ne, ne_eq]; exact d1
  have u1 : (k : Int) % 4294967296 = (k : Int) := by omega
  have u2 : (bits : Int) % 4294967296 = (bits : Int) := by omega
  have u3 : (q : Int) % 4294967296 = (q : Int) := by omega
  clear hC hq
  go_enter Try.func7, Try.ntmps7
  go_wp2_with fail
  refine (T.out _).mono ?_
  rintro e w1 ⟨rfl, rfl⟩
  go_wp2
  go_ret
  exact ⟨rfl, rfl⟩
end Go.Proofs.Ytogpjoenfcleoaa

