/-
  The contract of the law's own Num, which writes a number's bytes.
-/
import Derived.Test.YtanehgnpominiaaA
set_option linter.unusedVariables false
set_option linter.unusedSimpArgs false
set_option maxRecDepth 100000
namespace Go.Proofs.Ytanehgnpominiaa
open Go.RowKit
theorem conv_one (w : World) (x : Nat) (z : Int) (h : z = (x : Int)) : (convert 76 9 (.slice (some ⟨w.heap.size, 0, none⟩) 1 1)).run Try.prog (w.alloc (.cells #[.int .u8 z] 5)) = .ok (.string (txt [x])) (w.alloc (.cells #[.int .u8 z] 5)) := by
  subst h
  have := run_convert_bytes_arg (P := Try.prog) (w.alloc (.cells #[.int .u8 (x : Int)] 5)) 76 5 Try.underlying76 Try.underlying5 w.heap.size 0 1 1 [(x : Int)] rfl (fun i hi => by
    obtain rfl : i = 0 := by simp at hi; exact hi
    rw [cell_new]; rfl) 9 Try.underlying9
  rw [this]
  congr 2
theorem rnum_bad (n : Int) (w : World) (h : n < 0 ∨ 9007199254740992 < n) : Calls Try.prog 30 #[.int .i64 n] w fun e w' => e = numR n ∧ Below w.heap.size w w' := by
  unfold numR
  rw [numV_bad h]
  go_enter Try.func30, Try.ntmps30
  by_cases h0 : n < 0
  · go_wp2
    go_ret2
    exact ⟨rfl, Below.refl _ _⟩
  · have h1 : 9007199254740992 < n := by omega
    go_wp2
    go_ret2
    exact ⟨rfl, Below.refl _ _⟩
theorem rnum_nat (m : Nat) (w : World) (h : m ≤ 9007199254740992) : Calls Try.prog 30 #[.int .i64 m] w fun e w' => e = numR m ∧ Below w.heap.size w w' := by
  have d1 : decide ((m : Int) < 0) = false := decide_eq_false (by omega)
  have d2 : decide ((9007199254740992 : Int) < (m : Int)) = false := decide_eq_false (by omega)
  obtain ⟨R, hR⟩ : ∃ R, R = nb m := ⟨_, rfl⟩
  have hRl : R.length ≤ 8 := by rw [hR]; exact nb_len8 h
  rw [num_ok h hR.symm]
  go_enter Try.func30, Try.ntmps30
  go_wp2
  go_loopw [0, 4] (fun n s wr => ∃ (k : Nat) (bs : List Nat), n = .int .i64 k ∧ s = .string (txt bs) ∧ bs ++ nb k = R ∧ k ≤ m ∧ Below w.heap.size w wr) (fun n _ _ => (intOf n).toNat)
  case atStart => exact ⟨m, [], rfl, rfl, hR.symm, Nat.le_refl _, Below.refl _ _⟩
  case round =>
    obtain ⟨k, bs, rfl, rfl, hk, hkm, hb⟩ := hrel
    have HK := Lib.hid hk
    have HB := Lib.hid hb
    clear hk hb hR
    have hrm : Int.tmod (k : Int) 128 = (k : Int) % 128 := by rw [Int.tmod_eq_emod_of_nonneg (by omega)]
    have hs1 : (txt bs).size ≤ 8 := by have h2 := congrArg List.length HK.out; rw [List.length_append] at h2; rw [txt_size]; omega
    have hrq : Int.tdiv (k : Int) 128 = (k : Int) / 128 := by rw [Int.tdiv_eq_ediv_of_nonneg (by omega)]
    by_cases hp : 128 ≤ k
    · have d3 : decide ((128 : Int) ≤ (k : Int)) = true := decide_eq_true (by omega)
      have hcv := conv_one wr (k % 128 + 128) ((k : Int) % 128 + 128) (by omega)
      have hs2 : (txt [k % 128 + 128]).size = 1 := txt_size _
      go_wp2
      refine ⟨⟨k / 128, bs ++ [k % 128 + 128], vint (by omega), by rw [txt_app], by rw [List.append_assoc, ← HK.out, nb_ge hp]; rfl, by omega, HB.out.alloc HB.out.size _⟩, by simp [intOf]; omega⟩
    · have d3 : decide ((128 : Int) ≤ (k : Int)) = false := decide_eq_false (by omega)
      have w2 : (k : Int) % 256 = ((k : Nat) : Int) := by omega
      have hcv := conv_one wr k (k : Int) rfl
      have hs2 : (txt [k]).size = 1 := txt_size _
      go_wp2
      go_ret2
      refine ⟨?_, HB.out.alloc HB.out.size _⟩
      rw [← HK.out, nb_lt (by omega), txt_app]; rfl
theorem num_any (n : Int) (w : World) : Calls Try.prog 28 #[.int .i64 n] w fun e w' => e = numR n ∧ Below w.heap.size w w' := by
  by_cases h : n < 0 ∨ 9007199254740992 < n
  · exact num_bad n w h
  · obtain ⟨m, rfl⟩ : ∃ m : Nat, n = m := ⟨n.toNat, by omega⟩
    exact num_nat m w (by omega)
theorem rnum_any (n : Int) (w : World) : Calls Try.prog 30 #[.int .i64 n] w fun e w' => e = numR n ∧ Below w.heap.size w w' := by
  by_cases h : n < 0 ∨ 9007199254740992 < n
  · exact rnum_bad n w h
  · obtain ⟨m, rfl⟩ : ∃ m : Nat, n = m := ⟨n.toNat, by omega⟩
    exact rnum_nat m w (by omega)
end Go.Proofs.Ytanehgnpominiaa

