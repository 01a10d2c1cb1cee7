/-
  The contract of size.number.
-/
import Derived.Test.YtlkemdcmlljfgaaBase2
import Derived.Test.YtlkemdcmlljfgaaProg
set_option linter.unusedVariables false
set_option linter.unusedSimpArgs false
namespace Go.Proofs.Ytlkemdcmlljfgaa
open Go.RowKit
/-- A number in decimal. -/
def natDec (n : Nat) : List UInt8 := if n < 10 then [UInt8.ofNat (48 + n)] else natDec (n / 10) ++ [UInt8.ofNat (48 + n % 10)]
  termination_by n
def str (l : List UInt8) : ByteArray := ⟨l.toArray⟩
theorem conv1 (w : World) (x : Int) : (convert 34 9 (.slice (some ⟨w.heap.size, 0, none⟩) 1 1)).run Try.prog (w.alloc (.cells #[.int .u8 x] 5)) = .ok (.string (strOfNums [x])) (w.alloc (.cells #[.int .u8 x] 5)) :=
  run_convert_bytes_arg (P := Try.prog) _ 34 5 Try.underlying34 Try.underlying5 w.heap.size 0 1 1 [x] rfl (fun i hi => by
    have : i = 0 := by omega
    subst this
    rw [cell_new]; rfl) 9 Try.underlying9
theorem natDec_small {d : Nat} (h : d < 10) : natDec d = [UInt8.ofNat (48 + d)] := by unfold natDec; rw [if_pos h]
theorem natDec_big {d : Nat} (h : ¬ d < 10) : natDec d = natDec (d / 10) ++ [UInt8.ofNat (48 + d % 10)] := by rw [natDec, if_neg h]
theorem str_app (a b : List UInt8) : str a ++ str b = str (a ++ b) := by
  apply ByteArray.ext
  simp [str, ByteArray.data_append]
/-- A number in decimal, with its sign. -/
def dec (n : Int) : List UInt8 := if n < 0 then 45 :: natDec (-n).toNat else natDec n.toNat
theorem dec_nat {n : Int} (h : 0 ≤ n) : dec n = natDec n.toNat := by unfold dec; rw [if_neg (by omega)]
theorem dec_neg {n : Int} (h : n < 0) : dec n = 45 :: natDec (-n).toNat := by unfold dec; rw [if_pos h]
theorem dec_small {d : Int} (h0 : 0 ≤ d) (h : d < 10) : dec d = [UInt8.ofNat (48 + d).toNat] := by
  rw [dec_nat h0, natDec_small (by omega)]
  have : (48 + d).toNat = 48 + d.toNat := by omega
  rw [this]
theorem dec_big {d : Int} (h : 10 ≤ d) : dec d = dec (d / 10) ++ dec (d % 10) := by
  rw [dec_nat (by omega), natDec_big (by omega), dec_nat (show 0 ≤ d / 10 by omega), dec_small (show 0 ≤ d % 10 by omega) (by omega)]
  have h1 : (d / 10).toNat = d.toNat / 10 := by omega
  have h2 : (48 + d % 10).toNat = 48 + d.toNat % 10 := by omega
  rw [h1, h2]
theorem natDec_len (k : Nat) : ∀ n, n < 10 ^ k → 1 ≤ k → (natDec n).length ≤ k := by
  induction k with
  | zero => intro n _ h; omega
  | succ k ih =>
    intro n h _
    by_cases h2 : n < 10
    · rw [natDec_small h2]; simp
    · rw [natDec_big h2, List.length_append]
      rw [Nat.pow_succ] at h
      have hk : 1 ≤ k := by
        cases k with
        | zero => simp at h; omega
        | succ k => omega
      have := ih (n / 10) (by omega) hk
      simp; omega
theorem dec_len {n : Int} (h0 : -9223372036854775808 ≤ n) (h : n ≤ 9223372036854775808) : (str (dec n)).size ≤ 20 := by
  have e : ∀ l, (str l).size = l.length := fun l => by simp [str, ByteArray.size]
  rw [e]
  unfold dec
  split
  · have := natDec_len 19 (-n).toNat (by omega) (by omega)
    simp; omega
  · have := natDec_len 19 n.toNat (by omega) (by omega)
    omega
theorem str1 {d : Int} (h0 : 0 ≤ d) (h : d < 10) : strOfNums [48 + d] = str (dec d) := by
  rw [dec_small h0 h]
  apply ByteArray.ext
  simp [strOfNums, str]
set_option maxHeartbeats 1000000 in
theorem number_small (d : Int) (h0 : 0 ≤ d) (h : d < 10) (w : World) : Calls Try.prog 7 #[.int .i64 d] w fun e w' => e = .returned (.string (str (dec d))) ∧ Below w.heap.size w w' := by
  have c1 : decide (0 ≤ d) = true := decide_eq_true h0
  have c2 : decide (d < 10) = true := decide_eq_true h
  have hc := conv1 w (48 + d)
  go_enter Try.func7, Try.ntmps7
  go_wp2
  go_ret
  exact ⟨rstr (str1 h0 h), below_new _ _⟩
set_option maxHeartbeats 1000000 in
theorem number_nat (m : Nat) : ∀ (n : Int) (_ : n.toNat = m) (_ : 0 ≤ n) (_ : n ≤ 9223372036854775807) (w : World), Calls Try.prog 7 #[.int .i64 n] w fun e w' => e = .returned (.string (str (dec n))) ∧ Below w.heap.size w w' := by
  induction m using Nat.strongRecOn with
  | _ m ih =>
    intro n hm h0 hn w
    by_cases h : n < 10
    · exact number_small n h0 h w
    · have c1 : decide (0 ≤ n) = true := decide_eq_true h0
      have c2 : decide (n < 10) = false := decide_eq_false h
      have c3 : decide (n < 0) = false := decide_eq_false (by omega)
      have IH := Lib.hid (ih (n / 10).toNat (by omega) (n / 10) rfl (by omega) (by omega))
      have HD := Lib.hid (dec_big (show 10 ≤ n by omega))
      have hs1 : (str (dec (n / 10))).size ≤ 20 := dec_len (by omega) (by omega)
      have hs2 : (str (dec (n % 10))).size ≤ 20 := dec_len (by omega) (by omega)
      clear ih
      go_enter Try.func7, Try.ntmps7
      go_wp2_with fail
      refine (IH.out _).mono ?_
      rintro e w1 ⟨rfl, hb1⟩
      go_wp2_with fail
      refine (number_small (n % 10) (by omega) (by omega) _).mono ?_
      rintro e w2 ⟨rfl, hb2⟩
      go_wp2_with fail
      go_ret
      exact ⟨rstr (by rw [str_app, HD.out]), below_cons hb1 hb2⟩
theorem size_str (l : List UInt8) : (str l).size = l.length := by simp [str, ByteArray.size]
end Go.Proofs.Ytlkemdcmlljfgaa
