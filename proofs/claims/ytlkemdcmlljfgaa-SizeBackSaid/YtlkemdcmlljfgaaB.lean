/-
  The contract of size.Put.
-/
import Derived.Test.YtlkemdcmlljfgaaA
import Derived.WalkMore
import Derived.ScopeJumps
set_option linter.unusedVariables false
set_option linter.unusedSimpArgs false
namespace Go.Proofs.Ytlkemdcmlljfgaa
open Go.RowKit
/-- A number without as many factors of 1024 as it has, five at most; and how many. -/
def norm : Nat → Int → Nat → Int × Nat
  | 0, n, k => (n, k)
  | f + 1, n, k => if 0 < n ∧ n % 1024 = 0 then norm f (n / 1024) (k + 1) else (n, k)
def sufx : Nat → List UInt8
  | 0 => []
  | 1 => [107]
  | 2 => [109]
  | 3 => [103]
  | 4 => [116]
  | _ => [112]
def putS (m : Int) : ByteArray := str (dec (norm 5 m 0).1 ++ sufx (norm 5 m 0).2)
theorem norm_pos {f : Nat} {n : Int} {k : Nat} (h : 0 < n ∧ n % 1024 = 0) : norm (f + 1) n k = norm f (n / 1024) (k + 1) := by rw [norm, if_pos h]
theorem norm_neg {f : Nat} {n : Int} {k : Nat} (h : ¬ (0 < n ∧ n % 1024 = 0)) : norm f n k = (n, k) := by
  cases f with
  | zero => rfl
  | succ f => rw [norm, if_neg h]
theorem put_bad (m : Int) (w : World) (h : m < 0) : Calls Try.prog 4 #[.int .i64 m] w fun e w' => e = .returned (.tuple #[.string ⟨#[]⟩, .int .i64 2]) ∧ w' = w := by
  have d1 : decide (m < 0) = true := decide_eq_true h
  go_enter Try.func4, Try.ntmps4
  go_wp2
  go_step3
  go_wp2
  (try rw [Exit.noGoto_ret])
  go_ret2
  exact ⟨rfl, rfl⟩
set_option maxHeartbeats 8000000 in
theorem put_any (m : Int) (w : World) (h : 0 ≤ m) (h2 : m ≤ 9007199254740992) : Calls Try.prog 4 #[.int .i64 m] w fun e w' => e = .returned (.tuple #[.string (putS m), .int .i64 0]) ∧ Below w.heap.size w w' := by
  have d1 : decide (m < 0) = false := decide_eq_false (by omega)
  have d2 : decide (9007199254740992 < m) = false := decide_eq_false (by omega)
  obtain ⟨R, hR⟩ : ∃ R, R = norm 5 m 0 := ⟨_, rfl⟩
  have HR := Lib.hid hR
  have HP : Hid (putS m = str (dec R.1 ++ sufx R.2)) := Lib.hid (by rw [hR]; rfl)
  clear hR
  go_enter Try.func4, Try.ntmps4
  go_wp2
  refine wp_scope_jumps 0 (fun a' w' => w' = w ∧ ∃ (n : Int) (k : Nat) (u6 u7 u8 u9 u10 u11 u12 u13 u14 u15 u16 u17 u18 u19 u20 u21 u22 u23 u24 u25 u26 : Value), a' = { tmps := #[.int .i64 n, undef, .string ⟨#[]⟩, .int .i64 0, .int .i64 (k : Int), undef, u6, u7, u8, u9, u10, u11, u12, u13, u14, u15, u16, u17, u18, u19, u20, u21, u22, u23, u24, u25, u26, undef, undef, undef, undef, undef, undef, undef, undef, undef, undef, undef], defers := [] } ∧ R = norm (5 - k) n k ∧ k ≤ 5 ∧ 0 ≤ n ∧ n ≤ 9007199254740992) (fun a' _ => 5 - (intOf (a'.tmps.getD 4 undef)).toNat) rfl ?_ ?_
  · go_wp2
    go_step3
    by_cases hp : 0 < m
    · have d3 : decide (0 < m) = true := decide_eq_true hp
      by_cases hz : m % 1024 = 0
      · have e1 : (m % 1024 == 0) = true := by simp [hz]
        go_wp2
        go_step3
        refine ⟨rfl, rfl, m / 1024, 1, _, _, _, _, _, _, _, _, _, _, _, _, _, _, _, _, _, _, _, _, _, rfl, ?_, by omega, by omega, by omega⟩
        rw [HR.out, norm_pos ⟨hp, hz⟩]
      · have e1 : (m % 1024 == 0) = false := by simp [hz]
        have HRK := Lib.hid ((norm_neg (f := 5) (n := m) (k := 0) (by omega)))
        have hs1 : (str (dec m)).size ≤ 20 := dec_len (by omega) (by omega)
        go_wp2_with fail
        refine (number_nat _ m rfl (by omega) (by omega) _).mono ?_
        rintro e w1 ⟨rfl, hb1⟩
        go_wp2_with fail
        (try simp only [Exit.jump])
        (try rw [Exit.noGoto_ret])
        go_ret2
        refine ⟨?_, hb1⟩
        rw [HP.out, HR.out, HRK.out]
        simp [sufx]
    · have d3 : decide (0 < m) = false := decide_eq_false hp
      have HRK := Lib.hid ((norm_neg (f := 5) (n := m) (k := 0) (by omega)))
      have hs1 : (str (dec m)).size ≤ 20 := dec_len (by omega) (by omega)
      go_wp2_with fail
      refine (number_nat _ m rfl (by omega) (by omega) _).mono ?_
      rintro e w1 ⟨rfl, hb1⟩
      go_wp2_with fail
      (try simp only [Exit.jump])
      (try rw [Exit.noGoto_ret])
      go_ret2
      refine ⟨?_, hb1⟩
      rw [HP.out, HR.out, HRK.out]
      simp [sufx]
  · rintro a' w' ⟨rfl, n, k, u6, u7, u8, u9, u10, u11, u12, u13, u14, u15, u16, u17, u18, u19, u20, u21, u22, u23, u24, u25, u26, rfl, hRn, hk5, hn0, hn1⟩
    have hkc : k = 0 ∨ k = 1 ∨ k = 2 ∨ k = 3 ∨ k = 4 ∨ k = 5 := by omega
    rcases hkc with rfl | rfl | rfl | rfl | rfl | rfl
    · by_cases hp : 0 < n
      · have d3 : decide (0 < n) = true := decide_eq_true hp
        by_cases hz : n % 1024 = 0
        · have e1 : (n % 1024 == 0) = true := by simp [hz]
          go_wp2
          go_step3
          refine ⟨rfl, ⟨rfl, n / 1024, 1, _, _, _, _, _, _, _, _, _, _, _, _, _, _, _, _, _, _, _, _, _, rfl, ?_, by omega, by omega, by omega⟩, ?_⟩
          · rw [hRn, norm_pos ⟨hp, hz⟩]
          · simp [intOf]
        · have e1 : (n % 1024 == 0) = false := by simp [hz]
          have HRK := Lib.hid ((hRn.trans (norm_neg (by omega))))
          have hs1 : (str (dec n)).size ≤ 20 := dec_len (by omega) (by omega)
          go_wp2_with fail
          refine (number_nat _ n rfl (by omega) (by omega) _).mono ?_
          rintro e w1 ⟨rfl, hb1⟩
          go_wp2_with fail
          (try simp only [Exit.jump])
          (try rw [Exit.noGoto_ret])
          go_ret2
          refine ⟨?_, hb1⟩
          rw [HP.out,  HRK.out]
          simp [sufx]
      · have d3 : decide (0 < n) = false := decide_eq_false hp
        have HRK := Lib.hid ((hRn.trans (norm_neg (by omega))))
        have hs1 : (str (dec n)).size ≤ 20 := dec_len (by omega) (by omega)
        go_wp2_with fail
        refine (number_nat _ n rfl (by omega) (by omega) _).mono ?_
        rintro e w1 ⟨rfl, hb1⟩
        go_wp2_with fail
        (try simp only [Exit.jump])
        (try rw [Exit.noGoto_ret])
        go_ret2
        refine ⟨?_, hb1⟩
        rw [HP.out,  HRK.out]
        simp [sufx]
    · by_cases hp : 0 < n
      · have d3 : decide (0 < n) = true := decide_eq_true hp
        by_cases hz : n % 1024 = 0
        · have e1 : (n % 1024 == 0) = true := by simp [hz]
          go_wp2
          go_step3
          refine ⟨rfl, ⟨rfl, n / 1024, 2, _, _, _, _, _, _, _, _, _, _, _, _, _, _, _, _, _, _, _, _, _, rfl, ?_, by omega, by omega, by omega⟩, ?_⟩
          · rw [hRn, norm_pos ⟨hp, hz⟩]
          · simp [intOf]
        · have e1 : (n % 1024 == 0) = false := by simp [hz]
          have HRK := Lib.hid ((hRn.trans (norm_neg (by omega))))
          have hs1 : (str (dec n)).size ≤ 20 := dec_len (by omega) (by omega)
          go_wp2_with fail
          refine (number_nat _ n rfl (by omega) (by omega) _).mono ?_
          rintro e w1 ⟨rfl, hb1⟩
          go_wp2_with fail
          (try simp only [Exit.jump])
          (try rw [Exit.noGoto_ret])
          go_ret2
          refine ⟨?_, hb1⟩
          rw [HP.out,  HRK.out]
          rw [show sufx 1 = [107] from rfl, ← str_app]; rfl
      · have d3 : decide (0 < n) = false := decide_eq_false hp
        have HRK := Lib.hid ((hRn.trans (norm_neg (by omega))))
        have hs1 : (str (dec n)).size ≤ 20 := dec_len (by omega) (by omega)
        go_wp2_with fail
        refine (number_nat _ n rfl (by omega) (by omega) _).mono ?_
        rintro e w1 ⟨rfl, hb1⟩
        go_wp2_with fail
        (try simp only [Exit.jump])
        (try rw [Exit.noGoto_ret])
        go_ret2
        refine ⟨?_, hb1⟩
        rw [HP.out,  HRK.out]
        rw [show sufx 1 = [107] from rfl, ← str_app]; rfl
    · by_cases hp : 0 < n
      · have d3 : decide (0 < n) = true := decide_eq_true hp
        by_cases hz : n % 1024 = 0
        · have e1 : (n % 1024 == 0) = true := by simp [hz]
          go_wp2
          go_step3
          refine ⟨rfl, ⟨rfl, n / 1024, 3, _, _, _, _, _, _, _, _, _, _, _, _, _, _, _, _, _, _, _, _, _, rfl, ?_, by omega, by omega, by omega⟩, ?_⟩
          · rw [hRn, norm_pos ⟨hp, hz⟩]
          · simp [intOf]
        · have e1 : (n % 1024 == 0) = false := by simp [hz]
          have HRK := Lib.hid ((hRn.trans (norm_neg (by omega))))
          have hs1 : (str (dec n)).size ≤ 20 := dec_len (by omega) (by omega)
          go_wp2_with fail
          refine (number_nat _ n rfl (by omega) (by omega) _).mono ?_
          rintro e w1 ⟨rfl, hb1⟩
          go_wp2_with fail
          (try simp only [Exit.jump])
          (try rw [Exit.noGoto_ret])
          go_ret2
          refine ⟨?_, hb1⟩
          rw [HP.out,  HRK.out]
          rw [show sufx 2 = [109] from rfl, ← str_app]; rfl
      · have d3 : decide (0 < n) = false := decide_eq_false hp
        have HRK := Lib.hid ((hRn.trans (norm_neg (by omega))))
        have hs1 : (str (dec n)).size ≤ 20 := dec_len (by omega) (by omega)
        go_wp2_with fail
        refine (number_nat _ n rfl (by omega) (by omega) _).mono ?_
        rintro e w1 ⟨rfl, hb1⟩
        go_wp2_with fail
        (try simp only [Exit.jump])
        (try rw [Exit.noGoto_ret])
        go_ret2
        refine ⟨?_, hb1⟩
        rw [HP.out,  HRK.out]
        rw [show sufx 2 = [109] from rfl, ← str_app]; rfl
    · by_cases hp : 0 < n
      · have d3 : decide (0 < n) = true := decide_eq_true hp
        by_cases hz : n % 1024 = 0
        · have e1 : (n % 1024 == 0) = true := by simp [hz]
          go_wp2
          go_step3
          refine ⟨rfl, ⟨rfl, n / 1024, 4, _, _, _, _, _, _, _, _, _, _, _, _, _, _, _, _, _, _, _, _, _, rfl, ?_, by omega, by omega, by omega⟩, ?_⟩
          · rw [hRn, norm_pos ⟨hp, hz⟩]
          · simp [intOf]
        · have e1 : (n % 1024 == 0) = false := by simp [hz]
          have HRK := Lib.hid ((hRn.trans (norm_neg (by omega))))
          have hs1 : (str (dec n)).size ≤ 20 := dec_len (by omega) (by omega)
          go_wp2_with fail
          refine (number_nat _ n rfl (by omega) (by omega) _).mono ?_
          rintro e w1 ⟨rfl, hb1⟩
          go_wp2_with fail
          (try simp only [Exit.jump])
          (try rw [Exit.noGoto_ret])
          go_ret2
          refine ⟨?_, hb1⟩
          rw [HP.out,  HRK.out]
          rw [show sufx 3 = [103] from rfl, ← str_app]; rfl
      · have d3 : decide (0 < n) = false := decide_eq_false hp
        have HRK := Lib.hid ((hRn.trans (norm_neg (by omega))))
        have hs1 : (str (dec n)).size ≤ 20 := dec_len (by omega) (by omega)
        go_wp2_with fail
        refine (number_nat _ n rfl (by omega) (by omega) _).mono ?_
        rintro e w1 ⟨rfl, hb1⟩
        go_wp2_with fail
        (try simp only [Exit.jump])
        (try rw [Exit.noGoto_ret])
        go_ret2
        refine ⟨?_, hb1⟩
        rw [HP.out,  HRK.out]
        rw [show sufx 3 = [103] from rfl, ← str_app]; rfl
    · by_cases hp : 0 < n
      · have d3 : decide (0 < n) = true := decide_eq_true hp
        by_cases hz : n % 1024 = 0
        · have e1 : (n % 1024 == 0) = true := by simp [hz]
          go_wp2
          go_step3
          refine ⟨rfl, ⟨rfl, n / 1024, 5, _, _, _, _, _, _, _, _, _, _, _, _, _, _, _, _, _, _, _, _, _, rfl, ?_, by omega, by omega, by omega⟩, ?_⟩
          · rw [hRn, norm_pos ⟨hp, hz⟩]
          · simp [intOf]
        · have e1 : (n % 1024 == 0) = false := by simp [hz]
          have HRK := Lib.hid ((hRn.trans (norm_neg (by omega))))
          have hs1 : (str (dec n)).size ≤ 20 := dec_len (by omega) (by omega)
          go_wp2_with fail
          refine (number_nat _ n rfl (by omega) (by omega) _).mono ?_
          rintro e w1 ⟨rfl, hb1⟩
          go_wp2_with fail
          (try simp only [Exit.jump])
          (try rw [Exit.noGoto_ret])
          go_ret2
          refine ⟨?_, hb1⟩
          rw [HP.out,  HRK.out]
          rw [show sufx 4 = [116] from rfl, ← str_app]; rfl
      · have d3 : decide (0 < n) = false := decide_eq_false hp
        have HRK := Lib.hid ((hRn.trans (norm_neg (by omega))))
        have hs1 : (str (dec n)).size ≤ 20 := dec_len (by omega) (by omega)
        go_wp2_with fail
        refine (number_nat _ n rfl (by omega) (by omega) _).mono ?_
        rintro e w1 ⟨rfl, hb1⟩
        go_wp2_with fail
        (try simp only [Exit.jump])
        (try rw [Exit.noGoto_ret])
        go_ret2
        refine ⟨?_, hb1⟩
        rw [HP.out,  HRK.out]
        rw [show sufx 4 = [116] from rfl, ← str_app]; rfl
    · by_cases hp : 0 < n
      · have d3 : decide (0 < n) = true := decide_eq_true hp
        by_cases hz : n % 1024 = 0
        · have e1 : (n % 1024 == 0) = true := by simp [hz]
          have HRK := Lib.hid (show R = (n, 5) from hRn)
          have hs1 : (str (dec n)).size ≤ 20 := dec_len (by omega) (by omega)
          go_wp2_with fail
          refine (number_nat _ n rfl (by omega) (by omega) _).mono ?_
          rintro e w1 ⟨rfl, hb1⟩
          go_wp2_with fail
          (try simp only [Exit.jump])
          (try rw [Exit.noGoto_ret])
          go_ret2
          refine ⟨?_, hb1⟩
          rw [HP.out,  HRK.out]
          rw [show sufx 5 = [112] from rfl, ← str_app]; rfl
        · have e1 : (n % 1024 == 0) = false := by simp [hz]
          have HRK := Lib.hid ((hRn.trans (norm_neg (by omega))))
          have hs1 : (str (dec n)).size ≤ 20 := dec_len (by omega) (by omega)
          go_wp2_with fail
          refine (number_nat _ n rfl (by omega) (by omega) _).mono ?_
          rintro e w1 ⟨rfl, hb1⟩
          go_wp2_with fail
          (try simp only [Exit.jump])
          (try rw [Exit.noGoto_ret])
          go_ret2
          refine ⟨?_, hb1⟩
          rw [HP.out,  HRK.out]
          rw [show sufx 5 = [112] from rfl, ← str_app]; rfl
      · have d3 : decide (0 < n) = false := decide_eq_false hp
        have HRK := Lib.hid ((hRn.trans (norm_neg (by omega))))
        have hs1 : (str (dec n)).size ≤ 20 := dec_len (by omega) (by omega)
        go_wp2_with fail
        refine (number_nat _ n rfl (by omega) (by omega) _).mono ?_
        rintro e w1 ⟨rfl, hb1⟩
        go_wp2_with fail
        (try simp only [Exit.jump])
        (try rw [Exit.noGoto_ret])
        go_ret2
        refine ⟨?_, hb1⟩
        rw [HP.out,  HRK.out]
        rw [show sufx 5 = [112] from rfl, ← str_app]; rfl
end Go.Proofs.Ytlkemdcmlljfgaa
