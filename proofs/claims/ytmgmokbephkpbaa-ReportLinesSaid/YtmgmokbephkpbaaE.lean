/-
  The contract of the law's awake, and the walk of ReportNumbers.
-/
import Derived.Test.YtmgmokbephkpbaaD
set_option linter.unusedVariables false
set_option linter.unusedSimpArgs false
namespace Go.Proofs.Ytmgmokbephkpbaa
open Go.RowKit
theorem d0 : dec 0 = [48] := by rw [dec_small (by omega) (by omega)]; rfl
theorem e1 : str (statusOf false [0, 0, 0, 0, 0, 0, (0 : Nat)]) = ⟨#[100, 111, 119, 110, 32, 48, 32, 48, 32, 48, 32, 48, 32, 48, 32, 48, 32, 48]⟩ := by
  simp only [statusOf, List.map_cons, List.map_nil, Int.ofNat_zero, Int.natCast_zero, d0]
  rfl
theorem e2 : str (dec (-120)) = ⟨#[45, 49, 50, 48]⟩ := by
  rw [dec_neg (by omega), show (-(-120 : Int)).toNat = 120 from rfl]
  simp only [natDec_big (show ¬ 120 < 10 by omega), natDec_big (show ¬ 120 / 10 < 10 by omega), natDec_small (show 120 / 10 / 10 < 10 by omega)]
  rfl
theorem nd (d q r : Nat) (h : d = q * 10 + r) (hr : r < 10) (hq : 0 < q) : natDec d = natDec q ++ [UInt8.ofNat (48 + r)] := by
  rw [natDec_big (by omega), show d / 10 = q by omega, show d % 10 = r by omega]
theorem e3 : str (dec (-9223372036854775808)) = ⟨#[45, 57, 50, 50, 51, 51, 55, 50, 48, 51, 54, 56, 53, 52, 55, 55, 53, 56, 48, 56]⟩ := by
  rw [dec_neg (by omega), show (-(-9223372036854775808 : Int)).toNat = 9223372036854775808 from rfl]
  rw [nd 9223372036854775808 922337203685477580 8 rfl (by omega) (by omega), nd 922337203685477580 92233720368547758 0 rfl (by omega) (by omega), nd 92233720368547758 9223372036854775 8 rfl (by omega) (by omega),
    nd 9223372036854775 922337203685477 5 rfl (by omega) (by omega), nd 922337203685477 92233720368547 7 rfl (by omega) (by omega), nd 92233720368547 9223372036854 7 rfl (by omega) (by omega), nd 9223372036854 922337203685 4 rfl (by omega) (by omega),
    nd 922337203685 92233720368 5 rfl (by omega) (by omega), nd 92233720368 9223372036 8 rfl (by omega) (by omega), nd 9223372036 922337203 6 rfl (by omega) (by omega), nd 922337203 92233720 3 rfl (by omega) (by omega), nd 92233720 9223372 0 rfl (by omega) (by omega),
    nd 9223372 922337 2 rfl (by omega) (by omega), nd 922337 92233 7 rfl (by omega) (by omega), nd 92233 9223 3 rfl (by omega) (by omega), nd 9223 922 3 rfl (by omega) (by omega), nd 922 92 2 rfl (by omega) (by omega), nd 92 9 2 rfl (by omega) (by omega), natDec_small (show 9 < 10 by omega)]
  rfl
theorem e4 : str (headOf ⟨#[97]⟩ ⟨#[108]⟩ 0 (0 : Nat) ++ (tagsOf [⟨#[116]⟩] ++ 32 :: (dec (0 : Nat) ++ 32 :: dec (0 : Nat)))) = ⟨#[97, 32, 48, 32, 48, 32, 108, 32, 35, 116, 32, 48, 32, 48]⟩ := by
  simp only [headOf, Int.ofNat_zero, Int.natCast_zero, d0]
  rfl
set_option maxRecDepth 100000 in
set_option maxHeartbeats 4000000 in
theorem awake_any (w : World) : Calls Try.prog 7 #[] w fun e w' => e = .returned (.bool true) ∧ Below w.heap.size w w' := by
  go_enter Try.func7, Try.ntmps7
  go_wp2_with fail
  refine (status_any false 0 0 0 0 0 0 0 0 0 0 0 0 0 0 0 0 0 0 0 0 0 none 0 0 _ (by simp) (by omega) (by omega) (by omega) (by omega) (by omega) (by omega)).mono ?_
  rintro e w1 ⟨rfl, hb1⟩
  have HB1 := Lib.hid hb1; clear hb1
  rw [show ([0, 0, 0, 0, 0, 0, 0, 0, 0, 0, 0, 0, 0, 0, 0, 0] : List Int).sum = 0 by simp, e1]
  go_wp2_with fail
  refine (number_any (-120) (by omega) (by omega) _).mono ?_
  rintro e w2 ⟨rfl, hb2⟩
  have HB2 := Lib.hid (below_cons HB1.out hb2); clear hb2
  rw [e2]
  go_wp2_with fail
  refine (number_any (-9223372036854775808) (by omega) (by omega) _).mono ?_
  rintro e w3 ⟨rfl, hb3⟩
  have HB3 := Lib.hid (below_cons HB2.out hb3); clear hb3
  rw [e3]
  go_wp2_with fail
  refine (entry_any ⟨#[97]⟩ ⟨#[108]⟩ 0 0 none (some ⟨w3.heap.size, 0, none⟩) none none 0 0 1 0 0 0 0 [⟨#[116]⟩] _ (by decide) (by decide) (by decide) (by decide) (by omega) (by omega) (by omega) (by omega) (new_sl encT Value.string (fun _ => rfl) w3 9 _ _ rfl)).mono ?_
  rintro e w4 ⟨rfl, hb4⟩
  have HB4 := Lib.hid (below_cons HB3.out (below_alloc hb4)); clear hb4
  rw [e4]
  go_wp2_with fail
  go_ret
  exact ⟨rfl, HB4.out⟩
set_option maxHeartbeats 1000000 in
theorem numbers_walk (n : Int) (w : World) (w0 : (Lit.int .i64 n).wf = true) : Calls Try.prog 3 #[.int .i64 n] w fun e w' => e = .returned (.bool true) ∧ Below w.heap.size w w' := by
  obtain ⟨h0, h1⟩ := bounds_i64 w0
  by_cases h : n < -4611686018427387904
  · have c : decide (n < -4611686018427387904) = true := decide_eq_true h
    go_enter Try.func3, Try.ntmps3
    go_wp2_with fail
    refine (awake_any _).mono ?_
    rintro e w1 ⟨rfl, hb1⟩
    go_wp2_with fail
    go_ret
    exact ⟨rfl, hb1⟩
  · have c : decide (n < -4611686018427387904) = false := decide_eq_false h
    go_enter Try.func3, Try.ntmps3
    go_wp2_with fail
    refine (number_any n (by omega) (by omega) _).mono ?_
    rintro e w1 ⟨rfl, hb1⟩
    go_wp2_with fail
    refine (digits_any n (by omega) (by omega) _).mono ?_
    rintro e w2 ⟨rfl, hb2⟩
    have HB2 := Lib.hid (below_cons hb1 hb2); clear hb1 hb2
    go_wp2_with fail
    refine (awake_any _).mono ?_
    rintro e w3 ⟨rfl, hb3⟩
    go_wp2_with fail
    go_ret
    exact ⟨rfl, below_cons HB2.out hb3⟩
end Go.Proofs.Ytmgmokbephkpbaa
