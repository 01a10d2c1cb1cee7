/-
  The contract of the law's awake: it returns true. The walk of QuotaNone.
-/
import Derived.Test.YtbilnkgicpkdnaaC
set_option linter.unusedVariables false
set_option linter.unusedSimpArgs false
namespace Go.Proofs.Ytbilnkgicpkdnaa
open Go.RowKit
def sa : ByteArray := ⟨#[97]⟩
def sb : ByteArray := ⟨#[98]⟩
def f1 : ByteArray → Int := upd (fun _ => 0) sa 3
def f2 : ByteArray → Int := upd f1 sa 2
theorem f1a : f1 sa = 3 := upd_same _ _ _
theorem f2a : f2 sa = 2 := upd_same _ _ _
theorem f2b : f2 sb = 0 := rfl
theorem szab : sa.size ≤ maxLen ∧ sb.size ≤ maxLen := ⟨by decide, by decide⟩
set_option maxHeartbeats 4000000 in
theorem awake_any (w : World) : Calls Try.prog 5 #[] w fun e w' => e = .returned (.bool true) ∧ Below w.heap.size w w' := by
  go_enter Try.func5, Try.ntmps5
  go_wp2_with fail
  refine (new_any 5 w (by omega) (by omega)).mono ?_
  rintro e w1 ⟨rfl, hq, hb⟩
  have hp : w.heap.size < w1.heap.size ∧ w.heap.size + 1 < w1.heap.size := ⟨hq.2.1.lt, hq.1.1⟩
  generalize hpe : w.heap.size + 1 = p at hq hp ⊢
  generalize hbe : w.heap.size = b at hq hp ⊢
  have HQ := Lib.hid hq; have HB := Lib.hid hb; have HP := Lib.hid hpe; have HBE := Lib.hid hbe
  clear hq hb hpe hbe hp
  go_wp2_with fail
  refine (bad_any (-1) _ (by omega)).mono ?_
  rintro e w2 ⟨rfl, rfl⟩
  go_wp2_with fail
  refine (take_yes sa 3 _ HQ.out szab.1 (by decide) (by omega) (by omega) (by omega)).mono ?_
  rintro e w2 ⟨rfl, hq, hk⟩
  have HQ1 : Hid (Qs w2 p b 1 f1 2) := Lib.hid hq
  have HK1 := Lib.hid hk
  clear hq hk
  go_wp2_with fail
  refine (take_no sb 3 _ HQ1.out (by omega)).mono ?_
  rintro e w3 ⟨rfl, rfl⟩
  go_wp2_with fail
  refine (give_no sa 4 _ HQ1.out szab.1 (by rw [f1a]; omega)).mono ?_
  rintro e w3 ⟨rfl, rfl⟩
  go_wp2_with fail
  refine (give_yes sa 1 _ HQ1.out szab.1 (by decide) (by rw [f1a]; omega) (by omega) (by rw [f1a]; omega)).mono ?_
  rintro e w4 ⟨rfl, hq, hk⟩
  have HQ2 : Hid (Qs w4 p b 2 f2 3) := Lib.hid hq
  have HK2 := Lib.hid (HK1.out.trans hk)
  clear hq hk
  go_wp2_with fail
  refine (of_any sa _ HQ2.out szab.1).mono ?_
  rintro e w5 ⟨rfl, rfl⟩
  rw [f2a]
  go_wp2_with fail
  refine (of_any sb _ HQ2.out szab.2).mono ?_
  rintro e w5 ⟨rfl, rfl⟩
  rw [f2b]
  go_wp2_with fail
  refine (left_any _ HQ2.out).mono ?_
  rintro e w5 ⟨rfl, rfl⟩
  go_wp2_with fail
  refine (take_no sa 0 _ HQ2.out (by omega)).mono ?_
  rintro e w5 ⟨rfl, rfl⟩
  go_wp2
  go_ret
  have e1 := HP.out
  have e2 := HBE.out
  have hz := HB.out.size
  exact ⟨rfl, HB.out.trans (HK2.out.below hz (fun k hk => by omega))⟩
end Go.Proofs.Ytbilnkgicpkdnaa

