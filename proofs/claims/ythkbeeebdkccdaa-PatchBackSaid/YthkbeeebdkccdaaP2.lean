/-
  The contract of next, for the parts that are met.
-/
import Derived.Test.YthkbeeebdkccdaaP1
import Derived.OwnWalk
set_option linter.unusedVariables false
set_option linter.unusedSimpArgs false
namespace Go.Proofs.Ythkbeeebdkccdaa
open Go.RowKit
theorem txtO_txt {t : ByteArray} (h : t.size ≤ 65536) (r : ByteArray) : txtO (textB t ++ r) 0 = (t, r, 0) := by
  rw [txtO_ok (txtV_txt h r)]
  congr 2
  exact ext_right _ _
theorem partF_eq (x r : ByteArray) : partF x ++ r = txt (nb 0) ++ (textB x ++ r) := by
  unfold partF catN catN
  rw [ByteArray.append_empty, ByteArray.append_assoc]
theorem partC_eq (a n : Nat) (r : ByteArray) : partC a n ++ r = txt (nb 1) ++ (txt (nb a) ++ (txt (nb n) ++ r)) := by
  unfold partC catN catN catN catN
  rw [ByteArray.append_empty, ByteArray.append_assoc, ByteArray.append_assoc]
set_option maxHeartbeats 4000000 in
theorem next_fresh (x r : ByteArray) (w : World) (hx : x.size ≤ 65536) (hr : r.size ≤ 1000000) : Calls Try.prog 9 #[.string (partF x ++ r)] w fun e w' => e = .returned (.tuple #[.iface 29 (.string x), .int .i64 (partF x).size, .int .i64 0]) ∧ Below w.heap.size w w' := by
  have hz := textB_size x (by omega)
  have hz0 := catN_size [0] (fun n hn => by simp at hn; omega)
  have hps : (partF x ++ r).size ≤ 1099511627776 := by
    unfold partF; rw [ByteArray.size_append, ByteArray.size_append]; simp at hz0; omega
  have hq : (textB x ++ r).size ≤ 1099511627776 := by rw [ByteArray.size_append]; omega
  have T0 := Lib.hid (new_any (partF x ++ r) w)
  have T1 := Lib.hid (fun p W h => rd_num p (partF x ++ r) 0 W hps h)
  rw [partF_eq, numO_txt (by omega) (textB x ++ r), ← partF_eq] at T1
  have T2 := Lib.hid (fun p W h => rd_text p (textB x ++ r) 0 W hq h)
  rw [txtO_txt hx r] at T2
  have T3 := Lib.hid (fun W => put_fresh x W hx)
  have TE := Lib.hid (fun p s W h => err_any p s 0 W h)
  dsimp only at T1 T2
  generalize partF x = PF at *
  generalize textB x = TB at *
  go_enter Try.func9, Try.ntmps9
  go_wp2_with fail
  refine T0.out.mono ?_
  rintro e w1 ⟨rfl, hrd, hb⟩
  have HB := Lib.hid hb
  clear hb T0
  obtain ⟨p, hp⟩ : ∃ p, p = w.heap.size := ⟨_, rfl⟩
  rw [← hp] at hrd ⊢
  have HP := Lib.hid hp
  have HRD := Lib.hid hrd
  clear hp hrd
  go_wp2_with fail
  refine (T1.out _ _ HRD.out).mono ?_
  rintro e w2 ⟨rfl, hrd, hk⟩
  have HRD := Lib.hid hrd; have HB := Lib.hid (HB.out.trans (hk.below HB.out.size (fun j hj => by have := HP.out; omega)))
  clear hrd hk
  go_wp2_with fail
  refine (TE.out _ _ _ HRD.out).mono ?_
  rintro e w' ⟨rfl, hw⟩
  obtain rfl : w2 = w' := hw.symm
  clear hw
  go_wp2_with fail
  refine (T2.out _ _ HRD.out).mono ?_
  rintro e w3 ⟨rfl, hrd, hk⟩
  have HRD := Lib.hid hrd; have HB := Lib.hid (HB.out.trans (hk.below HB.out.size (fun j hj => by have := HP.out; omega)))
  clear hrd hk
  go_wp2_with fail
  refine (TE.out _ _ _ HRD.out).mono ?_
  rintro e w' ⟨rfl, hw⟩
  obtain rfl : w3 = w' := hw.symm
  clear hw
  go_wp2_with fail
  refine (T3.out _).mono ?_
  rintro e w4 ⟨rfl, hb⟩
  have HB := Lib.hid (HB.out.trans (hb.mono HB.out.size))
  clear hb
  go_wp2
  go_ret3
  exact ⟨rfl, HB.out⟩
set_option maxHeartbeats 4000000 in
theorem next_from (a n : Nat) (r : ByteArray) (w : World) (ha : a ≤ 9007199254740992) (hn : n ≤ 9007199254740992) (hr : r.size ≤ 1000000) : Calls Try.prog 9 #[.string (partC a n ++ r)] w fun e w' => e = .returned (.tuple #[.iface 31 (.agg #[.int .i64 a, .int .i64 n]), .int .i64 (partC a n).size, .int .i64 0]) ∧ Below w.heap.size w w' := by
  have hz0 := catN_size [1, a, n] (fun q hq => by simp at hq; omega)
  have hps : (partC a n ++ r).size ≤ 1099511627776 := by
    unfold partC; rw [ByteArray.size_append]; simp at hz0; omega
  have z1 : (txt (nb a)).size ≤ 8 := by rw [txt_size]; exact nb_len8 ha
  have z2 : (txt (nb n)).size ≤ 8 := by rw [txt_size]; exact nb_len8 hn
  have hq1 : (txt (nb a) ++ (txt (nb n) ++ r)).size ≤ 1099511627776 := by rw [ByteArray.size_append, ByteArray.size_append]; omega
  have hq2 : (txt (nb n) ++ r).size ≤ 1099511627776 := by rw [ByteArray.size_append]; omega
  have T0 := Lib.hid (new_any (partC a n ++ r) w)
  have T1 := Lib.hid (fun p W h => rd_num p (partC a n ++ r) 0 W hps h)
  rw [partC_eq, numO_txt (by omega) (txt (nb a) ++ (txt (nb n) ++ r)), ← partC_eq] at T1
  have T2 := Lib.hid (fun p W h => rd_num p (txt (nb a) ++ (txt (nb n) ++ r)) 0 W hq1 h)
  rw [numO_txt ha (txt (nb n) ++ r)] at T2
  have T4 := Lib.hid (fun p W h => rd_num p (txt (nb n) ++ r) 0 W hq2 h)
  rw [numO_txt hn r] at T4
  have T3 := Lib.hid (fun W => put_from a n W ha hn)
  have TE := Lib.hid (fun p s W h => err_any p s 0 W h)
  dsimp only at T1 T2 T4
  generalize partC a n = PF at *
  generalize txt (nb n) ++ r = R2 at *
  generalize txt (nb a) ++ R2 = R1 at *
  go_enter Try.func9, Try.ntmps9
  go_wp2_with fail
  refine T0.out.mono ?_
  rintro e w1 ⟨rfl, hrd, hb⟩
  have HB := Lib.hid hb
  clear hb T0
  obtain ⟨p, hp⟩ : ∃ p, p = w.heap.size := ⟨_, rfl⟩
  rw [← hp] at hrd ⊢
  have HP := Lib.hid hp
  have HRD := Lib.hid hrd
  clear hp hrd
  go_wp2_with fail
  refine (T1.out _ _ HRD.out).mono ?_
  rintro e w2 ⟨rfl, hrd, hk⟩
  have HRD := Lib.hid hrd; have HB := Lib.hid (HB.out.trans (hk.below HB.out.size (fun j hj => by have := HP.out; omega)))
  clear hrd hk
  go_wp2_with fail
  refine (TE.out _ _ _ HRD.out).mono ?_
  rintro e w' ⟨rfl, hw⟩
  obtain rfl : w2 = w' := hw.symm
  clear hw
  go_wp2_with fail
  refine (T2.out _ _ HRD.out).mono ?_
  rintro e w3 ⟨rfl, hrd, hk⟩
  have HRD := Lib.hid hrd; have HB := Lib.hid (HB.out.trans (hk.below HB.out.size (fun j hj => by have := HP.out; omega)))
  clear hrd hk
  go_wp2_with fail
  refine (T4.out _ _ HRD.out).mono ?_
  rintro e w4 ⟨rfl, hrd, hk⟩
  have HRD := Lib.hid hrd; have HB := Lib.hid (HB.out.trans (hk.below HB.out.size (fun j hj => by have := HP.out; omega)))
  clear hrd hk
  go_wp2_with fail
  refine (TE.out _ _ _ HRD.out).mono ?_
  rintro e w' ⟨rfl, hw⟩
  obtain rfl : w4 = w' := hw.symm
  clear hw
  go_wp2_with fail
  refine (T3.out _).mono ?_
  rintro e w5 ⟨rfl, hb⟩
  have HB := Lib.hid (HB.out.trans (hb.mono HB.out.size))
  clear hb
  go_wp2
  go_ret3
  exact ⟨rfl, HB.out⟩
theorem numO_two : numO ⟨#[2]⟩ 0 = (2, ⟨#[]⟩, 0) := by decide +kernel
set_option maxHeartbeats 4000000 in
theorem next_arg (w : World) : Calls Try.prog 9 #[.string ⟨#[2]⟩] w fun e w' => e = .returned (.tuple #[.nilIface, .int .i64 0, .int .i64 1]) ∧ Below w.heap.size w w' := by
  have T0 := Lib.hid (new_any ⟨#[2]⟩ w)
  have T1 := Lib.hid (fun p W h => rd_num p ⟨#[2]⟩ 0 W (by decide) h)
  rw [numO_two] at T1
  have TE := Lib.hid (fun p s W h => err_any p s 0 W h)
  dsimp only at T1
  go_enter Try.func9, Try.ntmps9
  go_wp2_with fail
  refine T0.out.mono ?_
  rintro e w1 ⟨rfl, hrd, hb⟩
  have HB := Lib.hid hb
  clear hb T0
  obtain ⟨p, hp⟩ : ∃ p, p = w.heap.size := ⟨_, rfl⟩
  rw [← hp] at hrd ⊢
  have HP := Lib.hid hp
  have HRD := Lib.hid hrd
  clear hp hrd
  go_wp2_with fail
  refine (T1.out _ _ HRD.out).mono ?_
  rintro e w2 ⟨rfl, hrd, hk⟩
  have HRD := Lib.hid hrd; have HB := Lib.hid (HB.out.trans (hk.below HB.out.size (fun j hj => by have := HP.out; omega)))
  clear hrd hk
  go_wp2_with fail
  refine (TE.out _ _ _ HRD.out).mono ?_
  rintro e w' ⟨rfl, hw⟩
  obtain rfl : w2 = w' := hw.symm
  clear hw
  go_wp2
  go_ret3
  exact ⟨rfl, HB.out⟩
end Go.Proofs.Ythkbeeebdkccdaa

