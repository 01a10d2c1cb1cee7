/-
  The contract of the law's awake.
-/
import Derived.Test.YtlhniaecgiockaaJ
set_option linter.unusedVariables false
set_option linter.unusedSimpArgs false
namespace Go.Proofs.Ytlhniaecgiockaa
open Go.RowKit
theorem checkV_path (l : List ByteArray) (i : Nat) (x : ByteArray) (hx : l[i]? = some x) (hl : l.length ≤ 1048576) : checkV (rootL l) l.length i x (pathL l i) = true := by
  have hi := (List.getElem?_eq_some_iff.1 hx).1
  unfold checkV
  rw [if_neg (by omega), Int.toNat_natCast, Int.toNat_natCast, path_leads l.length l i x hx (Nat.le_refl _), decide_eq_true (path_len l i)]
  simp
theorem checkV_other (r : ByteArray) (n i : Nat) (s : ByteArray) (p : List ByteArray) (h : p.length ≠ (sidesL n i).length) : checkV r n i s p = false := by
  unfold checkV
  split
  · rfl
  · rw [Int.toNat_natCast, Int.toNat_natCast, decide_eq_false h]; rfl
theorem hf2 : hf 2 = 1 := hf_of (j := 0) (by omega) (by omega) (by omega)
theorem hf3 : hf 3 = 2 := hf_of (j := 1) (by omega) (by omega) (by omega)
def ya : ByteArray := ⟨#[97]⟩
def yb : ByteArray := ⟨#[98]⟩
def yc : ByteArray := ⟨#[99]⟩
def abc : List ByteArray := [ya, yb, yc]
theorem ab_path : pathL [ya, yb] 0 = [idV ⟨#[0, 98]⟩] := by
  rw [pathL_left (by simp) (by simp [hf2])]
  simp only [List.length_cons, List.length_nil, Nat.zero_add, Nat.reduceAdd, hf2]
  rw [List.drop_succ_cons, List.drop_zero, List.take_succ_cons, List.take_zero, rootL_one, pathL_one _ (by simp)]
  rfl
theorem abc_path : (pathL abc 2).length = 1 := by
  unfold abc
  rw [pathL_right (by simp) (by simp [hf3])]
  simp only [List.length_cons, List.length_nil, Nat.zero_add, Nat.reduceAdd, hf3]
  rw [List.drop_succ_cons, List.drop_succ_cons, List.drop_zero, pathL_one _ (by simp)]
  rfl
theorem sides31 : (sidesL 3 1).length = 2 := by
  rw [sidesL_left (by omega) (by rw [hf3]; omega), hf3, sidesL_right (by omega) (by rw [hf2]; omega), hf2, sidesL_one _ (by omega)]
  rfl
theorem abc_check : checkV (rootL abc) 3 2 yc (pathL abc 2) = true := checkV_path abc 2 yc rfl (by decide)
theorem abc_other : checkV (rootL abc) 3 1 yc (pathL abc 2) = false := checkV_other _ 3 1 _ _ (by rw [abc_path, sides31]; omega)
theorem abc_apart : apV abc [ya, yb] = 2 := by decide
theorem abc_same : apV abc abc = -1 := by decide
theorem abc_small : ∀ s ∈ abc, s.size ≤ 100 := by decide
theorem sl_new (w : World) (l : List ByteArray) (E : TypeId) : Sl strC 1 (w.alloc (.cells (l.map Value.string).toArray E)) (some ⟨w.heap.size, 0, none⟩) l := by
  intro i hi
  refine ⟨w.heap.size, 0, rfl, by simp, fun j v hv => ?_⟩
  rw [cell_new]
  have hj : j = 0 := by
    have := (List.getElem?_eq_some_iff.1 hv).1
    simp [strC] at this; exact this
  subst hj
  simp [strC] at hv
  subst hv
  simp [hi]
theorem below_drewN' {B : Nat} {a w : World} (h : Below B a w) (n : Nat) : Below B a (w.drewN n) := h.trans ⟨rfl, rfl, rfl, Nat.le_refl _, fun _ _ => rfl⟩
theorem str_same (X : ByteArray) : (X.toList == X.toList) = true := by simp
set_option maxHeartbeats 8000000 in
theorem awake_any (w : World) : Calls Try.prog 7 #[] w fun e w' => e = .returned (.bool true) ∧ Below w.heap.size w w' := by
  have HS : Hid (Sl strC 1 (w.alloc (.cells #[.string ⟨#[97]⟩, .string ⟨#[98]⟩, .string ⟨#[99]⟩] 9)) (some ⟨w.heap.size, 0, none⟩) abc) := Lib.hid (sl_new w abc 9)
  have HB := Lib.hid (below_new w (.cells #[.string ⟨#[97]⟩, .string ⟨#[98]⟩, .string ⟨#[99]⟩] 9))
  have TQ : Hid (∀ (A : Option Addr) (W : World), Sl strC 1 W A abc → Calls Try.prog 8 #[.slice A 2 3, .int .i64 0] W (PathPost W.heap.size [ya, yb] 0 W)) := Lib.hid (fun A W h => path_any [ya, yb] A 3 0 W (by decide) (by decide) (by decide) (sl_take h 2))
  have TP : Hid (∀ (A : Option Addr) (W : World), Sl strC 1 W A abc → Calls Try.prog 8 #[.slice A 3 3, .int .i64 2] W (PathPost W.heap.size abc 2 W)) := Lib.hid (fun A W h => path_any abc A 3 2 W (by decide) abc_small (by decide) h)
  have TR : Hid (∀ (A : Option Addr) (W : World), Calls Try.prog 8 #[.slice A 3 3, .int .i64 3] W fun e w' => e = .returned (.tuple #[.slice none 0 0, .int .i64 2]) ∧ W = w') := Lib.hid (fun A W => path_bad abc A 3 3 W (by decide))
  have TI : Hid (∀ W, Calls Try.prog 17 #[.string ⟨#[0, 98]⟩] W fun e w' => e = .returned (.string (idV ⟨#[0, 98]⟩)) ∧ Below W.heap.size W w') := Lib.hid (fun W => rid_any ⟨#[0, 98]⟩ W (by decide))
  have TE : Hid (∀ W, Calls Try.prog 17 #[.string ⟨#[]⟩] W fun e w' => e = .returned (.string (idV ⟨#[]⟩)) ∧ Below W.heap.size W w') := Lib.hid (fun W => rid_any ⟨#[]⟩ W (by decide))
  have TN : Hid (∀ W, Calls Try.prog 10 #[.slice none 0 0] W fun e w' => e = .returned (.string (idV ⟨#[]⟩)) ∧ Below W.heap.size W w') := Lib.hid (fun W => by
    have := root_any [] none 0 W (by simp) (by simp) (Sl.nil _ _ _ _)
    rw [rootL_nil] at this; exact this)
  have TA : Hid (∀ (A : Option Addr) (W : World), Sl strC 1 W A abc → Calls Try.prog 10 #[.slice A 3 3] W fun e w' => e = .returned (.string (rootL abc)) ∧ Below W.heap.size W w') := Lib.hid (fun A W h => root_any abc A 3 W abc_small (by decide) h)
  have TC : Hid (∀ (A : Option Addr) (c : Nat) (W : World), Sl strC 1 W A (pathL abc 2) → Calls Try.prog 15 #[.string (rootL abc), .int .i64 3, .int .i64 2, .string ⟨#[99]⟩, .slice A (pathL abc 2).length c] W fun e w' => e = .returned (.bool true) ∧ Below W.heap.size W w') := Lib.hid (fun A c W h => by
    have := check_any (rootL abc) 3 2 yc (pathL abc 2) A c W (by decide) (fun x hx => by have := path_sizes 3 abc 2 (by decide) x hx; omega) (by rw [abc_path]; omega) h
    rw [abc_check] at this; exact this)
  have TD : Hid (∀ (A : Option Addr) (c : Nat) (W : World), Sl strC 1 W A (pathL abc 2) → Calls Try.prog 15 #[.string (rootL abc), .int .i64 3, .int .i64 1, .string ⟨#[99]⟩, .slice A (pathL abc 2).length c] W fun e w' => e = .returned (.bool false) ∧ Below W.heap.size W w') := Lib.hid (fun A c W h => by
    have := check_any (rootL abc) 3 1 yc (pathL abc 2) A c W (by decide) (fun x hx => by have := path_sizes 3 abc 2 (by decide) x hx; omega) (by rw [abc_path]; omega) h
    rw [abc_other] at this; exact this)
  have TS : Hid (∀ (A : Option Addr) (W : World), Sl strC 1 W A abc → Calls Try.prog 13 #[.slice A 3 3, .slice A 2 3] W fun e w' => e = .returned (.int .i64 2) ∧ ∃ n, w' = W.drewN n) := Lib.hid (fun A W h => by
    have := apart_any abc [ya, yb] A A 3 3 W h (sl_take h 2) (by decide) (by decide)
    rw [abc_apart] at this; exact this)
  have TT : Hid (∀ (A : Option Addr) (W : World), Sl strC 1 W A abc → Calls Try.prog 13 #[.slice A 3 3, .slice A 3 3] W fun e w' => e = .returned (.int .i64 (-1)) ∧ ∃ n, w' = W.drewN n) := Lib.hid (fun A W h => by
    have := apart_any abc abc A A 3 3 W h h (by decide) (by decide)
    rw [abc_same] at this; exact this)
  have TX : Hid (∀ (X : ByteArray) (A B : Option Addr) (c d : Nat) (W : World), Sl strC 1 W A [X] → Sl strC 1 W B [X] → Calls Try.prog 12 #[.slice A 1 c, .slice B 1 d] W fun e w' => e = .returned (.bool true) ∧ ∃ n, w' = W.drewN n) := Lib.hid (fun X A B c d W h h2 => by
    have := texts_eq [X] [X] A B c d W h h2 (by simp)
    rw [decide_eq_true rfl] at this; exact this)
  have HAP := Lib.hid ab_path
  obtain ⟨I, hI⟩ : ∃ I, I = idV ⟨#[0, 98]⟩ := ⟨_, rfl⟩
  obtain ⟨E, hE⟩ : ∃ E, E = idV ⟨#[]⟩ := ⟨_, rfl⟩
  obtain ⟨R, hR⟩ : ∃ R, R = rootL abc := ⟨_, rfl⟩
  rw [← hI] at TI HAP
  rw [← hE] at TE TN
  rw [← hR] at TA TC TD
  have sE := str_same E
  clear hI hE hR
  go_enter Try.func7, Try.ntmps7
  go_wp2_with fail
  generalize hW0 : w.alloc (.cells #[.string ⟨#[97]⟩, .string ⟨#[98]⟩, .string ⟨#[99]⟩] 9) = W0 at HS HB ⊢
  obtain ⟨A, hA⟩ : ∃ A : Option Addr, A = some ⟨w.heap.size, 0, none⟩ := ⟨_, rfl⟩
  rw [← hA] at HS
  have HA := Lib.hid hA
  clear hW0 hA
  have T1 := TQ.out A W0 HS.out
  rw [HA.out] at T1
  refine T1.mono ?_
  clear T1
  rintro e w1 ⟨v1, rfl, ho, hb⟩
  rw [HAP.out] at ho
  obtain ⟨a1, c1, rfl, _, hs1⟩ := own_sl (enc := strC) (size := 1) (fun _ => rfl) (by decide) ho
  have HP := Lib.hid hs1; have HS1 := Lib.hid (HS.out.keep hb); have HB1 := Lib.hid (below_step HB.out (Nat.le_refl _) hb)
  clear ho hs1 hb
  go_wp2_with fail
  have T1 := TP.out A w1 HS1.out
  rw [HA.out] at T1
  refine T1.mono ?_
  clear T1
  rintro e w2 ⟨v2, rfl, ho, hb⟩
  obtain ⟨a2, c2, rfl, _, hs2⟩ := own_sl (enc := strC) (size := 1) (fun _ => rfl) (by decide) ho
  have HQ := Lib.hid hs2; have HS2 := Lib.hid (HS1.out.keep hb); have HP2 := Lib.hid (HP.out.keep hb); have HB2 := Lib.hid (below_step HB1.out (Nat.le_refl _) hb)
  clear ho hs2 hb
  obtain ⟨qn, hqn⟩ : ∃ qn, qn = (pathL abc 2).length := ⟨_, rfl⟩
  rw [← hqn] at TC TD ⊢
  clear hqn
  go_wp2_with fail
  refine (TR.out _ _).mono ?_
  rintro e w3 ⟨rfl, rfl⟩
  go_wp2_with fail
  refine (TI.out _).mono ?_
  rintro e w3 ⟨rfl, hb⟩
  have HQ3 := Lib.hid (HQ.out.keep hb); have HS3 := Lib.hid (HS2.out.keep hb); have HP3 := Lib.hid (HP2.out.keep hb); have HB3 := Lib.hid (below_step HB2.out (Nat.le_refl _) hb)
  clear hb
  have hn := sl_new w3 [I] 9
  have hb := below_new w3 (.cells #[.string I] 9)
  have HX := Lib.hid hn
  have HQ4 := Lib.hid (HQ3.out.keep hb); have HS4 := Lib.hid (HS3.out.keep hb); have HP4 := Lib.hid (HP3.out.keep hb); have HB4 := Lib.hid (below_step HB3.out (Nat.le_refl _) hb)
  clear hb hn
  go_wp2_with fail
  refine (TX.out I _ _ _ _ _ HP4.out HX.out).mono ?_
  rintro e w5 ⟨rfl, n1, rfl⟩
  have hb := below_drewN' (Below.refl (w3.alloc (.cells #[.string I] 9)).heap.size (w3.alloc (.cells #[.string I] 9))) n1
  have HQ5 := Lib.hid (HQ4.out.keep hb); have HS5 := Lib.hid (HS4.out.keep hb); have HB5 := Lib.hid (below_step HB4.out (Nat.le_refl _) hb)
  clear hb
  generalize (w3.alloc (.cells #[.string I] 9)).drewN n1 = W5 at HQ5 HS5 HB5 ⊢
  go_wp2_with fail
  have T1 := TA.out A W5 HS5.out
  rw [HA.out] at T1
  refine T1.mono ?_
  clear T1
  rintro e w6 ⟨rfl, hb⟩
  have HQ6 := Lib.hid (HQ5.out.keep hb); have HS6 := Lib.hid (HS5.out.keep hb); have HB6 := Lib.hid (below_step HB5.out (Nat.le_refl _) hb)
  clear hb
  go_wp2_with fail
  have T1 := TC.out a2 c2 w6 HQ6.out
  refine T1.mono ?_
  clear T1
  rintro e w7 ⟨rfl, hb⟩
  have HQ7 := Lib.hid (HQ6.out.keep hb); have HS7 := Lib.hid (HS6.out.keep hb); have HB7 := Lib.hid (below_step HB6.out (Nat.le_refl _) hb)
  clear hb
  go_wp2_with fail
  have T1 := TA.out A w7 HS7.out
  rw [HA.out] at T1
  refine T1.mono ?_
  clear T1
  rintro e w8 ⟨rfl, hb⟩
  have HQ8 := Lib.hid (HQ7.out.keep hb); have HS8 := Lib.hid (HS7.out.keep hb); have HB8 := Lib.hid (below_step HB7.out (Nat.le_refl _) hb)
  clear hb
  go_wp2_with fail
  have T1 := TD.out a2 c2 w8 HQ8.out
  refine T1.mono ?_
  clear T1
  rintro e w9 ⟨rfl, hb⟩
  have HQ9 := Lib.hid (HQ8.out.keep hb); have HS9 := Lib.hid (HS8.out.keep hb); have HB9 := Lib.hid (below_step HB8.out (Nat.le_refl _) hb)
  clear hb
  go_wp2_with fail
  have T1 := TN.out w9
  refine T1.mono ?_
  clear T1
  rintro e w10 ⟨rfl, hb⟩
  have HQ10 := Lib.hid (HQ9.out.keep hb); have HS10 := Lib.hid (HS9.out.keep hb); have HB10 := Lib.hid (below_step HB9.out (Nat.le_refl _) hb)
  clear hb
  go_wp2_with fail
  have T1 := TE.out w10
  refine T1.mono ?_
  clear T1
  rintro e w11 ⟨rfl, hb⟩
  have HQ11 := Lib.hid (HQ10.out.keep hb); have HS11 := Lib.hid (HS10.out.keep hb); have HB11 := Lib.hid (below_step HB10.out (Nat.le_refl _) hb)
  clear hb
  go_wp2_with fail
  have T1 := TS.out A w11 HS11.out
  rw [HA.out] at T1
  refine T1.mono ?_
  clear T1
  rintro e w12 ⟨rfl, n2, rfl⟩
  have hb := below_drewN' (Below.refl w11.heap.size w11) n2
  have HS12 := Lib.hid (HS11.out.keep hb); have HB12 := Lib.hid (below_step HB11.out (Nat.le_refl _) hb)
  clear hb
  generalize w11.drewN n2 = W12 at HS12 HB12 ⊢
  go_wp2_with fail
  have T1 := TT.out A W12 HS12.out
  rw [HA.out] at T1
  refine T1.mono ?_
  clear T1
  rintro e w13 ⟨rfl, n3, rfl⟩
  have HB13 := Lib.hid (below_drewN' HB12.out n3)
  go_wp2
  go_ret
  exact ⟨rfl, HB13.out⟩
end Go.Proofs.Ytlhniaecgiockaa

