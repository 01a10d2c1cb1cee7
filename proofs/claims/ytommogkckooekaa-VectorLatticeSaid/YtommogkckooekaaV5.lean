/-
  The law of VectorLattice: the walk.
-/
import Derived.Test.YtommogkckooekaaV4
set_option linter.unusedVariables false
set_option linter.unusedSimpArgs false
namespace Go.Proofs.Ytommogkckooekaa
open Go.RowKit
def Lat0 (w : World) (IA IB IC : List Value) (w' : World) : Prop := (Bk w.heap.size IA w' ∧ Bk (w.heap.size + 1) IB w') ∧ Bk (w.heap.size + 1 + 1) IC w' ∧ Below w.heap.size w w'
theorem Lat0.keep {w w1 w2 : World} {IA IB IC : List Value} (h : Lat0 w IA IB IC w1) (hb : Below w1.heap.size w1 w2) : Lat0 w IA IB IC w2 := ⟨⟨h.1.1.keep hb, h.1.2.keep hb⟩, h.2.1.keep hb, below_step h.2.2 (Nat.le_refl _) hb⟩
theorem Lat0.drew {w w1 : World} {IA IB IC : List Value} (h : Lat0 w IA IB IC w1) : Lat0 w IA IB IC w1.drew := ⟨⟨h.1.1.drew, h.1.2.drew⟩, h.2.1.drew, h.2.2.drew⟩
theorem Lat0.kp {w w1 w2 : World} {IA IB IC : List Value} {p : Nat} (h : Lat0 w IA IB IC w1) (hk : Kp (fun j => j = p) w1 w2) (hp : w.heap.size + 3 ≤ p) : Lat0 w IA IB IC w2 :=
  ⟨⟨h.1.1.kp hk (by omega), h.1.2.kp hk (by omega)⟩, h.2.1.kp hk (by omega), h.2.2.trans (hk.below h.2.2.size (fun j hj => by omega))⟩
theorem Lat0.size {w w1 : World} {IA IB IC : List Value} (h : Lat0 w IA IB IC w1) : w.heap.size + 3 ≤ w1.heap.size := by have := h.2.1.1; omega
def Lat1 (w : World) (IA IB IC IJ IM : List Value) (p q : Nat) (w' : World) : Prop := Lat0 w IA IB IC w' ∧ Bk p IJ w' ∧ Bk q IM w'
theorem Lat1.keep {w w1 w2 : World} {IA IB IC IJ IM : List Value} {p q : Nat} (h : Lat1 w IA IB IC IJ IM p q w1) (hb : Below w1.heap.size w1 w2) : Lat1 w IA IB IC IJ IM p q w2 := ⟨h.1.keep hb, h.2.1.keep hb, h.2.2.keep hb⟩
theorem Lat1.drew {w w1 : World} {IA IB IC IJ IM : List Value} {p q : Nat} (h : Lat1 w IA IB IC IJ IM p q w1) : Lat1 w IA IB IC IJ IM p q w1.drew := ⟨h.1.drew, h.2.1.drew, h.2.2.drew⟩
set_option maxHeartbeats 16000000 in
theorem lattice_walk (a b c : List Int) (w : World) (ha : a.length = 16) (hb : b.length = 16) (hc : c.length = 16) : Calls Try.prog 5 #[.agg (ints a).toArray, .agg (ints b).toArray, .agg (ints c).toArray] w fun e w' => e = .returned (.bool true) ∧ Below w.heap.size w w' := by
  have HAL := Lib.hid ha; have HBL := Lib.hid hb; have HCL := Lib.hid hc
  have HJL : Hid ((jnV mx a b).length = 16) := Lib.hid (jnV_len _ _ ha)
  have HML : Hid ((jnV mn a b).length = 16) := Lib.hid (jnV_len _ _ ha)
  have HNL : Hid ((jnV mx b c).length = 16) := Lib.hid (jnV_len _ _ hb)
  have HUL : Hid ((jnV mx a (jnV mx b c)).length = 16) := Lib.hid (jnV_len _ _ ha)
  have f1 : cmpV a (jnV mx a b) < 1 := (cmp_le HAL.out HJL.out).2 (up1 ha)
  have f2 : cmpV b (jnV mx a b) < 1 := (cmp_le HBL.out HJL.out).2 (up2 ha)
  have f3 : cmpV (jnV mn a b) a < 1 := (cmp_le HML.out HAL.out).2 (dn1 ha)
  have f4 : cmpV (jnV mn a b) b < 1 := (cmp_le HML.out HBL.out).2 (dn2 ha)
  have f5 : cmpV (jnV mx a b) c < 1 ↔ (cmpV a c < 1 ∧ cmpV b c < 1) := by rw [cmp_le HJL.out hc, cmp_le ha hc, cmp_le hb hc]; exact least ha
  have f6 : (cmpV a b == 0) = decide (a = b) := by
    have := cmp_zero ha hb
    by_cases h : a = b
    · rw [decide_eq_true h, this.2 h]; rfl
    · rw [decide_eq_false h]; simp only [beq_eq_false_iff_ne, ne_eq]; exact fun e => h (this.1 e)
  clear ha hb hc
  obtain ⟨IA, hIA⟩ : ∃ I, I = ints a := ⟨_, rfl⟩
  obtain ⟨A, hA⟩ : ∃ I, I = (ints a).toArray := ⟨_, rfl⟩
  obtain ⟨IB, hIB⟩ : ∃ I, I = ints b := ⟨_, rfl⟩
  obtain ⟨B, hB⟩ : ∃ I, I = (ints b).toArray := ⟨_, rfl⟩
  obtain ⟨IC, hIC⟩ : ∃ I, I = ints c := ⟨_, rfl⟩
  obtain ⟨C, hC⟩ : ∃ I, I = (ints c).toArray := ⟨_, rfl⟩
  obtain ⟨IJ, hIJ⟩ : ∃ I, I = ints (jnV mx a b) := ⟨_, rfl⟩
  obtain ⟨J, hJ⟩ : ∃ I, I = (ints (jnV mx a b)).toArray := ⟨_, rfl⟩
  obtain ⟨IM, hIM⟩ : ∃ I, I = ints (jnV mn a b) := ⟨_, rfl⟩
  obtain ⟨M, hM⟩ : ∃ I, I = (ints (jnV mn a b)).toArray := ⟨_, rfl⟩
  obtain ⟨N, hN⟩ : ∃ I, I = (ints (jnV mx b c)).toArray := ⟨_, rfl⟩
  obtain ⟨U, hU⟩ : ∃ I, I = (ints (jnV mx a (jnV mx b c))).toArray := ⟨_, rfl⟩
  obtain ⟨d1, hd1⟩ : ∃ d, d = cmpV a (jnV mx a b) := ⟨_, rfl⟩
  obtain ⟨d2, hd2⟩ : ∃ d, d = cmpV b (jnV mx a b) := ⟨_, rfl⟩
  obtain ⟨d3, hd3⟩ : ∃ d, d = cmpV (jnV mn a b) a := ⟨_, rfl⟩
  obtain ⟨d4, hd4⟩ : ∃ d, d = cmpV (jnV mn a b) b := ⟨_, rfl⟩
  obtain ⟨d5, hd5⟩ : ∃ d, d = cmpV a c := ⟨_, rfl⟩
  obtain ⟨d6, hd6⟩ : ∃ d, d = cmpV b c := ⟨_, rfl⟩
  obtain ⟨d7, hd7⟩ : ∃ d, d = cmpV (jnV mx a b) c := ⟨_, rfl⟩
  obtain ⟨d8, hd8⟩ : ∃ d, d = cmpV a b := ⟨_, rfl⟩
  obtain ⟨E, hE⟩ : ∃ d, d = decide (a = b) := ⟨_, rfl⟩
  rw [← hd1] at f1; rw [← hd2] at f2; rw [← hd3] at f3; rw [← hd4] at f4; rw [← hd7, ← hd5, ← hd6] at f5; rw [← hd8, ← hE] at f6
  have HF1 := Lib.hid f1; have HF2 := Lib.hid f2; have HF3 := Lib.hid f3; have HF4 := Lib.hid f4; have HF5 := Lib.hid f5; have HF6 := Lib.hid f6
  clear f1 f2 f3 f4 f5 f6
  have HIA := Lib.hid hIA
  have HIB := Lib.hid hIB
  have HIC := Lib.hid hIC
  have HA := Lib.hid hA
  have HB := Lib.hid hB
  have HC := Lib.hid hC
  have HIJ := Lib.hid hIJ
  have HIM := Lib.hid hIM
  have HJ := Lib.hid hJ
  have HM := Lib.hid hM
  have HN := Lib.hid hN
  have HU := Lib.hid hU
  have Hd1 := Lib.hid hd1
  have Hd2 := Lib.hid hd2
  have Hd3 := Lib.hid hd3
  have Hd4 := Lib.hid hd4
  have Hd5 := Lib.hid hd5
  have Hd6 := Lib.hid hd6
  have Hd7 := Lib.hid hd7
  have Hd8 := Lib.hid hd8
  have HE := Lib.hid hE
  obtain ⟨IZ, hIZ⟩ : ∃ I, I = ints (noughts 16) := ⟨_, rfl⟩
  have HIZ := Lib.hid hIZ
  have HZL : Hid (IZ.length = 16) := Lib.hid (len2 hIZ rfl)
  rw [← hA, ← hB, ← hC]
  clear hIA hIB hIC hA hB hC hIJ hIM hJ hM hN hU hd1 hd2 hd3 hd4 hd5 hd6 hd7 hd8 hE hIZ
  have TJ : Hid (∀ w, Calls Try.prog 8 #[.agg A, .agg B] w fun e w' => e = .returned (.agg J) ∧ Below w.heap.size w w') := Lib.hid (fun w => by have := join_any a b w HAL.out HBL.out; rw [HA.out, HB.out, HJ.out]; exact this)
  have TN : Hid (∀ w, Calls Try.prog 8 #[.agg B, .agg C] w fun e w' => e = .returned (.agg N) ∧ Below w.heap.size w w') := Lib.hid (fun w => by have := join_any b c w HBL.out HCL.out; rw [HB.out, HC.out, HN.out]; exact this)
  have TU : Hid (∀ w, Calls Try.prog 8 #[.agg A, .agg N] w fun e w' => e = .returned (.agg U) ∧ Below w.heap.size w w') := Lib.hid (fun w => by have := join_any a (jnV mx b c) w HAL.out HNL.out; rw [HA.out, HN.out, HU.out]; exact this)
  have TV : Hid (∀ w, Calls Try.prog 8 #[.agg J, .agg C] w fun e w' => e = .returned (.agg U) ∧ Below w.heap.size w w') := Lib.hid (fun w => by have := join_any (jnV mx a b) c w HJL.out HCL.out; rw [← jn_assoc HAL.out HBL.out] at this; rw [HJ.out, HC.out, HU.out]; exact this)
  have TA : Hid (∀ w, Calls Try.prog 8 #[.agg A, .agg A] w fun e w' => e = .returned (.agg A) ∧ Below w.heap.size w w') := Lib.hid (fun w => by have := join_any a a w HAL.out HAL.out; rw [jn_self HAL.out] at this; rw [HA.out]; exact this)
  have TB : Hid (∀ w, Calls Try.prog 8 #[.agg B, .agg A] w fun e w' => e = .returned (.agg J) ∧ Below w.heap.size w w') := Lib.hid (fun w => by have := join_any b a w HBL.out HAL.out; rw [jn_comm HAL.out HBL.out] at this; rw [HB.out, HA.out, HJ.out]; exact this)
  have TM : Hid (∀ w, Calls Try.prog 10 #[.agg A, .agg B] w fun e w' => e = .returned (.agg M) ∧ Below w.heap.size w w') := Lib.hid (fun w => by rw [HA.out, HB.out, HM.out]; exact meet_any a b w HAL.out HBL.out)
  have TC1 : Hid (∀ w, Calls Try.prog 12 #[.agg A, .agg J] w fun e w' => e = .returned (.int .i64 d1) ∧ Below w.heap.size w w') := Lib.hid (fun w => by rw [HA.out, HJ.out, Hd1.out]; exact compare_any _ _ w HAL.out HJL.out)
  have TC2 : Hid (∀ w, Calls Try.prog 12 #[.agg B, .agg J] w fun e w' => e = .returned (.int .i64 d2) ∧ Below w.heap.size w w') := Lib.hid (fun w => by rw [HB.out, HJ.out, Hd2.out]; exact compare_any _ _ w HBL.out HJL.out)
  have TC3 : Hid (∀ w, Calls Try.prog 12 #[.agg M, .agg A] w fun e w' => e = .returned (.int .i64 d3) ∧ Below w.heap.size w w') := Lib.hid (fun w => by rw [HM.out, HA.out, Hd3.out]; exact compare_any _ _ w HML.out HAL.out)
  have TC4 : Hid (∀ w, Calls Try.prog 12 #[.agg M, .agg B] w fun e w' => e = .returned (.int .i64 d4) ∧ Below w.heap.size w w') := Lib.hid (fun w => by rw [HM.out, HB.out, Hd4.out]; exact compare_any _ _ w HML.out HBL.out)
  have TC5 : Hid (∀ w, Calls Try.prog 12 #[.agg A, .agg C] w fun e w' => e = .returned (.int .i64 d5) ∧ Below w.heap.size w w') := Lib.hid (fun w => by rw [HA.out, HC.out, Hd5.out]; exact compare_any _ _ w HAL.out HCL.out)
  have TC6 : Hid (∀ w, Calls Try.prog 12 #[.agg B, .agg C] w fun e w' => e = .returned (.int .i64 d6) ∧ Below w.heap.size w w') := Lib.hid (fun w => by rw [HB.out, HC.out, Hd6.out]; exact compare_any _ _ w HBL.out HCL.out)
  have TC7 : Hid (∀ w, Calls Try.prog 12 #[.agg J, .agg C] w fun e w' => e = .returned (.int .i64 d7) ∧ Below w.heap.size w w') := Lib.hid (fun w => by rw [HJ.out, HC.out, Hd7.out]; exact compare_any _ _ w HJL.out HCL.out)
  have TC8 : Hid (∀ w, Calls Try.prog 12 #[.agg A, .agg B] w fun e w' => e = .returned (.int .i64 d8) ∧ Below w.heap.size w w') := Lib.hid (fun w => by rw [HA.out, HB.out, Hd8.out]; exact compare_any _ _ w HAL.out HBL.out)
  have HQA : Hid (∀ w, (binOp .eql 23 (.agg A) (.agg A)).run Try.prog w = .ok (.bool true) w) := Lib.hid (fun w => by have := vec_eql a a HAL.out HAL.out w; rw [decide_eq_true rfl, ← HA.out] at this; exact this)
  have HQJ : Hid (∀ w, (binOp .eql 23 (.agg J) (.agg J)).run Try.prog w = .ok (.bool true) w) := Lib.hid (fun w => by have := vec_eql (jnV mx a b) (jnV mx a b) HJL.out HJL.out w; rw [decide_eq_true rfl, ← HJ.out] at this; exact this)
  have HQU : Hid (∀ w, (binOp .eql 23 (.agg U) (.agg U)).run Try.prog w = .ok (.bool true) w) := Lib.hid (fun w => by have := vec_eql (jnV mx a (jnV mx b c)) (jnV mx a (jnV mx b c)) HUL.out HUL.out w; rw [decide_eq_true rfl, ← HU.out] at this; exact this)
  have HQE : Hid (∀ w, (binOp .eql 23 (.agg A) (.agg B)).run Try.prog w = .ok (.bool E) w) := Lib.hid (fun w => by have := vec_eql a b HAL.out HBL.out w; rw [← HE.out, ← HA.out, ← HB.out] at this; exact this)
  have b1 : Bk w.heap.size IA (w.alloc (.cells A 23)) := by rw [HA.out, HIA.out]; exact Bk.new w 23 (ints a).toArray
  have b2 : Bk (w.heap.size + 1) IB ((w.alloc (.cells A 23)).alloc (.cells B 23)) := by
    rw [HB.out, HIB.out]
    have := Bk.new (w.alloc (.cells A 23)) 23 (ints b).toArray
    rw [show (w.alloc (.cells A 23)).heap.size = w.heap.size + 1 by simp] at this
    exact this
  have b3 : Bk (w.heap.size + 1 + 1) IC (((w.alloc (.cells A 23)).alloc (.cells B 23)).alloc (.cells C 23)) := by
    rw [HC.out, HIC.out]
    have := Bk.new ((w.alloc (.cells A 23)).alloc (.cells B 23)) 23 (ints c).toArray
    rw [show ((w.alloc (.cells A 23)).alloc (.cells B 23)).heap.size = w.heap.size + 1 + 1 by simp] at this
    exact this
  have HS0 : Hid (Lat0 w IA IB IC (((w.alloc (.cells A 23)).alloc (.cells B 23)).alloc (.cells C 23))) := Lib.hid ⟨⟨(b1.keep (below_new _ (.cells B 23))).keep (below_new _ (.cells C 23)), b2.keep (below_new _ (.cells C 23))⟩, b3, (((Below.refl _ w).alloc (Nat.le_refl _) _).alloc (by simp) _).alloc (by simp; omega) _⟩
  clear b1 b2 b3
  have LA : Hid (∀ w1 : World, Lat0 w IA IB IC w1 → (Instr.loadAt 23 (.pointer (some ⟨w.heap.size, 0, none⟩))).run Try.prog w1 = .ok (.agg A) w1) := Lib.hid (fun w1 h => sl3 h.1.1 HIA.out HA.out HAL.out)
  have LB : Hid (∀ w1 : World, Lat0 w IA IB IC w1 → (Instr.loadAt 23 (.pointer (some ⟨w.heap.size + 1, 0, none⟩))).run Try.prog w1 = .ok (.agg B) w1) := Lib.hid (fun w1 h => sl3 h.1.2 HIB.out HB.out HBL.out)
  have LC : Hid (∀ w1 : World, Lat0 w IA IB IC w1 → (Instr.loadAt 23 (.pointer (some ⟨w.heap.size + 1 + 1, 0, none⟩))).run Try.prog w1 = .ok (.agg C) w1) := Lib.hid (fun w1 h => sl3 h.2.1 HIC.out HC.out HCL.out)
  go_enter Try.func5, Try.ntmps5
  go_wp2_with fail
  obtain ⟨W0, hW0⟩ : ∃ W0, W0 = (((w.alloc (.cells A 23)).alloc (.cells B 23)).alloc (.cells C 23)) := ⟨_, rfl⟩
  rw [← hW0] at HS0 ⊢
  clear hW0
  refine Code.wp_mono (Q := fun e x w' => match e with | .normal => ∃ p q : Nat, Lat1 w IA IB IC IJ IM p q w' ∧ x = { tmps := #[.agg A, .agg B, .agg C, .pointer (some ⟨w.heap.size, 0, none⟩), .pointer (some ⟨w.heap.size + 1, 0, none⟩), .pointer (some ⟨w.heap.size + 1 + 1, 0, none⟩), .bool false, .pointer (some ⟨p, 0, none⟩), .pointer (some ⟨q, 0, none⟩), undef, undef, .agg A, .agg B, .agg J, .agg A, .agg B, .agg M, undef, undef, undef, undef, undef, undef, undef, undef, undef, undef, undef, undef, undef, undef, undef, undef, undef, undef, undef, undef, undef, undef, undef, undef, undef, undef, undef, undef, undef, undef, undef, undef, undef, undef, undef, undef, undef, undef, undef, undef, undef, undef, undef, undef, undef, undef, undef, undef, undef, undef, undef, undef, undef, undef, undef, undef, undef, undef, undef, undef, undef, undef, undef, undef, undef, undef, undef, undef, undef, undef, undef, undef, undef, undef, undef, undef, undef, undef], defers := [] } | _ => False) ?_ ?_
  · intro e x w1 hx
    cases e <;> first | exact False.elim hx | skip
    obtain ⟨p, q, hl, rfl⟩ := hx
    dsimp only
    have HL1 := Lib.hid hl
    clear hl HS0
    have LJ : Hid (∀ w1 : World, Lat1 w IA IB IC IJ IM p q w1 → (Instr.loadAt 23 (.pointer (some ⟨p, 0, none⟩))).run Try.prog w1 = .ok (.agg J) w1) := Lib.hid (fun w1 h => sl3 h.2.1 HIJ.out HJ.out HJL.out)
    have LM : Hid (∀ w1 : World, Lat1 w IA IB IC IJ IM p q w1 → (Instr.loadAt 23 (.pointer (some ⟨q, 0, none⟩))).run Try.prog w1 = .ok (.agg M) w1) := Lib.hid (fun w1 h => sl3 h.2.2 HIM.out HM.out HML.out)
    have f1 := HF1.out
    have f2 := HF2.out
    have LA1 := LA.out w1 HL1.out.1
    have LB1 := LB.out w1 HL1.out.1
    have LC1 := LC.out w1 HL1.out.1
    have LJ1 := LJ.out w1 HL1.out
    have LM1 := LM.out w1 HL1.out
    go_wp2_with (first | (refine Go.Proofs.Ytommogkckooekaa.wpList_load_run (by rfl) 23 _ (by rfl) (by rfl) LA1 ?_) | (refine Go.Proofs.Ytommogkckooekaa.wpList_load_run (by rfl) 23 _ (by rfl) (by rfl) LB1 ?_) | (refine Go.Proofs.Ytommogkckooekaa.wpList_load_run (by rfl) 23 _ (by rfl) (by rfl) LC1 ?_) | (refine Go.Proofs.Ytommogkckooekaa.wpList_load_run (by rfl) 23 _ (by rfl) (by rfl) LJ1 ?_) | (refine Go.Proofs.Ytommogkckooekaa.wpList_load_run (by rfl) 23 _ (by rfl) (by rfl) LM1 ?_) | (refine wpList_load_want (by rfl) 23 _ (by rfl) (by rfl) LA1 ?_) | (refine wpList_load_want (by rfl) 23 _ (by rfl) (by rfl) LB1 ?_) | (refine wpList_load_want (by rfl) 23 _ (by rfl) (by rfl) LC1 ?_) | (refine wpList_load_want (by rfl) 23 _ (by rfl) (by rfl) LJ1 ?_) | (refine wpList_load_want (by rfl) 23 _ (by rfl) (by rfl) LM1 ?_))
    refine (TC1.out _).mono ?_
    rintro e w2 ⟨rfl, hb⟩
    clear LA1 LB1 LC1 LJ1 LM1
    have HL2 := Lib.hid (HL1.out.keep hb)
    clear hb
    have LA2 := LA.out w2 HL2.out.1
    have LB2 := LB.out w2 HL2.out.1
    have LC2 := LC.out w2 HL2.out.1
    have LJ2 := LJ.out w2 HL2.out
    have LM2 := LM.out w2 HL2.out
    go_wp2_with (first | (refine Go.Proofs.Ytommogkckooekaa.wpList_load_run (by rfl) 23 _ (by rfl) (by rfl) LA2 ?_) | (refine Go.Proofs.Ytommogkckooekaa.wpList_load_run (by rfl) 23 _ (by rfl) (by rfl) LB2 ?_) | (refine Go.Proofs.Ytommogkckooekaa.wpList_load_run (by rfl) 23 _ (by rfl) (by rfl) LC2 ?_) | (refine Go.Proofs.Ytommogkckooekaa.wpList_load_run (by rfl) 23 _ (by rfl) (by rfl) LJ2 ?_) | (refine Go.Proofs.Ytommogkckooekaa.wpList_load_run (by rfl) 23 _ (by rfl) (by rfl) LM2 ?_) | (refine wpList_load_want (by rfl) 23 _ (by rfl) (by rfl) LA2 ?_) | (refine wpList_load_want (by rfl) 23 _ (by rfl) (by rfl) LB2 ?_) | (refine wpList_load_want (by rfl) 23 _ (by rfl) (by rfl) LC2 ?_) | (refine wpList_load_want (by rfl) 23 _ (by rfl) (by rfl) LJ2 ?_) | (refine wpList_load_want (by rfl) 23 _ (by rfl) (by rfl) LM2 ?_))
    refine (TC2.out _).mono ?_
    rintro e w3 ⟨rfl, hb⟩
    clear LA2 LB2 LC2 LJ2 LM2
    have HL3 := Lib.hid (HL2.out.keep hb)
    clear hb
    have f3 := HF3.out
    have f4 := HF4.out
    have LA3 := LA.out w3 HL3.out.1
    have LB3 := LB.out w3 HL3.out.1
    have LC3 := LC.out w3 HL3.out.1
    have LJ3 := LJ.out w3 HL3.out
    have LM3 := LM.out w3 HL3.out
    go_wp2_with (first | (refine Go.Proofs.Ytommogkckooekaa.wpList_load_run (by rfl) 23 _ (by rfl) (by rfl) LA3 ?_) | (refine Go.Proofs.Ytommogkckooekaa.wpList_load_run (by rfl) 23 _ (by rfl) (by rfl) LB3 ?_) | (refine Go.Proofs.Ytommogkckooekaa.wpList_load_run (by rfl) 23 _ (by rfl) (by rfl) LC3 ?_) | (refine Go.Proofs.Ytommogkckooekaa.wpList_load_run (by rfl) 23 _ (by rfl) (by rfl) LJ3 ?_) | (refine Go.Proofs.Ytommogkckooekaa.wpList_load_run (by rfl) 23 _ (by rfl) (by rfl) LM3 ?_) | (refine wpList_load_want (by rfl) 23 _ (by rfl) (by rfl) LA3 ?_) | (refine wpList_load_want (by rfl) 23 _ (by rfl) (by rfl) LB3 ?_) | (refine wpList_load_want (by rfl) 23 _ (by rfl) (by rfl) LC3 ?_) | (refine wpList_load_want (by rfl) 23 _ (by rfl) (by rfl) LJ3 ?_) | (refine wpList_load_want (by rfl) 23 _ (by rfl) (by rfl) LM3 ?_))
    refine (TC3.out _).mono ?_
    rintro e w4 ⟨rfl, hb⟩
    clear LA3 LB3 LC3 LJ3 LM3
    have HL4 := Lib.hid (HL3.out.keep hb)
    clear hb
    have LA4 := LA.out w4 HL4.out.1
    have LB4 := LB.out w4 HL4.out.1
    have LC4 := LC.out w4 HL4.out.1
    have LJ4 := LJ.out w4 HL4.out
    have LM4 := LM.out w4 HL4.out
    go_wp2_with (first | (refine Go.Proofs.Ytommogkckooekaa.wpList_load_run (by rfl) 23 _ (by rfl) (by rfl) LA4 ?_) | (refine Go.Proofs.Ytommogkckooekaa.wpList_load_run (by rfl) 23 _ (by rfl) (by rfl) LB4 ?_) | (refine Go.Proofs.Ytommogkckooekaa.wpList_load_run (by rfl) 23 _ (by rfl) (by rfl) LC4 ?_) | (refine Go.Proofs.Ytommogkckooekaa.wpList_load_run (by rfl) 23 _ (by rfl) (by rfl) LJ4 ?_) | (refine Go.Proofs.Ytommogkckooekaa.wpList_load_run (by rfl) 23 _ (by rfl) (by rfl) LM4 ?_) | (refine wpList_load_want (by rfl) 23 _ (by rfl) (by rfl) LA4 ?_) | (refine wpList_load_want (by rfl) 23 _ (by rfl) (by rfl) LB4 ?_) | (refine wpList_load_want (by rfl) 23 _ (by rfl) (by rfl) LC4 ?_) | (refine wpList_load_want (by rfl) 23 _ (by rfl) (by rfl) LJ4 ?_) | (refine wpList_load_want (by rfl) 23 _ (by rfl) (by rfl) LM4 ?_))
    refine (TC4.out _).mono ?_
    rintro e w5 ⟨rfl, hb⟩
    clear LA4 LB4 LC4 LJ4 LM4
    have HL5 := Lib.hid (HL4.out.keep hb)
    clear hb
    go_wp2_with fail
    have qA := HQA.out; have qJ := HQJ.out; have qU := HQU.out; have qE := HQE.out
    have f6 := HF6.out
    have f7 := HF5.out
    by_cases h5 : d5 < 1
    · by_cases h6 : d6 < 1
      · replace f7 : d7 < 1 := f7.2 ⟨h5, h6⟩
        have hS := HL5.out.drew
        refine wp_region_held_drew (S := Lat1 w IA IB IC IJ IM p q) (by kernel_rfl) (by (exact hS)) (fun hHeld => ?_)
        refine wpAnyH_take (i := 0) (oi := { dst := some 37, op := Go.Op.load 23 (Go.Operand.tmp 3), type := 23, pos := "law.go:44", after := #[], guard := none }) (v := ?_) rfl (by kernel_rfl) (by kernel_rfl) (by kernel_rfl) (fun _ _ _ h => h) (Or.inl ⟨by rfl, ?_⟩) (by assumption) ?_
        (rotate_left; focus (intro wS hSw; first | (refine (exec_load (LA.out _ hSw.1) rfl rfl).trans ?_; with_reducible rfl) | (refine (exec_load (LB.out _ hSw.1) rfl rfl).trans ?_; with_reducible rfl) | (refine (exec_load (LC.out _ hSw.1) rfl rfl).trans ?_; with_reducible rfl) | (refine (exec_load (LJ.out _ hSw) rfl rfl).trans ?_; with_reducible rfl) | (refine (exec_load (LM.out _ hSw) rfl rfl).trans ?_; with_reducible rfl)))
        (try simp only [Act.put, List.setIfInBounds_toArray, List.set_cons_zero, List.set_cons_succ])
        refine wpAnyH_take (i := 1) (oi := { dst := some 38, op := Go.Op.load 23 (Go.Operand.tmp 5), type := 23, pos := "law.go:44", after := #[], guard := none }) (v := ?_) rfl (by kernel_rfl) (by kernel_rfl) (by kernel_rfl) (fun _ _ _ h => h) (Or.inl ⟨by rfl, ?_⟩) (by assumption) ?_
        (rotate_left; focus (intro wS hSw; first | (refine (exec_load (LA.out _ hSw.1) rfl rfl).trans ?_; with_reducible rfl) | (refine (exec_load (LB.out _ hSw.1) rfl rfl).trans ?_; with_reducible rfl) | (refine (exec_load (LC.out _ hSw.1) rfl rfl).trans ?_; with_reducible rfl) | (refine (exec_load (LJ.out _ hSw) rfl rfl).trans ?_; with_reducible rfl) | (refine (exec_load (LM.out _ hSw) rfl rfl).trans ?_; with_reducible rfl)))
        (try simp only [Act.put, List.setIfInBounds_toArray, List.set_cons_zero, List.set_cons_succ])
        refine wpAnyH_take (i := 11) (oi := { dst := some 48, op := Go.Op.load 23 (Go.Operand.tmp 7), type := 23, pos := "law.go:44", after := #[], guard := none }) (v := ?_) rfl (by kernel_rfl) (by kernel_rfl) (by kernel_rfl) (fun _ _ _ h => h) (Or.inl ⟨by rfl, ?_⟩) (by assumption) ?_
        (rotate_left; focus (intro wS hSw; first | (refine (exec_load (LA.out _ hSw.1) rfl rfl).trans ?_; with_reducible rfl) | (refine (exec_load (LB.out _ hSw.1) rfl rfl).trans ?_; with_reducible rfl) | (refine (exec_load (LC.out _ hSw.1) rfl rfl).trans ?_; with_reducible rfl) | (refine (exec_load (LJ.out _ hSw) rfl rfl).trans ?_; with_reducible rfl) | (refine (exec_load (LM.out _ hSw) rfl rfl).trans ?_; with_reducible rfl)))
        (try simp only [Act.put, List.setIfInBounds_toArray, List.set_cons_zero, List.set_cons_succ])
        refine wpAnyH_take (i := 12) (oi := { dst := some 49, op := Go.Op.load 23 (Go.Operand.tmp 5), type := 23, pos := "law.go:44", after := #[], guard := none }) (v := ?_) rfl (by kernel_rfl) (by kernel_rfl) (by kernel_rfl) (fun _ _ _ h => h) (Or.inl ⟨by rfl, ?_⟩) (by assumption) ?_
        (rotate_left; focus (intro wS hSw; first | (refine (exec_load (LA.out _ hSw.1) rfl rfl).trans ?_; with_reducible rfl) | (refine (exec_load (LB.out _ hSw.1) rfl rfl).trans ?_; with_reducible rfl) | (refine (exec_load (LC.out _ hSw.1) rfl rfl).trans ?_; with_reducible rfl) | (refine (exec_load (LJ.out _ hSw) rfl rfl).trans ?_; with_reducible rfl) | (refine (exec_load (LM.out _ hSw) rfl rfl).trans ?_; with_reducible rfl)))
        (try simp only [Act.put, List.setIfInBounds_toArray, List.set_cons_zero, List.set_cons_succ])
        refine wpAnyH_ready (rs := [2]) (by kernel_rfl) (by simp) ?_
        refine AllReadyH.cons (o := { dst := some 39, op := Go.Op.call { callee := Go.Callee.value (Go.Operand.func 12), args := #[Go.Operand.tmp 37, Go.Operand.tmp 38], argTypes := #[23, 23] }, type := 3, pos := "law.go:44", after := #[{ on := 0, ground := Go.Ground.data }, { on := 1, ground := Go.Ground.data }], guard := none }) rfl (fun K hK => ?_) AllReadyH.nil
        go_simp
        refine (TC5.out _).mono ?_
        rintro e v5 ⟨rfl, hb⟩
        replace hS := hS.keep hb
        clear hb
        (try go_wp2_with fail)
        refine hK.out _ _ (by (exact hS)) (fun hHeld => ?_)
        clear hK K
        (try simp only [Act.put, List.setIfInBounds_toArray, List.set_cons_zero, List.set_cons_succ])
        refine wpAnyH_take (i := 3) (oi := { dst := some 40, op := Go.Op.binOp Go.BinOp.lss 3 (Go.Operand.tmp 39) (Go.Operand.const (Go.Value.int Go.IntKind.i64 1)) 3, type := 4, pos := "law.go:44", after := #[{ on := 2, ground := Go.Ground.data }], guard := none }) (v := ?_) rfl (by kernel_rfl) (by kernel_rfl) (by kernel_rfl) (fun _ _ _ h => h) (Or.inl ⟨by rfl, ?_⟩) (by assumption) ?_
        (rotate_left; focus (intro wS hSw; (try dsimp only at hSw); go_simp; (try rw [if_neg (by omega)]); try with_reducible rfl))
        (try simp only [Act.put, List.setIfInBounds_toArray, List.set_cons_zero, List.set_cons_succ])
        refine wpAnyH_take (i := 4) (oi := { dst := some 41, op := Go.Op.move (Go.Operand.tmp 40), type := 4, pos := "law.go:44", after := #[{ on := 3, ground := Go.Ground.data }, { on := 2, ground := Go.Ground.chain }], guard := none }) (v := ?_) rfl (by kernel_rfl) (by kernel_rfl) (by kernel_rfl) (fun _ _ _ h => h) (Or.inl ⟨by rfl, ?_⟩) (by assumption) ?_
        (rotate_left; focus (intro wS hSw; (try dsimp only at hSw); go_simp; (try rw [if_neg (by omega)]); try with_reducible rfl))
        (try simp only [Act.put, List.setIfInBounds_toArray, List.set_cons_zero, List.set_cons_succ])
        refine wpAnyH_take (i := 5) (oi := { dst := some 42, op := Go.Op.load 23 (Go.Operand.tmp 4), type := 23, pos := "law.go:44", after := #[{ on := 4, ground := Go.Ground.guard }], guard := some (4, true) }) (v := ?_) rfl (by kernel_rfl) (by kernel_rfl) (by kernel_rfl) (fun _ _ _ h => h) (Or.inl ⟨by rfl, ?_⟩) (by assumption) ?_
        (rotate_left; focus (intro wS hSw; first | (refine (exec_load (LA.out _ hSw.1) rfl rfl).trans ?_; with_reducible rfl) | (refine (exec_load (LB.out _ hSw.1) rfl rfl).trans ?_; with_reducible rfl) | (refine (exec_load (LC.out _ hSw.1) rfl rfl).trans ?_; with_reducible rfl) | (refine (exec_load (LJ.out _ hSw) rfl rfl).trans ?_; with_reducible rfl) | (refine (exec_load (LM.out _ hSw) rfl rfl).trans ?_; with_reducible rfl)))
        (try simp only [Act.put, List.setIfInBounds_toArray, List.set_cons_zero, List.set_cons_succ])
        refine wpAnyH_take (i := 6) (oi := { dst := some 43, op := Go.Op.load 23 (Go.Operand.tmp 5), type := 23, pos := "law.go:44", after := #[{ on := 4, ground := Go.Ground.guard }], guard := some (4, true) }) (v := ?_) rfl (by kernel_rfl) (by kernel_rfl) (by kernel_rfl) (fun _ _ _ h => h) (Or.inl ⟨by rfl, ?_⟩) (by assumption) ?_
        (rotate_left; focus (intro wS hSw; first | (refine (exec_load (LA.out _ hSw.1) rfl rfl).trans ?_; with_reducible rfl) | (refine (exec_load (LB.out _ hSw.1) rfl rfl).trans ?_; with_reducible rfl) | (refine (exec_load (LC.out _ hSw.1) rfl rfl).trans ?_; with_reducible rfl) | (refine (exec_load (LJ.out _ hSw) rfl rfl).trans ?_; with_reducible rfl) | (refine (exec_load (LM.out _ hSw) rfl rfl).trans ?_; with_reducible rfl)))
        (try simp only [Act.put, List.setIfInBounds_toArray, List.set_cons_zero, List.set_cons_succ])
        refine wpAnyH_ready (rs := [7]) (by kernel_rfl) (by simp) ?_
        refine AllReadyH.cons (o := { dst := some 44, op := Go.Op.call { callee := Go.Callee.value (Go.Operand.func 12), args := #[Go.Operand.tmp 42, Go.Operand.tmp 43], argTypes := #[23, 23] }, type := 3, pos := "law.go:44", after := #[{ on := 5, ground := Go.Ground.data }, { on := 6, ground := Go.Ground.data }, { on := 4, ground := Go.Ground.chain }, { on := 4, ground := Go.Ground.guard }], guard := some (4, true) }) rfl (fun K hK => ?_) AllReadyH.nil
        go_simp
        refine (TC6.out _).mono ?_
        rintro e v6 ⟨rfl, hb⟩
        replace hS := hS.keep hb
        clear hb
        (try go_wp2_with fail)
        refine hK.out _ _ (by (exact hS)) (fun hHeld => ?_)
        clear hK K
        (try simp only [Act.put, List.setIfInBounds_toArray, List.set_cons_zero, List.set_cons_succ])
        refine wpAnyH_take (i := 8) (oi := { dst := some 45, op := Go.Op.binOp Go.BinOp.lss 3 (Go.Operand.tmp 44) (Go.Operand.const (Go.Value.int Go.IntKind.i64 1)) 3, type := 4, pos := "law.go:44", after := #[{ on := 7, ground := Go.Ground.data }, { on := 4, ground := Go.Ground.guard }], guard := some (4, true) }) (v := ?_) rfl (by kernel_rfl) (by kernel_rfl) (by kernel_rfl) (fun _ _ _ h => h) (Or.inl ⟨by rfl, ?_⟩) (by assumption) ?_
        (rotate_left; focus (intro wS hSw; (try dsimp only at hSw); go_simp; (try rw [if_neg (by omega)]); try with_reducible rfl))
        (try simp only [Act.put, List.setIfInBounds_toArray, List.set_cons_zero, List.set_cons_succ])
        refine wpAnyH_take (i := 9) (oi := { dst := some 46, op := Go.Op.pick (Go.Operand.tmp 41) (Go.Operand.tmp 45) (Go.Operand.const (Go.Value.bool false)), type := 4, pos := "law.go:44", after := #[{ on := 4, ground := Go.Ground.data }, { on := 8, ground := Go.Ground.data }], guard := none }) (v := ?_) rfl (by kernel_rfl) (by kernel_rfl) (by kernel_rfl) (fun _ _ _ h => h) (Or.inl ⟨by rfl, ?_⟩) (by assumption) ?_
        (rotate_left; focus (intro wS hSw; (try dsimp only at hSw); go_simp; (try rw [if_neg (by omega)]); try with_reducible rfl))
        (try simp only [Act.put, List.setIfInBounds_toArray, List.set_cons_zero, List.set_cons_succ])
        refine wpAnyH_take (i := 10) (oi := { dst := some 47, op := Go.Op.unOp Go.UnOp.not 4 (Go.Operand.tmp 46), type := 4, pos := "law.go:44", after := #[{ on := 9, ground := Go.Ground.data }], guard := none }) (v := ?_) rfl (by kernel_rfl) (by kernel_rfl) (by kernel_rfl) (fun _ _ _ h => h) (Or.inl ⟨by rfl, ?_⟩) (by assumption) ?_
        (rotate_left; focus (intro wS hSw; (try dsimp only at hSw); go_simp; (try rw [if_neg (by omega)]); try with_reducible rfl))
        (try simp only [Act.put, List.setIfInBounds_toArray, List.set_cons_zero, List.set_cons_succ])
        refine wpAnyH_ready (rs := [13]) (by kernel_rfl) (by simp) ?_
        refine AllReadyH.cons (o := { dst := some 50, op := Go.Op.call { callee := Go.Callee.value (Go.Operand.func 12), args := #[Go.Operand.tmp 48, Go.Operand.tmp 49], argTypes := #[23, 23] }, type := 3, pos := "law.go:44", after := #[{ on := 11, ground := Go.Ground.data }, { on := 12, ground := Go.Ground.data }, { on := 7, ground := Go.Ground.chain }], guard := none }) rfl (fun K hK => ?_) AllReadyH.nil
        go_simp
        refine (TC7.out _).mono ?_
        rintro e v7 ⟨rfl, hb⟩
        replace hS := hS.keep hb
        clear hb
        (try go_wp2_with fail)
        refine hK.out _ _ (by (exact hS)) (fun hHeld => ?_)
        clear hK K
        (try simp only [Act.put, List.setIfInBounds_toArray, List.set_cons_zero, List.set_cons_succ])
        refine wpAnyH_take (i := 14) (oi := { dst := some 51, op := Go.Op.binOp Go.BinOp.lss 3 (Go.Operand.tmp 50) (Go.Operand.const (Go.Value.int Go.IntKind.i64 1)) 3, type := 4, pos := "law.go:44", after := #[{ on := 13, ground := Go.Ground.data }], guard := none }) (v := ?_) rfl (by kernel_rfl) (by kernel_rfl) (by kernel_rfl) (fun _ _ _ h => h) (Or.inl ⟨by rfl, ?_⟩) (by assumption) ?_
        (rotate_left; focus (intro wS hSw; (try dsimp only at hSw); go_simp; (try rw [if_neg (by omega)]); try with_reducible rfl))
        (try simp only [Act.put, List.setIfInBounds_toArray, List.set_cons_zero, List.set_cons_succ])
        refine wpAnyH_take (i := 15) (oi := { dst := some 52, op := Go.Op.binOp Go.BinOp.eql 4 (Go.Operand.tmp 47) (Go.Operand.tmp 51) 4, type := 4, pos := "law.go:44", after := #[{ on := 10, ground := Go.Ground.data }, { on := 14, ground := Go.Ground.data }], guard := none }) (v := ?_) rfl (by kernel_rfl) (by kernel_rfl) (by kernel_rfl) (fun _ _ _ h => h) (Or.inl ⟨by rfl, ?_⟩) (by assumption) ?_
        (rotate_left; focus (intro wS hSw; (try dsimp only at hSw); go_simp; (try rw [if_neg (by omega)]); try with_reducible rfl))
        (try simp only [Act.put, List.setIfInBounds_toArray, List.set_cons_zero, List.set_cons_succ])
        refine wpAnyH_done (by kernel_rfl) ?_ _
        go_wp2_with fail
        replace hS := hS.drew
        refine wp_region_held_drew (S := Lat1 w IA IB IC IJ IM p q) (by kernel_rfl) (by (exact hS)) (fun hHeld => ?_)
        refine wpAnyH_take (i := 0) (oi := { dst := some 53, op := Go.Op.move (Go.Operand.tmp 9), type := 4, pos := "law.go:47", after := #[], guard := none }) (v := ?_) rfl (by kernel_rfl) (by kernel_rfl) (by kernel_rfl) (fun _ _ _ h => h) (Or.inl ⟨by rfl, ?_⟩) (by assumption) ?_
        (rotate_left; focus (intro wS hSw; (try dsimp only at hSw); go_simp; (try rw [if_neg (by omega)]); try with_reducible rfl))
        (try simp only [Act.put, List.setIfInBounds_toArray, List.set_cons_zero, List.set_cons_succ])
        refine wpAnyH_take (i := 1) (oi := { dst := some 54, op := Go.Op.move (Go.Operand.tmp 53), type := 4, pos := "law.go:47", after := #[{ on := 0, ground := Go.Ground.data }], guard := none }) (v := ?_) rfl (by kernel_rfl) (by kernel_rfl) (by kernel_rfl) (fun _ _ _ h => h) (Or.inl ⟨by rfl, ?_⟩) (by assumption) ?_
        (rotate_left; focus (intro wS hSw; (try dsimp only at hSw); go_simp; (try rw [if_neg (by omega)]); try with_reducible rfl))
        (try simp only [Act.put, List.setIfInBounds_toArray, List.set_cons_zero, List.set_cons_succ])
        refine wpAnyH_take (i := 2) (oi := { dst := some 55, op := Go.Op.move (Go.Operand.tmp 10), type := 4, pos := "law.go:47", after := #[{ on := 1, ground := Go.Ground.guard }], guard := some (1, true) }) (v := ?_) rfl (by kernel_rfl) (by kernel_rfl) (by kernel_rfl) (fun _ _ _ h => h) (Or.inl ⟨by rfl, ?_⟩) (by assumption) ?_
        (rotate_left; focus (intro wS hSw; (try dsimp only at hSw); go_simp; (try rw [if_neg (by omega)]); try with_reducible rfl))
        (try simp only [Act.put, List.setIfInBounds_toArray, List.set_cons_zero, List.set_cons_succ])
        refine wpAnyH_take (i := 3) (oi := { dst := some 56, op := Go.Op.pick (Go.Operand.tmp 54) (Go.Operand.tmp 55) (Go.Operand.const (Go.Value.bool false)), type := 4, pos := "law.go:47", after := #[{ on := 1, ground := Go.Ground.data }, { on := 2, ground := Go.Ground.data }], guard := none }) (v := ?_) rfl (by kernel_rfl) (by kernel_rfl) (by kernel_rfl) (fun _ _ _ h => h) (Or.inl ⟨by rfl, ?_⟩) (by assumption) ?_
        (rotate_left; focus (intro wS hSw; (try dsimp only at hSw); go_simp; (try rw [if_neg (by omega)]); try with_reducible rfl))
        (try simp only [Act.put, List.setIfInBounds_toArray, List.set_cons_zero, List.set_cons_succ])
        refine wpAnyH_take (i := 4) (oi := { dst := some 57, op := Go.Op.move (Go.Operand.tmp 56), type := 4, pos := "law.go:47", after := #[{ on := 3, ground := Go.Ground.data }, { on := 1, ground := Go.Ground.chain }], guard := none }) (v := ?_) rfl (by kernel_rfl) (by kernel_rfl) (by kernel_rfl) (fun _ _ _ h => h) (Or.inl ⟨by rfl, ?_⟩) (by assumption) ?_
        (rotate_left; focus (intro wS hSw; (try dsimp only at hSw); go_simp; (try rw [if_neg (by omega)]); try with_reducible rfl))
        (try simp only [Act.put, List.setIfInBounds_toArray, List.set_cons_zero, List.set_cons_succ])
        refine wpAnyH_take (i := 5) (oi := { dst := some 58, op := Go.Op.load 23 (Go.Operand.tmp 3), type := 23, pos := "law.go:47", after := #[{ on := 4, ground := Go.Ground.guard }], guard := some (4, true) }) (v := ?_) rfl (by kernel_rfl) (by kernel_rfl) (by kernel_rfl) (fun _ _ _ h => h) (Or.inl ⟨by rfl, ?_⟩) (by assumption) ?_
        (rotate_left; focus (intro wS hSw; first | (refine (exec_load (LA.out _ hSw.1) rfl rfl).trans ?_; with_reducible rfl) | (refine (exec_load (LB.out _ hSw.1) rfl rfl).trans ?_; with_reducible rfl) | (refine (exec_load (LC.out _ hSw.1) rfl rfl).trans ?_; with_reducible rfl) | (refine (exec_load (LJ.out _ hSw) rfl rfl).trans ?_; with_reducible rfl) | (refine (exec_load (LM.out _ hSw) rfl rfl).trans ?_; with_reducible rfl)))
        (try simp only [Act.put, List.setIfInBounds_toArray, List.set_cons_zero, List.set_cons_succ])
        refine wpAnyH_take (i := 6) (oi := { dst := some 59, op := Go.Op.load 23 (Go.Operand.tmp 4), type := 23, pos := "law.go:47", after := #[{ on := 4, ground := Go.Ground.guard }], guard := some (4, true) }) (v := ?_) rfl (by kernel_rfl) (by kernel_rfl) (by kernel_rfl) (fun _ _ _ h => h) (Or.inl ⟨by rfl, ?_⟩) (by assumption) ?_
        (rotate_left; focus (intro wS hSw; first | (refine (exec_load (LA.out _ hSw.1) rfl rfl).trans ?_; with_reducible rfl) | (refine (exec_load (LB.out _ hSw.1) rfl rfl).trans ?_; with_reducible rfl) | (refine (exec_load (LC.out _ hSw.1) rfl rfl).trans ?_; with_reducible rfl) | (refine (exec_load (LJ.out _ hSw) rfl rfl).trans ?_; with_reducible rfl) | (refine (exec_load (LM.out _ hSw) rfl rfl).trans ?_; with_reducible rfl)))
        (try simp only [Act.put, List.setIfInBounds_toArray, List.set_cons_zero, List.set_cons_succ])
        refine wpAnyH_take (i := 7) (oi := { dst := some 60, op := Go.Op.load 23 (Go.Operand.tmp 5), type := 23, pos := "law.go:47", after := #[{ on := 4, ground := Go.Ground.guard }], guard := some (4, true) }) (v := ?_) rfl (by kernel_rfl) (by kernel_rfl) (by kernel_rfl) (fun _ _ _ h => h) (Or.inl ⟨by rfl, ?_⟩) (by assumption) ?_
        (rotate_left; focus (intro wS hSw; first | (refine (exec_load (LA.out _ hSw.1) rfl rfl).trans ?_; with_reducible rfl) | (refine (exec_load (LB.out _ hSw.1) rfl rfl).trans ?_; with_reducible rfl) | (refine (exec_load (LC.out _ hSw.1) rfl rfl).trans ?_; with_reducible rfl) | (refine (exec_load (LJ.out _ hSw) rfl rfl).trans ?_; with_reducible rfl) | (refine (exec_load (LM.out _ hSw) rfl rfl).trans ?_; with_reducible rfl)))
        (try simp only [Act.put, List.setIfInBounds_toArray, List.set_cons_zero, List.set_cons_succ])
        refine wpAnyH_take (i := 10) (oi := { dst := some 63, op := Go.Op.load 23 (Go.Operand.tmp 7), type := 23, pos := "law.go:47", after := #[{ on := 4, ground := Go.Ground.guard }], guard := some (4, true) }) (v := ?_) rfl (by kernel_rfl) (by kernel_rfl) (by kernel_rfl) (fun _ _ _ h => h) (Or.inl ⟨by rfl, ?_⟩) (by assumption) ?_
        (rotate_left; focus (intro wS hSw; first | (refine (exec_load (LA.out _ hSw.1) rfl rfl).trans ?_; with_reducible rfl) | (refine (exec_load (LB.out _ hSw.1) rfl rfl).trans ?_; with_reducible rfl) | (refine (exec_load (LC.out _ hSw.1) rfl rfl).trans ?_; with_reducible rfl) | (refine (exec_load (LJ.out _ hSw) rfl rfl).trans ?_; with_reducible rfl) | (refine (exec_load (LM.out _ hSw) rfl rfl).trans ?_; with_reducible rfl)))
        (try simp only [Act.put, List.setIfInBounds_toArray, List.set_cons_zero, List.set_cons_succ])
        refine wpAnyH_take (i := 11) (oi := { dst := some 64, op := Go.Op.load 23 (Go.Operand.tmp 5), type := 23, pos := "law.go:47", after := #[{ on := 4, ground := Go.Ground.guard }], guard := some (4, true) }) (v := ?_) rfl (by kernel_rfl) (by kernel_rfl) (by kernel_rfl) (fun _ _ _ h => h) (Or.inl ⟨by rfl, ?_⟩) (by assumption) ?_
        (rotate_left; focus (intro wS hSw; first | (refine (exec_load (LA.out _ hSw.1) rfl rfl).trans ?_; with_reducible rfl) | (refine (exec_load (LB.out _ hSw.1) rfl rfl).trans ?_; with_reducible rfl) | (refine (exec_load (LC.out _ hSw.1) rfl rfl).trans ?_; with_reducible rfl) | (refine (exec_load (LJ.out _ hSw) rfl rfl).trans ?_; with_reducible rfl) | (refine (exec_load (LM.out _ hSw) rfl rfl).trans ?_; with_reducible rfl)))
        (try simp only [Act.put, List.setIfInBounds_toArray, List.set_cons_zero, List.set_cons_succ])
        refine wpAnyH_ready (rs := [8]) (by kernel_rfl) (by simp) ?_
        refine AllReadyH.cons (o := { dst := some 61, op := Go.Op.call { callee := Go.Callee.value (Go.Operand.func 8), args := #[Go.Operand.tmp 59, Go.Operand.tmp 60], argTypes := #[23, 23] }, type := 23, pos := "law.go:47", after := #[{ on := 6, ground := Go.Ground.data }, { on := 7, ground := Go.Ground.data }, { on := 4, ground := Go.Ground.chain }, { on := 4, ground := Go.Ground.guard }], guard := some (4, true) }) rfl (fun K hK => ?_) AllReadyH.nil
        go_simp
        refine (TN.out _).mono ?_
        rintro e u8 ⟨rfl, hb⟩
        replace hS := hS.keep hb
        clear hb
        (try go_wp2_with fail)
        refine hK.out _ _ (by (exact hS)) (fun hHeld => ?_)
        clear hK K
        (try simp only [Act.put, List.setIfInBounds_toArray, List.set_cons_zero, List.set_cons_succ])
        refine wpAnyH_ready (rs := [9]) (by kernel_rfl) (by simp) ?_
        refine AllReadyH.cons (o := { dst := some 62, op := Go.Op.call { callee := Go.Callee.value (Go.Operand.func 8), args := #[Go.Operand.tmp 58, Go.Operand.tmp 61], argTypes := #[23, 23] }, type := 23, pos := "law.go:47", after := #[{ on := 5, ground := Go.Ground.data }, { on := 8, ground := Go.Ground.data }, { on := 8, ground := Go.Ground.chain }, { on := 4, ground := Go.Ground.guard }], guard := some (4, true) }) rfl (fun K hK => ?_) AllReadyH.nil
        go_simp
        refine (TU.out _).mono ?_
        rintro e u9 ⟨rfl, hb⟩
        replace hS := hS.keep hb
        clear hb
        (try go_wp2_with fail)
        refine hK.out _ _ (by (exact hS)) (fun hHeld => ?_)
        clear hK K
        (try simp only [Act.put, List.setIfInBounds_toArray, List.set_cons_zero, List.set_cons_succ])
        refine wpAnyH_ready (rs := [12]) (by kernel_rfl) (by simp) ?_
        refine AllReadyH.cons (o := { dst := some 65, op := Go.Op.call { callee := Go.Callee.value (Go.Operand.func 8), args := #[Go.Operand.tmp 63, Go.Operand.tmp 64], argTypes := #[23, 23] }, type := 23, pos := "law.go:47", after := #[{ on := 10, ground := Go.Ground.data }, { on := 11, ground := Go.Ground.data }, { on := 9, ground := Go.Ground.chain }, { on := 4, ground := Go.Ground.guard }], guard := some (4, true) }) rfl (fun K hK => ?_) AllReadyH.nil
        go_simp
        refine (TV.out _).mono ?_
        rintro e u12 ⟨rfl, hb⟩
        replace hS := hS.keep hb
        clear hb
        (try go_wp2_with fail)
        refine hK.out _ _ (by (exact hS)) (fun hHeld => ?_)
        clear hK K
        (try simp only [Act.put, List.setIfInBounds_toArray, List.set_cons_zero, List.set_cons_succ])
        refine wpAnyH_take (i := 13) (oi := { dst := some 66, op := Go.Op.binOp Go.BinOp.eql 23 (Go.Operand.tmp 62) (Go.Operand.tmp 65) 23, type := 4, pos := "law.go:47", after := #[{ on := 9, ground := Go.Ground.data }, { on := 12, ground := Go.Ground.data }, { on := 4, ground := Go.Ground.guard }], guard := some (4, true) }) (v := ?_) rfl (by kernel_rfl) (by kernel_rfl) (by kernel_rfl) (fun _ _ _ h => h) (Or.inl ⟨by rfl, ?_⟩) (by assumption) ?_
        (rotate_left; focus (intro wS hSw; (try dsimp only at hSw); go_simp; (try rw [if_neg (by omega)]); try with_reducible rfl))
        (try simp only [Act.put, List.setIfInBounds_toArray, List.set_cons_zero, List.set_cons_succ])
        refine wpAnyH_take (i := 14) (oi := { dst := some 67, op := Go.Op.pick (Go.Operand.tmp 57) (Go.Operand.tmp 66) (Go.Operand.const (Go.Value.bool false)), type := 4, pos := "law.go:47", after := #[{ on := 4, ground := Go.Ground.data }, { on := 13, ground := Go.Ground.data }], guard := none }) (v := ?_) rfl (by kernel_rfl) (by kernel_rfl) (by kernel_rfl) (fun _ _ _ h => h) (Or.inl ⟨by rfl, ?_⟩) (by assumption) ?_
        (rotate_left; focus (intro wS hSw; (try dsimp only at hSw); go_simp; (try rw [if_neg (by omega)]); try with_reducible rfl))
        (try simp only [Act.put, List.setIfInBounds_toArray, List.set_cons_zero, List.set_cons_succ])
        refine wpAnyH_take (i := 15) (oi := { dst := some 68, op := Go.Op.move (Go.Operand.tmp 67), type := 4, pos := "law.go:47", after := #[{ on := 14, ground := Go.Ground.data }, { on := 12, ground := Go.Ground.chain }], guard := none }) (v := ?_) rfl (by kernel_rfl) (by kernel_rfl) (by kernel_rfl) (fun _ _ _ h => h) (Or.inl ⟨by rfl, ?_⟩) (by assumption) ?_
        (rotate_left; focus (intro wS hSw; (try dsimp only at hSw); go_simp; (try rw [if_neg (by omega)]); try with_reducible rfl))
        (try simp only [Act.put, List.setIfInBounds_toArray, List.set_cons_zero, List.set_cons_succ])
        refine wpAnyH_take (i := 16) (oi := { dst := some 69, op := Go.Op.load 23 (Go.Operand.tmp 3), type := 23, pos := "law.go:47", after := #[{ on := 15, ground := Go.Ground.guard }], guard := some (15, true) }) (v := ?_) rfl (by kernel_rfl) (by kernel_rfl) (by kernel_rfl) (fun _ _ _ h => h) (Or.inl ⟨by rfl, ?_⟩) (by assumption) ?_
        (rotate_left; focus (intro wS hSw; first | (refine (exec_load (LA.out _ hSw.1) rfl rfl).trans ?_; with_reducible rfl) | (refine (exec_load (LB.out _ hSw.1) rfl rfl).trans ?_; with_reducible rfl) | (refine (exec_load (LC.out _ hSw.1) rfl rfl).trans ?_; with_reducible rfl) | (refine (exec_load (LJ.out _ hSw) rfl rfl).trans ?_; with_reducible rfl) | (refine (exec_load (LM.out _ hSw) rfl rfl).trans ?_; with_reducible rfl)))
        (try simp only [Act.put, List.setIfInBounds_toArray, List.set_cons_zero, List.set_cons_succ])
        refine wpAnyH_take (i := 17) (oi := { dst := some 70, op := Go.Op.load 23 (Go.Operand.tmp 3), type := 23, pos := "law.go:47", after := #[{ on := 15, ground := Go.Ground.guard }], guard := some (15, true) }) (v := ?_) rfl (by kernel_rfl) (by kernel_rfl) (by kernel_rfl) (fun _ _ _ h => h) (Or.inl ⟨by rfl, ?_⟩) (by assumption) ?_
        (rotate_left; focus (intro wS hSw; first | (refine (exec_load (LA.out _ hSw.1) rfl rfl).trans ?_; with_reducible rfl) | (refine (exec_load (LB.out _ hSw.1) rfl rfl).trans ?_; with_reducible rfl) | (refine (exec_load (LC.out _ hSw.1) rfl rfl).trans ?_; with_reducible rfl) | (refine (exec_load (LJ.out _ hSw) rfl rfl).trans ?_; with_reducible rfl) | (refine (exec_load (LM.out _ hSw) rfl rfl).trans ?_; with_reducible rfl)))
        (try simp only [Act.put, List.setIfInBounds_toArray, List.set_cons_zero, List.set_cons_succ])
        refine wpAnyH_take (i := 19) (oi := { dst := some 72, op := Go.Op.load 23 (Go.Operand.tmp 3), type := 23, pos := "law.go:47", after := #[{ on := 15, ground := Go.Ground.guard }], guard := some (15, true) }) (v := ?_) rfl (by kernel_rfl) (by kernel_rfl) (by kernel_rfl) (fun _ _ _ h => h) (Or.inl ⟨by rfl, ?_⟩) (by assumption) ?_
        (rotate_left; focus (intro wS hSw; first | (refine (exec_load (LA.out _ hSw.1) rfl rfl).trans ?_; with_reducible rfl) | (refine (exec_load (LB.out _ hSw.1) rfl rfl).trans ?_; with_reducible rfl) | (refine (exec_load (LC.out _ hSw.1) rfl rfl).trans ?_; with_reducible rfl) | (refine (exec_load (LJ.out _ hSw) rfl rfl).trans ?_; with_reducible rfl) | (refine (exec_load (LM.out _ hSw) rfl rfl).trans ?_; with_reducible rfl)))
        (try simp only [Act.put, List.setIfInBounds_toArray, List.set_cons_zero, List.set_cons_succ])
        refine wpAnyH_ready (rs := [18]) (by kernel_rfl) (by simp) ?_
        refine AllReadyH.cons (o := { dst := some 71, op := Go.Op.call { callee := Go.Callee.value (Go.Operand.func 8), args := #[Go.Operand.tmp 69, Go.Operand.tmp 70], argTypes := #[23, 23] }, type := 23, pos := "law.go:47", after := #[{ on := 16, ground := Go.Ground.data }, { on := 17, ground := Go.Ground.data }, { on := 15, ground := Go.Ground.chain }, { on := 15, ground := Go.Ground.guard }], guard := some (15, true) }) rfl (fun K hK => ?_) AllReadyH.nil
        go_simp
        refine (TA.out _).mono ?_
        rintro e u18 ⟨rfl, hb⟩
        replace hS := hS.keep hb
        clear hb
        (try go_wp2_with fail)
        refine hK.out _ _ (by (exact hS)) (fun hHeld => ?_)
        clear hK K
        (try simp only [Act.put, List.setIfInBounds_toArray, List.set_cons_zero, List.set_cons_succ])
        refine wpAnyH_take (i := 20) (oi := { dst := some 73, op := Go.Op.binOp Go.BinOp.eql 23 (Go.Operand.tmp 71) (Go.Operand.tmp 72) 23, type := 4, pos := "law.go:47", after := #[{ on := 18, ground := Go.Ground.data }, { on := 19, ground := Go.Ground.data }, { on := 15, ground := Go.Ground.guard }], guard := some (15, true) }) (v := ?_) rfl (by kernel_rfl) (by kernel_rfl) (by kernel_rfl) (fun _ _ _ h => h) (Or.inl ⟨by rfl, ?_⟩) (by assumption) ?_
        (rotate_left; focus (intro wS hSw; (try dsimp only at hSw); go_simp; (try rw [if_neg (by omega)]); try with_reducible rfl))
        (try simp only [Act.put, List.setIfInBounds_toArray, List.set_cons_zero, List.set_cons_succ])
        refine wpAnyH_take (i := 21) (oi := { dst := some 74, op := Go.Op.pick (Go.Operand.tmp 68) (Go.Operand.tmp 73) (Go.Operand.const (Go.Value.bool false)), type := 4, pos := "law.go:47", after := #[{ on := 15, ground := Go.Ground.data }, { on := 20, ground := Go.Ground.data }], guard := none }) (v := ?_) rfl (by kernel_rfl) (by kernel_rfl) (by kernel_rfl) (fun _ _ _ h => h) (Or.inl ⟨by rfl, ?_⟩) (by assumption) ?_
        (rotate_left; focus (intro wS hSw; (try dsimp only at hSw); go_simp; (try rw [if_neg (by omega)]); try with_reducible rfl))
        (try simp only [Act.put, List.setIfInBounds_toArray, List.set_cons_zero, List.set_cons_succ])
        refine wpAnyH_take (i := 22) (oi := { dst := some 75, op := Go.Op.move (Go.Operand.tmp 74), type := 4, pos := "law.go:47", after := #[{ on := 21, ground := Go.Ground.data }, { on := 18, ground := Go.Ground.chain }], guard := none }) (v := ?_) rfl (by kernel_rfl) (by kernel_rfl) (by kernel_rfl) (fun _ _ _ h => h) (Or.inl ⟨by rfl, ?_⟩) (by assumption) ?_
        (rotate_left; focus (intro wS hSw; (try dsimp only at hSw); go_simp; (try rw [if_neg (by omega)]); try with_reducible rfl))
        (try simp only [Act.put, List.setIfInBounds_toArray, List.set_cons_zero, List.set_cons_succ])
        refine wpAnyH_take (i := 23) (oi := { dst := some 76, op := Go.Op.load 23 (Go.Operand.tmp 4), type := 23, pos := "law.go:47", after := #[{ on := 22, ground := Go.Ground.guard }], guard := some (22, true) }) (v := ?_) rfl (by kernel_rfl) (by kernel_rfl) (by kernel_rfl) (fun _ _ _ h => h) (Or.inl ⟨by rfl, ?_⟩) (by assumption) ?_
        (rotate_left; focus (intro wS hSw; first | (refine (exec_load (LA.out _ hSw.1) rfl rfl).trans ?_; with_reducible rfl) | (refine (exec_load (LB.out _ hSw.1) rfl rfl).trans ?_; with_reducible rfl) | (refine (exec_load (LC.out _ hSw.1) rfl rfl).trans ?_; with_reducible rfl) | (refine (exec_load (LJ.out _ hSw) rfl rfl).trans ?_; with_reducible rfl) | (refine (exec_load (LM.out _ hSw) rfl rfl).trans ?_; with_reducible rfl)))
        (try simp only [Act.put, List.setIfInBounds_toArray, List.set_cons_zero, List.set_cons_succ])
        refine wpAnyH_take (i := 24) (oi := { dst := some 77, op := Go.Op.load 23 (Go.Operand.tmp 3), type := 23, pos := "law.go:47", after := #[{ on := 22, ground := Go.Ground.guard }], guard := some (22, true) }) (v := ?_) rfl (by kernel_rfl) (by kernel_rfl) (by kernel_rfl) (fun _ _ _ h => h) (Or.inl ⟨by rfl, ?_⟩) (by assumption) ?_
        (rotate_left; focus (intro wS hSw; first | (refine (exec_load (LA.out _ hSw.1) rfl rfl).trans ?_; with_reducible rfl) | (refine (exec_load (LB.out _ hSw.1) rfl rfl).trans ?_; with_reducible rfl) | (refine (exec_load (LC.out _ hSw.1) rfl rfl).trans ?_; with_reducible rfl) | (refine (exec_load (LJ.out _ hSw) rfl rfl).trans ?_; with_reducible rfl) | (refine (exec_load (LM.out _ hSw) rfl rfl).trans ?_; with_reducible rfl)))
        (try simp only [Act.put, List.setIfInBounds_toArray, List.set_cons_zero, List.set_cons_succ])
        refine wpAnyH_take (i := 26) (oi := { dst := some 79, op := Go.Op.load 23 (Go.Operand.tmp 7), type := 23, pos := "law.go:47", after := #[{ on := 22, ground := Go.Ground.guard }], guard := some (22, true) }) (v := ?_) rfl (by kernel_rfl) (by kernel_rfl) (by kernel_rfl) (fun _ _ _ h => h) (Or.inl ⟨by rfl, ?_⟩) (by assumption) ?_
        (rotate_left; focus (intro wS hSw; first | (refine (exec_load (LA.out _ hSw.1) rfl rfl).trans ?_; with_reducible rfl) | (refine (exec_load (LB.out _ hSw.1) rfl rfl).trans ?_; with_reducible rfl) | (refine (exec_load (LC.out _ hSw.1) rfl rfl).trans ?_; with_reducible rfl) | (refine (exec_load (LJ.out _ hSw) rfl rfl).trans ?_; with_reducible rfl) | (refine (exec_load (LM.out _ hSw) rfl rfl).trans ?_; with_reducible rfl)))
        (try simp only [Act.put, List.setIfInBounds_toArray, List.set_cons_zero, List.set_cons_succ])
        refine wpAnyH_ready (rs := [25]) (by kernel_rfl) (by simp) ?_
        refine AllReadyH.cons (o := { dst := some 78, op := Go.Op.call { callee := Go.Callee.value (Go.Operand.func 8), args := #[Go.Operand.tmp 76, Go.Operand.tmp 77], argTypes := #[23, 23] }, type := 23, pos := "law.go:47", after := #[{ on := 23, ground := Go.Ground.data }, { on := 24, ground := Go.Ground.data }, { on := 22, ground := Go.Ground.chain }, { on := 22, ground := Go.Ground.guard }], guard := some (22, true) }) rfl (fun K hK => ?_) AllReadyH.nil
        go_simp
        refine (TB.out _).mono ?_
        rintro e u25 ⟨rfl, hb⟩
        replace hS := hS.keep hb
        clear hb
        (try go_wp2_with fail)
        refine hK.out _ _ (by (exact hS)) (fun hHeld => ?_)
        clear hK K
        (try simp only [Act.put, List.setIfInBounds_toArray, List.set_cons_zero, List.set_cons_succ])
        refine wpAnyH_take (i := 27) (oi := { dst := some 80, op := Go.Op.binOp Go.BinOp.eql 23 (Go.Operand.tmp 78) (Go.Operand.tmp 79) 23, type := 4, pos := "law.go:47", after := #[{ on := 25, ground := Go.Ground.data }, { on := 26, ground := Go.Ground.data }, { on := 22, ground := Go.Ground.guard }], guard := some (22, true) }) (v := ?_) rfl (by kernel_rfl) (by kernel_rfl) (by kernel_rfl) (fun _ _ _ h => h) (Or.inl ⟨by rfl, ?_⟩) (by assumption) ?_
        (rotate_left; focus (intro wS hSw; (try dsimp only at hSw); go_simp; (try rw [if_neg (by omega)]); try with_reducible rfl))
        (try simp only [Act.put, List.setIfInBounds_toArray, List.set_cons_zero, List.set_cons_succ])
        refine wpAnyH_take (i := 28) (oi := { dst := some 81, op := Go.Op.pick (Go.Operand.tmp 75) (Go.Operand.tmp 80) (Go.Operand.const (Go.Value.bool false)), type := 4, pos := "law.go:47", after := #[{ on := 22, ground := Go.Ground.data }, { on := 27, ground := Go.Ground.data }], guard := none }) (v := ?_) rfl (by kernel_rfl) (by kernel_rfl) (by kernel_rfl) (fun _ _ _ h => h) (Or.inl ⟨by rfl, ?_⟩) (by assumption) ?_
        (rotate_left; focus (intro wS hSw; (try dsimp only at hSw); go_simp; (try rw [if_neg (by omega)]); try with_reducible rfl))
        (try simp only [Act.put, List.setIfInBounds_toArray, List.set_cons_zero, List.set_cons_succ])
        refine wpAnyH_take (i := 29) (oi := { dst := some 82, op := Go.Op.move (Go.Operand.tmp 81), type := 4, pos := "law.go:47", after := #[{ on := 28, ground := Go.Ground.data }, { on := 25, ground := Go.Ground.chain }], guard := none }) (v := ?_) rfl (by kernel_rfl) (by kernel_rfl) (by kernel_rfl) (fun _ _ _ h => h) (Or.inl ⟨by rfl, ?_⟩) (by assumption) ?_
        (rotate_left; focus (intro wS hSw; (try dsimp only at hSw); go_simp; (try rw [if_neg (by omega)]); try with_reducible rfl))
        (try simp only [Act.put, List.setIfInBounds_toArray, List.set_cons_zero, List.set_cons_succ])
        refine wpAnyH_take (i := 30) (oi := { dst := some 83, op := Go.Op.load 23 (Go.Operand.tmp 3), type := 23, pos := "law.go:47", after := #[{ on := 29, ground := Go.Ground.guard }], guard := some (29, true) }) (v := ?_) rfl (by kernel_rfl) (by kernel_rfl) (by kernel_rfl) (fun _ _ _ h => h) (Or.inl ⟨by rfl, ?_⟩) (by assumption) ?_
        (rotate_left; focus (intro wS hSw; first | (refine (exec_load (LA.out _ hSw.1) rfl rfl).trans ?_; with_reducible rfl) | (refine (exec_load (LB.out _ hSw.1) rfl rfl).trans ?_; with_reducible rfl) | (refine (exec_load (LC.out _ hSw.1) rfl rfl).trans ?_; with_reducible rfl) | (refine (exec_load (LJ.out _ hSw) rfl rfl).trans ?_; with_reducible rfl) | (refine (exec_load (LM.out _ hSw) rfl rfl).trans ?_; with_reducible rfl)))
        (try simp only [Act.put, List.setIfInBounds_toArray, List.set_cons_zero, List.set_cons_succ])
        refine wpAnyH_take (i := 31) (oi := { dst := some 84, op := Go.Op.load 23 (Go.Operand.tmp 4), type := 23, pos := "law.go:47", after := #[{ on := 29, ground := Go.Ground.guard }], guard := some (29, true) }) (v := ?_) rfl (by kernel_rfl) (by kernel_rfl) (by kernel_rfl) (fun _ _ _ h => h) (Or.inl ⟨by rfl, ?_⟩) (by assumption) ?_
        (rotate_left; focus (intro wS hSw; first | (refine (exec_load (LA.out _ hSw.1) rfl rfl).trans ?_; with_reducible rfl) | (refine (exec_load (LB.out _ hSw.1) rfl rfl).trans ?_; with_reducible rfl) | (refine (exec_load (LC.out _ hSw.1) rfl rfl).trans ?_; with_reducible rfl) | (refine (exec_load (LJ.out _ hSw) rfl rfl).trans ?_; with_reducible rfl) | (refine (exec_load (LM.out _ hSw) rfl rfl).trans ?_; with_reducible rfl)))
        (try simp only [Act.put, List.setIfInBounds_toArray, List.set_cons_zero, List.set_cons_succ])
        refine wpAnyH_take (i := 34) (oi := { dst := some 87, op := Go.Op.load 23 (Go.Operand.tmp 3), type := 23, pos := "law.go:47", after := #[{ on := 29, ground := Go.Ground.guard }], guard := some (29, true) }) (v := ?_) rfl (by kernel_rfl) (by kernel_rfl) (by kernel_rfl) (fun _ _ _ h => h) (Or.inl ⟨by rfl, ?_⟩) (by assumption) ?_
        (rotate_left; focus (intro wS hSw; first | (refine (exec_load (LA.out _ hSw.1) rfl rfl).trans ?_; with_reducible rfl) | (refine (exec_load (LB.out _ hSw.1) rfl rfl).trans ?_; with_reducible rfl) | (refine (exec_load (LC.out _ hSw.1) rfl rfl).trans ?_; with_reducible rfl) | (refine (exec_load (LJ.out _ hSw) rfl rfl).trans ?_; with_reducible rfl) | (refine (exec_load (LM.out _ hSw) rfl rfl).trans ?_; with_reducible rfl)))
        (try simp only [Act.put, List.setIfInBounds_toArray, List.set_cons_zero, List.set_cons_succ])
        refine wpAnyH_take (i := 35) (oi := { dst := some 88, op := Go.Op.load 23 (Go.Operand.tmp 4), type := 23, pos := "law.go:47", after := #[{ on := 29, ground := Go.Ground.guard }], guard := some (29, true) }) (v := ?_) rfl (by kernel_rfl) (by kernel_rfl) (by kernel_rfl) (fun _ _ _ h => h) (Or.inl ⟨by rfl, ?_⟩) (by assumption) ?_
        (rotate_left; focus (intro wS hSw; first | (refine (exec_load (LA.out _ hSw.1) rfl rfl).trans ?_; with_reducible rfl) | (refine (exec_load (LB.out _ hSw.1) rfl rfl).trans ?_; with_reducible rfl) | (refine (exec_load (LC.out _ hSw.1) rfl rfl).trans ?_; with_reducible rfl) | (refine (exec_load (LJ.out _ hSw) rfl rfl).trans ?_; with_reducible rfl) | (refine (exec_load (LM.out _ hSw) rfl rfl).trans ?_; with_reducible rfl)))
        (try simp only [Act.put, List.setIfInBounds_toArray, List.set_cons_zero, List.set_cons_succ])
        refine wpAnyH_take (i := 36) (oi := { dst := some 89, op := Go.Op.binOp Go.BinOp.eql 23 (Go.Operand.tmp 87) (Go.Operand.tmp 88) 23, type := 4, pos := "law.go:47", after := #[{ on := 34, ground := Go.Ground.data }, { on := 35, ground := Go.Ground.data }, { on := 29, ground := Go.Ground.guard }], guard := some (29, true) }) (v := ?_) rfl (by kernel_rfl) (by kernel_rfl) (by kernel_rfl) (fun _ _ _ h => h) (Or.inl ⟨by rfl, ?_⟩) (by assumption) ?_
        (rotate_left; focus (intro wS hSw; (try dsimp only at hSw); go_simp; (try rw [if_neg (by omega)]); try with_reducible rfl))
        (try simp only [Act.put, List.setIfInBounds_toArray, List.set_cons_zero, List.set_cons_succ])
        refine wpAnyH_ready (rs := [32]) (by kernel_rfl) (by simp) ?_
        refine AllReadyH.cons (o := { dst := some 85, op := Go.Op.call { callee := Go.Callee.value (Go.Operand.func 12), args := #[Go.Operand.tmp 83, Go.Operand.tmp 84], argTypes := #[23, 23] }, type := 3, pos := "law.go:47", after := #[{ on := 30, ground := Go.Ground.data }, { on := 31, ground := Go.Ground.data }, { on := 29, ground := Go.Ground.chain }, { on := 29, ground := Go.Ground.guard }], guard := some (29, true) }) rfl (fun K hK => ?_) AllReadyH.nil
        go_simp
        refine (TC8.out _).mono ?_
        rintro e u32 ⟨rfl, hb⟩
        replace hS := hS.keep hb
        clear hb
        (try go_wp2_with fail)
        refine hK.out _ _ (by (exact hS)) (fun hHeld => ?_)
        clear hK K
        (try simp only [Act.put, List.setIfInBounds_toArray, List.set_cons_zero, List.set_cons_succ])
        refine wpAnyH_take (i := 33) (oi := { dst := some 86, op := Go.Op.binOp Go.BinOp.eql 3 (Go.Operand.tmp 85) (Go.Operand.const (Go.Value.int Go.IntKind.i64 0)) 3, type := 4, pos := "law.go:47", after := #[{ on := 32, ground := Go.Ground.data }, { on := 29, ground := Go.Ground.guard }], guard := some (29, true) }) (v := ?_) rfl (by kernel_rfl) (by kernel_rfl) (by kernel_rfl) (fun _ _ _ h => h) (Or.inl ⟨by rfl, ?_⟩) (by assumption) ?_
        (rotate_left; focus (intro wS hSw; (try dsimp only at hSw); go_simp; (try rw [if_neg (by omega)]); try with_reducible rfl))
        (try simp only [Act.put, List.setIfInBounds_toArray, List.set_cons_zero, List.set_cons_succ])
        refine wpAnyH_take (i := 37) (oi := { dst := some 90, op := Go.Op.binOp Go.BinOp.eql 4 (Go.Operand.tmp 86) (Go.Operand.tmp 89) 4, type := 4, pos := "law.go:47", after := #[{ on := 33, ground := Go.Ground.data }, { on := 36, ground := Go.Ground.data }, { on := 29, ground := Go.Ground.guard }], guard := some (29, true) }) (v := ?_) rfl (by kernel_rfl) (by kernel_rfl) (by kernel_rfl) (fun _ _ _ h => h) (Or.inl ⟨by rfl, ?_⟩) (by assumption) ?_
        (rotate_left; focus (intro wS hSw; (try dsimp only at hSw); go_simp; (try rw [if_neg (by omega)]); try with_reducible rfl))
        (try simp only [Act.put, List.setIfInBounds_toArray, List.set_cons_zero, List.set_cons_succ])
        refine wpAnyH_take (i := 38) (oi := { dst := some 91, op := Go.Op.pick (Go.Operand.tmp 82) (Go.Operand.tmp 90) (Go.Operand.const (Go.Value.bool false)), type := 4, pos := "law.go:47", after := #[{ on := 29, ground := Go.Ground.data }, { on := 37, ground := Go.Ground.data }], guard := none }) (v := ?_) rfl (by kernel_rfl) (by kernel_rfl) (by kernel_rfl) (fun _ _ _ h => h) (Or.inl ⟨by rfl, ?_⟩) (by assumption) ?_
        (rotate_left; focus (intro wS hSw; (try dsimp only at hSw); go_simp; (try rw [if_neg (by omega)]); try with_reducible rfl))
        (try simp only [Act.put, List.setIfInBounds_toArray, List.set_cons_zero, List.set_cons_succ])
        refine wpAnyH_take (i := 39) (oi := { dst := some 92, op := Go.Op.move (Go.Operand.tmp 91), type := 4, pos := "law.go:47", after := #[{ on := 38, ground := Go.Ground.data }, { on := 32, ground := Go.Ground.chain }], guard := none }) (v := ?_) rfl (by kernel_rfl) (by kernel_rfl) (by kernel_rfl) (fun _ _ _ h => h) (Or.inl ⟨by rfl, ?_⟩) (by assumption) ?_
        (rotate_left; focus (intro wS hSw; (try dsimp only at hSw); go_simp; (try rw [if_neg (by omega)]); try with_reducible rfl))
        (try simp only [Act.put, List.setIfInBounds_toArray, List.set_cons_zero, List.set_cons_succ])
        refine wpAnyH_ready (rs := [40]) (by kernel_rfl) (by simp) ?_
        refine AllReadyH.cons (o := { dst := some 93, op := Go.Op.call { callee := Go.Callee.value (Go.Operand.func 16), args := #[], argTypes := #[] }, type := 4, pos := "law.go:47", after := #[{ on := 39, ground := Go.Ground.chain }, { on := 39, ground := Go.Ground.guard }], guard := some (39, true) }) rfl (fun K hK => ?_) AllReadyH.nil
        go_simp
        refine (awake_any _).mono ?_
        rintro e u40 ⟨rfl, hb⟩
        replace hS := hS.keep hb
        clear hb
        (try go_wp2_with fail)
        refine hK.out _ _ (by (exact hS)) (fun hHeld => ?_)
        clear hK K
        (try simp only [Act.put, List.setIfInBounds_toArray, List.set_cons_zero, List.set_cons_succ])
        refine wpAnyH_take (i := 41) (oi := { dst := some 94, op := Go.Op.pick (Go.Operand.tmp 92) (Go.Operand.tmp 93) (Go.Operand.const (Go.Value.bool false)), type := 4, pos := "law.go:47", after := #[{ on := 39, ground := Go.Ground.data }, { on := 40, ground := Go.Ground.data }], guard := none }) (v := ?_) rfl (by kernel_rfl) (by kernel_rfl) (by kernel_rfl) (fun _ _ _ h => h) (Or.inl ⟨by rfl, ?_⟩) (by assumption) ?_
        (rotate_left; focus (intro wS hSw; (try dsimp only at hSw); go_simp; (try rw [if_neg (by omega)]); try with_reducible rfl))
        (try simp only [Act.put, List.setIfInBounds_toArray, List.set_cons_zero, List.set_cons_succ])
        refine wpAnyH_take (i := 42) (oi := { dst := some 6, op := Go.Op.assign (Go.Operand.tmp 94), type := 4, pos := "law.go:47", after := #[{ on := 41, ground := Go.Ground.data }, { on := 40, ground := Go.Ground.chain }, { on := 0, ground := Go.Ground.phase }, { on := 1, ground := Go.Ground.phase }, { on := 2, ground := Go.Ground.phase }, { on := 3, ground := Go.Ground.phase }, { on := 4, ground := Go.Ground.phase }, { on := 5, ground := Go.Ground.phase }, { on := 6, ground := Go.Ground.phase }, { on := 7, ground := Go.Ground.phase }, { on := 8, ground := Go.Ground.phase }, { on := 9, ground := Go.Ground.phase }, { on := 10, ground := Go.Ground.phase }, { on := 11, ground := Go.Ground.phase }, { on := 12, ground := Go.Ground.phase }, { on := 13, ground := Go.Ground.phase }, { on := 14, ground := Go.Ground.phase }, { on := 15, ground := Go.Ground.phase }, { on := 16, ground := Go.Ground.phase }, { on := 17, ground := Go.Ground.phase }, { on := 18, ground := Go.Ground.phase }, { on := 19, ground := Go.Ground.phase }, { on := 20, ground := Go.Ground.phase }, { on := 21, ground := Go.Ground.phase }, { on := 22, ground := Go.Ground.phase }, { on := 23, ground := Go.Ground.phase }, { on := 24, ground := Go.Ground.phase }, { on := 25, ground := Go.Ground.phase }, { on := 26, ground := Go.Ground.phase }, { on := 27, ground := Go.Ground.phase }, { on := 28, ground := Go.Ground.phase }, { on := 29, ground := Go.Ground.phase }, { on := 30, ground := Go.Ground.phase }, { on := 31, ground := Go.Ground.phase }, { on := 32, ground := Go.Ground.phase }, { on := 33, ground := Go.Ground.phase }, { on := 34, ground := Go.Ground.phase }, { on := 35, ground := Go.Ground.phase }, { on := 36, ground := Go.Ground.phase }, { on := 37, ground := Go.Ground.phase }, { on := 38, ground := Go.Ground.phase }, { on := 39, ground := Go.Ground.phase }, { on := 40, ground := Go.Ground.phase }, { on := 41, ground := Go.Ground.phase }], guard := none }) (v := ?_) rfl (by kernel_rfl) (by kernel_rfl) (by kernel_rfl) (fun _ _ _ h => h) (Or.inl ⟨by rfl, ?_⟩) (by assumption) ?_
        (rotate_left; focus (intro wS hSw; (try dsimp only at hSw); go_simp; (try rw [if_neg (by omega)]); try with_reducible rfl))
        (try simp only [Act.put, List.setIfInBounds_toArray, List.set_cons_zero, List.set_cons_succ])
        refine wpAnyH_done (by kernel_rfl) ?_ _
        go_wp2
        go_ret
        exact ⟨rfl, hS.1.2.2⟩
      · replace f7 : decide (d7 < 1) = false := decide_eq_false (fun h => h6 (f7.1 h).2)
        have g6 : decide (d6 < 1) = false := decide_eq_false h6
        clear h6
        have hS := HL5.out.drew
        refine wp_region_held_drew (S := Lat1 w IA IB IC IJ IM p q) (by kernel_rfl) (by (exact hS)) (fun hHeld => ?_)
        refine wpAnyH_take (i := 0) (oi := { dst := some 37, op := Go.Op.load 23 (Go.Operand.tmp 3), type := 23, pos := "law.go:44", after := #[], guard := none }) (v := ?_) rfl (by kernel_rfl) (by kernel_rfl) (by kernel_rfl) (fun _ _ _ h => h) (Or.inl ⟨by rfl, ?_⟩) (by assumption) ?_
        (rotate_left; focus (intro wS hSw; first | (refine (exec_load (LA.out _ hSw.1) rfl rfl).trans ?_; with_reducible rfl) | (refine (exec_load (LB.out _ hSw.1) rfl rfl).trans ?_; with_reducible rfl) | (refine (exec_load (LC.out _ hSw.1) rfl rfl).trans ?_; with_reducible rfl) | (refine (exec_load (LJ.out _ hSw) rfl rfl).trans ?_; with_reducible rfl) | (refine (exec_load (LM.out _ hSw) rfl rfl).trans ?_; with_reducible rfl)))
        (try simp only [Act.put, List.setIfInBounds_toArray, List.set_cons_zero, List.set_cons_succ])
        refine wpAnyH_take (i := 1) (oi := { dst := some 38, op := Go.Op.load 23 (Go.Operand.tmp 5), type := 23, pos := "law.go:44", after := #[], guard := none }) (v := ?_) rfl (by kernel_rfl) (by kernel_rfl) (by kernel_rfl) (fun _ _ _ h => h) (Or.inl ⟨by rfl, ?_⟩) (by assumption) ?_
        (rotate_left; focus (intro wS hSw; first | (refine (exec_load (LA.out _ hSw.1) rfl rfl).trans ?_; with_reducible rfl) | (refine (exec_load (LB.out _ hSw.1) rfl rfl).trans ?_; with_reducible rfl) | (refine (exec_load (LC.out _ hSw.1) rfl rfl).trans ?_; with_reducible rfl) | (refine (exec_load (LJ.out _ hSw) rfl rfl).trans ?_; with_reducible rfl) | (refine (exec_load (LM.out _ hSw) rfl rfl).trans ?_; with_reducible rfl)))
        (try simp only [Act.put, List.setIfInBounds_toArray, List.set_cons_zero, List.set_cons_succ])
        refine wpAnyH_take (i := 11) (oi := { dst := some 48, op := Go.Op.load 23 (Go.Operand.tmp 7), type := 23, pos := "law.go:44", after := #[], guard := none }) (v := ?_) rfl (by kernel_rfl) (by kernel_rfl) (by kernel_rfl) (fun _ _ _ h => h) (Or.inl ⟨by rfl, ?_⟩) (by assumption) ?_
        (rotate_left; focus (intro wS hSw; first | (refine (exec_load (LA.out _ hSw.1) rfl rfl).trans ?_; with_reducible rfl) | (refine (exec_load (LB.out _ hSw.1) rfl rfl).trans ?_; with_reducible rfl) | (refine (exec_load (LC.out _ hSw.1) rfl rfl).trans ?_; with_reducible rfl) | (refine (exec_load (LJ.out _ hSw) rfl rfl).trans ?_; with_reducible rfl) | (refine (exec_load (LM.out _ hSw) rfl rfl).trans ?_; with_reducible rfl)))
        (try simp only [Act.put, List.setIfInBounds_toArray, List.set_cons_zero, List.set_cons_succ])
        refine wpAnyH_take (i := 12) (oi := { dst := some 49, op := Go.Op.load 23 (Go.Operand.tmp 5), type := 23, pos := "law.go:44", after := #[], guard := none }) (v := ?_) rfl (by kernel_rfl) (by kernel_rfl) (by kernel_rfl) (fun _ _ _ h => h) (Or.inl ⟨by rfl, ?_⟩) (by assumption) ?_
        (rotate_left; focus (intro wS hSw; first | (refine (exec_load (LA.out _ hSw.1) rfl rfl).trans ?_; with_reducible rfl) | (refine (exec_load (LB.out _ hSw.1) rfl rfl).trans ?_; with_reducible rfl) | (refine (exec_load (LC.out _ hSw.1) rfl rfl).trans ?_; with_reducible rfl) | (refine (exec_load (LJ.out _ hSw) rfl rfl).trans ?_; with_reducible rfl) | (refine (exec_load (LM.out _ hSw) rfl rfl).trans ?_; with_reducible rfl)))
        (try simp only [Act.put, List.setIfInBounds_toArray, List.set_cons_zero, List.set_cons_succ])
        refine wpAnyH_ready (rs := [2]) (by kernel_rfl) (by simp) ?_
        refine AllReadyH.cons (o := { dst := some 39, op := Go.Op.call { callee := Go.Callee.value (Go.Operand.func 12), args := #[Go.Operand.tmp 37, Go.Operand.tmp 38], argTypes := #[23, 23] }, type := 3, pos := "law.go:44", after := #[{ on := 0, ground := Go.Ground.data }, { on := 1, ground := Go.Ground.data }], guard := none }) rfl (fun K hK => ?_) AllReadyH.nil
        go_simp
        refine (TC5.out _).mono ?_
        rintro e v5 ⟨rfl, hb⟩
        replace hS := hS.keep hb
        clear hb
        (try go_wp2_with fail)
        refine hK.out _ _ (by (exact hS)) (fun hHeld => ?_)
        clear hK K
        (try simp only [Act.put, List.setIfInBounds_toArray, List.set_cons_zero, List.set_cons_succ])
        refine wpAnyH_take (i := 3) (oi := { dst := some 40, op := Go.Op.binOp Go.BinOp.lss 3 (Go.Operand.tmp 39) (Go.Operand.const (Go.Value.int Go.IntKind.i64 1)) 3, type := 4, pos := "law.go:44", after := #[{ on := 2, ground := Go.Ground.data }], guard := none }) (v := ?_) rfl (by kernel_rfl) (by kernel_rfl) (by kernel_rfl) (fun _ _ _ h => h) (Or.inl ⟨by rfl, ?_⟩) (by assumption) ?_
        (rotate_left; focus (intro wS hSw; (try dsimp only at hSw); go_simp; (try rw [if_neg (by omega)]); try with_reducible rfl))
        (try simp only [Act.put, List.setIfInBounds_toArray, List.set_cons_zero, List.set_cons_succ])
        refine wpAnyH_take (i := 4) (oi := { dst := some 41, op := Go.Op.move (Go.Operand.tmp 40), type := 4, pos := "law.go:44", after := #[{ on := 3, ground := Go.Ground.data }, { on := 2, ground := Go.Ground.chain }], guard := none }) (v := ?_) rfl (by kernel_rfl) (by kernel_rfl) (by kernel_rfl) (fun _ _ _ h => h) (Or.inl ⟨by rfl, ?_⟩) (by assumption) ?_
        (rotate_left; focus (intro wS hSw; (try dsimp only at hSw); go_simp; (try rw [if_neg (by omega)]); try with_reducible rfl))
        (try simp only [Act.put, List.setIfInBounds_toArray, List.set_cons_zero, List.set_cons_succ])
        refine wpAnyH_take (i := 5) (oi := { dst := some 42, op := Go.Op.load 23 (Go.Operand.tmp 4), type := 23, pos := "law.go:44", after := #[{ on := 4, ground := Go.Ground.guard }], guard := some (4, true) }) (v := ?_) rfl (by kernel_rfl) (by kernel_rfl) (by kernel_rfl) (fun _ _ _ h => h) (Or.inl ⟨by rfl, ?_⟩) (by assumption) ?_
        (rotate_left; focus (intro wS hSw; first | (refine (exec_load (LA.out _ hSw.1) rfl rfl).trans ?_; with_reducible rfl) | (refine (exec_load (LB.out _ hSw.1) rfl rfl).trans ?_; with_reducible rfl) | (refine (exec_load (LC.out _ hSw.1) rfl rfl).trans ?_; with_reducible rfl) | (refine (exec_load (LJ.out _ hSw) rfl rfl).trans ?_; with_reducible rfl) | (refine (exec_load (LM.out _ hSw) rfl rfl).trans ?_; with_reducible rfl)))
        (try simp only [Act.put, List.setIfInBounds_toArray, List.set_cons_zero, List.set_cons_succ])
        refine wpAnyH_take (i := 6) (oi := { dst := some 43, op := Go.Op.load 23 (Go.Operand.tmp 5), type := 23, pos := "law.go:44", after := #[{ on := 4, ground := Go.Ground.guard }], guard := some (4, true) }) (v := ?_) rfl (by kernel_rfl) (by kernel_rfl) (by kernel_rfl) (fun _ _ _ h => h) (Or.inl ⟨by rfl, ?_⟩) (by assumption) ?_
        (rotate_left; focus (intro wS hSw; first | (refine (exec_load (LA.out _ hSw.1) rfl rfl).trans ?_; with_reducible rfl) | (refine (exec_load (LB.out _ hSw.1) rfl rfl).trans ?_; with_reducible rfl) | (refine (exec_load (LC.out _ hSw.1) rfl rfl).trans ?_; with_reducible rfl) | (refine (exec_load (LJ.out _ hSw) rfl rfl).trans ?_; with_reducible rfl) | (refine (exec_load (LM.out _ hSw) rfl rfl).trans ?_; with_reducible rfl)))
        (try simp only [Act.put, List.setIfInBounds_toArray, List.set_cons_zero, List.set_cons_succ])
        refine wpAnyH_ready (rs := [7]) (by kernel_rfl) (by simp) ?_
        refine AllReadyH.cons (o := { dst := some 44, op := Go.Op.call { callee := Go.Callee.value (Go.Operand.func 12), args := #[Go.Operand.tmp 42, Go.Operand.tmp 43], argTypes := #[23, 23] }, type := 3, pos := "law.go:44", after := #[{ on := 5, ground := Go.Ground.data }, { on := 6, ground := Go.Ground.data }, { on := 4, ground := Go.Ground.chain }, { on := 4, ground := Go.Ground.guard }], guard := some (4, true) }) rfl (fun K hK => ?_) AllReadyH.nil
        go_simp
        refine (TC6.out _).mono ?_
        rintro e v6 ⟨rfl, hb⟩
        replace hS := hS.keep hb
        clear hb
        (try go_wp2_with fail)
        refine hK.out _ _ (by (exact hS)) (fun hHeld => ?_)
        clear hK K
        (try simp only [Act.put, List.setIfInBounds_toArray, List.set_cons_zero, List.set_cons_succ])
        refine wpAnyH_take (i := 8) (oi := { dst := some 45, op := Go.Op.binOp Go.BinOp.lss 3 (Go.Operand.tmp 44) (Go.Operand.const (Go.Value.int Go.IntKind.i64 1)) 3, type := 4, pos := "law.go:44", after := #[{ on := 7, ground := Go.Ground.data }, { on := 4, ground := Go.Ground.guard }], guard := some (4, true) }) (v := ?_) rfl (by kernel_rfl) (by kernel_rfl) (by kernel_rfl) (fun _ _ _ h => h) (Or.inl ⟨by rfl, ?_⟩) (by assumption) ?_
        (rotate_left; focus (intro wS hSw; (try dsimp only at hSw); go_simp; (try rw [if_neg (by omega)]); try with_reducible rfl))
        (try simp only [Act.put, List.setIfInBounds_toArray, List.set_cons_zero, List.set_cons_succ])
        refine wpAnyH_take (i := 9) (oi := { dst := some 46, op := Go.Op.pick (Go.Operand.tmp 41) (Go.Operand.tmp 45) (Go.Operand.const (Go.Value.bool false)), type := 4, pos := "law.go:44", after := #[{ on := 4, ground := Go.Ground.data }, { on := 8, ground := Go.Ground.data }], guard := none }) (v := ?_) rfl (by kernel_rfl) (by kernel_rfl) (by kernel_rfl) (fun _ _ _ h => h) (Or.inl ⟨by rfl, ?_⟩) (by assumption) ?_
        (rotate_left; focus (intro wS hSw; (try dsimp only at hSw); go_simp; (try rw [if_neg (by omega)]); try with_reducible rfl))
        (try simp only [Act.put, List.setIfInBounds_toArray, List.set_cons_zero, List.set_cons_succ])
        refine wpAnyH_take (i := 10) (oi := { dst := some 47, op := Go.Op.unOp Go.UnOp.not 4 (Go.Operand.tmp 46), type := 4, pos := "law.go:44", after := #[{ on := 9, ground := Go.Ground.data }], guard := none }) (v := ?_) rfl (by kernel_rfl) (by kernel_rfl) (by kernel_rfl) (fun _ _ _ h => h) (Or.inl ⟨by rfl, ?_⟩) (by assumption) ?_
        (rotate_left; focus (intro wS hSw; (try dsimp only at hSw); go_simp; (try rw [if_neg (by omega)]); try with_reducible rfl))
        (try simp only [Act.put, List.setIfInBounds_toArray, List.set_cons_zero, List.set_cons_succ])
        refine wpAnyH_ready (rs := [13]) (by kernel_rfl) (by simp) ?_
        refine AllReadyH.cons (o := { dst := some 50, op := Go.Op.call { callee := Go.Callee.value (Go.Operand.func 12), args := #[Go.Operand.tmp 48, Go.Operand.tmp 49], argTypes := #[23, 23] }, type := 3, pos := "law.go:44", after := #[{ on := 11, ground := Go.Ground.data }, { on := 12, ground := Go.Ground.data }, { on := 7, ground := Go.Ground.chain }], guard := none }) rfl (fun K hK => ?_) AllReadyH.nil
        go_simp
        refine (TC7.out _).mono ?_
        rintro e v7 ⟨rfl, hb⟩
        replace hS := hS.keep hb
        clear hb
        (try go_wp2_with fail)
        refine hK.out _ _ (by (exact hS)) (fun hHeld => ?_)
        clear hK K
        (try simp only [Act.put, List.setIfInBounds_toArray, List.set_cons_zero, List.set_cons_succ])
        refine wpAnyH_take (i := 14) (oi := { dst := some 51, op := Go.Op.binOp Go.BinOp.lss 3 (Go.Operand.tmp 50) (Go.Operand.const (Go.Value.int Go.IntKind.i64 1)) 3, type := 4, pos := "law.go:44", after := #[{ on := 13, ground := Go.Ground.data }], guard := none }) (v := ?_) rfl (by kernel_rfl) (by kernel_rfl) (by kernel_rfl) (fun _ _ _ h => h) (Or.inl ⟨by rfl, ?_⟩) (by assumption) ?_
        (rotate_left; focus (intro wS hSw; (try dsimp only at hSw); go_simp; (try rw [if_neg (by omega)]); try with_reducible rfl))
        (try simp only [Act.put, List.setIfInBounds_toArray, List.set_cons_zero, List.set_cons_succ])
        refine wpAnyH_take (i := 15) (oi := { dst := some 52, op := Go.Op.binOp Go.BinOp.eql 4 (Go.Operand.tmp 47) (Go.Operand.tmp 51) 4, type := 4, pos := "law.go:44", after := #[{ on := 10, ground := Go.Ground.data }, { on := 14, ground := Go.Ground.data }], guard := none }) (v := ?_) rfl (by kernel_rfl) (by kernel_rfl) (by kernel_rfl) (fun _ _ _ h => h) (Or.inl ⟨by rfl, ?_⟩) (by assumption) ?_
        (rotate_left; focus (intro wS hSw; (try dsimp only at hSw); go_simp; (try rw [if_neg (by omega)]); try with_reducible rfl))
        (try simp only [Act.put, List.setIfInBounds_toArray, List.set_cons_zero, List.set_cons_succ])
        refine wpAnyH_done (by kernel_rfl) ?_ _
        go_wp2_with fail
        replace hS := hS.drew
        refine wp_region_held_drew (S := Lat1 w IA IB IC IJ IM p q) (by kernel_rfl) (by (exact hS)) (fun hHeld => ?_)
        refine wpAnyH_take (i := 0) (oi := { dst := some 53, op := Go.Op.move (Go.Operand.tmp 9), type := 4, pos := "law.go:47", after := #[], guard := none }) (v := ?_) rfl (by kernel_rfl) (by kernel_rfl) (by kernel_rfl) (fun _ _ _ h => h) (Or.inl ⟨by rfl, ?_⟩) (by assumption) ?_
        (rotate_left; focus (intro wS hSw; (try dsimp only at hSw); go_simp; (try rw [if_neg (by omega)]); try with_reducible rfl))
        (try simp only [Act.put, List.setIfInBounds_toArray, List.set_cons_zero, List.set_cons_succ])
        refine wpAnyH_take (i := 1) (oi := { dst := some 54, op := Go.Op.move (Go.Operand.tmp 53), type := 4, pos := "law.go:47", after := #[{ on := 0, ground := Go.Ground.data }], guard := none }) (v := ?_) rfl (by kernel_rfl) (by kernel_rfl) (by kernel_rfl) (fun _ _ _ h => h) (Or.inl ⟨by rfl, ?_⟩) (by assumption) ?_
        (rotate_left; focus (intro wS hSw; (try dsimp only at hSw); go_simp; (try rw [if_neg (by omega)]); try with_reducible rfl))
        (try simp only [Act.put, List.setIfInBounds_toArray, List.set_cons_zero, List.set_cons_succ])
        refine wpAnyH_take (i := 2) (oi := { dst := some 55, op := Go.Op.move (Go.Operand.tmp 10), type := 4, pos := "law.go:47", after := #[{ on := 1, ground := Go.Ground.guard }], guard := some (1, true) }) (v := ?_) rfl (by kernel_rfl) (by kernel_rfl) (by kernel_rfl) (fun _ _ _ h => h) (Or.inl ⟨by rfl, ?_⟩) (by assumption) ?_
        (rotate_left; focus (intro wS hSw; (try dsimp only at hSw); go_simp; (try rw [if_neg (by omega)]); try with_reducible rfl))
        (try simp only [Act.put, List.setIfInBounds_toArray, List.set_cons_zero, List.set_cons_succ])
        refine wpAnyH_take (i := 3) (oi := { dst := some 56, op := Go.Op.pick (Go.Operand.tmp 54) (Go.Operand.tmp 55) (Go.Operand.const (Go.Value.bool false)), type := 4, pos := "law.go:47", after := #[{ on := 1, ground := Go.Ground.data }, { on := 2, ground := Go.Ground.data }], guard := none }) (v := ?_) rfl (by kernel_rfl) (by kernel_rfl) (by kernel_rfl) (fun _ _ _ h => h) (Or.inl ⟨by rfl, ?_⟩) (by assumption) ?_
        (rotate_left; focus (intro wS hSw; (try dsimp only at hSw); go_simp; (try rw [if_neg (by omega)]); try with_reducible rfl))
        (try simp only [Act.put, List.setIfInBounds_toArray, List.set_cons_zero, List.set_cons_succ])
        refine wpAnyH_take (i := 4) (oi := { dst := some 57, op := Go.Op.move (Go.Operand.tmp 56), type := 4, pos := "law.go:47", after := #[{ on := 3, ground := Go.Ground.data }, { on := 1, ground := Go.Ground.chain }], guard := none }) (v := ?_) rfl (by kernel_rfl) (by kernel_rfl) (by kernel_rfl) (fun _ _ _ h => h) (Or.inl ⟨by rfl, ?_⟩) (by assumption) ?_
        (rotate_left; focus (intro wS hSw; (try dsimp only at hSw); go_simp; (try rw [if_neg (by omega)]); try with_reducible rfl))
        (try simp only [Act.put, List.setIfInBounds_toArray, List.set_cons_zero, List.set_cons_succ])
        refine wpAnyH_take (i := 5) (oi := { dst := some 58, op := Go.Op.load 23 (Go.Operand.tmp 3), type := 23, pos := "law.go:47", after := #[{ on := 4, ground := Go.Ground.guard }], guard := some (4, true) }) (v := ?_) rfl (by kernel_rfl) (by kernel_rfl) (by kernel_rfl) (fun _ _ _ h => h) (Or.inl ⟨by rfl, ?_⟩) (by assumption) ?_
        (rotate_left; focus (intro wS hSw; first | (refine (exec_load (LA.out _ hSw.1) rfl rfl).trans ?_; with_reducible rfl) | (refine (exec_load (LB.out _ hSw.1) rfl rfl).trans ?_; with_reducible rfl) | (refine (exec_load (LC.out _ hSw.1) rfl rfl).trans ?_; with_reducible rfl) | (refine (exec_load (LJ.out _ hSw) rfl rfl).trans ?_; with_reducible rfl) | (refine (exec_load (LM.out _ hSw) rfl rfl).trans ?_; with_reducible rfl)))
        (try simp only [Act.put, List.setIfInBounds_toArray, List.set_cons_zero, List.set_cons_succ])
        refine wpAnyH_take (i := 6) (oi := { dst := some 59, op := Go.Op.load 23 (Go.Operand.tmp 4), type := 23, pos := "law.go:47", after := #[{ on := 4, ground := Go.Ground.guard }], guard := some (4, true) }) (v := ?_) rfl (by kernel_rfl) (by kernel_rfl) (by kernel_rfl) (fun _ _ _ h => h) (Or.inl ⟨by rfl, ?_⟩) (by assumption) ?_
        (rotate_left; focus (intro wS hSw; first | (refine (exec_load (LA.out _ hSw.1) rfl rfl).trans ?_; with_reducible rfl) | (refine (exec_load (LB.out _ hSw.1) rfl rfl).trans ?_; with_reducible rfl) | (refine (exec_load (LC.out _ hSw.1) rfl rfl).trans ?_; with_reducible rfl) | (refine (exec_load (LJ.out _ hSw) rfl rfl).trans ?_; with_reducible rfl) | (refine (exec_load (LM.out _ hSw) rfl rfl).trans ?_; with_reducible rfl)))
        (try simp only [Act.put, List.setIfInBounds_toArray, List.set_cons_zero, List.set_cons_succ])
        refine wpAnyH_take (i := 7) (oi := { dst := some 60, op := Go.Op.load 23 (Go.Operand.tmp 5), type := 23, pos := "law.go:47", after := #[{ on := 4, ground := Go.Ground.guard }], guard := some (4, true) }) (v := ?_) rfl (by kernel_rfl) (by kernel_rfl) (by kernel_rfl) (fun _ _ _ h => h) (Or.inl ⟨by rfl, ?_⟩) (by assumption) ?_
        (rotate_left; focus (intro wS hSw; first | (refine (exec_load (LA.out _ hSw.1) rfl rfl).trans ?_; with_reducible rfl) | (refine (exec_load (LB.out _ hSw.1) rfl rfl).trans ?_; with_reducible rfl) | (refine (exec_load (LC.out _ hSw.1) rfl rfl).trans ?_; with_reducible rfl) | (refine (exec_load (LJ.out _ hSw) rfl rfl).trans ?_; with_reducible rfl) | (refine (exec_load (LM.out _ hSw) rfl rfl).trans ?_; with_reducible rfl)))
        (try simp only [Act.put, List.setIfInBounds_toArray, List.set_cons_zero, List.set_cons_succ])
        refine wpAnyH_take (i := 10) (oi := { dst := some 63, op := Go.Op.load 23 (Go.Operand.tmp 7), type := 23, pos := "law.go:47", after := #[{ on := 4, ground := Go.Ground.guard }], guard := some (4, true) }) (v := ?_) rfl (by kernel_rfl) (by kernel_rfl) (by kernel_rfl) (fun _ _ _ h => h) (Or.inl ⟨by rfl, ?_⟩) (by assumption) ?_
        (rotate_left; focus (intro wS hSw; first | (refine (exec_load (LA.out _ hSw.1) rfl rfl).trans ?_; with_reducible rfl) | (refine (exec_load (LB.out _ hSw.1) rfl rfl).trans ?_; with_reducible rfl) | (refine (exec_load (LC.out _ hSw.1) rfl rfl).trans ?_; with_reducible rfl) | (refine (exec_load (LJ.out _ hSw) rfl rfl).trans ?_; with_reducible rfl) | (refine (exec_load (LM.out _ hSw) rfl rfl).trans ?_; with_reducible rfl)))
        (try simp only [Act.put, List.setIfInBounds_toArray, List.set_cons_zero, List.set_cons_succ])
        refine wpAnyH_take (i := 11) (oi := { dst := some 64, op := Go.Op.load 23 (Go.Operand.tmp 5), type := 23, pos := "law.go:47", after := #[{ on := 4, ground := Go.Ground.guard }], guard := some (4, true) }) (v := ?_) rfl (by kernel_rfl) (by kernel_rfl) (by kernel_rfl) (fun _ _ _ h => h) (Or.inl ⟨by rfl, ?_⟩) (by assumption) ?_
        (rotate_left; focus (intro wS hSw; first | (refine (exec_load (LA.out _ hSw.1) rfl rfl).trans ?_; with_reducible rfl) | (refine (exec_load (LB.out _ hSw.1) rfl rfl).trans ?_; with_reducible rfl) | (refine (exec_load (LC.out _ hSw.1) rfl rfl).trans ?_; with_reducible rfl) | (refine (exec_load (LJ.out _ hSw) rfl rfl).trans ?_; with_reducible rfl) | (refine (exec_load (LM.out _ hSw) rfl rfl).trans ?_; with_reducible rfl)))
        (try simp only [Act.put, List.setIfInBounds_toArray, List.set_cons_zero, List.set_cons_succ])
        refine wpAnyH_ready (rs := [8]) (by kernel_rfl) (by simp) ?_
        refine AllReadyH.cons (o := { dst := some 61, op := Go.Op.call { callee := Go.Callee.value (Go.Operand.func 8), args := #[Go.Operand.tmp 59, Go.Operand.tmp 60], argTypes := #[23, 23] }, type := 23, pos := "law.go:47", after := #[{ on := 6, ground := Go.Ground.data }, { on := 7, ground := Go.Ground.data }, { on := 4, ground := Go.Ground.chain }, { on := 4, ground := Go.Ground.guard }], guard := some (4, true) }) rfl (fun K hK => ?_) AllReadyH.nil
        go_simp
        refine (TN.out _).mono ?_
        rintro e u8 ⟨rfl, hb⟩
        replace hS := hS.keep hb
        clear hb
        (try go_wp2_with fail)
        refine hK.out _ _ (by (exact hS)) (fun hHeld => ?_)
        clear hK K
        (try simp only [Act.put, List.setIfInBounds_toArray, List.set_cons_zero, List.set_cons_succ])
        refine wpAnyH_ready (rs := [9]) (by kernel_rfl) (by simp) ?_
        refine AllReadyH.cons (o := { dst := some 62, op := Go.Op.call { callee := Go.Callee.value (Go.Operand.func 8), args := #[Go.Operand.tmp 58, Go.Operand.tmp 61], argTypes := #[23, 23] }, type := 23, pos := "law.go:47", after := #[{ on := 5, ground := Go.Ground.data }, { on := 8, ground := Go.Ground.data }, { on := 8, ground := Go.Ground.chain }, { on := 4, ground := Go.Ground.guard }], guard := some (4, true) }) rfl (fun K hK => ?_) AllReadyH.nil
        go_simp
        refine (TU.out _).mono ?_
        rintro e u9 ⟨rfl, hb⟩
        replace hS := hS.keep hb
        clear hb
        (try go_wp2_with fail)
        refine hK.out _ _ (by (exact hS)) (fun hHeld => ?_)
        clear hK K
        (try simp only [Act.put, List.setIfInBounds_toArray, List.set_cons_zero, List.set_cons_succ])
        refine wpAnyH_ready (rs := [12]) (by kernel_rfl) (by simp) ?_
        refine AllReadyH.cons (o := { dst := some 65, op := Go.Op.call { callee := Go.Callee.value (Go.Operand.func 8), args := #[Go.Operand.tmp 63, Go.Operand.tmp 64], argTypes := #[23, 23] }, type := 23, pos := "law.go:47", after := #[{ on := 10, ground := Go.Ground.data }, { on := 11, ground := Go.Ground.data }, { on := 9, ground := Go.Ground.chain }, { on := 4, ground := Go.Ground.guard }], guard := some (4, true) }) rfl (fun K hK => ?_) AllReadyH.nil
        go_simp
        refine (TV.out _).mono ?_
        rintro e u12 ⟨rfl, hb⟩
        replace hS := hS.keep hb
        clear hb
        (try go_wp2_with fail)
        refine hK.out _ _ (by (exact hS)) (fun hHeld => ?_)
        clear hK K
        (try simp only [Act.put, List.setIfInBounds_toArray, List.set_cons_zero, List.set_cons_succ])
        refine wpAnyH_take (i := 13) (oi := { dst := some 66, op := Go.Op.binOp Go.BinOp.eql 23 (Go.Operand.tmp 62) (Go.Operand.tmp 65) 23, type := 4, pos := "law.go:47", after := #[{ on := 9, ground := Go.Ground.data }, { on := 12, ground := Go.Ground.data }, { on := 4, ground := Go.Ground.guard }], guard := some (4, true) }) (v := ?_) rfl (by kernel_rfl) (by kernel_rfl) (by kernel_rfl) (fun _ _ _ h => h) (Or.inl ⟨by rfl, ?_⟩) (by assumption) ?_
        (rotate_left; focus (intro wS hSw; (try dsimp only at hSw); go_simp; (try rw [if_neg (by omega)]); try with_reducible rfl))
        (try simp only [Act.put, List.setIfInBounds_toArray, List.set_cons_zero, List.set_cons_succ])
        refine wpAnyH_take (i := 14) (oi := { dst := some 67, op := Go.Op.pick (Go.Operand.tmp 57) (Go.Operand.tmp 66) (Go.Operand.const (Go.Value.bool false)), type := 4, pos := "law.go:47", after := #[{ on := 4, ground := Go.Ground.data }, { on := 13, ground := Go.Ground.data }], guard := none }) (v := ?_) rfl (by kernel_rfl) (by kernel_rfl) (by kernel_rfl) (fun _ _ _ h => h) (Or.inl ⟨by rfl, ?_⟩) (by assumption) ?_
        (rotate_left; focus (intro wS hSw; (try dsimp only at hSw); go_simp; (try rw [if_neg (by omega)]); try with_reducible rfl))
        (try simp only [Act.put, List.setIfInBounds_toArray, List.set_cons_zero, List.set_cons_succ])
        refine wpAnyH_take (i := 15) (oi := { dst := some 68, op := Go.Op.move (Go.Operand.tmp 67), type := 4, pos := "law.go:47", after := #[{ on := 14, ground := Go.Ground.data }, { on := 12, ground := Go.Ground.chain }], guard := none }) (v := ?_) rfl (by kernel_rfl) (by kernel_rfl) (by kernel_rfl) (fun _ _ _ h => h) (Or.inl ⟨by rfl, ?_⟩) (by assumption) ?_
        (rotate_left; focus (intro wS hSw; (try dsimp only at hSw); go_simp; (try rw [if_neg (by omega)]); try with_reducible rfl))
        (try simp only [Act.put, List.setIfInBounds_toArray, List.set_cons_zero, List.set_cons_succ])
        refine wpAnyH_take (i := 16) (oi := { dst := some 69, op := Go.Op.load 23 (Go.Operand.tmp 3), type := 23, pos := "law.go:47", after := #[{ on := 15, ground := Go.Ground.guard }], guard := some (15, true) }) (v := ?_) rfl (by kernel_rfl) (by kernel_rfl) (by kernel_rfl) (fun _ _ _ h => h) (Or.inl ⟨by rfl, ?_⟩) (by assumption) ?_
        (rotate_left; focus (intro wS hSw; first | (refine (exec_load (LA.out _ hSw.1) rfl rfl).trans ?_; with_reducible rfl) | (refine (exec_load (LB.out _ hSw.1) rfl rfl).trans ?_; with_reducible rfl) | (refine (exec_load (LC.out _ hSw.1) rfl rfl).trans ?_; with_reducible rfl) | (refine (exec_load (LJ.out _ hSw) rfl rfl).trans ?_; with_reducible rfl) | (refine (exec_load (LM.out _ hSw) rfl rfl).trans ?_; with_reducible rfl)))
        (try simp only [Act.put, List.setIfInBounds_toArray, List.set_cons_zero, List.set_cons_succ])
        refine wpAnyH_take (i := 17) (oi := { dst := some 70, op := Go.Op.load 23 (Go.Operand.tmp 3), type := 23, pos := "law.go:47", after := #[{ on := 15, ground := Go.Ground.guard }], guard := some (15, true) }) (v := ?_) rfl (by kernel_rfl) (by kernel_rfl) (by kernel_rfl) (fun _ _ _ h => h) (Or.inl ⟨by rfl, ?_⟩) (by assumption) ?_
        (rotate_left; focus (intro wS hSw; first | (refine (exec_load (LA.out _ hSw.1) rfl rfl).trans ?_; with_reducible rfl) | (refine (exec_load (LB.out _ hSw.1) rfl rfl).trans ?_; with_reducible rfl) | (refine (exec_load (LC.out _ hSw.1) rfl rfl).trans ?_; with_reducible rfl) | (refine (exec_load (LJ.out _ hSw) rfl rfl).trans ?_; with_reducible rfl) | (refine (exec_load (LM.out _ hSw) rfl rfl).trans ?_; with_reducible rfl)))
        (try simp only [Act.put, List.setIfInBounds_toArray, List.set_cons_zero, List.set_cons_succ])
        refine wpAnyH_take (i := 19) (oi := { dst := some 72, op := Go.Op.load 23 (Go.Operand.tmp 3), type := 23, pos := "law.go:47", after := #[{ on := 15, ground := Go.Ground.guard }], guard := some (15, true) }) (v := ?_) rfl (by kernel_rfl) (by kernel_rfl) (by kernel_rfl) (fun _ _ _ h => h) (Or.inl ⟨by rfl, ?_⟩) (by assumption) ?_
        (rotate_left; focus (intro wS hSw; first | (refine (exec_load (LA.out _ hSw.1) rfl rfl).trans ?_; with_reducible rfl) | (refine (exec_load (LB.out _ hSw.1) rfl rfl).trans ?_; with_reducible rfl) | (refine (exec_load (LC.out _ hSw.1) rfl rfl).trans ?_; with_reducible rfl) | (refine (exec_load (LJ.out _ hSw) rfl rfl).trans ?_; with_reducible rfl) | (refine (exec_load (LM.out _ hSw) rfl rfl).trans ?_; with_reducible rfl)))
        (try simp only [Act.put, List.setIfInBounds_toArray, List.set_cons_zero, List.set_cons_succ])
        refine wpAnyH_ready (rs := [18]) (by kernel_rfl) (by simp) ?_
        refine AllReadyH.cons (o := { dst := some 71, op := Go.Op.call { callee := Go.Callee.value (Go.Operand.func 8), args := #[Go.Operand.tmp 69, Go.Operand.tmp 70], argTypes := #[23, 23] }, type := 23, pos := "law.go:47", after := #[{ on := 16, ground := Go.Ground.data }, { on := 17, ground := Go.Ground.data }, { on := 15, ground := Go.Ground.chain }, { on := 15, ground := Go.Ground.guard }], guard := some (15, true) }) rfl (fun K hK => ?_) AllReadyH.nil
        go_simp
        refine (TA.out _).mono ?_
        rintro e u18 ⟨rfl, hb⟩
        replace hS := hS.keep hb
        clear hb
        (try go_wp2_with fail)
        refine hK.out _ _ (by (exact hS)) (fun hHeld => ?_)
        clear hK K
        (try simp only [Act.put, List.setIfInBounds_toArray, List.set_cons_zero, List.set_cons_succ])
        refine wpAnyH_take (i := 20) (oi := { dst := some 73, op := Go.Op.binOp Go.BinOp.eql 23 (Go.Operand.tmp 71) (Go.Operand.tmp 72) 23, type := 4, pos := "law.go:47", after := #[{ on := 18, ground := Go.Ground.data }, { on := 19, ground := Go.Ground.data }, { on := 15, ground := Go.Ground.guard }], guard := some (15, true) }) (v := ?_) rfl (by kernel_rfl) (by kernel_rfl) (by kernel_rfl) (fun _ _ _ h => h) (Or.inl ⟨by rfl, ?_⟩) (by assumption) ?_
        (rotate_left; focus (intro wS hSw; (try dsimp only at hSw); go_simp; (try rw [if_neg (by omega)]); try with_reducible rfl))
        (try simp only [Act.put, List.setIfInBounds_toArray, List.set_cons_zero, List.set_cons_succ])
        refine wpAnyH_take (i := 21) (oi := { dst := some 74, op := Go.Op.pick (Go.Operand.tmp 68) (Go.Operand.tmp 73) (Go.Operand.const (Go.Value.bool false)), type := 4, pos := "law.go:47", after := #[{ on := 15, ground := Go.Ground.data }, { on := 20, ground := Go.Ground.data }], guard := none }) (v := ?_) rfl (by kernel_rfl) (by kernel_rfl) (by kernel_rfl) (fun _ _ _ h => h) (Or.inl ⟨by rfl, ?_⟩) (by assumption) ?_
        (rotate_left; focus (intro wS hSw; (try dsimp only at hSw); go_simp; (try rw [if_neg (by omega)]); try with_reducible rfl))
        (try simp only [Act.put, List.setIfInBounds_toArray, List.set_cons_zero, List.set_cons_succ])
        refine wpAnyH_take (i := 22) (oi := { dst := some 75, op := Go.Op.move (Go.Operand.tmp 74), type := 4, pos := "law.go:47", after := #[{ on := 21, ground := Go.Ground.data }, { on := 18, ground := Go.Ground.chain }], guard := none }) (v := ?_) rfl (by kernel_rfl) (by kernel_rfl) (by kernel_rfl) (fun _ _ _ h => h) (Or.inl ⟨by rfl, ?_⟩) (by assumption) ?_
        (rotate_left; focus (intro wS hSw; (try dsimp only at hSw); go_simp; (try rw [if_neg (by omega)]); try with_reducible rfl))
        (try simp only [Act.put, List.setIfInBounds_toArray, List.set_cons_zero, List.set_cons_succ])
        refine wpAnyH_take (i := 23) (oi := { dst := some 76, op := Go.Op.load 23 (Go.Operand.tmp 4), type := 23, pos := "law.go:47", after := #[{ on := 22, ground := Go.Ground.guard }], guard := some (22, true) }) (v := ?_) rfl (by kernel_rfl) (by kernel_rfl) (by kernel_rfl) (fun _ _ _ h => h) (Or.inl ⟨by rfl, ?_⟩) (by assumption) ?_
        (rotate_left; focus (intro wS hSw; first | (refine (exec_load (LA.out _ hSw.1) rfl rfl).trans ?_; with_reducible rfl) | (refine (exec_load (LB.out _ hSw.1) rfl rfl).trans ?_; with_reducible rfl) | (refine (exec_load (LC.out _ hSw.1) rfl rfl).trans ?_; with_reducible rfl) | (refine (exec_load (LJ.out _ hSw) rfl rfl).trans ?_; with_reducible rfl) | (refine (exec_load (LM.out _ hSw) rfl rfl).trans ?_; with_reducible rfl)))
        (try simp only [Act.put, List.setIfInBounds_toArray, List.set_cons_zero, List.set_cons_succ])
        refine wpAnyH_take (i := 24) (oi := { dst := some 77, op := Go.Op.load 23 (Go.Operand.tmp 3), type := 23, pos := "law.go:47", after := #[{ on := 22, ground := Go.Ground.guard }], guard := some (22, true) }) (v := ?_) rfl (by kernel_rfl) (by kernel_rfl) (by kernel_rfl) (fun _ _ _ h => h) (Or.inl ⟨by rfl, ?_⟩) (by assumption) ?_
        (rotate_left; focus (intro wS hSw; first | (refine (exec_load (LA.out _ hSw.1) rfl rfl).trans ?_; with_reducible rfl) | (refine (exec_load (LB.out _ hSw.1) rfl rfl).trans ?_; with_reducible rfl) | (refine (exec_load (LC.out _ hSw.1) rfl rfl).trans ?_; with_reducible rfl) | (refine (exec_load (LJ.out _ hSw) rfl rfl).trans ?_; with_reducible rfl) | (refine (exec_load (LM.out _ hSw) rfl rfl).trans ?_; with_reducible rfl)))
        (try simp only [Act.put, List.setIfInBounds_toArray, List.set_cons_zero, List.set_cons_succ])
        refine wpAnyH_take (i := 26) (oi := { dst := some 79, op := Go.Op.load 23 (Go.Operand.tmp 7), type := 23, pos := "law.go:47", after := #[{ on := 22, ground := Go.Ground.guard }], guard := some (22, true) }) (v := ?_) rfl (by kernel_rfl) (by kernel_rfl) (by kernel_rfl) (fun _ _ _ h => h) (Or.inl ⟨by rfl, ?_⟩) (by assumption) ?_
        (rotate_left; focus (intro wS hSw; first | (refine (exec_load (LA.out _ hSw.1) rfl rfl).trans ?_; with_reducible rfl) | (refine (exec_load (LB.out _ hSw.1) rfl rfl).trans ?_; with_reducible rfl) | (refine (exec_load (LC.out _ hSw.1) rfl rfl).trans ?_; with_reducible rfl) | (refine (exec_load (LJ.out _ hSw) rfl rfl).trans ?_; with_reducible rfl) | (refine (exec_load (LM.out _ hSw) rfl rfl).trans ?_; with_reducible rfl)))
        (try simp only [Act.put, List.setIfInBounds_toArray, List.set_cons_zero, List.set_cons_succ])
        refine wpAnyH_ready (rs := [25]) (by kernel_rfl) (by simp) ?_
        refine AllReadyH.cons (o := { dst := some 78, op := Go.Op.call { callee := Go.Callee.value (Go.Operand.func 8), args := #[Go.Operand.tmp 76, Go.Operand.tmp 77], argTypes := #[23, 23] }, type := 23, pos := "law.go:47", after := #[{ on := 23, ground := Go.Ground.data }, { on := 24, ground := Go.Ground.data }, { on := 22, ground := Go.Ground.chain }, { on := 22, ground := Go.Ground.guard }], guard := some (22, true) }) rfl (fun K hK => ?_) AllReadyH.nil
        go_simp
        refine (TB.out _).mono ?_
        rintro e u25 ⟨rfl, hb⟩
        replace hS := hS.keep hb
        clear hb
        (try go_wp2_with fail)
        refine hK.out _ _ (by (exact hS)) (fun hHeld => ?_)
        clear hK K
        (try simp only [Act.put, List.setIfInBounds_toArray, List.set_cons_zero, List.set_cons_succ])
        refine wpAnyH_take (i := 27) (oi := { dst := some 80, op := Go.Op.binOp Go.BinOp.eql 23 (Go.Operand.tmp 78) (Go.Operand.tmp 79) 23, type := 4, pos := "law.go:47", after := #[{ on := 25, ground := Go.Ground.data }, { on := 26, ground := Go.Ground.data }, { on := 22, ground := Go.Ground.guard }], guard := some (22, true) }) (v := ?_) rfl (by kernel_rfl) (by kernel_rfl) (by kernel_rfl) (fun _ _ _ h => h) (Or.inl ⟨by rfl, ?_⟩) (by assumption) ?_
        (rotate_left; focus (intro wS hSw; (try dsimp only at hSw); go_simp; (try rw [if_neg (by omega)]); try with_reducible rfl))
        (try simp only [Act.put, List.setIfInBounds_toArray, List.set_cons_zero, List.set_cons_succ])
        refine wpAnyH_take (i := 28) (oi := { dst := some 81, op := Go.Op.pick (Go.Operand.tmp 75) (Go.Operand.tmp 80) (Go.Operand.const (Go.Value.bool false)), type := 4, pos := "law.go:47", after := #[{ on := 22, ground := Go.Ground.data }, { on := 27, ground := Go.Ground.data }], guard := none }) (v := ?_) rfl (by kernel_rfl) (by kernel_rfl) (by kernel_rfl) (fun _ _ _ h => h) (Or.inl ⟨by rfl, ?_⟩) (by assumption) ?_
        (rotate_left; focus (intro wS hSw; (try dsimp only at hSw); go_simp; (try rw [if_neg (by omega)]); try with_reducible rfl))
        (try simp only [Act.put, List.setIfInBounds_toArray, List.set_cons_zero, List.set_cons_succ])
        refine wpAnyH_take (i := 29) (oi := { dst := some 82, op := Go.Op.move (Go.Operand.tmp 81), type := 4, pos := "law.go:47", after := #[{ on := 28, ground := Go.Ground.data }, { on := 25, ground := Go.Ground.chain }], guard := none }) (v := ?_) rfl (by kernel_rfl) (by kernel_rfl) (by kernel_rfl) (fun _ _ _ h => h) (Or.inl ⟨by rfl, ?_⟩) (by assumption) ?_
        (rotate_left; focus (intro wS hSw; (try dsimp only at hSw); go_simp; (try rw [if_neg (by omega)]); try with_reducible rfl))
        (try simp only [Act.put, List.setIfInBounds_toArray, List.set_cons_zero, List.set_cons_succ])
        refine wpAnyH_take (i := 30) (oi := { dst := some 83, op := Go.Op.load 23 (Go.Operand.tmp 3), type := 23, pos := "law.go:47", after := #[{ on := 29, ground := Go.Ground.guard }], guard := some (29, true) }) (v := ?_) rfl (by kernel_rfl) (by kernel_rfl) (by kernel_rfl) (fun _ _ _ h => h) (Or.inl ⟨by rfl, ?_⟩) (by assumption) ?_
        (rotate_left; focus (intro wS hSw; first | (refine (exec_load (LA.out _ hSw.1) rfl rfl).trans ?_; with_reducible rfl) | (refine (exec_load (LB.out _ hSw.1) rfl rfl).trans ?_; with_reducible rfl) | (refine (exec_load (LC.out _ hSw.1) rfl rfl).trans ?_; with_reducible rfl) | (refine (exec_load (LJ.out _ hSw) rfl rfl).trans ?_; with_reducible rfl) | (refine (exec_load (LM.out _ hSw) rfl rfl).trans ?_; with_reducible rfl)))
        (try simp only [Act.put, List.setIfInBounds_toArray, List.set_cons_zero, List.set_cons_succ])
        refine wpAnyH_take (i := 31) (oi := { dst := some 84, op := Go.Op.load 23 (Go.Operand.tmp 4), type := 23, pos := "law.go:47", after := #[{ on := 29, ground := Go.Ground.guard }], guard := some (29, true) }) (v := ?_) rfl (by kernel_rfl) (by kernel_rfl) (by kernel_rfl) (fun _ _ _ h => h) (Or.inl ⟨by rfl, ?_⟩) (by assumption) ?_
        (rotate_left; focus (intro wS hSw; first | (refine (exec_load (LA.out _ hSw.1) rfl rfl).trans ?_; with_reducible rfl) | (refine (exec_load (LB.out _ hSw.1) rfl rfl).trans ?_; with_reducible rfl) | (refine (exec_load (LC.out _ hSw.1) rfl rfl).trans ?_; with_reducible rfl) | (refine (exec_load (LJ.out _ hSw) rfl rfl).trans ?_; with_reducible rfl) | (refine (exec_load (LM.out _ hSw) rfl rfl).trans ?_; with_reducible rfl)))
        (try simp only [Act.put, List.setIfInBounds_toArray, List.set_cons_zero, List.set_cons_succ])
        refine wpAnyH_take (i := 34) (oi := { dst := some 87, op := Go.Op.load 23 (Go.Operand.tmp 3), type := 23, pos := "law.go:47", after := #[{ on := 29, ground := Go.Ground.guard }], guard := some (29, true) }) (v := ?_) rfl (by kernel_rfl) (by kernel_rfl) (by kernel_rfl) (fun _ _ _ h => h) (Or.inl ⟨by rfl, ?_⟩) (by assumption) ?_
        (rotate_left; focus (intro wS hSw; first | (refine (exec_load (LA.out _ hSw.1) rfl rfl).trans ?_; with_reducible rfl) | (refine (exec_load (LB.out _ hSw.1) rfl rfl).trans ?_; with_reducible rfl) | (refine (exec_load (LC.out _ hSw.1) rfl rfl).trans ?_; with_reducible rfl) | (refine (exec_load (LJ.out _ hSw) rfl rfl).trans ?_; with_reducible rfl) | (refine (exec_load (LM.out _ hSw) rfl rfl).trans ?_; with_reducible rfl)))
        (try simp only [Act.put, List.setIfInBounds_toArray, List.set_cons_zero, List.set_cons_succ])
        refine wpAnyH_take (i := 35) (oi := { dst := some 88, op := Go.Op.load 23 (Go.Operand.tmp 4), type := 23, pos := "law.go:47", after := #[{ on := 29, ground := Go.Ground.guard }], guard := some (29, true) }) (v := ?_) rfl (by kernel_rfl) (by kernel_rfl) (by kernel_rfl) (fun _ _ _ h => h) (Or.inl ⟨by rfl, ?_⟩) (by assumption) ?_
        (rotate_left; focus (intro wS hSw; first | (refine (exec_load (LA.out _ hSw.1) rfl rfl).trans ?_; with_reducible rfl) | (refine (exec_load (LB.out _ hSw.1) rfl rfl).trans ?_; with_reducible rfl) | (refine (exec_load (LC.out _ hSw.1) rfl rfl).trans ?_; with_reducible rfl) | (refine (exec_load (LJ.out _ hSw) rfl rfl).trans ?_; with_reducible rfl) | (refine (exec_load (LM.out _ hSw) rfl rfl).trans ?_; with_reducible rfl)))
        (try simp only [Act.put, List.setIfInBounds_toArray, List.set_cons_zero, List.set_cons_succ])
        refine wpAnyH_take (i := 36) (oi := { dst := some 89, op := Go.Op.binOp Go.BinOp.eql 23 (Go.Operand.tmp 87) (Go.Operand.tmp 88) 23, type := 4, pos := "law.go:47", after := #[{ on := 34, ground := Go.Ground.data }, { on := 35, ground := Go.Ground.data }, { on := 29, ground := Go.Ground.guard }], guard := some (29, true) }) (v := ?_) rfl (by kernel_rfl) (by kernel_rfl) (by kernel_rfl) (fun _ _ _ h => h) (Or.inl ⟨by rfl, ?_⟩) (by assumption) ?_
        (rotate_left; focus (intro wS hSw; (try dsimp only at hSw); go_simp; (try rw [if_neg (by omega)]); try with_reducible rfl))
        (try simp only [Act.put, List.setIfInBounds_toArray, List.set_cons_zero, List.set_cons_succ])
        refine wpAnyH_ready (rs := [32]) (by kernel_rfl) (by simp) ?_
        refine AllReadyH.cons (o := { dst := some 85, op := Go.Op.call { callee := Go.Callee.value (Go.Operand.func 12), args := #[Go.Operand.tmp 83, Go.Operand.tmp 84], argTypes := #[23, 23] }, type := 3, pos := "law.go:47", after := #[{ on := 30, ground := Go.Ground.data }, { on := 31, ground := Go.Ground.data }, { on := 29, ground := Go.Ground.chain }, { on := 29, ground := Go.Ground.guard }], guard := some (29, true) }) rfl (fun K hK => ?_) AllReadyH.nil
        go_simp
        refine (TC8.out _).mono ?_
        rintro e u32 ⟨rfl, hb⟩
        replace hS := hS.keep hb
        clear hb
        (try go_wp2_with fail)
        refine hK.out _ _ (by (exact hS)) (fun hHeld => ?_)
        clear hK K
        (try simp only [Act.put, List.setIfInBounds_toArray, List.set_cons_zero, List.set_cons_succ])
        refine wpAnyH_take (i := 33) (oi := { dst := some 86, op := Go.Op.binOp Go.BinOp.eql 3 (Go.Operand.tmp 85) (Go.Operand.const (Go.Value.int Go.IntKind.i64 0)) 3, type := 4, pos := "law.go:47", after := #[{ on := 32, ground := Go.Ground.data }, { on := 29, ground := Go.Ground.guard }], guard := some (29, true) }) (v := ?_) rfl (by kernel_rfl) (by kernel_rfl) (by kernel_rfl) (fun _ _ _ h => h) (Or.inl ⟨by rfl, ?_⟩) (by assumption) ?_
        (rotate_left; focus (intro wS hSw; (try dsimp only at hSw); go_simp; (try rw [if_neg (by omega)]); try with_reducible rfl))
        (try simp only [Act.put, List.setIfInBounds_toArray, List.set_cons_zero, List.set_cons_succ])
        refine wpAnyH_take (i := 37) (oi := { dst := some 90, op := Go.Op.binOp Go.BinOp.eql 4 (Go.Operand.tmp 86) (Go.Operand.tmp 89) 4, type := 4, pos := "law.go:47", after := #[{ on := 33, ground := Go.Ground.data }, { on := 36, ground := Go.Ground.data }, { on := 29, ground := Go.Ground.guard }], guard := some (29, true) }) (v := ?_) rfl (by kernel_rfl) (by kernel_rfl) (by kernel_rfl) (fun _ _ _ h => h) (Or.inl ⟨by rfl, ?_⟩) (by assumption) ?_
        (rotate_left; focus (intro wS hSw; (try dsimp only at hSw); go_simp; (try rw [if_neg (by omega)]); try with_reducible rfl))
        (try simp only [Act.put, List.setIfInBounds_toArray, List.set_cons_zero, List.set_cons_succ])
        refine wpAnyH_take (i := 38) (oi := { dst := some 91, op := Go.Op.pick (Go.Operand.tmp 82) (Go.Operand.tmp 90) (Go.Operand.const (Go.Value.bool false)), type := 4, pos := "law.go:47", after := #[{ on := 29, ground := Go.Ground.data }, { on := 37, ground := Go.Ground.data }], guard := none }) (v := ?_) rfl (by kernel_rfl) (by kernel_rfl) (by kernel_rfl) (fun _ _ _ h => h) (Or.inl ⟨by rfl, ?_⟩) (by assumption) ?_
        (rotate_left; focus (intro wS hSw; (try dsimp only at hSw); go_simp; (try rw [if_neg (by omega)]); try with_reducible rfl))
        (try simp only [Act.put, List.setIfInBounds_toArray, List.set_cons_zero, List.set_cons_succ])
        refine wpAnyH_take (i := 39) (oi := { dst := some 92, op := Go.Op.move (Go.Operand.tmp 91), type := 4, pos := "law.go:47", after := #[{ on := 38, ground := Go.Ground.data }, { on := 32, ground := Go.Ground.chain }], guard := none }) (v := ?_) rfl (by kernel_rfl) (by kernel_rfl) (by kernel_rfl) (fun _ _ _ h => h) (Or.inl ⟨by rfl, ?_⟩) (by assumption) ?_
        (rotate_left; focus (intro wS hSw; (try dsimp only at hSw); go_simp; (try rw [if_neg (by omega)]); try with_reducible rfl))
        (try simp only [Act.put, List.setIfInBounds_toArray, List.set_cons_zero, List.set_cons_succ])
        refine wpAnyH_ready (rs := [40]) (by kernel_rfl) (by simp) ?_
        refine AllReadyH.cons (o := { dst := some 93, op := Go.Op.call { callee := Go.Callee.value (Go.Operand.func 16), args := #[], argTypes := #[] }, type := 4, pos := "law.go:47", after := #[{ on := 39, ground := Go.Ground.chain }, { on := 39, ground := Go.Ground.guard }], guard := some (39, true) }) rfl (fun K hK => ?_) AllReadyH.nil
        go_simp
        refine (awake_any _).mono ?_
        rintro e u40 ⟨rfl, hb⟩
        replace hS := hS.keep hb
        clear hb
        (try go_wp2_with fail)
        refine hK.out _ _ (by (exact hS)) (fun hHeld => ?_)
        clear hK K
        (try simp only [Act.put, List.setIfInBounds_toArray, List.set_cons_zero, List.set_cons_succ])
        refine wpAnyH_take (i := 41) (oi := { dst := some 94, op := Go.Op.pick (Go.Operand.tmp 92) (Go.Operand.tmp 93) (Go.Operand.const (Go.Value.bool false)), type := 4, pos := "law.go:47", after := #[{ on := 39, ground := Go.Ground.data }, { on := 40, ground := Go.Ground.data }], guard := none }) (v := ?_) rfl (by kernel_rfl) (by kernel_rfl) (by kernel_rfl) (fun _ _ _ h => h) (Or.inl ⟨by rfl, ?_⟩) (by assumption) ?_
        (rotate_left; focus (intro wS hSw; (try dsimp only at hSw); go_simp; (try rw [if_neg (by omega)]); try with_reducible rfl))
        (try simp only [Act.put, List.setIfInBounds_toArray, List.set_cons_zero, List.set_cons_succ])
        refine wpAnyH_take (i := 42) (oi := { dst := some 6, op := Go.Op.assign (Go.Operand.tmp 94), type := 4, pos := "law.go:47", after := #[{ on := 41, ground := Go.Ground.data }, { on := 40, ground := Go.Ground.chain }, { on := 0, ground := Go.Ground.phase }, { on := 1, ground := Go.Ground.phase }, { on := 2, ground := Go.Ground.phase }, { on := 3, ground := Go.Ground.phase }, { on := 4, ground := Go.Ground.phase }, { on := 5, ground := Go.Ground.phase }, { on := 6, ground := Go.Ground.phase }, { on := 7, ground := Go.Ground.phase }, { on := 8, ground := Go.Ground.phase }, { on := 9, ground := Go.Ground.phase }, { on := 10, ground := Go.Ground.phase }, { on := 11, ground := Go.Ground.phase }, { on := 12, ground := Go.Ground.phase }, { on := 13, ground := Go.Ground.phase }, { on := 14, ground := Go.Ground.phase }, { on := 15, ground := Go.Ground.phase }, { on := 16, ground := Go.Ground.phase }, { on := 17, ground := Go.Ground.phase }, { on := 18, ground := Go.Ground.phase }, { on := 19, ground := Go.Ground.phase }, { on := 20, ground := Go.Ground.phase }, { on := 21, ground := Go.Ground.phase }, { on := 22, ground := Go.Ground.phase }, { on := 23, ground := Go.Ground.phase }, { on := 24, ground := Go.Ground.phase }, { on := 25, ground := Go.Ground.phase }, { on := 26, ground := Go.Ground.phase }, { on := 27, ground := Go.Ground.phase }, { on := 28, ground := Go.Ground.phase }, { on := 29, ground := Go.Ground.phase }, { on := 30, ground := Go.Ground.phase }, { on := 31, ground := Go.Ground.phase }, { on := 32, ground := Go.Ground.phase }, { on := 33, ground := Go.Ground.phase }, { on := 34, ground := Go.Ground.phase }, { on := 35, ground := Go.Ground.phase }, { on := 36, ground := Go.Ground.phase }, { on := 37, ground := Go.Ground.phase }, { on := 38, ground := Go.Ground.phase }, { on := 39, ground := Go.Ground.phase }, { on := 40, ground := Go.Ground.phase }, { on := 41, ground := Go.Ground.phase }], guard := none }) (v := ?_) rfl (by kernel_rfl) (by kernel_rfl) (by kernel_rfl) (fun _ _ _ h => h) (Or.inl ⟨by rfl, ?_⟩) (by assumption) ?_
        (rotate_left; focus (intro wS hSw; (try dsimp only at hSw); go_simp; (try rw [if_neg (by omega)]); try with_reducible rfl))
        (try simp only [Act.put, List.setIfInBounds_toArray, List.set_cons_zero, List.set_cons_succ])
        refine wpAnyH_done (by kernel_rfl) ?_ _
        go_wp2
        go_ret
        exact ⟨rfl, hS.1.2.2⟩
    · replace f7 : decide (d7 < 1) = false := decide_eq_false (fun h => h5 (f7.1 h).1)
      have g5 : decide (d5 < 1) = false := decide_eq_false h5
      clear h5
      have hS := HL5.out.drew
      refine wp_region_held_drew (S := Lat1 w IA IB IC IJ IM p q) (by kernel_rfl) (by (exact hS)) (fun hHeld => ?_)
      refine wpAnyH_take (i := 0) (oi := { dst := some 37, op := Go.Op.load 23 (Go.Operand.tmp 3), type := 23, pos := "law.go:44", after := #[], guard := none }) (v := ?_) rfl (by kernel_rfl) (by kernel_rfl) (by kernel_rfl) (fun _ _ _ h => h) (Or.inl ⟨by rfl, ?_⟩) (by assumption) ?_
      (rotate_left; focus (intro wS hSw; first | (refine (exec_load (LA.out _ hSw.1) rfl rfl).trans ?_; with_reducible rfl) | (refine (exec_load (LB.out _ hSw.1) rfl rfl).trans ?_; with_reducible rfl) | (refine (exec_load (LC.out _ hSw.1) rfl rfl).trans ?_; with_reducible rfl) | (refine (exec_load (LJ.out _ hSw) rfl rfl).trans ?_; with_reducible rfl) | (refine (exec_load (LM.out _ hSw) rfl rfl).trans ?_; with_reducible rfl)))
      (try simp only [Act.put, List.setIfInBounds_toArray, List.set_cons_zero, List.set_cons_succ])
      refine wpAnyH_take (i := 1) (oi := { dst := some 38, op := Go.Op.load 23 (Go.Operand.tmp 5), type := 23, pos := "law.go:44", after := #[], guard := none }) (v := ?_) rfl (by kernel_rfl) (by kernel_rfl) (by kernel_rfl) (fun _ _ _ h => h) (Or.inl ⟨by rfl, ?_⟩) (by assumption) ?_
      (rotate_left; focus (intro wS hSw; first | (refine (exec_load (LA.out _ hSw.1) rfl rfl).trans ?_; with_reducible rfl) | (refine (exec_load (LB.out _ hSw.1) rfl rfl).trans ?_; with_reducible rfl) | (refine (exec_load (LC.out _ hSw.1) rfl rfl).trans ?_; with_reducible rfl) | (refine (exec_load (LJ.out _ hSw) rfl rfl).trans ?_; with_reducible rfl) | (refine (exec_load (LM.out _ hSw) rfl rfl).trans ?_; with_reducible rfl)))
      (try simp only [Act.put, List.setIfInBounds_toArray, List.set_cons_zero, List.set_cons_succ])
      refine wpAnyH_take (i := 11) (oi := { dst := some 48, op := Go.Op.load 23 (Go.Operand.tmp 7), type := 23, pos := "law.go:44", after := #[], guard := none }) (v := ?_) rfl (by kernel_rfl) (by kernel_rfl) (by kernel_rfl) (fun _ _ _ h => h) (Or.inl ⟨by rfl, ?_⟩) (by assumption) ?_
      (rotate_left; focus (intro wS hSw; first | (refine (exec_load (LA.out _ hSw.1) rfl rfl).trans ?_; with_reducible rfl) | (refine (exec_load (LB.out _ hSw.1) rfl rfl).trans ?_; with_reducible rfl) | (refine (exec_load (LC.out _ hSw.1) rfl rfl).trans ?_; with_reducible rfl) | (refine (exec_load (LJ.out _ hSw) rfl rfl).trans ?_; with_reducible rfl) | (refine (exec_load (LM.out _ hSw) rfl rfl).trans ?_; with_reducible rfl)))
      (try simp only [Act.put, List.setIfInBounds_toArray, List.set_cons_zero, List.set_cons_succ])
      refine wpAnyH_take (i := 12) (oi := { dst := some 49, op := Go.Op.load 23 (Go.Operand.tmp 5), type := 23, pos := "law.go:44", after := #[], guard := none }) (v := ?_) rfl (by kernel_rfl) (by kernel_rfl) (by kernel_rfl) (fun _ _ _ h => h) (Or.inl ⟨by rfl, ?_⟩) (by assumption) ?_
      (rotate_left; focus (intro wS hSw; first | (refine (exec_load (LA.out _ hSw.1) rfl rfl).trans ?_; with_reducible rfl) | (refine (exec_load (LB.out _ hSw.1) rfl rfl).trans ?_; with_reducible rfl) | (refine (exec_load (LC.out _ hSw.1) rfl rfl).trans ?_; with_reducible rfl) | (refine (exec_load (LJ.out _ hSw) rfl rfl).trans ?_; with_reducible rfl) | (refine (exec_load (LM.out _ hSw) rfl rfl).trans ?_; with_reducible rfl)))
      (try simp only [Act.put, List.setIfInBounds_toArray, List.set_cons_zero, List.set_cons_succ])
      refine wpAnyH_ready (rs := [2]) (by kernel_rfl) (by simp) ?_
      refine AllReadyH.cons (o := { dst := some 39, op := Go.Op.call { callee := Go.Callee.value (Go.Operand.func 12), args := #[Go.Operand.tmp 37, Go.Operand.tmp 38], argTypes := #[23, 23] }, type := 3, pos := "law.go:44", after := #[{ on := 0, ground := Go.Ground.data }, { on := 1, ground := Go.Ground.data }], guard := none }) rfl (fun K hK => ?_) AllReadyH.nil
      go_simp
      refine (TC5.out _).mono ?_
      rintro e v5 ⟨rfl, hb⟩
      replace hS := hS.keep hb
      clear hb
      (try go_wp2_with fail)
      refine hK.out _ _ (by (exact hS)) (fun hHeld => ?_)
      clear hK K
      (try simp only [Act.put, List.setIfInBounds_toArray, List.set_cons_zero, List.set_cons_succ])
      refine wpAnyH_take (i := 3) (oi := { dst := some 40, op := Go.Op.binOp Go.BinOp.lss 3 (Go.Operand.tmp 39) (Go.Operand.const (Go.Value.int Go.IntKind.i64 1)) 3, type := 4, pos := "law.go:44", after := #[{ on := 2, ground := Go.Ground.data }], guard := none }) (v := ?_) rfl (by kernel_rfl) (by kernel_rfl) (by kernel_rfl) (fun _ _ _ h => h) (Or.inl ⟨by rfl, ?_⟩) (by assumption) ?_
      (rotate_left; focus (intro wS hSw; (try dsimp only at hSw); go_simp; (try rw [if_neg (by omega)]); try with_reducible rfl))
      (try simp only [Act.put, List.setIfInBounds_toArray, List.set_cons_zero, List.set_cons_succ])
      refine wpAnyH_take (i := 4) (oi := { dst := some 41, op := Go.Op.move (Go.Operand.tmp 40), type := 4, pos := "law.go:44", after := #[{ on := 3, ground := Go.Ground.data }, { on := 2, ground := Go.Ground.chain }], guard := none }) (v := ?_) rfl (by kernel_rfl) (by kernel_rfl) (by kernel_rfl) (fun _ _ _ h => h) (Or.inl ⟨by rfl, ?_⟩) (by assumption) ?_
      (rotate_left; focus (intro wS hSw; (try dsimp only at hSw); go_simp; (try rw [if_neg (by omega)]); try with_reducible rfl))
      (try simp only [Act.put, List.setIfInBounds_toArray, List.set_cons_zero, List.set_cons_succ])
      refine wpAnyH_take (i := 5) (oi := { dst := some 42, op := Go.Op.load 23 (Go.Operand.tmp 4), type := 23, pos := "law.go:44", after := #[{ on := 4, ground := Go.Ground.guard }], guard := some (4, true) }) (v := undef) rfl (by kernel_rfl) (by kernel_rfl) (by kernel_rfl) (fun _ _ _ h => h) (Or.inr ⟨by rfl, rfl⟩) (by assumption) ?_
      (try simp only [Act.put, List.setIfInBounds_toArray, List.set_cons_zero, List.set_cons_succ])
      refine wpAnyH_take (i := 6) (oi := { dst := some 43, op := Go.Op.load 23 (Go.Operand.tmp 5), type := 23, pos := "law.go:44", after := #[{ on := 4, ground := Go.Ground.guard }], guard := some (4, true) }) (v := undef) rfl (by kernel_rfl) (by kernel_rfl) (by kernel_rfl) (fun _ _ _ h => h) (Or.inr ⟨by rfl, rfl⟩) (by assumption) ?_
      (try simp only [Act.put, List.setIfInBounds_toArray, List.set_cons_zero, List.set_cons_succ])
      refine wpAnyH_take (i := 7) (oi := { dst := some 44, op := Go.Op.call { callee := Go.Callee.value (Go.Operand.func 12), args := #[Go.Operand.tmp 42, Go.Operand.tmp 43], argTypes := #[23, 23] }, type := 3, pos := "law.go:44", after := #[{ on := 5, ground := Go.Ground.data }, { on := 6, ground := Go.Ground.data }, { on := 4, ground := Go.Ground.chain }, { on := 4, ground := Go.Ground.guard }], guard := some (4, true) }) (v := undef) rfl (by kernel_rfl) (by kernel_rfl) (by kernel_rfl) (fun _ _ _ h => h) (Or.inr ⟨by rfl, rfl⟩) (by assumption) ?_
      (try simp only [Act.put, List.setIfInBounds_toArray, List.set_cons_zero, List.set_cons_succ])
      refine wpAnyH_take (i := 8) (oi := { dst := some 45, op := Go.Op.binOp Go.BinOp.lss 3 (Go.Operand.tmp 44) (Go.Operand.const (Go.Value.int Go.IntKind.i64 1)) 3, type := 4, pos := "law.go:44", after := #[{ on := 7, ground := Go.Ground.data }, { on := 4, ground := Go.Ground.guard }], guard := some (4, true) }) (v := undef) rfl (by kernel_rfl) (by kernel_rfl) (by kernel_rfl) (fun _ _ _ h => h) (Or.inr ⟨by rfl, rfl⟩) (by assumption) ?_
      (try simp only [Act.put, List.setIfInBounds_toArray, List.set_cons_zero, List.set_cons_succ])
      refine wpAnyH_take (i := 9) (oi := { dst := some 46, op := Go.Op.pick (Go.Operand.tmp 41) (Go.Operand.tmp 45) (Go.Operand.const (Go.Value.bool false)), type := 4, pos := "law.go:44", after := #[{ on := 4, ground := Go.Ground.data }, { on := 8, ground := Go.Ground.data }], guard := none }) (v := ?_) rfl (by kernel_rfl) (by kernel_rfl) (by kernel_rfl) (fun _ _ _ h => h) (Or.inl ⟨by rfl, ?_⟩) (by assumption) ?_
      (rotate_left; focus (intro wS hSw; (try dsimp only at hSw); go_simp; (try rw [if_neg (by omega)]); try with_reducible rfl))
      (try simp only [Act.put, List.setIfInBounds_toArray, List.set_cons_zero, List.set_cons_succ])
      refine wpAnyH_take (i := 10) (oi := { dst := some 47, op := Go.Op.unOp Go.UnOp.not 4 (Go.Operand.tmp 46), type := 4, pos := "law.go:44", after := #[{ on := 9, ground := Go.Ground.data }], guard := none }) (v := ?_) rfl (by kernel_rfl) (by kernel_rfl) (by kernel_rfl) (fun _ _ _ h => h) (Or.inl ⟨by rfl, ?_⟩) (by assumption) ?_
      (rotate_left; focus (intro wS hSw; (try dsimp only at hSw); go_simp; (try rw [if_neg (by omega)]); try with_reducible rfl))
      (try simp only [Act.put, List.setIfInBounds_toArray, List.set_cons_zero, List.set_cons_succ])
      refine wpAnyH_ready (rs := [13]) (by kernel_rfl) (by simp) ?_
      refine AllReadyH.cons (o := { dst := some 50, op := Go.Op.call { callee := Go.Callee.value (Go.Operand.func 12), args := #[Go.Operand.tmp 48, Go.Operand.tmp 49], argTypes := #[23, 23] }, type := 3, pos := "law.go:44", after := #[{ on := 11, ground := Go.Ground.data }, { on := 12, ground := Go.Ground.data }, { on := 7, ground := Go.Ground.chain }], guard := none }) rfl (fun K hK => ?_) AllReadyH.nil
      go_simp
      refine (TC7.out _).mono ?_
      rintro e v7 ⟨rfl, hb⟩
      replace hS := hS.keep hb
      clear hb
      (try go_wp2_with fail)
      refine hK.out _ _ (by (exact hS)) (fun hHeld => ?_)
      clear hK K
      (try simp only [Act.put, List.setIfInBounds_toArray, List.set_cons_zero, List.set_cons_succ])
      refine wpAnyH_take (i := 14) (oi := { dst := some 51, op := Go.Op.binOp Go.BinOp.lss 3 (Go.Operand.tmp 50) (Go.Operand.const (Go.Value.int Go.IntKind.i64 1)) 3, type := 4, pos := "law.go:44", after := #[{ on := 13, ground := Go.Ground.data }], guard := none }) (v := ?_) rfl (by kernel_rfl) (by kernel_rfl) (by kernel_rfl) (fun _ _ _ h => h) (Or.inl ⟨by rfl, ?_⟩) (by assumption) ?_
      (rotate_left; focus (intro wS hSw; (try dsimp only at hSw); go_simp; (try rw [if_neg (by omega)]); try with_reducible rfl))
      (try simp only [Act.put, List.setIfInBounds_toArray, List.set_cons_zero, List.set_cons_succ])
      refine wpAnyH_take (i := 15) (oi := { dst := some 52, op := Go.Op.binOp Go.BinOp.eql 4 (Go.Operand.tmp 47) (Go.Operand.tmp 51) 4, type := 4, pos := "law.go:44", after := #[{ on := 10, ground := Go.Ground.data }, { on := 14, ground := Go.Ground.data }], guard := none }) (v := ?_) rfl (by kernel_rfl) (by kernel_rfl) (by kernel_rfl) (fun _ _ _ h => h) (Or.inl ⟨by rfl, ?_⟩) (by assumption) ?_
      (rotate_left; focus (intro wS hSw; (try dsimp only at hSw); go_simp; (try rw [if_neg (by omega)]); try with_reducible rfl))
      (try simp only [Act.put, List.setIfInBounds_toArray, List.set_cons_zero, List.set_cons_succ])
      refine wpAnyH_done (by kernel_rfl) ?_ _
      go_wp2_with fail
      replace hS := hS.drew
      refine wp_region_held_drew (S := Lat1 w IA IB IC IJ IM p q) (by kernel_rfl) (by (exact hS)) (fun hHeld => ?_)
      refine wpAnyH_take (i := 0) (oi := { dst := some 53, op := Go.Op.move (Go.Operand.tmp 9), type := 4, pos := "law.go:47", after := #[], guard := none }) (v := ?_) rfl (by kernel_rfl) (by kernel_rfl) (by kernel_rfl) (fun _ _ _ h => h) (Or.inl ⟨by rfl, ?_⟩) (by assumption) ?_
      (rotate_left; focus (intro wS hSw; (try dsimp only at hSw); go_simp; (try rw [if_neg (by omega)]); try with_reducible rfl))
      (try simp only [Act.put, List.setIfInBounds_toArray, List.set_cons_zero, List.set_cons_succ])
      refine wpAnyH_take (i := 1) (oi := { dst := some 54, op := Go.Op.move (Go.Operand.tmp 53), type := 4, pos := "law.go:47", after := #[{ on := 0, ground := Go.Ground.data }], guard := none }) (v := ?_) rfl (by kernel_rfl) (by kernel_rfl) (by kernel_rfl) (fun _ _ _ h => h) (Or.inl ⟨by rfl, ?_⟩) (by assumption) ?_
      (rotate_left; focus (intro wS hSw; (try dsimp only at hSw); go_simp; (try rw [if_neg (by omega)]); try with_reducible rfl))
      (try simp only [Act.put, List.setIfInBounds_toArray, List.set_cons_zero, List.set_cons_succ])
      refine wpAnyH_take (i := 2) (oi := { dst := some 55, op := Go.Op.move (Go.Operand.tmp 10), type := 4, pos := "law.go:47", after := #[{ on := 1, ground := Go.Ground.guard }], guard := some (1, true) }) (v := ?_) rfl (by kernel_rfl) (by kernel_rfl) (by kernel_rfl) (fun _ _ _ h => h) (Or.inl ⟨by rfl, ?_⟩) (by assumption) ?_
      (rotate_left; focus (intro wS hSw; (try dsimp only at hSw); go_simp; (try rw [if_neg (by omega)]); try with_reducible rfl))
      (try simp only [Act.put, List.setIfInBounds_toArray, List.set_cons_zero, List.set_cons_succ])
      refine wpAnyH_take (i := 3) (oi := { dst := some 56, op := Go.Op.pick (Go.Operand.tmp 54) (Go.Operand.tmp 55) (Go.Operand.const (Go.Value.bool false)), type := 4, pos := "law.go:47", after := #[{ on := 1, ground := Go.Ground.data }, { on := 2, ground := Go.Ground.data }], guard := none }) (v := ?_) rfl (by kernel_rfl) (by kernel_rfl) (by kernel_rfl) (fun _ _ _ h => h) (Or.inl ⟨by rfl, ?_⟩) (by assumption) ?_
      (rotate_left; focus (intro wS hSw; (try dsimp only at hSw); go_simp; (try rw [if_neg (by omega)]); try with_reducible rfl))
      (try simp only [Act.put, List.setIfInBounds_toArray, List.set_cons_zero, List.set_cons_succ])
      refine wpAnyH_take (i := 4) (oi := { dst := some 57, op := Go.Op.move (Go.Operand.tmp 56), type := 4, pos := "law.go:47", after := #[{ on := 3, ground := Go.Ground.data }, { on := 1, ground := Go.Ground.chain }], guard := none }) (v := ?_) rfl (by kernel_rfl) (by kernel_rfl) (by kernel_rfl) (fun _ _ _ h => h) (Or.inl ⟨by rfl, ?_⟩) (by assumption) ?_
      (rotate_left; focus (intro wS hSw; (try dsimp only at hSw); go_simp; (try rw [if_neg (by omega)]); try with_reducible rfl))
      (try simp only [Act.put, List.setIfInBounds_toArray, List.set_cons_zero, List.set_cons_succ])
      refine wpAnyH_take (i := 5) (oi := { dst := some 58, op := Go.Op.load 23 (Go.Operand.tmp 3), type := 23, pos := "law.go:47", after := #[{ on := 4, ground := Go.Ground.guard }], guard := some (4, true) }) (v := ?_) rfl (by kernel_rfl) (by kernel_rfl) (by kernel_rfl) (fun _ _ _ h => h) (Or.inl ⟨by rfl, ?_⟩) (by assumption) ?_
      (rotate_left; focus (intro wS hSw; first | (refine (exec_load (LA.out _ hSw.1) rfl rfl).trans ?_; with_reducible rfl) | (refine (exec_load (LB.out _ hSw.1) rfl rfl).trans ?_; with_reducible rfl) | (refine (exec_load (LC.out _ hSw.1) rfl rfl).trans ?_; with_reducible rfl) | (refine (exec_load (LJ.out _ hSw) rfl rfl).trans ?_; with_reducible rfl) | (refine (exec_load (LM.out _ hSw) rfl rfl).trans ?_; with_reducible rfl)))
      (try simp only [Act.put, List.setIfInBounds_toArray, List.set_cons_zero, List.set_cons_succ])
      refine wpAnyH_take (i := 6) (oi := { dst := some 59, op := Go.Op.load 23 (Go.Operand.tmp 4), type := 23, pos := "law.go:47", after := #[{ on := 4, ground := Go.Ground.guard }], guard := some (4, true) }) (v := ?_) rfl (by kernel_rfl) (by kernel_rfl) (by kernel_rfl) (fun _ _ _ h => h) (Or.inl ⟨by rfl, ?_⟩) (by assumption) ?_
      (rotate_left; focus (intro wS hSw; first | (refine (exec_load (LA.out _ hSw.1) rfl rfl).trans ?_; with_reducible rfl) | (refine (exec_load (LB.out _ hSw.1) rfl rfl).trans ?_; with_reducible rfl) | (refine (exec_load (LC.out _ hSw.1) rfl rfl).trans ?_; with_reducible rfl) | (refine (exec_load (LJ.out _ hSw) rfl rfl).trans ?_; with_reducible rfl) | (refine (exec_load (LM.out _ hSw) rfl rfl).trans ?_; with_reducible rfl)))
      (try simp only [Act.put, List.setIfInBounds_toArray, List.set_cons_zero, List.set_cons_succ])
      refine wpAnyH_take (i := 7) (oi := { dst := some 60, op := Go.Op.load 23 (Go.Operand.tmp 5), type := 23, pos := "law.go:47", after := #[{ on := 4, ground := Go.Ground.guard }], guard := some (4, true) }) (v := ?_) rfl (by kernel_rfl) (by kernel_rfl) (by kernel_rfl) (fun _ _ _ h => h) (Or.inl ⟨by rfl, ?_⟩) (by assumption) ?_
      (rotate_left; focus (intro wS hSw; first | (refine (exec_load (LA.out _ hSw.1) rfl rfl).trans ?_; with_reducible rfl) | (refine (exec_load (LB.out _ hSw.1) rfl rfl).trans ?_; with_reducible rfl) | (refine (exec_load (LC.out _ hSw.1) rfl rfl).trans ?_; with_reducible rfl) | (refine (exec_load (LJ.out _ hSw) rfl rfl).trans ?_; with_reducible rfl) | (refine (exec_load (LM.out _ hSw) rfl rfl).trans ?_; with_reducible rfl)))
      (try simp only [Act.put, List.setIfInBounds_toArray, List.set_cons_zero, List.set_cons_succ])
      refine wpAnyH_take (i := 10) (oi := { dst := some 63, op := Go.Op.load 23 (Go.Operand.tmp 7), type := 23, pos := "law.go:47", after := #[{ on := 4, ground := Go.Ground.guard }], guard := some (4, true) }) (v := ?_) rfl (by kernel_rfl) (by kernel_rfl) (by kernel_rfl) (fun _ _ _ h => h) (Or.inl ⟨by rfl, ?_⟩) (by assumption) ?_
      (rotate_left; focus (intro wS hSw; first | (refine (exec_load (LA.out _ hSw.1) rfl rfl).trans ?_; with_reducible rfl) | (refine (exec_load (LB.out _ hSw.1) rfl rfl).trans ?_; with_reducible rfl) | (refine (exec_load (LC.out _ hSw.1) rfl rfl).trans ?_; with_reducible rfl) | (refine (exec_load (LJ.out _ hSw) rfl rfl).trans ?_; with_reducible rfl) | (refine (exec_load (LM.out _ hSw) rfl rfl).trans ?_; with_reducible rfl)))
      (try simp only [Act.put, List.setIfInBounds_toArray, List.set_cons_zero, List.set_cons_succ])
      refine wpAnyH_take (i := 11) (oi := { dst := some 64, op := Go.Op.load 23 (Go.Operand.tmp 5), type := 23, pos := "law.go:47", after := #[{ on := 4, ground := Go.Ground.guard }], guard := some (4, true) }) (v := ?_) rfl (by kernel_rfl) (by kernel_rfl) (by kernel_rfl) (fun _ _ _ h => h) (Or.inl ⟨by rfl, ?_⟩) (by assumption) ?_
      (rotate_left; focus (intro wS hSw; first | (refine (exec_load (LA.out _ hSw.1) rfl rfl).trans ?_; with_reducible rfl) | (refine (exec_load (LB.out _ hSw.1) rfl rfl).trans ?_; with_reducible rfl) | (refine (exec_load (LC.out _ hSw.1) rfl rfl).trans ?_; with_reducible rfl) | (refine (exec_load (LJ.out _ hSw) rfl rfl).trans ?_; with_reducible rfl) | (refine (exec_load (LM.out _ hSw) rfl rfl).trans ?_; with_reducible rfl)))
      (try simp only [Act.put, List.setIfInBounds_toArray, List.set_cons_zero, List.set_cons_succ])
      refine wpAnyH_ready (rs := [8]) (by kernel_rfl) (by simp) ?_
      refine AllReadyH.cons (o := { dst := some 61, op := Go.Op.call { callee := Go.Callee.value (Go.Operand.func 8), args := #[Go.Operand.tmp 59, Go.Operand.tmp 60], argTypes := #[23, 23] }, type := 23, pos := "law.go:47", after := #[{ on := 6, ground := Go.Ground.data }, { on := 7, ground := Go.Ground.data }, { on := 4, ground := Go.Ground.chain }, { on := 4, ground := Go.Ground.guard }], guard := some (4, true) }) rfl (fun K hK => ?_) AllReadyH.nil
      go_simp
      refine (TN.out _).mono ?_
      rintro e u8 ⟨rfl, hb⟩
      replace hS := hS.keep hb
      clear hb
      (try go_wp2_with fail)
      refine hK.out _ _ (by (exact hS)) (fun hHeld => ?_)
      clear hK K
      (try simp only [Act.put, List.setIfInBounds_toArray, List.set_cons_zero, List.set_cons_succ])
      refine wpAnyH_ready (rs := [9]) (by kernel_rfl) (by simp) ?_
      refine AllReadyH.cons (o := { dst := some 62, op := Go.Op.call { callee := Go.Callee.value (Go.Operand.func 8), args := #[Go.Operand.tmp 58, Go.Operand.tmp 61], argTypes := #[23, 23] }, type := 23, pos := "law.go:47", after := #[{ on := 5, ground := Go.Ground.data }, { on := 8, ground := Go.Ground.data }, { on := 8, ground := Go.Ground.chain }, { on := 4, ground := Go.Ground.guard }], guard := some (4, true) }) rfl (fun K hK => ?_) AllReadyH.nil
      go_simp
      refine (TU.out _).mono ?_
      rintro e u9 ⟨rfl, hb⟩
      replace hS := hS.keep hb
      clear hb
      (try go_wp2_with fail)
      refine hK.out _ _ (by (exact hS)) (fun hHeld => ?_)
      clear hK K
      (try simp only [Act.put, List.setIfInBounds_toArray, List.set_cons_zero, List.set_cons_succ])
      refine wpAnyH_ready (rs := [12]) (by kernel_rfl) (by simp) ?_
      refine AllReadyH.cons (o := { dst := some 65, op := Go.Op.call { callee := Go.Callee.value (Go.Operand.func 8), args := #[Go.Operand.tmp 63, Go.Operand.tmp 64], argTypes := #[23, 23] }, type := 23, pos := "law.go:47", after := #[{ on := 10, ground := Go.Ground.data }, { on := 11, ground := Go.Ground.data }, { on := 9, ground := Go.Ground.chain }, { on := 4, ground := Go.Ground.guard }], guard := some (4, true) }) rfl (fun K hK => ?_) AllReadyH.nil
      go_simp
      refine (TV.out _).mono ?_
      rintro e u12 ⟨rfl, hb⟩
      replace hS := hS.keep hb
      clear hb
      (try go_wp2_with fail)
      refine hK.out _ _ (by (exact hS)) (fun hHeld => ?_)
      clear hK K
      (try simp only [Act.put, List.setIfInBounds_toArray, List.set_cons_zero, List.set_cons_succ])
      refine wpAnyH_take (i := 13) (oi := { dst := some 66, op := Go.Op.binOp Go.BinOp.eql 23 (Go.Operand.tmp 62) (Go.Operand.tmp 65) 23, type := 4, pos := "law.go:47", after := #[{ on := 9, ground := Go.Ground.data }, { on := 12, ground := Go.Ground.data }, { on := 4, ground := Go.Ground.guard }], guard := some (4, true) }) (v := ?_) rfl (by kernel_rfl) (by kernel_rfl) (by kernel_rfl) (fun _ _ _ h => h) (Or.inl ⟨by rfl, ?_⟩) (by assumption) ?_
      (rotate_left; focus (intro wS hSw; (try dsimp only at hSw); go_simp; (try rw [if_neg (by omega)]); try with_reducible rfl))
      (try simp only [Act.put, List.setIfInBounds_toArray, List.set_cons_zero, List.set_cons_succ])
      refine wpAnyH_take (i := 14) (oi := { dst := some 67, op := Go.Op.pick (Go.Operand.tmp 57) (Go.Operand.tmp 66) (Go.Operand.const (Go.Value.bool false)), type := 4, pos := "law.go:47", after := #[{ on := 4, ground := Go.Ground.data }, { on := 13, ground := Go.Ground.data }], guard := none }) (v := ?_) rfl (by kernel_rfl) (by kernel_rfl) (by kernel_rfl) (fun _ _ _ h => h) (Or.inl ⟨by rfl, ?_⟩) (by assumption) ?_
      (rotate_left; focus (intro wS hSw; (try dsimp only at hSw); go_simp; (try rw [if_neg (by omega)]); try with_reducible rfl))
      (try simp only [Act.put, List.setIfInBounds_toArray, List.set_cons_zero, List.set_cons_succ])
      refine wpAnyH_take (i := 15) (oi := { dst := some 68, op := Go.Op.move (Go.Operand.tmp 67), type := 4, pos := "law.go:47", after := #[{ on := 14, ground := Go.Ground.data }, { on := 12, ground := Go.Ground.chain }], guard := none }) (v := ?_) rfl (by kernel_rfl) (by kernel_rfl) (by kernel_rfl) (fun _ _ _ h => h) (Or.inl ⟨by rfl, ?_⟩) (by assumption) ?_
      (rotate_left; focus (intro wS hSw; (try dsimp only at hSw); go_simp; (try rw [if_neg (by omega)]); try with_reducible rfl))
      (try simp only [Act.put, List.setIfInBounds_toArray, List.set_cons_zero, List.set_cons_succ])
      refine wpAnyH_take (i := 16) (oi := { dst := some 69, op := Go.Op.load 23 (Go.Operand.tmp 3), type := 23, pos := "law.go:47", after := #[{ on := 15, ground := Go.Ground.guard }], guard := some (15, true) }) (v := ?_) rfl (by kernel_rfl) (by kernel_rfl) (by kernel_rfl) (fun _ _ _ h => h) (Or.inl ⟨by rfl, ?_⟩) (by assumption) ?_
      (rotate_left; focus (intro wS hSw; first | (refine (exec_load (LA.out _ hSw.1) rfl rfl).trans ?_; with_reducible rfl) | (refine (exec_load (LB.out _ hSw.1) rfl rfl).trans ?_; with_reducible rfl) | (refine (exec_load (LC.out _ hSw.1) rfl rfl).trans ?_; with_reducible rfl) | (refine (exec_load (LJ.out _ hSw) rfl rfl).trans ?_; with_reducible rfl) | (refine (exec_load (LM.out _ hSw) rfl rfl).trans ?_; with_reducible rfl)))
      (try simp only [Act.put, List.setIfInBounds_toArray, List.set_cons_zero, List.set_cons_succ])
      refine wpAnyH_take (i := 17) (oi := { dst := some 70, op := Go.Op.load 23 (Go.Operand.tmp 3), type := 23, pos := "law.go:47", after := #[{ on := 15, ground := Go.Ground.guard }], guard := some (15, true) }) (v := ?_) rfl (by kernel_rfl) (by kernel_rfl) (by kernel_rfl) (fun _ _ _ h => h) (Or.inl ⟨by rfl, ?_⟩) (by assumption) ?_
      (rotate_left; focus (intro wS hSw; first | (refine (exec_load (LA.out _ hSw.1) rfl rfl).trans ?_; with_reducible rfl) | (refine (exec_load (LB.out _ hSw.1) rfl rfl).trans ?_; with_reducible rfl) | (refine (exec_load (LC.out _ hSw.1) rfl rfl).trans ?_; with_reducible rfl) | (refine (exec_load (LJ.out _ hSw) rfl rfl).trans ?_; with_reducible rfl) | (refine (exec_load (LM.out _ hSw) rfl rfl).trans ?_; with_reducible rfl)))
      (try simp only [Act.put, List.setIfInBounds_toArray, List.set_cons_zero, List.set_cons_succ])
      refine wpAnyH_take (i := 19) (oi := { dst := some 72, op := Go.Op.load 23 (Go.Operand.tmp 3), type := 23, pos := "law.go:47", after := #[{ on := 15, ground := Go.Ground.guard }], guard := some (15, true) }) (v := ?_) rfl (by kernel_rfl) (by kernel_rfl) (by kernel_rfl) (fun _ _ _ h => h) (Or.inl ⟨by rfl, ?_⟩) (by assumption) ?_
      (rotate_left; focus (intro wS hSw; first | (refine (exec_load (LA.out _ hSw.1) rfl rfl).trans ?_; with_reducible rfl) | (refine (exec_load (LB.out _ hSw.1) rfl rfl).trans ?_; with_reducible rfl) | (refine (exec_load (LC.out _ hSw.1) rfl rfl).trans ?_; with_reducible rfl) | (refine (exec_load (LJ.out _ hSw) rfl rfl).trans ?_; with_reducible rfl) | (refine (exec_load (LM.out _ hSw) rfl rfl).trans ?_; with_reducible rfl)))
      (try simp only [Act.put, List.setIfInBounds_toArray, List.set_cons_zero, List.set_cons_succ])
      refine wpAnyH_ready (rs := [18]) (by kernel_rfl) (by simp) ?_
      refine AllReadyH.cons (o := { dst := some 71, op := Go.Op.call { callee := Go.Callee.value (Go.Operand.func 8), args := #[Go.Operand.tmp 69, Go.Operand.tmp 70], argTypes := #[23, 23] }, type := 23, pos := "law.go:47", after := #[{ on := 16, ground := Go.Ground.data }, { on := 17, ground := Go.Ground.data }, { on := 15, ground := Go.Ground.chain }, { on := 15, ground := Go.Ground.guard }], guard := some (15, true) }) rfl (fun K hK => ?_) AllReadyH.nil
      go_simp
      refine (TA.out _).mono ?_
      rintro e u18 ⟨rfl, hb⟩
      replace hS := hS.keep hb
      clear hb
      (try go_wp2_with fail)
      refine hK.out _ _ (by (exact hS)) (fun hHeld => ?_)
      clear hK K
      (try simp only [Act.put, List.setIfInBounds_toArray, List.set_cons_zero, List.set_cons_succ])
      refine wpAnyH_take (i := 20) (oi := { dst := some 73, op := Go.Op.binOp Go.BinOp.eql 23 (Go.Operand.tmp 71) (Go.Operand.tmp 72) 23, type := 4, pos := "law.go:47", after := #[{ on := 18, ground := Go.Ground.data }, { on := 19, ground := Go.Ground.data }, { on := 15, ground := Go.Ground.guard }], guard := some (15, true) }) (v := ?_) rfl (by kernel_rfl) (by kernel_rfl) (by kernel_rfl) (fun _ _ _ h => h) (Or.inl ⟨by rfl, ?_⟩) (by assumption) ?_
      (rotate_left; focus (intro wS hSw; (try dsimp only at hSw); go_simp; (try rw [if_neg (by omega)]); try with_reducible rfl))
      (try simp only [Act.put, List.setIfInBounds_toArray, List.set_cons_zero, List.set_cons_succ])
      refine wpAnyH_take (i := 21) (oi := { dst := some 74, op := Go.Op.pick (Go.Operand.tmp 68) (Go.Operand.tmp 73) (Go.Operand.const (Go.Value.bool false)), type := 4, pos := "law.go:47", after := #[{ on := 15, ground := Go.Ground.data }, { on := 20, ground := Go.Ground.data }], guard := none }) (v := ?_) rfl (by kernel_rfl) (by kernel_rfl) (by kernel_rfl) (fun _ _ _ h => h) (Or.inl ⟨by rfl, ?_⟩) (by assumption) ?_
      (rotate_left; focus (intro wS hSw; (try dsimp only at hSw); go_simp; (try rw [if_neg (by omega)]); try with_reducible rfl))
      (try simp only [Act.put, List.setIfInBounds_toArray, List.set_cons_zero, List.set_cons_succ])
      refine wpAnyH_take (i := 22) (oi := { dst := some 75, op := Go.Op.move (Go.Operand.tmp 74), type := 4, pos := "law.go:47", after := #[{ on := 21, ground := Go.Ground.data }, { on := 18, ground := Go.Ground.chain }], guard := none }) (v := ?_) rfl (by kernel_rfl) (by kernel_rfl) (by kernel_rfl) (fun _ _ _ h => h) (Or.inl ⟨by rfl, ?_⟩) (by assumption) ?_
      (rotate_left; focus (intro wS hSw; (try dsimp only at hSw); go_simp; (try rw [if_neg (by omega)]); try with_reducible rfl))
      (try simp only [Act.put, List.setIfInBounds_toArray, List.set_cons_zero, List.set_cons_succ])
      refine wpAnyH_take (i := 23) (oi := { dst := some 76, op := Go.Op.load 23 (Go.Operand.tmp 4), type := 23, pos := "law.go:47", after := #[{ on := 22, ground := Go.Ground.guard }], guard := some (22, true) }) (v := ?_) rfl (by kernel_rfl) (by kernel_rfl) (by kernel_rfl) (fun _ _ _ h => h) (Or.inl ⟨by rfl, ?_⟩) (by assumption) ?_
      (rotate_left; focus (intro wS hSw; first | (refine (exec_load (LA.out _ hSw.1) rfl rfl).trans ?_; with_reducible rfl) | (refine (exec_load (LB.out _ hSw.1) rfl rfl).trans ?_; with_reducible rfl) | (refine (exec_load (LC.out _ hSw.1) rfl rfl).trans ?_; with_reducible rfl) | (refine (exec_load (LJ.out _ hSw) rfl rfl).trans ?_; with_reducible rfl) | (refine (exec_load (LM.out _ hSw) rfl rfl).trans ?_; with_reducible rfl)))
      (try simp only [Act.put, List.setIfInBounds_toArray, List.set_cons_zero, List.set_cons_succ])
      refine wpAnyH_take (i := 24) (oi := { dst := some 77, op := Go.Op.load 23 (Go.Operand.tmp 3), type := 23, pos := "law.go:47", after := #[{ on := 22, ground := Go.Ground.guard }], guard := some (22, true) }) (v := ?_) rfl (by kernel_rfl) (by kernel_rfl) (by kernel_rfl) (fun _ _ _ h => h) (Or.inl ⟨by rfl, ?_⟩) (by assumption) ?_
      (rotate_left; focus (intro wS hSw; first | (refine (exec_load (LA.out _ hSw.1) rfl rfl).trans ?_; with_reducible rfl) | (refine (exec_load (LB.out _ hSw.1) rfl rfl).trans ?_; with_reducible rfl) | (refine (exec_load (LC.out _ hSw.1) rfl rfl).trans ?_; with_reducible rfl) | (refine (exec_load (LJ.out _ hSw) rfl rfl).trans ?_; with_reducible rfl) | (refine (exec_load (LM.out _ hSw) rfl rfl).trans ?_; with_reducible rfl)))
      (try simp only [Act.put, List.setIfInBounds_toArray, List.set_cons_zero, List.set_cons_succ])
      refine wpAnyH_take (i := 26) (oi := { dst := some 79, op := Go.Op.load 23 (Go.Operand.tmp 7), type := 23, pos := "law.go:47", after := #[{ on := 22, ground := Go.Ground.guard }], guard := some (22, true) }) (v := ?_) rfl (by kernel_rfl) (by kernel_rfl) (by kernel_rfl) (fun _ _ _ h => h) (Or.inl ⟨by rfl, ?_⟩) (by assumption) ?_
      (rotate_left; focus (intro wS hSw; first | (refine (exec_load (LA.out _ hSw.1) rfl rfl).trans ?_; with_reducible rfl) | (refine (exec_load (LB.out _ hSw.1) rfl rfl).trans ?_; with_reducible rfl) | (refine (exec_load (LC.out _ hSw.1) rfl rfl).trans ?_; with_reducible rfl) | (refine (exec_load (LJ.out _ hSw) rfl rfl).trans ?_; with_reducible rfl) | (refine (exec_load (LM.out _ hSw) rfl rfl).trans ?_; with_reducible rfl)))
      (try simp only [Act.put, List.setIfInBounds_toArray, List.set_cons_zero, List.set_cons_succ])
      refine wpAnyH_ready (rs := [25]) (by kernel_rfl) (by simp) ?_
      refine AllReadyH.cons (o := { dst := some 78, op := Go.Op.call { callee := Go.Callee.value (Go.Operand.func 8), args := #[Go.Operand.tmp 76, Go.Operand.tmp 77], argTypes := #[23, 23] }, type := 23, pos := "law.go:47", after := #[{ on := 23, ground := Go.Ground.data }, { on := 24, ground := Go.Ground.data }, { on := 22, ground := Go.Ground.chain }, { on := 22, ground := Go.Ground.guard }], guard := some (22, true) }) rfl (fun K hK => ?_) AllReadyH.nil
      go_simp
      refine (TB.out _).mono ?_
      rintro e u25 ⟨rfl, hb⟩
      replace hS := hS.keep hb
      clear hb
      (try go_wp2_with fail)
      refine hK.out _ _ (by (exact hS)) (fun hHeld => ?_)
      clear hK K
      (try simp only [Act.put, List.setIfInBounds_toArray, List.set_cons_zero, List.set_cons_succ])
      refine wpAnyH_take (i := 27) (oi := { dst := some 80, op := Go.Op.binOp Go.BinOp.eql 23 (Go.Operand.tmp 78) (Go.Operand.tmp 79) 23, type := 4, pos := "law.go:47", after := #[{ on := 25, ground := Go.Ground.data }, { on := 26, ground := Go.Ground.data }, { on := 22, ground := Go.Ground.guard }], guard := some (22, true) }) (v := ?_) rfl (by kernel_rfl) (by kernel_rfl) (by kernel_rfl) (fun _ _ _ h => h) (Or.inl ⟨by rfl, ?_⟩) (by assumption) ?_
      (rotate_left; focus (intro wS hSw; (try dsimp only at hSw); go_simp; (try rw [if_neg (by omega)]); try with_reducible rfl))
      (try simp only [Act.put, List.setIfInBounds_toArray, List.set_cons_zero, List.set_cons_succ])
      refine wpAnyH_take (i := 28) (oi := { dst := some 81, op := Go.Op.pick (Go.Operand.tmp 75) (Go.Operand.tmp 80) (Go.Operand.const (Go.Value.bool false)), type := 4, pos := "law.go:47", after := #[{ on := 22, ground := Go.Ground.data }, { on := 27, ground := Go.Ground.data }], guard := none }) (v := ?_) rfl (by kernel_rfl) (by kernel_rfl) (by kernel_rfl) (fun _ _ _ h => h) (Or.inl ⟨by rfl, ?_⟩) (by assumption) ?_
      (rotate_left; focus (intro wS hSw; (try dsimp only at hSw); go_simp; (try rw [if_neg (by omega)]); try with_reducible rfl))
      (try simp only [Act.put, List.setIfInBounds_toArray, List.set_cons_zero, List.set_cons_succ])
      refine wpAnyH_take (i := 29) (oi := { dst := some 82, op := Go.Op.move (Go.Operand.tmp 81), type := 4, pos := "law.go:47", after := #[{ on := 28, ground := Go.Ground.data }, { on := 25, ground := Go.Ground.chain }], guard := none }) (v := ?_) rfl (by kernel_rfl) (by kernel_rfl) (by kernel_rfl) (fun _ _ _ h => h) (Or.inl ⟨by rfl, ?_⟩) (by assumption) ?_
      (rotate_left; focus (intro wS hSw; (try dsimp only at hSw); go_simp; (try rw [if_neg (by omega)]); try with_reducible rfl))
      (try simp only [Act.put, List.setIfInBounds_toArray, List.set_cons_zero, List.set_cons_succ])
      refine wpAnyH_take (i := 30) (oi := { dst := some 83, op := Go.Op.load 23 (Go.Operand.tmp 3), type := 23, pos := "law.go:47", after := #[{ on := 29, ground := Go.Ground.guard }], guard := some (29, true) }) (v := ?_) rfl (by kernel_rfl) (by kernel_rfl) (by kernel_rfl) (fun _ _ _ h => h) (Or.inl ⟨by rfl, ?_⟩) (by assumption) ?_
      (rotate_left; focus (intro wS hSw; first | (refine (exec_load (LA.out _ hSw.1) rfl rfl).trans ?_; with_reducible rfl) | (refine (exec_load (LB.out _ hSw.1) rfl rfl).trans ?_; with_reducible rfl) | (refine (exec_load (LC.out _ hSw.1) rfl rfl).trans ?_; with_reducible rfl) | (refine (exec_load (LJ.out _ hSw) rfl rfl).trans ?_; with_reducible rfl) | (refine (exec_load (LM.out _ hSw) rfl rfl).trans ?_; with_reducible rfl)))
      (try simp only [Act.put, List.setIfInBounds_toArray, List.set_cons_zero, List.set_cons_succ])
      refine wpAnyH_take (i := 31) (oi := { dst := some 84, op := Go.Op.load 23 (Go.Operand.tmp 4), type := 23, pos := "law.go:47", after := #[{ on := 29, ground := Go.Ground.guard }], guard := some (29, true) }) (v := ?_) rfl (by kernel_rfl) (by kernel_rfl) (by kernel_rfl) (fun _ _ _ h => h) (Or.inl ⟨by rfl, ?_⟩) (by assumption) ?_
      (rotate_left; focus (intro wS hSw; first | (refine (exec_load (LA.out _ hSw.1) rfl rfl).trans ?_; with_reducible rfl) | (refine (exec_load (LB.out _ hSw.1) rfl rfl).trans ?_; with_reducible rfl) | (refine (exec_load (LC.out _ hSw.1) rfl rfl).trans ?_; with_reducible rfl) | (refine (exec_load (LJ.out _ hSw) rfl rfl).trans ?_; with_reducible rfl) | (refine (exec_load (LM.out _ hSw) rfl rfl).trans ?_; with_reducible rfl)))
      (try simp only [Act.put, List.setIfInBounds_toArray, List.set_cons_zero, List.set_cons_succ])
      refine wpAnyH_take (i := 34) (oi := { dst := some 87, op := Go.Op.load 23 (Go.Operand.tmp 3), type := 23, pos := "law.go:47", after := #[{ on := 29, ground := Go.Ground.guard }], guard := some (29, true) }) (v := ?_) rfl (by kernel_rfl) (by kernel_rfl) (by kernel_rfl) (fun _ _ _ h => h) (Or.inl ⟨by rfl, ?_⟩) (by assumption) ?_
      (rotate_left; focus (intro wS hSw; first | (refine (exec_load (LA.out _ hSw.1) rfl rfl).trans ?_; with_reducible rfl) | (refine (exec_load (LB.out _ hSw.1) rfl rfl).trans ?_; with_reducible rfl) | (refine (exec_load (LC.out _ hSw.1) rfl rfl).trans ?_; with_reducible rfl) | (refine (exec_load (LJ.out _ hSw) rfl rfl).trans ?_; with_reducible rfl) | (refine (exec_load (LM.out _ hSw) rfl rfl).trans ?_; with_reducible rfl)))
      (try simp only [Act.put, List.setIfInBounds_toArray, List.set_cons_zero, List.set_cons_succ])
      refine wpAnyH_take (i := 35) (oi := { dst := some 88, op := Go.Op.load 23 (Go.Operand.tmp 4), type := 23, pos := "law.go:47", after := #[{ on := 29, ground := Go.Ground.guard }], guard := some (29, true) }) (v := ?_) rfl (by kernel_rfl) (by kernel_rfl) (by kernel_rfl) (fun _ _ _ h => h) (Or.inl ⟨by rfl, ?_⟩) (by assumption) ?_
      (rotate_left; focus (intro wS hSw; first | (refine (exec_load (LA.out _ hSw.1) rfl rfl).trans ?_; with_reducible rfl) | (refine (exec_load (LB.out _ hSw.1) rfl rfl).trans ?_; with_reducible rfl) | (refine (exec_load (LC.out _ hSw.1) rfl rfl).trans ?_; with_reducible rfl) | (refine (exec_load (LJ.out _ hSw) rfl rfl).trans ?_; with_reducible rfl) | (refine (exec_load (LM.out _ hSw) rfl rfl).trans ?_; with_reducible rfl)))
      (try simp only [Act.put, List.setIfInBounds_toArray, List.set_cons_zero, List.set_cons_succ])
      refine wpAnyH_take (i := 36) (oi := { dst := some 89, op := Go.Op.binOp Go.BinOp.eql 23 (Go.Operand.tmp 87) (Go.Operand.tmp 88) 23, type := 4, pos := "law.go:47", after := #[{ on := 34, ground := Go.Ground.data }, { on := 35, ground := Go.Ground.data }, { on := 29, ground := Go.Ground.guard }], guard := some (29, true) }) (v := ?_) rfl (by kernel_rfl) (by kernel_rfl) (by kernel_rfl) (fun _ _ _ h => h) (Or.inl ⟨by rfl, ?_⟩) (by assumption) ?_
      (rotate_left; focus (intro wS hSw; (try dsimp only at hSw); go_simp; (try rw [if_neg (by omega)]); try with_reducible rfl))
      (try simp only [Act.put, List.setIfInBounds_toArray, List.set_cons_zero, List.set_cons_succ])
      refine wpAnyH_ready (rs := [32]) (by kernel_rfl) (by simp) ?_
      refine AllReadyH.cons (o := { dst := some 85, op := Go.Op.call { callee := Go.Callee.value (Go.Operand.func 12), args := #[Go.Operand.tmp 83, Go.Operand.tmp 84], argTypes := #[23, 23] }, type := 3, pos := "law.go:47", after := #[{ on := 30, ground := Go.Ground.data }, { on := 31, ground := Go.Ground.data }, { on := 29, ground := Go.Ground.chain }, { on := 29, ground := Go.Ground.guard }], guard := some (29, true) }) rfl (fun K hK => ?_) AllReadyH.nil
      go_simp
      refine (TC8.out _).mono ?_
      rintro e u32 ⟨rfl, hb⟩
      replace hS := hS.keep hb
      clear hb
      (try go_wp2_with fail)
      refine hK.out _ _ (by (exact hS)) (fun hHeld => ?_)
      clear hK K
      (try simp only [Act.put, List.setIfInBounds_toArray, List.set_cons_zero, List.set_cons_succ])
      refine wpAnyH_take (i := 33) (oi := { dst := some 86, op := Go.Op.binOp Go.BinOp.eql 3 (Go.Operand.tmp 85) (Go.Operand.const (Go.Value.int Go.IntKind.i64 0)) 3, type := 4, pos := "law.go:47", after := #[{ on := 32, ground := Go.Ground.data }, { on := 29, ground := Go.Ground.guard }], guard := some (29, true) }) (v := ?_) rfl (by kernel_rfl) (by kernel_rfl) (by kernel_rfl) (fun _ _ _ h => h) (Or.inl ⟨by rfl, ?_⟩) (by assumption) ?_
      (rotate_left; focus (intro wS hSw; (try dsimp only at hSw); go_simp; (try rw [if_neg (by omega)]); try with_reducible rfl))
      (try simp only [Act.put, List.setIfInBounds_toArray, List.set_cons_zero, List.set_cons_succ])
      refine wpAnyH_take (i := 37) (oi := { dst := some 90, op := Go.Op.binOp Go.BinOp.eql 4 (Go.Operand.tmp 86) (Go.Operand.tmp 89) 4, type := 4, pos := "law.go:47", after := #[{ on := 33, ground := Go.Ground.data }, { on := 36, ground := Go.Ground.data }, { on := 29, ground := Go.Ground.guard }], guard := some (29, true) }) (v := ?_) rfl (by kernel_rfl) (by kernel_rfl) (by kernel_rfl) (fun _ _ _ h => h) (Or.inl ⟨by rfl, ?_⟩) (by assumption) ?_
      (rotate_left; focus (intro wS hSw; (try dsimp only at hSw); go_simp; (try rw [if_neg (by omega)]); try with_reducible rfl))
      (try simp only [Act.put, List.setIfInBounds_toArray, List.set_cons_zero, List.set_cons_succ])
      refine wpAnyH_take (i := 38) (oi := { dst := some 91, op := Go.Op.pick (Go.Operand.tmp 82) (Go.Operand.tmp 90) (Go.Operand.const (Go.Value.bool false)), type := 4, pos := "law.go:47", after := #[{ on := 29, ground := Go.Ground.data }, { on := 37, ground := Go.Ground.data }], guard := none }) (v := ?_) rfl (by kernel_rfl) (by kernel_rfl) (by kernel_rfl) (fun _ _ _ h => h) (Or.inl ⟨by rfl, ?_⟩) (by assumption) ?_
      (rotate_left; focus (intro wS hSw; (try dsimp only at hSw); go_simp; (try rw [if_neg (by omega)]); try with_reducible rfl))
      (try simp only [Act.put, List.setIfInBounds_toArray, List.set_cons_zero, List.set_cons_succ])
      refine wpAnyH_take (i := 39) (oi := { dst := some 92, op := Go.Op.move (Go.Operand.tmp 91), type := 4, pos := "law.go:47", after := #[{ on := 38, ground := Go.Ground.data }, { on := 32, ground := Go.Ground.chain }], guard := none }) (v := ?_) rfl (by kernel_rfl) (by kernel_rfl) (by kernel_rfl) (fun _ _ _ h => h) (Or.inl ⟨by rfl, ?_⟩) (by assumption) ?_
      (rotate_left; focus (intro wS hSw; (try dsimp only at hSw); go_simp; (try rw [if_neg (by omega)]); try with_reducible rfl))
      (try simp only [Act.put, List.setIfInBounds_toArray, List.set_cons_zero, List.set_cons_succ])
      refine wpAnyH_ready (rs := [40]) (by kernel_rfl) (by simp) ?_
      refine AllReadyH.cons (o := { dst := some 93, op := Go.Op.call { callee := Go.Callee.value (Go.Operand.func 16), args := #[], argTypes := #[] }, type := 4, pos := "law.go:47", after := #[{ on := 39, ground := Go.Ground.chain }, { on := 39, ground := Go.Ground.guard }], guard := some (39, true) }) rfl (fun K hK => ?_) AllReadyH.nil
      go_simp
      refine (awake_any _).mono ?_
      rintro e u40 ⟨rfl, hb⟩
      replace hS := hS.keep hb
      clear hb
      (try go_wp2_with fail)
      refine hK.out _ _ (by (exact hS)) (fun hHeld => ?_)
      clear hK K
      (try simp only [Act.put, List.setIfInBounds_toArray, List.set_cons_zero, List.set_cons_succ])
      refine wpAnyH_take (i := 41) (oi := { dst := some 94, op := Go.Op.pick (Go.Operand.tmp 92) (Go.Operand.tmp 93) (Go.Operand.const (Go.Value.bool false)), type := 4, pos := "law.go:47", after := #[{ on := 39, ground := Go.Ground.data }, { on := 40, ground := Go.Ground.data }], guard := none }) (v := ?_) rfl (by kernel_rfl) (by kernel_rfl) (by kernel_rfl) (fun _ _ _ h => h) (Or.inl ⟨by rfl, ?_⟩) (by assumption) ?_
      (rotate_left; focus (intro wS hSw; (try dsimp only at hSw); go_simp; (try rw [if_neg (by omega)]); try with_reducible rfl))
      (try simp only [Act.put, List.setIfInBounds_toArray, List.set_cons_zero, List.set_cons_succ])
      refine wpAnyH_take (i := 42) (oi := { dst := some 6, op := Go.Op.assign (Go.Operand.tmp 94), type := 4, pos := "law.go:47", after := #[{ on := 41, ground := Go.Ground.data }, { on := 40, ground := Go.Ground.chain }, { on := 0, ground := Go.Ground.phase }, { on := 1, ground := Go.Ground.phase }, { on := 2, ground := Go.Ground.phase }, { on := 3, ground := Go.Ground.phase }, { on := 4, ground := Go.Ground.phase }, { on := 5, ground := Go.Ground.phase }, { on := 6, ground := Go.Ground.phase }, { on := 7, ground := Go.Ground.phase }, { on := 8, ground := Go.Ground.phase }, { on := 9, ground := Go.Ground.phase }, { on := 10, ground := Go.Ground.phase }, { on := 11, ground := Go.Ground.phase }, { on := 12, ground := Go.Ground.phase }, { on := 13, ground := Go.Ground.phase }, { on := 14, ground := Go.Ground.phase }, { on := 15, ground := Go.Ground.phase }, { on := 16, ground := Go.Ground.phase }, { on := 17, ground := Go.Ground.phase }, { on := 18, ground := Go.Ground.phase }, { on := 19, ground := Go.Ground.phase }, { on := 20, ground := Go.Ground.phase }, { on := 21, ground := Go.Ground.phase }, { on := 22, ground := Go.Ground.phase }, { on := 23, ground := Go.Ground.phase }, { on := 24, ground := Go.Ground.phase }, { on := 25, ground := Go.Ground.phase }, { on := 26, ground := Go.Ground.phase }, { on := 27, ground := Go.Ground.phase }, { on := 28, ground := Go.Ground.phase }, { on := 29, ground := Go.Ground.phase }, { on := 30, ground := Go.Ground.phase }, { on := 31, ground := Go.Ground.phase }, { on := 32, ground := Go.Ground.phase }, { on := 33, ground := Go.Ground.phase }, { on := 34, ground := Go.Ground.phase }, { on := 35, ground := Go.Ground.phase }, { on := 36, ground := Go.Ground.phase }, { on := 37, ground := Go.Ground.phase }, { on := 38, ground := Go.Ground.phase }, { on := 39, ground := Go.Ground.phase }, { on := 40, ground := Go.Ground.phase }, { on := 41, ground := Go.Ground.phase }], guard := none }) (v := ?_) rfl (by kernel_rfl) (by kernel_rfl) (by kernel_rfl) (fun _ _ _ h => h) (Or.inl ⟨by rfl, ?_⟩) (by assumption) ?_
      (rotate_left; focus (intro wS hSw; (try dsimp only at hSw); go_simp; (try rw [if_neg (by omega)]); try with_reducible rfl))
      (try simp only [Act.put, List.setIfInBounds_toArray, List.set_cons_zero, List.set_cons_succ])
      refine wpAnyH_done (by kernel_rfl) ?_ _
      go_wp2
      go_ret
      exact ⟨rfl, hS.1.2.2⟩
  · have hS := HS0.out.drew
    refine wp_region_held_drew (S := Lat0 w IA IB IC) (by kernel_rfl) (by (exact hS)) (fun hHeld => ?_)
    refine wpAnyH_take (i := 0) (oi := { dst := some 11, op := Go.Op.load 23 (Go.Operand.tmp 3), type := 23, pos := "law.go:41", after := #[], guard := none }) (v := ?_) rfl (by kernel_rfl) (by kernel_rfl) (by kernel_rfl) (fun _ _ _ h => h) (Or.inl ⟨by rfl, ?_⟩) (by assumption) ?_
    (rotate_left; focus (intro wS hSw; first | (refine (exec_load (LA.out _ hSw) rfl rfl).trans ?_; with_reducible rfl) | (refine (exec_load (LB.out _ hSw) rfl rfl).trans ?_; with_reducible rfl)))
    (try simp only [Act.put, List.setIfInBounds_toArray, List.set_cons_zero, List.set_cons_succ])
    refine wpAnyH_take (i := 1) (oi := { dst := some 12, op := Go.Op.load 23 (Go.Operand.tmp 4), type := 23, pos := "law.go:41", after := #[], guard := none }) (v := ?_) rfl (by kernel_rfl) (by kernel_rfl) (by kernel_rfl) (fun _ _ _ h => h) (Or.inl ⟨by rfl, ?_⟩) (by assumption) ?_
    (rotate_left; focus (intro wS hSw; first | (refine (exec_load (LA.out _ hSw) rfl rfl).trans ?_; with_reducible rfl) | (refine (exec_load (LB.out _ hSw) rfl rfl).trans ?_; with_reducible rfl)))
    (try simp only [Act.put, List.setIfInBounds_toArray, List.set_cons_zero, List.set_cons_succ])
    refine wpAnyH_take (i := 3) (oi := { dst := some 14, op := Go.Op.load 23 (Go.Operand.tmp 3), type := 23, pos := "law.go:41", after := #[], guard := none }) (v := ?_) rfl (by kernel_rfl) (by kernel_rfl) (by kernel_rfl) (fun _ _ _ h => h) (Or.inl ⟨by rfl, ?_⟩) (by assumption) ?_
    (rotate_left; focus (intro wS hSw; first | (refine (exec_load (LA.out _ hSw) rfl rfl).trans ?_; with_reducible rfl) | (refine (exec_load (LB.out _ hSw) rfl rfl).trans ?_; with_reducible rfl)))
    (try simp only [Act.put, List.setIfInBounds_toArray, List.set_cons_zero, List.set_cons_succ])
    refine wpAnyH_take (i := 4) (oi := { dst := some 15, op := Go.Op.load 23 (Go.Operand.tmp 4), type := 23, pos := "law.go:41", after := #[], guard := none }) (v := ?_) rfl (by kernel_rfl) (by kernel_rfl) (by kernel_rfl) (fun _ _ _ h => h) (Or.inl ⟨by rfl, ?_⟩) (by assumption) ?_
    (rotate_left; focus (intro wS hSw; first | (refine (exec_load (LA.out _ hSw) rfl rfl).trans ?_; with_reducible rfl) | (refine (exec_load (LB.out _ hSw) rfl rfl).trans ?_; with_reducible rfl)))
    (try simp only [Act.put, List.setIfInBounds_toArray, List.set_cons_zero, List.set_cons_succ])
    refine wpAnyH_ready (rs := [2, 6, 7]) (by kernel_rfl) (by simp) ?_
    refine AllReadyH.cons (o := { dst := some 13, op := Go.Op.call { callee := Go.Callee.value (Go.Operand.func 8), args := #[Go.Operand.tmp 11, Go.Operand.tmp 12], argTypes := #[23, 23] }, type := 23, pos := "law.go:41", after := #[{ on := 0, ground := Go.Ground.data }, { on := 1, ground := Go.Ground.data }], guard := none }) rfl (fun K hK => ?_) ?_
    focus
      go_simp
      refine (TJ.out _).mono ?_
      rintro e v1 ⟨rfl, hb⟩
      replace hS := hS.keep hb
      (try replace hp := hp.keep hb)
      (try replace hq := hq.keep hb)
      clear hb
      (try go_wp2_with fail)
      refine hK.out _ _ (by (exact hS)) (fun hHeld => ?_)
      clear hK K
      (try simp only [Act.put, List.setIfInBounds_toArray, List.set_cons_zero, List.set_cons_succ])
      refine wpAnyH_ready (rs := [5, 6, 7]) (by kernel_rfl) (by simp) ?_
      refine AllReadyH.cons (o := { dst := some 16, op := Go.Op.call { callee := Go.Callee.value (Go.Operand.func 10), args := #[Go.Operand.tmp 14, Go.Operand.tmp 15], argTypes := #[23, 23] }, type := 23, pos := "law.go:41", after := #[{ on := 3, ground := Go.Ground.data }, { on := 4, ground := Go.Ground.data }, { on := 2, ground := Go.Ground.chain }], guard := none }) rfl (fun K hK => ?_) ?_
      focus
        go_simp
        refine (TM.out _).mono ?_
        rintro e v2 ⟨rfl, hb⟩
        replace hS := hS.keep hb
        (try replace hp := hp.keep hb)
        (try replace hq := hq.keep hb)
        clear hb
        (try go_wp2_with fail)
        refine hK.out _ _ (by (exact hS)) (fun hHeld => ?_)
        clear hK K
        (try simp only [Act.put, List.setIfInBounds_toArray, List.set_cons_zero, List.set_cons_succ])
        refine wpAnyH_ready (rs := [6, 7]) (by kernel_rfl) (by simp) ?_
        refine AllReadyH.cons (o := { dst := some 7, op := Go.Op.alloc 23, type := 0, pos := "law.go:41", after := #[], guard := none }) rfl (fun K hK => ?_) ?_
        focus
          refine wp_alloc_vec rfl HIZ.out ?_
          intro v3 p hp hpe hb
          have hpw : w.heap.size + 3 ≤ p := by have := hS.size; omega
          (try have hne : p ≠ q := by have := hq.1; omega)
          clear hpe
          replace hS := hS.keep hb
          (try replace hq := hq.keep hb)
          clear hb
          refine hK.out _ _ (by (exact hS)) (fun hHeld => ?_)
          clear hK K
          (try simp only [Act.put, List.setIfInBounds_toArray, List.set_cons_zero, List.set_cons_succ])
          refine wpAnyH_ready (rs := [7]) (by kernel_rfl) (by simp) ?_
          refine AllReadyH.cons (o := { dst := some 8, op := Go.Op.alloc 23, type := 0, pos := "law.go:41", after := #[], guard := none }) rfl (fun K hK => ?_) AllReadyH.nil
          refine wp_alloc_vec rfl HIZ.out ?_
          intro v4 q hq hqe hb
          have hqw : w.heap.size + 3 ≤ q := by have := hS.size; omega
          (try have hne : p ≠ q := by have := hp.1; omega)
          clear hqe
          replace hS := hS.keep hb
          (try replace hp := hp.keep hb)
          clear hb
          refine hK.out _ _ (by (exact hS)) (fun hHeld => ?_)
          clear hK K
          (try simp only [Act.put, List.setIfInBounds_toArray, List.set_cons_zero, List.set_cons_succ])
          refine wpAnyH_ready (rs := [8]) (by kernel_rfl) (by simp) ?_
          refine AllReadyH.cons (o := { dst := none, op := Go.Op.store 23 (Go.Operand.tmp 7) (Go.Operand.tmp 13), type := 0, pos := "law.go:41", after := #[{ on := 6, ground := Go.Ground.data }, { on := 2, ground := Go.Ground.data }, { on := 5, ground := Go.Ground.chain }, { on := 0, ground := Go.Ground.phase }, { on := 1, ground := Go.Ground.phase }, { on := 2, ground := Go.Ground.phase }, { on := 3, ground := Go.Ground.textOnly Go.Departure.lateStores }, { on := 4, ground := Go.Ground.textOnly Go.Departure.lateStores }, { on := 5, ground := Go.Ground.textOnly Go.Departure.lateStoresUnsure }, { on := 6, ground := Go.Ground.phase }, { on := 7, ground := Go.Ground.phase }], guard := none }) rfl (fun K hK => ?_) AllReadyH.nil
          refine wp_store_vec (.tmp 7) (.tmp 13) rfl rfl rfl hp HZL.out HIJ.out HJ.out HJL.out ?_
          intro v5 hp5 hk
          replace hS := hS.kp hk hpw
          replace hq := hq.kp hk (Ne.symm hne)
          clear hk hp
          refine hK.out _ _ (by (exact hS)) (fun hHeld => ?_)
          clear hK K
          (try simp only [Act.put, List.setIfInBounds_toArray, List.set_cons_zero, List.set_cons_succ])
          refine wpAnyH_ready (rs := [9]) (by kernel_rfl) (by simp) ?_
          refine AllReadyH.cons (o := { dst := none, op := Go.Op.store 23 (Go.Operand.tmp 8) (Go.Operand.tmp 16), type := 0, pos := "law.go:41", after := #[{ on := 7, ground := Go.Ground.data }, { on := 5, ground := Go.Ground.data }, { on := 8, ground := Go.Ground.chain }, { on := 0, ground := Go.Ground.phase }, { on := 1, ground := Go.Ground.phase }, { on := 2, ground := Go.Ground.phase }, { on := 3, ground := Go.Ground.phase }, { on := 4, ground := Go.Ground.phase }, { on := 5, ground := Go.Ground.phase }, { on := 6, ground := Go.Ground.phase }, { on := 7, ground := Go.Ground.phase }, { on := 8, ground := Go.Ground.phase }], guard := none }) rfl (fun K hK => ?_) AllReadyH.nil
          refine wp_store_vec (.tmp 8) (.tmp 16) rfl rfl rfl hq HZL.out HIM.out HM.out HML.out ?_
          intro v6 hq6 hk
          replace hS := hS.kp hk hqw
          replace hp5 := hp5.kp hk hne
          clear hk hq
          refine hK.out _ _ (by (exact hS)) (fun hHeld => ?_)
          clear hK K
          (try simp only [Act.put, List.setIfInBounds_toArray, List.set_cons_zero, List.set_cons_succ])
          refine wpAnyH_done (by kernel_rfl) ?_ _
        rotate_left 1
        refine AllReadyH.cons (o := { dst := some 8, op := Go.Op.alloc 23, type := 0, pos := "law.go:41", after := #[], guard := none }) rfl (fun K hK => ?_) AllReadyH.nil
        focus
          refine wp_alloc_vec rfl HIZ.out ?_
          intro v4 q hq hqe hb
          have hqw : w.heap.size + 3 ≤ q := by have := hS.size; omega
          (try have hne : p ≠ q := by have := hp.1; omega)
          clear hqe
          replace hS := hS.keep hb
          (try replace hp := hp.keep hb)
          clear hb
          refine hK.out _ _ (by (exact hS)) (fun hHeld => ?_)
          clear hK K
          (try simp only [Act.put, List.setIfInBounds_toArray, List.set_cons_zero, List.set_cons_succ])
          refine wpAnyH_ready (rs := [6]) (by kernel_rfl) (by simp) ?_
          refine AllReadyH.cons (o := { dst := some 7, op := Go.Op.alloc 23, type := 0, pos := "law.go:41", after := #[], guard := none }) rfl (fun K hK => ?_) AllReadyH.nil
          refine wp_alloc_vec rfl HIZ.out ?_
          intro v3 p hp hpe hb
          have hpw : w.heap.size + 3 ≤ p := by have := hS.size; omega
          (try have hne : p ≠ q := by have := hq.1; omega)
          clear hpe
          replace hS := hS.keep hb
          (try replace hq := hq.keep hb)
          clear hb
          refine hK.out _ _ (by (exact hS)) (fun hHeld => ?_)
          clear hK K
          (try simp only [Act.put, List.setIfInBounds_toArray, List.set_cons_zero, List.set_cons_succ])
          refine wpAnyH_ready (rs := [8]) (by kernel_rfl) (by simp) ?_
          refine AllReadyH.cons (o := { dst := none, op := Go.Op.store 23 (Go.Operand.tmp 7) (Go.Operand.tmp 13), type := 0, pos := "law.go:41", after := #[{ on := 6, ground := Go.Ground.data }, { on := 2, ground := Go.Ground.data }, { on := 5, ground := Go.Ground.chain }, { on := 0, ground := Go.Ground.phase }, { on := 1, ground := Go.Ground.phase }, { on := 2, ground := Go.Ground.phase }, { on := 3, ground := Go.Ground.textOnly Go.Departure.lateStores }, { on := 4, ground := Go.Ground.textOnly Go.Departure.lateStores }, { on := 5, ground := Go.Ground.textOnly Go.Departure.lateStoresUnsure }, { on := 6, ground := Go.Ground.phase }, { on := 7, ground := Go.Ground.phase }], guard := none }) rfl (fun K hK => ?_) AllReadyH.nil
          refine wp_store_vec (.tmp 7) (.tmp 13) rfl rfl rfl hp HZL.out HIJ.out HJ.out HJL.out ?_
          intro v5 hp5 hk
          replace hS := hS.kp hk hpw
          replace hq := hq.kp hk (Ne.symm hne)
          clear hk hp
          refine hK.out _ _ (by (exact hS)) (fun hHeld => ?_)
          clear hK K
          (try simp only [Act.put, List.setIfInBounds_toArray, List.set_cons_zero, List.set_cons_succ])
          refine wpAnyH_ready (rs := [9]) (by kernel_rfl) (by simp) ?_
          refine AllReadyH.cons (o := { dst := none, op := Go.Op.store 23 (Go.Operand.tmp 8) (Go.Operand.tmp 16), type := 0, pos := "law.go:41", after := #[{ on := 7, ground := Go.Ground.data }, { on := 5, ground := Go.Ground.data }, { on := 8, ground := Go.Ground.chain }, { on := 0, ground := Go.Ground.phase }, { on := 1, ground := Go.Ground.phase }, { on := 2, ground := Go.Ground.phase }, { on := 3, ground := Go.Ground.phase }, { on := 4, ground := Go.Ground.phase }, { on := 5, ground := Go.Ground.phase }, { on := 6, ground := Go.Ground.phase }, { on := 7, ground := Go.Ground.phase }, { on := 8, ground := Go.Ground.phase }], guard := none }) rfl (fun K hK => ?_) AllReadyH.nil
          refine wp_store_vec (.tmp 8) (.tmp 16) rfl rfl rfl hq HZL.out HIM.out HM.out HML.out ?_
          intro v6 hq6 hk
          replace hS := hS.kp hk hqw
          replace hp5 := hp5.kp hk hne
          clear hk hq
          refine hK.out _ _ (by (exact hS)) (fun hHeld => ?_)
          clear hK K
          (try simp only [Act.put, List.setIfInBounds_toArray, List.set_cons_zero, List.set_cons_succ])
          refine wpAnyH_done (by kernel_rfl) ?_ _
      rotate_left 2
      refine AllReadyH.cons (o := { dst := some 7, op := Go.Op.alloc 23, type := 0, pos := "law.go:41", after := #[], guard := none }) rfl (fun K hK => ?_) ?_
      focus
        refine wp_alloc_vec rfl HIZ.out ?_
        intro v3 p hp hpe hb
        have hpw : w.heap.size + 3 ≤ p := by have := hS.size; omega
        (try have hne : p ≠ q := by have := hq.1; omega)
        clear hpe
        replace hS := hS.keep hb
        (try replace hq := hq.keep hb)
        clear hb
        refine hK.out _ _ (by (exact hS)) (fun hHeld => ?_)
        clear hK K
        (try simp only [Act.put, List.setIfInBounds_toArray, List.set_cons_zero, List.set_cons_succ])
        refine wpAnyH_ready (rs := [5, 7]) (by kernel_rfl) (by simp) ?_
        refine AllReadyH.cons (o := { dst := some 16, op := Go.Op.call { callee := Go.Callee.value (Go.Operand.func 10), args := #[Go.Operand.tmp 14, Go.Operand.tmp 15], argTypes := #[23, 23] }, type := 23, pos := "law.go:41", after := #[{ on := 3, ground := Go.Ground.data }, { on := 4, ground := Go.Ground.data }, { on := 2, ground := Go.Ground.chain }], guard := none }) rfl (fun K hK => ?_) ?_
        focus
          go_simp
          refine (TM.out _).mono ?_
          rintro e v2 ⟨rfl, hb⟩
          replace hS := hS.keep hb
          (try replace hp := hp.keep hb)
          (try replace hq := hq.keep hb)
          clear hb
          (try go_wp2_with fail)
          refine hK.out _ _ (by (exact hS)) (fun hHeld => ?_)
          clear hK K
          (try simp only [Act.put, List.setIfInBounds_toArray, List.set_cons_zero, List.set_cons_succ])
          refine wpAnyH_ready (rs := [7]) (by kernel_rfl) (by simp) ?_
          refine AllReadyH.cons (o := { dst := some 8, op := Go.Op.alloc 23, type := 0, pos := "law.go:41", after := #[], guard := none }) rfl (fun K hK => ?_) AllReadyH.nil
          refine wp_alloc_vec rfl HIZ.out ?_
          intro v4 q hq hqe hb
          have hqw : w.heap.size + 3 ≤ q := by have := hS.size; omega
          (try have hne : p ≠ q := by have := hp.1; omega)
          clear hqe
          replace hS := hS.keep hb
          (try replace hp := hp.keep hb)
          clear hb
          refine hK.out _ _ (by (exact hS)) (fun hHeld => ?_)
          clear hK K
          (try simp only [Act.put, List.setIfInBounds_toArray, List.set_cons_zero, List.set_cons_succ])
          refine wpAnyH_ready (rs := [8]) (by kernel_rfl) (by simp) ?_
          refine AllReadyH.cons (o := { dst := none, op := Go.Op.store 23 (Go.Operand.tmp 7) (Go.Operand.tmp 13), type := 0, pos := "law.go:41", after := #[{ on := 6, ground := Go.Ground.data }, { on := 2, ground := Go.Ground.data }, { on := 5, ground := Go.Ground.chain }, { on := 0, ground := Go.Ground.phase }, { on := 1, ground := Go.Ground.phase }, { on := 2, ground := Go.Ground.phase }, { on := 3, ground := Go.Ground.textOnly Go.Departure.lateStores }, { on := 4, ground := Go.Ground.textOnly Go.Departure.lateStores }, { on := 5, ground := Go.Ground.textOnly Go.Departure.lateStoresUnsure }, { on := 6, ground := Go.Ground.phase }, { on := 7, ground := Go.Ground.phase }], guard := none }) rfl (fun K hK => ?_) AllReadyH.nil
          refine wp_store_vec (.tmp 7) (.tmp 13) rfl rfl rfl hp HZL.out HIJ.out HJ.out HJL.out ?_
          intro v5 hp5 hk
          replace hS := hS.kp hk hpw
          replace hq := hq.kp hk (Ne.symm hne)
          clear hk hp
          refine hK.out _ _ (by (exact hS)) (fun hHeld => ?_)
          clear hK K
          (try simp only [Act.put, List.setIfInBounds_toArray, List.set_cons_zero, List.set_cons_succ])
          refine wpAnyH_ready (rs := [9]) (by kernel_rfl) (by simp) ?_
          refine AllReadyH.cons (o := { dst := none, op := Go.Op.store 23 (Go.Operand.tmp 8) (Go.Operand.tmp 16), type := 0, pos := "law.go:41", after := #[{ on := 7, ground := Go.Ground.data }, { on := 5, ground := Go.Ground.data }, { on := 8, ground := Go.Ground.chain }, { on := 0, ground := Go.Ground.phase }, { on := 1, ground := Go.Ground.phase }, { on := 2, ground := Go.Ground.phase }, { on := 3, ground := Go.Ground.phase }, { on := 4, ground := Go.Ground.phase }, { on := 5, ground := Go.Ground.phase }, { on := 6, ground := Go.Ground.phase }, { on := 7, ground := Go.Ground.phase }, { on := 8, ground := Go.Ground.phase }], guard := none }) rfl (fun K hK => ?_) AllReadyH.nil
          refine wp_store_vec (.tmp 8) (.tmp 16) rfl rfl rfl hq HZL.out HIM.out HM.out HML.out ?_
          intro v6 hq6 hk
          replace hS := hS.kp hk hqw
          replace hp5 := hp5.kp hk hne
          clear hk hq
          refine hK.out _ _ (by (exact hS)) (fun hHeld => ?_)
          clear hK K
          (try simp only [Act.put, List.setIfInBounds_toArray, List.set_cons_zero, List.set_cons_succ])
          refine wpAnyH_done (by kernel_rfl) ?_ _
        rotate_left 1
        refine AllReadyH.cons (o := { dst := some 8, op := Go.Op.alloc 23, type := 0, pos := "law.go:41", after := #[], guard := none }) rfl (fun K hK => ?_) AllReadyH.nil
        focus
          refine wp_alloc_vec rfl HIZ.out ?_
          intro v4 q hq hqe hb
          have hqw : w.heap.size + 3 ≤ q := by have := hS.size; omega
          (try have hne : p ≠ q := by have := hp.1; omega)
          clear hqe
          replace hS := hS.keep hb
          (try replace hp := hp.keep hb)
          clear hb
          refine hK.out _ _ (by (exact hS)) (fun hHeld => ?_)
          clear hK K
          (try simp only [Act.put, List.setIfInBounds_toArray, List.set_cons_zero, List.set_cons_succ])
          refine wpAnyH_ready (rs := [5]) (by kernel_rfl) (by simp) ?_
          refine AllReadyH.cons (o := { dst := some 16, op := Go.Op.call { callee := Go.Callee.value (Go.Operand.func 10), args := #[Go.Operand.tmp 14, Go.Operand.tmp 15], argTypes := #[23, 23] }, type := 23, pos := "law.go:41", after := #[{ on := 3, ground := Go.Ground.data }, { on := 4, ground := Go.Ground.data }, { on := 2, ground := Go.Ground.chain }], guard := none }) rfl (fun K hK => ?_) AllReadyH.nil
          go_simp
          refine (TM.out _).mono ?_
          rintro e v2 ⟨rfl, hb⟩
          replace hS := hS.keep hb
          (try replace hp := hp.keep hb)
          (try replace hq := hq.keep hb)
          clear hb
          (try go_wp2_with fail)
          refine hK.out _ _ (by (exact hS)) (fun hHeld => ?_)
          clear hK K
          (try simp only [Act.put, List.setIfInBounds_toArray, List.set_cons_zero, List.set_cons_succ])
          refine wpAnyH_ready (rs := [8]) (by kernel_rfl) (by simp) ?_
          refine AllReadyH.cons (o := { dst := none, op := Go.Op.store 23 (Go.Operand.tmp 7) (Go.Operand.tmp 13), type := 0, pos := "law.go:41", after := #[{ on := 6, ground := Go.Ground.data }, { on := 2, ground := Go.Ground.data }, { on := 5, ground := Go.Ground.chain }, { on := 0, ground := Go.Ground.phase }, { on := 1, ground := Go.Ground.phase }, { on := 2, ground := Go.Ground.phase }, { on := 3, ground := Go.Ground.textOnly Go.Departure.lateStores }, { on := 4, ground := Go.Ground.textOnly Go.Departure.lateStores }, { on := 5, ground := Go.Ground.textOnly Go.Departure.lateStoresUnsure }, { on := 6, ground := Go.Ground.phase }, { on := 7, ground := Go.Ground.phase }], guard := none }) rfl (fun K hK => ?_) AllReadyH.nil
          refine wp_store_vec (.tmp 7) (.tmp 13) rfl rfl rfl hp HZL.out HIJ.out HJ.out HJL.out ?_
          intro v5 hp5 hk
          replace hS := hS.kp hk hpw
          replace hq := hq.kp hk (Ne.symm hne)
          clear hk hp
          refine hK.out _ _ (by (exact hS)) (fun hHeld => ?_)
          clear hK K
          (try simp only [Act.put, List.setIfInBounds_toArray, List.set_cons_zero, List.set_cons_succ])
          refine wpAnyH_ready (rs := [9]) (by kernel_rfl) (by simp) ?_
          refine AllReadyH.cons (o := { dst := none, op := Go.Op.store 23 (Go.Operand.tmp 8) (Go.Operand.tmp 16), type := 0, pos := "law.go:41", after := #[{ on := 7, ground := Go.Ground.data }, { on := 5, ground := Go.Ground.data }, { on := 8, ground := Go.Ground.chain }, { on := 0, ground := Go.Ground.phase }, { on := 1, ground := Go.Ground.phase }, { on := 2, ground := Go.Ground.phase }, { on := 3, ground := Go.Ground.phase }, { on := 4, ground := Go.Ground.phase }, { on := 5, ground := Go.Ground.phase }, { on := 6, ground := Go.Ground.phase }, { on := 7, ground := Go.Ground.phase }, { on := 8, ground := Go.Ground.phase }], guard := none }) rfl (fun K hK => ?_) AllReadyH.nil
          refine wp_store_vec (.tmp 8) (.tmp 16) rfl rfl rfl hq HZL.out HIM.out HM.out HML.out ?_
          intro v6 hq6 hk
          replace hS := hS.kp hk hqw
          replace hp5 := hp5.kp hk hne
          clear hk hq
          refine hK.out _ _ (by (exact hS)) (fun hHeld => ?_)
          clear hK K
          (try simp only [Act.put, List.setIfInBounds_toArray, List.set_cons_zero, List.set_cons_succ])
          refine wpAnyH_done (by kernel_rfl) ?_ _
      rotate_left 2
      refine AllReadyH.cons (o := { dst := some 8, op := Go.Op.alloc 23, type := 0, pos := "law.go:41", after := #[], guard := none }) rfl (fun K hK => ?_) AllReadyH.nil
      focus
        refine wp_alloc_vec rfl HIZ.out ?_
        intro v4 q hq hqe hb
        have hqw : w.heap.size + 3 ≤ q := by have := hS.size; omega
        (try have hne : p ≠ q := by have := hp.1; omega)
        clear hqe
        replace hS := hS.keep hb
        (try replace hp := hp.keep hb)
        clear hb
        refine hK.out _ _ (by (exact hS)) (fun hHeld => ?_)
        clear hK K
        (try simp only [Act.put, List.setIfInBounds_toArray, List.set_cons_zero, List.set_cons_succ])
        refine wpAnyH_ready (rs := [5, 6]) (by kernel_rfl) (by simp) ?_
        refine AllReadyH.cons (o := { dst := some 16, op := Go.Op.call { callee := Go.Callee.value (Go.Operand.func 10), args := #[Go.Operand.tmp 14, Go.Operand.tmp 15], argTypes := #[23, 23] }, type := 23, pos := "law.go:41", after := #[{ on := 3, ground := Go.Ground.data }, { on := 4, ground := Go.Ground.data }, { on := 2, ground := Go.Ground.chain }], guard := none }) rfl (fun K hK => ?_) ?_
        focus
          go_simp
          refine (TM.out _).mono ?_
          rintro e v2 ⟨rfl, hb⟩
          replace hS := hS.keep hb
          (try replace hp := hp.keep hb)
          (try replace hq := hq.keep hb)
          clear hb
          (try go_wp2_with fail)
          refine hK.out _ _ (by (exact hS)) (fun hHeld => ?_)
          clear hK K
          (try simp only [Act.put, List.setIfInBounds_toArray, List.set_cons_zero, List.set_cons_succ])
          refine wpAnyH_ready (rs := [6]) (by kernel_rfl) (by simp) ?_
          refine AllReadyH.cons (o := { dst := some 7, op := Go.Op.alloc 23, type := 0, pos := "law.go:41", after := #[], guard := none }) rfl (fun K hK => ?_) AllReadyH.nil
          refine wp_alloc_vec rfl HIZ.out ?_
          intro v3 p hp hpe hb
          have hpw : w.heap.size + 3 ≤ p := by have := hS.size; omega
          (try have hne : p ≠ q := by have := hq.1; omega)
          clear hpe
          replace hS := hS.keep hb
          (try replace hq := hq.keep hb)
          clear hb
          refine hK.out _ _ (by (exact hS)) (fun hHeld => ?_)
          clear hK K
          (try simp only [Act.put, List.setIfInBounds_toArray, List.set_cons_zero, List.set_cons_succ])
          refine wpAnyH_ready (rs := [8]) (by kernel_rfl) (by simp) ?_
          refine AllReadyH.cons (o := { dst := none, op := Go.Op.store 23 (Go.Operand.tmp 7) (Go.Operand.tmp 13), type := 0, pos := "law.go:41", after := #[{ on := 6, ground := Go.Ground.data }, { on := 2, ground := Go.Ground.data }, { on := 5, ground := Go.Ground.chain }, { on := 0, ground := Go.Ground.phase }, { on := 1, ground := Go.Ground.phase }, { on := 2, ground := Go.Ground.phase }, { on := 3, ground := Go.Ground.textOnly Go.Departure.lateStores }, { on := 4, ground := Go.Ground.textOnly Go.Departure.lateStores }, { on := 5, ground := Go.Ground.textOnly Go.Departure.lateStoresUnsure }, { on := 6, ground := Go.Ground.phase }, { on := 7, ground := Go.Ground.phase }], guard := none }) rfl (fun K hK => ?_) AllReadyH.nil
          refine wp_store_vec (.tmp 7) (.tmp 13) rfl rfl rfl hp HZL.out HIJ.out HJ.out HJL.out ?_
          intro v5 hp5 hk
          replace hS := hS.kp hk hpw
          replace hq := hq.kp hk (Ne.symm hne)
          clear hk hp
          refine hK.out _ _ (by (exact hS)) (fun hHeld => ?_)
          clear hK K
          (try simp only [Act.put, List.setIfInBounds_toArray, List.set_cons_zero, List.set_cons_succ])
          refine wpAnyH_ready (rs := [9]) (by kernel_rfl) (by simp) ?_
          refine AllReadyH.cons (o := { dst := none, op := Go.Op.store 23 (Go.Operand.tmp 8) (Go.Operand.tmp 16), type := 0, pos := "law.go:41", after := #[{ on := 7, ground := Go.Ground.data }, { on := 5, ground := Go.Ground.data }, { on := 8, ground := Go.Ground.chain }, { on := 0, ground := Go.Ground.phase }, { on := 1, ground := Go.Ground.phase }, { on := 2, ground := Go.Ground.phase }, { on := 3, ground := Go.Ground.phase }, { on := 4, ground := Go.Ground.phase }, { on := 5, ground := Go.Ground.phase }, { on := 6, ground := Go.Ground.phase }, { on := 7, ground := Go.Ground.phase }, { on := 8, ground := Go.Ground.phase }], guard := none }) rfl (fun K hK => ?_) AllReadyH.nil
          refine wp_store_vec (.tmp 8) (.tmp 16) rfl rfl rfl hq HZL.out HIM.out HM.out HML.out ?_
          intro v6 hq6 hk
          replace hS := hS.kp hk hqw
          replace hp5 := hp5.kp hk hne
          clear hk hq
          refine hK.out _ _ (by (exact hS)) (fun hHeld => ?_)
          clear hK K
          (try simp only [Act.put, List.setIfInBounds_toArray, List.set_cons_zero, List.set_cons_succ])
          refine wpAnyH_done (by kernel_rfl) ?_ _
        rotate_left 1
        refine AllReadyH.cons (o := { dst := some 7, op := Go.Op.alloc 23, type := 0, pos := "law.go:41", after := #[], guard := none }) rfl (fun K hK => ?_) AllReadyH.nil
        focus
          refine wp_alloc_vec rfl HIZ.out ?_
          intro v3 p hp hpe hb
          have hpw : w.heap.size + 3 ≤ p := by have := hS.size; omega
          (try have hne : p ≠ q := by have := hq.1; omega)
          clear hpe
          replace hS := hS.keep hb
          (try replace hq := hq.keep hb)
          clear hb
          refine hK.out _ _ (by (exact hS)) (fun hHeld => ?_)
          clear hK K
          (try simp only [Act.put, List.setIfInBounds_toArray, List.set_cons_zero, List.set_cons_succ])
          refine wpAnyH_ready (rs := [5]) (by kernel_rfl) (by simp) ?_
          refine AllReadyH.cons (o := { dst := some 16, op := Go.Op.call { callee := Go.Callee.value (Go.Operand.func 10), args := #[Go.Operand.tmp 14, Go.Operand.tmp 15], argTypes := #[23, 23] }, type := 23, pos := "law.go:41", after := #[{ on := 3, ground := Go.Ground.data }, { on := 4, ground := Go.Ground.data }, { on := 2, ground := Go.Ground.chain }], guard := none }) rfl (fun K hK => ?_) AllReadyH.nil
          go_simp
          refine (TM.out _).mono ?_
          rintro e v2 ⟨rfl, hb⟩
          replace hS := hS.keep hb
          (try replace hp := hp.keep hb)
          (try replace hq := hq.keep hb)
          clear hb
          (try go_wp2_with fail)
          refine hK.out _ _ (by (exact hS)) (fun hHeld => ?_)
          clear hK K
          (try simp only [Act.put, List.setIfInBounds_toArray, List.set_cons_zero, List.set_cons_succ])
          refine wpAnyH_ready (rs := [8]) (by kernel_rfl) (by simp) ?_
          refine AllReadyH.cons (o := { dst := none, op := Go.Op.store 23 (Go.Operand.tmp 7) (Go.Operand.tmp 13), type := 0, pos := "law.go:41", after := #[{ on := 6, ground := Go.Ground.data }, { on := 2, ground := Go.Ground.data }, { on := 5, ground := Go.Ground.chain }, { on := 0, ground := Go.Ground.phase }, { on := 1, ground := Go.Ground.phase }, { on := 2, ground := Go.Ground.phase }, { on := 3, ground := Go.Ground.textOnly Go.Departure.lateStores }, { on := 4, ground := Go.Ground.textOnly Go.Departure.lateStores }, { on := 5, ground := Go.Ground.textOnly Go.Departure.lateStoresUnsure }, { on := 6, ground := Go.Ground.phase }, { on := 7, ground := Go.Ground.phase }], guard := none }) rfl (fun K hK => ?_) AllReadyH.nil
          refine wp_store_vec (.tmp 7) (.tmp 13) rfl rfl rfl hp HZL.out HIJ.out HJ.out HJL.out ?_
          intro v5 hp5 hk
          replace hS := hS.kp hk hpw
          replace hq := hq.kp hk (Ne.symm hne)
          clear hk hp
          refine hK.out _ _ (by (exact hS)) (fun hHeld => ?_)
          clear hK K
          (try simp only [Act.put, List.setIfInBounds_toArray, List.set_cons_zero, List.set_cons_succ])
          refine wpAnyH_ready (rs := [9]) (by kernel_rfl) (by simp) ?_
          refine AllReadyH.cons (o := { dst := none, op := Go.Op.store 23 (Go.Operand.tmp 8) (Go.Operand.tmp 16), type := 0, pos := "law.go:41", after := #[{ on := 7, ground := Go.Ground.data }, { on := 5, ground := Go.Ground.data }, { on := 8, ground := Go.Ground.chain }, { on := 0, ground := Go.Ground.phase }, { on := 1, ground := Go.Ground.phase }, { on := 2, ground := Go.Ground.phase }, { on := 3, ground := Go.Ground.phase }, { on := 4, ground := Go.Ground.phase }, { on := 5, ground := Go.Ground.phase }, { on := 6, ground := Go.Ground.phase }, { on := 7, ground := Go.Ground.phase }, { on := 8, ground := Go.Ground.phase }], guard := none }) rfl (fun K hK => ?_) AllReadyH.nil
          refine wp_store_vec (.tmp 8) (.tmp 16) rfl rfl rfl hq HZL.out HIM.out HM.out HML.out ?_
          intro v6 hq6 hk
          replace hS := hS.kp hk hqw
          replace hp5 := hp5.kp hk hne
          clear hk hq
          refine hK.out _ _ (by (exact hS)) (fun hHeld => ?_)
          clear hK K
          (try simp only [Act.put, List.setIfInBounds_toArray, List.set_cons_zero, List.set_cons_succ])
          refine wpAnyH_done (by kernel_rfl) ?_ _
    rotate_left 6
    refine AllReadyH.cons (o := { dst := some 7, op := Go.Op.alloc 23, type := 0, pos := "law.go:41", after := #[], guard := none }) rfl (fun K hK => ?_) ?_
    focus
      refine wp_alloc_vec rfl HIZ.out ?_
      intro v3 p hp hpe hb
      have hpw : w.heap.size + 3 ≤ p := by have := hS.size; omega
      (try have hne : p ≠ q := by have := hq.1; omega)
      clear hpe
      replace hS := hS.keep hb
      (try replace hq := hq.keep hb)
      clear hb
      refine hK.out _ _ (by (exact hS)) (fun hHeld => ?_)
      clear hK K
      (try simp only [Act.put, List.setIfInBounds_toArray, List.set_cons_zero, List.set_cons_succ])
      refine wpAnyH_ready (rs := [2, 7]) (by kernel_rfl) (by simp) ?_
      refine AllReadyH.cons (o := { dst := some 13, op := Go.Op.call { callee := Go.Callee.value (Go.Operand.func 8), args := #[Go.Operand.tmp 11, Go.Operand.tmp 12], argTypes := #[23, 23] }, type := 23, pos := "law.go:41", after := #[{ on := 0, ground := Go.Ground.data }, { on := 1, ground := Go.Ground.data }], guard := none }) rfl (fun K hK => ?_) ?_
      focus
        go_simp
        refine (TJ.out _).mono ?_
        rintro e v1 ⟨rfl, hb⟩
        replace hS := hS.keep hb
        (try replace hp := hp.keep hb)
        (try replace hq := hq.keep hb)
        clear hb
        (try go_wp2_with fail)
        refine hK.out _ _ (by (exact hS)) (fun hHeld => ?_)
        clear hK K
        (try simp only [Act.put, List.setIfInBounds_toArray, List.set_cons_zero, List.set_cons_succ])
        refine wpAnyH_ready (rs := [5, 7]) (by kernel_rfl) (by simp) ?_
        refine AllReadyH.cons (o := { dst := some 16, op := Go.Op.call { callee := Go.Callee.value (Go.Operand.func 10), args := #[Go.Operand.tmp 14, Go.Operand.tmp 15], argTypes := #[23, 23] }, type := 23, pos := "law.go:41", after := #[{ on := 3, ground := Go.Ground.data }, { on := 4, ground := Go.Ground.data }, { on := 2, ground := Go.Ground.chain }], guard := none }) rfl (fun K hK => ?_) ?_
        focus
          go_simp
          refine (TM.out _).mono ?_
          rintro e v2 ⟨rfl, hb⟩
          replace hS := hS.keep hb
          (try replace hp := hp.keep hb)
          (try replace hq := hq.keep hb)
          clear hb
          (try go_wp2_with fail)
          refine hK.out _ _ (by (exact hS)) (fun hHeld => ?_)
          clear hK K
          (try simp only [Act.put, List.setIfInBounds_toArray, List.set_cons_zero, List.set_cons_succ])
          refine wpAnyH_ready (rs := [7]) (by kernel_rfl) (by simp) ?_
          refine AllReadyH.cons (o := { dst := some 8, op := Go.Op.alloc 23, type := 0, pos := "law.go:41", after := #[], guard := none }) rfl (fun K hK => ?_) AllReadyH.nil
          refine wp_alloc_vec rfl HIZ.out ?_
          intro v4 q hq hqe hb
          have hqw : w.heap.size + 3 ≤ q := by have := hS.size; omega
          (try have hne : p ≠ q := by have := hp.1; omega)
          clear hqe
          replace hS := hS.keep hb
          (try replace hp := hp.keep hb)
          clear hb
          refine hK.out _ _ (by (exact hS)) (fun hHeld => ?_)
          clear hK K
          (try simp only [Act.put, List.setIfInBounds_toArray, List.set_cons_zero, List.set_cons_succ])
          refine wpAnyH_ready (rs := [8]) (by kernel_rfl) (by simp) ?_
          refine AllReadyH.cons (o := { dst := none, op := Go.Op.store 23 (Go.Operand.tmp 7) (Go.Operand.tmp 13), type := 0, pos := "law.go:41", after := #[{ on := 6, ground := Go.Ground.data }, { on := 2, ground := Go.Ground.data }, { on := 5, ground := Go.Ground.chain }, { on := 0, ground := Go.Ground.phase }, { on := 1, ground := Go.Ground.phase }, { on := 2, ground := Go.Ground.phase }, { on := 3, ground := Go.Ground.textOnly Go.Departure.lateStores }, { on := 4, ground := Go.Ground.textOnly Go.Departure.lateStores }, { on := 5, ground := Go.Ground.textOnly Go.Departure.lateStoresUnsure }, { on := 6, ground := Go.Ground.phase }, { on := 7, ground := Go.Ground.phase }], guard := none }) rfl (fun K hK => ?_) AllReadyH.nil
          refine wp_store_vec (.tmp 7) (.tmp 13) rfl rfl rfl hp HZL.out HIJ.out HJ.out HJL.out ?_
          intro v5 hp5 hk
          replace hS := hS.kp hk hpw
          replace hq := hq.kp hk (Ne.symm hne)
          clear hk hp
          refine hK.out _ _ (by (exact hS)) (fun hHeld => ?_)
          clear hK K
          (try simp only [Act.put, List.setIfInBounds_toArray, List.set_cons_zero, List.set_cons_succ])
          refine wpAnyH_ready (rs := [9]) (by kernel_rfl) (by simp) ?_
          refine AllReadyH.cons (o := { dst := none, op := Go.Op.store 23 (Go.Operand.tmp 8) (Go.Operand.tmp 16), type := 0, pos := "law.go:41", after := #[{ on := 7, ground := Go.Ground.data }, { on := 5, ground := Go.Ground.data }, { on := 8, ground := Go.Ground.chain }, { on := 0, ground := Go.Ground.phase }, { on := 1, ground := Go.Ground.phase }, { on := 2, ground := Go.Ground.phase }, { on := 3, ground := Go.Ground.phase }, { on := 4, ground := Go.Ground.phase }, { on := 5, ground := Go.Ground.phase }, { on := 6, ground := Go.Ground.phase }, { on := 7, ground := Go.Ground.phase }, { on := 8, ground := Go.Ground.phase }], guard := none }) rfl (fun K hK => ?_) AllReadyH.nil
          refine wp_store_vec (.tmp 8) (.tmp 16) rfl rfl rfl hq HZL.out HIM.out HM.out HML.out ?_
          intro v6 hq6 hk
          replace hS := hS.kp hk hqw
          replace hp5 := hp5.kp hk hne
          clear hk hq
          refine hK.out _ _ (by (exact hS)) (fun hHeld => ?_)
          clear hK K
          (try simp only [Act.put, List.setIfInBounds_toArray, List.set_cons_zero, List.set_cons_succ])
          refine wpAnyH_done (by kernel_rfl) ?_ _
        rotate_left 1
        refine AllReadyH.cons (o := { dst := some 8, op := Go.Op.alloc 23, type := 0, pos := "law.go:41", after := #[], guard := none }) rfl (fun K hK => ?_) AllReadyH.nil
        focus
          refine wp_alloc_vec rfl HIZ.out ?_
          intro v4 q hq hqe hb
          have hqw : w.heap.size + 3 ≤ q := by have := hS.size; omega
          (try have hne : p ≠ q := by have := hp.1; omega)
          clear hqe
          replace hS := hS.keep hb
          (try replace hp := hp.keep hb)
          clear hb
          refine hK.out _ _ (by (exact hS)) (fun hHeld => ?_)
          clear hK K
          (try simp only [Act.put, List.setIfInBounds_toArray, List.set_cons_zero, List.set_cons_succ])
          refine wpAnyH_ready (rs := [5]) (by kernel_rfl) (by simp) ?_
          refine AllReadyH.cons (o := { dst := some 16, op := Go.Op.call { callee := Go.Callee.value (Go.Operand.func 10), args := #[Go.Operand.tmp 14, Go.Operand.tmp 15], argTypes := #[23, 23] }, type := 23, pos := "law.go:41", after := #[{ on := 3, ground := Go.Ground.data }, { on := 4, ground := Go.Ground.data }, { on := 2, ground := Go.Ground.chain }], guard := none }) rfl (fun K hK => ?_) AllReadyH.nil
          go_simp
          refine (TM.out _).mono ?_
          rintro e v2 ⟨rfl, hb⟩
          replace hS := hS.keep hb
          (try replace hp := hp.keep hb)
          (try replace hq := hq.keep hb)
          clear hb
          (try go_wp2_with fail)
          refine hK.out _ _ (by (exact hS)) (fun hHeld => ?_)
          clear hK K
          (try simp only [Act.put, List.setIfInBounds_toArray, List.set_cons_zero, List.set_cons_succ])
          refine wpAnyH_ready (rs := [8]) (by kernel_rfl) (by simp) ?_
          refine AllReadyH.cons (o := { dst := none, op := Go.Op.store 23 (Go.Operand.tmp 7) (Go.Operand.tmp 13), type := 0, pos := "law.go:41", after := #[{ on := 6, ground := Go.Ground.data }, { on := 2, ground := Go.Ground.data }, { on := 5, ground := Go.Ground.chain }, { on := 0, ground := Go.Ground.phase }, { on := 1, ground := Go.Ground.phase }, { on := 2, ground := Go.Ground.phase }, { on := 3, ground := Go.Ground.textOnly Go.Departure.lateStores }, { on := 4, ground := Go.Ground.textOnly Go.Departure.lateStores }, { on := 5, ground := Go.Ground.textOnly Go.Departure.lateStoresUnsure }, { on := 6, ground := Go.Ground.phase }, { on := 7, ground := Go.Ground.phase }], guard := none }) rfl (fun K hK => ?_) AllReadyH.nil
          refine wp_store_vec (.tmp 7) (.tmp 13) rfl rfl rfl hp HZL.out HIJ.out HJ.out HJL.out ?_
          intro v5 hp5 hk
          replace hS := hS.kp hk hpw
          replace hq := hq.kp hk (Ne.symm hne)
          clear hk hp
          refine hK.out _ _ (by (exact hS)) (fun hHeld => ?_)
          clear hK K
          (try simp only [Act.put, List.setIfInBounds_toArray, List.set_cons_zero, List.set_cons_succ])
          refine wpAnyH_ready (rs := [9]) (by kernel_rfl) (by simp) ?_
          refine AllReadyH.cons (o := { dst := none, op := Go.Op.store 23 (Go.Operand.tmp 8) (Go.Operand.tmp 16), type := 0, pos := "law.go:41", after := #[{ on := 7, ground := Go.Ground.data }, { on := 5, ground := Go.Ground.data }, { on := 8, ground := Go.Ground.chain }, { on := 0, ground := Go.Ground.phase }, { on := 1, ground := Go.Ground.phase }, { on := 2, ground := Go.Ground.phase }, { on := 3, ground := Go.Ground.phase }, { on := 4, ground := Go.Ground.phase }, { on := 5, ground := Go.Ground.phase }, { on := 6, ground := Go.Ground.phase }, { on := 7, ground := Go.Ground.phase }, { on := 8, ground := Go.Ground.phase }], guard := none }) rfl (fun K hK => ?_) AllReadyH.nil
          refine wp_store_vec (.tmp 8) (.tmp 16) rfl rfl rfl hq HZL.out HIM.out HM.out HML.out ?_
          intro v6 hq6 hk
          replace hS := hS.kp hk hqw
          replace hp5 := hp5.kp hk hne
          clear hk hq
          refine hK.out _ _ (by (exact hS)) (fun hHeld => ?_)
          clear hK K
          (try simp only [Act.put, List.setIfInBounds_toArray, List.set_cons_zero, List.set_cons_succ])
          refine wpAnyH_done (by kernel_rfl) ?_ _
      rotate_left 2
      refine AllReadyH.cons (o := { dst := some 8, op := Go.Op.alloc 23, type := 0, pos := "law.go:41", after := #[], guard := none }) rfl (fun K hK => ?_) AllReadyH.nil
      focus
        refine wp_alloc_vec rfl HIZ.out ?_
        intro v4 q hq hqe hb
        have hqw : w.heap.size + 3 ≤ q := by have := hS.size; omega
        (try have hne : p ≠ q := by have := hp.1; omega)
        clear hqe
        replace hS := hS.keep hb
        (try replace hp := hp.keep hb)
        clear hb
        refine hK.out _ _ (by (exact hS)) (fun hHeld => ?_)
        clear hK K
        (try simp only [Act.put, List.setIfInBounds_toArray, List.set_cons_zero, List.set_cons_succ])
        refine wpAnyH_ready (rs := [2]) (by kernel_rfl) (by simp) ?_
        refine AllReadyH.cons (o := { dst := some 13, op := Go.Op.call { callee := Go.Callee.value (Go.Operand.func 8), args := #[Go.Operand.tmp 11, Go.Operand.tmp 12], argTypes := #[23, 23] }, type := 23, pos := "law.go:41", after := #[{ on := 0, ground := Go.Ground.data }, { on := 1, ground := Go.Ground.data }], guard := none }) rfl (fun K hK => ?_) AllReadyH.nil
        go_simp
        refine (TJ.out _).mono ?_
        rintro e v1 ⟨rfl, hb⟩
        replace hS := hS.keep hb
        (try replace hp := hp.keep hb)
        (try replace hq := hq.keep hb)
        clear hb
        (try go_wp2_with fail)
        refine hK.out _ _ (by (exact hS)) (fun hHeld => ?_)
        clear hK K
        (try simp only [Act.put, List.setIfInBounds_toArray, List.set_cons_zero, List.set_cons_succ])
        refine wpAnyH_ready (rs := [5]) (by kernel_rfl) (by simp) ?_
        refine AllReadyH.cons (o := { dst := some 16, op := Go.Op.call { callee := Go.Callee.value (Go.Operand.func 10), args := #[Go.Operand.tmp 14, Go.Operand.tmp 15], argTypes := #[23, 23] }, type := 23, pos := "law.go:41", after := #[{ on := 3, ground := Go.Ground.data }, { on := 4, ground := Go.Ground.data }, { on := 2, ground := Go.Ground.chain }], guard := none }) rfl (fun K hK => ?_) AllReadyH.nil
        go_simp
        refine (TM.out _).mono ?_
        rintro e v2 ⟨rfl, hb⟩
        replace hS := hS.keep hb
        (try replace hp := hp.keep hb)
        (try replace hq := hq.keep hb)
        clear hb
        (try go_wp2_with fail)
        refine hK.out _ _ (by (exact hS)) (fun hHeld => ?_)
        clear hK K
        (try simp only [Act.put, List.setIfInBounds_toArray, List.set_cons_zero, List.set_cons_succ])
        refine wpAnyH_ready (rs := [8]) (by kernel_rfl) (by simp) ?_
        refine AllReadyH.cons (o := { dst := none, op := Go.Op.store 23 (Go.Operand.tmp 7) (Go.Operand.tmp 13), type := 0, pos := "law.go:41", after := #[{ on := 6, ground := Go.Ground.data }, { on := 2, ground := Go.Ground.data }, { on := 5, ground := Go.Ground.chain }, { on := 0, ground := Go.Ground.phase }, { on := 1, ground := Go.Ground.phase }, { on := 2, ground := Go.Ground.phase }, { on := 3, ground := Go.Ground.textOnly Go.Departure.lateStores }, { on := 4, ground := Go.Ground.textOnly Go.Departure.lateStores }, { on := 5, ground := Go.Ground.textOnly Go.Departure.lateStoresUnsure }, { on := 6, ground := Go.Ground.phase }, { on := 7, ground := Go.Ground.phase }], guard := none }) rfl (fun K hK => ?_) AllReadyH.nil
        refine wp_store_vec (.tmp 7) (.tmp 13) rfl rfl rfl hp HZL.out HIJ.out HJ.out HJL.out ?_
        intro v5 hp5 hk
        replace hS := hS.kp hk hpw
        replace hq := hq.kp hk (Ne.symm hne)
        clear hk hp
        refine hK.out _ _ (by (exact hS)) (fun hHeld => ?_)
        clear hK K
        (try simp only [Act.put, List.setIfInBounds_toArray, List.set_cons_zero, List.set_cons_succ])
        refine wpAnyH_ready (rs := [9]) (by kernel_rfl) (by simp) ?_
        refine AllReadyH.cons (o := { dst := none, op := Go.Op.store 23 (Go.Operand.tmp 8) (Go.Operand.tmp 16), type := 0, pos := "law.go:41", after := #[{ on := 7, ground := Go.Ground.data }, { on := 5, ground := Go.Ground.data }, { on := 8, ground := Go.Ground.chain }, { on := 0, ground := Go.Ground.phase }, { on := 1, ground := Go.Ground.phase }, { on := 2, ground := Go.Ground.phase }, { on := 3, ground := Go.Ground.phase }, { on := 4, ground := Go.Ground.phase }, { on := 5, ground := Go.Ground.phase }, { on := 6, ground := Go.Ground.phase }, { on := 7, ground := Go.Ground.phase }, { on := 8, ground := Go.Ground.phase }], guard := none }) rfl (fun K hK => ?_) AllReadyH.nil
        refine wp_store_vec (.tmp 8) (.tmp 16) rfl rfl rfl hq HZL.out HIM.out HM.out HML.out ?_
        intro v6 hq6 hk
        replace hS := hS.kp hk hqw
        replace hp5 := hp5.kp hk hne
        clear hk hq
        refine hK.out _ _ (by (exact hS)) (fun hHeld => ?_)
        clear hK K
        (try simp only [Act.put, List.setIfInBounds_toArray, List.set_cons_zero, List.set_cons_succ])
        refine wpAnyH_done (by kernel_rfl) ?_ _
    rotate_left 3
    refine AllReadyH.cons (o := { dst := some 8, op := Go.Op.alloc 23, type := 0, pos := "law.go:41", after := #[], guard := none }) rfl (fun K hK => ?_) AllReadyH.nil
    focus
      refine wp_alloc_vec rfl HIZ.out ?_
      intro v4 q hq hqe hb
      have hqw : w.heap.size + 3 ≤ q := by have := hS.size; omega
      (try have hne : p ≠ q := by have := hp.1; omega)
      clear hqe
      replace hS := hS.keep hb
      (try replace hp := hp.keep hb)
      clear hb
      refine hK.out _ _ (by (exact hS)) (fun hHeld => ?_)
      clear hK K
      (try simp only [Act.put, List.setIfInBounds_toArray, List.set_cons_zero, List.set_cons_succ])
      refine wpAnyH_ready (rs := [2, 6]) (by kernel_rfl) (by simp) ?_
      refine AllReadyH.cons (o := { dst := some 13, op := Go.Op.call { callee := Go.Callee.value (Go.Operand.func 8), args := #[Go.Operand.tmp 11, Go.Operand.tmp 12], argTypes := #[23, 23] }, type := 23, pos := "law.go:41", after := #[{ on := 0, ground := Go.Ground.data }, { on := 1, ground := Go.Ground.data }], guard := none }) rfl (fun K hK => ?_) ?_
      focus
        go_simp
        refine (TJ.out _).mono ?_
        rintro e v1 ⟨rfl, hb⟩
        replace hS := hS.keep hb
        (try replace hp := hp.keep hb)
        (try replace hq := hq.keep hb)
        clear hb
        (try go_wp2_with fail)
        refine hK.out _ _ (by (exact hS)) (fun hHeld => ?_)
        clear hK K
        (try simp only [Act.put, List.setIfInBounds_toArray, List.set_cons_zero, List.set_cons_succ])
        refine wpAnyH_ready (rs := [5, 6]) (by kernel_rfl) (by simp) ?_
        refine AllReadyH.cons (o := { dst := some 16, op := Go.Op.call { callee := Go.Callee.value (Go.Operand.func 10), args := #[Go.Operand.tmp 14, Go.Operand.tmp 15], argTypes := #[23, 23] }, type := 23, pos := "law.go:41", after := #[{ on := 3, ground := Go.Ground.data }, { on := 4, ground := Go.Ground.data }, { on := 2, ground := Go.Ground.chain }], guard := none }) rfl (fun K hK => ?_) ?_
        focus
          go_simp
          refine (TM.out _).mono ?_
          rintro e v2 ⟨rfl, hb⟩
          replace hS := hS.keep hb
          (try replace hp := hp.keep hb)
          (try replace hq := hq.keep hb)
          clear hb
          (try go_wp2_with fail)
          refine hK.out _ _ (by (exact hS)) (fun hHeld => ?_)
          clear hK K
          (try simp only [Act.put, List.setIfInBounds_toArray, List.set_cons_zero, List.set_cons_succ])
          refine wpAnyH_ready (rs := [6]) (by kernel_rfl) (by simp) ?_
          refine AllReadyH.cons (o := { dst := some 7, op := Go.Op.alloc 23, type := 0, pos := "law.go:41", after := #[], guard := none }) rfl (fun K hK => ?_) AllReadyH.nil
          refine wp_alloc_vec rfl HIZ.out ?_
          intro v3 p hp hpe hb
          have hpw : w.heap.size + 3 ≤ p := by have := hS.size; omega
          (try have hne : p ≠ q := by have := hq.1; omega)
          clear hpe
          replace hS := hS.keep hb
          (try replace hq := hq.keep hb)
          clear hb
          refine hK.out _ _ (by (exact hS)) (fun hHeld => ?_)
          clear hK K
          (try simp only [Act.put, List.setIfInBounds_toArray, List.set_cons_zero, List.set_cons_succ])
          refine wpAnyH_ready (rs := [8]) (by kernel_rfl) (by simp) ?_
          refine AllReadyH.cons (o := { dst := none, op := Go.Op.store 23 (Go.Operand.tmp 7) (Go.Operand.tmp 13), type := 0, pos := "law.go:41", after := #[{ on := 6, ground := Go.Ground.data }, { on := 2, ground := Go.Ground.data }, { on := 5, ground := Go.Ground.chain }, { on := 0, ground := Go.Ground.phase }, { on := 1, ground := Go.Ground.phase }, { on := 2, ground := Go.Ground.phase }, { on := 3, ground := Go.Ground.textOnly Go.Departure.lateStores }, { on := 4, ground := Go.Ground.textOnly Go.Departure.lateStores }, { on := 5, ground := Go.Ground.textOnly Go.Departure.lateStoresUnsure }, { on := 6, ground := Go.Ground.phase }, { on := 7, ground := Go.Ground.phase }], guard := none }) rfl (fun K hK => ?_) AllReadyH.nil
          refine wp_store_vec (.tmp 7) (.tmp 13) rfl rfl rfl hp HZL.out HIJ.out HJ.out HJL.out ?_
          intro v5 hp5 hk
          replace hS := hS.kp hk hpw
          replace hq := hq.kp hk (Ne.symm hne)
          clear hk hp
          refine hK.out _ _ (by (exact hS)) (fun hHeld => ?_)
          clear hK K
          (try simp only [Act.put, List.setIfInBounds_toArray, List.set_cons_zero, List.set_cons_succ])
          refine wpAnyH_ready (rs := [9]) (by kernel_rfl) (by simp) ?_
          refine AllReadyH.cons (o := { dst := none, op := Go.Op.store 23 (Go.Operand.tmp 8) (Go.Operand.tmp 16), type := 0, pos := "law.go:41", after := #[{ on := 7, ground := Go.Ground.data }, { on := 5, ground := Go.Ground.data }, { on := 8, ground := Go.Ground.chain }, { on := 0, ground := Go.Ground.phase }, { on := 1, ground := Go.Ground.phase }, { on := 2, ground := Go.Ground.phase }, { on := 3, ground := Go.Ground.phase }, { on := 4, ground := Go.Ground.phase }, { on := 5, ground := Go.Ground.phase }, { on := 6, ground := Go.Ground.phase }, { on := 7, ground := Go.Ground.phase }, { on := 8, ground := Go.Ground.phase }], guard := none }) rfl (fun K hK => ?_) AllReadyH.nil
          refine wp_store_vec (.tmp 8) (.tmp 16) rfl rfl rfl hq HZL.out HIM.out HM.out HML.out ?_
          intro v6 hq6 hk
          replace hS := hS.kp hk hqw
          replace hp5 := hp5.kp hk hne
          clear hk hq
          refine hK.out _ _ (by (exact hS)) (fun hHeld => ?_)
          clear hK K
          (try simp only [Act.put, List.setIfInBounds_toArray, List.set_cons_zero, List.set_cons_succ])
          refine wpAnyH_done (by kernel_rfl) ?_ _
        rotate_left 1
        refine AllReadyH.cons (o := { dst := some 7, op := Go.Op.alloc 23, type := 0, pos := "law.go:41", after := #[], guard := none }) rfl (fun K hK => ?_) AllReadyH.nil
        focus
          refine wp_alloc_vec rfl HIZ.out ?_
          intro v3 p hp hpe hb
          have hpw : w.heap.size + 3 ≤ p := by have := hS.size; omega
          (try have hne : p ≠ q := by have := hq.1; omega)
          clear hpe
          replace hS := hS.keep hb
          (try replace hq := hq.keep hb)
          clear hb
          refine hK.out _ _ (by (exact hS)) (fun hHeld => ?_)
          clear hK K
          (try simp only [Act.put, List.setIfInBounds_toArray, List.set_cons_zero, List.set_cons_succ])
          refine wpAnyH_ready (rs := [5]) (by kernel_rfl) (by simp) ?_
          refine AllReadyH.cons (o := { dst := some 16, op := Go.Op.call { callee := Go.Callee.value (Go.Operand.func 10), args := #[Go.Operand.tmp 14, Go.Operand.tmp 15], argTypes := #[23, 23] }, type := 23, pos := "law.go:41", after := #[{ on := 3, ground := Go.Ground.data }, { on := 4, ground := Go.Ground.data }, { on := 2, ground := Go.Ground.chain }], guard := none }) rfl (fun K hK => ?_) AllReadyH.nil
          go_simp
          refine (TM.out _).mono ?_
          rintro e v2 ⟨rfl, hb⟩
          replace hS := hS.keep hb
          (try replace hp := hp.keep hb)
          (try replace hq := hq.keep hb)
          clear hb
          (try go_wp2_with fail)
          refine hK.out _ _ (by (exact hS)) (fun hHeld => ?_)
          clear hK K
          (try simp only [Act.put, List.setIfInBounds_toArray, List.set_cons_zero, List.set_cons_succ])
          refine wpAnyH_ready (rs := [8]) (by kernel_rfl) (by simp) ?_
          refine AllReadyH.cons (o := { dst := none, op := Go.Op.store 23 (Go.Operand.tmp 7) (Go.Operand.tmp 13), type := 0, pos := "law.go:41", after := #[{ on := 6, ground := Go.Ground.data }, { on := 2, ground := Go.Ground.data }, { on := 5, ground := Go.Ground.chain }, { on := 0, ground := Go.Ground.phase }, { on := 1, ground := Go.Ground.phase }, { on := 2, ground := Go.Ground.phase }, { on := 3, ground := Go.Ground.textOnly Go.Departure.lateStores }, { on := 4, ground := Go.Ground.textOnly Go.Departure.lateStores }, { on := 5, ground := Go.Ground.textOnly Go.Departure.lateStoresUnsure }, { on := 6, ground := Go.Ground.phase }, { on := 7, ground := Go.Ground.phase }], guard := none }) rfl (fun K hK => ?_) AllReadyH.nil
          refine wp_store_vec (.tmp 7) (.tmp 13) rfl rfl rfl hp HZL.out HIJ.out HJ.out HJL.out ?_
          intro v5 hp5 hk
          replace hS := hS.kp hk hpw
          replace hq := hq.kp hk (Ne.symm hne)
          clear hk hp
          refine hK.out _ _ (by (exact hS)) (fun hHeld => ?_)
          clear hK K
          (try simp only [Act.put, List.setIfInBounds_toArray, List.set_cons_zero, List.set_cons_succ])
          refine wpAnyH_ready (rs := [9]) (by kernel_rfl) (by simp) ?_
          refine AllReadyH.cons (o := { dst := none, op := Go.Op.store 23 (Go.Operand.tmp 8) (Go.Operand.tmp 16), type := 0, pos := "law.go:41", after := #[{ on := 7, ground := Go.Ground.data }, { on := 5, ground := Go.Ground.data }, { on := 8, ground := Go.Ground.chain }, { on := 0, ground := Go.Ground.phase }, { on := 1, ground := Go.Ground.phase }, { on := 2, ground := Go.Ground.phase }, { on := 3, ground := Go.Ground.phase }, { on := 4, ground := Go.Ground.phase }, { on := 5, ground := Go.Ground.phase }, { on := 6, ground := Go.Ground.phase }, { on := 7, ground := Go.Ground.phase }, { on := 8, ground := Go.Ground.phase }], guard := none }) rfl (fun K hK => ?_) AllReadyH.nil
          refine wp_store_vec (.tmp 8) (.tmp 16) rfl rfl rfl hq HZL.out HIM.out HM.out HML.out ?_
          intro v6 hq6 hk
          replace hS := hS.kp hk hqw
          replace hp5 := hp5.kp hk hne
          clear hk hq
          refine hK.out _ _ (by (exact hS)) (fun hHeld => ?_)
          clear hK K
          (try simp only [Act.put, List.setIfInBounds_toArray, List.set_cons_zero, List.set_cons_succ])
          refine wpAnyH_done (by kernel_rfl) ?_ _
      rotate_left 2
      refine AllReadyH.cons (o := { dst := some 7, op := Go.Op.alloc 23, type := 0, pos := "law.go:41", after := #[], guard := none }) rfl (fun K hK => ?_) AllReadyH.nil
      focus
        refine wp_alloc_vec rfl HIZ.out ?_
        intro v3 p hp hpe hb
        have hpw : w.heap.size + 3 ≤ p := by have := hS.size; omega
        (try have hne : p ≠ q := by have := hq.1; omega)
        clear hpe
        replace hS := hS.keep hb
        (try replace hq := hq.keep hb)
        clear hb
        refine hK.out _ _ (by (exact hS)) (fun hHeld => ?_)
        clear hK K
        (try simp only [Act.put, List.setIfInBounds_toArray, List.set_cons_zero, List.set_cons_succ])
        refine wpAnyH_ready (rs := [2]) (by kernel_rfl) (by simp) ?_
        refine AllReadyH.cons (o := { dst := some 13, op := Go.Op.call { callee := Go.Callee.value (Go.Operand.func 8), args := #[Go.Operand.tmp 11, Go.Operand.tmp 12], argTypes := #[23, 23] }, type := 23, pos := "law.go:41", after := #[{ on := 0, ground := Go.Ground.data }, { on := 1, ground := Go.Ground.data }], guard := none }) rfl (fun K hK => ?_) AllReadyH.nil
        go_simp
        refine (TJ.out _).mono ?_
        rintro e v1 ⟨rfl, hb⟩
        replace hS := hS.keep hb
        (try replace hp := hp.keep hb)
        (try replace hq := hq.keep hb)
        clear hb
        (try go_wp2_with fail)
        refine hK.out _ _ (by (exact hS)) (fun hHeld => ?_)
        clear hK K
        (try simp only [Act.put, List.setIfInBounds_toArray, List.set_cons_zero, List.set_cons_succ])
        refine wpAnyH_ready (rs := [5]) (by kernel_rfl) (by simp) ?_
        refine AllReadyH.cons (o := { dst := some 16, op := Go.Op.call { callee := Go.Callee.value (Go.Operand.func 10), args := #[Go.Operand.tmp 14, Go.Operand.tmp 15], argTypes := #[23, 23] }, type := 23, pos := "law.go:41", after := #[{ on := 3, ground := Go.Ground.data }, { on := 4, ground := Go.Ground.data }, { on := 2, ground := Go.Ground.chain }], guard := none }) rfl (fun K hK => ?_) AllReadyH.nil
        go_simp
        refine (TM.out _).mono ?_
        rintro e v2 ⟨rfl, hb⟩
        replace hS := hS.keep hb
        (try replace hp := hp.keep hb)
        (try replace hq := hq.keep hb)
        clear hb
        (try go_wp2_with fail)
        refine hK.out _ _ (by (exact hS)) (fun hHeld => ?_)
        clear hK K
        (try simp only [Act.put, List.setIfInBounds_toArray, List.set_cons_zero, List.set_cons_succ])
        refine wpAnyH_ready (rs := [8]) (by kernel_rfl) (by simp) ?_
        refine AllReadyH.cons (o := { dst := none, op := Go.Op.store 23 (Go.Operand.tmp 7) (Go.Operand.tmp 13), type := 0, pos := "law.go:41", after := #[{ on := 6, ground := Go.Ground.data }, { on := 2, ground := Go.Ground.data }, { on := 5, ground := Go.Ground.chain }, { on := 0, ground := Go.Ground.phase }, { on := 1, ground := Go.Ground.phase }, { on := 2, ground := Go.Ground.phase }, { on := 3, ground := Go.Ground.textOnly Go.Departure.lateStores }, { on := 4, ground := Go.Ground.textOnly Go.Departure.lateStores }, { on := 5, ground := Go.Ground.textOnly Go.Departure.lateStoresUnsure }, { on := 6, ground := Go.Ground.phase }, { on := 7, ground := Go.Ground.phase }], guard := none }) rfl (fun K hK => ?_) AllReadyH.nil
        refine wp_store_vec (.tmp 7) (.tmp 13) rfl rfl rfl hp HZL.out HIJ.out HJ.out HJL.out ?_
        intro v5 hp5 hk
        replace hS := hS.kp hk hpw
        replace hq := hq.kp hk (Ne.symm hne)
        clear hk hp
        refine hK.out _ _ (by (exact hS)) (fun hHeld => ?_)
        clear hK K
        (try simp only [Act.put, List.setIfInBounds_toArray, List.set_cons_zero, List.set_cons_succ])
        refine wpAnyH_ready (rs := [9]) (by kernel_rfl) (by simp) ?_
        refine AllReadyH.cons (o := { dst := none, op := Go.Op.store 23 (Go.Operand.tmp 8) (Go.Operand.tmp 16), type := 0, pos := "law.go:41", after := #[{ on := 7, ground := Go.Ground.data }, { on := 5, ground := Go.Ground.data }, { on := 8, ground := Go.Ground.chain }, { on := 0, ground := Go.Ground.phase }, { on := 1, ground := Go.Ground.phase }, { on := 2, ground := Go.Ground.phase }, { on := 3, ground := Go.Ground.phase }, { on := 4, ground := Go.Ground.phase }, { on := 5, ground := Go.Ground.phase }, { on := 6, ground := Go.Ground.phase }, { on := 7, ground := Go.Ground.phase }, { on := 8, ground := Go.Ground.phase }], guard := none }) rfl (fun K hK => ?_) AllReadyH.nil
        refine wp_store_vec (.tmp 8) (.tmp 16) rfl rfl rfl hq HZL.out HIM.out HM.out HML.out ?_
        intro v6 hq6 hk
        replace hS := hS.kp hk hqw
        replace hp5 := hp5.kp hk hne
        clear hk hq
        refine hK.out _ _ (by (exact hS)) (fun hHeld => ?_)
        clear hK K
        (try simp only [Act.put, List.setIfInBounds_toArray, List.set_cons_zero, List.set_cons_succ])
        refine wpAnyH_done (by kernel_rfl) ?_ _
    all_goals exact ⟨_, _, ⟨hS, hp5, hq6⟩, rfl⟩
end Go.Proofs.Ytommogkckooekaa

