/-
  The contract of the law's awake.
-/
import Derived.Test.YtommogkckooekaaA8
set_option linter.unusedVariables false
set_option linter.unusedSimpArgs false
namespace Go.Proofs.Ytommogkckooekaa
open Go.RowKit
def va : List Int := [1, 0, 0, 0, 0, 0, 0, 0, 0, 0, 0, 0, 0, 0, 0, 0]
def vb : List Int := [0, 1, 0, 0, 0, 0, 0, 0, 0, 0, 0, 0, 0, 0, 0, 0]
def vm : List Int := [-1, 0, 0, 0, 0, 0, 0, 0, 0, 0, 0, 0, 0, 0, 0, 0]
def v11 : List Int := [1, 1, 0, 0, 0, 0, 0, 0, 0, 0, 0, 0, 0, 0, 0, 0]
theorem wpList_load_want {P : Program} {ops : Array Oper} {rest : List Oper} {o : Oper} {a : Act} {w : World} {Q : Exit → Act → World → Prop} (hgd : Region.wanted o (yielded ops a.tmps) = true) (ty : TypeId) (x : Operand) (ho : o.op = .load ty x)
    {p v : Value} (hx : a.eval x = p) (hl : (Instr.loadAt ty p).run P w = .ok v w) (h : wpList P ops Q rest (a.put o.dst v) w) : wpList P ops Q (o :: rest) a w :=
  wpList_step fun _ hK => by rw [if_pos hgd]; exact wp_load_run ty x ho hx hl (hK _ _ h)
theorem va_cat : (catK va 16).size = 16 := catK_small 16 (by decide)
theorem vec_sl {p : Nat} {V : List Int} {w : World} (h : Bk p (ints V) w) (hV : V.length = 16) : (Instr.loadAt 23 (.pointer (some ⟨p, 0, none⟩))).run Try.prog w = .ok (.agg (ints V).toArray) w := vec_load h hV
theorem vec_st {p : Nat} {U V : List Int} {w : World} (h : Bk p (ints U) w) (hU : U.length = 16) (hV : V.length = 16) : (Instr.storeAt 23 (.pointer (some ⟨p, 0, none⟩)) (.agg (ints V).toArray)).run Try.prog w = .ok () (w.setCells p 0 (ints V)) :=
  run_store_bk (P := Try.prog) (ty := 23) h (vs := ints V) (by rw [ints_len, ints_len, hU, hV]) (by rw [ints_len, hV]; kernel_rfl) (ints_one V)
theorem vec_put {p : Nat} {U V : List Int} {w : World} (h : Bk p (ints U) w) (hU : U.length = 16) (hV : V.length = 16) : Bk p (ints V) (w.setCells p 0 (ints V)) := h.put (by rw [ints_len, ints_len, hU, hV])
theorem put_other {p q : Nat} {U : List Value} {vs : List Value} {w : World} (h : Bk q U w) (hne : q ≠ p) : Bk q U (w.setCells p 0 vs) := h.kp (Kp.setCells (Kp.refl (fun j => j = p) w) p rfl vs 0) hne
theorem put_below {p B : Nat} {vs : List Value} {w0 w : World} (h : Below B w0 w) (hB : B ≤ w.heap.size) (hp : B ≤ p) : Below B w0 (w.setCells p 0 vs) := h.trans ((Kp.setCells (Kp.refl (fun j => j = p) w) p rfl vs 0).below (B := B) hB (fun j hj => by omega))
theorem st2 {p : Nat} {U I : List Value} {V : List Int} {w : World} (h : Bk p U w) (hU : U.length = 16) (hI : I = ints V) (hV : V.length = 16) : (Instr.storeAt 23 (.pointer (some ⟨p, 0, none⟩)) (.agg (ints V).toArray)).run Try.prog w = .ok () (w.setCells p 0 I) := by
  rw [hI]
  exact run_store_bk (P := Try.prog) (ty := 23) h (vs := ints V) (by rw [ints_len, hU, hV]) (by rw [ints_len, hV]; kernel_rfl) (ints_one V)
theorem sl2 {p : Nat} {I : List Value} {V : List Int} {w : World} (h : Bk p I w) (hI : I = ints V) (hV : V.length = 16) : (Instr.loadAt 23 (.pointer (some ⟨p, 0, none⟩))).run Try.prog w = .ok (.agg (ints V).toArray) w := vec_load (by rw [← hI]; exact h) hV
theorem put2 {p : Nat} {U I : List Value} {w : World} (h : Bk p U w) (hU : U.length = 16) (hI : I.length = 16) : Bk p I (w.setCells p 0 I) := h.put (by rw [hU, hI])
theorem len2 {I : List Value} {V : List Int} (h : I = ints V) (hV : V.length = 16) : I.length = 16 := by rw [h, ints_len, hV]
set_option maxHeartbeats 16000000 in
theorem awake_any (w : World) : Calls Try.prog 16 #[] w fun e w' => e = .returned (.bool true) ∧ Below w.heap.size w w' := by
  have hzv := zero_vec
  have e1 : (ints (noughts 16)).toArray.setIfInBounds 0 (.int .i64 1) = (ints va).toArray := by kernel_rfl
  have e2 : ((ints (noughts 16)).toArray.setIfInBounds 0 (.int .i64 0)).setIfInBounds 1 (.int .i64 1) = (ints vb).toArray := by kernel_rfl
  have e3 : (ints (noughts 16)).toArray.setIfInBounds 0 (.int .i64 (-1)) = (ints vm).toArray := by kernel_rfl
  have e4 : ((ints (noughts 16)).toArray.setIfInBounds 0 (.int .i64 1)).setIfInBounds 1 (.int .i64 1) = (ints v11).toArray := by kernel_rfl
  have hzs : (ints (noughts 16)).toArray.size = 16 := by kernel_rfl
  obtain ⟨Z, hZ⟩ : ∃ Z, Z = (ints (noughts 16)).toArray := ⟨_, rfl⟩
  rw [← hZ] at hzv e1 e2 e3 e4 hzs
  obtain ⟨A, hA⟩ : ∃ A, A = (ints va).toArray := ⟨_, rfl⟩
  rw [← hA] at e1
  obtain ⟨B, hB⟩ : ∃ B, B = (ints vb).toArray := ⟨_, rfl⟩
  rw [← hB] at e2
  obtain ⟨M, hM⟩ : ∃ M, M = (ints vm).toArray := ⟨_, rfl⟩
  rw [← hM] at e3
  rw [e1] at e4
  obtain ⟨V, hV⟩ : ∃ V, V = (ints v11).toArray := ⟨_, rfl⟩
  rw [← hV] at e4
  have hz1 : ¬ Z = #[] := fun h => by rw [h] at hzs; cases hzs
  have hz2 : ¬ Z.size = 0 := by omega
  have hz3 : 0 < Z.size := by omega
  have hAs : A.size = 16 := by rw [← e1, Array.size_setIfInBounds, hzs]
  have HZE := Lib.hid hZ; have HAE := Lib.hid hA; have HBE := Lib.hid hB; have HME := Lib.hid hM; have HVE := Lib.hid hV
  have LZ : Hid ((noughts 16).length = 16) := Lib.hid rfl
  have LA : Hid (va.length = 16) := Lib.hid rfl
  have LB : Hid (vb.length = 16) := Lib.hid rfl
  clear hZ hA hB hM hV
  obtain ⟨IA, hIA⟩ : ∃ I, I = ints va := ⟨_, rfl⟩
  obtain ⟨IB, hIB⟩ : ∃ I, I = ints vb := ⟨_, rfl⟩
  obtain ⟨IN, hIN⟩ : ∃ I, I = ints (noughts 16) := ⟨_, rfl⟩
  have HIA := Lib.hid hIA; have HIB := Lib.hid hIB; have HIN := Lib.hid hIN
  have NA := Lib.hid (len2 hIA LA.out); have NB := Lib.hid (len2 hIB LB.out); have NN := Lib.hid (len2 hIN LZ.out)
  clear hIA hIB hIN
  have b1 : Bk w.heap.size IN ((w.alloc (.cells Z 23)).alloc (.cells Z 23)) := by rw [HZE.out, HIN.out]; exact (Bk.new w 23 (ints (noughts 16)).toArray).keep (below_new _ _)
  have b2 : Bk (w.heap.size + 1) IN ((w.alloc (.cells Z 23)).alloc (.cells Z 23)) := by
    rw [HZE.out, HIN.out]
    have := Bk.new (w.alloc (.cells (ints (noughts 16)).toArray 23)) 23 (ints (noughts 16)).toArray
    rw [show (w.alloc (.cells (ints (noughts 16)).toArray 23)).heap.size = w.heap.size + 1 by simp] at this
    exact this
  have b3 : Below w.heap.size w ((w.alloc (.cells Z 23)).alloc (.cells Z 23)) := ((Below.refl _ w).alloc (Nat.le_refl _) _).alloc (by simp) _
  have a2 := put2 b1 NN.out NA.out
  have c2 := put_other (vs := IA) b2 (show w.heap.size + 1 ≠ w.heap.size by omega)
  have d2 : Below w.heap.size w (((w.alloc (.cells Z 23)).alloc (.cells Z 23)).setCells w.heap.size 0 IA) := put_below b3 b3.size (Nat.le_refl _)
  have a3 := put_other (vs := IB) a2 (show w.heap.size ≠ w.heap.size + 1 by omega)
  have c3 := put2 c2 NN.out NB.out
  have d3 : Below w.heap.size w ((((w.alloc (.cells Z 23)).alloc (.cells Z 23)).setCells w.heap.size 0 IA).setCells (w.heap.size + 1) 0 IB) := put_below d2 d2.size (by omega)
  have S1 : Hid ((Instr.storeAt 23 (.pointer (some ⟨w.heap.size, 0, none⟩)) (.agg A)).run Try.prog ((w.alloc (.cells Z 23)).alloc (.cells Z 23)) = .ok () (((w.alloc (.cells Z 23)).alloc (.cells Z 23)).setCells w.heap.size 0 IA)) := Lib.hid (by rw [HAE.out]; exact st2 b1 NN.out HIA.out LA.out)
  have S2 : Hid ((Instr.storeAt 23 (.pointer (some ⟨w.heap.size + 1, 0, none⟩)) (.agg B)).run Try.prog (((w.alloc (.cells Z 23)).alloc (.cells Z 23)).setCells w.heap.size 0 IA) = .ok () ((((w.alloc (.cells Z 23)).alloc (.cells Z 23)).setCells w.heap.size 0 IA).setCells (w.heap.size + 1) 0 IB)) := Lib.hid (by rw [HBE.out]; exact st2 c2 NN.out HIB.out LB.out)
  have L3 : Hid ((Instr.loadAt 23 (.pointer (some ⟨w.heap.size, 0, none⟩))).run Try.prog ((((w.alloc (.cells Z 23)).alloc (.cells Z 23)).setCells w.heap.size 0 IA).setCells (w.heap.size + 1) 0 IB) = .ok (.agg A) ((((w.alloc (.cells Z 23)).alloc (.cells Z 23)).setCells w.heap.size 0 IA).setCells (w.heap.size + 1) 0 IB)) := Lib.hid (by rw [HAE.out]; exact sl2 a3 HIA.out LA.out)
  have HA3 := Lib.hid a3; have HB3 := Lib.hid c3; have HW3 := Lib.hid d3
  clear b1 b2 b3 a2 c2 d2 a3 c3 d3
  have TP : Hid (∀ w, Calls Try.prog 17 #[.agg A] w fun e w' => e = .returned (.tuple #[.string (catK va 16), .int .i64 0]) ∧ Below w.heap.size w w') := Lib.hid (fun w => by
    have := put_any va w LA.out
    unfold putR at this
    rw [show chkV va = 0 by decide, if_pos rfl, ← HAE.out] at this
    exact this)
  have TM : Hid (∀ w, Calls Try.prog 17 #[.agg M] w fun e w' => e = .returned (.tuple #[.string ⟨#[]⟩, .int .i64 2]) ∧ Below w.heap.size w w') := Lib.hid (fun w => by
    have := put_any vm w rfl
    unfold putR at this
    rw [show chkV vm = 2 by decide, if_neg (by omega), ← HME.out] at this
    exact this)
  have TR : Hid (∀ w, Calls Try.prog 19 #[.string (catK va 16)] w fun e w' => e = .returned (.tuple #[.agg A, .int .i64 0]) ∧ Below w.heap.size w w') := Lib.hid (fun w => by
    have h := rd_back (V := va) rfl (by decide)
    have := read_any (catK va 16) w (by rw [va_cat]; decide)
    unfold rdR at this
    rw [h.1, h.2, ← HAE.out] at this
    exact this)
  have TX : Hid (∀ w, Calls Try.prog 19 #[.string (catK va 16 ++ ⟨#[120]⟩)] w fun e w' => e = .returned (.tuple #[.agg Z, .int .i64 5]) ∧ Below w.heap.size w w') := Lib.hid (fun w => by
    have h := rd_more (V := va) rfl (by decide) ⟨#[120]⟩ (by decide)
    have := read_any (catK va 16 ++ ⟨#[120]⟩) w (by rw [ByteArray.size_append, va_cat]; decide)
    rw [rdR_bad h (by omega), ← HZE.out] at this
    exact this)
  have TC : Hid (∀ w, Calls Try.prog 12 #[.agg A, .agg B] w fun e w' => e = .returned (.int .i64 2) ∧ Below w.heap.size w w') := Lib.hid (fun w => by
    have := compare_any va vb w rfl rfl
    rw [show cmpV va vb = 2 by decide, ← HAE.out, ← HBE.out] at this
    exact this)
  have TJ : Hid (∀ w, Calls Try.prog 8 #[.agg A, .agg B] w fun e w' => e = .returned (.agg V) ∧ Below w.heap.size w w') := Lib.hid (fun w => by
    have := join_any va vb w rfl rfl
    rw [show jnV mx va vb = v11 by decide, ← HAE.out, ← HBE.out, ← HVE.out] at this
    exact this)
  have TK : Hid (∀ w, Calls Try.prog 10 #[.agg A, .agg B] w fun e w' => e = .returned (.agg Z) ∧ Below w.heap.size w w') := Lib.hid (fun w => by
    have := meet_any va vb w rfl rfl
    rw [show jnV mn va vb = noughts 16 by decide, ← HAE.out, ← HBE.out, ← HZE.out] at this
    exact this)
  have TH : Hid (∀ w, Calls Try.prog 14 #[.agg A, .agg #[.int .i64 0, .int .i64 1]] w fun e w' => e = .returned (.bool true) ∧ Below w.heap.size w w') := Lib.hid (fun w => by
    have := has_any va 0 1 w rfl
    rw [show hasV va 0 1 = true by decide, ← HAE.out] at this
    exact this)
  have TG : Hid (∀ w, Calls Try.prog 14 #[.agg A, .agg #[.int .i64 0, .int .i64 2]] w fun e w' => e = .returned (.bool false) ∧ Below w.heap.size w w') := Lib.hid (fun w => by
    have := has_any va 0 2 w rfl
    rw [show hasV va 0 2 = false by decide, ← HAE.out] at this
    exact this)
  have qA : ∀ w, (binOp .eql 23 (.agg A) (.agg A)).run Try.prog w = .ok (.bool true) w := fun w => by
    have := vec_eql va va rfl rfl w
    rw [decide_eq_true rfl, ← HAE.out] at this; exact this
  have qV : ∀ w, (binOp .eql 23 (.agg V) (.agg V)).run Try.prog w = .ok (.bool true) w := fun w => by
    have := vec_eql v11 v11 rfl rfl w
    rw [decide_eq_true rfl, ← HVE.out] at this; exact this
  have qZ : ∀ w, (binOp .eql 23 (.agg Z) (.agg Z)).run Try.prog w = .ok (.bool true) w := fun w => by
    have := vec_eql (noughts 16) (noughts 16) rfl rfl w
    rw [decide_eq_true rfl, ← HZE.out] at this; exact this
  have zS := va_cat
  obtain ⟨T, hT⟩ : ∃ T, T = catK va 16 := ⟨_, rfl⟩
  rw [← hT] at TP TR TX zS
  clear hT
  have zS2 : ((T.size : Int) == 16) = true := by rw [zS]; rfl
  have zT : T.size ≤ 100 := by omega
  clear zS
  have HQA := Lib.hid qA; have HQV := Lib.hid qV; have HQZ := Lib.hid qZ; have HZS := Lib.hid zS2
  clear qA qV qZ zS2
  go_enter Try.func16, Try.ntmps16
  go_wp2_with (first | (refine Go.Proofs.Ytommogkckooekaa.wpList_store_run (by rfl) 23 _ _ (by rfl) (by rfl) (by rfl) S1.out ?_) | (refine Go.Proofs.Ytommogkckooekaa.wpList_store_run (by rfl) 23 _ _ (by rfl) (by rfl) (by rfl) S2.out ?_) | (refine Go.Proofs.Ytommogkckooekaa.wpList_load_run (by rfl) 23 _ (by rfl) (by rfl) L3.out ?_))
  refine (TP.out _).mono ?_
  rintro e w4 ⟨rfl, hb⟩
  have HA4 := Lib.hid (HA3.out.keep hb); have HB4 := Lib.hid (HB3.out.keep hb); have HW4 := Lib.hid (below_step HW3.out (Nat.le_refl _) hb)
  clear hb
  go_wp2_with fail
  refine (TR.out _).mono ?_
  rintro e w5 ⟨rfl, hb⟩
  have HA5 := Lib.hid ((HA4.out.keep hb).keep (below_new w5 (.cells Z 23))); have HB5 := Lib.hid ((HB4.out.keep hb).keep (below_new w5 (.cells Z 23))); have HW5 := Lib.hid (below_step (below_step HW4.out (Nat.le_refl _) hb) (Nat.le_refl _) (below_new w5 (.cells Z 23)))
  have hq5 : Bk w5.heap.size IN (w5.alloc (.cells Z 23)) := by rw [HZE.out, HIN.out]; exact Bk.new w5 23 (ints (noughts 16)).toArray
  have hlt5 : w.heap.size + 1 < w5.heap.size := by have := (HB4.out.keep hb).1; omega
  clear hb
  have S5 : Hid ((Instr.storeAt 23 (.pointer (some ⟨w5.heap.size, 0, none⟩)) (.agg A)).run Try.prog (w5.alloc (.cells Z 23)) = .ok () ((w5.alloc (.cells Z 23)).setCells w5.heap.size 0 IA)) := Lib.hid (by rw [HAE.out]; exact st2 hq5 NN.out HIA.out LA.out)
  have HA6 := Lib.hid (put_other (vs := IA) HA5.out (show w.heap.size ≠ w5.heap.size by omega)); have HB6 := Lib.hid (put_other (vs := IA) HB5.out (show w.heap.size + 1 ≠ w5.heap.size by omega)); have HC6 := Lib.hid (put2 hq5 NN.out NA.out); have HW6 := Lib.hid (put_below (p := w5.heap.size) (vs := IA) HW5.out HW5.out.size (by omega))
  clear hq5
  go_wp2_with (refine Go.Proofs.Ytommogkckooekaa.wpList_store_run (by rfl) 23 _ _ (by rfl) (by rfl) (by rfl) S5.out ?_)
  obtain ⟨c5, hc5⟩ : ∃ c, c = w5.heap.size := ⟨_, rfl⟩
  obtain ⟨W6, hW6⟩ : ∃ W, W = (w5.alloc (.cells Z 23)).setCells w5.heap.size 0 IA := ⟨_, rfl⟩
  rw [← hW6] at HA6 HB6 HC6 HW6 ⊢
  rw [← hc5] at HC6 hlt5 ⊢
  have HCL := Lib.hid hlt5
  clear hW6 hc5 S5 HA5 HB5 HW5 hlt5
  refine (TX.out _).mono ?_
  rintro e w8 ⟨rfl, hb⟩
  have HA8 := Lib.hid ((HA6.out.keep hb).keep (below_new w8 (.cells Z 23))); have HB8 := Lib.hid ((HB6.out.keep hb).keep (below_new w8 (.cells Z 23))); have HC8 := Lib.hid ((HC6.out.keep hb).keep (below_new w8 (.cells Z 23))); have HW8 := Lib.hid (below_step (below_step HW6.out (Nat.le_refl _) hb) (Nat.le_refl _) (below_new w8 (.cells Z 23)))
  have hq8 : Bk w8.heap.size IN (w8.alloc (.cells Z 23)) := by rw [HZE.out, HIN.out]; exact Bk.new w8 23 (ints (noughts 16)).toArray
  have hlt8 : c5 < w8.heap.size := (HC6.out.keep hb).1
  have hlt9 := HCL.out
  clear hb
  have S8 : Hid ((Instr.storeAt 23 (.pointer (some ⟨w8.heap.size, 0, none⟩)) (.agg Z)).run Try.prog (w8.alloc (.cells Z 23)) = .ok () ((w8.alloc (.cells Z 23)).setCells w8.heap.size 0 IN)) := Lib.hid (by
    have := st2 hq8 NN.out HIN.out LZ.out
    rw [← HZE.out] at this; exact this)
  have HA9 := Lib.hid (put_other (vs := IN) HA8.out (show w.heap.size ≠ w8.heap.size by omega)); have HB9 := Lib.hid (put_other (vs := IN) HB8.out (show w.heap.size + 1 ≠ w8.heap.size by omega)); have HC9 := Lib.hid (put_other (vs := IN) HC8.out (show c5 ≠ w8.heap.size by omega)); have HW9 := Lib.hid (put_below (p := w8.heap.size) (vs := IN) HW8.out HW8.out.size (by omega))
  clear hq8
  go_wp2_with (refine Go.Proofs.Ytommogkckooekaa.wpList_store_run (by rfl) 23 _ _ (by rfl) (by rfl) (by rfl) S8.out ?_)
  obtain ⟨W9, hW9⟩ : ∃ W, W = (w8.alloc (.cells Z 23)).setCells w8.heap.size 0 IN := ⟨_, rfl⟩
  rw [← hW9] at HA9 HB9 HC9 HW9 ⊢
  clear hW9 S8 HA8 HB8 HC8 HW8 hlt8 hlt9
  refine (TM.out _).mono ?_
  rintro e w11 ⟨rfl, hb⟩
  have HA11 := Lib.hid (HA9.out.keep hb)
  have HB11 := Lib.hid (HB9.out.keep hb)
  have HC11 := Lib.hid (HC9.out.keep hb)
  have HW11 := Lib.hid (below_step HW9.out (Nat.le_refl _) hb)
  clear hb
  have LA11 : Hid ((Instr.loadAt 23 (.pointer (some ⟨w.heap.size, 0, none⟩))).run Try.prog w11 = .ok (.agg A) w11) := Lib.hid (by rw [HAE.out]; exact sl2 HA11.out HIA.out LA.out)
  have LB11 : Hid ((Instr.loadAt 23 (.pointer (some ⟨w.heap.size + 1, 0, none⟩))).run Try.prog w11 = .ok (.agg B) w11) := Lib.hid (by rw [HBE.out]; exact sl2 HB11.out HIB.out LB.out)
  go_wp2_with (first | (refine Go.Proofs.Ytommogkckooekaa.wpList_load_run (by rfl) 23 _ (by rfl) (by rfl) LA11.out ?_) | (refine Go.Proofs.Ytommogkckooekaa.wpList_load_run (by rfl) 23 _ (by rfl) (by rfl) LB11.out ?_))
  refine (TC.out _).mono ?_
  rintro e w12 ⟨rfl, hb⟩
  have HA12 := Lib.hid (HA11.out.keep hb)
  have HB12 := Lib.hid (HB11.out.keep hb)
  have HC12 := Lib.hid (HC11.out.keep hb)
  have HW12 := Lib.hid (below_step HW11.out (Nat.le_refl _) hb)
  clear hb
  have LA12 : Hid ((Instr.loadAt 23 (.pointer (some ⟨w.heap.size, 0, none⟩))).run Try.prog w12 = .ok (.agg A) w12) := Lib.hid (by rw [HAE.out]; exact sl2 HA12.out HIA.out LA.out)
  have LB12 : Hid ((Instr.loadAt 23 (.pointer (some ⟨w.heap.size + 1, 0, none⟩))).run Try.prog w12 = .ok (.agg B) w12) := Lib.hid (by rw [HBE.out]; exact sl2 HB12.out HIB.out LB.out)
  go_wp2_with (first | (refine Go.Proofs.Ytommogkckooekaa.wpList_load_want (by rfl) 23 _ (by rfl) (by rfl) LA12.out ?_) | (refine Go.Proofs.Ytommogkckooekaa.wpList_load_want (by rfl) 23 _ (by rfl) (by rfl) LB12.out ?_))
  refine (TJ.out _).mono ?_
  rintro e w13 ⟨rfl, hb⟩
  have qV := HQV.out
  have HA13 := Lib.hid (HA12.out.keep hb)
  have HB13 := Lib.hid (HB12.out.keep hb)
  have HC13 := Lib.hid (HC12.out.keep hb)
  have HW13 := Lib.hid (below_step HW12.out (Nat.le_refl _) hb)
  clear hb
  have LA13 : Hid ((Instr.loadAt 23 (.pointer (some ⟨w.heap.size, 0, none⟩))).run Try.prog w13 = .ok (.agg A) w13) := Lib.hid (by rw [HAE.out]; exact sl2 HA13.out HIA.out LA.out)
  have LB13 : Hid ((Instr.loadAt 23 (.pointer (some ⟨w.heap.size + 1, 0, none⟩))).run Try.prog w13 = .ok (.agg B) w13) := Lib.hid (by rw [HBE.out]; exact sl2 HB13.out HIB.out LB.out)
  go_wp2_with (first | (refine Go.Proofs.Ytommogkckooekaa.wpList_load_want (by rfl) 23 _ (by rfl) (by rfl) LA13.out ?_) | (refine Go.Proofs.Ytommogkckooekaa.wpList_load_want (by rfl) 23 _ (by rfl) (by rfl) LB13.out ?_))
  refine (TK.out _).mono ?_
  rintro e w14 ⟨rfl, hb⟩
  clear qV
  have qZ := HQZ.out; have qA := HQA.out; have zS2 := HZS.out
  have HA14 := Lib.hid (HA13.out.keep hb)
  have HB14 := Lib.hid (HB13.out.keep hb)
  have HC14 := Lib.hid (HC13.out.keep hb)
  have HW14 := Lib.hid (below_step HW13.out (Nat.le_refl _) hb)
  clear hb
  have LA14 : Hid ((Instr.loadAt 23 (.pointer (some ⟨w.heap.size, 0, none⟩))).run Try.prog w14 = .ok (.agg A) w14) := Lib.hid (by rw [HAE.out]; exact sl2 HA14.out HIA.out LA.out)
  have LC14 : Hid ((Instr.loadAt 23 (.pointer (some ⟨c5, 0, none⟩))).run Try.prog w14 = .ok (.agg A) w14) := Lib.hid (by rw [HAE.out]; exact sl2 HC14.out HIA.out LA.out)
  go_wp2_with (first | (refine Go.Proofs.Ytommogkckooekaa.wpList_load_want (by rfl) 23 _ (by rfl) (by rfl) LA14.out ?_) | (refine Go.Proofs.Ytommogkckooekaa.wpList_load_want (by rfl) 23 _ (by rfl) (by rfl) LC14.out ?_))
  refine (TH.out _).mono ?_
  rintro e w15 ⟨rfl, hb⟩
  have HA15 := Lib.hid (HA14.out.keep hb)
  have HB15 := Lib.hid (HB14.out.keep hb)
  have HC15 := Lib.hid (HC14.out.keep hb)
  have HW15 := Lib.hid (below_step HW14.out (Nat.le_refl _) hb)
  clear hb
  have LA15 : Hid ((Instr.loadAt 23 (.pointer (some ⟨w.heap.size, 0, none⟩))).run Try.prog w15 = .ok (.agg A) w15) := Lib.hid (by rw [HAE.out]; exact sl2 HA15.out HIA.out LA.out)
  go_wp2_with (first | (refine Go.Proofs.Ytommogkckooekaa.wpList_load_want (by rfl) 23 _ (by rfl) (by rfl) LA15.out ?_))
  refine (TG.out _).mono ?_
  rintro e w16 ⟨rfl, hb⟩
  have HA16 := Lib.hid (HA15.out.keep hb)
  have HB16 := Lib.hid (HB15.out.keep hb)
  have HC16 := Lib.hid (HC15.out.keep hb)
  have HW16 := Lib.hid (below_step HW15.out (Nat.le_refl _) hb)
  clear hb
  go_wp2
  go_ret
  exact ⟨rfl, HW16.out⟩
end Go.Proofs.Ytommogkckooekaa

