/-
  The law of VectorBytes.
-/
import Derived.Test.YtommogkckooekaaX2
import Derived.Test.YtommogkckooekaaV2
set_option linter.unusedVariables false
set_option linter.unusedSimpArgs false
namespace Go.Proofs.Ytommogkckooekaa
open Go.RowKit
theorem wpList_load_last {P : Program} {ops : Array Oper} {rest : List Oper} {o : Oper} {a : Act} {w : World} {Q : Exit → Act → World → Prop} (ty : TypeId) (x : Operand) (ho : o.op = .load ty x)
    {p v : Value} (hx : a.eval x = p) (hl : (Instr.loadAt ty p).run P w = .ok v w) (hgd : Region.wanted o (yielded ops a.tmps) = true) (h : wpList P ops Q rest (a.put o.dst v) w) : wpList P ops Q (o :: rest) a w := wpList_load_want hgd ty x ho hx hl h
set_option maxRecDepth 100000 in
theorem bytes_long (A : Array Value) (s : ByteArray) (w : World) (hs : 500 < s.size) : Calls Try.prog 4 #[.agg A, .string s] w fun e w' => e = .returned (.bool true) ∧ Below w.heap.size w w' := by
  have g1 : decide ((500 : Int) < (s.size : Int)) = true := decide_eq_true (by omega)
  have HB := Lib.hid (below_new w (.cells A 23))
  go_enter Try.func4, Try.ntmps4
  go_wp2_with fail
  refine (awake_any _).mono ?_
  rintro e w1 ⟨rfl, hb⟩
  have HB1 := Lib.hid (below_cons HB.out hb)
  clear hb
  go_wp2
  go_ret
  exact ⟨rfl, HB1.out⟩
set_option maxRecDepth 100000 in
set_option maxHeartbeats 32000000 in
theorem bytes_walk (V : List Int) (s : ByteArray) (w : World) (hV : V.length = 16) (hs : s.size ≤ 500) : Calls Try.prog 4 #[.agg (ints V).toArray, .string s] w fun e w' => e = .returned (.bool true) ∧ Below w.heap.size w w' := by
  have g1 : decide ((500 : Int) < (s.size : Int)) = false := decide_eq_false (by omega)
  have HCL := Lib.hid (rdV_len s)
  obtain ⟨PA, hPA⟩ : ∃ P, P = (if chkV V = 0 then catK V 16 else (⟨#[]⟩ : ByteArray)) := ⟨_, rfl⟩
  obtain ⟨E, hE⟩ : ∃ P, P = chkV V := ⟨_, rfl⟩
  have hPAs : PA.size ≤ 1099511627776 := by
    rw [hPA]
    split
    · next h => have := catK_size h 16 (by omega); omega
    · decide
  have HWL := Lib.hid (rdV_len PA)
  have TP : Hid (∀ W, Calls Try.prog 17 #[.agg (ints V).toArray] W fun e w' => e = .returned (.tuple #[.string PA, .int .i64 E]) ∧ Below W.heap.size W w') := Lib.hid (fun W => by rw [hPA, hE]; exact put_any V W hV)
  have TQ : Hid (∀ W, Calls Try.prog 18 #[.agg (ints V).toArray] W fun e w' => e = .returned (.tuple #[.string PA, .int .i64 E]) ∧ Below W.heap.size W w') := Lib.hid (fun W => by rw [hPA, hE]; exact rput_any V W hV)
  have TR : Hid (∀ W, Calls Try.prog 19 #[.string s] W fun e w' => e = .returned (.tuple #[.agg (ints (rdV s)).toArray, .int .i64 (rdE s)]) ∧ Below W.heap.size W w') := Lib.hid (fun W => read_any s W (by omega))
  have TS : Hid (∀ W, Calls Try.prog 20 #[.string s] W fun e w' => e = .returned (.tuple #[.agg (ints (rdV s)).toArray, .int .i64 (rdE s)]) ∧ Below W.heap.size W w') := Lib.hid (fun W => rread_any s W (by omega))
  have TX : Hid (∀ W, Calls Try.prog 19 #[.string PA] W fun e w' => e = .returned (.tuple #[.agg (ints (rdV PA)).toArray, .int .i64 (rdE PA)]) ∧ Below W.heap.size W w') := Lib.hid (fun W => read_any PA W hPAs)
  obtain ⟨T, hT⟩ : ∃ P, P = (if chkV (rdV s) = 0 then catK (rdV s) 16 else (⟨#[]⟩ : ByteArray)) := ⟨_, rfl⟩
  obtain ⟨K, hK⟩ : ∃ P, P = chkV (rdV s) := ⟨_, rfl⟩
  have TY : Hid (∀ W, Calls Try.prog 17 #[.agg (ints (rdV s)).toArray] W fun e w' => e = .returned (.tuple #[.string T, .int .i64 K]) ∧ Below W.heap.size W w') := Lib.hid (fun W => by rw [hT, hK]; exact put_any (rdV s) W HCL.out)
  have HEE : E = 0 → rdV PA = V ∧ rdE PA = 0 := fun h => by
    rw [hE] at h
    rw [hPA, if_pos h]
    exact ⟨(rd_back hV h).2, (rd_back hV h).1⟩
  have HGG : rdE s = 0 → T = s ∧ K = 0 := fun h => by
    obtain ⟨h1, h2⟩ := rd_cat h
    rw [hT, hK, if_pos h2]
    exact ⟨h1, h2⟩
  obtain ⟨C, hC⟩ : ∃ P, P = rdV s := ⟨_, rfl⟩
  obtain ⟨G, hG⟩ : ∃ P, P = rdE s := ⟨_, rfl⟩
  obtain ⟨D, hD⟩ : ∃ P, P = rdV PA := ⟨_, rfl⟩
  obtain ⟨I, hI⟩ : ∃ P, P = rdE PA := ⟨_, rfl⟩
  rw [← hC] at HCL TR TS TY
  rw [← hG] at TR TS HGG
  rw [← hD] at HWL TX HEE
  rw [← hI] at TX HEE
  clear hPA hE hPAs hT hK hC hG hD hI
  obtain ⟨IV, hIV⟩ : ∃ I, I = ints V := ⟨_, rfl⟩
  obtain ⟨AV, hAV⟩ : ∃ I, I = (ints V).toArray := ⟨_, rfl⟩
  obtain ⟨IC, hIC⟩ : ∃ I, I = ints C := ⟨_, rfl⟩
  obtain ⟨AC, hAC⟩ : ∃ I, I = (ints C).toArray := ⟨_, rfl⟩
  obtain ⟨ID, hID⟩ : ∃ I, I = ints D := ⟨_, rfl⟩
  obtain ⟨AD, hAD⟩ : ∃ I, I = (ints D).toArray := ⟨_, rfl⟩
  obtain ⟨IZ, hIZ⟩ : ∃ I, I = ints (noughts 16) := ⟨_, rfl⟩
  have HZL : Hid (IZ.length = 16) := Lib.hid (len2 hIZ rfl)
  have HB0 := Lib.hid (below_new w (.cells AV 23))
  have H0 : Hid (Bk w.heap.size IV (w.alloc (.cells AV 23))) := Lib.hid (by rw [hIV, hAV]; exact Bk.new w 23 (ints V).toArray)
  have LV : Hid (∀ (W : World) (p : Nat), Bk p IV W → (Instr.loadAt 23 (.pointer (some ⟨p, 0, none⟩))).run Try.prog W = .ok (.agg AV) W) := Lib.hid (fun W p h => by rw [hAV]; exact sl2 h hIV hV)
  have LC : Hid (∀ (W : World) (p : Nat), Bk p IC W → (Instr.loadAt 23 (.pointer (some ⟨p, 0, none⟩))).run Try.prog W = .ok (.agg AC) W) := Lib.hid (fun W p h => by rw [hAC]; exact sl2 h hIC HCL.out)
  have LD : Hid (∀ (W : World) (p : Nat), Bk p ID W → (Instr.loadAt 23 (.pointer (some ⟨p, 0, none⟩))).run Try.prog W = .ok (.agg AD) W) := Lib.hid (fun W p h => by rw [hAD]; exact sl2 h hID HWL.out)
  have HQC : Hid (∀ w, (binOp .eql 23 (.agg AC) (.agg AC)).run Try.prog w = .ok (.bool true) w) := Lib.hid (fun w => by
    have := vec_eql C C HCL.out HCL.out w
    rw [decide_eq_true rfl, ← hAC] at this; exact this)
  have HQV : Hid (E = 0 → ∀ w, (binOp .eql 23 (.agg AD) (.agg AV)).run Try.prog w = .ok (.bool true) w) := Lib.hid (fun h w => by
    obtain ⟨rfl, _⟩ := HEE h
    have := vec_eql D D hV hV w
    rw [decide_eq_true rfl, ← hAV] at this; rw [hAD, ← hAV]; exact this)
  have HEI : Hid (E = 0 → I = 0) := Lib.hid (fun h => (HEE h).2)
  have HGT : Hid (G = 0 → T = s) := Lib.hid (fun h => (HGG h).1)
  have HGK : Hid (G = 0 → K = 0) := Lib.hid (fun h => (HGG h).2)
  rw [← hAV] at TP TQ
  rw [← hAC] at TR TS TY
  rw [← hAD] at TX
  rw [← hAV]
  have HIV := Lib.hid hIV; have HAV := Lib.hid hAV; have HIC := Lib.hid hIC; have HAC := Lib.hid hAC; have HID := Lib.hid hID; have HAD := Lib.hid hAD; have HIZ := Lib.hid hIZ
  have HVL := Lib.hid hV
  have pp : (PA.toList == PA.toList) = true := by simp
  have ee : (E == E) = true := by simp
  have gg : (G == G) = true := by simp
  clear HEE HGG hIV hAV hIC hAC hID hAD hIZ hV hs
  go_enter Try.func4, Try.ntmps4
  go_wp2_with (refine Go.Proofs.Ytommogkckooekaa.wpList_load_run (by rfl) 23 _ (by rfl) (by rfl) (LV.out _ _ H0.out) ?_)
  refine (TP.out _).mono ?_
  rintro e w1 ⟨rfl, hb⟩
  have H1 := Lib.hid (H0.out.keep hb); have HB1 := Lib.hid (below_cons HB0.out hb)
  clear hb H0 HB0 g1
  go_wp2_with (refine Go.Proofs.Ytommogkckooekaa.wpList_load_run (by rfl) 23 _ (by rfl) (by rfl) (LV.out _ _ H1.out) ?_)
  refine (TQ.out _).mono ?_
  rintro e w2 ⟨rfl, hb⟩
  have H2 := Lib.hid (H1.out.keep hb); have HB2 := Lib.hid (below_cons HB1.out hb)
  clear hb H1 HB1
  go_wp2_with fail
  refine (TR.out _).mono ?_
  rintro e w3 ⟨rfl, hb⟩
  have H3 := Lib.hid (H2.out.keep hb); have HB3 := Lib.hid (below_cons HB2.out hb)
  clear hb H2 HB2
  go_wp2_with (refine wpList_alloc_vec (by rfl) rfl HIZ.out ?_)
  intro w4 pc hc hpc hb
  have hpcw : w.heap.size < pc := by have := H3.out.1; omega
  have H4 := Lib.hid (H3.out.keep hb); have HC4 := Lib.hid hc; have HB4 := Lib.hid (below_cons HB3.out hb)
  clear hc hb hpc H3 HB3
  go_wp2_with (refine wpList_store_vec (by rfl) (.tmp 9) (.tmp 34) (by rfl) (by rfl) (by rfl) HC4.out HZL.out HIC.out HAC.out HCL.out ?_)
  intro w5 hc hk
  have H5 := Lib.hid (H4.out.kp hk (by omega)); have HC5 := Lib.hid hc; have HB5 := Lib.hid (HB4.out.trans (hk.below HB4.out.size (fun j hj => by omega)))
  clear hc hk H4 HC4 HB4
  go_wp2_with fail
  refine (TS.out _).mono ?_
  rintro e w6 ⟨rfl, hb⟩
  have H6 := Lib.hid (H5.out.keep hb); have HC6 := Lib.hid (HC5.out.keep hb); have HB6 := Lib.hid (below_cons HB5.out hb)
  clear hb H5 HC5 HB5
  go_wp2_with (refine wpList_alloc_vec (by rfl) rfl HIZ.out ?_)
  intro w7 pd hd hpd hb
  have hpcd : pc < pd := by have := HC6.out.1; omega
  have H7 := Lib.hid (H6.out.keep hb); have HC7 := Lib.hid (HC6.out.keep hb); have HD7 := Lib.hid hd; have HB7 := Lib.hid (below_cons HB6.out hb)
  clear hd hb hpd H6 HC6 HB6
  go_wp2_with (refine wpList_store_vec (by rfl) (.tmp 11) (.tmp 39) (by rfl) (by rfl) (by rfl) HD7.out HZL.out HIC.out HAC.out HCL.out ?_)
  intro w8 hd hk
  have H8 := Lib.hid (H7.out.kp hk (by omega)); have HC8 := Lib.hid (HC7.out.kp hk (by omega)); have HD8 := Lib.hid hd; have HB8 := Lib.hid (HB7.out.trans (hk.below HB7.out.size (fun j hj => by omega)))
  clear hd hk H7 HC7 HD7 HB7
  go_wp2_with fail
  refine (TX.out _).mono ?_
  rintro e w9 ⟨rfl, hb⟩
  have H9 := Lib.hid (H8.out.keep hb); have HC9 := Lib.hid (HC8.out.keep hb); have HD9 := Lib.hid (HD8.out.keep hb); have HB9 := Lib.hid (below_cons HB8.out hb)
  clear hb H8 HC8 HD8 HB8
  go_wp2_with (refine wpList_alloc_vec (by rfl) rfl HIZ.out ?_)
  intro w10 pw hw hpw hb
  have hpdw : pd < pw := by have := HD9.out.1; omega
  have H10 := Lib.hid (H9.out.keep hb); have HC10 := Lib.hid (HC9.out.keep hb); have HD10 := Lib.hid (HD9.out.keep hb); have HW10 := Lib.hid hw; have HB10 := Lib.hid (below_cons HB9.out hb)
  clear hw hb hpw H9 HC9 HD9 HB9
  go_wp2_with (first | (refine wpList_store_vec (by rfl) (.tmp 13) (.tmp 44) (by rfl) (by rfl) (by rfl) HW10.out HZL.out HID.out HAD.out HWL.out ?_))
  intro w11 hw hk
  have H11 := Lib.hid (H10.out.kp hk (by omega)); have HC11 := Lib.hid (HC10.out.kp hk (by omega)); have HD11 := Lib.hid (HD10.out.kp hk (by omega)); have HW11 := Lib.hid hw; have HB11 := Lib.hid (HB10.out.trans (hk.below HB10.out.size (fun j hj => by omega)))
  clear hw hk H10 HC10 HD10 HW10 HB10
  go_wp2_with (refine Go.Proofs.Ytommogkckooekaa.wpList_load_run (by rfl) 23 _ (by rfl) (by rfl) (LC.out _ _ HC11.out) ?_)
  refine (TY.out _).mono ?_
  rintro e w12 ⟨rfl, hb⟩
  have H12 := Lib.hid (H11.out.keep hb); have HC12 := Lib.hid (HC11.out.keep hb); have HD12 := Lib.hid (HD11.out.keep hb); have HW12 := Lib.hid (HW11.out.keep hb); have HB12 := Lib.hid (below_cons HB11.out hb)
  clear hb H11 HC11 HD11 HW11 HB11
  have l1 := LV.out _ _ H12.out; have l2 := LC.out _ _ HC12.out; have l3 := LC.out _ _ HD12.out; have l4 := LD.out _ _ HW12.out
  have L1 := Lib.hid l1; have L2 := Lib.hid l2; have L3 := Lib.hid l3; have L4 := Lib.hid l4
  clear l1 l2 l3 l4
  have qC := HQC.out
  by_cases hE : E = 0
  · by_cases hG : G = 0
    · as_aux_lemma =>
      have qV := HQV.out hE
      have eE : (E != 0) = false := by rw [hE]; rfl
      have eI : (I == 0) = true := by rw [HEI.out hE]; rfl
      clear hE
      have eG : (G != 0) = false := by rw [hG]; rfl
      have eT : (T.toList == s.toList) = true := by rw [HGT.out hG]; simp
      have eK : (K == 0) = true := by rw [HGK.out hG]; rfl
      clear hG
      go_wp2_with (first | (refine Go.Proofs.Ytommogkckooekaa.wpList_load_last (p := .pointer (some ⟨pc, 0, none⟩)) 23 _ rfl (by rfl) L2.out (by rfl) ?_) | (refine Go.Proofs.Ytommogkckooekaa.wpList_load_last (p := .pointer (some ⟨pd, 0, none⟩)) 23 _ rfl (by rfl) L3.out (by rfl) ?_) | (refine Go.Proofs.Ytommogkckooekaa.wpList_load_last (p := .pointer (some ⟨pw, 0, none⟩)) 23 _ rfl (by rfl) L4.out (by rfl) ?_) | (refine Go.Proofs.Ytommogkckooekaa.wpList_load_last (p := .pointer (some ⟨w.heap.size, 0, none⟩)) 23 _ rfl (by rfl) L1.out (by rfl) ?_))
      refine (awake_any _).mono ?_
      rintro e w13 ⟨rfl, hb⟩
      have HB13 := Lib.hid (below_cons HB12.out hb)
      clear hb
      go_wp2
      go_ret
      exact ⟨rfl, HB13.out⟩
    · as_aux_lemma =>
      have qV := HQV.out hE
      have eE : (E != 0) = false := by rw [hE]; rfl
      have eI : (I == 0) = true := by rw [HEI.out hE]; rfl
      clear hE
      have eG : (G != 0) = true := bne_iff_ne.2 hG
      clear hG
      go_wp2_with (first | (refine Go.Proofs.Ytommogkckooekaa.wpList_load_last (p := .pointer (some ⟨pc, 0, none⟩)) 23 _ rfl (by rfl) L2.out (by rfl) ?_) | (refine Go.Proofs.Ytommogkckooekaa.wpList_load_last (p := .pointer (some ⟨pd, 0, none⟩)) 23 _ rfl (by rfl) L3.out (by rfl) ?_) | (refine Go.Proofs.Ytommogkckooekaa.wpList_load_last (p := .pointer (some ⟨pw, 0, none⟩)) 23 _ rfl (by rfl) L4.out (by rfl) ?_) | (refine Go.Proofs.Ytommogkckooekaa.wpList_load_last (p := .pointer (some ⟨w.heap.size, 0, none⟩)) 23 _ rfl (by rfl) L1.out (by rfl) ?_))
      refine (awake_any _).mono ?_
      rintro e w13 ⟨rfl, hb⟩
      have HB13 := Lib.hid (below_cons HB12.out hb)
      clear hb
      go_wp2
      go_ret
      exact ⟨rfl, HB13.out⟩
  · by_cases hG : G = 0
    · as_aux_lemma =>
      have eE : (E != 0) = true := bne_iff_ne.2 hE
      clear hE
      have eG : (G != 0) = false := by rw [hG]; rfl
      have eT : (T.toList == s.toList) = true := by rw [HGT.out hG]; simp
      have eK : (K == 0) = true := by rw [HGK.out hG]; rfl
      clear hG
      go_wp2_with (first | go_skip | (refine Go.Proofs.Ytommogkckooekaa.wpList_load_last (p := .pointer (some ⟨pc, 0, none⟩)) 23 _ rfl (by rfl) L2.out (by rfl) ?_) | (refine Go.Proofs.Ytommogkckooekaa.wpList_load_last (p := .pointer (some ⟨pd, 0, none⟩)) 23 _ rfl (by rfl) L3.out (by rfl) ?_))
      refine (awake_any _).mono ?_
      rintro e w13 ⟨rfl, hb⟩
      have HB13 := Lib.hid (below_cons HB12.out hb)
      clear hb
      go_wp2
      go_ret
      exact ⟨rfl, HB13.out⟩
    · as_aux_lemma =>
      have eE : (E != 0) = true := bne_iff_ne.2 hE
      clear hE
      have eG : (G != 0) = true := bne_iff_ne.2 hG
      clear hG
      go_wp2_with (first | go_skip | (refine Go.Proofs.Ytommogkckooekaa.wpList_load_last (p := .pointer (some ⟨pc, 0, none⟩)) 23 _ rfl (by rfl) L2.out (by rfl) ?_) | (refine Go.Proofs.Ytommogkckooekaa.wpList_load_last (p := .pointer (some ⟨pd, 0, none⟩)) 23 _ rfl (by rfl) L3.out (by rfl) ?_))
      refine (awake_any _).mono ?_
      rintro e w13 ⟨rfl, hb⟩
      have HB13 := Lib.hid (below_cons HB12.out hb)
      clear hb
      go_wp2
      go_ret
      exact ⟨rfl, HB13.out⟩
theorem bytes_law (u : Value) (_x : Unit) (s : ByteArray) (w : World) (hu : VecOk u) (hs : s.size ≤ 140737488351232) : Calls Try.prog 4 #[u, .string s] w fun e w' => e = .returned (.bool true) ∧ Below w.heap.size w w' := by
  obtain ⟨a, rfl, ha⟩ := hu
  by_cases h : s.size ≤ 500
  · exact bytes_walk a s w ha h
  · exact bytes_long _ s w (by omega)
end Go.Proofs.Ytommogkckooekaa

