/-
  The law of PathClean.
-/
import Derived.Test.YtkpnhiafdfbogaaDoorE
set_option linter.unusedVariables false
set_option linter.unusedSimpArgs false
namespace Go.Proofs.YtkpnhiafdfbogaaDoor
open Go.RowKit
theorem cut_end : ∀ (l part : Bs), cutP part (l ++ [47]) = cutP part l ++ [[]]
  | [], part => by rw [List.nil_append, cutP_slash, cutP_nil, cutP_nil]; rfl
  | c :: r, part => by
    by_cases hc : c = 47
    · subst hc
      rw [List.cons_append, cutP_slash, cutP_slash, cut_end r []]; rfl
    · rw [List.cons_append, cutP_other _ _ hc, cutP_other _ _ hc, cut_end r _]
theorem join_none_same (s : ByteArray) : joinT s ⟨#[]⟩ = cleanT s := by
  have h1 : pfB ⟨#[]⟩ = false := rfl
  unfold joinT
  rw [if_neg (by rw [h1]; simp)]
  unfold cleanT cleanP
  have h2 : (s ++ (⟨#[47]⟩ : ByteArray) ++ ⟨#[]⟩).data.toList = s.data.toList ++ [47] := by
    rw [ByteArray.data_append, ByteArray.data_append, Array.toList_append, Array.toList_append]; simp
  have h3 : partsP (s.data.toList ++ [47]) = partsP s.data.toList := by
    unfold partsP
    rw [cut_end, List.foldl_append, List.foldl_cons, List.foldl_nil, stepP_dot _ (.inr rfl)]
  rw [h2, h3]
theorem clean_twice (s : ByteArray) : cleanT (cleanT s) = cleanT s := by
  unfold cleanT
  rw [data_toB, clean_clean]
set_option maxRecDepth 100000 in
set_option maxHeartbeats 8000000 in
theorem pclean_long (p : ByteArray) (w : World) (hm : GM w) (h : 200 < p.size) :
    Calls Tryd.prog 4 #[.string p] w fun e w' => e = .returned (.bool true) ∧ Below w.heap.size w w' := by
  have HM := Lib.hid hm
  have d1 : decide ((200 : Int) < (p.size : Int)) = true := decide_eq_true (by omega)
  clear hm h
  go_enter Tryd.func4, Tryd.ntmps4
  go_wp2_with fail
  refine (awake_any _ HM.out).mono ?_
  rintro e w1 ⟨rfl, hb⟩
  have HB1 := Lib.hid hb
  clear hb
  go_wp2
  go_ret
  exact ⟨rfl, HB1.out⟩
set_option maxRecDepth 100000 in
set_option maxHeartbeats 8000000 in
theorem pclean_walk (p : ByteArray) (w : World) (hm : GM w) (hp : p.size ≤ 200) :
    Calls Tryd.prog 4 #[.string p] w fun e w' => e = .returned (.bool true) ∧ Below w.heap.size w w' := by
  have HM := Lib.hid hm
  have d1 : decide ((200 : Int) < (p.size : Int)) = false := decide_eq_false (by omega)
  have hcs := cleanT_size p
  have T1 := Lib.hid (fun W h => clean_any p W (by omega) h)
  have T2 : Hid (∀ W, GM W → Calls Tryd.prog 10 #[.string (cleanT p)] W fun e w' => e = .returned (.string (cleanT p)) ∧ Below W.heap.size W w') := Lib.hid (fun W h => by
    have := clean_any (cleanT p) W (by omega) h
    rwa [clean_twice] at this)
  have T3 : Hid (∀ W, GM W → Calls Tryd.prog 11 #[.string p, .string ⟨#[]⟩] W fun e w' => e = .returned (.string (cleanT p)) ∧ Below W.heap.size W w') := Lib.hid (fun W h => by
    have := pjoin_any p ⟨#[]⟩ W (by omega) (by decide) h
    rwa [join_none_same] at this)
  obtain ⟨r, hr⟩ := clean_head p.data.toList
  have hpos : 0 < (cleanT p).size := by unfold cleanT; rw [toB_size, hr]; simp
  have h0 : (cleanT p)[0] = 47 := by
    have : (cleanT p).data.toList[0]? = some 47 := by unfold cleanT; rw [data_toB, hr]; rfl
    have h2 : (cleanT p).data.toList[0]? = some (cleanT p)[0] := by rw [List.getElem?_eq_getElem (by rw [length_data]; exact hpos)]; rfl
    rw [h2] at this
    simpa using this
  have HTI : Hid (∀ i (h : i + 1 < (cleanT p).size), (cleanT p)[i + 1] = 47 → ¬ (cleanT p)[i]'(by omega) = 47 ∧ i + 2 < (cleanT p).size) := Lib.hid (fun i h e => by
    have hl : (cleanP p.data.toList).length = (cleanT p).size := (toB_size _).symm
    have hg : ∀ j (hj : j < (cleanT p).size), (cleanT p)[j] = (cleanP p.data.toList)[j]'(by rw [hl]; exact hj) := fun j hj => by
      have h1 : (cleanT p).data.toList[j]? = some (cleanT p)[j] := by rw [List.getElem?_eq_getElem (by rw [length_data]; exact hj)]; rfl
      have h2 : (cleanT p).data.toList[j]? = some ((cleanP p.data.toList)[j]'(by rw [hl]; exact hj)) := by
        unfold cleanT
        rw [data_toB, List.getElem?_eq_getElem]
      rw [h1] at h2
      simpa using h2
    have hi : i + 1 < (cleanP p.data.toList).length := by rw [hl]; exact h
    have h9 := clean_tidy p.data.toList i hi (by rw [← hg _ h]; exact e)
    exact ⟨by rw [hg]; exact h9.1, by have := h9.2; omega⟩)
  obtain ⟨C, hC⟩ : ∃ C, C = cleanT p := ⟨_, rfl⟩
  have h1C : C.size ≤ 2 * p.size + 1 := by rw [hC]; exact hcs
  have hpC : 0 < C.size := by rw [hC]; exact hpos
  have h0C : C[0] = 47 := by subst hC; exact h0
  have HTC : Hid (∀ i (h : i + 1 < C.size), C[i + 1] = 47 → ¬ C[i]'(by omega) = 47 ∧ i + 2 < C.size) := by subst hC; exact HTI
  rw [← hC] at T1 T2 T3
  clear hC HTI h0 hpos hcs
  have e1 : C.toList.isEmpty = false := nonempty_of_pos hpC
  have e2 : ((C[0].toNat : Int) != 47) = false := u8_eq _ h0C
  clear hm hr h0C
  go_enter Tryd.func4, Tryd.ntmps4
  go_wp2_with fail
  refine (T1.out _ HM.out).mono ?_
  rintro e w1 ⟨rfl, hb⟩
  have HB1 := Lib.hid hb
  clear hb
  go_wp2_with fail
  refine (T2.out _ (HM.out.keep HB1.out)).mono ?_
  rintro e w2 ⟨rfl, hb⟩
  have HB2 := Lib.hid (below_cons HB1.out hb)
  clear hb
  go_wp2_with fail
  refine (T3.out _ (HM.out.keep HB2.out)).mono ?_
  rintro e w3 ⟨rfl, hb⟩
  have HB3 := Lib.hid (below_cons HB2.out hb)
  clear hb
  go_wp2
  go_loopw [4] (fun iv wr => ∃ i : Nat, iv = .int .i64 i ∧ 1 ≤ i ∧ i ≤ C.size ∧ wr = w3) (fun iv _ => C.size - (intOf iv).toNat)
  case atStart => exact ⟨1, rfl, by omega, by omega, rfl⟩
  case round =>
    obtain ⟨i, rfl, hi1, hi2, rfl⟩ := hrel
    by_cases hlt : i < C.size
    · obtain ⟨k, rfl⟩ : ∃ k, i = k + 1 := ⟨i - 1, by omega⟩
      have HT := Lib.hid (HTC.out k hlt)
      have hk0 : k < C.size := by omega
      have g1 : ((k + 1 : Nat) : Int) < (C.size : Int) := by omega
      have g2 : ((k + 1 : Nat) : Int) - 1 = (k : Int) := by omega
      have g0 : (k : Int) < (C.size : Int) := by omega
      obtain ⟨j, hj⟩ : ∃ j, j = k + 1 := ⟨_, rfl⟩
      by_cases hc : C[k + 1] = 47
      · obtain ⟨hc2, hk2⟩ := HT.out hc
        have f1 : ((C[k + 1].toNat : Int) == 47) = true := by rw [hc]; rfl
        have f2 : ((C[k].toNat : Int) == 47) = false := by
          have := u8_ne C[k] hc2
          rwa [bne, Bool.not_eq_true'] at this
        have f3 : (((k + 1 : Nat) : Int) == (C.size : Int) - 1) = false := by rw [beq_eq_false_iff_ne]; omega
        clear hc hc2 hj
        go_wp2
        go_roundw
        case rel => exact ⟨k + 2, by go_num, by omega, by omega, by first | trivial | rfl⟩
        case measure => simp [intOf]; omega
      · have f1 : ((C[k + 1].toNat : Int) == 47) = false := by
          have := u8_ne C[k + 1] hc
          rwa [bne, Bool.not_eq_true'] at this
        clear hc hj
        go_wp2
        go_roundw
        case rel => exact ⟨k + 2, by go_num, by omega, by omega, by first | trivial | rfl⟩
        case measure => simp [intOf]; omega
    · obtain rfl : C.size = i := by omega
      have hkk : ¬ (C.size : Int) < (C.size : Int) := by omega
      go_wp2_with fail
      refine (awake_any _ (HM.out.keep HB3.out)).mono ?_
      rintro e w4 ⟨rfl, hb⟩
      have HB4 := Lib.hid (below_cons HB3.out hb)
      clear hb
      go_wp2
      go_ret
      exact ⟨rfl, HB4.out⟩
theorem pclean_law (p : ByteArray) (w : World) (hm : GM w) (_hp : p.size ≤ 140737488351232) :
    Calls Tryd.prog 4 #[.string p] w fun e w' => e = .returned (.bool true) ∧ Below w.heap.size w w' := by
  by_cases h : p.size ≤ 200
  · exact pclean_walk p w hm h
  · exact pclean_long p w hm (by omega)
end Go.Proofs.YtkpnhiafdfbogaaDoor

