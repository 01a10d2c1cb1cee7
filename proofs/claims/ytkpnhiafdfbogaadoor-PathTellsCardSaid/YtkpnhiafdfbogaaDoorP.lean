/-
  The laws of PathTells and PathClean.
-/
import Derived.Test.YtkpnhiafdfbogaaDoorE
set_option linter.unusedVariables false
set_option linter.unusedSimpArgs false
namespace Go.Proofs.YtkpnhiafdfbogaaDoor
open Go.RowKit
set_option maxRecDepth 100000 in
set_option maxHeartbeats 4000000 in
theorem tells_long (a b : ByteArray) (w : World) (hm : GM w) (h : 200 < a.size ∨ 200 < b.size) :
    Calls Tryd.prog 3 #[.string a, .string b] w fun e w' => e = .returned (.bool true) ∧ Below w.heap.size w w' := by
  have HM := Lib.hid hm
  by_cases ha : 200 < a.size
  · have d1 : decide ((200 : Int) < (a.size : Int)) = true := decide_eq_true (by omega)
    clear hm h ha
    go_enter Tryd.func3, Tryd.ntmps3
    go_wp2_with fail
    refine (awake_any _ HM.out).mono ?_
    rintro e w1 ⟨rfl, hb⟩
    have HB1 := Lib.hid hb
    clear hb
    go_wp2
    go_ret
    exact ⟨rfl, HB1.out⟩
  · have d1 : decide ((200 : Int) < (a.size : Int)) = false := decide_eq_false (by omega)
    have d2 : decide ((200 : Int) < (b.size : Int)) = true := decide_eq_true (by omega)
    clear hm h ha
    go_enter Tryd.func3, Tryd.ntmps3
    go_wp2_with fail
    refine (awake_any _ HM.out).mono ?_
    rintro e w1 ⟨rfl, hb⟩
    have HB1 := Lib.hid hb
    clear hb
    go_wp2
    go_ret
    exact ⟨rfl, HB1.out⟩
theorem first_cases (b : ByteArray) : (b.toList.isEmpty = true ∧ pfB b = false) ∨ (∃ h : 0 < b.size, b.toList.isEmpty = false ∧ ((b[0].toNat : Int) == 47) = true ∧ pfB b = true) ∨ ∃ h : 0 < b.size, b.toList.isEmpty = false ∧ ((b[0].toNat : Int) == 47) = false ∧ pfB b = false := by
  by_cases h : 0 < b.size
  · right
    by_cases hc : b[0] = 47
    · left
      exact ⟨h, nonempty_of_pos h, by rw [hc]; rfl, by rw [pfB_at h, decide_eq_true hc]⟩
    · right
      refine ⟨h, nonempty_of_pos h, ?_, by rw [pfB_at h, decide_eq_false hc]⟩
      have := u8_ne b[0] hc
      rw [bne, Bool.not_eq_true'] at this
      exact this
  · left
    exact ⟨empty_of_zero (by omega), pfB_none (by omega)⟩
set_option maxRecDepth 100000 in
set_option maxHeartbeats 8000000 in
theorem tells_walk (a b : ByteArray) (w : World) (hm : GM w) (ha : a.size ≤ 200) (hb : b.size ≤ 200) :
    Calls Tryd.prog 3 #[.string a, .string b] w fun e w' => e = .returned (.bool true) ∧ Below w.heap.size w w' := by
  have HM := Lib.hid hm
  have d1 : decide ((200 : Int) < (a.size : Int)) = false := decide_eq_false (by omega)
  have d2 : decide ((200 : Int) < (b.size : Int)) = false := decide_eq_false (by omega)
  have T1 : Hid (∀ W, Calls Tryd.prog 6 #[.string (a ++ ⟨#[47]⟩ ++ b)] W fun e w' => e = .returned (.string (cleanT (a ++ ⟨#[47]⟩ ++ b))) ∧ Below W.heap.size W w') := Lib.hid (fun W => rclean_any _ W (by rw [size_app3]; omega))
  have T2 : Hid (∀ W, Calls Tryd.prog 6 #[.string b] W fun e w' => e = .returned (.string (cleanT b)) ∧ Below W.heap.size W w') := Lib.hid (fun W => rclean_any _ W (by omega))
  have T3 := Lib.hid (fun W h => parts_any a W (by omega) h)
  have T4 := Lib.hid (fun W => rparts_any a W (by omega))
  have T5 : Hid (∀ W a1 a2 c1 c2, Sl strC 1 W a1 (partsT a) → Sl strC 1 W a2 (partsT a) → Calls Tryd.prog 7 #[.slice a1 (partsT a).length c1, .slice a2 (partsT a).length c2] W fun e w' => e = .returned (.bool true) ∧ Below W.heap.size W w') := Lib.hid (fun W a1 a2 c1 c2 h1 h2 => by
    refine (texts_eq (partsT a) (partsT a) a1 a2 c1 c2 W h1 h2 ?_).mono ?_
    · unfold partsT
      rw [List.length_map]
      have := parts_len a.data.toList
      rw [length_data] at this
      omega
    · rintro e w' ⟨rfl, n, rfl⟩
      exact ⟨by rw [decide_eq_true rfl], below_drewN (Below.refl _ _) n⟩)
  have T6 := Lib.hid (fun W h => clean_any a W (by omega) h)
  have T7 := Lib.hid (fun W => rclean_any a W (by omega))
  have T8 := Lib.hid (fun W h => pjoin_any a b W (by omega) (by omega) h)
  have HFC : Hid ((b.toList.isEmpty = true ∧ joinT a b = cleanT (a ++ ⟨#[47]⟩ ++ b)) ∨ (∃ h : 0 < b.size, b.toList.isEmpty = false ∧ ((b[0].toNat : Int) == 47) = true ∧ joinT a b = cleanT b) ∨ ∃ h : 0 < b.size, b.toList.isEmpty = false ∧ ((b[0].toNat : Int) == 47) = false ∧ joinT a b = cleanT (a ++ ⟨#[47]⟩ ++ b)) := Lib.hid (by
    unfold joinT
    rcases first_cases b with ⟨h1, h2⟩ | ⟨h, h1, h2, h3⟩ | ⟨h, h1, h2, h3⟩
    · exact Or.inl ⟨h1, if_neg (by rw [h2]; simp)⟩
    · exact Or.inr (Or.inl ⟨h, h1, h2, if_pos h3⟩)
    · exact Or.inr (Or.inr ⟨h, h1, h2, if_neg (by rw [h3]; simp)⟩))
  clear hm
  have key : ∀ (Y : ByteArray) (W : World), Below w.heap.size w W → True := fun _ _ _ => trivial
  clear key
  go_enter Tryd.func3, Tryd.ntmps3
  go_wp2_with fail
  refine (T1.out _).mono ?_
  rintro e w1 ⟨rfl, hb1⟩
  have HB1 := Lib.hid hb1
  clear hb1
  rcases HFC.out with ⟨h1, hj⟩ | ⟨hz, h1, h2, hj⟩ | ⟨hz, h1, h2, hj⟩
  · rw [← hj]
    have HJ := Lib.hid hj
    clear hj
    go_wp2_with fail
    refine (T3.out _ (HM.out.keep HB1.out)).mono ?_
    rintro e w2 ⟨⟨a1, c1, rfl, _, hs1⟩, hb2⟩
    have HB2 := Lib.hid (below_cons HB1.out hb2); have HS1 := Lib.hid hs1
    clear hb2 hs1
    go_wp2_with fail
    refine (T4.out _).mono ?_
    rintro e w3 ⟨⟨a2, c2, rfl, _, hs2⟩, hb3⟩
    have HB3 := Lib.hid (below_cons HB2.out hb3); have HS2 := Lib.hid hs2; have HS1' := Lib.hid (HS1.out.keep hb3)
    clear hb3 hs2
    go_wp2_with fail
    refine (T5.out _ _ _ _ _ HS1'.out HS2.out).mono ?_
    rintro e w4 ⟨rfl, hb4⟩
    have HB4 := Lib.hid (below_cons HB3.out hb4)
    clear hb4
    go_wp2_with fail
    refine (T6.out _ (HM.out.keep HB4.out)).mono ?_
    rintro e w5 ⟨rfl, hb5⟩
    have HB5 := Lib.hid (below_cons HB4.out hb5)
    clear hb5
    go_wp2_with fail
    refine (T7.out _).mono ?_
    rintro e w6 ⟨rfl, hb6⟩
    have HB6 := Lib.hid (below_cons HB5.out hb6)
    clear hb6
    go_wp2_with fail
    refine (T8.out _ (HM.out.keep HB6.out)).mono ?_
    rintro e w7 ⟨rfl, hb7⟩
    have HB7 := Lib.hid (below_cons HB6.out hb7)
    clear hb7
    go_wp2_with fail
    refine (awake_any _ (HM.out.keep HB7.out)).mono ?_
    rintro e w8 ⟨rfl, hb8⟩
    have HB8 := Lib.hid (below_cons HB7.out hb8)
    clear hb8
    go_wp2
    go_ret
    exact ⟨rfl, HB8.out⟩
  · have HJ := Lib.hid hj
    clear hj
    go_wp2_with fail
    refine (T2.out _).mono ?_
    rintro e w1b ⟨rfl, hb1⟩
    rw [← HJ.out]
    have HB1b := Lib.hid (below_cons HB1.out hb1)
    clear hb1 HB1
    go_wp2_with fail
    refine (T3.out _ (HM.out.keep HB1b.out)).mono ?_
    rintro e w2 ⟨⟨a1, c1, rfl, _, hs1⟩, hb2⟩
    have HB2 := Lib.hid (below_cons HB1b.out hb2); have HS1 := Lib.hid hs1
    clear hb2 hs1
    go_wp2_with fail
    refine (T4.out _).mono ?_
    rintro e w3 ⟨⟨a2, c2, rfl, _, hs2⟩, hb3⟩
    have HB3 := Lib.hid (below_cons HB2.out hb3); have HS2 := Lib.hid hs2; have HS1' := Lib.hid (HS1.out.keep hb3)
    clear hb3 hs2
    go_wp2_with fail
    refine (T5.out _ _ _ _ _ HS1'.out HS2.out).mono ?_
    rintro e w4 ⟨rfl, hb4⟩
    have HB4 := Lib.hid (below_cons HB3.out hb4)
    clear hb4
    go_wp2_with fail
    refine (T6.out _ (HM.out.keep HB4.out)).mono ?_
    rintro e w5 ⟨rfl, hb5⟩
    have HB5 := Lib.hid (below_cons HB4.out hb5)
    clear hb5
    go_wp2_with fail
    refine (T7.out _).mono ?_
    rintro e w6 ⟨rfl, hb6⟩
    have HB6 := Lib.hid (below_cons HB5.out hb6)
    clear hb6
    go_wp2_with fail
    refine (T8.out _ (HM.out.keep HB6.out)).mono ?_
    rintro e w7 ⟨rfl, hb7⟩
    have HB7 := Lib.hid (below_cons HB6.out hb7)
    clear hb7
    go_wp2_with fail
    refine (awake_any _ (HM.out.keep HB7.out)).mono ?_
    rintro e w8 ⟨rfl, hb8⟩
    have HB8 := Lib.hid (below_cons HB7.out hb8)
    clear hb8
    go_wp2
    go_ret
    exact ⟨rfl, HB8.out⟩
  · rw [← hj]
    have HJ := Lib.hid hj
    clear hj
    go_wp2_with fail
    refine (T3.out _ (HM.out.keep HB1.out)).mono ?_
    rintro e w2 ⟨⟨a1, c1, rfl, _, hs1⟩, hb2⟩
    have HB2 := Lib.hid (below_cons HB1.out hb2); have HS1 := Lib.hid hs1
    clear hb2 hs1
    go_wp2_with fail
    refine (T4.out _).mono ?_
    rintro e w3 ⟨⟨a2, c2, rfl, _, hs2⟩, hb3⟩
    have HB3 := Lib.hid (below_cons HB2.out hb3); have HS2 := Lib.hid hs2; have HS1' := Lib.hid (HS1.out.keep hb3)
    clear hb3 hs2
    go_wp2_with fail
    refine (T5.out _ _ _ _ _ HS1'.out HS2.out).mono ?_
    rintro e w4 ⟨rfl, hb4⟩
    have HB4 := Lib.hid (below_cons HB3.out hb4)
    clear hb4
    go_wp2_with fail
    refine (T6.out _ (HM.out.keep HB4.out)).mono ?_
    rintro e w5 ⟨rfl, hb5⟩
    have HB5 := Lib.hid (below_cons HB4.out hb5)
    clear hb5
    go_wp2_with fail
    refine (T7.out _).mono ?_
    rintro e w6 ⟨rfl, hb6⟩
    have HB6 := Lib.hid (below_cons HB5.out hb6)
    clear hb6
    go_wp2_with fail
    refine (T8.out _ (HM.out.keep HB6.out)).mono ?_
    rintro e w7 ⟨rfl, hb7⟩
    have HB7 := Lib.hid (below_cons HB6.out hb7)
    clear hb7
    go_wp2_with fail
    refine (awake_any _ (HM.out.keep HB7.out)).mono ?_
    rintro e w8 ⟨rfl, hb8⟩
    have HB8 := Lib.hid (below_cons HB7.out hb8)
    clear hb8
    go_wp2
    go_ret
    exact ⟨rfl, HB8.out⟩
theorem tells_law (a b : ByteArray) (w : World) (hm : GM w) (_ha : a.size ≤ 140737488351232) (_hb : b.size ≤ 140737488351232) :
    Calls Tryd.prog 3 #[.string a, .string b] w fun e w' => e = .returned (.bool true) ∧ Below w.heap.size w w' := by
  by_cases h : a.size ≤ 200 ∧ b.size ≤ 200
  · exact tells_walk a b w hm h.1 h.2
  · exact tells_long a b w hm (by omega)
theorem cut_end : ∀ (l part : Bs), cutP part (l ++ [47]) = cutP part l ++ [[]]
  | [], part => by rw [List.nil_append, cutP_slash, cutP_nil, cutP_nil]; rfl
  | c :: r, part => by
    by_cases hc : c = 47
    · subst hc
      rw [List.cons_append, cutP_slash, cutP_slash, cut_end r []]; rfl
    · rw [List.cons_append, cutP_other _ _ hc, cutP_other _ _ hc, cut_end r _]
theorem join_none_same (s : ByteArray) : joinT s ⟨#[]⟩ = cleanT s := by
  have h1 : pfB ⟨#[]⟩ = false := rfl
  unfold joinT
  rw [if_neg (by rw [h1]; simp)]
  unfold cleanT cleanP
  have h2 : (s ++ (⟨#[47]⟩ : ByteArray) ++ ⟨#[]⟩).data.toList = s.data.toList ++ [47] := by
    rw [ByteArray.data_append, ByteArray.data_append, Array.toList_append, Array.toList_append]; simp
  have h3 : partsP (s.data.toList ++ [47]) = partsP s.data.toList := by
    unfold partsP
    rw [cut_end, List.foldl_append, List.foldl_cons, List.foldl_nil, stepP_dot _ (.inr rfl)]
  rw [h2, h3]
theorem clean_twice (s : ByteArray) : cleanT (cleanT s) = cleanT s := by
  unfold cleanT
  rw [data_toB, clean_clean]
end Go.Proofs.YtkpnhiafdfbogaaDoor

