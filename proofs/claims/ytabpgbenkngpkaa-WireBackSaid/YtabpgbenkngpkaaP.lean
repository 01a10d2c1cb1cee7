/-
  The walk of WireBack.
-/
import Derived.Test.YtabpgbenkngpkaaL
import Derived.Test.YtabpgbenkngpkaaPl
set_option linter.unusedVariables false
set_option linter.unusedSimpArgs false
namespace Go.Proofs.Ytabpgbenkngpkaa
open Go.RowKit
theorem back_big (n : Int) (s : ByteArray) (a : Option Addr) (len cap : Nat) (w : World) (hb : 40 < len ∨ 1000 < s.size) : Calls Try.prog 5 #[.int .u32 n, .slice a len cap, .string s] w fun e w' => e = .returned (.bool true) ∧ Below w.heap.size w w' := by
  have hd : (40 : Int) < (len : Int) ∨ (¬ (40 : Int) < (len : Int) ∧ (1000 : Int) < (s.size : Int)) := by omega
  go_enter Try.func5, Try.ntmps5
  rcases hd with hd | ⟨hd, hd2⟩
  all_goals
    go_wp2_with fail
    refine (awake_any _).mono ?_
    rintro e w3 ⟨rfl, hb3⟩
    go_wp2
    go_ret
    exact ⟨rfl, hb3⟩
theorem back_walk (n : Nat) (s : ByteArray) (l : List ByteArray) (a : Option Addr) (cap : Nat) (w : World) (hn : n < 4294967296) (h1 : s.size ≤ 1000) (h2 : l.length ≤ 40) (hs : Sl strC 1 w a l) : Calls Try.prog 5 #[.int .u32 n, .slice a l.length cap, .string s] w fun e w' => e = .returned (.bool true) ∧ Below w.heap.size w w' := by
  have HS := Lib.hid hs
  clear hs
  have hd : ¬ (40 : Int) < (l.length : Int) := by omega
  have hd2 : ¬ (1000 : Int) < (s.size : Int) := by omega
  go_enter Try.func5, Try.ntmps5
  go_wp2
  go_loop [7] (fun i => ∃ k : Nat, i = .int .i64 k ∧ k ≤ l.length ∧ ∀ x ∈ l.take k, x.size ≤ 300) (fun i => l.length - (intOf i).toNat)
  case atStart => exact ⟨0, rfl, by omega, by simp⟩
  case round =>
    obtain ⟨k, rfl, hk, hall⟩ := hrel
    have HA := Lib.hid hall
    clear hall
    by_cases hlt : k < l.length
    · obtain ⟨b, o, rfl, hbl, hc⟩ := sl_str HS.out k hlt
      obtain ⟨Y, hY⟩ : ∃ Y, Y = l[k] := ⟨_, rfl⟩
      rw [← hY] at hc
      have HY := Lib.hid hY
      clear hY
      by_cases hy : 300 < Y.size
      · have f1 : (300 : Int) < (Y.size : Int) := by omega
        go_wp2_with fail
        refine (awake_any _).mono ?_
        rintro e w5 ⟨rfl, hb5⟩
        go_wp2
        go_ret
        exact ⟨rfl, hb5⟩
      · have f : ¬ (300 : Int) < (Y.size : Int) := by omega
        have HA2 : Hid (∀ x ∈ l.take (k + 1), x.size ≤ 300) := Lib.hid (by
          rw [take_next l k hlt]
          intro x hx
          rcases List.mem_append.1 hx with hx | hx
          · exact HA.out x hx
          · rw [List.mem_singleton.1 hx, ← HY.out]; omega)
        go_wp2
        exact ⟨⟨k + 1, vint (by omega), by omega, HA2.out⟩, by simp [intOf]; omega⟩
    · obtain rfl : k = l.length := by omega
      have hall := HA.out
      rw [List.take_length] at hall
      have hok : okT l := fun x hx => by have := hall x hx; omega
      have HN := Lib.hid (num_ok (m := n) (by omega) rfl)
      have HL := Lib.hid (listR_ok (l := l) (by
        rintro (h | ⟨x, hx, h⟩)
        · omega
        · have := hok x hx; omega))
      have hcs := catB_size l hok
      obtain ⟨A, hA⟩ : ∃ A, A = txt (nb n) := ⟨_, rfl⟩
      obtain ⟨B, hB⟩ : ∃ B, B = txt (nb l.length) ++ catB l := ⟨_, rfl⟩
      have hAs : A.size ≤ 8 := by rw [hA, txt_size]; exact nb_len8 (by omega)
      have hBs : B.size ≤ 2621768 := by
        have := nb_len8 (n := l.length) (by omega)
        rw [hB, ByteArray.size_append, txt_size]; omega
      have HO1 : Hid (numO (A ++ B) 0 = ((n : Int), B, 0)) := Lib.hid (by rw [hA]; exact numO_txt (by omega) B)
      have HO2 : Hid (lstO B 0 = (l, ⟨#[]⟩, 0)) := Lib.hid (by
        have := lstO_txt (l := l) (by omega) hok ⟨#[]⟩
        rw [← hB] at this
        rw [← this]
        congr 1
        apply ByteArray.ext
        simp)
      rw [← hA] at HN
      rw [← hB] at HL
      have s1 : (A ++ B).size ≤ 1099511627776 := by rw [ByteArray.size_append]; omega
      have s2 : B.size ≤ 1099511627776 := by omega
      have s3 : s.size ≤ 1099511627776 := by omega
      have d1 : ¬ ((l.length : Int) < (l.length : Int)) := by omega
      clear hA hB hcs hok hall
      have HS1 := Lib.hid s1
      clear s1
      go_wp2_with fail
      refine (num_nat n w (by omega)).mono ?_
      rintro e w1 ⟨rfl, hb1⟩
      rw [HN.out]
      have HT1 := Lib.hid (HS.out.keep hb1)
      have HB1 := Lib.hid hb1
      clear hb1
      go_wp2_with fail
      refine (list_put l a cap w1 HT1.out).mono ?_
      rintro e w2 ⟨rfl, hb2⟩
      rw [HL.out]
      have HB2 := Lib.hid (below_step HB1.out (Nat.le_refl _) hb2)
      clear hb2
      go_wp2_with fail
      refine (new_any (A ++ B) w2).mono ?_
      rintro e w3 ⟨rfl, hr3, hb3⟩
      have HB3 := Lib.hid (below_step HB2.out (Nat.le_refl _) hb3)
      have HR3 := Lib.hid hr3
      clear hb3 hr3
      go_wp2_with fail
      refine (new_any s w3).mono ?_
      rintro e w4 ⟨rfl, hr4, hb4⟩
      have HB4 := Lib.hid (below_step HB3.out (Nat.le_refl _) hb4)
      have HR4 := Lib.hid hr4
      have HR3b := Lib.hid (HR3.out.keep hb4)
      have hlt : w2.heap.size < w3.heap.size := HR3.out.1
      clear hb4 hr4
      have HLT := Lib.hid hlt
      clear hlt
      go_wp2_with fail
      refine (rd_num _ _ _ _ HS1.out HR3b.out).mono ?_
      rw [HO1.out]
      rintro e w5 ⟨rfl, hr5, hk5⟩
      go_wp2_with fail
      refine (rd_list _ _ _ _ s2 hr5).mono ?_
      rw [HO2.out]
      rintro e w6 ⟨⟨a6, c6, rfl, hcap6, hsl6, hnew6⟩, hr6, hk6⟩
      have hz6 : Rd w3.heap.size s 0 w6 := (HR4.out.kp hk5 (fun e => by have := HLT.out; omega)).kp hk6 (fun e => by have := HLT.out; omega)
      have hK6 : Kp (· = w2.heap.size) w4 w6 := hk5.trans hk6
      go_wp2_with fail
      refine (rd_num _ _ _ _ s3 hz6).mono ?_
      rintro e w7 ⟨rfl, hr7, hk7⟩
      have hr7b : Rd w2.heap.size ⟨#[]⟩ 0 w7 := hr6.kp hk7 (fun e => by have := HLT.out; omega)
      have hsl7 : Sl strC 1 w7 a6 l := sl_kp hsl6 hk7 (fun b o hab e => by
        have h1 := hnew6 b o hab
        have h2 := HR4.out.1
        have h3 := hk5.size
        omega)
      have hB7 : Below w.heap.size w w7 := HB4.out.trans ((hK6.below (Nat.le_trans HB4.out.size (Nat.le_refl _)) (fun k hk => by subst hk; exact HB2.out.size)).trans (hk7.below (Nat.le_trans HB4.out.size (by have := hK6.size; omega)) (fun k hk => by subst hk; exact HB3.out.size)))
      have HSL7 := Lib.hid hsl7
      have HSX := Lib.hid (HS.out.keep (w' := w7) (hB7))
      have HB7 := Lib.hid hB7
      clear hsl6 hk7 hK6 hk5 hk6 hr6 hr5 hz6 hsl7 hB7 hnew6
      go_wp2_with fail
      refine (err_any _ _ _ _ hr7).mono ?_
      rintro e w8 ⟨rfl, hx⟩
      obtain rfl : w7 = w8 := hx.symm
      clear hx
      have HR7 := Lib.hid hr7b
      clear hr7b hr7
      rcases readV_cases (bys s) with ⟨m, q, g, g1, g2, g3, g4⟩ | ⟨e, he, g⟩
      · have HM := Lib.hid (num_ok (m := m) (by omega) rfl)
        obtain ⟨hnm, hq⟩ := nb_of_read (bys_lt s) g g2
        rw [numO_ok g]
        obtain ⟨T, hT⟩ : ∃ T, T = txt (nb m) := ⟨_, rfl⟩
        have hTs : T.size ≤ s.size := by rw [hT, txt_size, hnm, List.length_take, ← bys_len]; omega
        have hTe : s.extract 0 T.size = T := by
          apply bys_inj
          rw [bys_extract, hT, bys_txt (nb_byte m), txt_size, hnm, List.drop_zero, List.length_take]
          congr 1
          omega
        rw [← hT] at HM
        have e5 := str_eq hTe
        have d5 : ¬ (s.size : Int) < (T.size : Int) := by omega
        clear g hnm hq hT hTe
        go_wp2_with fail
        refine (num_nat m w7 (by omega)).mono ?_
        rintro e w8 ⟨rfl, hb8⟩
        rw [HM.out]
        have HSL8 := Lib.hid (HSL7.out.keep hb8)
        have HSX8 := Lib.hid (HSX.out.keep hb8)
        have HB8 := Lib.hid (below_step HB7.out (Nat.le_refl _) hb8)
        have HR8 := Lib.hid (HR7.out.keep hb8)
        clear hb8
        go_wp2_with fail
        refine (texts_any l l a6 a c6 cap w8 HSL8.out HSX8.out (by omega)).mono ?_
        rintro e w9 ⟨rfl, n9, rfl⟩
        rw [decide_eq_true rfl]
        have HR9 : Hid (Rd w2.heap.size ⟨#[]⟩ 0 (w8.drewN n9)) := Lib.hid (HR8.out.keep (below_drewN (Below.refl _ _) _))
        go_wp2_with fail
        refine (done_any _ _ _ _ HR9.out).mono ?_
        rintro e w10 ⟨rfl, hx⟩
        obtain rfl := hx.symm
        clear hx
        unfold doneV
        rw [if_pos rfl, if_pos (show (⟨#[]⟩ : ByteArray).size = 0 from rfl)]
        go_wp2_with fail
        refine (awake_any _).mono ?_
        rintro e w11 ⟨rfl, hb11⟩
        go_wp2
        go_ret
        exact ⟨rfl, below_step (below_drewN HB8.out _) (Nat.le_refl _) hb11⟩
      · rw [numO_bad he g]
        have e5 : (e == 0) = false := by simp [he]
        have HSL8 := HSL7
        have HSX8 := HSX
        have HB8 := HB7
        have HR8 := HR7
        obtain ⟨w8, hw8⟩ : ∃ w8, w8 = w7 := ⟨_, rfl⟩
        rw [← hw8] at HSL8 HSX8 HB8 HR8 ⊢
        clear g hw8
        go_wp2_with fail
        refine (texts_any l l a6 a c6 cap w8 HSL8.out HSX8.out (by omega)).mono ?_
        rintro e w9 ⟨rfl, n9, rfl⟩
        rw [decide_eq_true rfl]
        have HR9 : Hid (Rd w2.heap.size ⟨#[]⟩ 0 (w8.drewN n9)) := Lib.hid (HR8.out.keep (below_drewN (Below.refl _ _) _))
        go_wp2_with fail
        refine (done_any _ _ _ _ HR9.out).mono ?_
        rintro e w10 ⟨rfl, hx⟩
        obtain rfl := hx.symm
        clear hx
        unfold doneV
        rw [if_pos rfl, if_pos (show (⟨#[]⟩ : ByteArray).size = 0 from rfl)]
        go_wp2_with fail
        refine (awake_any _).mono ?_
        rintro e w11 ⟨rfl, hb11⟩
        go_wp2
        go_ret
        exact ⟨rfl, below_step (below_drewN HB8.out _) (Nat.le_refl _) hb11⟩
theorem back_law (n : Int) (v : Value) (l : List ByteArray) (s : ByteArray) (w : World) (w0 : (Lit.int .u32 n).wf = true) (h : StrsOk l w v) (w1 : s.size ≤ 140737488351232) : Calls Try.prog 5 #[.int .u32 n, v, .string s] w fun e w' => e = .returned (.bool true) ∧ Below w.heap.size w w' := by
  obtain ⟨a, cap, rfl, _, _, hs, _⟩ := h
  obtain ⟨h0, h1⟩ := bounds_u32 w0
  obtain ⟨n, rfl⟩ := Int.eq_ofNat_of_zero_le h0
  by_cases hb : 40 < l.length ∨ 1000 < s.size
  · exact back_big n s a _ cap w hb
  · exact back_walk n s l a cap w (by omega) (by omega) (by omega) hs
end Go.Proofs.Ytabpgbenkngpkaa

