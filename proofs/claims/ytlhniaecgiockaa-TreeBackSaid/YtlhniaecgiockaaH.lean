/-
  The contracts of sides, and of Check and up, the code's and the law's own.
-/
import Derived.Test.YtlhniaecgiockaaG
set_option linter.unusedVariables false
set_option linter.unusedSimpArgs false
namespace Go.Proofs.Ytlhniaecgiockaa
open Go.RowKit
theorem infoB : (Try.prog.info? 4).map (fun i => (i.zero, i.size, i.bytes)) = some (some (.bool false), 1, 1) := by kernel_rfl
def boolC (b : Bool) : List Value := [.bool b]
set_option maxHeartbeats 8000000 in
theorem sides_any (n i : Nat) (w : World) (hi : i < n) (hn : n ≤ 1048576) : Calls Try.prog 21 #[.int .i64 n, .int .i64 i] w fun e w' => ∃ v, e = .returned v ∧ w'.ownsRow w.heap.size 4 1 v (sidesL n i).length ((sidesL n i).flatMap boolC) ∧ Below w.heap.size w w' := by
  obtain ⟨i0, hi0, hz0, hz1, hz2⟩ := info_parts infoB
  go_enter Try.func21, Try.ntmps21
  go_wp2
  go_loopw [0, 1, 5] (fun x y v wr => ∃ (m j : Nat) (out : List Bool), x = .int .i64 m ∧ y = .int .i64 j ∧ j < m ∧ m ≤ n ∧ sidesL n i = out ++ sidesL m j ∧ out.length ≤ n - m ∧ wr.ownsRow w.heap.size 4 1 v out.length (out.flatMap boolC) ∧ Below w.heap.size w wr) (fun x _ _ _ => (intOf x).toNat)
  case atStart => exact ⟨n, i, [], rfl, rfl, hi, Nat.le_refl _, rfl, by simp, own_nil _ _ _ _, Below.refl _ _⟩
  case round =>
    obtain ⟨m, j, out, rfl, rfl, hj, hm, hs, hol, ho, hbw⟩ := hrel
    have HO := Lib.hid ho; have HBW := Lib.hid hbw; have HPT := Lib.hid hs
    clear ho hbw hs
    by_cases hgt : 1 < m
    · have d1 : (1 : Int) < (m : Int) := by omega
      have hh1 := hf_pos m
      have hh2 := hf_lt (n := m) hgt
      have TH := Lib.hid (fun w => half_any m w hgt (by omega))
      have HL : Hid (j < hf m → sidesL m j = false :: sidesL (hf m) j) := Lib.hid (fun hlt => sidesL_left hgt hlt)
      have HR : Hid (¬ j < hf m → sidesL m j = true :: sidesL (m - hf m) (j - hf m)) := Lib.hid (fun hlt => sidesL_right hgt hlt)
      obtain ⟨h, hh⟩ : ∃ h, h = hf m := ⟨_, rfl⟩
      rw [← hh] at hh1 hh2 TH HL HR
      clear hh
      go_wp2_with fail
      refine (TH.out _).mono ?_
      rintro e w3 ⟨rfl, rfl⟩
      by_cases hlt : j < h
      · have d2 : ¬ (h : Int) ≤ (j : Int) := by omega
        have d3 : decide (h ≤ j) = false := decide_eq_false (by omega)
        have d4 : decide ((h : Int) ≤ (j : Int)) = false := decide_eq_false (by omega)
        have HPT2 : Hid (sidesL n i = (out ++ [false]) ++ sidesL h j) := Lib.hid (by
          rw [HPT.out, HL.out hlt]; simp)
        clear HL HR
        go_wp2_with (at_builtin; refine wpList_append_own _ rfl _ _ 43 rfl w.heap.size 4 i0 (.bool false) 1 1 Try.underlying43 hi0 hz0 hz1 hz2 rfl (by decide) _ _ _ rfl (HO.out.alloc _) ⟨_, 0, none⟩ 1 1 [.bool false] rfl rfl ?a1 ?a2 ?a3 ?a4 ?a5 ?_)
        case a1 => intro j u hj; exact new_cells _ _ _ j u hj
        case a2 => intro u hu; simp at hu; subst hu; rfl
        case a3 => unfold maxLen; omega
        case a4 => omega
        case a5 => have := HBW.out.size; simp; omega
        intro v5 w5 hown5 hg5 _
        have HB5 : Hid (Below w.heap.size w w5) := Lib.hid ((HBW.out.alloc HBW.out.size _).grown hg5 (by have := HBW.out.size; simp; omega) (fun q hq => (HO.out.lt q hq).1))
        have HO5 : Hid (w5.ownsRow w.heap.size 4 1 v5 (out.length + 1) ((out ++ [false]).flatMap boolC)) := Lib.hid (by simpa [boolC] using hown5)
        obtain ⟨O5, hO5⟩ : ∃ O5, O5 = out ++ [false] := ⟨_, rfl⟩
        rw [← hO5] at HPT2 HO5
        have hO6 : O5.length = out.length + 1 := by rw [hO5]; simp
        rw [← hO6] at HO5
        have HO6 := Lib.hid hO6
        clear hown5 hg5 hO5 hO6
        go_wp2
        go_roundw
        case rel => exact ⟨h, j, O5, by go_num, by go_num, by omega, by omega, HPT2.out, by rw [HO6.out]; omega, HO5.out, HB5.out⟩
        case measure => simp [intOf]; omega
      · have d2 : (h : Int) ≤ (j : Int) := by omega
        have d3 : decide (h ≤ j) = true := decide_eq_true (by omega)
        have d4 : decide ((h : Int) ≤ (j : Int)) = true := decide_eq_true (by omega)
        have HPT2 : Hid (sidesL n i = (out ++ [true]) ++ sidesL (m - h) (j - h)) := Lib.hid (by
          rw [HPT.out, HR.out hlt]; simp)
        clear HL HR
        go_wp2_with (at_builtin; refine wpList_append_own _ rfl _ _ 43 rfl w.heap.size 4 i0 (.bool false) 1 1 Try.underlying43 hi0 hz0 hz1 hz2 rfl (by decide) _ _ _ rfl (HO.out.alloc _) ⟨_, 0, none⟩ 1 1 [.bool true] rfl rfl ?b1 ?b2 ?b3 ?b4 ?b5 ?_)
        case b1 => intro j u hj; exact new_cells _ _ _ j u hj
        case b2 => intro u hu; simp at hu; subst hu; rfl
        case b3 => unfold maxLen; omega
        case b4 => omega
        case b5 => have := HBW.out.size; simp; omega
        intro v5 w5 hown5 hg5 _
        have HB5 : Hid (Below w.heap.size w w5) := Lib.hid ((HBW.out.alloc HBW.out.size _).grown hg5 (by have := HBW.out.size; simp; omega) (fun q hq => (HO.out.lt q hq).1))
        have HO5 : Hid (w5.ownsRow w.heap.size 4 1 v5 (out.length + 1) ((out ++ [true]).flatMap boolC)) := Lib.hid (by simpa [boolC] using hown5)
        obtain ⟨O5, hO5⟩ : ∃ O5, O5 = out ++ [true] := ⟨_, rfl⟩
        rw [← hO5] at HPT2 HO5
        have hO6 : O5.length = out.length + 1 := by rw [hO5]; simp
        rw [← hO6] at HO5
        have HO6 := Lib.hid hO6
        clear hown5 hg5 hO5 hO6
        go_wp2
        go_roundw
        case rel => exact ⟨m - h, j - h, O5, by go_num, by go_num, by omega, by omega, HPT2.out, by rw [HO6.out]; omega, HO5.out, HB5.out⟩
        case measure => simp [intOf]; omega
    · have d1 : ¬ (1 : Int) < (m : Int) := by omega
      have HE : Hid (sidesL n i = out) := Lib.hid (by rw [HPT.out, sidesL_one _ (by omega), List.append_nil])
      go_wp2
      go_ret
      refine ⟨_, rfl, ?_, HBW.out⟩
      rw [HE.out]
      exact HO.out
end Go.Proofs.Ytlhniaecgiockaa

