/-
  The contract of the law's own Pad.
-/
import Derived.Test.YtanehgnpominiaaShH
set_option linter.unusedVariables false
set_option linter.unusedSimpArgs false
set_option maxRecDepth 100000
namespace Go.Proofs.Ytanehgnpominiaa
open Go.RowKit
theorem rpad_neg (n : Int) (w : World) (h : n < 0) : Calls Try.prog 64 #[.int .i64 n] w fun e w' => e = .returned (.string (padB n)) ∧ Below w.heap.size w w' := by
  rw [padB_neg h]
  go_enter Try.func64, Try.ntmps64
  go_wp2
  go_ret
  exact ⟨rfl, Below.refl _ _⟩
set_option maxRecDepth 100000 in
set_option maxHeartbeats 4000000 in
theorem rpad_nat (n : Nat) (w : World) (h : n ≤ 9223372036854775807) : Calls Try.prog 64 #[.int .i64 n] w fun e w' => e = .returned (.string (padB n)) ∧ Below w.heap.size w w' := by
  obtain ⟨i0, hi, hz0, hz1, hz2⟩ := info_parts infoB8
  have d0 : ¬ ((n : Int) < 0) := by omega
  have HPD := Lib.hid (padB_nat n)
  have HO : Hid (World.ownsRow (w.alloc (.cells #[.int .u8 128] 5)) w.heap.size 5 1 (.slice (some ⟨w.heap.size, 0, none⟩) 1 1) 1 (rowB [128])) := Lib.hid ⟨by simp [rowB], .inr ⟨w.heap.size, 1, _, rfl, Nat.le_refl _, Array.getElem?_push_size, by omega, by unfold maxLen; omega, rfl, rfl⟩⟩
  go_enter Try.func64, Try.ntmps64
  have hrm : Int.tmod (n : Int) 64 = ((n % 64 : Nat) : Int) := by rw [Int.tmod_eq_emod_of_nonneg (by omega)]; rfl
  obtain ⟨r, hr⟩ : ∃ r, r = n % 64 := ⟨_, rfl⟩
  rw [← hr] at hrm
  have hr64 : r < 64 := by omega
  obtain ⟨zz, hzz⟩ : ∃ z, z = zc n := ⟨_, rfl⟩
  have hzr : zz = (119 - r) % 64 := by rw [hzz, hr]; rfl
  have HZZ := Lib.hid hzz
  have HZR := Lib.hid hzr
  obtain ⟨m, hm⟩ : ∃ m, m = long8 n := ⟨_, rfl⟩
  have HM := Lib.hid hm
  have hml : m < 18446744073709551616 := by rw [hm]; exact Nat.mod_lt _ (by decide)
  have hmd : m = n * 8 % 18446744073709551616 := hm
  clear hr hzz hzr hm
  go_wp2
  go_loopw [3] (fun v wr => ∃ z : Nat, z ≤ zz ∧ wr.ownsRow w.heap.size 5 1 v (z + 1) (rowB (padP z)) ∧ Below w.heap.size w wr) (fun v _ => 100 - lenV v)
  case atStart => exact ⟨0, by omega, HO.out, below_new _ _⟩
  case round =>
    obtain ⟨z, hz, ho, hb⟩ := hrel
    obtain ⟨a, cap, rfl, hcap⟩ := own_shape ho
    have HO2 := Lib.hid ho
    have HB := Lib.hid hb
    have hzl : zz < 64 := by have := HZR.out; omega
    clear ho hb
    by_cases hlt : z < zz
    · obtain ⟨q, hq⟩ : ∃ q, q = (r + (z + 1) + 8) % 64 := ⟨_, rfl⟩
      have hq0 : q ≠ 0 := by rw [hq]; have := HZR.out; omega
      have t1 : Int.tmod ((r : Int) + ((z : Int) + 1) + 8) 64 = (q : Int) := by rw [Int.tmod_eq_emod_of_nonneg (by omega)]; omega
      have t2 : ((q : Int) == 0) = false := by simp [hq0]
      have t3 : ((q : Int) != 0) = true := by simp [hq0]
      clear hq hq0
      go_wp2_with (at_builtin; refine wpList_append_own _ rfl _ _ 76 rfl w.heap.size 5 i0 (.int .u8 0) 1 1 Try.underlying76 hi hz0 hz1 hz2 rfl (by decide) _ _ _ rfl (HO2.out.alloc _) ⟨_, 0, none⟩ 1 1 [.int .u8 0] rfl rfl ?a1 ?a2 ?a3 ?a4 ?a5 ?_)
      case a1 => intro j u hj; exact new_cells _ _ _ j u hj
      case a2 => intro u hu; simp at hu; subst hu; rfl
      case a3 => unfold maxLen; omega
      case a4 => omega
      case a5 => have := HB.out.size; simp; omega
      intro v5 w5 hown5 hg5 _
      have HB5 : Hid (Below w.heap.size w w5) := Lib.hid ((HB.out.alloc HB.out.size _).grown hg5 (by have := HB.out.size; simp; omega) (fun q hq => (HO2.out.lt q hq).1))
      have hown6 : w5.ownsRow w.heap.size 5 1 v5 (z + 1 + 1) (rowB (padP (z + 1))) := by rw [padP_snoc, ← rowB_snoc]; exact hown5
      have HLV : Hid (lenV v5 = z + 1 + 1) := Lib.hid (by obtain ⟨a, c, rfl, _⟩ := own_shape hown6; rfl)
      have HO6 := Lib.hid hown6
      clear hown5 hown6 hg5
      go_wp2
      go_roundw
      case rel => exact ⟨z + 1, by omega, HO6.out, HB5.out⟩
      case measure => rw [HLV.out]; show 100 - (z + 1 + 1) < 100 - (z + 1); omega
    · obtain rfl : z = zz := by omega
      have t1 : Int.tmod ((r : Int) + ((z : Int) + 1) + 8) 64 = 0 := by rw [Int.tmod_eq_emod_of_nonneg (by omega)]; have := HZR.out; omega
      go_wp2
      have eM : IntKind.u64.wrap ((n : Int) * 8) = (m : Int) := by
        rw [show IntKind.u64.wrap ((n : Int) * 8) = ((n : Int) * 8) % 18446744073709551616 by simp [IntKind.wrap, IntKind.bits, IntKind.signed]]
        omega
      clear t1 hmd
      have HPZ : Hid (padP z ++ be8 m 8 = padL n) := Lib.hid (by rw [HM.out, HZZ.out]; rfl)
      go_loopw [3, 4] (fun v s wr => ∃ j : Nat, j ≤ 8 ∧ s = .int .i64 (7 - (j : Int)) ∧ wr.ownsRow w.heap.size 5 1 v (z + 1 + j) (rowB (padP z ++ be8 m j)) ∧ Below w.heap.size w wr) (fun _ s _ => (intOf s + 1).toNat)
      case atStart => exact ⟨0, by omega, rfl, by have := HO2.out; simpa [be8] using this, HB.out⟩
      case round =>
        obtain ⟨j, hj, rfl, ho, hb⟩ := hrel
        obtain ⟨a, cap, rfl, hcap⟩ := own_shape ho
        have HO3 := Lib.hid ho
        have HB3 := Lib.hid hb
        clear ho hb
        by_cases hj8 : j < 8
        · obtain ⟨q, hq⟩ : ∃ q, q = 7 - j := ⟨_, rfl⟩
          have hQ : (7 - (j : Int)) = (q : Int) := by omega
          rw [hQ]
          obtain ⟨e, he⟩ : ∃ e, e = 8 * q := ⟨_, rfl⟩
          have hE : 8 * (q : Int) = (e : Int) := by omega
          have HBE := Lib.hid (be8_snoc m j e (by omega))
          have he56 : e ≤ 56 := by omega
          have hq7 : q ≤ 7 := by omega
          have HEJ : Hid (((q : Int) - 1) = 7 - ((j + 1 : Nat) : Int)) := Lib.hid (by omega)
          have d5 : (0 : Int) ≤ (e : Int) := by omega
          have d6 : (0 : Int) ≤ (q : Int) := by omega
          clear hQ
          have HEV : Hid ((m : Int) / 2 ^ e % 256 = ((m / 2 ^ e % 256 : Nat) : Int)) := Lib.hid (by simp)
          clear he hq
          go_wp2_with (at_builtin; refine wpList_append_own _ rfl _ _ 76 rfl w.heap.size 5 i0 (.int .u8 0) 1 1 Try.underlying76 hi hz0 hz1 hz2 rfl (by decide) _ _ _ rfl (HO3.out.alloc _) ⟨_, 0, none⟩ 1 1 [.int .u8 ((m : Int) / 2 ^ e % 256)] rfl rfl ?b1 ?b2 ?b3 ?b4 ?b5 ?_)
          case b1 => intro j u hj; exact new_cells _ _ _ j u hj
          case b2 => intro u hu; simp at hu; subst hu; rfl
          case b3 => unfold maxLen; omega
          case b4 => omega
          case b5 => have := HB3.out.size; simp; omega
          intro v5 w5 hown5 hg5 _
          have HB5 : Hid (Below w.heap.size w w5) := Lib.hid ((HB3.out.alloc HB3.out.size _).grown hg5 (by have := HB3.out.size; simp; omega) (fun q hq => (HO3.out.lt q hq).1))
          have hown6 : w5.ownsRow w.heap.size 5 1 v5 (z + 1 + (j + 1)) (rowB (padP z ++ be8 m (j + 1))) := by
            rw [HBE.out, ← List.append_assoc, ← rowB_snoc, ← HEV.out]; exact hown5
          have HO6 := Lib.hid hown6
          clear hown5 hown6 hg5
          go_wp2
          go_roundw
          case rel => exact ⟨j + 1, by omega, by rw [HEJ.out], HO6.out, HB5.out⟩
          case measure => simp [intOf]; try omega
        · obtain rfl : j = 8 := by omega
          rw [show (7 - ((8 : Nat) : Int)) = -1 from rfl]
          have hcv := conv_ownB HO3.out (by rw [List.length_append, padP_len]; simp [be8])
          rw [HPZ.out] at hcv
          go_wp2
          go_ret
          exact ⟨by rw [HPD.out]; rfl, HB3.out⟩
theorem rpad_any (n : Int) (w : World) (h : n ≤ 9223372036854775807) : Calls Try.prog 64 #[.int .i64 n] w fun e w' => e = .returned (.string (padB n)) ∧ Below w.heap.size w w' := by
  by_cases h0 : n < 0
  · exact rpad_neg n w h0
  · obtain ⟨m, rfl⟩ : ∃ m : Nat, n = m := ⟨n.toNat, by omega⟩
    exact rpad_nat m w (by omega)
end Go.Proofs.Ytanehgnpominiaa

