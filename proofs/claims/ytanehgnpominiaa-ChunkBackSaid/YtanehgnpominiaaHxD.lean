/-
  The contract of hexa's Read.
-/
import Derived.Test.YtanehgnpominiaaHxC
set_option linter.unusedVariables false
set_option linter.unusedSimpArgs false
set_option maxRecDepth 100000
namespace Go.Proofs.Ytanehgnpominiaa
open Go.RowKit
theorem or_half (X Y : Nat) (hX : X < 16) (hY : Y < 16) : bits .or .u8 ((X : Int) * 16) (Y : Int) = ((16 * X + Y : Nat) : Int) := by
  have h1 := u8_or_nat (X * 16) Y (by omega) (by omega)
  rw [nat_join 4 (X * 16) Y (by omega) (by omega)] at h1
  rw [show ((X : Int) * 16) = ((X * 16 : Nat) : Int) by omega, h1]
  omega
def strLen : Value → Nat
  | .string x => x.size
  | _ => 0
def mapO (o : List Nat) (r : Option (List Nat)) : Option (List Nat) := r.map (o ++ ·)
theorem mapO_snoc (o : List Nat) (b : Nat) (r : Option (List Nat)) : mapO o (r.map (fun t => b :: t)) = mapO (o ++ [b]) r := by
  cases r with
  | none => rfl
  | some t => simp [mapO]
set_option maxHeartbeats 2000000 in
theorem read_any (s : ByteArray) (w : World) (hs : s.size ≤ 1099511627) : Calls Try.prog 58 #[.string s] w fun e w' => e = readE s ∧ Below w.heap.size w w' := by
  obtain ⟨i0, hi, hz0, hz1, hz2⟩ := info_parts infoB8
  by_cases hod : s.size % 2 = 0
  · obtain ⟨M, hM⟩ : ∃ M, M = s.size / 2 := ⟨_, rfl⟩
    have t1 : Int.tmod (s.size : Int) 2 = 0 := by rw [Int.tmod_eq_emod_of_nonneg (by omega)]; omega
    have t2 : Int.tdiv (s.size : Int) 2 = (M : Int) := by rw [Int.tdiv_eq_ediv_of_nonneg (by omega)]; omega
    have hMl : M ≤ 1099511627 := by omega
    obtain ⟨W, hmk, hown, hgr⟩ := run_make_own (P := Try.prog) w w.heap.size 76 5 i0 (.int .u8 0) 1 Try.underlying76 hi hz0 hz1 .i64 .i64 M (by rw [hz2]; omega) (by unfold maxLen; omega) (Nat.le_refl _)
    have HBW := Lib.hid (show Below w.heap.size w W from (Below.refl _ w).grown hgr (Nat.le_refl _) (fun q hq => by cases hq))
    have HOW := Lib.hid hown
    clear hown hgr hM
    have HRD : Hid (readE s = readE s) := Lib.hid rfl
    have hev : s.size = 2 * (s.size / 2) := by omega
    have HEV := Lib.hid hev
    clear hev
    go_enter Try.func58, Try.ntmps58
    go_wp2
    clear hmk
    go_loopw [0, 4] (fun xs v wr => ∃ (x : ByteArray) (o : List Nat) (m : Nat), xs = .string x ∧ x.size = 2 * m ∧ o.length + m = s.size / 2 ∧ wr.ownsRow w.heap.size 5 1 v o.length (rowB o) ∧ readL (byB s) = mapO o (readL (byB x)) ∧ Below w.heap.size w wr) (fun xs _ _ => strLen xs)
    case atStart => exact ⟨s, [], s.size / 2, rfl, HEV.out, by simp, HOW.out, (by unfold mapO; cases readL (byB s) <;> simp), HBW.out⟩
    case round =>
      obtain ⟨x, o, m, rfl, hxm, hol, ho, hrd, hb⟩ := hrel
      have HO := Lib.hid ho
      have HB := Lib.hid hb
      have HR := Lib.hid hrd
      clear ho hb hrd
      by_cases hz : x.size = 0
      · have e0 := empty_of_zero hz
        have hxe : byB x = [] := List.eq_nil_of_length_eq_zero (by rw [byB_len]; exact hz)
        have HRE : Hid (readE s = .returned (.tuple #[.string (txB o), .int .i64 0])) := Lib.hid (by
          unfold readE
          rw [readX_ok (l := o) (by rw [HR.out, hxe, readL]; simp [mapO])])
        have hcv := conv_ownB HO.out rfl
        clear hxe
        go_wp2
        go_ret2
        rw [HRE.out]
        exact ⟨rfl, HB.out⟩
      · have hxz : 2 ≤ x.size := by omega
        have e0 := nonempty_of_pos (b := x) (by omega)
        have htw := byB_two x hxz
        have d1 : (0 : Int) < (x.size : Int) := by omega
        have d2 : (1 : Int) < (x.size : Int) := by omega
        have hx0 := (x[0]'(by omega)).toNat_lt
        have hx1 := (x[1]'(by omega)).toNat_lt
        obtain ⟨c0, hc0⟩ : ∃ c, c = (x[0]'(by omega)).toNat := ⟨_, rfl⟩
        obtain ⟨c1, hc1⟩ : ∃ c, c = (x[1]'(by omega)).toNat := ⟨_, rfl⟩
        have g0 : ((x[0]'(by omega)).toNat : Int) = (c0 : Int) := by rw [hc0]
        have g1 : ((x[1]'(by omega)).toNat : Int) = (c1 : Int) := by rw [hc1]
        rw [← hc0] at hx0
        rw [← hc1] at hx1
        rw [← hc0, ← hc1] at htw
        have HTW := Lib.hid htw
        have T1 : Hid (∀ w, Calls Try.prog 70 #[.int .u8 (c0 : Int)] w fun e w' => e = halfR c0 ∧ Below w.heap.size w w') := Lib.hid (fun w => half_any c0 hx0 w)
        have T2 : Hid (∀ w, Calls Try.prog 70 #[.int .u8 (c1 : Int)] w fun e w' => e = halfR c1 ∧ Below w.heap.size w w') := Lib.hid (fun w => half_any c1 hx1 w)
        clear hc0 hc1 htw
        go_wp2_with fail
        refine (T1.out _).mono ?_
        rintro e w1 ⟨rfl, hb1⟩
        have HO1 := Lib.hid (own_kept HO.out hb1)
        have HB1 := Lib.hid (below_step HB.out (Nat.le_refl _) hb1)
        clear hb1
        cases hh0 : halfO c0 with
        | none =>
          rw [halfR_none hh0]
          have HRE : Hid (readE s = .returned (.tuple #[.string ⟨#[]⟩, .int .i64 5])) := Lib.hid (by
            unfold readE
            rw [readX_bad (by rw [HR.out, HTW.out, readL_bad1 hh0]; rfl)])
          clear hh0
          go_wp2_with fail
          refine (T2.out _).mono ?_
          rintro e w2 ⟨rfl, hb2⟩
          have HB2 := Lib.hid (below_step HB1.out (Nat.le_refl _) hb2)
          clear hb2
          cases hh1 : halfO c1 with
          | none =>
            rw [halfR_none hh1]
            clear hh1
            go_wp2
            go_ret2
            rw [HRE.out]
            exact ⟨rfl, HB2.out⟩
          | some Y =>
            rw [halfR_some hh1]
            clear hh1
            go_wp2
            go_ret2
            rw [HRE.out]
            exact ⟨rfl, HB2.out⟩
        | some X =>
          rw [halfR_some hh0]
          have hX := (halfO_some hh0).1
          go_wp2_with fail
          refine (T2.out _).mono ?_
          rintro e w2 ⟨rfl, hb2⟩
          have HO2 := Lib.hid (own_kept HO1.out hb2)
          have HB2 := Lib.hid (below_step HB1.out (Nat.le_refl _) hb2)
          clear hb2
          cases hh1 : halfO c1 with
          | none =>
            rw [halfR_none hh1]
            have HRE : Hid (readE s = .returned (.tuple #[.string ⟨#[]⟩, .int .i64 5])) := Lib.hid (by
              unfold readE
              rw [readX_bad (by rw [HR.out, HTW.out, readL_bad2 hh1]; rfl)])
            clear hh1 hh0
            go_wp2
            go_ret2
            rw [HRE.out]
            exact ⟨rfl, HB2.out⟩
          | some Y =>
            rw [halfR_some hh1]
            have hY := (halfO_some hh1).1
            have HRN : Hid (readL (byB s) = mapO (o ++ [16 * X + Y]) (readL (byB (x.extract 2 x.size)))) := Lib.hid (by
              rw [HR.out, HTW.out, readL_ok hh0 hh1, mapO_snoc])
            clear hh1 hh0
            have u1 : IntKind.u8.wrap ((X : Int) * 16) = (X : Int) * 16 := by rw [IntKind.wrap_u8']; omega
            have u2 := or_half X Y hX hY
            have hes : (x.extract 2 x.size).size = 2 * (m - 1) := by rw [ByteArray.size_extract]; omega
            have hol' : o.length ≤ 1099511627 := by omega
            go_wp2_with (at_builtin; refine wpList_append_own _ rfl _ _ 76 rfl w.heap.size 5 i0 (.int .u8 0) 1 1 Try.underlying76 hi hz0 hz1 hz2 rfl (by decide) _ _ _ rfl (HO2.out.alloc _) ⟨_, 0, none⟩ 1 1 [.int .u8 ((16 * X + Y : Nat) : Int)] rfl rfl ?a1 ?a2 ?a3 ?a4 ?a5 ?_)
            case a1 => intro j u hj; refine new_cells _ _ _ j u ?_; rw [← hj]; try simp [u1, u2]
            case a2 => intro u hu; simp at hu; subst hu; rfl
            case a3 => unfold maxLen; omega
            case a4 => omega
            case a5 => have := HB2.out.size; simp; omega
            intro v5 w5 hown5 hg5 _
            have HB5 : Hid (Below w.heap.size w w5) := Lib.hid ((HB2.out.alloc HB2.out.size _).grown hg5 (by have := HB2.out.size; simp; omega) (fun q hq => (HO2.out.lt q hq).1))
            have HO5 : Hid (w5.ownsRow w.heap.size 5 1 v5 (o ++ [16 * X + Y]).length (rowB (o ++ [16 * X + Y]))) := Lib.hid (by
              rw [rowB_app, List.length_append]; exact hown5)
            clear hown5 hg5
            go_wp2
            go_roundw
            case rel => exact ⟨x.extract 2 x.size, o ++ [16 * X + Y], m - 1, (by rw [hxm]), hes, by simp; omega, HO5.out, HRN.out, HB5.out⟩
            case measure => simp only [strLen, ByteArray.size_extract]; omega
  · have t1 : Int.tmod (s.size : Int) 2 = 1 := by rw [Int.tmod_eq_emod_of_nonneg (by omega)]; omega
    have HRE : Hid (readE s = .returned (.tuple #[.string ⟨#[]⟩, .int .i64 5])) := Lib.hid (by
      unfold readE
      rw [readX_bad (readL_odd (s.size / 2) _ (by rw [byB_len]; omega))])
    go_enter Try.func58, Try.ntmps58
    go_wp2
    go_ret2
    rw [HRE.out]
    exact ⟨rfl, Below.refl _ _⟩
end Go.Proofs.Ytanehgnpominiaa

