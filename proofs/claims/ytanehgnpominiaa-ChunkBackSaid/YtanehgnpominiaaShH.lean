/-
  The contracts of sha's Pad and the law's own Pad: what comes behind so many bytes.
-/
import Derived.Test.YtanehgnpominiaaShA
import Derived.Test.YtanehgnpominiaaRows2
import Derived.Test.YtanehgnpominiaaOwn
import Derived.WalkMore
set_option linter.unusedVariables false
set_option linter.unusedSimpArgs false
set_option maxRecDepth 100000
namespace Go.Proofs.Ytanehgnpominiaa
open Go.RowKit
theorem infoB8 : (Try.prog.info? 5).map (fun i => (i.zero, i.size, i.bytes)) = some (some (.int .u8 0), 1, 1) := by kernel_rfl
def txB (bs : List Nat) : ByteArray := ⟨(bs.map UInt8.ofNat).toArray⟩
theorem txB_size (l : List Nat) : (txB l).size = l.length := by
  show (txB l).data.size = _
  simp [txB]
theorem byB_txB {l : List Nat} (h : ∀ c ∈ l, c < 256) : byB (txB l) = l := by
  simp only [byB, txB, List.map_map]
  conv => rhs; rw [← List.map_id l]
  apply List.map_congr_left
  intro c hc
  have := h c hc
  simp only [Function.comp_apply, id]
  rw [UInt8.toNat_ofNat']
  omega
theorem txB_byB (s : ByteArray) : txB (byB s) = s := by
  apply ByteArray.ext
  simp only [byB, txB, List.map_map]
  have : (UInt8.ofNat ∘ fun x => x.toNat) = (id : UInt8 → UInt8) := by funext x; simp
  rw [this, List.map_id]
theorem byB_app (a b : ByteArray) : byB (a ++ b) = byB a ++ byB b := by simp [byB]
def rowB (bs : List Nat) : List Value := bs.map fun (b : Nat) => Value.int .u8 (b : Int)
theorem rowB_len (bs : List Nat) : (rowB bs).length = bs.length := by simp [rowB]
theorem rowB_app (a b : List Nat) : rowB (a ++ b) = rowB a ++ rowB b := by simp [rowB]
theorem conv_ownB {w : World} {B n : Nat} {v : Value} {bs : List Nat} (h : w.ownsRow B 5 1 v n (rowB bs)) (hn : n = bs.length) : (convert 76 9 v).run Try.prog w = .ok (.string (txB bs)) w := by
  subst hn
  have h2 := h
  obtain ⟨_, ⟨rfl, h0⟩ | ⟨g, cap, cur, rfl, hb, hg, _⟩⟩ := h
  · obtain rfl : bs = [] := List.eq_nil_of_length_eq_zero h0
    exact run_convert_bytes_nil (P := Try.prog) w 76 5 Try.underlying76 Try.underlying5 0 0 9 Try.underlying9
  · have := run_convert_bytes_arg (P := Try.prog) w 76 5 Try.underlying76 Try.underlying5 g 0 bs.length cap (bs.map fun (b : Nat) => (b : Int)) (by simp) (fun i hi => by
      have := h2.cells (g := g) rfl i (.int .u8 (bs[i] : Int)) (by simp [rowB, hi])
      rw [Addr.add_lit] at this
      rw [this]
      simp [List.getD_eq_getElem?_getD, hi]) 9 Try.underlying9
    rw [this]
    congr 2
    apply ByteArray.ext
    simp [strOfNums, txB, Function.comp_def]
def zc (n : Nat) : Nat := (119 - n % 64) % 64
def long8 (n : Nat) : Nat := n * 8 % 18446744073709551616
def be8 (m : Nat) (j : Nat) : List Nat := ([56, 48, 40, 32, 24, 16, 8, 0].map fun e => m / 2 ^ e % 256).take j
def padL (n : Nat) : List Nat := 128 :: List.replicate (zc n) 0 ++ be8 (long8 n) 8
def padB (n : Int) : ByteArray := if n < 0 then ⟨#[]⟩ else txB (padL n.toNat)
theorem padB_neg {n : Int} (h : n < 0) : padB n = ⟨#[]⟩ := by unfold padB; rw [if_pos h]
theorem padB_nat (n : Nat) : padB n = txB (padL n) := by unfold padB; rw [if_neg (by omega)]; rfl
theorem padL_len (n : Nat) : (padL n).length = 9 + zc n := by simp [padL, be8]; omega
theorem padL_mod (n : Nat) : (n + (padL n).length) % 64 = 0 := by rw [padL_len]; unfold zc; omega
theorem padL_le (n : Nat) : (padL n).length ≤ 72 := by rw [padL_len]; unfold zc; omega
theorem padL_byte (n : Nat) : ∀ c ∈ padL n, c < 256 := by
  intro c hc
  simp only [padL, be8, List.mem_append, List.mem_cons, List.mem_replicate] at hc
  rcases hc with (rfl | ⟨_, rfl⟩) | hc
  · decide
  · decide
  · have := List.mem_of_mem_take hc
    obtain ⟨e, _, rfl⟩ := List.mem_map.1 this
    exact Nat.mod_lt _ (by decide)
theorem be8_snoc (m j e : Nat) (h : e + 8 * j = 56) : be8 m (j + 1) = be8 m j ++ [m / 2 ^ e % 256] := by
  unfold be8
  rcases (show j = 0 ∨ j = 1 ∨ j = 2 ∨ j = 3 ∨ j = 4 ∨ j = 5 ∨ j = 6 ∨ j = 7 by omega) with rfl | rfl | rfl | rfl | rfl | rfl | rfl | rfl
  · obtain rfl : e = 56 := by omega
    rfl
  · obtain rfl : e = 48 := by omega
    rfl
  · obtain rfl : e = 40 := by omega
    rfl
  · obtain rfl : e = 32 := by omega
    rfl
  · obtain rfl : e = 24 := by omega
    rfl
  · obtain rfl : e = 16 := by omega
    rfl
  · obtain rfl : e = 8 := by omega
    rfl
  · obtain rfl : e = 0 := by omega
    rfl
theorem own_shape {w : World} {B n : Nat} {e : TypeId} {size : Nat} {v : Value} {xs : List Value} (h : w.ownsRow B e size v n xs) : ∃ a cap, v = .slice a n cap ∧ n ≤ cap := by
  obtain ⟨_, ⟨rfl, h0⟩ | ⟨g, cap, cur, rfl, hb, hg, hn, _⟩⟩ := h
  · exact ⟨none, 0, by rw [h0], by omega⟩
  · exact ⟨_, cap, rfl, hn⟩
def lenV : Value → Nat
  | .slice _ n _ => n
  | _ => 0
/-- The bytes behind so many ones: the first one, noughts, and some of the last eight. -/
def padP (z : Nat) : List Nat := 128 :: List.replicate z 0
theorem padP_snoc (z : Nat) : padP (z + 1) = padP z ++ [0] := by simp [padP, List.replicate_succ']
theorem padP_len (z : Nat) : (padP z).length = z + 1 := by simp [padP]
theorem rowB_snoc (bs : List Nat) (b : Nat) : rowB bs ++ [Value.int .u8 (b : Int)] = rowB (bs ++ [b]) := by simp [rowB]
theorem pad_neg (n : Int) (w : World) (h : n < 0) : Calls Try.prog 61 #[.int .i64 n] w fun e w' => e = .returned (.string (padB n)) ∧ Below w.heap.size w w' := by
  rw [padB_neg h]
  go_enter Try.func61, Try.ntmps61
  go_wp2
  go_ret
  exact ⟨rfl, Below.refl _ _⟩
set_option maxRecDepth 100000 in
set_option maxHeartbeats 4000000 in
theorem pad_nat (n : Nat) (w : World) (h : n ≤ 9223372036854775807) : Calls Try.prog 61 #[.int .i64 n] w fun e w' => e = .returned (.string (padB n)) ∧ Below w.heap.size w w' := by
  obtain ⟨i0, hi, hz0, hz1, hz2⟩ := info_parts infoB8
  have d0 : ¬ ((n : Int) < 0) := by omega
  have HPD := Lib.hid (padB_nat n)
  have hmk : (Instr.makeSlice 76 (.int .i64 1) (.int .i64 73)).run Try.prog w = .ok (.slice (some ⟨w.heap.size, 0, none⟩) 1 73) (w.alloc (.cells #[.int .u8 0, .int .u8 0, .int .u8 0, .int .u8 0, .int .u8 0, .int .u8 0, .int .u8 0, .int .u8 0, .int .u8 0, .int .u8 0, .int .u8 0, .int .u8 0, .int .u8 0, .int .u8 0, .int .u8 0, .int .u8 0, .int .u8 0, .int .u8 0, .int .u8 0, .int .u8 0, .int .u8 0, .int .u8 0, .int .u8 0, .int .u8 0, .int .u8 0, .int .u8 0, .int .u8 0, .int .u8 0, .int .u8 0, .int .u8 0, .int .u8 0, .int .u8 0, .int .u8 0, .int .u8 0, .int .u8 0, .int .u8 0, .int .u8 0, .int .u8 0, .int .u8 0, .int .u8 0, .int .u8 0, .int .u8 0, .int .u8 0, .int .u8 0, .int .u8 0, .int .u8 0, .int .u8 0, .int .u8 0, .int .u8 0, .int .u8 0, .int .u8 0, .int .u8 0, .int .u8 0, .int .u8 0, .int .u8 0, .int .u8 0, .int .u8 0, .int .u8 0, .int .u8 0, .int .u8 0, .int .u8 0, .int .u8 0, .int .u8 0, .int .u8 0, .int .u8 0, .int .u8 0, .int .u8 0, .int .u8 0, .int .u8 0, .int .u8 0, .int .u8 0, .int .u8 0, .int .u8 0] 5)) := by kernel_rfl
  have HO : Hid (World.ownsRow (w.alloc (.cells #[.int .u8 128, .int .u8 0, .int .u8 0, .int .u8 0, .int .u8 0, .int .u8 0, .int .u8 0, .int .u8 0, .int .u8 0, .int .u8 0, .int .u8 0, .int .u8 0, .int .u8 0, .int .u8 0, .int .u8 0, .int .u8 0, .int .u8 0, .int .u8 0, .int .u8 0, .int .u8 0, .int .u8 0, .int .u8 0, .int .u8 0, .int .u8 0, .int .u8 0, .int .u8 0, .int .u8 0, .int .u8 0, .int .u8 0, .int .u8 0, .int .u8 0, .int .u8 0, .int .u8 0, .int .u8 0, .int .u8 0, .int .u8 0, .int .u8 0, .int .u8 0, .int .u8 0, .int .u8 0, .int .u8 0, .int .u8 0, .int .u8 0, .int .u8 0, .int .u8 0, .int .u8 0, .int .u8 0, .int .u8 0, .int .u8 0, .int .u8 0, .int .u8 0, .int .u8 0, .int .u8 0, .int .u8 0, .int .u8 0, .int .u8 0, .int .u8 0, .int .u8 0, .int .u8 0, .int .u8 0, .int .u8 0, .int .u8 0, .int .u8 0, .int .u8 0, .int .u8 0, .int .u8 0, .int .u8 0, .int .u8 0, .int .u8 0, .int .u8 0, .int .u8 0, .int .u8 0, .int .u8 0] 5)) w.heap.size 5 1 (.slice (some ⟨w.heap.size, 0, none⟩) 1 73) 1 (rowB [128])) := Lib.hid ⟨by simp [rowB], .inr ⟨w.heap.size, 73, _, rfl, Nat.le_refl _, Array.getElem?_push_size, by omega, by unfold maxLen; omega, rfl, rfl⟩⟩
  go_enter Try.func61, Try.ntmps61
  have hrm : Int.tmod (n : Int) 64 = ((n % 64 : Nat) : Int) := by rw [Int.tmod_eq_emod_of_nonneg (by omega)]; rfl
  obtain ⟨r, hr⟩ : ∃ r, r = n % 64 := ⟨_, rfl⟩
  rw [← hr] at hrm
  have hr64 : r < 64 := by omega
  obtain ⟨zz, hzz⟩ : ∃ z, z = zc n := ⟨_, rfl⟩
  have hzr : zz = (119 - r) % 64 := by rw [hzz, hr]; rfl
  have HZZ := Lib.hid hzz
  have HZR := Lib.hid hzr
  obtain ⟨m, hm⟩ : ∃ m, m = long8 n := ⟨_, rfl⟩
  have HM := Lib.hid hm
  have hml : m < 18446744073709551616 := by rw [hm]; exact Nat.mod_lt _ (by decide)
  have hmd : m = n * 8 % 18446744073709551616 := hm
  clear hr hzz hzr hm
  go_wp2
  clear hmk
  go_loopw [3] (fun v wr => ∃ z : Nat, z ≤ zz ∧ wr.ownsRow w.heap.size 5 1 v (z + 1) (rowB (padP z)) ∧ Below w.heap.size w wr) (fun v _ => 100 - lenV v)
  case atStart => exact ⟨0, by omega, HO.out, below_new _ _⟩
  case round =>
    obtain ⟨z, hz, ho, hb⟩ := hrel
    obtain ⟨a, cap, rfl, hcap⟩ := own_shape ho
    have HO2 := Lib.hid ho
    have HB := Lib.hid hb
    have hzl : zz < 64 := by have := HZR.out; omega
    clear ho hb
    by_cases hlt : z < zz
    · obtain ⟨q, hq⟩ : ∃ q, q = (r + (z + 1) + 8) % 64 := ⟨_, rfl⟩
      have hq0 : q ≠ 0 := by rw [hq]; have := HZR.out; omega
      have t1 : Int.tmod ((r : Int) + ((z : Int) + 1) + 8) 64 = (q : Int) := by rw [Int.tmod_eq_emod_of_nonneg (by omega)]; omega
      have t2 : ((q : Int) == 0) = false := by simp [hq0]
      have t3 : ((q : Int) != 0) = true := by simp [hq0]
      clear hq hq0
      go_wp2_with (at_builtin; refine wpList_append_own _ rfl _ _ 76 rfl w.heap.size 5 i0 (.int .u8 0) 1 1 Try.underlying76 hi hz0 hz1 hz2 rfl (by decide) _ _ _ rfl (HO2.out.alloc _) ⟨_, 0, none⟩ 1 1 [.int .u8 0] rfl rfl ?a1 ?a2 ?a3 ?a4 ?a5 ?_)
      case a1 => intro j u hj; exact new_cells _ _ _ j u hj
      case a2 => intro u hu; simp at hu; subst hu; rfl
      case a3 => unfold maxLen; omega
      case a4 => omega
      case a5 => have := HB.out.size; simp; omega
      intro v5 w5 hown5 hg5 _
      have HB5 : Hid (Below w.heap.size w w5) := Lib.hid ((HB.out.alloc HB.out.size _).grown hg5 (by have := HB.out.size; simp; omega) (fun q hq => (HO2.out.lt q hq).1))
      have hown6 : w5.ownsRow w.heap.size 5 1 v5 (z + 1 + 1) (rowB (padP (z + 1))) := by rw [padP_snoc, ← rowB_snoc]; exact hown5
      have HLV : Hid (lenV v5 = z + 1 + 1) := Lib.hid (by obtain ⟨a, c, rfl, _⟩ := own_shape hown6; rfl)
      have HO6 := Lib.hid hown6
      clear hown5 hown6 hg5
      go_wp2
      go_roundw
      case rel => exact ⟨z + 1, by omega, HO6.out, HB5.out⟩
      case measure => rw [HLV.out]; show 100 - (z + 1 + 1) < 100 - (z + 1); omega
    · obtain rfl : z = zz := by omega
      have t1 : Int.tmod ((r : Int) + ((z : Int) + 1) + 8) 64 = 0 := by rw [Int.tmod_eq_emod_of_nonneg (by omega)]; have := HZR.out; omega
      go_wp2
      have eM : IntKind.u64.wrap ((n : Int) * 8) = (m : Int) := by
        rw [show IntKind.u64.wrap ((n : Int) * 8) = ((n : Int) * 8) % 18446744073709551616 by simp [IntKind.wrap, IntKind.bits, IntKind.signed]]
        omega
      rw [eM]
      clear eM t1
      have HPZ : Hid (padP z ++ be8 m 8 = padL n) := Lib.hid (by rw [HM.out, HZZ.out]; rfl)
      go_loopw [3, 5] (fun v s wr => ∃ j : Nat, j ≤ 8 ∧ s = .int .i64 (56 - 8 * (j : Int)) ∧ wr.ownsRow w.heap.size 5 1 v (z + 1 + j) (rowB (padP z ++ be8 m j)) ∧ Below w.heap.size w wr) (fun _ s _ => (intOf s + 8).toNat)
      case atStart => exact ⟨0, by omega, rfl, by have := HO2.out; simpa [be8] using this, HB.out⟩
      case round =>
        obtain ⟨j, hj, rfl, ho, hb⟩ := hrel
        obtain ⟨a, cap, rfl, hcap⟩ := own_shape ho
        have HO3 := Lib.hid ho
        have HB3 := Lib.hid hb
        clear ho hb
        by_cases hj8 : j < 8
        · obtain ⟨e, he⟩ : ∃ e, e = 56 - 8 * j := ⟨_, rfl⟩
          have hE : (56 - 8 * (j : Int)) = (e : Int) := by omega
          rw [hE]
          have HBE := Lib.hid (be8_snoc m j e (by omega))
          have he56 : e ≤ 56 := by omega
          have HEJ : Hid (((e : Int) - 8) = 56 - 8 * ((j + 1 : Nat) : Int)) := Lib.hid (by omega)
          have d5 : (0 : Int) ≤ (e : Int) := by omega
          have HEV : Hid ((m : Int) / 2 ^ e % 256 = ((m / 2 ^ e % 256 : Nat) : Int)) := Lib.hid (by simp)
          clear hE he hmd
          go_wp2_with (at_builtin; refine wpList_append_own _ rfl _ _ 76 rfl w.heap.size 5 i0 (.int .u8 0) 1 1 Try.underlying76 hi hz0 hz1 hz2 rfl (by decide) _ _ _ rfl (HO3.out.alloc _) ⟨_, 0, none⟩ 1 1 [.int .u8 ((m : Int) / 2 ^ e % 256)] rfl rfl ?b1 ?b2 ?b3 ?b4 ?b5 ?_)
          case b1 => intro j u hj; exact new_cells _ _ _ j u hj
          case b2 => intro u hu; simp at hu; subst hu; rfl
          case b3 => unfold maxLen; omega
          case b4 => omega
          case b5 => have := HB3.out.size; simp; omega
          intro v5 w5 hown5 hg5 _
          have HB5 : Hid (Below w.heap.size w w5) := Lib.hid ((HB3.out.alloc HB3.out.size _).grown hg5 (by have := HB3.out.size; simp; omega) (fun q hq => (HO3.out.lt q hq).1))
          have hown6 : w5.ownsRow w.heap.size 5 1 v5 (z + 1 + (j + 1)) (rowB (padP z ++ be8 m (j + 1))) := by
            rw [HBE.out, ← List.append_assoc, ← rowB_snoc, ← HEV.out]; exact hown5
          have HO6 := Lib.hid hown6
          clear hown5 hown6 hg5
          go_wp2
          go_roundw
          case rel => exact ⟨j + 1, by omega, by rw [HEJ.out], HO6.out, HB5.out⟩
          case measure => simp [intOf]; omega
        · obtain rfl : j = 8 := by omega
          rw [show (56 - 8 * ((8 : Nat) : Int)) = -8 from rfl]
          have hcv := conv_ownB HO3.out (by rw [List.length_append, padP_len]; simp [be8])
          rw [HPZ.out] at hcv
          go_wp2
          go_ret
          exact ⟨by rw [HPD.out]; rfl, HB3.out⟩
theorem pad_any (n : Int) (w : World) (h : n ≤ 9223372036854775807) : Calls Try.prog 61 #[.int .i64 n] w fun e w' => e = .returned (.string (padB n)) ∧ Below w.heap.size w w' := by
  by_cases h0 : n < 0
  · exact pad_neg n w h0
  · obtain ⟨m, rfl⟩ : ∃ m : Nat, n = m := ⟨n.toNat, by omega⟩
    exact pad_nat m w (by omega)
end Go.Proofs.Ytanehgnpominiaa

