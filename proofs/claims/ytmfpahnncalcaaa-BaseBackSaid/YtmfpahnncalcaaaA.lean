/-
  The contracts of the law's letter and put.
-/
import Derived.Test.YtmfpahnncalcaaaM
import Derived.Test.YtmfpahnncalcaaaOwn
import Derived.Test.YtmfpahnncalcaaaProg
set_option linter.unusedVariables false
set_option linter.unusedSimpArgs false
namespace Go.Proofs.Ytmfpahnncalcaaa
open Go.RowKit
def letN (d : Nat) : Nat := if d < 26 then 97 + d else 24 + d
def u8 (n : Nat) : Value := .int .u8 n
theorem letter_any (d : Nat) (hd : d < 32) (w : World) : Calls Try.prog 11 #[.int .i64 d] w fun e w' => e = .returned (.int .u8 (letN d)) ∧ w' = w := by
  by_cases h : d < 26
  · have d1 : decide ((d : Int) < 26) = true := decide_eq_true (by omega)
    have e1 : ((letN d : Nat) : Int) = 97 + (d : Int) := by unfold letN; rw [if_pos h]; omega
    rw [e1]
    go_enter Try.func11, Try.ntmps11
    go_wp2
    go_ret
    exact ⟨rint (by simp), rfl⟩
  · have d1 : decide ((d : Int) < 26) = false := decide_eq_false (by omega)
    have e1 : ((letN d : Nat) : Int) = 24 + (d : Int) := by unfold letN; rw [if_neg h]; omega
    rw [e1]
    go_enter Try.func11, Try.ntmps11
    go_wp2
    go_ret
    exact ⟨rint (by simp), rfl⟩
/-- A text's bytes as numbers. -/
def bys (s : ByteArray) : List Nat := s.data.toList.map (·.toNat)
theorem bys_len (s : ByteArray) : (bys s).length = s.size := by rw [bys, List.length_map, length_data]
theorem bys_lt (s : ByteArray) : ∀ c ∈ bys s, c < 256 := by
  intro c hc
  simp only [bys, List.mem_map] at hc
  obtain ⟨x, _, rfl⟩ := hc
  exact x.toNat_lt
theorem bys_get (s : ByteArray) (j : Nat) (h : j < s.size) : (bys s).getD j 0 = (s[j]'h).toNat := by
  simp [bys, List.getD_eq_getElem?_getD, h]
  rfl
theorem info5 : (Try.prog.info? 5).map (fun i => (i.zero, i.size, i.bytes)) = some (some (.int .u8 0), 1, 1) := by kernel_rfl
/-- Numbers as cells of bytes; as a text. -/
def rowU (bs : List Nat) : List Value := bs.map fun (b : Nat) => Value.int .u8 (b : Int)
def txt (bs : List Nat) : ByteArray := ⟨(bs.map UInt8.ofNat).toArray⟩
theorem rowU_nil : rowU [] = [] := rfl
theorem rowU_len (bs : List Nat) : (rowU bs).length = bs.length := by simp [rowU]
theorem conv_own {w : World} {B n : Nat} {v : Value} {bs : List Nat} (h : w.ownsRow B 5 1 v n (rowU bs)) (hn : n = bs.length) : (convert 30 9 v).run Try.prog w = .ok (.string (txt bs)) w := by
  subst hn
  have h2 := h
  obtain ⟨_, ⟨rfl, h0⟩ | ⟨g, cap, cur, rfl, hb, hg, _⟩⟩ := h
  · obtain rfl : bs = [] := List.eq_nil_of_length_eq_zero h0
    exact run_convert_bytes_nil (P := Try.prog) w 30 5 Try.underlying30 Try.underlying5 0 0 9 Try.underlying9
  · have := run_convert_bytes_arg (P := Try.prog) w 30 5 Try.underlying30 Try.underlying5 g 0 bs.length cap (bs.map fun (b : Nat) => (b : Int)) (by simp) (fun i hi => by
      have := h2.cells (g := g) rfl i (.int .u8 (bs[i] : Int)) (by simp [rowU, hi])
      rw [Addr.add_lit] at this
      rw [this]
      simp [List.getD_eq_getElem?_getD, hi]) 9 Try.underlying9
    rw [this]
    congr 2
    apply ByteArray.ext
    simp [strOfNums, txt, Function.comp_def]
theorem tmod_two (a : Nat) : Int.tmod (a : Int) 2 = ((a % 2 : Nat) : Int) := by
  rw [Int.tmod_eq_emod_of_nonneg (by omega)]; rfl
theorem bit_val (s : ByteArray) (k : Nat) (h : k / 8 < s.size) : Int.tmod (((s[k / 8]'h).toNat : Int) / 2 ^ (7 - k % 8)) 2 = ((bitL (bys s) k : Nat) : Int) := by
  unfold bitL
  rw [bys_get s _ h, ← tmod_two]
  congr 1
theorem many_next {j n : Nat} (h : 5 * j < 8 * n) : j + 1 ≤ many5 n := by unfold many5; omega
theorem many_end {j n : Nat} (h : ¬ 5 * j < 8 * n) (h2 : j ≤ many5 n) : j = many5 n := by unfold many5 at *; omega
set_option maxHeartbeats 4000000 in
theorem put_any (s : ByteArray) (w : World) (hs : s.size ≤ 100000) : Calls Try.prog 7 #[.string s] w fun e w' => e = .returned (.string (txt ((dig (bitL (bys s)) (many5 s.size)).map letN))) ∧ Below w.heap.size w w' := by
  obtain ⟨i0, hi, hz0, hz1, hz2⟩ := info_parts info5
  have hmm : many5 s.size ≤ 200000 := by unfold many5; omega
  go_enter Try.func7, Try.ntmps7
  go_wp2
  go_loopw [3, 4] (fun v i wr => ∃ j : Nat, j ≤ many5 s.size ∧ i = .int .i64 (5 * j) ∧ wr.ownsRow w.heap.size 5 1 v j (rowU ((dig (bitL (bys s)) j).map letN)) ∧ Below w.heap.size w wr) (fun _ i _ => 8 * s.size - (intOf i).toNat)
  case atStart => exact ⟨0, by omega, by simp, own_nil _ _ _ _, Below.refl _ _⟩
  case round =>
    obtain ⟨j, hj, rfl, ho, hb⟩ := hrel
    have HO := Lib.hid ho; have HB := Lib.hid hb
    clear ho hb
    by_cases hlt : 5 * j < 8 * s.size
    · have g1 : (5 * (j : Int)) < 8 * (s.size : Int) := by omega
      go_wp2
      go_loopw [5, 6] (fun n i wq => ∃ m : Nat, m ≤ 5 ∧ i = .int .i64 (5 * j + m) ∧ n = .int .i64 (P (bitL (bys s)) (5 * j) m) ∧ wq = wr) (fun _ i _ => 5 * j + 5 - (intOf i).toNat)
      case atStart => exact ⟨0, by omega, by simp, rfl, rfl⟩
      case round =>
        obtain ⟨m, hm, rfl, rfl, rfl⟩ := hrel
        by_cases hlm : m < 5
        · have hp := P_lt (bitL (bys s)) (bitL_lt _) (5 * j) m
          have hp2 : P (bitL (bys s)) (5 * j) m ≤ 31 := by
            have : 2 ^ m ≤ 2 ^ 5 := Nat.pow_le_pow_right (by omega) (by omega)
            omega
          have HN : Hid (P (bitL (bys s)) (5 * j) (m + 1) = 2 * P (bitL (bys s)) (5 * j) m + bitL (bys s) (5 * j + m)) := Lib.hid rfl
          generalize hX : P (bitL (bys s)) (5 * j) m = X at hp2 HN ⊢
          clear hp hX
          obtain ⟨k, hk⟩ : ∃ k : Nat, (5 * (j : Int) + (m : Int)) = k := ⟨5 * j + m, by omega⟩
          have hkn : k = 5 * j + m := by omega
          have HK := Lib.hid hkn
          have HKI := Lib.hid hk
          have hkl : (k : Int) < 5 * (j : Int) + 5 := by omega
          rw [hk]
          rw [← hkn] at HN
          clear hk hkn
          by_cases hin : k < 8 * s.size
          · have hk8 : (k : Int) < 8 * (s.size : Int) := by omega
            have HBV := Lib.hid (bit_val s k (by omega))
            have hbl := bitL_lt (bys s) k
            go_wp2
            refine ⟨⟨m + 1, by omega, ?_, ?_, trivial⟩, ?_⟩
            · have := HKI.out; refine vint ?_; omega
            · refine vint ?_
              rw [HN.out, HBV.out, wrap64_id (n := ((bitL (bys s) k : Nat) : Int)) (by omega) (by omega), wrap64_id (by omega) (by omega)]
              omega
            · simp [intOf]; omega
          · have hk8 : ¬ ((k : Int) < 8 * (s.size : Int)) := by omega
            have HBV := Lib.hid (bitL_end (bys s) k (by rw [bys_len]; omega))
            go_wp2
            refine ⟨⟨m + 1, by omega, ?_, ?_, trivial⟩, ?_⟩
            · have := HKI.out; refine vint ?_; omega
            · refine vint ?_
              rw [HN.out, HBV.out]
              omega
            · simp [intOf]; omega
        · obtain rfl : m = 5 := by omega
          have hp := P_lt (bitL (bys s)) (bitL_lt _) (5 * j) 5
          have HL := Lib.hid (dig_succ (bitL (bys s)) j)
          generalize P (bitL (bys s)) (5 * j) 5 = X at hp HL ⊢
          go_wp2_with fail
          refine (letter_any X hp _).mono ?_
          rintro e w1 ⟨rfl, hx⟩
          obtain rfl : wr = w1 := hx.symm
          clear hx
          go_wp2_with (at_builtin; refine wpList_append_own _ rfl _ _ 30 rfl w.heap.size 5 i0 (.int .u8 0) 1 1 Try.underlying30 hi hz0 hz1 hz2 rfl (by decide) _ _ _ rfl (HO.out.alloc _) ⟨wr.heap.size, 0, none⟩ 1 1 [.int .u8 (letN X)] rfl rfl ?a1 ?a2 ?a3 ?a4 ?a5 ?_)
          case a1 => intro j u hj; exact new_cells _ _ _ j u hj
          case a2 => intro u hu; simp at hu; subst hu; rfl
          case a3 => unfold maxLen; omega
          case a4 => omega
          case a5 => have := HB.out.size; simp; omega
          intro v5 w5 hown5 hg5 _
          have HB5 : Hid (Below w.heap.size w w5) := Lib.hid ((HB.out.alloc HB.out.size _).grown hg5 (by have := HB.out.size; simp; omega) (fun q hq => (HO.out.lt q hq).1))
          have HO5 : Hid (w5.ownsRow w.heap.size 5 1 v5 (j + 1) (rowU ((dig (bitL (bys s)) (j + 1)).map letN))) := Lib.hid (by rw [HL.out]; simpa [rowU] using hown5)
          clear hown5 hg5
          go_wp2
          go_roundw
          case rel => exact ⟨j + 1, many_next hlt, by refine vint ?_; omega, HO5.out, HB5.out⟩
          case measure => simp [intOf]; omega
    · obtain rfl := many_end hlt hj
      have hcv := conv_own HO.out (by simp [dig_len])
      have g1 : ¬ ((5 * (many5 s.size : Int)) < 8 * (s.size : Int)) := by omega
      go_wp2
      go_ret
      exact ⟨rfl, HB.out⟩
end Go.Proofs.Ytmfpahnncalcaaa
