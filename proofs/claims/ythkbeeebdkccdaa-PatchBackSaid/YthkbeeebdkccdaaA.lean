/-
  The contract of wire.Num, which writes a number's bytes.
-/
import Derived.Test.YthkbeeebdkccdaaM
import Derived.Test.YthkbeeebdkccdaaOwn
import Derived.Test.YthkbeeebdkccdaaProg
import Derived.WalkMore
import Derived.ScopeJumps
set_option linter.unusedVariables false
set_option linter.unusedSimpArgs false
namespace Go.Proofs.Ythkbeeebdkccdaa
open Go.RowKit
theorem infoU8 : (Try.prog.info? 5).map (fun i => (i.zero, i.size, i.bytes)) = some (some (.int .u8 0), 1, 1) := by kernel_rfl
/-- Numbers as cells of bytes. -/
def rowU (bs : List Nat) : List Value := bs.map fun (b : Nat) => Value.int .u8 (b : Int)
theorem rowU_nil : rowU [] = [] := rfl
theorem rowU_len (bs : List Nat) : (rowU bs).length = bs.length := by simp [rowU]
theorem rowU_snoc (bs : List Nat) (b : Nat) : rowU bs ++ [Value.int .u8 (b : Int)] = rowU (bs ++ [b]) := by simp [rowU]
theorem conv_own {w : World} {B n : Nat} {v : Value} {bs : List Nat} (h : w.ownsRow B 5 1 v n (rowU bs)) (hn : n = bs.length) : (convert 33 9 v).run Try.prog w = .ok (.string (txt bs)) w := by
  subst hn
  have h2 := h
  obtain ⟨_, ⟨rfl, h0⟩ | ⟨g, cap, cur, rfl, hb, hg, _⟩⟩ := h
  · obtain rfl : bs = [] := List.eq_nil_of_length_eq_zero h0
    exact run_convert_bytes_nil (P := Try.prog) w 33 5 Try.underlying33 Try.underlying5 0 0 9 Try.underlying9
  · have := run_convert_bytes_arg (P := Try.prog) w 33 5 Try.underlying33 Try.underlying5 g 0 bs.length cap (bs.map fun (b : Nat) => (b : Int)) (by simp) (fun i hi => by
      have := h2.cells (g := g) rfl i (.int .u8 (bs[i] : Int)) (by simp [rowU, hi])
      rw [Addr.add_lit] at this
      rw [this]
      simp [List.getD_eq_getElem?_getD, hi]) 9 Try.underlying9
    rw [this]
    congr 2
    apply ByteArray.ext
    simp [strOfNums, txt, Function.comp_def]
def numR (n : Int) : Ending := .returned (.tuple #[.string (numV n).1, .int .i64 (numV n).2])
theorem num_ok {m : Nat} (h : m ≤ 9007199254740992) {bs : List Nat} (hb : nb m = bs) : numR m = .returned (.tuple #[.string (txt bs), .int .i64 0]) := by unfold numR; rw [numV_ok h, hb]
theorem num_bad (n : Int) (w : World) (h : n < 0 ∨ 9007199254740992 < n) : Calls Try.prog 20 #[.int .i64 n] w fun e w' => e = numR n ∧ Below w.heap.size w w' := by
  unfold numR
  rw [numV_bad h]
  go_enter Try.func20, Try.ntmps20
  by_cases h0 : n < 0
  · go_wp2
    go_step3
    go_wp2
    (try rw [Exit.noGoto_ret])
    go_ret2
    exact ⟨rfl, Below.refl _ _⟩
  · have h1 : 9007199254740992 < n := by omega
    go_wp2
    go_step3
    go_wp2
    (try rw [Exit.noGoto_ret])
    go_ret2
    exact ⟨rfl, Below.refl _ _⟩
theorem or_more (k : Nat) : bits .or .u8 ((k : Int) % 256) 128 = ((k % 128 + 128 : Nat) : Int) := by
  have key : ∀ a : BitVec 8, (a ||| 128#8).toNat = a.toNat % 128 + 128 := by decide
  have h1 : (BitVec.ofInt 8 ((k : Int) % 256)).toNat = k % 256 := by rw [BitVec.toNat_ofInt]; omega
  have h2 := key (BitVec.ofInt 8 ((k : Int) % 256))
  rw [h1] at h2
  show IntKind.u8.wrap ((BitVec.ofInt 8 ((k : Int) % 256) ||| BitVec.ofInt 8 128).toNat : Nat) = _
  rw [show BitVec.ofInt 8 128 = 128#8 from rfl, h2]
  simp [IntKind.wrap, IntKind.bits, IntKind.signed]
  omega
theorem num_nat (m : Nat) (w : World) (h : m ≤ 9007199254740992) : Calls Try.prog 20 #[.int .i64 m] w fun e w' => e = numR m ∧ Below w.heap.size w w' := by
  obtain ⟨i0, hi, hz0, hz1, hz2⟩ := info_parts infoU8
  have d1 : decide ((m : Int) < 0) = false := decide_eq_false (by omega)
  have d2 : decide ((9007199254740992 : Int) < (m : Int)) = false := decide_eq_false (by omega)
  obtain ⟨R, hR⟩ : ∃ R, R = nb m := ⟨_, rfl⟩
  have hRl : R.length ≤ 8 := by rw [hR]; exact nb_len8 h
  rw [num_ok h hR.symm]
  go_enter Try.func20, Try.ntmps20
  go_wp2
  refine wp_scope_jumps 0 (fun a' w' => ∃ (k : Nat) (bs : List Nat) (v u5 u6 u7 u8 u9 u10 u11 u12 u13 u14 u15 u16 u17 u18 u19 u20 u21 u22 u23 u24 u25 u26 : Value), a' = { tmps := #[.int .i64 (k : Int), undef, .string ⟨#[]⟩, .int .i64 0, v, u5, u6, u7, u8, u9, u10, u11, u12, u13, u14, u15, u16, u17, u18, u19, u20, u21, u22, u23, u24, u25, u26], defers := [] } ∧ bs ++ nb k = R ∧ k ≤ m ∧ w'.ownsRow w.heap.size 5 1 v bs.length (rowU bs) ∧ Below w.heap.size w w') (fun a' _ => (intOf (a'.tmps.getD 0 undef)).toNat) rfl ?_ ?_
  · have hk : [] ++ nb m = R := hR.symm
    have HO : Hid (w.ownsRow w.heap.size 5 1 (.slice none 0 0) ([] : List Nat).length (rowU [])) := Lib.hid (own_nil _ _ _ _)
    have HB : Hid (Below w.heap.size w w) := Lib.hid (Below.refl _ _)
    clear hR
    go_wp2
    go_step3
    have HK := Lib.hid hk
    clear hk
    have HL : Hid (([] : List Nat).length ≤ 7) := Lib.hid (by have h1 := HK.out; have h2 := congrArg List.length h1; have h3 : 0 < (nb m).length := List.length_pos_iff.2 (nb_ne m); rw [List.length_append] at h2; omega)
    by_cases hp : 128 ≤ m
    · have d3 : decide ((128 : Int) ≤ (m : Int)) = true := decide_eq_true (by omega)
      have w1 : IntKind.u8.wrap (m : Int) = ((m % 256 : Nat) : Int) := by simp [IntKind.wrap, IntKind.bits, IntKind.signed]
      have w2 := or_more m
      have w4 : (m : Int) / 2 ^ (7 : Int).toNat = ((m / 128 : Nat) : Int) := by simp
      go_wp2_with (at_builtin; refine wpList_append_own _ rfl _ _ 33 rfl w.heap.size 5 i0 (.int .u8 0) 1 1 Try.underlying33 hi hz0 hz1 hz2 rfl (by decide) _ _ _ rfl (HO.out.alloc _) ⟨_, 0, none⟩ 1 1 [.int .u8 ((m % 128 + 128 : Nat) : Int)] rfl rfl ?a1 ?a2 ?a3 ?a4 ?a5 ?_)
      case a1 => intro j u hj; refine new_cells _ _ _ j u ?_; rw [← hj]; try simp [w1, w2]
      case a2 => intro u hu; simp at hu; subst hu; rfl
      case a3 => have := HL.out; simp only [List.length_nil]; unfold maxLen; omega
      case a4 => have := HL.out; simp only [List.length_nil]; omega
      case a5 => simp
      intro v5 w5 hown5 hg5 _
      have HB5 : Hid (Below w.heap.size w w5) := Lib.hid ((HB.out.alloc HB.out.size _).grown hg5 (by simp) (fun q hq => (HO.out.lt q hq).1))
      obtain ⟨B5, hB5⟩ : ∃ B5, B5 = [] ++ [m % 128 + 128] := ⟨_, rfl⟩
      have HO5 : Hid (w5.ownsRow w.heap.size 5 1 v5 B5.length (rowU B5)) := Lib.hid (by rw [hB5]; simpa [rowU] using hown5)
      have HBB := Lib.hid hB5
      clear hown5 hg5 hB5
      go_wp2
      go_step3
      have hq : (m : Int) / 128 = ((m / 128 : Nat) : Int) := by omega
      rw [hq]
      refine (show 0 = 0 ∧ _ from ⟨rfl, ⟨m / 128, B5, v5, _, _, _, _, _, _, _, _, _, _, _, _, _, _, _, _, _, _, _, _, _, _, rfl, ?_, by omega, HO5.out, HB5.out⟩⟩)
      · rw [HBB.out, List.append_assoc, ← HK.out, nb_ge hp]; rfl
    · have d3 : decide ((128 : Int) ≤ (m : Int)) = false := decide_eq_false (by omega)
      have w1 : IntKind.u8.wrap (m : Int) = ((m : Nat) : Int) := by simp [IntKind.wrap, IntKind.bits, IntKind.signed]; omega
      have w2 : (m : Int) % 256 = ((m : Nat) : Int) := by omega
      go_wp2_with (at_builtin; refine wpList_append_own _ rfl _ _ 33 rfl w.heap.size 5 i0 (.int .u8 0) 1 1 Try.underlying33 hi hz0 hz1 hz2 rfl (by decide) _ _ _ rfl (HO.out.alloc _) ⟨_, 0, none⟩ 1 1 [.int .u8 ((m : Nat) : Int)] rfl rfl ?an1 ?an2 ?an3 ?an4 ?an5 ?_)
      case an1 => intro j u hj; refine new_cells _ _ _ j u ?_; rw [← hj]; try simp [w1, w2]
      case an2 => intro u hu; simp at hu; subst hu; rfl
      case an3 => have := HL.out; simp only [List.length_nil]; unfold maxLen; omega
      case an4 => have := HL.out; simp only [List.length_nil]; omega
      case an5 => simp
      intro v5 w5 hown5 hg5 _
      have HB5 : Hid (Below w.heap.size w w5) := Lib.hid ((HB.out.alloc HB.out.size _).grown hg5 (by simp) (fun q hq => (HO.out.lt q hq).1))
      obtain ⟨B5, hB5⟩ : ∃ B5, B5 = [] ++ [m] := ⟨_, rfl⟩
      have HO5 : Hid (w5.ownsRow w.heap.size 5 1 v5 B5.length (rowU B5)) := Lib.hid (by rw [hB5]; simpa [rowU] using hown5)
      have HBB := Lib.hid hB5
      clear hown5 hg5 hB5
      have hcv := conv_own HO5.out rfl
      go_wp2
      (try simp only [Exit.jump])
      (try rw [Exit.noGoto_ret])
      go_ret2
      refine ⟨?_, HB5.out⟩
      rw [HBB.out, ← HK.out, nb_lt (by omega)]; rfl
  · rintro a' w' ⟨k, bs, v, u5, u6, u7, u8, u9, u10, u11, u12, u13, u14, u15, u16, u17, u18, u19, u20, u21, u22, u23, u24, u25, u26, rfl, hk, hkm, ho, hb⟩
    have HO := Lib.hid ho
    have HB := Lib.hid hb
    clear hR ho hb
    have HK := Lib.hid hk
    clear hk
    have HL : Hid (bs.length ≤ 7) := Lib.hid (by have h1 := HK.out; have h2 := congrArg List.length h1; have h3 : 0 < (nb k).length := List.length_pos_iff.2 (nb_ne k); rw [List.length_append] at h2; omega)
    by_cases hp : 128 ≤ k
    · have d3 : decide ((128 : Int) ≤ (k : Int)) = true := decide_eq_true (by omega)
      have w1 : IntKind.u8.wrap (k : Int) = ((k % 256 : Nat) : Int) := by simp [IntKind.wrap, IntKind.bits, IntKind.signed]
      have w2 := or_more k
      have w4 : (k : Int) / 2 ^ (7 : Int).toNat = ((k / 128 : Nat) : Int) := by simp
      go_wp2_with (at_builtin; refine wpList_append_own _ rfl _ _ 33 rfl w.heap.size 5 i0 (.int .u8 0) 1 1 Try.underlying33 hi hz0 hz1 hz2 rfl (by decide) _ _ _ rfl (HO.out.alloc _) ⟨_, 0, none⟩ 1 1 [.int .u8 ((k % 128 + 128 : Nat) : Int)] rfl rfl ?b1 ?b2 ?b3 ?b4 ?b5 ?_)
      case b1 => intro j u hj; refine new_cells _ _ _ j u ?_; rw [← hj]; try simp [w1, w2]
      case b2 => intro u hu; simp at hu; subst hu; rfl
      case b3 => have := HL.out; unfold maxLen; omega
      case b4 => have := HL.out; omega
      case b5 => have := HB.out.size; simp; omega
      intro v5 w5 hown5 hg5 _
      have HB5 : Hid (Below w.heap.size w w5) := Lib.hid ((HB.out.alloc HB.out.size _).grown hg5 (by have := HB.out.size; simp; omega) (fun q hq => (HO.out.lt q hq).1))
      obtain ⟨B5, hB5⟩ : ∃ B5, B5 = bs ++ [k % 128 + 128] := ⟨_, rfl⟩
      have HO5 : Hid (w5.ownsRow w.heap.size 5 1 v5 B5.length (rowU B5)) := Lib.hid (by rw [hB5]; simpa [rowU] using hown5)
      have HBB := Lib.hid hB5
      clear hown5 hg5 hB5
      go_wp2
      go_step3
      have hq : (k : Int) / 128 = ((k / 128 : Nat) : Int) := by omega
      rw [hq]
      refine (show 0 = 0 ∧ _ from ⟨rfl, ⟨k / 128, B5, v5, _, _, _, _, _, _, _, _, _, _, _, _, _, _, _, _, _, _, _, _, _, _, rfl, ?_, by omega, HO5.out, HB5.out⟩, ?_⟩)
      · rw [HBB.out, List.append_assoc, ← HK.out, nb_ge hp]; rfl
      · simp [intOf]; omega
    · have d3 : decide ((128 : Int) ≤ (k : Int)) = false := decide_eq_false (by omega)
      have w1 : IntKind.u8.wrap (k : Int) = ((k : Nat) : Int) := by simp [IntKind.wrap, IntKind.bits, IntKind.signed]; omega
      have w2 : (k : Int) % 256 = ((k : Nat) : Int) := by omega
      go_wp2_with (at_builtin; refine wpList_append_own _ rfl _ _ 33 rfl w.heap.size 5 i0 (.int .u8 0) 1 1 Try.underlying33 hi hz0 hz1 hz2 rfl (by decide) _ _ _ rfl (HO.out.alloc _) ⟨_, 0, none⟩ 1 1 [.int .u8 ((k : Nat) : Int)] rfl rfl ?bn1 ?bn2 ?bn3 ?bn4 ?bn5 ?_)
      case bn1 => intro j u hj; refine new_cells _ _ _ j u ?_; rw [← hj]; try simp [w1, w2]
      case bn2 => intro u hu; simp at hu; subst hu; rfl
      case bn3 => have := HL.out; unfold maxLen; omega
      case bn4 => have := HL.out; omega
      case bn5 => have := HB.out.size; simp; omega
      intro v5 w5 hown5 hg5 _
      have HB5 : Hid (Below w.heap.size w w5) := Lib.hid ((HB.out.alloc HB.out.size _).grown hg5 (by have := HB.out.size; simp; omega) (fun q hq => (HO.out.lt q hq).1))
      obtain ⟨B5, hB5⟩ : ∃ B5, B5 = bs ++ [k] := ⟨_, rfl⟩
      have HO5 : Hid (w5.ownsRow w.heap.size 5 1 v5 B5.length (rowU B5)) := Lib.hid (by rw [hB5]; simpa [rowU] using hown5)
      have HBB := Lib.hid hB5
      clear hown5 hg5 hB5
      have hcv := conv_own HO5.out rfl
      go_wp2
      (try simp only [Exit.jump])
      (try rw [Exit.noGoto_ret])
      go_ret2
      refine ⟨?_, HB5.out⟩
      rw [HBB.out, ← HK.out, nb_lt (by omega)]; rfl
end Go.Proofs.Ythkbeeebdkccdaa

