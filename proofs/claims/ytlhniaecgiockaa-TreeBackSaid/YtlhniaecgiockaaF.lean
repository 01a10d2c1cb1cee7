/-
  The contract of Path.
-/
import Derived.Test.YtlhniaecgiockaaE
import Derived.Test.YtlhniaecgiockaaOwn
set_option linter.unusedVariables false
set_option linter.unusedSimpArgs false
namespace Go.Proofs.Ytlhniaecgiockaa
open Go.RowKit
theorem infoStr : (Try.prog.info? 9).map (fun i => (i.zero, i.size, i.bytes)) = some (some (.string ⟨#[]⟩), 1, 16) := by kernel_rfl
theorem path_bad (l : List ByteArray) (a : Option Addr) (c : Nat) (i : Int) (w : World) (hi : i < 0 ∨ (l.length : Int) ≤ i) :
    Calls Try.prog 8 #[.slice a l.length c, .int .i64 i] w fun e w' => e = .returned (.tuple #[.slice none 0 0, .int .i64 2]) ∧ w = w' := by
  by_cases h0 : i < 0
  · go_enter Try.func8, Try.ntmps8
    go_wp2
    go_ret2
    exact ⟨rfl, rfl⟩
  · have h1 : (l.length : Int) ≤ i := by omega
    go_enter Try.func8, Try.ntmps8
    go_wp2
    go_ret2
    exact ⟨rfl, rfl⟩
def cut (l : List ByteArray) (f t : Nat) : List ByteArray := (l.drop f).take (t - f)
theorem cut_len {l : List ByteArray} {f t : Nat} (h : f ≤ t) (ht : t ≤ l.length) : (cut l f t).length = t - f := by unfold cut; rw [List.length_take, List.length_drop]; omega
theorem cut_take {l : List ByteArray} {f t h : Nat} (hh : h ≤ t - f) : (cut l f t).take h = cut l f (f + h) := by
  unfold cut
  rw [List.take_take, Nat.min_eq_left hh, show f + h - f = h by omega]
theorem cut_drop {l : List ByteArray} {f t h : Nat} : (cut l f t).drop h = cut l (f + h) t := by
  unfold cut
  rw [List.drop_take, List.drop_drop, show t - (f + h) = t - f - h by omega]
theorem cut_all (l : List ByteArray) : cut l 0 l.length = l := by unfold cut; rw [List.drop_zero, Nat.sub_zero, List.take_of_length_le (Nat.le_refl _)]
def PathPost (base : Nat) (l : List ByteArray) (i : Nat) (w : World) (e : Ending) (w' : World) : Prop :=
  ∃ v, e = .returned (.tuple #[v, .int .i64 0]) ∧ w'.ownsRow base 9 1 v (pathL l i).length ((pathL l i).flatMap strC) ∧ Below w.heap.size w w'
set_option maxHeartbeats 8000000 in
theorem path_any (l : List ByteArray) (a : Option Addr) (c : Nat) (i : Nat) (w : World) (hi : i < l.length) (hsm : ∀ s ∈ l, s.size ≤ 100) (hlc : l.length ≤ 1000000) (hS : Sl strC 1 w a l) :
    Calls Try.prog 8 #[.slice a l.length c, .int .i64 i] w (PathPost w.heap.size l i w) := by
  obtain ⟨i0, hi0, hz0, hz1, hz2⟩ := info_parts infoStr
  have T : Hid (∀ (p q : Nat) (f t : Nat) (w1 w' : World), Below w.heap.size w w1 → Below w1.heap.size w1 w' → Clo p q a l.length c w1 → f ≤ t → t ≤ l.length → Calls Try.prog 26 #[.int .i64 (f : Int), .int .i64 (t : Int), .pointer (some ⟨p, 0, none⟩), .pointer (some ⟨q, 0, none⟩)] w' fun e w'' => e = .returned (.string (rootL (cut l f t))) ∧ Below w'.heap.size w' w'') := Lib.hid (fun p q f t w1 w' h1 h2 hc hft ht =>
    clo_any l a c p q hsm hlc l.length f t w' (by omega) hft ht (hc.keep h2) ((hS.keep h1).keep h2))
  have HPL := Lib.hid (rfl : pathL l i = pathL l i)
  have g1 : ¬ (i : Int) < 0 := by omega
  have g2 : ¬ (l.length : Int) ≤ (i : Int) := by omega
  clear hS hsm
  go_enter Try.func8, Try.ntmps8
  go_wp2_with fail
  refine (over_any a l.length c w).mono ?_
  rintro e w1 ⟨rfl, hc, hb⟩
  obtain ⟨p, hp⟩ : ∃ p, p = w.heap.size := ⟨_, rfl⟩
  rw [← hp] at hc ⊢
  have HC := Lib.hid hc; have HB := Lib.hid hb; have HP := Lib.hid hp
  clear hc hb hp g1 g2
  unfold sumF
  go_wp2
  go_loopw [7, 8, 9] (fun v fr to wr => ∃ (f t : Nat) (out : List ByteArray), fr = .int .i64 f ∧ to = .int .i64 t ∧ f ≤ i ∧ i < t ∧ t ≤ l.length ∧ pathL l i = out ++ pathL (cut l f t) (i - f) ∧ wr.ownsRow w1.heap.size 9 1 v out.length (out.flatMap strC) ∧ out.length ≤ l.length - (t - f) ∧ Below w1.heap.size w1 wr) (fun _ fr to _ => (intOf to).toNat - (intOf fr).toNat)
  case atStart => exact ⟨0, l.length, [], rfl, rfl, by omega, hi, Nat.le_refl _, by rw [cut_all]; rfl, own_nil _ _ _ _, by simp, Below.refl _ _⟩
  case round =>
    obtain ⟨f, t, out, rfl, rfl, hf1, hf2, hf3, hpl, ho, hol, hbw⟩ := hrel
    have HO := Lib.hid ho; have HBW := Lib.hid hbw; have HPT := Lib.hid hpl
    clear ho hbw hpl
    by_cases hgt : f + 1 < t
    · have d1 : (1 : Int) < (t : Int) - (f : Int) := by omega
      have hn2 : 2 ≤ t - f := by omega
      have hh1 := hf_pos (t - f)
      have hh2 := hf_lt hn2
      have TH := Lib.hid (fun w => half_any (t - f) w hn2 (by omega))
      have HL : Hid (i < f + hf (t - f) → pathL (cut l f t) (i - f) = rootL (cut l (f + hf (t - f)) t) :: pathL (cut l f (f + hf (t - f))) (i - f)) := Lib.hid (fun hlt => by
        rw [pathL_left (by rw [cut_len (by omega) hf3]; omega) (by rw [cut_len (by omega) hf3]; omega), cut_len (by omega) hf3, cut_drop, cut_take (by omega)])
      have HR : Hid (¬ i < f + hf (t - f) → pathL (cut l f t) (i - f) = rootL (cut l f (f + hf (t - f))) :: pathL (cut l (f + hf (t - f)) t) (i - (f + hf (t - f)))) := Lib.hid (fun hlt => by
        rw [pathL_right (by rw [cut_len (by omega) hf3]; omega) (by rw [cut_len (by omega) hf3]; omega), cut_len (by omega) hf3, cut_drop, cut_take (by omega), show i - f - hf (t - f) = i - (f + hf (t - f)) by omega])
      obtain ⟨h, hh⟩ : ∃ h, h = hf (t - f) := ⟨_, rfl⟩
      rw [← hh] at hh1 hh2 TH HL HR
      clear hh
      have T3 : Hid (∀ w, Calls Try.prog 19 #[.int .i64 ((t : Int) - (f : Int))] w fun e w' => e = .returned (.int .i64 (h : Int)) ∧ w = w') := Lib.hid (fun w => by rw [show (t : Int) - (f : Int) = ((t - f : Nat) : Int) by omega]; exact TH.out w)
      go_wp2_with fail
      refine (T3.out _).mono ?_
      rintro e w3 ⟨rfl, rfl⟩
      by_cases hlt : i < f + h
      · have d2 : (i : Int) < (f : Int) + (h : Int) := by omega
        have HPT2 : Hid (pathL l i = (out ++ [rootL (cut l (f + h) t)]) ++ pathL (cut l f (f + h)) (i - f)) := Lib.hid (by
          rw [HPT.out, HL.out hlt]; simp)
        obtain ⟨R, hR⟩ : ∃ R, R = rootL (cut l (f + h) t) := ⟨_, rfl⟩
        have T2 := T.out p (p + 1) (f + h) t w1 wr HB.out HBW.out HC.out (by omega) hf3
        rw [Int.natCast_add, ← hR] at T2
        have HT2 := Lib.hid T2
        rw [← hR] at HPT2
        clear hR T2 HL HR
        go_wp2_with fail
        refine HT2.out.mono ?_
        rintro e w4 ⟨rfl, hb4⟩
        have HO4 := Lib.hid (own_kept HO.out hb4)
        have HB4 := Lib.hid (below_step HBW.out (Nat.le_refl _) hb4)
        clear hb4
        go_wp2_with (at_builtin; refine wpList_append_own _ rfl _ _ 22 rfl w1.heap.size 9 i0 (.string ⟨#[]⟩) 1 16 Try.underlying22 hi0 hz0 hz1 hz2 rfl (by decide) _ _ _ rfl (HO4.out.alloc _) ⟨_, 0, none⟩ 1 1 [.string R] rfl rfl ?a1 ?a2 ?a3 ?a4 ?a5 ?_)
        case a1 => intro j u hj; exact new_cells _ _ _ j u hj
        case a2 => intro u hu; simp at hu; subst hu; rfl
        case a3 => unfold maxLen; omega
        case a4 => omega
        case a5 => have := HB4.out.size; simp; omega
        intro v5 w5 hown5 hg5 _
        have HB5 : Hid (Below w1.heap.size w1 w5) := Lib.hid ((HB4.out.alloc HB4.out.size _).grown hg5 (by have := HB4.out.size; simp; omega) (fun q hq => (HO4.out.lt q hq).1))
        have HO5 : Hid (w5.ownsRow w1.heap.size 9 1 v5 (out.length + 1) ((out ++ [R]).flatMap strC)) := Lib.hid (by simpa [strC] using hown5)
        obtain ⟨O5, hO5⟩ : ∃ O5, O5 = out ++ [R] := ⟨_, rfl⟩
        rw [← hO5] at HPT2 HO5
        have hO6 : O5.length = out.length + 1 := by rw [hO5]; simp
        rw [← hO6] at HO5
        have HO6 := Lib.hid hO6
        clear hown5 hg5 hO5 hO6
        go_wp2
        go_roundw
        case rel => exact ⟨f, f + h, O5, rfl, by go_num, hf1, hlt, by omega, HPT2.out, HO5.out, by rw [HO6.out]; omega, HB5.out⟩
        case measure => simp [intOf]; omega
      · have d2 : ¬ (i : Int) < (f : Int) + (h : Int) := by omega
        have HPT2 : Hid (pathL l i = (out ++ [rootL (cut l f (f + h))]) ++ pathL (cut l (f + h) t) (i - (f + h))) := Lib.hid (by
          rw [HPT.out, HR.out hlt]; simp)
        obtain ⟨R, hR⟩ : ∃ R, R = rootL (cut l f (f + h)) := ⟨_, rfl⟩
        have T2 := T.out p (p + 1) f (f + h) w1 wr HB.out HBW.out HC.out (by omega) (by omega)
        rw [Int.natCast_add, ← hR] at T2
        have HT2 := Lib.hid T2
        rw [← hR] at HPT2
        clear hR T2 HL HR
        go_wp2_with fail
        refine HT2.out.mono ?_
        rintro e w4 ⟨rfl, hb4⟩
        have HO4 := Lib.hid (own_kept HO.out hb4)
        have HB4 := Lib.hid (below_step HBW.out (Nat.le_refl _) hb4)
        clear hb4
        go_wp2_with (at_builtin; refine wpList_append_own _ rfl _ _ 22 rfl w1.heap.size 9 i0 (.string ⟨#[]⟩) 1 16 Try.underlying22 hi0 hz0 hz1 hz2 rfl (by decide) _ _ _ rfl (HO4.out.alloc _) ⟨_, 0, none⟩ 1 1 [.string R] rfl rfl ?b1 ?b2 ?b3 ?b4 ?b5 ?_)
        case b1 => intro j u hj; exact new_cells _ _ _ j u hj
        case b2 => intro u hu; simp at hu; subst hu; rfl
        case b3 => unfold maxLen; omega
        case b4 => omega
        case b5 => have := HB4.out.size; simp; omega
        intro v5 w5 hown5 hg5 _
        have HB5 : Hid (Below w1.heap.size w1 w5) := Lib.hid ((HB4.out.alloc HB4.out.size _).grown hg5 (by have := HB4.out.size; simp; omega) (fun q hq => (HO4.out.lt q hq).1))
        have HO5 : Hid (w5.ownsRow w1.heap.size 9 1 v5 (out.length + 1) ((out ++ [R]).flatMap strC)) := Lib.hid (by simpa [strC] using hown5)
        obtain ⟨O5, hO5⟩ : ∃ O5, O5 = out ++ [R] := ⟨_, rfl⟩
        rw [← hO5] at HPT2 HO5
        have hO6 : O5.length = out.length + 1 := by rw [hO5]; simp
        rw [← hO6] at HO5
        have HO6 := Lib.hid hO6
        clear hown5 hg5 hO5 hO6
        go_wp2
        go_roundw
        case rel => exact ⟨f + h, t, O5, by go_num, rfl, by omega, hf2, hf3, HPT2.out, HO5.out, by rw [HO6.out]; omega, HB5.out⟩
        case measure => simp [intOf]; omega
    · have d1 : ¬ (1 : Int) < (t : Int) - (f : Int) := by omega
      have HE : Hid (pathL l i = out) := Lib.hid (by
        rw [HPT.out, pathL_one _ (by rw [cut_len (by omega) hf3]; omega), List.append_nil])
      have hs1 : w.heap.size ≤ w1.heap.size := HB.out.size
      clear hol
      go_wp2
      go_ret2
      refine ⟨_, rfl, ?_, below_step HB.out (Nat.le_refl _) HBW.out⟩
      rw [HE.out]
      exact own_base HO.out hs1
end Go.Proofs.Ytlhniaecgiockaa

