/-
  The contract of the law's own Path.
-/
import Derived.Test.YtlhniaecgiockaaF
set_option linter.unusedVariables false
set_option linter.unusedSimpArgs false
namespace Go.Proofs.Ytlhniaecgiockaa
open Go.RowKit
theorem rpath_bad (l : List ByteArray) (a : Option Addr) (c : Nat) (i : Int) (w : World) (hi : i < 0 ∨ (l.length : Int) ≤ i) :
    Calls Try.prog 9 #[.slice a l.length c, .int .i64 i] w fun e w' => e = .returned (.tuple #[.slice none 0 0, .int .i64 2]) ∧ w = w' := by
  by_cases h0 : i < 0
  · go_enter Try.func9, Try.ntmps9
    go_wp2
    go_ret2
    exact ⟨rfl, rfl⟩
  · have h1 : (l.length : Int) ≤ i := by omega
    go_enter Try.func9, Try.ntmps9
    go_wp2
    go_ret2
    exact ⟨rfl, rfl⟩
theorem sl_cut {w : World} {b o : Nat} {l : List ByteArray} (h : Sl strC 1 w (some ⟨b, o, none⟩) l) (f t : Nat) : Sl strC 1 w (some ⟨b, o + f, none⟩) (cut l f t) := sl_take (sl_drop h f) (t - f)
theorem cut_mem {l : List ByteArray} {f t : Nat} {s : ByteArray} (h : s ∈ cut l f t) : s ∈ l := List.mem_of_mem_drop (List.mem_of_mem_take h)
set_option maxHeartbeats 8000000 in
theorem rpath_any (l : List ByteArray) (a : Option Addr) (c : Nat) (i : Nat) (w : World) (hi : i < l.length) (hcap : l.length ≤ c) (hsm : ∀ s ∈ l, s.size ≤ 100) (hlc : l.length ≤ 1000000) (hS : Sl strC 1 w a l) :
    Calls Try.prog 9 #[.slice a l.length c, .int .i64 i] w (PathPost w.heap.size l i w) := by
  obtain ⟨i0, hi0, hz0, hz1, hz2⟩ := info_parts infoStr
  obtain ⟨b, o, rfl, hb0, hc0⟩ := slT_str hS 0 (by omega)
  clear hc0
  have T : Hid (∀ (f n m : Nat) (w' : World), Below w.heap.size w w' → f + n ≤ l.length → n ≤ m → Calls Try.prog 11 #[.slice (some ⟨b, o + f, none⟩) n m] w' fun e w'' => e = .returned (.string (rootL (cut l f (f + n)))) ∧ Below w'.heap.size w' w'') := Lib.hid (fun f n m w' h1 h2 h3 => by
    have hl : (cut l f (f + n)).length = n := by rw [cut_len (by omega) (by omega)]; omega
    have := rroot_any n (cut l f (f + n)) (some ⟨b, o + f, none⟩) m w' (by omega) (by omega) (fun s hs => hsm s (cut_mem hs)) (by omega) (sl_cut (hS.keep h1) f (f + n))
    rw [hl] at this
    exact this)
  have g1 : ¬ (i : Int) < 0 := by omega
  have g2 : ¬ (l.length : Int) ≤ (i : Int) := by omega
  clear hS hsm
  go_enter Try.func9, Try.ntmps9
  go_wp2
  clear g1 g2
  go_loopw [0, 1, 6] (fun s ix v wr => ∃ (f n m j : Nat) (out : List ByteArray), s = .slice (some ⟨b, o + f, none⟩) n m ∧ ix = .int .i64 j ∧ f + n ≤ l.length ∧ n ≤ m ∧ m ≤ c ∧ f + j = i ∧ j < n ∧ pathL l i = out ++ pathL (cut l f (f + n)) j ∧ wr.ownsRow w.heap.size 9 1 v out.length (out.flatMap strC) ∧ out.length ≤ l.length - n ∧ Below w.heap.size w wr) (fun s _ _ _ => match s with | .slice _ n _ => n | _ => 0)
  case atStart => exact ⟨0, l.length, c, i, [], rfl, rfl, by omega, hcap, Nat.le_refl _, by omega, hi, by rw [Nat.zero_add, cut_all]; rfl, own_nil _ _ _ _, by simp, Below.refl _ _⟩
  case round =>
    obtain ⟨f, n, m, j, out, rfl, rfl, hf1, hf2, hf4, hf3, hjn, hpl, ho, hol, hbw⟩ := hrel
    have HO := Lib.hid ho; have HBW := Lib.hid hbw; have HPT := Lib.hid hpl
    clear ho hbw hpl
    by_cases hgt : 1 < n
    · have d1 : (1 : Int) < (n : Int) := by omega
      have hn2 : 2 ≤ n := by omega
      have hh1 := hf_pos n
      have hh2 := hf_lt hn2
      have hcl : (cut l f (f + n)).length = n := by rw [cut_len (by omega) (by omega)]; omega
      have TH := Lib.hid (fun w => rhalf_any n w hn2 (by omega))
      have HL : Hid (j < hf n → pathL (cut l f (f + n)) j = rootL (cut l (f + hf n) (f + hf n + (n - hf n))) :: pathL (cut l f (f + hf n)) j) := Lib.hid (fun hlt => by
        rw [pathL_left (by omega) (by rw [hcl]; omega), hcl, cut_drop, cut_take (by omega), show f + hf n + (n - hf n) = f + n by omega])
      have HR : Hid (¬ j < hf n → pathL (cut l f (f + n)) j = rootL (cut l f (f + hf n)) :: pathL (cut l (f + hf n) (f + hf n + (n - hf n))) (j - hf n)) := Lib.hid (fun hlt => by
        rw [pathL_right (by omega) (by rw [hcl]; omega), hcl, cut_drop, cut_take (by omega), show f + hf n + (n - hf n) = f + n by omega])
      obtain ⟨h, hh⟩ : ∃ h, h = hf n := ⟨_, rfl⟩
      rw [← hh] at hh1 hh2 TH HL HR
      clear hh hcl
      have e1 : (0 : Int) ≤ (h : Int) := by omega
      have e2 : (h : Int) ≤ (n : Int) := by omega
      have e3 : (h : Int) ≤ (m : Int) := by omega
      have e4 : (n : Int) ≤ (m : Int) := by omega
      have e5 : ¬ m = h := by omega
      go_wp2_with fail
      refine (TH.out _).mono ?_
      rintro e w3 ⟨rfl, rfl⟩
      by_cases hlt : j < h
      · have d2 : (j : Int) < (h : Int) := by omega
        have HPT2 : Hid (pathL l i = (out ++ [rootL (cut l (f + h) (f + h + (n - h)))]) ++ pathL (cut l f (f + h)) j) := Lib.hid (by
          rw [HPT.out, HL.out hlt]; simp)
        obtain ⟨R, hR⟩ : ∃ R, R = rootL (cut l (f + h) (f + h + (n - h))) := ⟨_, rfl⟩
        have T2 := T.out (f + h) (n - h) (m - h) wr HBW.out (by omega) (by omega)
        rw [← hR, ← Nat.add_assoc] at T2
        have HT2 := Lib.hid T2
        rw [← hR] at HPT2
        clear hR T2 HL HR
        go_wp2_with fail
        refine HT2.out.mono ?_
        rintro e w4 ⟨rfl, hb4⟩
        have HO4 := Lib.hid (own_kept HO.out hb4)
        have HB4 := Lib.hid (below_step HBW.out (Nat.le_refl _) hb4)
        clear hb4
        go_wp2_with (at_builtin; refine wpList_append_own _ rfl _ _ 22 rfl w.heap.size 9 i0 (.string ⟨#[]⟩) 1 16 Try.underlying22 hi0 hz0 hz1 hz2 rfl (by decide) _ _ _ rfl (HO4.out.alloc _) ⟨_, 0, none⟩ 1 1 [.string R] rfl rfl ?a1 ?a2 ?a3 ?a4 ?a5 ?_)
        case a1 => intro j u hj; exact new_cells _ _ _ j u hj
        case a2 => intro u hu; simp at hu; subst hu; rfl
        case a3 => unfold maxLen; omega
        case a4 => omega
        case a5 => have := HB4.out.size; simp; omega
        intro v5 w5 hown5 hg5 _
        have HB5 : Hid (Below w.heap.size w w5) := Lib.hid ((HB4.out.alloc HB4.out.size _).grown hg5 (by have := HB4.out.size; simp; omega) (fun q hq => (HO4.out.lt q hq).1))
        have HO5 : Hid (w5.ownsRow w.heap.size 9 1 v5 (out.length + 1) ((out ++ [R]).flatMap strC)) := Lib.hid (by simpa [strC] using hown5)
        obtain ⟨O5, hO5⟩ : ∃ O5, O5 = out ++ [R] := ⟨_, rfl⟩
        rw [← hO5] at HPT2 HO5
        have hO6 : O5.length = out.length + 1 := by rw [hO5]; simp
        rw [← hO6] at HO5
        have HO6 := Lib.hid hO6
        clear hown5 hg5 hO5 hO6
        go_wp2
        go_roundw
        case rel => exact ⟨f, h, m, j, O5, rfl, rfl, by omega, by omega, hf4, hf3, hlt, HPT2.out, HO5.out, by rw [HO6.out]; omega, HB5.out⟩
        case measure => simp only; omega
      · have d2 : ¬ (j : Int) < (h : Int) := by omega
        have HPT2 : Hid (pathL l i = (out ++ [rootL (cut l f (f + h))]) ++ pathL (cut l (f + h) (f + h + (n - h))) (j - h)) := Lib.hid (by
          rw [HPT.out, HR.out hlt]; simp)
        obtain ⟨R, hR⟩ : ∃ R, R = rootL (cut l f (f + h)) := ⟨_, rfl⟩
        have T2 := T.out f h m wr HBW.out (by omega) (by omega)
        rw [← hR] at T2
        have HT2 := Lib.hid T2
        rw [← hR] at HPT2
        clear hR T2 HL HR
        go_wp2_with fail
        refine HT2.out.mono ?_
        rintro e w4 ⟨rfl, hb4⟩
        have HO4 := Lib.hid (own_kept HO.out hb4)
        have HB4 := Lib.hid (below_step HBW.out (Nat.le_refl _) hb4)
        clear hb4
        go_wp2_with (at_builtin; refine wpList_append_own _ rfl _ _ 22 rfl w.heap.size 9 i0 (.string ⟨#[]⟩) 1 16 Try.underlying22 hi0 hz0 hz1 hz2 rfl (by decide) _ _ _ rfl (HO4.out.alloc _) ⟨_, 0, none⟩ 1 1 [.string R] rfl rfl ?b1 ?b2 ?b3 ?b4 ?b5 ?_)
        case b1 => intro j u hj; exact new_cells _ _ _ j u hj
        case b2 => intro u hu; simp at hu; subst hu; rfl
        case b3 => unfold maxLen; omega
        case b4 => omega
        case b5 => have := HB4.out.size; simp; omega
        intro v5 w5 hown5 hg5 _
        have HB5 : Hid (Below w.heap.size w w5) := Lib.hid ((HB4.out.alloc HB4.out.size _).grown hg5 (by have := HB4.out.size; simp; omega) (fun q hq => (HO4.out.lt q hq).1))
        have HO5 : Hid (w5.ownsRow w.heap.size 9 1 v5 (out.length + 1) ((out ++ [R]).flatMap strC)) := Lib.hid (by simpa [strC] using hown5)
        obtain ⟨O5, hO5⟩ : ∃ O5, O5 = out ++ [R] := ⟨_, rfl⟩
        rw [← hO5] at HPT2 HO5
        have hO6 : O5.length = out.length + 1 := by rw [hO5]; simp
        rw [← hO6] at HO5
        have HO6 := Lib.hid hO6
        clear hown5 hg5 hO5 hO6
        go_wp2
        go_roundw
        case rel => exact ⟨f + h, n - h, m - h, j - h, O5, by rw [Nat.add_assoc], by go_num, by omega, by omega, by omega, by omega, by omega, HPT2.out, HO5.out, by rw [HO6.out]; omega, HB5.out⟩
        case measure => simp only; omega
    · have d1 : ¬ (1 : Int) < (n : Int) := by omega
      have HE : Hid (pathL l i = out) := Lib.hid (by
        rw [HPT.out, pathL_one _ (by rw [cut_len (by omega) (by omega)]; omega), List.append_nil])
      clear hol
      go_wp2
      go_ret2
      refine ⟨_, rfl, ?_, HBW.out⟩
      rw [HE.out]
      exact HO.out
end Go.Proofs.Ytlhniaecgiockaa

