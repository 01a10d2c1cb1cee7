/-
  The contracts of frame.All and the law's own All.
-/
import Derived.Test.YtfgoobanjobjgaaX2
set_option linter.unusedVariables false
set_option linter.unusedSimpArgs false
namespace Go.Proofs.Ytfgoobanjobjgaa
open Go.RowKit
theorem infoStr' : (Try.prog.info? 9).map (fun i => (i.zero, i.size, i.bytes)) = some (some (.string ⟨#[]⟩), 1, 16) := by kernel_rfl
theorem readF_cases (s : ByteArray) : (∃ (t : ByteArray) (k : Nat), readF s = (t, (k : Int), 0) ∧ 5 ≤ k ∧ k ≤ s.size) ∨ (∃ e : Int, e ≠ 0 ∧ readF s = (⟨#[]⟩, 0, e)) := by
  rcases txtV_cases s with ⟨t, k, h, h1, h2, h3⟩ | ⟨e, he, h⟩
  · rw [readF_ok h]
    unfold readF2
    split
    · exact .inr ⟨4, by decide, rfl⟩
    · split
      · exact .inl ⟨t, k + 4, rfl, by omega, by omega⟩
      · exact .inr ⟨6, by decide, rfl⟩
  · exact .inr ⟨e, he, readF_bad he h⟩
/-- The records with which bytes begin, from a place on. -/
def allG (s : ByteArray) : Nat → Nat → List ByteArray → List ByteArray × Nat
  | 0, p, out => (out, p)
  | m + 1, p, out => if (readF (s.extract p s.size)).2.2 = 0 then allG s m (p + (readF (s.extract p s.size)).2.1.toNat) (out ++ [(readF (s.extract p s.size)).1]) else (out, p)
def allF (s : ByteArray) : List ByteArray × Nat := allG s (s.size + 1) 0 []
theorem allG_ok {s : ByteArray} {m p k : Nat} {out : List ByteArray} {t : ByteArray} (h : readF (s.extract p s.size) = (t, (k : Int), 0)) : allG s (m + 1) p out = allG s m (p + k) (out ++ [t]) := by rw [allG, h, if_pos rfl]; rfl
theorem allG_bad {s : ByteArray} {m p : Nat} {out : List ByteArray} {e : Int} (he : e ≠ 0) (h : readF (s.extract p s.size) = (⟨#[]⟩, 0, e)) : allG s (m + 1) p out = (out, p) := by rw [allG, h, if_neg he]
def allE (V : List ByteArray × Nat) (w w' : World) (e : Ending) : Prop := ∃ a cap, e = .returned (.tuple #[.slice a V.1.length cap, .int .i64 (V.2 : Int)]) ∧ V.1.length ≤ cap ∧ V.1.length ≤ 1099511627776 ∧ Sl strC 1 w' a V.1 ∧ Below w.heap.size w w'
theorem fall_any (s : ByteArray) (w : World) (hs : s.size ≤ 1099511627776) : Calls Try.prog 10 #[.string s] w fun e w' => allE (allF s) w w' e := by
  obtain ⟨i0, hi, hz0, hz1, hz2⟩ := info_parts infoStr'
  obtain ⟨V, hV⟩ : ∃ V, V = allF s := ⟨_, rfl⟩
  rw [← hV]
  have HV := Lib.hid hV
  clear hV
  go_enter Try.func10, Try.ntmps10
  go_wp2
  go_step3
  go_wp2
  go_step3
  go_wp2
  go_loopw [4, 5] (fun v p wr => ∃ (A m : Nat) (out : List ByteArray), p = .int .i64 A ∧ A ≤ s.size ∧ s.size - A < m ∧ out.length ≤ A ∧ allG s m A out = V ∧ wr.ownsRow w.heap.size 9 1 v out.length (out.flatMap strC) ∧ Below w.heap.size w wr) (fun _ p _ => s.size - (intOf p).toNat)
  case atStart => exact ⟨0, s.size + 1, [], rfl, by omega, by omega, by simp, HV.out.symm, own_nil _ _ _ _, Below.refl _ _⟩
  case round =>
    obtain ⟨A, m, out, rfl, hA, hm, hl, hg, ho, hb⟩ := hrel
    obtain ⟨m, rfl⟩ : ∃ m', m = m' + 1 := ⟨m - 1, by omega⟩
    have HG := Lib.hid hg
    have HB := Lib.hid hb
    obtain ⟨a, cap, rfl, hcap, hsl⟩ := own_sl (enc := strC) (size := 1) (fun _ => rfl) (by decide) ho
    have HO := Lib.hid ho
    have HSL := Lib.hid hsl
    have hsz : (s.extract A s.size).size ≤ 1099511627776 := by rw [ByteArray.size_extract]; omega
    clear hg hb ho hsl
    rcases readF_cases (s.extract A s.size) with ⟨t, q, g1, g2, g3⟩ | ⟨e, he, g1⟩
    · rw [ByteArray.size_extract] at g3
      have HG2 : Hid (allG s m (A + q) (out ++ [t]) = V) := Lib.hid (by rw [← HG.out, allG_ok g1])
      have HR := Lib.hid (show readFR (s.extract A s.size) = _ by unfold readFR; rw [g1])
      clear g1
      go_wp2_with fail
      refine (fread_any _ _ hsz).mono ?_
      rintro e w2 ⟨rfl, hb2⟩
      rw [HR.out]
      have HB2 := Lib.hid (below_step HB.out (Nat.le_refl _) hb2)
      have HO2 := Lib.hid (own_kept HO.out hb2)
      clear hb2
      go_wp2_with (at_builtin; refine wpList_append_own _ rfl _ _ 32 rfl w.heap.size 9 i0 (.string ⟨#[]⟩) 1 16 Try.underlying32 hi hz0 hz1 hz2 rfl (by decide) _ _ _ rfl (HO2.out.alloc _) ⟨_, 0, none⟩ 1 1 [.string t] rfl rfl ?a1 ?a2 ?a3 ?a4 ?a5 ?_)
      case a1 => intro j u hj; exact new_cells _ _ _ j u hj
      case a2 => intro u hu; simp at hu; subst hu; rfl
      case a3 => unfold maxLen; omega
      case a4 => omega
      case a5 => have := HB2.out.size; simp; omega
      intro v5 w5 hown5 hg5 _
      have HB5 : Hid (Below w.heap.size w w5) := Lib.hid ((HB2.out.alloc HB2.out.size _).grown hg5 (by have := HB2.out.size; simp; omega) (fun q hq => (HO2.out.lt q hq).1))
      have HO5 : Hid (w5.ownsRow w.heap.size 9 1 v5 (out ++ [t]).length ((out ++ [t]).flatMap strC)) := Lib.hid (by simpa [strC] using hown5)
      clear hown5 hg5
      go_wp2
      (try go_roundw)
      case rel => exact ⟨A + q, m, out ++ [t], vint (by omega), by omega, by omega, by simp; omega, HG2.out, HO5.out, HB5.out⟩
      case measure => simp [intOf]; omega
    · have HVE : Hid (V = (out, A)) := Lib.hid (by rw [← HG.out, allG_bad he g1])
      have HR := Lib.hid (show readFR (s.extract A s.size) = _ by unfold readFR; rw [g1])
      have e1 : (e == 0) = false := by simp [he]
      have e2 : (e != 0) = true := by simp [he]
      clear g1
      go_wp2_with fail
      refine (fread_any _ _ hsz).mono ?_
      rintro e' w2 ⟨rfl, hb2⟩
      rw [HR.out]
      have HB2 := Lib.hid (below_step HB.out (Nat.le_refl _) hb2)
      have HSL2 := Lib.hid (HSL.out.keep hb2)
      clear hb2
      go_wp2
      (try rw [Exit.noGoto_ret])
      go_ret2
      rw [HVE.out]
      exact ⟨a, cap, rfl, hcap, by dsimp only; omega, HSL2.out, HB2.out⟩
theorem rall_any (s : ByteArray) (w : World) (hs : s.size ≤ 1099511627776) : Calls Try.prog 11 #[.string s] w fun e w' => allE (allF s) w w' e := by
  obtain ⟨i0, hi, hz0, hz1, hz2⟩ := info_parts infoStr'
  obtain ⟨V, hV⟩ : ∃ V, V = allF s := ⟨_, rfl⟩
  rw [← hV]
  have HV := Lib.hid hV
  clear hV
  go_enter Try.func11, Try.ntmps11
  go_wp2
  go_loopw [4, 5] (fun v p wr => ∃ (A m : Nat) (out : List ByteArray), p = .int .i64 A ∧ A ≤ s.size ∧ s.size - A < m ∧ out.length ≤ A ∧ allG s m A out = V ∧ wr.ownsRow w.heap.size 9 1 v out.length (out.flatMap strC) ∧ Below w.heap.size w wr) (fun _ p _ => s.size - (intOf p).toNat)
  case atStart => exact ⟨0, s.size + 1, [], rfl, by omega, by omega, by simp, HV.out.symm, own_nil _ _ _ _, Below.refl _ _⟩
  case round =>
    obtain ⟨A, m, out, rfl, hA, hm, hl, hg, ho, hb⟩ := hrel
    obtain ⟨m, rfl⟩ : ∃ m', m = m' + 1 := ⟨m - 1, by omega⟩
    have HG := Lib.hid hg
    have HB := Lib.hid hb
    obtain ⟨a, cap, rfl, hcap, hsl⟩ := own_sl (enc := strC) (size := 1) (fun _ => rfl) (by decide) ho
    have HO := Lib.hid ho
    have HSL := Lib.hid hsl
    have hsz : (s.extract A s.size).size ≤ 1099511627776 := by rw [ByteArray.size_extract]; omega
    clear hg hb ho hsl
    rcases readF_cases (s.extract A s.size) with ⟨t, q, g1, g2, g3⟩ | ⟨e, he, g1⟩
    · rw [ByteArray.size_extract] at g3
      have HG2 : Hid (allG s m (A + q) (out ++ [t]) = V) := Lib.hid (by rw [← HG.out, allG_ok g1])
      have HR := Lib.hid (show readFR (s.extract A s.size) = _ by unfold readFR; rw [g1])
      clear g1
      go_wp2_with fail
      refine (rread_any _ _ hsz).mono ?_
      rintro e w2 ⟨rfl, hb2⟩
      rw [HR.out]
      have HB2 := Lib.hid (below_step HB.out (Nat.le_refl _) hb2)
      have HO2 := Lib.hid (own_kept HO.out hb2)
      clear hb2
      go_wp2_with (at_builtin; refine wpList_append_own _ rfl _ _ 32 rfl w.heap.size 9 i0 (.string ⟨#[]⟩) 1 16 Try.underlying32 hi hz0 hz1 hz2 rfl (by decide) _ _ _ rfl (HO2.out.alloc _) ⟨_, 0, none⟩ 1 1 [.string t] rfl rfl ?a1 ?a2 ?a3 ?a4 ?a5 ?_)
      case a1 => intro j u hj; exact new_cells _ _ _ j u hj
      case a2 => intro u hu; simp at hu; subst hu; rfl
      case a3 => unfold maxLen; omega
      case a4 => omega
      case a5 => have := HB2.out.size; simp; omega
      intro v5 w5 hown5 hg5 _
      have HB5 : Hid (Below w.heap.size w w5) := Lib.hid ((HB2.out.alloc HB2.out.size _).grown hg5 (by have := HB2.out.size; simp; omega) (fun q hq => (HO2.out.lt q hq).1))
      have HO5 : Hid (w5.ownsRow w.heap.size 9 1 v5 (out ++ [t]).length ((out ++ [t]).flatMap strC)) := Lib.hid (by simpa [strC] using hown5)
      clear hown5 hg5
      go_wp2
      (try go_roundw)
      case rel => exact ⟨A + q, m, out ++ [t], vint (by omega), by omega, by omega, by simp; omega, HG2.out, HO5.out, HB5.out⟩
      case measure => simp [intOf]; omega
    · have HVE : Hid (V = (out, A)) := Lib.hid (by rw [← HG.out, allG_bad he g1])
      have HR := Lib.hid (show readFR (s.extract A s.size) = _ by unfold readFR; rw [g1])
      have e1 : (e == 0) = false := by simp [he]
      have e2 : (e != 0) = true := by simp [he]
      clear g1
      go_wp2_with fail
      refine (rread_any _ _ hsz).mono ?_
      rintro e' w2 ⟨rfl, hb2⟩
      rw [HR.out]
      have HB2 := Lib.hid (below_step HB.out (Nat.le_refl _) hb2)
      have HSL2 := Lib.hid (HSL.out.keep hb2)
      clear hb2
      go_wp2
      (try rw [Exit.noGoto_ret])
      go_ret2
      rw [HVE.out]
      exact ⟨a, cap, rfl, hcap, by dsimp only; omega, HSL2.out, HB2.out⟩
end Go.Proofs.Ytfgoobanjobjgaa

