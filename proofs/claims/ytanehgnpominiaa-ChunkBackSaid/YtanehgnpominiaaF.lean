/-
  The contract of wire.list, which reads texts.
-/
import Derived.Test.YtanehgnpominiaaE
set_option linter.unusedVariables false
set_option linter.unusedSimpArgs false
set_option maxRecDepth 100000
namespace Go.Proofs.Ytanehgnpominiaa
open Go.RowKit
theorem infoStr : (Try.prog.info? 9).map (fun i => (i.zero, i.size, i.bytes)) = some (some (.string ⟨#[]⟩), 1, 16) := by kernel_rfl
/-- What wire.list answers: the texts, how many bytes they have, the error. -/
def lstG (s : ByteArray) : Nat → Nat → List ByteArray → List ByteArray × Nat × Int
  | 0, p, out => (out, p, 0)
  | m + 1, p, out => if (txtV (s.extract p s.size)).2.2 = 0 then lstG s m (p + (txtV (s.extract p s.size)).2.1.toNat) (out ++ [(txtV (s.extract p s.size)).1]) else ([], 0, (txtV (s.extract p s.size)).2.2)
def lstV (s : ByteArray) : List ByteArray × Nat × Int := if (readV (bys s)).2.2 = 0 then (if 4096 < (readV (bys s)).1 then ([], 0, 3) else lstG s (readV (bys s)).1.toNat (readV (bys s)).2.1.toNat []) else ([], 0, (readV (bys s)).2.2)
theorem lstV_bad {s : ByteArray} {e : Int} (he : e ≠ 0) (h : readV (bys s) = (0, 0, e)) : lstV s = ([], 0, e) := by unfold lstV; rw [h, if_neg he]
theorem lstV_long {s : ByteArray} {n k : Nat} (h : readV (bys s) = ((n : Int), (k : Int), 0)) (hn : 4096 < n) : lstV s = ([], 0, 3) := by unfold lstV; rw [h, if_pos rfl, if_pos (by dsimp only; omega)]
theorem lstV_ok {s : ByteArray} {n k : Nat} (h : readV (bys s) = ((n : Int), (k : Int), 0)) (hn : ¬ 4096 < n) : lstV s = lstG s n k [] := by unfold lstV; rw [h, if_pos rfl, if_neg (by dsimp only; omega)]; rfl
theorem lstG_zero (s : ByteArray) (p : Nat) (out : List ByteArray) : lstG s 0 p out = (out, p, 0) := rfl
theorem lstG_ok {s : ByteArray} {m p k : Nat} {out : List ByteArray} {t : ByteArray} (h : txtV (s.extract p s.size) = (t, (k : Int), 0)) : lstG s (m + 1) p out = lstG s m (p + k) (out ++ [t]) := by rw [lstG, h, if_pos rfl]; rfl
theorem lstG_bad {s : ByteArray} {m p : Nat} {out : List ByteArray} {e : Int} (he : e ≠ 0) (h : txtV (s.extract p s.size) = (⟨#[]⟩, 0, e)) : lstG s (m + 1) p out = ([], 0, e) := by rw [lstG, h, if_neg he]
theorem lstG_le {s : ByteArray} : ∀ (m p : Nat) (out : List ByteArray), p ≤ s.size → (lstG s m p out).2.1 ≤ s.size
  | 0, p, out, h => h
  | m + 1, p, out, h => by
    rcases txtV_cases (s.extract p s.size) with ⟨t, k, h1, h2, h3, h4⟩ | ⟨e, he, h1⟩
    · rw [lstG_ok h1]
      rw [ByteArray.size_extract] at h3
      exact lstG_le m (p + k) _ (by omega)
    · rw [lstG_bad he h1]; simp
theorem lstV_le (s : ByteArray) : (lstV s).2.1 ≤ s.size := by
  rcases readV_cases (bys s) with ⟨n, k, h, h1, h2, h3, h4⟩ | ⟨e, he, h⟩
  · by_cases hn : 4096 < n
    · rw [lstV_long h hn]; simp
    · rw [lstV_ok h hn]; rw [bys_len] at h4; exact lstG_le _ _ _ h4
  · rw [lstV_bad he h]; simp
def lstE (V : List ByteArray × Nat × Int) (w w' : World) (e : Ending) : Prop := ∃ a cap, e = .returned (.tuple #[.slice a V.1.length cap, .int .i64 (V.2.1 : Int), .int .i64 V.2.2]) ∧ V.1.length ≤ cap ∧ Sl strC 1 w' a V.1 ∧ (∀ b o, a = some ⟨b, o, none⟩ → w.heap.size ≤ b) ∧ Below w.heap.size w w'
def vlen : Value → Nat
  | .slice _ n _ => n
  | _ => 0
theorem list_read (s : ByteArray) (w : World) (hs : s.size ≤ 1099511627776) : Calls Try.prog 52 #[.string s] w fun e w' => lstE (lstV s) w w' e := by
  obtain ⟨i0, hi, hz0, hz1, hz2⟩ := info_parts infoStr
  obtain ⟨V, hV⟩ : ∃ V, V = lstV s := ⟨_, rfl⟩
  rw [← hV]
  rcases readV_cases (bys s) with ⟨n, k, h, h1, h2, h3, h4⟩ | ⟨e, he, h⟩
  · rw [bys_len] at h4
    by_cases hn : 4096 < n
    · rw [lstV_long h hn] at hV
      subst hV
      have dn : (4096 : Int) < (n : Int) := by omega
      go_enter Try.func52, Try.ntmps52
      go_wp2_with fail
      refine (number_any s _ hs).mono ?_
      rintro e w1 ⟨rfl, hx⟩
      obtain rfl : w = w1 := hx.symm
      unfold readR
      rw [h]
      clear hx h
      dsimp only
      go_wp2
      go_loopw [7] (fun e wr => e = .int .i64 3 ∧ wr = w) (fun _ _ => 0)
      case atStart => exact ⟨rfl, rfl⟩
      case round =>
        obtain ⟨rfl, rfl⟩ := hrel
        go_wp2
        go_ret3
        exact ⟨none, 0, rfl, by simp, Sl.nil _ _ _ _, fun b o h => (by cases h), Below.refl _ _⟩
    · rw [lstV_ok h hn] at hV
      have HV := Lib.hid hV
      have dn : ¬ (4096 : Int) < (n : Int) := by omega
      clear hV
      go_enter Try.func52, Try.ntmps52
      go_wp2_with fail
      refine (number_any s _ hs).mono ?_
      rintro e w1 ⟨rfl, hx⟩
      obtain rfl : w = w1 := hx.symm
      unfold readR
      rw [h]
      clear hx h
      dsimp only
      go_wp2
      go_loopw [6, 7, 8] (fun p e v wr => (∃ (j A : Nat) (out : List ByteArray), p = .int .i64 A ∧ e = .int .i64 0 ∧ A ≤ s.size ∧ j ≤ n ∧ out.length = j ∧ lstG s (n - j) A out = V ∧ wr.ownsRow w.heap.size 9 1 v j (out.flatMap strC) ∧ Below w.heap.size w wr) ∨ (∃ (e0 : Int) (p0 : Int), e = .int .i64 e0 ∧ p = .int .i64 p0 ∧ e0 ≠ 0 ∧ V = ([], 0, e0) ∧ vlen v ≤ n ∧ Below w.heap.size w wr)) (fun p e v _ => if intOf e = 0 then n + 1 - vlen v else 0)
      case atStart => exact .inl ⟨0, k, [], rfl, rfl, h4, by omega, rfl, HV.out.symm, own_nil _ _ _ _, Below.refl _ _⟩
      case round =>
        rcases hrel with ⟨j, A, out, rfl, rfl, hA, hj, hl, hg, ho, hb⟩ | ⟨e0, p0, rfl, rfl, he0, hV0, hvl, hb⟩
        · have HG := Lib.hid hg
          have HB := Lib.hid hb
          subst hl
          obtain ⟨a, cap, rfl, hcap, hsl⟩ := own_sl (enc := strC) (size := 1) (fun _ => rfl) (by decide) ho
          have HO := Lib.hid ho
          have HSL := Lib.hid hsl
          clear hg hb ho hsl
          by_cases hlt : out.length < n
          · have d1 : (out.length : Int) < (n : Int) := by omega
            rcases txtV_cases (s.extract A s.size) with ⟨t, q, g1, g2, g3, g4⟩ | ⟨e, he, g1⟩
            · rw [ByteArray.size_extract] at g3
              have HG2 : Hid (lstG s (n - (out.length + 1)) (A + q) (out ++ [t]) = V) := Lib.hid (by
                rw [← HG.out, show n - out.length = (n - (out.length + 1)) + 1 by omega, lstG_ok g1])
              have HT := Lib.hid g1
              clear g1
              have hsz : (s.extract A s.size).size ≤ 1099511627776 := by rw [ByteArray.size_extract]; omega
              go_wp2_with fail
              refine (text_read _ _ hsz).mono ?_
              rintro e w2 ⟨rfl, hx⟩
              obtain rfl : wr = w2 := hx.symm
              unfold txtR
              rw [HT.out]
              clear hx
              dsimp only
              go_wp2_with (at_builtin; refine wpList_append_own _ rfl _ _ 23 rfl w.heap.size 9 i0 (.string ⟨#[]⟩) 1 16 Try.underlying23 hi hz0 hz1 hz2 rfl (by decide) _ _ _ rfl (HO.out.alloc _) ⟨_, 0, none⟩ 1 1 [.string t] rfl rfl ?a1 ?a2 ?a3 ?a4 ?a5 ?_)
              case a1 => intro j u hj; exact new_cells _ _ _ j u hj
              case a2 => intro u hu; simp at hu; subst hu; rfl
              case a3 => unfold maxLen; omega
              case a4 => omega
              case a5 => have := HB.out.size; simp; omega
              intro v5 w5 hown5 hg5 _
              have HB5 : Hid (Below w.heap.size w w5) := Lib.hid ((HB.out.alloc HB.out.size _).grown hg5 (by have := HB.out.size; simp; omega) (fun q hq => (HO.out.lt q hq).1))
              have HO5 : Hid (w5.ownsRow w.heap.size 9 1 v5 (out.length + 1) ((out ++ [t]).flatMap strC)) := Lib.hid (by simpa [strC] using hown5)
              obtain ⟨O5, hO5⟩ : ∃ O5, O5 = out ++ [t] := ⟨_, rfl⟩
              rw [← hO5] at HG2 HO5
              have HOL : Hid (O5.length = out.length + 1) := Lib.hid (by rw [hO5]; simp)
              have HVL : Hid (vlen v5 = out.length + 1) := Lib.hid (by
                obtain ⟨a, c, rfl, _⟩ := own_sl (enc := strC) (size := 1) (l := O5) (fun _ => rfl) (by decide) (by rw [HOL.out]; exact HO5.out)
                exact HOL.out)
              clear hown5 hg5 hO5
              go_wp2
              go_roundw
              case rel => exact .inl ⟨out.length + 1, A + q, O5, vint (by omega), rfl, by omega, by omega, HOL.out, HG2.out, HO5.out, HB5.out⟩
              case measure =>
                have h1 := HVL.out
                simp only [intOf, if_true, h1]
                show n + 1 - (out.length + 1) < n + 1 - out.length
                omega
            · have HVB : Hid (V = ([], 0, e)) := Lib.hid (by
                rw [← HG.out, show n - out.length = (n - (out.length + 1)) + 1 by omega, lstG_bad he g1])
              have HT := Lib.hid g1
              clear g1
              have hsz : (s.extract A s.size).size ≤ 1099511627776 := by rw [ByteArray.size_extract]; omega
              go_wp2_with fail
              refine (text_read _ _ hsz).mono ?_
              rintro e' w2 ⟨rfl, hx⟩
              obtain rfl : wr = w2 := hx.symm
              unfold txtR
              rw [HT.out]
              clear hx
              dsimp only
              go_wp2_with (at_builtin; refine wpList_append_own _ rfl _ _ 23 rfl w.heap.size 9 i0 (.string ⟨#[]⟩) 1 16 Try.underlying23 hi hz0 hz1 hz2 rfl (by decide) _ _ _ rfl (HO.out.alloc _) ⟨_, 0, none⟩ 1 1 [.string ⟨#[]⟩] rfl rfl ?b1 ?b2 ?b3 ?b4 ?b5 ?_)
              case b1 => intro j u hj; exact new_cells _ _ _ j u hj
              case b2 => intro u hu; simp at hu; subst hu; rfl
              case b3 => unfold maxLen; omega
              case b4 => omega
              case b5 => have := HB.out.size; simp; omega
              intro v5 w5 hown5 hg5 _
              have HB5 : Hid (Below w.heap.size w w5) := Lib.hid ((HB.out.alloc HB.out.size _).grown hg5 (by have := HB.out.size; simp; omega) (fun q hq => (HO.out.lt q hq).1))
              have HVL : Hid (vlen v5 = out.length + 1) := Lib.hid (by
                have h2 : w5.ownsRow w.heap.size 9 1 v5 (out ++ [(⟨#[]⟩ : ByteArray)]).length ((out ++ [(⟨#[]⟩ : ByteArray)]).flatMap strC) := by simpa [strC] using hown5
                obtain ⟨a, c, rfl, _⟩ := own_sl (enc := strC) (size := 1) (fun _ => rfl) (by decide) h2
                simp [vlen])
              clear hown5 hg5
              go_wp2
              go_roundw
              case rel => exact .inr ⟨e, A, rfl, by simp, he, HVB.out, by have := HVL.out; omega, HB5.out⟩
              case measure =>
                rw [if_neg (show ¬ intOf (.int .i64 e) = 0 from he), if_pos (show intOf (.int .i64 0) = 0 from rfl)]
                show 0 < n + 1 - out.length
                omega
          · have d1 : ¬ (out.length : Int) < (n : Int) := by omega
            have HVE : Hid (V = (out, A, 0)) := Lib.hid (by rw [← HG.out, show n - out.length = 0 by omega, lstG_zero])
            go_wp2
            go_ret3
            rw [HVE.out]
            exact ⟨a, cap, rfl, hcap, HSL.out, fun b o h => (HO.out.lt b (by rw [h]; rfl)).1, HB.out⟩
        · have HB := Lib.hid hb
          have HV0 := Lib.hid hV0
          have e1 : (e0 == 0) = false := by simp [he0]
          clear hb hV0
          go_wp2
          go_ret3
          rw [HV0.out]
          exact ⟨none, 0, rfl, by simp, Sl.nil _ _ _ _, fun b o h => (by cases h), HB.out⟩
  · rw [lstV_bad he h] at hV
    subst hV
    have e1 : (e == 0) = false := by simp [he]
    go_enter Try.func52, Try.ntmps52
    go_wp2_with fail
    refine (number_any s _ hs).mono ?_
    rintro e' w1 ⟨rfl, hx⟩
    obtain rfl : w = w1 := hx.symm
    unfold readR
    rw [h]
    clear hx h
    dsimp only
    go_wp2
    go_loopw [7] (fun x wr => x = .int .i64 e ∧ wr = w) (fun _ _ => 0)
    case atStart => exact ⟨rfl, rfl⟩
    case round =>
      obtain ⟨rfl, rfl⟩ := hrel
      go_wp2
      go_ret3
      exact ⟨none, 0, rfl, by simp, Sl.nil _ _ _ _, fun b o h => (by cases h), Below.refl _ _⟩
end Go.Proofs.Ytanehgnpominiaa

