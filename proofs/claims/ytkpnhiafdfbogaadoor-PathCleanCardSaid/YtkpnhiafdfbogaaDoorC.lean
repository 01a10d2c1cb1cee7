/-
  The contract of the law's parts.
-/
import Derived.Test.YtkpnhiafdfbogaaDoorB
set_option linter.unusedVariables false
set_option linter.unusedSimpArgs false
namespace Go.Proofs.YtkpnhiafdfbogaaDoor
open Go.RowKit
/-- What has been read of a way: out counts, part is under way. -/
def Scan (l : Bs) (i : Nat) (out : List Bs) (part : Bs) : Prop :=
  (i ≤ l.length → (cutP part (l.drop i)).foldl stepP out = partsP l) ∧ (i = l.length + 1 → out = partsP l) ∧ out.length ≤ i ∧ part.length ≤ i
theorem Scan.start (l : Bs) : Scan l 0 [] [] := ⟨fun _ => rfl, fun h => by omega, by simp, by simp⟩
theorem Scan.add {l : Bs} {i : Nat} {out : List Bs} {part : Bs} (h : Scan l i out part) (hi : i < l.length) (hc : ¬ l[i] = 47) : Scan l (i + 1) out (part ++ [l[i]]) := by
  refine ⟨fun _ => ?_, fun e => by omega, by have := h.2.2.1; omega, by rw [List.length_append]; have := h.2.2.2; simp; omega⟩
  have := h.1 (by omega)
  rw [List.drop_eq_getElem_cons hi, cutP_other _ _ hc] at this
  exact this
theorem stepP_len (out : List Bs) (part : Bs) : (stepP out part).length ≤ out.length + 1 := by
  unfold stepP
  split
  · rw [List.length_dropLast]; omega
  · split
    · omega
    · rw [List.length_append]; simp
theorem Scan.step {l : Bs} {i : Nat} {out : List Bs} {part : Bs} (h : Scan l i out part) (hi : i ≤ l.length) (hc : ∀ h : i < l.length, l[i] = 47) : Scan l (i + 1) (stepP out part) [] := by
  have h1 := h.1 hi
  refine ⟨fun hi2 => ?_, fun e => ?_, by have := h.2.2.1; have := stepP_len out part; omega, by simp⟩
  · have hi3 : i < l.length := by omega
    rw [List.drop_eq_getElem_cons hi3, hc hi3, cutP_slash, List.foldl_cons] at h1
    exact h1
  · have : i = l.length := by omega
    rw [this, List.drop_length, cutP_nil] at h1
    exact h1
theorem toB_snoc (s : ByteArray) (part : Bs) (i : Nat) (hi : i < s.size) : toB part ++ s.extract i (i + 1) = toB (part ++ [s.data.toList[i]'(by rw [length_data]; exact hi)]) := by
  apply ByteArray.ext
  apply Array.toList_inj.1
  rw [data_toB, ByteArray.data_append, Array.toList_append, data_toB, Lib.extract_data]
  congr 1
  rw [List.drop_eq_getElem_cons (by rw [length_data]; exact hi), show i + 1 - i = 1 by omega]
  rfl
theorem toB_size (l : Bs) : (toB l).size = l.length := by rw [← length_data, data_toB]
theorem data_get (s : ByteArray) (i : Nat) (h : i < s.size) : s.data.toList[i]'(by rw [length_data]; exact h) = s[i] := rfl
theorem u8_eq (c : UInt8) (h : c = 47) : ((c.toNat : Int) != 47) = false := by rw [h]; rfl
theorem u8_ne (c : UInt8) (h : ¬ c = 47) : ((c.toNat : Int) != 47) = true := by
  rw [bne_iff_ne]
  intro e
  apply h
  apply UInt8.toNat_inj.1
  have : c.toNat = 47 := by omega
  rw [this]; rfl
set_option maxRecDepth 100000 in
set_option maxHeartbeats 8000000 in
theorem rparts_any (s : ByteArray) (w : World) (hs : s.size ≤ 100000) :
    Calls Tryd.prog 9 #[.string s] w fun e w' => PartsE s w.heap.size w' e ∧ Below w.heap.size w w' := by
  obtain ⟨i0, hi0, hz0, hz1, hz2⟩ := infoS
  have hmax := max2_int; have hmax2 := max_two
  have HS0 := Lib.hid (Scan.start s.data.toList)
  have hll : s.data.toList.length = s.size := length_data s
  have HLL := Lib.hid hll
  clear hll
  go_enter Tryd.func9, Tryd.ntmps9
  go_wp2
  go_loopw [3, 4, 5] (fun v pv iv wr => ∃ (i : Nat) (out : List Bs) (part : Bs), iv = .int .i64 i ∧ i ≤ s.size + 1 ∧ pv = .string (toB part) ∧ Scan s.data.toList i out part ∧ wr.ownsRow w.heap.size 9 1 v (out.map toB).length ((out.map toB).flatMap strC) ∧ Below w.heap.size w wr) (fun _ _ iv _ => s.size + 1 - (intOf iv).toNat)
  case atStart => exact ⟨0, [], [], rfl, by omega, rfl, HS0.out, own_nil _ _ _ _, Below.refl _ _⟩
  case round =>
    obtain ⟨i, out, part, rfl, hi, rfl, hsc, hrow, hbw⟩ := hrel
    have HSC := Lib.hid hsc; have HROW := Lib.hid hrow; have HBW := Lib.hid hbw
    have hol := hsc.2.2.1; have hpl := hsc.2.2.2
    obtain ⟨av, cv, rfl⟩ := own_shape hrow
    rw [List.length_map] at HROW ⊢
    have hps : (toB part).size ≤ i := by rw [toB_size]; exact hpl
    clear hsc hrow hbw HS0 hpl
    have hx1 : part = [46, 46] → ((toB part).toList == [46, 46]) = true := fun e => by rw [toL, e]; rfl
    have hx1n : ¬ part = [46, 46] → ((toB part).toList == [46, 46]) = false := fun e => by rw [toL, beq_eq_false_iff_ne]; exact e
    have hx2 : part = [46] → ((toB part).toList == [46]) = true := fun e => by rw [toL, e]; rfl
    have hx2n : ¬ part = [46] → ((toB part).toList == [46]) = false := fun e => by rw [toL, beq_eq_false_iff_ne]; exact e
    have hx3 : part = [] → (toB part).toList.isEmpty = true := fun e => by rw [toL, e]; rfl
    have hx3n : ¬ part = [] → (toB part).toList.isEmpty = false := fun e => by rw [toL, List.isEmpty_eq_false_iff]; exact e
    have HADD : Hid (∀ h : i < s.size, toB part ++ s.extract i (i + 1) = toB (part ++ [s.data.toList[i]'(by rw [HLL.out]; exact h)])) := Lib.hid (fun h => toB_snoc s part i h)
    obtain ⟨X, hX⟩ : ∃ X, X = toB part := ⟨_, rfl⟩
    rw [← hX] at hps hx1 hx1n hx2 hx2n hx3 hx3n HADD ⊢
    have HX := Lib.hid hX
    obtain ⟨A, hA⟩ : ∃ A, A = out.length := ⟨_, rfl⟩
    rw [← hA] at hol HROW ⊢
    have HA := Lib.hid hA
    clear hX hA
    by_cases hout : s.size < i
    · have g1 : ¬ (i : Int) ≤ (s.size : Int) := by omega
      have HFIN : Hid (PartsE s w.heap.size wr (.returned (.slice av A cv))) := Lib.hid (by
        have hrow := HROW.out
        have he : out.map toB = partsT s := by
          unfold partsT
          rw [HSC.out.2.1 (by rw [HLL.out]; omega)]
        have hA : A = (out.map toB).length := by rw [List.length_map]; exact HA.out
        rw [hA] at hrow ⊢
        obtain ⟨a2, c2, e2, hle, hsl⟩ := own_sl (enc := strC) (l := out.map toB) (fun _ => rfl) (by decide) hrow
        simp only [Value.slice.injEq] at e2
        obtain ⟨rfl, _, rfl⟩ := e2
        rw [he] at hsl hle ⊢
        exact ⟨_, _, rfl, hle, hsl⟩)
      clear hx1 hx1n hx2 hx2n hx3 hx3n
      go_wp2
      go_ret
      exact ⟨HFIN.out, HBW.out⟩
    have g1 : (i : Int) ≤ (s.size : Int) := by omega
    by_cases hadd : ∃ h : i < s.size, ¬ s[i] = 47
    · obtain ⟨hlt, hne⟩ := hadd
      have g2 : (i : Int) < (s.size : Int) := by omega
      have g3 := u8_ne s[i] hne
      have HSC2 : Hid (Scan s.data.toList (i + 1) out (part ++ [s.data.toList[i]'(by rw [HLL.out]; exact hlt)])) := Lib.hid (HSC.out.add (by rw [HLL.out]; exact hlt) (by rw [data_get s i hlt]; exact hne))
      have HADD2 := Lib.hid (HADD.out hlt)
      clear hx1 hx1n hx2 hx2n hx3 hx3n hne
      go_wp2
      go_roundw
      case rel => exact ⟨i + 1, out, _, by go_num, by omega, by rw [← HADD2.out], HSC2.out, by rw [List.length_map, ← HA.out]; exact HROW.out, HBW.out⟩
      case measure => simp [intOf]; omega
    · have HSC2 : Hid (Scan s.data.toList (i + 1) (stepP out part) []) := Lib.hid (HSC.out.step (by rw [HLL.out]; omega) (fun h => by
        rw [HLL.out] at h
        rw [data_get s i h]
        exact Classical.byContradiction (fun hc => hadd ⟨h, hc⟩)))
      have hlast : (∃ h : i < s.size, ((s[i].toNat : Int) != 47) = false ∧ (i : Int) < (s.size : Int)) ∨ ¬ (i : Int) < (s.size : Int) := by
        by_cases h : i < s.size
        · left
          exact ⟨h, u8_eq _ (Classical.byContradiction (fun hc => hadd ⟨h, hc⟩)), by omega⟩
        · right; omega
      clear hadd
      rcases hlast with ⟨hlt, g3, g2⟩ | g2
      all_goals
        by_cases e1 : part = [46, 46]
        · have t1 := hx1 e1
          have HST : Hid (stepP out part = out.dropLast) := Lib.hid (by rw [e1, stepP_up])
          clear hx1 hx1n hx2 hx2n hx3 hx3n e1
          obtain ⟨K, hK⟩ : ∃ K, K = A - 1 := ⟨_, rfl⟩
          have hrun := cut_run HROW.out (k := K) (by omega)
          have HR2 := Lib.hid (own_cut HROW.out (k := K) (by omega))
          have HACC2 : Hid (((stepP out part).map toB).length = K ∧ ((stepP out part).map toB).flatMap strC = ((out.map toB).flatMap strC).take K) := Lib.hid (by
            rw [HST.out, List.length_map, List.length_dropLast, ← HA.out]
            refine ⟨hK.symm, ?_⟩
            rw [flatC, flatC, List.dropLast_eq_take, ← HA.out, ← hK, List.map_take, List.map_take])
          have g5 : mx 0 ((A : Int) - 1) = (K : Int) := by
            rw [mx_eq]; omega
          have HK := Lib.hid hK
          clear hK
          go_wp2
          go_roundw
          case rel => exact ⟨i + 1, _, [], by go_num, by omega, rfl, HSC2.out, by rw [HACC2.out.1, HACC2.out.2]; exact HR2.out, HBW.out⟩
          case measure => simp [intOf]; omega
        · have t1 := hx1n e1
          by_cases e3 : part = []
          · have t3 := hx3 e3
            have HST : Hid (stepP out part = out) := Lib.hid (stepP_dot _ (.inr e3))
            clear hx1 hx1n hx2 hx2n hx3 hx3n e1 e3
            go_wp2
            go_roundw
            case rel => exact ⟨i + 1, _, [], by go_num, by omega, rfl, HSC2.out, by rw [HST.out, List.length_map, ← HA.out]; exact HROW.out, HBW.out⟩
            case measure => simp [intOf]; omega
          · have t3 := hx3n e3
            by_cases e2 : part = [46]
            · have t2 := hx2 e2
              have HST : Hid (stepP out part = out) := Lib.hid (stepP_dot _ (.inl e2))
              clear hx1 hx1n hx2 hx2n hx3 hx3n e1 e2 e3
              go_wp2
              go_roundw
              case rel => exact ⟨i + 1, _, [], by go_num, by omega, rfl, HSC2.out, by rw [HST.out, List.length_map, ← HA.out]; exact HROW.out, HBW.out⟩
              case measure => simp [intOf]; omega
            · have t2 := hx2n e2
              have HST : Hid (stepP out part = out ++ [part]) := Lib.hid (stepP_new _ e1 e2 e3)
              have HR2 := Lib.hid (own_kept HROW.out (below_new wr (.cells #[.string X] 9)))
              have HBX := Lib.hid (below_cons HBW.out (below_new wr (.cells #[.string X] 9)))
              have hmw : w.heap.size ≤ wr.heap.size := HBW.out.size
              have HA1 : Hid (∀ j u, [Value.string X][j]? = some u → (wr.alloc (.cells #[.string X] 9)).cell? ((⟨wr.heap.size, 0, none⟩ : Addr).add j) = some u) := Lib.hid (fun j u hj => new_cells _ _ _ j u hj)
              have HA2 : Hid (∀ u ∈ [Value.string X], u.oneCell' = true) := Lib.hid (fun u hu => by simp at hu; rcases hu with rfl; rfl)
              have HA3 : Hid (A + 1 ≤ maxLen) := Lib.hid (by unfold maxLen; omega)
              have HA4 : Hid ((A + 1) * 16 ≤ 140737488355328) := Lib.hid (by omega)
              have HA5 : Hid (w.heap.size ≤ (wr.alloc (.cells #[.string X] 9)).heap.size) := Lib.hid (by simp; omega)
              clear hx1 hx1n hx2 hx2n hx3 hx3n e1 e2 e3
              go_wp2_with (at_builtin; refine wpList_append_own _ rfl _ _ 25 rfl w.heap.size 9 i0 (.string ByteArray.empty) 1 16 Tryd.underlying25 hi0 hz0 hz1 hz2 rfl (by decide) _ _ _ rfl HR2.out ⟨wr.heap.size, 0, none⟩ 1 1 [.string X] rfl rfl HA1.out HA2.out HA3.out HA4.out HA5.out ?_)
              intro v5 w5 hown5 hg5 _
              have HO5 : Hid (w5.ownsRow w.heap.size 9 1 v5 ((stepP out part).map toB).length (((stepP out part).map toB).flatMap strC)) := Lib.hid (by
                rw [HST.out, List.map_append, List.length_append, List.flatMap_append, List.length_map, ← HA.out]
                show w5.ownsRow _ _ _ _ (A + 1) (_ ++ [Value.string (toB part)])
                rw [← HX.out]
                exact hown5)
              have HB5 : Hid (Below w.heap.size w w5) := Lib.hid (HBX.out.trans ((Kp.grown (S := fun q => w.heap.size ≤ q) hg5 (fun q hq => (HR2.out.lt q hq).1)).below (by simp; omega) (fun q hq => hq)))
              obtain ⟨a5, c5, rfl⟩ := own_shape hown5
              clear hown5 hg5
              go_wp2
              go_roundw
              case rel => exact ⟨i + 1, _, [], by go_num, by omega, rfl, HSC2.out, HO5.out, HB5.out⟩
              case measure => simp [intOf]; omega
end Go.Proofs.YtkpnhiafdfbogaaDoor

