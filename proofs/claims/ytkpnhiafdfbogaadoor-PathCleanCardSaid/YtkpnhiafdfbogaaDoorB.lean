/-
  The contract of Parts.
-/
import Derived.Test.YtkpnhiafdfbogaaDoorA
import Derived.Test.YtkpnhiafdfbogaaDoorOwn
import Derived.Test.YtkpnhiafdfbogaaDoorStrs
import Derived.Test.YtkpnhiafdfbogaaDoorShelf
set_option linter.unusedVariables false
set_option linter.unusedSimpArgs false
namespace Go.Proofs.YtkpnhiafdfbogaaDoor
open Go.RowKit
/-- The library's own number lies where it lies. -/
def GM (w : World) : Prop := 0 < w.heap.size ∧ ∃ m : Int, w.cell? ⟨0, 0, none⟩ = some (.int .i64 m)
theorem GM.keep {w w' : World} (h : GM w) (k : Below w.heap.size w w') : GM w' := ⟨Nat.lt_of_lt_of_le h.1 k.size, h.2.elim fun m hm => ⟨m, (k.cell (p := ⟨0, 0, none⟩) h.1).trans hm⟩⟩
theorem infoS : ∃ i0, Tryd.prog.info? 9 = some i0 ∧ i0.zero = some (.string ByteArray.empty) ∧ i0.size = 1 ∧ i0.bytes = 16 := ⟨_, rfl, rfl, rfl, rfl⟩
theorem own_shape {w : World} {B : Nat} {e : TypeId} {size : Nat} {v : Value} {n : Nat} {xs : List Value} (h : w.ownsRow B e size v n xs) : ∃ a cap, v = .slice a n cap := by
  obtain ⟨_, ⟨rfl, rfl⟩ | ⟨g, cap, cur, rfl, _⟩⟩ := h
  · exact ⟨none, 0, rfl⟩
  · exact ⟨_, cap, rfl⟩
theorem own_cut {w : World} {B : Nat} {e : TypeId} {a : Option Addr} {n cap : Nat} {xs : List Value} (h : w.ownsRow B e 1 (.slice a n cap) n xs) {k : Nat} (hk : k ≤ n) : w.ownsRow B e 1 (.slice a k cap) k (xs.take k) := by
  obtain ⟨hl, ⟨e1, rfl⟩ | ⟨g, cap1, cur, e1, h1, h2, h3, h4, h5, h6⟩⟩ := h
  · obtain rfl : k = 0 := by omega
    exact ⟨by simp, Or.inl ⟨e1, rfl⟩⟩
  · simp only [Value.slice.injEq, true_and] at e1
    obtain ⟨rfl, rfl⟩ := e1
    refine ⟨by rw [List.length_take, hl]; omega, Or.inr ⟨g, cap, cur, rfl, h1, h2, by omega, h4, h5, ?_⟩⟩
    rw [← h6, List.take_take, Nat.mul_one, Nat.mul_one, Nat.min_eq_left hk]
theorem cut_run {w0 : World} {B : Nat} {e : TypeId} {a : Option Addr} {n cap : Nat} {xs : List Value} (h : w0.ownsRow B e 1 (.slice a n cap) n xs) {k : Nat} (hk : k ≤ n) (w : World) :
    (Instr.sliceAt 25 (.slice a n cap) none (some (.int .i64 (k : Int))) none).run Tryd.prog w = .ok (.slice a k cap) w := by
  have ht : Tryd.prog.underlying 25 = some (.slice (Tryd.prog.elem 25)) := Tryd.underlying25
  have hz : (sizeOf (Tryd.prog.elem 25)).run Tryd.prog w = .ok 1 w := by kernel_rfl
  obtain ⟨hl, ⟨e1, rfl⟩ | ⟨g, cap1, cur, e1, h1, h2, h3, h4, h5, h6⟩⟩ := h
  · obtain rfl : k = 0 := by omega
    simp only [Value.slice.injEq, true_and] at e1
    obtain ⟨rfl, rfl⟩ := e1
    rw [run_sliceAt_slice w 25 _ _ _ _ ht, run_slice_h w 25 _ _ _ ht .i64 ((0 : Nat) : Int) (by omega) (by omega), hz]
    simp [Result.andThen, sliced]
  · simp only [Value.slice.injEq, true_and] at e1
    obtain ⟨rfl, rfl⟩ := e1
    rw [run_sliceAt_slice w 25 _ _ _ _ ht, run_slice_h w 25 _ _ _ ht .i64 (k : Int) (by omega) (by omega), hz]
    simp [Result.andThen, sliced, Addr.add]
theorem flatC (l : List ByteArray) : l.flatMap strC = l.map Value.string := by
  induction l with
  | nil => rfl
  | cons x l ih => rw [List.flatMap_cons, ih]; rfl
def accP (ps : List Bs) (k : Nat) : List ByteArray := ((ps.take k).foldl stepP []).map toB
theorem accP_next (ps : List Bs) (k : Nat) (h : k < ps.length) : accP ps (k + 1) = (stepP ((ps.take k).foldl stepP []) ps[k]).map toB := by
  unfold accP
  rw [List.take_succ_eq_append_getElem h, List.foldl_append]; rfl
theorem accP_up (ps : List Bs) (k : Nat) (h : k < ps.length) (e : ps[k] = [46, 46]) : accP ps (k + 1) = (accP ps k).dropLast := by
  rw [accP_next ps k h, e, stepP_up, List.map_dropLast]; rfl
theorem accP_dot (ps : List Bs) (k : Nat) (h : k < ps.length) (e : ps[k] = [46] ∨ ps[k] = []) : accP ps (k + 1) = accP ps k := by
  rw [accP_next ps k h, stepP_dot _ e]; rfl
theorem accP_new (ps : List Bs) (k : Nat) (h : k < ps.length) (e1 : ¬ ps[k] = [46, 46]) (e2 : ¬ ps[k] = [46]) (e3 : ¬ ps[k] = []) : accP ps (k + 1) = accP ps k ++ [toB ps[k]] := by
  rw [accP_next ps k h, stepP_new _ e1 e2 e3, List.map_append]; rfl
theorem accP_len (ps : List Bs) : ∀ k, (accP ps k).length ≤ k
  | 0 => by simp [accP]
  | k + 1 => by
    have ih := accP_len ps k
    by_cases h : k < ps.length
    · by_cases e1 : ps[k] = [46, 46]
      · rw [accP_up ps k h e1, List.length_dropLast]; omega
      · by_cases e2 : ps[k] = [46] ∨ ps[k] = []
        · rw [accP_dot ps k h e2]; omega
        · rw [accP_new ps k h e1 (fun e => e2 (.inl e)) (fun e => e2 (.inr e)), List.length_append]; simp; omega
    · have : accP ps (k + 1) = accP ps k := by
        unfold accP
        rw [List.take_of_length_le (by omega), List.take_of_length_le (by omega)]
      rw [this]; omega
def partsT (s : ByteArray) : List ByteArray := (partsP s.data.toList).map toB
theorem partsT_acc (s : ByteArray) : accP (cutP [] s.data.toList) (cutP [] s.data.toList).length = partsT s := by
  unfold accP partsT partsP
  rw [List.take_length]
def PartsE (s : ByteArray) (m : Nat) (w' : World) (e : Ending) : Prop := ∃ a c, e = .returned (.slice a (partsT s).length c) ∧ (partsT s).length ≤ c ∧ Sl strC 1 w' a (partsT s)
theorem toL (l : Bs) : (toB l).toList = l := by rw [Lib.toList_data, data_toB]
set_option maxRecDepth 100000 in
set_option maxHeartbeats 8000000 in
theorem parts_any (s : ByteArray) (w : World) (hs : s.size ≤ 100000) (hm : GM w) :
    Calls Tryd.prog 8 #[.string s] w fun e w' => PartsE s w.heap.size w' e ∧ Below w.heap.size w w' := by
  obtain ⟨i0, hi0, hz0, hz1, hz2⟩ := infoS
  obtain ⟨_, m, hm⟩ := hm
  have TS := Lib.hid (Tryd.strings_Split s ⟨#[47]⟩ m w (by omega) hm (by decide))
  rw [split_text 47 s, ← splitT_count 47 s] at TS
  obtain ⟨ps, hps⟩ : ∃ ps, ps = cutP [] s.data.toList := ⟨_, rfl⟩
  have hsp : splitT 47 s = ps.map toB := by rw [hps]; rfl
  have hpl : ps.length ≤ 100001 := by
    have := splitT_len 47 s
    rw [hsp, List.length_map] at this
    omega
  rw [hsp, List.length_map] at TS
  have HPS := Lib.hid hps
  have HSW : Hid (∀ k (h : k < ps.length), (w.alloc (.cells ((ps.map toB).map Value.string).toArray 9)).cell? ⟨w.heap.size, k, none⟩ = some (.string (toB ps[k]))) := Lib.hid (fun k h => by
    rw [cell_new]; simp [h])
  have HB0 := Lib.hid (below_new w (.cells ((ps.map toB).map Value.string).toArray 9))
  generalize ((ps.map toB).map Value.string).toArray = Z at TS HSW HB0
  obtain ⟨L, hL⟩ : ∃ L, L = ps.length := ⟨_, rfl⟩
  rw [← hL] at TS hpl
  have HL := Lib.hid hL
  clear hsp hps hL hm
  go_enter Tryd.func8, Tryd.ntmps8
  go_wp2_with fail
  refine TS.out.mono ?_
  rintro e w1 ⟨rfl, rfl⟩
  go_wp2
  go_loopw [3, 9] (fun v i wr => ∃ k : Nat, i = .int .i64 k ∧ k ≤ L ∧ wr.ownsRow (w.heap.size + 1) 9 1 v (accP ps k).length ((accP ps k).flatMap strC) ∧ (∀ k (h : k < ps.length), wr.cell? ⟨w.heap.size, k, none⟩ = some (.string (toB ps[k]))) ∧ w.heap.size < wr.heap.size ∧ Below w.heap.size w wr) (fun _ i _ => L - (intOf i).toNat)
  case atStart => exact ⟨0, rfl, by omega, own_nil _ _ _ _, HSW.out, by simp, HB0.out⟩
  case round =>
    obtain ⟨k, rfl, hk, hrow, hc, hsz, hbw⟩ := hrel
    have HROW := Lib.hid hrow; have HC := Lib.hid hc; have HBW := Lib.hid hbw
    obtain ⟨av, cv, rfl⟩ := own_shape hrow
    have hal := accP_len ps k
    clear hrow hc hbw HSW HB0
    by_cases hlt : k < L
    · have hkl : k < ps.length := by rw [← HL.out]; exact hlt
      have c := HC.out k hkl
      have g1 : (k : Int) < (L : Int) := by omega
      have HUP := Lib.hid (accP_up ps k hkl); have HDOT := Lib.hid (accP_dot ps k hkl); have HNEW := Lib.hid (accP_new ps k hkl)
      generalize ps[k] = p at *
      have hx1 : p = [46, 46] → ((toB p).toList == [46, 46]) = true := fun e => by rw [toL, e]; rfl
      have hx1n : ¬ p = [46, 46] → ((toB p).toList == [46, 46]) = false := fun e => by rw [toL, beq_eq_false_iff_ne]; exact e
      have hx2 : p = [46] → ((toB p).toList == [46]) = true := fun e => by rw [toL, e]; rfl
      have hx2n : ¬ p = [46] → ((toB p).toList == [46]) = false := fun e => by rw [toL, beq_eq_false_iff_ne]; exact e
      have hx3 : p = [] → (toB p).toList.isEmpty = true := fun e => by rw [toL, e]; rfl
      have hx3n : ¬ p = [] → (toB p).toList.isEmpty = false := fun e => by rw [toL, List.isEmpty_eq_false_iff]; exact e
      obtain ⟨X, hX⟩ : ∃ X, X = toB p := ⟨_, rfl⟩
      rw [← hX] at c hx1 hx1n hx2 hx2n hx3 hx3n
      have HX := Lib.hid hX
      obtain ⟨A, hA⟩ : ∃ A, A = (accP ps k).length := ⟨_, rfl⟩
      rw [← hA] at hal ⊢
      have HA := Lib.hid hA
      clear hX hA
      by_cases e1 : p = [46, 46]
      · have t1 := hx1 e1
        have HACC := Lib.hid (HUP.out e1)
        clear hx1 hx1n hx2 hx2n hx3 hx3n e1
        by_cases h0 : A = 0
        · have g2 : ¬ (0 : Int) < (A : Int) := by omega
          have g3 : decide (0 < A) = false := decide_eq_false (by omega)
          have HACC2 : Hid (accP ps (k + 1) = accP ps k) := Lib.hid (by
            have : accP ps k = [] := List.eq_nil_of_length_eq_zero (by rw [← HA.out]; exact h0)
            rw [HACC.out, this]; rfl)
          clear h0
          go_wp2
          go_roundw
          case rel => exact ⟨k + 1, by go_num, by omega, by rw [HACC2.out, ← HA.out]; have := HROW.out; rw [← HA.out] at this; exact this, HC.out, hsz, HBW.out⟩
          case measure => simp [intOf]; omega
        · obtain ⟨A1, rfl⟩ : ∃ A1, A = A1 + 1 := ⟨A - 1, by omega⟩
          have hrow := HROW.out
          rw [← HA.out] at hrow
          have hrun := cut_run hrow (k := A1) (by omega)
          have HR2 := Lib.hid (own_cut hrow (k := A1) (by omega))
          have HACC2 : Hid ((accP ps (k + 1)).length = A1 ∧ (accP ps (k + 1)).flatMap strC = ((accP ps k).flatMap strC).take A1) := Lib.hid (by
            rw [HACC.out, List.length_dropLast, ← HA.out]
            refine ⟨rfl, ?_⟩
            rw [flatC, flatC, List.dropLast_eq_take, ← HA.out, List.map_take]; rfl)
          obtain ⟨A2, hA2⟩ : ∃ A2, A2 = A1 + 1 := ⟨_, rfl⟩
          rw [← hA2] at hrun ⊢
          have g2 : (0 : Int) < (A2 : Int) := by omega
          have g3 : decide (0 < A2) = true := decide_eq_true (by omega)
          have g4 : (A2 : Int) - 1 = (A1 : Int) := by omega
          have g5 : wrap64 (A1 : Int) = (A1 : Int) := wrap64_id (by omega) (by omega)
          clear hrow hA2 h0 hal
          go_wp2
          go_roundw
          case rel => exact ⟨k + 1, by go_num, by omega, by rw [HACC2.out.1, HACC2.out.2]; exact HR2.out, HC.out, hsz, HBW.out⟩
          case measure => simp [intOf]; omega
      · have t1 := hx1n e1
        by_cases e2 : p = [46]
        · have t2 := hx2 e2
          have HACC2 := Lib.hid (HDOT.out (.inl e2))
          clear hx1 hx1n hx2 hx2n hx3 hx3n e1 e2
          go_wp2
          go_roundw
          case rel => exact ⟨k + 1, by go_num, by omega, by rw [HACC2.out, ← HA.out]; have := HROW.out; rw [← HA.out] at this; exact this, HC.out, hsz, HBW.out⟩
          case measure => simp [intOf]; omega
        · have t2 := hx2n e2
          by_cases e3 : p = []
          · have t3 := hx3 e3
            have HACC2 := Lib.hid (HDOT.out (.inr e3))
            clear hx1 hx1n hx2 hx2n hx3 hx3n e1 e2 e3
            go_wp2
            go_roundw
            case rel => exact ⟨k + 1, by go_num, by omega, by rw [HACC2.out, ← HA.out]; have := HROW.out; rw [← HA.out] at this; exact this, HC.out, hsz, HBW.out⟩
            case measure => simp [intOf]; omega
          · have t3 := hx3n e3
            have HACC2 := Lib.hid (HNEW.out e1 e2 e3)
            have HR2 := Lib.hid (own_kept HROW.out (below_new wr (.cells #[.string X] 9)))
            rw [← HA.out] at HR2
            have HBX := Lib.hid (below_cons HBW.out (below_new wr (.cells #[.string X] 9)))
            clear hx1 hx1n hx2 hx2n hx3 hx3n e1 e2 e3
            go_wp2_with (at_builtin; refine wpList_append_own _ rfl _ _ 25 rfl (w.heap.size + 1) 9 i0 (.string ByteArray.empty) 1 16 Tryd.underlying25 hi0 hz0 hz1 hz2 rfl (by decide) _ _ _ rfl HR2.out ⟨wr.heap.size, 0, none⟩ 1 1 [.string X] rfl rfl ?a1 ?a2 ?a3 ?a4 ?a5 ?_)
            case a1 => intro j u hj; exact new_cells _ _ _ j u hj
            case a2 => intro u hu; simp at hu; rcases hu with rfl; rfl
            case a3 => unfold maxLen; omega
            case a4 => omega
            case a5 => simp; omega
            intro v5 w5 hown5 hg5 _
            have HK5 : Hid (Kp (fun q => w.heap.size + 1 ≤ q) (wr.alloc (.cells #[.string X] 9)) w5) := Lib.hid (Kp.grown hg5 (fun q hq => (HR2.out.lt q hq).1))
            have HO5 : Hid (w5.ownsRow (w.heap.size + 1) 9 1 v5 (accP ps (k + 1)).length ((accP ps (k + 1)).flatMap strC)) := Lib.hid (by
              rw [HACC2.out, List.length_append, List.flatMap_append, ← HA.out, ← HX.out]
              exact hown5)
            have HB5 : Hid (Below w.heap.size w w5) := Lib.hid (HBX.out.trans (HK5.out.below (by simp; omega) (fun q hq => by omega)))
            have HC5 : Hid (∀ k (h : k < ps.length), w5.cell? ⟨w.heap.size, k, none⟩ = some (.string (toB ps[k]))) := Lib.hid (fun k h => by
              rw [HK5.out.cell (p := ⟨w.heap.size, k, none⟩) (by simp; omega) (by show ¬ w.heap.size + 1 ≤ w.heap.size; omega)]
              rw [(below_new wr (.cells #[.string X] 9)).cell (p := ⟨w.heap.size, k, none⟩) hsz]
              exact HC.out k h)
            have HZ5 : Hid (w.heap.size < w5.heap.size) := Lib.hid (by have := HK5.out.size; simp at this; omega)
            obtain ⟨a5, c5, rfl⟩ := own_shape hown5
            clear hown5 hg5
            go_wp2
            go_roundw
            case rel => exact ⟨k + 1, by go_num, by omega, HO5.out, HC5.out, HZ5.out, HB5.out⟩
            case measure => simp [intOf]; omega
    · obtain rfl : L = k := by omega
      have hkk : ¬ (L : Int) < (L : Int) := by omega
      have HFIN : Hid (PartsE s w.heap.size wr (.returned (.slice av (accP ps L).length cv))) := Lib.hid (by
        obtain ⟨a2, c2, e2, hle, hsl⟩ := own_sl (enc := strC) (l := accP ps L) (fun _ => rfl) (by decide) HROW.out
        have he : accP ps L = partsT s := by
          rw [HL.out, HPS.out]; exact partsT_acc s
        simp only [Value.slice.injEq] at e2
        obtain ⟨rfl, _, rfl⟩ := e2
        rw [he] at hsl hle ⊢
        exact ⟨_, _, rfl, hle, hsl⟩)
      go_wp2
      go_ret
      exact ⟨HFIN.out, HBW.out⟩
end Go.Proofs.YtkpnhiafdfbogaaDoor

