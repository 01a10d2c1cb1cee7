/-
  The contracts of find's closure, of slices.IndexFunc, and of find.
-/
import Derived.Test.YthahddaihkajbaaF
import Derived.Test.YthahddaihkajbaaBase2
set_option linter.unusedVariables false
set_option linter.unusedSimpArgs false
namespace Go.Proofs.Ythahddaihkajbaa
open Go.RowKit
def idxI (ms : List Itm) (k : ByteArray) : Int := match findI ms k with
  | some j => j
  | none => -1
set_option maxHeartbeats 1000000 in
theorem clos_any (a b k : ByteArray) (c : Nat) (w : World) (hc : Bk c [.string k] w) :
    Calls Try.prog 20 #[.agg #[.string a, .string b], .pointer (some ⟨c, 0, none⟩)] w fun e w' => e = .returned (.bool (a.toList == k.toList)) ∧ Below w.heap.size w w' := by
  have HB := Lib.hid (below_new w (.cells #[.string a, .string b] 52))
  have hC := hc.keep HB.out
  have c0 := (hC.2 0 _ rfl).1
  clear hC hc
  go_enter Try.func20, Try.ntmps20
  go_wp2
  go_ret
  exact ⟨rfl, HB.out⟩
set_option maxHeartbeats 4000000 in
theorem idx_any {B c : Nat} {v : Value} {ms : List Itm} (k : ByteArray) (w : World) (h : w.ownsRow B 52 2 v ms.length (ms.flatMap encI)) (hn5 : ms.length ≤ 5000) (hc : Bk c [.string k] w) :
    Calls Try.prog 19 #[v, .func (.func 20) #[] #[.pointer (some ⟨c, 0, none⟩)]] w fun e w' => e = .returned (.int .i64 (idxI ms k)) ∧ Below w.heap.size w w' := by
  obtain ⟨a, cap, rfl⟩ := own_shape h
  have HO := Lib.hid h; have HC := Lib.hid hc
  clear h hc
  have HX : Hid (∀ j i, plcK ms k j = some i → j ≤ ms.length → idxI ms k = i) := Lib.hid (fun j i h hj => by
    have := plcK_more ms k h (ms.length - j)
    rw [show j + (ms.length - j) = ms.length by omega] at this
    unfold idxI findI
    rw [this])
  have HN : Hid (plcK ms k ms.length = none → idxI ms k = -1) := Lib.hid (fun h => by
    unfold idxI findI
    rw [h])
  obtain ⟨n, hn⟩ : ∃ n, n = ms.length := ⟨_, rfl⟩
  have HL := Lib.hid hn
  rw [← hn] at hn5 HX HN
  have hvn : (Value.slice a ms.length cap) = .slice a n cap := by rw [hn]
  rw [hvn]
  clear hvn hn
  go_enter Try.func19, Try.ntmps19
  go_wp2
  go_loopw [8] (fun i wr => ∃ j : Nat, i = .int .i64 j ∧ j ≤ n ∧ plcK ms k j = none ∧ Below w.heap.size w wr) (fun i _ => n - (intOf i).toNat)
  case atStart => exact ⟨0, rfl, by omega, rfl, Below.refl _ _⟩
  case round =>
    obtain ⟨j, rfl, hjn, hno, hb⟩ := hrel
    have HB := Lib.hid hb
    have HNO := Lib.hid hno
    clear hno hb
    by_cases h2 : j < n
    · have d2 : decide (j < n) = true := decide_eq_true h2
      have hjl : j < ms.length := by rw [← HL.out]; exact h2
      have hO2 := own_kp2 HO.out (Kp.new (S := fun _ => False) HB.out) (fun _ _ h => h)
      obtain ⟨g, cap', he⟩ := own_some HO.out (by omega)
      simp only [Value.slice.injEq, true_and] at he
      obtain ⟨rfl, rfl⟩ := he
      obtain ⟨c0, c1⟩ := row_cells hO2 j hjl
      have HST : Hid (plcK ms k (j + 1) = if ms[j].1 = k then some j else none) := Lib.hid (by
        rw [plcK, HNO.out]
        simp only [dif_pos hjl])
      generalize ms[j].1 = X at *
      generalize ms[j].2 = Y at *
      clear hO2
      go_wp2_with fail
      refine (clos_any X Y k c _ (HC.out.keep HB.out)).mono ?_
      rintro e w2 ⟨rfl, hb2⟩
      have HB2 := Lib.hid (below_cons HB.out hb2)
      clear hb2
      by_cases e : X = k
      · have e1 := str_eq e
        have HR := Lib.hid (HX.out (j + 1) j (by rw [HST.out, if_pos e]) (by omega))
        clear e
        go_wp2
        go_ret
        rw [HR.out]
        exact ⟨rfl, HB2.out⟩
      · have e1 := str_ne e
        have HR : Hid (plcK ms k (j + 1) = none) := Lib.hid (by rw [HST.out, if_neg e])
        clear e
        go_wp2
        go_round
        case rel => exact ⟨j + 1, by go_num, by omega, HR.out, HB2.out⟩
        case measure => simp [intOf]; omega
    · have d2 : decide (j < n) = false := decide_eq_false h2
      obtain rfl : j = n := by omega
      have HR := Lib.hid (HN.out HNO.out)
      clear h2
      go_wp2
      go_ret
      rw [HR.out]
      exact ⟨rfl, HB.out⟩
end Go.Proofs.Ythahddaihkajbaa

