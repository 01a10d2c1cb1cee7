/-
  The contracts of Apart, the code's and the law's own.
-/
import Derived.Test.YtlhniaecgiockaaB
set_option linter.unusedVariables false
set_option linter.unusedSimpArgs false
namespace Go.Proofs.Ytlhniaecgiockaa
open Go.RowKit
theorem apF_same {a b : List ByteArray} {f i : Nat} (h1 : i < a.length) (h2 : i < b.length) (h : a[i] = b[i]) : apF a b (f + 1) i = apF a b f (i + 1) := by
  rw [apF, if_pos ⟨h1, h2, by rw [List.getD_eq_getElem?_getD, List.getD_eq_getElem?_getD, List.getElem?_eq_getElem h1, List.getElem?_eq_getElem h2]; exact h⟩]
theorem apF_apart {a b : List ByteArray} {f i : Nat} (h : ¬ (i < a.length ∧ i < b.length)) : apF a b (f + 1) i = i := by
  rw [apF, if_neg (fun e => h ⟨e.1, e.2.1⟩)]
theorem apF_other {a b : List ByteArray} {f i : Nat} (h1 : i < a.length) (h2 : i < b.length) (h : ¬ a[i] = b[i]) : apF a b (f + 1) i = i := by
  rw [apF, if_neg (fun e => h (by
    have e2 := e.2.2
    rw [List.getD_eq_getElem?_getD, List.getD_eq_getElem?_getD, List.getElem?_eq_getElem h1, List.getElem?_eq_getElem h2] at e2
    exact e2))]
set_option maxHeartbeats 4000000 in
theorem apart_any (l m : List ByteArray) (a b : Option Addr) (c d : Nat) (w : World) (ha : Sl strC 1 w a l) (hb : Sl strC 1 w b m) (hl : l.length ≤ 1000000) (hm : m.length ≤ 1000000) : Calls Try.prog 13 #[.slice a l.length c, .slice b m.length d] w fun e w' => e = .returned (.int .i64 (apV l m)) ∧ ∃ n, w' = w.drewN n := by
  have HA := Lib.hid ha; have HB := Lib.hid hb
  clear ha hb
  obtain ⟨V, hV⟩ : ∃ V, V = apV l m := ⟨_, rfl⟩
  rw [← hV]
  unfold apV at hV
  have HV := Lib.hid hV
  have hmx : mx (l.length : Int) (m.length : Int) = ((max l.length m.length : Nat) : Int) := by rw [mx_eq]; omega
  have hM1 : l.length ≤ max l.length m.length := by omega
  have hM2 : m.length ≤ max l.length m.length := by omega
  have hM3 : max l.length m.length ≤ 1000000 := by omega
  have hM4 : max l.length m.length ≤ l.length ∨ max l.length m.length ≤ m.length := by omega
  have hmax := max2_int; have hmax2 := max_two
  obtain ⟨M, hM⟩ : ∃ M, M = max l.length m.length := ⟨_, rfl⟩
  rw [← hM] at HV hmx hM1 hM2 hM3 hM4
  clear hM hV
  go_enter Try.func13, Try.ntmps13
  go_wp2
  clear hmax hmax2 hmx
  go_loopw [11] (fun i wr => ∃ k : Nat, i = .int .i64 k ∧ k ≤ M ∧ apF l m (M - k) k = V ∧ ∃ n, wr = w.drewN n) (fun i _ => M - (intOf i).toNat)
  case atStart => exact ⟨0, rfl, by omega, HV.out.symm, 0, rfl⟩
  case round =>
    obtain ⟨k, rfl, hk, hap, n, rfl⟩ := hrel
    have HP := Lib.hid hap
    clear hap
    by_cases hlt : k < M
    · have d1 : (k : Int) < (M : Int) := by omega
      have d2 : (0 : Int) ≤ (k : Int) := by omega
      by_cases h1 : k < l.length
      · by_cases h2 : k < m.length
        · have e1 : (k : Int) < (l.length : Int) := by omega
          have e2 : (k : Int) < (m.length : Int) := by omega
          have f1 : decide (l.length ≤ k) = false := decide_eq_false (by omega)
          have f2 : decide (m.length ≤ k) = false := decide_eq_false (by omega)
          obtain ⟨b1, o1, rfl, hb1, hc1⟩ := slT_str HA.out k h1
          obtain ⟨b2, o2, rfl, hb2, hc2⟩ := slT_str HB.out k h2
          by_cases hxy : l[k] = m[k]
          · have HP2 : Hid (apF l m (M - (k + 1)) (k + 1) = V) := Lib.hid (by
              rw [← HP.out, show M - k = (M - (k + 1)) + 1 by omega, apF_same h1 h2 hxy])
            have e3 := str_eq hxy
            obtain ⟨X, hX⟩ : ∃ X, X = l[k] := ⟨_, rfl⟩
            obtain ⟨Y, hY⟩ : ∃ Y, Y = m[k] := ⟨_, rfl⟩
            rw [← hX] at hc1 e3
            rw [← hY] at hc2 e3
            clear hX hY hxy hM4
            go_wp2
            go_quiet (fail)
            go_wp2
            go_roundw
            case rel => exact ⟨k + 1, by go_num, by omega, HP2.out, n + nq, rfl⟩
            case measure => simp [intOf]; omega
          · have HP2 : Hid (V = (k : Int)) := Lib.hid (by
              rw [← HP.out, show M - k = (M - (k + 1)) + 1 by omega, apF_other h1 h2 hxy])
            have e3 := str_ne hxy
            obtain ⟨X, hX⟩ : ∃ X, X = l[k] := ⟨_, rfl⟩
            obtain ⟨Y, hY⟩ : ∃ Y, Y = m[k] := ⟨_, rfl⟩
            rw [← hX] at hc1 e3
            rw [← hY] at hc2 e3
            clear hX hY hxy hM4
            go_wp2
            go_quiet (fail)
            go_wp2
            go_ret
            rw [HP2.out]
            exact ⟨rfl, n + nq, by simp only [World.drewN_drewN]⟩
        · have e1 : (k : Int) < (l.length : Int) := by omega
          have e2 : ¬ (k : Int) < (m.length : Int) := by omega
          have f1 : decide (l.length ≤ k) = false := decide_eq_false (by omega)
          have f2 : decide (m.length ≤ k) = true := decide_eq_true (by omega)
          have e3 : (m.length : Int) ≤ (k : Int) := by omega
          have HP2 : Hid (V = (k : Int)) := Lib.hid (by
            rw [← HP.out, show M - k = (M - (k + 1)) + 1 by omega, apF_apart (by omega)])
          clear hM4
          go_wp2
          go_quiet (fail)
          go_wp2
          go_ret
          rw [HP2.out]
          exact ⟨rfl, n + nq, by simp only [World.drewN_drewN]⟩
      · have e1 : ¬ (k : Int) < (l.length : Int) := by omega
        have e3 : (l.length : Int) ≤ (k : Int) := by omega
        have f1 : decide (l.length ≤ k) = true := decide_eq_true (by omega)
        have HP2 : Hid (V = (k : Int)) := Lib.hid (by
          rw [← HP.out, show M - k = (M - (k + 1)) + 1 by omega, apF_apart (by omega)])
        clear hM4
        go_wp2
        go_quiet (fail)
        go_wp2
        go_ret
        rw [HP2.out]
        exact ⟨rfl, n + nq, by simp only [World.drewN_drewN]⟩
    · obtain rfl : k = M := by omega
      have d1 : ¬ (k : Int) < (k : Int) := by omega
      have HP2 : Hid (V = -1) := Lib.hid (by rw [← HP.out, Nat.sub_self]; rfl)
      clear hM4
      go_wp2
      go_ret
      rw [HP2.out]
      exact ⟨rfl, n, rfl⟩
set_option maxHeartbeats 4000000 in
theorem rapart_any (l m : List ByteArray) (a b : Option Addr) (c d : Nat) (w : World) (ha : Sl strC 1 w a l) (hb : Sl strC 1 w b m) (hl : l.length ≤ 1000000) (hm : m.length ≤ 1000000) : Calls Try.prog 14 #[.slice a l.length c, .slice b m.length d] w fun e w' => e = .returned (.int .i64 (apV l m)) ∧ ∃ n, w' = w.drewN n := by
  have HA := Lib.hid ha; have HB := Lib.hid hb
  clear ha hb
  obtain ⟨V, hV⟩ : ∃ V, V = apV l m := ⟨_, rfl⟩
  rw [← hV]
  unfold apV at hV
  have HV := Lib.hid hV
  have hM1 : l.length ≤ max l.length m.length := by omega
  have hM2 : m.length ≤ max l.length m.length := by omega
  have hM3 : max l.length m.length ≤ 1000000 := by omega
  have hM4 : max l.length m.length ≤ l.length ∨ max l.length m.length ≤ m.length := by omega
  obtain ⟨M, hM⟩ : ∃ M, M = max l.length m.length := ⟨_, rfl⟩
  rw [← hM] at HV hM1 hM2 hM3 hM4
  have HM4 := Lib.hid hM4
  clear hM hV hM4
  go_enter Try.func14, Try.ntmps14
  go_wp2
  go_loopw [5] (fun i wr => ∃ k : Nat, i = .int .i64 k ∧ k ≤ M ∧ apF l m (M - k) k = V ∧ ∃ n, wr = w.drewN n) (fun i _ => M - (intOf i).toNat)
  case atStart => exact ⟨0, rfl, by omega, HV.out.symm, 0, rfl⟩
  case round =>
    obtain ⟨k, rfl, hk, hap, n, rfl⟩ := hrel
    have HP := Lib.hid hap
    clear hap
    by_cases hlt : k < M
    · have d2 : (0 : Int) ≤ (k : Int) := by omega
      by_cases h1 : k < l.length
      · by_cases h2 : k < m.length
        · have e1 : (k : Int) < (l.length : Int) := by omega
          have e2 : (k : Int) < (m.length : Int) := by omega
          have f1 : decide (l.length ≤ k) = false := decide_eq_false (by omega)
          have f2 : decide (m.length ≤ k) = false := decide_eq_false (by omega)
          obtain ⟨b1, o1, rfl, hb1, hc1⟩ := slT_str HA.out k h1
          obtain ⟨b2, o2, rfl, hb2, hc2⟩ := slT_str HB.out k h2
          by_cases hxy : l[k] = m[k]
          · have HP2 : Hid (apF l m (M - (k + 1)) (k + 1) = V) := Lib.hid (by
              rw [← HP.out, show M - k = (M - (k + 1)) + 1 by omega, apF_same h1 h2 hxy])
            have e3 := str_eq hxy
            obtain ⟨X, hX⟩ : ∃ X, X = l[k] := ⟨_, rfl⟩
            obtain ⟨Y, hY⟩ : ∃ Y, Y = m[k] := ⟨_, rfl⟩
            rw [← hX] at hc1 e3
            rw [← hY] at hc2 e3
            clear hX hY hxy
            go_wp2
            go_quiet (fail)
            go_wp2
            go_roundw
            case rel => exact ⟨k + 1, by go_num, by omega, HP2.out, n + nq, rfl⟩
            case measure => simp [intOf]; omega
          · have HP2 : Hid (V = (k : Int)) := Lib.hid (by
              rw [← HP.out, show M - k = (M - (k + 1)) + 1 by omega, apF_other h1 h2 hxy])
            have e3 := str_ne hxy
            obtain ⟨X, hX⟩ : ∃ X, X = l[k] := ⟨_, rfl⟩
            obtain ⟨Y, hY⟩ : ∃ Y, Y = m[k] := ⟨_, rfl⟩
            rw [← hX] at hc1 e3
            rw [← hY] at hc2 e3
            clear hX hY hxy
            go_wp2
            go_quiet (fail)
            go_wp2
            go_ret
            rw [HP2.out]
            exact ⟨rfl, n + nq, by simp only [World.drewN_drewN]⟩
        · have e1 : (k : Int) < (l.length : Int) := by omega
          have e2 : ¬ (k : Int) < (m.length : Int) := by omega
          have f1 : decide (l.length ≤ k) = false := decide_eq_false (by omega)
          have f2 : decide (m.length ≤ k) = true := decide_eq_true (by omega)
          have e3 : (m.length : Int) ≤ (k : Int) := by omega
          have HP2 : Hid (V = (k : Int)) := Lib.hid (by
            rw [← HP.out, show M - k = (M - (k + 1)) + 1 by omega, apF_apart (by omega)])
          go_wp2
          go_quiet (fail)
          go_wp2
          go_ret
          rw [HP2.out]
          exact ⟨rfl, n + nq, by simp only [World.drewN_drewN]⟩
      · have e1 : ¬ (k : Int) < (l.length : Int) := by omega
        have e2 : (k : Int) < (m.length : Int) := by have := HM4.out; omega
        have e3 : (l.length : Int) ≤ (k : Int) := by omega
        have f1 : decide (l.length ≤ k) = true := decide_eq_true (by omega)
        have HP2 : Hid (V = (k : Int)) := Lib.hid (by
          rw [← HP.out, show M - k = (M - (k + 1)) + 1 by omega, apF_apart (by omega)])
        go_wp2
        go_quiet (fail)
        go_wp2
        go_ret
        rw [HP2.out]
        exact ⟨rfl, n + nq, by simp only [World.drewN_drewN]⟩
    · obtain rfl : k = M := by omega
      have e1 : ¬ (k : Int) < (l.length : Int) := by omega
      have e2 : ¬ (k : Int) < (m.length : Int) := by omega
      have HP2 : Hid (V = -1) := Lib.hid (by rw [← HP.out, Nat.sub_self]; rfl)
      go_wp2
      go_ret
      rw [HP2.out]
      exact ⟨rfl, n, rfl⟩
end Go.Proofs.Ytlhniaecgiockaa

