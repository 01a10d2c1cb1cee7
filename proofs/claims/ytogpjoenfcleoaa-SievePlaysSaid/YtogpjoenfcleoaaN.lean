/-
  The walk of SieveJoins.
-/
import Derived.Test.YtogpjoenfcleoaaM
import Derived.Test.YtogpjoenfcleoaaStrs
set_option linter.unusedVariables false
set_option linter.unusedSimpArgs false
namespace Go.Proofs.Ytogpjoenfcleoaa
open Go.RowKit
theorem sl_str {w : World} {a : Option Addr} {xs : List ByteArray} (h : Sl strC 1 w a xs) (i : Nat) (hi : i < xs.length) : ∃ b o, a = some ⟨b, o, none⟩ ∧ b < w.heap.size ∧ w.cell? ⟨b, o + i, none⟩ = some (.string xs[i]) := by
  obtain ⟨b, o, ha, hb, hc⟩ := h i hi
  refine ⟨b, o, ha, hb, ?_⟩
  have := hc 0 (.string xs[i]) rfl
  simpa using this
def Had (M : List Bool) (l : List ByteArray) (k : Nat) : Prop := ∀ j (h : j < l.length), j < k → l[j].size ≤ 100 → hasN M l[j] 256 4 = true
theorem had_zero (M : List Bool) (l : List ByteArray) : Had M l 0 := fun j _ h => by omega
theorem had_skip {M : List Bool} {l : List ByteArray} {k : Nat} (h : Had M l k) (hk : k < l.length) (hs : ¬ l[k].size ≤ 100) : Had M l (k + 1) := fun j hj hjk h100 => by
  by_cases e : j = k
  · subst e; exact absurd h100 hs
  · exact h j hj (by omega) h100
theorem had_add {M : List Bool} {l : List ByteArray} {k : Nat} (h : Had M l k) (hk : k < l.length) (hm : M.length = 4096) : Had (addN M l[k] 256 4) l (k + 1) := fun j hj hjk h100 => by
  by_cases e : j = k
  · subst e; exact has_add _ _ _ _ (by omega) (by omega)
  · exact has_keep _ _ _ _ _ (by omega) (by omega) (h j hj (by omega) h100)
set_option maxHeartbeats 4000000 in
theorem joins_long (a : Option Addr) (n c : Nat) (b : Option Addr) (m d : Nat) (w : World) (h : 30 < n ∨ 30 < m) (hn : n ≤ 9223372036854775807) (hm : m ≤ 9223372036854775807) : Calls Try.prog 4 #[.slice a n c, .slice b m d] w fun e w' => e = .returned (.bool true) ∧ Below w.heap.size w w' := by
  by_cases h1 : 30 < n
  · have g1 : (30 : Int) < (n : Int) := by omega
    go_enter Try.func4, Try.ntmps4
    go_wp2_with fail
    refine (awake_any _).mono ?_
    rintro e w1 ⟨rfl, hb⟩
    go_wp2
    go_ret
    exact ⟨rfl, hb⟩
  · have g1 : ¬ (30 : Int) < (n : Int) := by omega
    have g2 : (30 : Int) < (m : Int) := by omega
    go_enter Try.func4, Try.ntmps4
    go_wp2_with fail
    refine (awake_any _).mono ?_
    rintro e w1 ⟨rfl, hb⟩
    go_wp2
    go_ret
    exact ⟨rfl, hb⟩
set_option maxRecDepth 100000 in
set_option maxHeartbeats 16000000 in
theorem joins_walk (l r : List ByteArray) (a b : Option Addr) (c d : Nat) (w : World) (hl : l.length ≤ 30) (hr : r.length ≤ 30) (ha : Sl strC 1 w a l) (hb : Sl strC 1 w b r) : Calls Try.prog 4 #[.slice a l.length c, .slice b r.length d] w fun e w' => e = .returned (.bool true) ∧ Below w.heap.size w w' := by
  have HA := Lib.hid ha; have HR := Lib.hid hb
  clear ha hb
  have g1 : ¬ (30 : Int) < (l.length : Int) := by omega
  have g2 : ¬ (30 : Int) < (r.length : Int) := by omega
  go_enter Try.func4, Try.ntmps4
  go_wp2_with fail
  refine (new_any 256 4 w (by omega) (by omega) (by omega) (by omega)).mono ?_
  rintro e w1 ⟨rfl, hq, hb⟩
  obtain ⟨p, hp⟩ : ∃ p, p = w.heap.size := ⟨_, rfl⟩
  rw [← hp] at hq ⊢
  have hq : Bk p (svC noM 256 4) w1 := hq
  have HQ := Lib.hid hq; have HB := Lib.hid hb; have HP := Lib.hid hp
  clear hq hb hp
  go_wp2_with fail
  refine (new_any 256 4 w1 (by omega) (by omega) (by omega) (by omega)).mono ?_
  rintro e w2 ⟨rfl, hq, hb⟩
  have hpq : p < w1.heap.size := HQ.out.1
  obtain ⟨q, hp⟩ : ∃ q, q = w1.heap.size := ⟨_, rfl⟩
  rw [← hp] at hq hpq ⊢
  have hq : Bk q (svC noM 256 4) w2 := hq
  have HO := Lib.hid hq; have HQ2 := Lib.hid (HQ.out.keep hb); have HB2 := Lib.hid (below_step HB.out (Nat.le_refl _) hb); have HPQ := Lib.hid hpq
  clear hq hb hp hpq
  go_wp2
  clear g1 g2
  go_loopw [9] (fun i wr => ∃ (k : Nat) (M : List Bool), i = .int .i64 k ∧ k ≤ l.length ∧ M.length = 4096 ∧ Had M l k ∧ Bk p (svC M 256 4) wr ∧ Bk q (svC noM 256 4) wr ∧ Below w.heap.size w wr) (fun i _ => l.length - (intOf i).toNat)
  case atStart => exact ⟨0, noM, rfl, by omega, noM_len, had_zero _ _, HQ2.out, HO.out, HB2.out⟩
  case round =>
    obtain ⟨k, M, rfl, hk, hml, hhad, hbp, hbq, hbw⟩ := hrel
    have HML := Lib.hid hml; have HH := Lib.hid hhad; have HBP := Lib.hid hbp; have HBQ := Lib.hid hbq; have HBW := Lib.hid hbw
    clear hml hhad hbp hbq hbw
    by_cases hlt : k < l.length
    · have d1 : (k : Int) < (l.length : Int) := by omega
      have d2 : (0 : Int) ≤ (k : Int) := by omega
      obtain ⟨b1, o1, rfl, hb1, hc1⟩ := sl_str (HA.out.keep HBW.out) k hlt
      by_cases hs : l[k].size ≤ 100
      · have HH2 := Lib.hid (had_add HH.out hlt HML.out)
        obtain ⟨X, hX⟩ : ∃ X, X = l[k] := ⟨_, rfl⟩
        rw [← hX] at hc1 hs HH2
        have d3 : (X.size : Int) ≤ 100 := by omega
        clear hX
        go_wp2_with fail
        refine (add_any p M 256 4 X wr HBP.out HML.out (by omega) (by omega) (by omega) (by omega)).mono ?_
        rintro e w3 ⟨rfl, hq, hkp⟩
        have HBP3 := Lib.hid hq
        have HBQ3 := Lib.hid (HBQ.out.kp hkp (fun e => by have := HPQ.out; omega))
        have HBW3 := Lib.hid (HBW.out.trans (hkp.below (B := w.heap.size) (by have := HBP.out.1; have := HP.out; omega) (fun j hj => by rw [hj, HP.out]; exact Nat.le_refl _)))
        have HML3 : Hid ((addN M X 256 4).length = 4096) := Lib.hid (by rw [addN_len]; exact HML.out)
        clear hq hkp hc1
        go_wp2
        go_roundw
        case rel => exact ⟨k + 1, addN M X 256 4, by go_num, by omega, HML3.out, HH2.out, HBP3.out, HBQ3.out, HBW3.out⟩
        case measure => simp [intOf]; omega
      · have HH2 := Lib.hid (had_skip HH.out hlt hs)
        obtain ⟨X, hX⟩ : ∃ X, X = l[k] := ⟨_, rfl⟩
        rw [← hX] at hc1 hs
        have d3 : ¬ (X.size : Int) ≤ 100 := by omega
        clear hX
        go_wp2
        go_roundw
        case rel => exact ⟨k + 1, M, by go_num, by omega, HML.out, HH2.out, HBP.out, HBQ.out, HBW.out⟩
        case measure => simp [intOf]; omega
    · obtain rfl : k = l.length := by omega
      have d1 : ¬ (l.length : Int) < (l.length : Int) := by omega
      clear hk hlt
      go_wp2
      clear d1
      obtain ⟨wo, hwo⟩ : ∃ wo : World, wo = wr := ⟨_, rfl⟩
      rw [← hwo] at HBP HBQ HBW ⊢
      clear hwo
      go_loopw [10] (fun i wr => ∃ (k : Nat) (N : List Bool), i = .int .i64 k ∧ k ≤ r.length ∧ N.length = 4096 ∧ Had N r k ∧ Bk q (svC N 256 4) wr ∧ Bk p (svC M 256 4) wr ∧ Below w.heap.size w wr) (fun i _ => r.length - (intOf i).toNat)
      case atStart => exact ⟨0, noM, rfl, by omega, noM_len, had_zero _ _, HBQ.out, HBP.out, HBW.out⟩
      case round =>
        clear HBP HBQ HBW
        obtain ⟨k, N, rfl, hk, hnl, hhad, hbq, hbp, hbw⟩ := hrel
        have HNL := Lib.hid hnl; have HG := Lib.hid hhad; have HBP := Lib.hid hbp; have HBQ := Lib.hid hbq; have HBW := Lib.hid hbw
        clear hnl hhad hbp hbq hbw
        by_cases hlt : k < r.length
        · have d1 : (k : Int) < (r.length : Int) := by omega
          have d2 : (0 : Int) ≤ (k : Int) := by omega
          obtain ⟨b1, o1, rfl, hb1, hc1⟩ := sl_str (HR.out.keep HBW.out) k hlt
          by_cases hs : r[k].size ≤ 100
          · have HH2 := Lib.hid (had_add HG.out hlt HNL.out)
            obtain ⟨X, hX⟩ : ∃ X, X = r[k] := ⟨_, rfl⟩
            rw [← hX] at hc1 hs HH2
            have d3 : (X.size : Int) ≤ 100 := by omega
            clear hX
            go_wp2_with fail
            refine (add_any q N 256 4 X wr HBQ.out HNL.out (by omega) (by omega) (by omega) (by omega)).mono ?_
            rintro e w3 ⟨rfl, hq, hkp⟩
            have HBQ3 := Lib.hid hq
            have HBP3 := Lib.hid (HBP.out.kp hkp (fun e => by have := HPQ.out; omega))
            have HBW3 := Lib.hid (HBW.out.trans (hkp.below (B := w.heap.size) (by have := HBP.out.1; have := HP.out; omega) (fun j hj => by rw [hj]; have := HPQ.out; have := HP.out; omega)))
            have HML3 : Hid ((addN N X 256 4).length = 4096) := Lib.hid (by rw [addN_len]; exact HNL.out)
            clear hq hkp hc1
            go_wp2
            go_roundw
            case rel => exact ⟨k + 1, addN N X 256 4, by go_num, by omega, HML3.out, HH2.out, HBQ3.out, HBP3.out, HBW3.out⟩
            case measure => simp [intOf]; omega
          · have HH2 := Lib.hid (had_skip HG.out hlt hs)
            obtain ⟨X, hX⟩ : ∃ X, X = r[k] := ⟨_, rfl⟩
            rw [← hX] at hc1 hs
            have d3 : ¬ (X.size : Int) ≤ 100 := by omega
            clear hX
            go_wp2
            go_roundw
            case rel => exact ⟨k + 1, N, by go_num, by omega, HNL.out, HH2.out, HBQ.out, HBP.out, HBW.out⟩
            case measure => simp [intOf]; omega
        · obtain rfl : k = r.length := by omega
          have d1 : ¬ (r.length : Int) < (r.length : Int) := by omega
          clear hk hlt
          go_wp2_with fail
          refine (join_yes p q M N 256 4 wr HBP.out HML.out HBQ.out HNL.out).mono ?_
          rintro e w4 ⟨rfl, hq, hkp⟩
          have HJ : Hid (∀ X, X.size ≤ 100 → (hasN M X 256 4 = true ∨ hasN N X 256 4 = true) → hasN (joinN M N 4096) X 256 4 = true) := Lib.hid (fun X _ hx => by
            have hm := HML.out
            rcases hx with hx | hx
            · rw [← hm]; exact join_left M N X 256 4 (by omega) (by omega) hx
            · rw [← hm]; exact join_right M N X 256 4 (by omega) (by omega) hx)
          have HJL : Hid ((joinN M N 4096).length = 4096) := Lib.hid (by rw [joinN_len]; exact HML.out)
          obtain ⟨J, hJ⟩ : ∃ J, J = joinN M N 4096 := ⟨_, rfl⟩
          rw [← hJ] at hq HJ HJL
          have HBJ := Lib.hid hq
          have HBQ4 := Lib.hid (HBQ.out.kp hkp (fun e => by have := HPQ.out; omega))
          have HBW4 := Lib.hid (HBW.out.trans (hkp.below (B := w.heap.size) (by have := HBP.out.1; have := HP.out; omega) (fun j hj => by rw [hj, HP.out]; exact Nat.le_refl _)))
          clear hJ hq hkp d1 HBP HBQ HBW
          go_wp2
          obtain ⟨wo2, hwo⟩ : ∃ wo : World, wo = w4 := ⟨_, rfl⟩
          rw [← hwo] at HBJ HBQ4 HBW4 ⊢
          clear hwo
          go_loopw [11] (fun i wr => ∃ (k : Nat), i = .int .i64 k ∧ k ≤ l.length ∧ Bk p (svC J 256 4) wr ∧ Below w.heap.size w wr) (fun i _ => l.length - (intOf i).toNat)
          case atStart => exact ⟨0, rfl, by omega, HBJ.out, HBW4.out⟩
          case round =>
            clear HBJ HBQ4 HBW4
            obtain ⟨k, rfl, hk, hbp, hbw⟩ := hrel
            have HBP := Lib.hid hbp; have HBW := Lib.hid hbw
            clear hbp hbw
            by_cases hlt : k < l.length
            · have d1 : (k : Int) < (l.length : Int) := by omega
              have d2 : (0 : Int) ≤ (k : Int) := by omega
              obtain ⟨b1, o1, rfl, hb1, hc1⟩ := sl_str (HA.out.keep HBW.out) k hlt
              by_cases hs : l[k].size ≤ 100
              · have HY : Hid (hasN J l[k] 256 4 = true) := Lib.hid (HJ.out _ hs (.inl (HH.out k hlt hlt hs)))
                obtain ⟨X, hX⟩ : ∃ X, X = l[k] := ⟨_, rfl⟩
                rw [← hX] at hc1 hs HY
                have d3 : (X.size : Int) ≤ 100 := by omega
                clear hX
                go_wp2_with fail
                have T := has_any p J 256 4 X wr HBP.out HJL.out (by omega) (by omega) (by omega) (by omega)
                rw [HY.out] at T
                refine T.mono ?_
                clear T
                rintro e w5 ⟨rfl, hb⟩
                have HBP5 := Lib.hid (HBP.out.keep hb); have HBW5 := Lib.hid (below_step HBW.out (Nat.le_refl _) hb)
                clear hb hc1
                go_wp2
                go_roundw
                case rel => exact ⟨k + 1, by go_num, by omega, HBP5.out, HBW5.out⟩
                case measure => simp [intOf]; omega
              · obtain ⟨X, hX⟩ : ∃ X, X = l[k] := ⟨_, rfl⟩
                rw [← hX] at hc1 hs
                have d3 : ¬ (X.size : Int) ≤ 100 := by omega
                clear hX
                go_wp2
                go_roundw
                case rel => exact ⟨k + 1, by go_num, by omega, HBP.out, HBW.out⟩
                case measure => simp [intOf]; omega
            · obtain rfl : k = l.length := by omega
              have d1 : ¬ (l.length : Int) < (l.length : Int) := by omega
              clear hk hlt
              go_wp2
              clear d1
              obtain ⟨wo3, hwo⟩ : ∃ wo : World, wo = wr := ⟨_, rfl⟩
              rw [← hwo] at HBP HBW ⊢
              clear hwo
              go_loopw [12] (fun i wr => ∃ (k : Nat), i = .int .i64 k ∧ k ≤ r.length ∧ Bk p (svC J 256 4) wr ∧ Below w.heap.size w wr) (fun i _ => r.length - (intOf i).toNat)
              case atStart => exact ⟨0, rfl, by omega, HBP.out, HBW.out⟩
              case round =>
                clear HBP HBW
                obtain ⟨k, rfl, hk, hbp, hbw⟩ := hrel
                have HBP := Lib.hid hbp; have HBW := Lib.hid hbw
                clear hbp hbw
                by_cases hlt : k < r.length
                · have d1 : (k : Int) < (r.length : Int) := by omega
                  have d2 : (0 : Int) ≤ (k : Int) := by omega
                  obtain ⟨b1, o1, rfl, hb1, hc1⟩ := sl_str (HR.out.keep HBW.out) k hlt
                  by_cases hs : r[k].size ≤ 100
                  · have HY : Hid (hasN J r[k] 256 4 = true) := Lib.hid (HJ.out _ hs (.inr (HG.out k hlt hlt hs)))
                    obtain ⟨X, hX⟩ : ∃ X, X = r[k] := ⟨_, rfl⟩
                    rw [← hX] at hc1 hs HY
                    have d3 : (X.size : Int) ≤ 100 := by omega
                    clear hX
                    go_wp2_with fail
                    have T := has_any p J 256 4 X wr HBP.out HJL.out (by omega) (by omega) (by omega) (by omega)
                    rw [HY.out] at T
                    refine T.mono ?_
                    clear T
                    rintro e w5 ⟨rfl, hb⟩
                    have HBP5 := Lib.hid (HBP.out.keep hb); have HBW5 := Lib.hid (below_step HBW.out (Nat.le_refl _) hb)
                    clear hb hc1
                    go_wp2
                    go_roundw
                    case rel => exact ⟨k + 1, by go_num, by omega, HBP5.out, HBW5.out⟩
                    case measure => simp [intOf]; omega
                  · obtain ⟨X, hX⟩ : ∃ X, X = r[k] := ⟨_, rfl⟩
                    rw [← hX] at hc1 hs
                    have d3 : ¬ (X.size : Int) ≤ 100 := by omega
                    clear hX
                    go_wp2
                    go_roundw
                    case rel => exact ⟨k + 1, by go_num, by omega, HBP.out, HBW.out⟩
                    case measure => simp [intOf]; omega
                · obtain rfl : k = r.length := by omega
                  have d1 : ¬ (r.length : Int) < (r.length : Int) := by omega
                  clear hk hlt
                  have hx : (⟨#[120]⟩ : ByteArray) = zx := rfl
                  go_wp2_with fail
                  refine (add_nil zx wr).mono ?_
                  rintro e w6 ⟨rfl, rfl⟩
                  go_wp2_with fail
                  refine (has_nil zx _).mono ?_
                  rintro e w6 ⟨rfl, rfl⟩
                  go_wp2_with fail
                  refine (count_nil _).mono ?_
                  rintro e w6 ⟨rfl, rfl⟩
                  go_wp2_with fail
                  refine (join_nil1 _ _).mono ?_
                  rintro e w6 ⟨rfl, n1, rfl⟩
                  go_wp2_with fail
                  refine (join_nil2 p _).mono ?_
                  rintro e w6 ⟨rfl, n2, rfl⟩
                  have HBX := Lib.hid (below_drewN' HBW.out (n1 + n2))
                  go_wp2_with fail
                  refine (awake_any _).mono ?_
                  rintro e w6 ⟨rfl, hb⟩
                  have HBY := Lib.hid (below_step HBX.out (Nat.le_refl _) hb)
                  clear hb
                  go_wp2
                  go_ret
                  exact ⟨rfl, HBY.out⟩
theorem joins_law (u : Value) (l : List ByteArray) (v : Value) (r : List ByteArray) (w : World) (h : StrsOk l w u) (h2 : StrsOk r w v) : Calls Try.prog 4 #[u, v] w fun e w' => e = .returned (.bool true) ∧ Below w.heap.size w w' := by
  obtain ⟨a, c, rfl, _, hl, hs, _⟩ := h
  obtain ⟨b, d, rfl, _, hr, ht, _⟩ := h2
  unfold maxLen at hl hr
  by_cases h1 : 30 < l.length ∨ 30 < r.length
  · exact joins_long a l.length c b r.length d w h1 hl hr
  · exact joins_walk l r a b c d w (by omega) (by omega) hs ht
end Go.Proofs.Ytogpjoenfcleoaa

