/-
  The contract of check.
-/
import Derived.Test.YtddonekagmnokaaA
set_option linter.unusedVariables false
set_option linter.unusedSimpArgs false
namespace Go.Proofs.Ytddonekagmnokaa
open Go.RowKit
def pairC (p : Int × Int) : List Value := [.int .i64 p.1, .int .i64 p.2]
def inN (n : Int) (p : Int × Int) : Prop := (0 ≤ p.1 ∧ p.1 < n) ∧ 0 ≤ p.2 ∧ p.2 < n
def okN (n : Int) (E : List (Int × Int)) : Prop := ∀ p ∈ E, inN n p
def PairAt (w : World) (a : Option Addr) (k : Nat) (x y : Int) : Prop := ∃ b o, a = some ⟨b, o, none⟩ ∧ b < w.heap.size ∧ ∀ W, Below w.heap.size w W → W.cell? ⟨b, o + k * 2, none⟩ = some (.int .i64 x) ∧ W.cell? ⟨b, o + k * 2 + 1, none⟩ = some (.int .i64 y)
theorem pair_at {w : World} {a : Option Addr} {E : List (Int × Int)} (hs : Sl pairC 2 w a E) {k : Nat} (hk : k < E.length) : PairAt w a k E[k].1 E[k].2 := by
  obtain ⟨b, o, rfl, hb, hc⟩ := hs k hk
  exact ⟨b, o, rfl, hb, fun W h => ⟨(h.cell (p := ⟨b, o + k * 2, none⟩) hb).trans (hc 0 _ rfl), (h.cell (p := ⟨b, o + k * 2 + 1, none⟩) hb).trans (hc 1 _ rfl)⟩⟩
theorem ok_take {n : Int} {E : List (Int × Int)} {k : Nat} (hk : k < E.length) (h : ∀ p ∈ E.take k, inN n p) (h2 : inN n E[k]) : ∀ p ∈ E.take (k + 1), inN n p := by
  intro p hp
  rw [List.take_succ_eq_append_getElem hk] at hp
  rcases List.mem_append.1 hp with h1 | h1
  · exact h p h1
  · rw [List.mem_singleton.1 h1]; exact h2
theorem idx0 (a b : Value) (w : World) : (Instr.index 36 (.agg #[a, b]) (.int .i64 0)).run Try.prog w = .ok a w := by kernel_rfl
theorem idx1 (a b : Value) (w : World) : (Instr.index 36 (.agg #[a, b]) (.int .i64 1)).run Try.prog w = .ok b w := by kernel_rfl
def ChkE (n : Int) (E : List (Int × Int)) (e : Ending) : Prop := (okN n E → e = .returned (.int .i64 0)) ∧ (¬ okN n E → e = .returned (.int .i64 2))
set_option maxHeartbeats 4000000 in
theorem check_any (n : Int) (E : List (Int × Int)) (a : Option Addr) (cap : Nat) (w : World) (hn : n ≤ 256) (hl : E.length ≤ 4096) (hs : Sl pairC 2 w a E) :
    Calls Try.prog 11 #[.int .i64 n, .slice a E.length cap] w fun e w' => ChkE n E e ∧ Below w.heap.size w w' := by
  have HP := Lib.hid (fun (k : Nat) (hk : k < E.length) => pair_at hs hk)
  clear hs
  obtain ⟨L, hL⟩ : ∃ L, L = E.length := ⟨_, rfl⟩
  have HL := Lib.hid hL
  rw [← hL] at hl ⊢
  clear hL
  have g1 : ¬ (256 : Int) < n := by omega
  have g2 : ¬ (4096 : Int) < (L : Int) := by omega
  go_enter Try.func11, Try.ntmps11
  go_wp2
  clear g1 g2
  go_loopw [18] (fun i wr => ∃ k : Nat, i = .int .i64 k ∧ k ≤ L ∧ (∀ p ∈ E.take k, inN n p) ∧ Below w.heap.size w wr) (fun i _ => L - (intOf i).toNat)
  case atStart => exact ⟨0, rfl, by omega, by simp, Below.refl _ _⟩
  case round =>
    obtain ⟨k, rfl, hk, hp, hbw⟩ := hrel
    have HP0 := Lib.hid hp; have HB := Lib.hid hbw
    clear hp hbw
    by_cases hlt : k < L
    · have hkE : k < E.length := by rw [← HL.out]; exact hlt
      obtain ⟨b, o, rfl, hbl, hcc⟩ := HP.out k hkE
      have c0 := (hcc wr HB.out).1; have c1 := (hcc wr HB.out).2
      have gi : (k : Int) < (L : Int) := by omega
      have HT : Hid (inN n E[k] → ∀ p ∈ E.take (k + 1), inN n p) := Lib.hid (fun h => ok_take hkE HP0.out h)
      have HM : Hid (E[k] ∈ E) := Lib.hid (List.getElem_mem hkE)
      clear hcc
      generalize E[k] = q at *
      obtain ⟨x, y⟩ := q
      dsimp only at c0 c1
      have HB2 := Lib.hid (below_cons HB.out (below_new wr (.cells #[.int .i64 x, .int .i64 y] 36)))
      go_wp2
      go_loopw [23] (fun j wr => ∃ m : Nat, j = .int .i64 m ∧ m ≤ 2 ∧ (1 ≤ m → 0 ≤ x ∧ x < n) ∧ (2 ≤ m → 0 ≤ y ∧ y < n) ∧ Below w.heap.size w wr) (fun i _ => 2 - (intOf i).toNat)
      case atStart => exact ⟨0, rfl, by omega, by omega, by omega, HB2.out⟩
      case round =>
        obtain ⟨m, rfl, hm, m1, m2, hbw⟩ := hrel
        have HB3 := Lib.hid hbw
        clear hbw c0 c1 gi
        have i0 := idx0 (.int .i64 x) (.int .i64 y)
        have i1 := idx1 (.int .i64 x) (.int .i64 y)
        match m, hm, m1, m2 with
        | 0, _, _, _ =>
          by_cases q1 : x < 0
          · go_wp2
            go_ret
            exact ⟨⟨fun h => absurd (h _ HM.out).1.1 (by show ¬ 0 ≤ x; omega), fun _ => rfl⟩, HB3.out⟩
          · by_cases q2 : x < n
            · have q3 : ¬ n ≤ x := by omega
              go_wp2
              go_roundw
              case rel => exact ⟨1, by go_num, by omega, fun _ => ⟨by omega, q2⟩, by omega, HB3.out⟩
              case measure => simp [intOf]
            · have q3 : n ≤ x := by omega
              go_wp2
              go_ret
              exact ⟨⟨fun h => absurd (h _ HM.out).1.2 (by show ¬ x < n; omega), fun _ => rfl⟩, HB3.out⟩
        | 1, _, m1, _ =>
          by_cases q1 : y < 0
          · go_wp2
            go_ret
            exact ⟨⟨fun h => absurd (h _ HM.out).2.1 (by show ¬ 0 ≤ y; omega), fun _ => rfl⟩, HB3.out⟩
          · by_cases q2 : y < n
            · have q3 : ¬ n ≤ y := by omega
              go_wp2
              go_roundw
              case rel => exact ⟨2, by go_num, by omega, fun _ => m1 (by omega), fun _ => ⟨by omega, q2⟩, HB3.out⟩
              case measure => simp [intOf]
            · have q3 : n ≤ y := by omega
              go_wp2
              go_ret
              exact ⟨⟨fun h => absurd (h _ HM.out).2.2 (by show ¬ y < n; omega), fun _ => rfl⟩, HB3.out⟩
        | 2, _, m1, m2 =>
          have HQ := Lib.hid (HT.out ⟨m1 (by omega), m2 (by omega)⟩)
          clear m1 m2
          go_wp2
          go_roundw
          case rel => exact ⟨k + 1, by go_num, by omega, HQ.out, HB3.out⟩
          case measure => simp [intOf]; omega
    · obtain rfl : k = L := by omega
      have HE : Hid (okN n E) := Lib.hid (fun p hp => HP0.out p (by rw [List.take_of_length_le (by rw [← HL.out]; exact Nat.le_refl _)]; exact hp))
      have hkk : ¬ (k : Int) < (k : Int) := by omega
      go_wp2
      go_ret
      exact ⟨⟨fun _ => rfl, fun h => absurd HE.out h⟩, HB.out⟩
end Go.Proofs.Ytddonekagmnokaa

