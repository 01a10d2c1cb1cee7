/-
  The contract of sieve's Has.
-/
import Derived.Test.YtogpjoenfcleoaaC
set_option linter.unusedVariables false
set_option linter.unusedSimpArgs false
namespace Go.Proofs.Ytogpjoenfcleoaa
open Go.RowKit
def hasN (m : List Bool) (s : ByteArray) (b : Nat) : Nat → Bool
  | 0 => true
  | k + 1 => hasN m s b k && m.getD (mk s k b) false
theorem hasN_no (m : List Bool) (s : ByteArray) (b : Nat) : ∀ (t k : Nat), k < t → m.getD (mk s k b) false = false → hasN m s b t = false
  | 0, k, h, _ => by omega
  | t + 1, k, h, hf => by
    unfold hasN
    by_cases hk : k = t
    · subst hk; rw [hf]; simp
    · rw [hasN_no m s b t k (by omega) hf]; rfl
theorem ofP_get (s : ByteArray) (t b k : Nat) (h : k < t) : (ofP s t b t)[k]? = some (.int .i64 ((mk s k b : Nat) : Int)) := by
  unfold ofP
  rw [List.getElem?_append_left (by simpa using h)]
  simp [h]
theorem sv_mark {p : Nat} {m : List Bool} {b t : Int} {w : World} (h : Bk p (svC m b t) w) (i : Nat) (hi : i < m.length) : w.cell? ⟨p, i, none⟩ = some (.bool (m.getD i false)) ∧ w.frozen? ⟨p, i, none⟩ = false :=
  h.2 i _ (by unfold svC; rw [List.getElem?_append_left (by simpa using hi)]; simp [List.getD_eq_getElem?_getD, hi])
set_option maxHeartbeats 2000000 in
theorem has_any (p : Nat) (m : List Bool) (b t : Nat) (s : ByteArray) (w : World) (h : Bk p (svC m b t) w) (hm : m.length = 4096) (hb1 : 1 ≤ b) (hb2 : b ≤ 4096) (ht : t ≤ 16) (hs : s.size ≤ 9223372036854775807) : Calls Try.prog 8 #[.pointer (some ⟨p, 0, none⟩), .string s] w fun e w' => e = .returned (.bool (hasN m s b t)) ∧ Below w.heap.size w w' := by
  obtain ⟨R, hR⟩ : ∃ R, R = hasN m s b t := ⟨_, rfl⟩
  rw [← hR]
  have HR := Lib.hid hR
  clear hR
  have HBK := Lib.hid h
  have T := Lib.hid (of_any p m b t s w h hm hb1 hb2 ht hs)
  clear h
  go_enter Try.func8, Try.ntmps8
  go_wp2_with fail
  refine T.out.mono ?_
  rintro e w1 ⟨rfl, hof, hbl⟩
  have HOF := Lib.hid hof
  have HB := Lib.hid hbl
  have HSV : Hid (Bk p (svC m b t) w1) := Lib.hid (Bk.keep HBK.out hbl)
  clear hof hbl
  go_wp2
  go_loopw [13] (fun i wr => ∃ k : Nat, i = .int .i64 k ∧ k ≤ t ∧ hasN m s b k = true ∧ wr = w1) (fun i _ => t - (intOf i).toNat)
  case atStart => exact ⟨0, rfl, by omega, rfl, rfl⟩
  case round =>
    obtain ⟨k, rfl, hk, hok, rfl⟩ := hrel
    by_cases hkt : k < t
    · have d1 : (k : Int) < (t : Int) := by omega
      have d2 : (0 : Int) ≤ (k : Int) := by omega
      have cO := (HOF.out.2 k _ (ofP_get s t b k hkt)).1
      have hml := mk_lt s k hb1
      obtain ⟨q, hq⟩ : ∃ q, q = mk s k b := ⟨_, rfl⟩
      rw [← hq] at cO hml
      have cM := (sv_mark HSV.out q (by omega)).1
      have d3 : (0 : Int) ≤ (q : Int) := by omega
      have d4 : (q : Int) < 4096 := by omega
      cases hmq : m.getD q false with
      | true =>
        have hok2 : hasN m s b (k + 1) = true := by unfold hasN; rw [hok, ← hq, hmq]; rfl
        rw [hmq] at cM
        clear hmq hq
        go_wp2
        go_roundw
        case rel => exact ⟨k + 1, vint (by omega), by omega, hok2, trivial⟩
        case measure => simp [intOf]; omega
      | false =>
        have HRF : Hid (R = false) := Lib.hid (by rw [HR.out]; exact hasN_no m s b t k hkt (by rw [← hq]; exact hmq))
        rw [hmq] at cM
        clear hmq hq
        go_wp2
        go_ret
        rw [HRF.out]
        exact ⟨rfl, HB.out⟩
    · obtain rfl : k = t := by omega
      have d1 : ¬ (k : Int) < (k : Int) := by omega
      have HRT : Hid (R = true) := Lib.hid (by rw [HR.out, hok])
      go_wp2
      go_ret
      rw [HRT.out]
      exact ⟨rfl, HB.out⟩
end Go.Proofs.Ytogpjoenfcleoaa

