/-
  The contract of sieve's Add.
-/
import Derived.Test.YtogpjoenfcleoaaD
set_option linter.unusedVariables false
set_option linter.unusedSimpArgs false
namespace Go.Proofs.Ytogpjoenfcleoaa
open Go.RowKit
def addN (m : List Bool) (s : ByteArray) (b : Nat) : Nat → List Bool
  | 0 => m
  | k + 1 => (addN m s b k).set (mk s k b) true
theorem addN_len (m : List Bool) (s : ByteArray) (b : Nat) : ∀ k, (addN m s b k).length = m.length
  | 0 => rfl
  | k + 1 => by unfold addN; rw [List.length_set, addN_len m s b k]
theorem svC_set (m : List Bool) (b t : Int) (i : Nat) (hi : i < m.length) (x : Bool) : (svC m b t).set i (.bool x) = svC (m.set i x) b t := by
  unfold svC
  rw [List.set_append_left _ _ (by simpa using hi), List.map_set]
set_option maxHeartbeats 2000000 in
theorem add_any (p : Nat) (m : List Bool) (b t : Nat) (s : ByteArray) (w : World) (h : Bk p (svC m b t) w) (hm : m.length = 4096) (hb1 : 1 ≤ b) (hb2 : b ≤ 4096) (ht : t ≤ 16) (hs : s.size ≤ 9223372036854775807) : Calls Try.prog 9 #[.pointer (some ⟨p, 0, none⟩), .string s] w fun e w' => e = .returned (.tuple #[]) ∧ Bk p (svC (addN m s b t) b t) w' ∧ Kp (· = p) w w' := by
  have HBK := Lib.hid h
  have hpl := h.1
  have T := Lib.hid (of_any p m b t s w h hm hb1 hb2 ht hs)
  clear h
  go_enter Try.func9, Try.ntmps9
  go_wp2_with fail
  refine T.out.mono ?_
  rintro e w1 ⟨rfl, hof, hbl⟩
  have HOF := Lib.hid hof
  have HK1 : Hid (Kp (· = p) w w1) := Lib.hid (Kp.new hbl)
  have HSV : Hid (Bk p (svC m b t) w1) := Lib.hid (Bk.keep HBK.out hbl)
  clear hof hbl
  go_wp2
  go_loopw [12] (fun i wr => ∃ k : Nat, i = .int .i64 k ∧ k ≤ t ∧ Bk p (svC (addN m s b k) b t) wr ∧ Bk w.heap.size (ofP s t b t) wr ∧ Kp (· = p) w wr) (fun i _ => t - (intOf i).toNat)
  case atStart => exact ⟨0, rfl, by omega, HSV.out, HOF.out, HK1.out⟩
  case round =>
    obtain ⟨k, rfl, hk, hsv, hof, hkp⟩ := hrel
    have HS := Lib.hid hsv
    have HO := Lib.hid hof
    have HK := Lib.hid hkp
    clear hsv hof hkp
    by_cases hkt : k < t
    · have d1 : (k : Int) < (t : Int) := by omega
      have d2 : (0 : Int) ≤ (k : Int) := by omega
      have cO := (HO.out.2 k _ (ofP_get s t b k hkt)).1
      have hml := mk_lt s k hb1
      have HAD : Hid (addN m s b (k + 1) = (addN m s b k).set (mk s k b) true) := Lib.hid rfl
      have hal : (addN m s b k).length = 4096 := by rw [addN_len, hm]
      obtain ⟨q, hq⟩ : ∃ q, q = mk s k b := ⟨_, rfl⟩
      rw [← hq] at cO hml HAD
      have cM := (sv_mark HS.out q (by omega)).1
      have fM := (sv_mark HS.out q (by omega)).2
      have d3 : (0 : Int) ≤ (q : Int) := by omega
      have d4 : (q : Int) < 4096 := by omega
      have HQL : Hid (q < (addN m s b k).length) := Lib.hid (by omega)
      clear hq hal
      go_wp2
      go_roundw
      case rel =>
        refine ⟨k + 1, vint (by omega), by omega, ?_, ?_, HK.out.set p q _ rfl⟩
        · rw [HAD.out, ← svC_set _ _ _ _ HQL.out]
          exact HS.out.set q (by rw [svC_len]; have := HQL.out; omega) _
        · exact HO.out.other (q := ⟨p, q, none⟩) (by simp; omega) _
      case measure => simp [intOf]; omega
    · obtain rfl : k = t := by omega
      have d1 : ¬ (k : Int) < (k : Int) := by omega
      go_wp2
      go_end0
      exact ⟨rfl, HS.out, HK.out⟩
end Go.Proofs.Ytogpjoenfcleoaa

