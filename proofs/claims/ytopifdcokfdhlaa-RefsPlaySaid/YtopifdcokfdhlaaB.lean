/-
  The contracts of refs: New, Of, Len, and how often each text is in a list.
-/
import Derived.Test.YtopifdcokfdhlaaA
import Derived.Test.YtopifdcokfdhlaaOwn
import Derived.Test.YtopifdcokfdhlaaStrs
set_option linter.unusedVariables false
set_option linter.unusedSimpArgs false
namespace Go.Proofs.Ytopifdcokfdhlaa
open Go.RowKit
def kd : HKind ByteArray Int := kindSI 40 9 3 Try.underlying40 Try.underlying9 (fun w => by kernel_rfl)
theorem sl_one {w : World} {a : Option Addr} {xs : List ByteArray} (h : Sl strC 1 w a xs) (i : Nat) (hi : i < xs.length) : ∃ b o, a = some ⟨b, o, none⟩ ∧ b < w.heap.size ∧ w.cell? ⟨b, o + i, none⟩ = some (.string xs[i]) := by
  obtain ⟨b, o, ha, hlt, hc⟩ := h i hi
  refine ⟨b, o, ha, hlt, ?_⟩
  have := hc 0 _ rfl
  rw [Nat.mul_one, Nat.add_zero] at this
  exact this
theorem hm_get {w : World} {b : Nat} {ks : List ByteArray} {f : ByteArray → Int} (h : HM kd w b ks f) {s : ByteArray} (hs : s.size ≤ maxLen) : (Instr.lookup 40 (.map (some b)) (.string s) false).run Try.prog w = .ok (.int .i64 (f s)) w := h.get (M := kd) hs
theorem hm_put {w : World} {b : Nat} {ks : List ByteArray} {f : ByteArray → Int} (h : HM kd w b ks f) (hn : ks.length < maxLen) {s : ByteArray} (hs : s.size ≤ maxLen) (v : Int) :
    ∃ w', (Instr.mapUpdate 40 (.map (some b)) (.string s) (.int .i64 v)).run Try.prog w = .ok () w' ∧ HM kd w' b (addK ks s) (sef f s v) ∧ Kp (fun k => k = b) w w' ∧ w'.heap.size = w.heap.size := h.put (M := kd) hn hs v
theorem hm_del {w : World} {b : Nat} {ks : List ByteArray} {f : ByteArray → Int} (h : HM kd w b ks f) {s : ByteArray} (hs : s.size ≤ maxLen) (ty : TypeId) :
    ∃ w', (Builtin.delete_ #[40, 9] ty #[.map (some b), .string s]).run Try.prog w = .ok (.tuple #[]) w' ∧ HM kd w' b (delK ks s) (sef f s 0) ∧ Kp (fun k => k = b) w w' ∧ w'.heap.size = w.heap.size := h.del (M := kd) hs ty
theorem hm_len {w : World} {b : Nat} {ks : List ByteArray} {f : ByteArray → Int} (h : HM kd w b ks f) (ty : TypeId) : (Builtin.len_ #[40] ty #[.map (some b)]).run Try.prog w = .ok (.int .i64 ks.length) w := h.len (M := kd) ty
theorem cnt_step (l : List ByteArray) (k : Nat) (h : k < l.length) : (fun s => (cnt (l.take (k + 1)) s : Int)) = sef (fun s => (cnt (l.take k) s : Int)) l[k] ((cnt (l.take k) l[k] : Int) + 1) := by
  funext s
  rw [cnt_take_snoc l k h]
  by_cases e : s = l[k]
  · subst e; rw [sef_same, if_pos rfl]; omega
  · rw [sef_other _ _ e, if_neg (fun h => e h.symm)]; omega
set_option maxHeartbeats 4000000 in
theorem counted_any (l : List ByteArray) (a : Option Addr) (cap : Nat) (w : World) (hs : Sl strC 1 w a l) (hl : l.length ≤ 1000000) (hg : ∀ s ∈ l, s.size ≤ maxLen) :
    Calls Try.prog 15 #[.slice a l.length cap] w fun e w' => e = .returned (.map (some w.heap.size)) ∧ HM kd w' w.heap.size (keysK l l.length) (fun s => (cnt l s : Int)) ∧ Below w.heap.size w w' := by
  have hmm := @run_makeMap Try.prog
  have HS := Lib.hid hs; have HG := Lib.hid hg
  have HM0 := Lib.hid (HM.made kd w)
  have HB0 := Lib.hid (below_new w (.map #[] 0))
  clear hs hg
  obtain ⟨n, hn⟩ : ∃ n, n = l.length := ⟨_, rfl⟩
  have HN := Lib.hid hn
  rw [← hn] at hl ⊢
  clear hn
  go_enter Try.func15, Try.ntmps15
  go_wp2
  go_loopw [9] (fun i wr => ∃ k : Nat, i = .int .i64 k ∧ k ≤ n ∧ HM kd wr w.heap.size (keysK l k) (fun s => (cnt (l.take k) s : Int)) ∧ Below w.heap.size w wr) (fun i _ => n - (intOf i).toNat)
  case atStart => exact ⟨0, rfl, by omega, HM0.out, HB0.out⟩
  case round =>
    obtain ⟨k, rfl, hk, hm, hbw⟩ := hrel
    have HMK := Lib.hid hm; have HBW := Lib.hid hbw
    clear hm hbw
    by_cases hlt : k < n
    · have hkl : k < l.length := by rw [← HN.out]; exact hlt
      obtain ⟨b, o, rfl, hb, hc⟩ := sl_one HS.out k hkl
      have hc2 := (HBW.out.cell (p := ⟨b, o + k, none⟩) hb).trans hc
      clear hc
      have hgk := HG.out l[k] (List.getElem_mem hkl)
      have hkk := keysK_len l k (by omega)
      have hoo := onceK_le l k
      have hml : (maxLen : Nat) = 9223372036854775807 := rfl
      obtain ⟨C, hC⟩ : ∃ C : Nat, C = cnt (l.take k) l[k] := ⟨_, rfl⟩
      have hCl : C ≤ k := by rw [hC]; have := cnt_le (l.take k) l[k]; have := List.length_take_le k l; omega
      have hgt := hm_get HMK.out hgk
      obtain ⟨w4, hu, hm4, hk4, hz4⟩ := hm_put HMK.out (by omega) hgk ((C : Int) + 1)
      have HM4 : Hid (HM kd w4 w.heap.size (keysK l (k + 1)) (fun s => (cnt (l.take (k + 1)) s : Int))) := Lib.hid (by
        rw [cnt_step l k hkl, ← hC, keysK, dif_pos hkl]; exact hm4)
      have HB4 := Lib.hid (HBW.out.trans (hk4.below (B := w.heap.size) HBW.out.size (fun j hj => by omega)))
      rw [← hC] at hgt
      have HC := Lib.hid hC
      clear hm4 hk4 hz4 hkk hoo hml hC
      generalize l[k] = s at *
      have d1 : (k : Int) < (n : Int) := by omega
      go_wp2
      go_roundw
      case rel => exact ⟨k + 1, by go_num, by omega, HM4.out, HB4.out⟩
      case measure => simp [intOf]; omega
    · obtain rfl : k = n := by omega
      go_wp2
      go_ret
      have h1 := HMK.out
      rw [HN.out, List.take_length] at h1
      rw [HN.out]
      exact ⟨rfl, h1, HBW.out⟩
end Go.Proofs.Ytopifdcokfdhlaa

