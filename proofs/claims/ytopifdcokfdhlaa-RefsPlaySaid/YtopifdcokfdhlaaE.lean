/-
  The contract of refs.Drop.
-/
import Derived.Test.YtopifdcokfdhlaaD
set_option linter.unusedVariables false
set_option linter.unusedSimpArgs false
namespace Go.Proofs.Ytopifdcokfdhlaa
open Go.RowKit
/-- How often a text still counts while texts are being taken away: those that are left are still to come. -/
def stl (x l left : List ByteArray) (s : ByteArray) : Nat := if cnt left s = 0 then cnt x s - cnt l s else cnt x s
def Sx (w : World) (b : Nat) (x l left : List ByteArray) : Prop :=
  ∃ ks f, HM kd w b ks f ∧ (∀ s, s ∈ ks ↔ stl x l left s ≠ 0) ∧ ∀ s : ByteArray, s.size ≤ maxLen → f s = (stl x l left s : Int)
theorem stl_le (x l left : List ByteArray) (s : ByteArray) : stl x l left s ≤ cnt x s := by unfold stl; split <;> omega
theorem Sx.kp {S : Nat → Prop} {w w' : World} {b : Nat} {x l left : List ByteArray} (h : Sx w b x l left) (k : Kp S w w') (h2 : ¬ S b) : Sx w' b x l left := by
  obtain ⟨ks, f, hm, r⟩ := h
  exact ⟨ks, f, hm.kp k h2, r⟩
theorem stl_keys (x l : List ByteArray) (s : ByteArray) : stl x l (keysK l l.length) s = cnt x s := by
  unfold stl
  split
  · next hn =>
    have h1 := keysK_mem l l.length (Nat.le_refl _) s
    rw [List.take_length] at h1
    rw [(cnt_zero l s).2 (fun h2 => (cnt_zero _ s).1 hn (h1.2 h2))]; omega
  · rfl
theorem Sx.start {w : World} {p b : Nat} {x l : List ByteArray} (h : Rx w p b x) : Sx w b x l (keysK l l.length) := by
  obtain ⟨_, _, _, ks, f, hm, hk, hf⟩ := h
  refine ⟨ks, f, hm, fun s => ?_, fun s hs => ?_⟩
  · rw [hk s, stl_keys, ← cnt_pos]; omega
  · rw [hf s hs, stl_keys]
theorem stl_del {x l left : List ByteArray} (hnd : left.Nodup) {s : ByteArray} (t : ByteArray) : stl x l (delK left s) t = if t = s then cnt x s - cnt l s else stl x l left t := by
  by_cases e : t = s
  · subst e
    rw [if_pos rfl]
    unfold stl
    rw [if_pos ((cnt_zero _ _).2 (fun h3 => ((mem_delK hnd _ _).1 h3).1 rfl))]
  · rw [if_neg e]
    unfold stl
    by_cases e2 : t ∈ left
    · rw [if_neg (fun h3 => (cnt_zero _ _).1 h3 e2), if_neg (fun h3 => (cnt_zero _ _).1 h3 ((mem_delK hnd _ _).2 ⟨e, e2⟩))]
    · rw [if_pos ((cnt_zero _ _).2 e2), if_pos ((cnt_zero _ _).2 (fun h3 => e2 ((mem_delK hnd _ _).1 h3).2))]
theorem Sx.step {w : World} {b : Nat} {x l left : List ByteArray} (h : Sx w b x l left) (hx : x.length ≤ 60000) (hnd : left.Nodup) {s : ByteArray} (hs : s ∈ left) (hsl : s ∈ l) (hle : cnt l s ≤ cnt x s) (hg : s.size ≤ maxLen) :
    (Instr.lookup 40 (.map (some b)) (.string s) false).run Try.prog w = .ok (.int .i64 (cnt x s)) w ∧
    ∃ w', (Instr.mapUpdate 40 (.map (some b)) (.string s) (.int .i64 ((cnt x s : Int) - (cnt l s : Int)))).run Try.prog w = .ok () w' ∧
      (Instr.lookup 40 (.map (some b)) (.string s) false).run Try.prog w' = .ok (.int .i64 ((cnt x s : Int) - (cnt l s : Int))) w' ∧ Kp (fun k => k = b) w w' ∧
      (cnt x s - cnt l s ≠ 0 → Sx w' b x l (delK left s)) ∧
      (cnt x s - cnt l s = 0 → ∀ ty, ∃ w'', (Builtin.delete_ #[40, 9] ty #[.map (some b), .string s]).run Try.prog w' = .ok (.tuple #[]) w'' ∧ Sx w'' b x l (delK left s) ∧ Kp (fun k => k = b) w' w'') := by
  obtain ⟨ks, f, hm, hk, hf⟩ := h
  have hgt := hm_get hm hg
  have hcl : 0 < cnt l s := (cnt_pos l s).2 hsl
  have hst : stl x l left s = cnt x s := by unfold stl; rw [if_neg (fun h2 => (cnt_zero _ s).1 h2 hs)]
  rw [hf s hg, hst] at hgt
  have hml : (maxLen : Nat) = 9223372036854775807 := rfl
  have hkl : ks.length ≤ x.length := keys_le hm.nodup (fun t ht => (cnt_pos x t).1 (by have := stl_le x l left t; have := (hk t).1 ht; omega))
  have hin : s ∈ ks := (hk s).2 (by rw [hst]; omega)
  have hadd : addK ks s = ks := by unfold addK; rw [if_pos hin]
  obtain ⟨w4, hu, hm4, hk4, _⟩ := hm_put hm (by omega) hg ((cnt x s : Int) - (cnt l s : Int))
  rw [hadd] at hm4
  have hgt4 := hm_get hm4 hg
  rw [sef_same] at hgt4
  refine ⟨hgt, w4, hu, hgt4, hk4, fun hnz => ⟨_, _, hm4, fun t => ?_, fun t ht => ?_⟩, fun hz ty => ?_⟩
  · rw [hk t, stl_del hnd]
    by_cases e : t = s
    · subst e; rw [if_pos rfl, hst]; omega
    · rw [if_neg e]
  · rw [stl_del hnd]
    by_cases e : t = s
    · subst e; rw [sef_same, if_pos rfl]; omega
    · rw [sef_other _ _ e, if_neg e, hf t ht]
  · obtain ⟨w5, hd, hm5, hk5, _⟩ := hm_del hm4 hg ty
    refine ⟨w5, hd, ⟨_, _, hm5, fun t => ?_, fun t ht => ?_⟩, hk5⟩
    · rw [mem_delK hm4.nodup, hk t, stl_del hnd]
      by_cases e : t = s
      · subst e; rw [if_pos rfl]; simp; omega
      · rw [if_neg e]; simp [e]
    · rw [stl_del hnd]
      by_cases e : t = s
      · subst e; rw [sef_same, if_pos rfl]; omega
      · rw [sef_other _ _ e, sef_other _ _ e, if_neg e, hf t ht]
theorem Sx.finish {w : World} {p b : Nat} {x l : List ByteArray} (h : Sx w b x l []) (hb : Bk p [.map (some b)] w) (hne : p ≠ b) (hx : ∀ s ∈ x, s.size ≤ maxLen) (hok : okB x l = true) : Rx w p b (outL x l) := by
  obtain ⟨ks, f, hm, hk, hf⟩ := h
  have hst : ∀ s, stl x l [] s = cnt (outL x l) s := fun s => by
    unfold stl
    rw [if_pos (cnt_nil s), outL_cnt hok]
  refine ⟨hb, hne, fun s hs => hx s (outL_mem _ _ _ hs), ks, f, hm, fun s => ?_, fun s hs => ?_⟩
  · rw [hk s, hst, ← cnt_pos]; omega
  · rw [hf s hs, hst]
theorem ok_all {x l : List ByteArray} (h : ∀ s, s ∈ keysK l l.length → cnt l s ≤ cnt x s) : okB x l = true := by
  rw [okB_iff]
  intro s
  by_cases hs : s ∈ l
  · exact h s ((keysK_mem l l.length (Nat.le_refl _) s).2 (by rw [List.take_length]; exact hs))
  · rw [(cnt_zero l s).2 hs]; omega
theorem ok_no {x l : List ByteArray} {s : ByteArray} (h : cnt x s < cnt l s) : okB x l = false := by
  cases hb : okB x l
  · rfl
  · have := (okB_iff x l).1 hb s; omega
set_option maxHeartbeats 8000000 in
theorem drop_any {p b : Nat} {x : List ByteArray} (l : List ByteArray) (a : Option Addr) (cap : Nat) (w : World) (h : Rx w p b x) (hs : Sl strC 1 w a l) (hl : l.length ≤ 4096) (hxl : x.length ≤ 50000) (hg : ∀ s ∈ l, s.size ≤ maxLen) :
    Calls Try.prog 8 #[.pointer (some ⟨p, 0, none⟩), .slice a l.length cap] w fun e w' => e = .returned (.bool (okB x l)) ∧ Rx w' p b (outL x l) ∧ Kp (fun i => i = b) w w' := by
  have HG := Lib.hid hg
  have HX0 := Lib.hid h
  have HC := Lib.hid (counted_any l a cap w hs (by omega) hg)
  have hpl : p < w.heap.size := h.1.1
  have hbl : b < w.heap.size := by obtain ⟨_, _, _, ks, f, hm, _⟩ := h; exact hm.lt
  have hne : p ≠ b := h.2.1
  clear hs hg h
  obtain ⟨n, hn⟩ : ∃ n, n = l.length := ⟨_, rfl⟩
  have HN := Lib.hid hn
  rw [← hn] at hl HC ⊢
  clear hn
  go_enter Try.func8, Try.ntmps8
  go_wp2_with fail
  refine HC.out.mono ?_
  rintro e w1 ⟨rfl, hm1, hb1⟩
  have hml : w.heap.size < w1.heap.size := hm1.lt
  have HM1 := Lib.hid hm1; have HB1 := Lib.hid hb1
  clear hm1 hb1
  obtain ⟨m, hm⟩ : ∃ m, m = w.heap.size := ⟨_, rfl⟩
  rw [← hm] at HM1 hml hpl hbl ⊢
  have HMM := Lib.hid hm
  clear hm
  go_wp2_with (at_range; refine wpList_range_h HM1.out rfl _ _ rfl rfl rfl ?_; intro w2 hr2 hb2 hz2)
  go_frame
  obtain ⟨r, hr⟩ : ∃ r, r = w1.heap.size := ⟨_, rfl⟩
  rw [← hr] at hr2 hz2 hml ⊢
  have HR2 := Lib.hid hr2
  have HB2 := Lib.hid (below_cons HB1.out hb2)
  have HRR := Lib.hid hr
  clear hr2 hb2 hz2 hr
  go_loopw [7] (fun _ wr => ∃ (left : List ByteArray), HR kd wr m r (keysK l n) (fun s => (cnt l s : Int)) left ∧ (∀ s, s ∈ keysK l n → s ∉ left → cnt l s ≤ cnt x s) ∧ Below w.heap.size w wr) (fun _ wr => wr.rangeLeft m r)
  case atStart => exact ⟨keysK l n, HR2.out, fun s h1 h2 => absurd h1 h2, HB2.out⟩
  case round =>
    obtain ⟨left, hrg, hle, hbw⟩ := hrel
    have HRG := Lib.hid hrg; have HBW := Lib.hid hbw; have HLE := Lib.hid hle
    clear hrg hbw hle
    go_wp2_with (at_next; refine wpList_next_h Value.string (fun _ => rfl) (Value.int .i64) (fun _ => rfl) HRG.out rfl _ rfl rfl ?_ ?_)
    · intro hnil
      as_aux_lemma =>
      subst hnil
      have HOK : Hid (okB x l = true) := Lib.hid (ok_all (fun s hs => HLE.out s (by rw [HN.out]; exact hs) (by simp)))
      have HLL : Hid (∀ s, cnt l s ≤ cnt x s) := Lib.hid ((okB_iff x l).1 HOK.out)
      have hxr : Rx wr p b x := HX0.out.kp (S := fun i => w.heap.size ≤ i) (Kp.of_below HBW.out (fun _ _ h => h)) (by rw [← HMM.out]; omega) (by rw [← HMM.out]; omega)
      have HXR := Lib.hid hxr
      have HMR := Lib.hid HRG.out.hm
      clear hxr
      go_wp2_with (at_range; refine wpList_range_h HMR.out rfl _ _ rfl rfl rfl ?_; intro w5 hr5 hb5 hz5)
      go_frame
      obtain ⟨q, hq⟩ : ∃ q, q = wr.heap.size := ⟨_, rfl⟩
      rw [← hq] at hr5 hz5 ⊢
      have HR5 := Lib.hid hr5
      have HX5 := Lib.hid (HXR.out.keep hb5)
      have HK5 : Hid (Kp (fun i => i = b) w w5) := Lib.hid (Kp.new (below_step HBW.out (Nat.le_refl _) hb5))
      have hmq : m < q := by have := HRG.out.hm.lt; omega
      have hwq : w.heap.size ≤ q := by rw [hq]; exact HBW.out.size
      have hmb : m ≠ b := by omega
      clear hr5 hb5 hz5 hq
      go_loopw [8] (fun _ wr => ∃ (left : List ByteArray), HR kd wr m q (keysK l n) (fun s => (cnt l s : Int)) left ∧ Sx wr b x l left ∧ Bk p [.map (some b)] wr ∧ Kp (fun i => i = b) w wr) (fun _ wr => wr.rangeLeft m q)
      case atStart =>
        refine ⟨keysK l n, HR5.out, ?_, HX5.out.1, HK5.out⟩
        have := Sx.start (l := l) HX5.out
        rw [← HN.out] at this
        exact this
      case round =>
        obtain ⟨left, hrg, hax, hbk, hkp⟩ := hrel
        have HR6 := Lib.hid hrg; have HA6 := Lib.hid hax; have HB6 := Lib.hid hbk; have HK6 := Lib.hid hkp
        clear hrg hax hbk hkp
        go_wp2_with (at_next; refine wpList_next_h Value.string (fun _ => rfl) (Value.int .i64) (fun _ => rfl) HR6.out rfl _ rfl rfl ?_ ?_)
        · intro hnil
          as_aux_lemma =>
          subst hnil
          go_wp2
          go_ret
          rw [HOK.out]
          exact ⟨rfl, HA6.out.finish HB6.out hne HX0.out.2.2.1 HOK.out, HK6.out⟩
        · intro s w7 hsl hgs hrg7 hlt7 hk7 hz7 hen
          as_aux_lemma =>
          have hsk : s ∈ l := by
            have h1 := HR6.out.left_mem s hsl
            have h2 := (keysK_mem l n (by rw [HN.out]; exact Nat.le_refl _) s).1 h1
            rw [HN.out, List.take_length] at h2
            exact h2
          have hbq : b ≠ q := by omega
          have hpq : p ≠ q := by omega
          have hcle := HLL.out s
          obtain ⟨hgt, w8, hu, hgt8, hk8, hnz, hzz⟩ := (HA6.out.kp hk7 (fun e => hbq e)).step (by omega) HR6.out.left_nodup hsl hsk hcle hgs
          have hb7 := HB6.out.kp hk7 (fun e => hpq e)
          have c1 := (hb7.2 0 _ rfl).1
          have hb8 := hb7.kp hk8 (fun e => hne e)
          have c8 := (hb8.2 0 _ rfl).1
          have hr8 := hrg7.kp hk8 (fun e => hmb e) (fun e => hbq e.symm)
          have H8 := Lib.hid hr8
          have HL7 := Lib.hid hlt7
          have HB8 := Lib.hid hb8
          have HK8 : Hid (Kp (fun i => i = b) w w8) := Lib.hid ((HK6.out.over hk7 (fun i hi e => by omega)).over hk8 (fun i _ e => e))
          have hcx := cnt_le x s
          have w9 : wrap64 ((cnt x s : Int) - (cnt l s : Int)) = (cnt x s : Int) - (cnt l s : Int) := wrap64_id (by omega) (by omega)
          by_cases hz : cnt x s - cnt l s = 0
          · have d1 : (((cnt x s : Int) - (cnt l s : Int)) == 0) = true := by simp; omega
            have hdl := fun ty => hzz hz ty
            obtain ⟨w9', hd, ha9, hk9⟩ := hdl 0
            have H9 : Hid (HR kd w9' m q (keysK l n) (fun s => (cnt l s : Int)) (delK left s) ∧ w9'.rangeLeft m q < wr.rangeLeft m q) := Lib.hid (by
              obtain ⟨h1, h2⟩ := H8.out.1.kp hk9 (fun e => hmb e) (fun e => hbq e.symm)
              exact ⟨h1, by rw [h2, H8.out.2]; exact HL7.out⟩)
            have HA9 := Lib.hid ha9
            have HB9 := Lib.hid (HB8.out.kp hk9 (fun e => hne e))
            have HK9 : Hid (Kp (fun i => i = b) w w9') := Lib.hid (HK8.out.over hk9 (fun i _ e => e))
            clear hrg7 hlt7 hk7 hz7 hk8 hb7 hb8 hr8 hnz hzz hdl ha9 hk9 hz
            generalize ((cnt l s : Nat) : Int) = E at hen hu hgt8 w9 d1 ⊢
            generalize ((cnt x s : Nat) : Int) = C at hgt hu hgt8 w9 d1
            clear hcx hcle
            go_wp2
            go_roundw
            case rel => exact ⟨_, H9.out.1, HA9.out, HB9.out, HK9.out⟩
            case measure => exact H9.out.2
          · have d1 : (((cnt x s : Int) - (cnt l s : Int)) == 0) = false := by simp; omega
            have HA8 := Lib.hid (hnz hz)
            clear hrg7 hlt7 hk7 hz7 hk8 hb7 hb8 hr8 hnz hzz hz
            generalize ((cnt l s : Nat) : Int) = E at hen hu hgt8 w9 d1 ⊢
            generalize ((cnt x s : Nat) : Int) = C at hgt hu hgt8 w9 d1
            clear hcx hcle
            go_wp2
            go_roundw
            case rel => exact ⟨_, H8.out.1, HA8.out, HB8.out, HK8.out⟩
            case measure => rw [H8.out.2]; exact HL7.out
    · intro s w3 hsl hgs hrg3 hlt3 hk3 hz3 hen
      as_aux_lemma =>
      have hwr : w.heap.size ≤ r := by rw [← HMM.out]; omega
      have hb3 : Below w.heap.size w w3 := HBW.out.trans (hk3.below (B := w.heap.size) HBW.out.size (fun j hj => by omega))
      have hxr : Rx w3 p b x := HX0.out.kp (S := fun i => w.heap.size ≤ i) (Kp.of_below hb3 (fun _ _ h => h)) (by rw [← HMM.out]; omega) (by rw [← HMM.out]; omega)
      have c1 := (hxr.1.2 0 _ rfl).1
      have hgt : (Instr.lookup 40 (.map (some b)) (.string s) false).run Try.prog w3 = .ok (.int .i64 (cnt x s)) w3 := by
        obtain ⟨_, _, _, ks, f, hm, hk, hf⟩ := hxr
        rw [← hf s hgs]
        exact hm_get hm hgs
      have H3 := Lib.hid hrg3; have HL3 := Lib.hid hlt3; have HB3 := Lib.hid hb3
      have HX3 := Lib.hid hxr
      clear hrg3 hlt3 hk3 hz3 hb3 hxr
      by_cases hz : cnt x s < cnt l s
      · have d2 : decide ((cnt x s : Int) < (cnt l s : Int)) = true := decide_eq_true (by omega)
        have d3 : decide (cnt x s < cnt l s) = true := decide_eq_true (by omega)
        have HNO : Hid (okB x l = false) := Lib.hid (ok_no hz)
        clear hz
        go_wp2
        go_ret
        rw [HNO.out]
        refine ⟨rfl, ?_, Kp.new HB3.out⟩
        have : outL x l = x := by unfold outL; rw [HNO.out]; rfl
        rw [this]; exact HX3.out
      · have d2 : decide ((cnt x s : Int) < (cnt l s : Int)) = false := decide_eq_false (by omega)
        have d3 : decide (cnt x s < cnt l s) = false := decide_eq_false (by omega)
        have HZ := Lib.hid hz
        clear hz
        go_wp2
        go_roundw
        case rel =>
          refine ⟨_, H3.out, fun t ht hn => ?_, HB3.out⟩
          by_cases e : t = s
          · subst e; have := HZ.out; omega
          · exact HLE.out t ht (fun h => hn ((mem_delK HRG.out.left_nodup _ _).2 ⟨e, h⟩))
        case measure => exact HL3.out
end Go.Proofs.Ytopifdcokfdhlaa

