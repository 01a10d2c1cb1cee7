/-
  The contracts of refs: Add and Drop.
-/
import Derived.Test.YtopifdcokfdhlaaC
set_option linter.unusedVariables false
set_option linter.unusedSimpArgs false
namespace Go.Proofs.Ytopifdcokfdhlaa
open Go.RowKit
/-- What the counts are while texts are being added: those that are left are still to come. -/
def Ax (w : World) (b : Nat) (x l left : List ByteArray) : Prop :=
  ∃ ks f, HM kd w b ks f ∧ ks.length ≤ x.length + l.length ∧ (∀ s, s ∈ ks ↔ (s ∈ x ∨ (s ∈ l ∧ s ∉ left))) ∧ ∀ s : ByteArray, s.size ≤ maxLen → f s = (cnt x s : Int) + (if cnt left s = 0 then (cnt l s : Int) else 0)
theorem keys_le {x ks : List ByteArray} (hn : ks.Nodup) (h : ∀ s ∈ ks, s ∈ x) : ks.length ≤ x.length := nodup_sub hn h
theorem Ax.kp {S : Nat → Prop} {w w' : World} {b : Nat} {x l left : List ByteArray} (h : Ax w b x l left) (k : Kp S w w') (h2 : ¬ S b) : Ax w' b x l left := by
  obtain ⟨ks, f, hm, r⟩ := h
  exact ⟨ks, f, hm.kp k h2, r⟩
theorem Ax.start {w : World} {p b : Nat} {x l : List ByteArray} (h : Rx w p b x) : Ax w b x l (keysK l l.length) := by
  obtain ⟨_, _, _, ks, f, hm, hk, hf⟩ := h
  refine ⟨ks, f, hm, ?_, fun s => ?_, fun s hs => ?_⟩
  · have := keys_le hm.nodup (fun s hs => (hk s).1 hs); omega
  · rw [hk s, keysK_mem l l.length (Nat.le_refl _) s, List.take_length]
    constructor
    · exact Or.inl
    · rintro (h | ⟨h1, h2⟩)
      · exact h
      · exact absurd h1 h2
  · rw [hf s hs]
    have h1 := keysK_mem l l.length (Nat.le_refl _) s
    rw [List.take_length] at h1
    split
    · next hn =>
      rw [(cnt_zero l s).2 (fun h2 => (cnt_zero _ s).1 hn (h1.2 h2))]; omega
    · omega
theorem Ax.step {w : World} {b : Nat} {x l left : List ByteArray} (h : Ax w b x l left) (hx : x.length ≤ 60000) (hl : l.length ≤ 60000) (hnd : left.Nodup) {s : ByteArray} (hs : s ∈ left) (hsl : s ∈ l) (hg : s.size ≤ maxLen) :
    (Instr.lookup 40 (.map (some b)) (.string s) false).run Try.prog w = .ok (.int .i64 (cnt x s)) w ∧
    ∃ w', (Instr.mapUpdate 40 (.map (some b)) (.string s) (.int .i64 ((cnt x s : Int) + (cnt l s : Int)))).run Try.prog w = .ok () w' ∧ Ax w' b x l (delK left s) ∧ Kp (fun k => k = b) w w' := by
  obtain ⟨ks, f, hm, hlen, hk, hf⟩ := h
  have hgt := hm_get hm hg
  have hfs : f s = (cnt x s : Int) := by rw [hf s hg, if_neg (fun h2 => (cnt_zero _ s).1 h2 hs)]; omega
  rw [hfs] at hgt
  have hml : (maxLen : Nat) = 9223372036854775807 := rfl
  obtain ⟨w4, hu, hm4, hk4, _⟩ := hm_put hm (by omega) hg ((cnt x s : Int) + (cnt l s : Int))
  refine ⟨hgt, w4, hu, ⟨_, _, hm4, ?_, fun t => ?_, fun t ht => ?_⟩, hk4⟩
  · have := keys_le (x := x ++ l) hm4.nodup (fun t ht => by
      rcases (mem_addK _ _ _).1 ht with h1 | rfl
      · rcases (hk t).1 h1 with h2 | h2
        · exact List.mem_append_left _ h2
        · exact List.mem_append_right _ h2.1
      · exact List.mem_append_right _ hsl)
    rw [List.length_append] at this
    exact this
  · rw [mem_addK, hk t, mem_delK hnd]
    constructor
    · rintro ((h1 | ⟨h1, h2⟩) | rfl)
      · exact Or.inl h1
      · exact Or.inr ⟨h1, fun h3 => h2 h3.2⟩
      · exact Or.inr ⟨hsl, fun h3 => h3.1 rfl⟩
    · rintro (h1 | ⟨h1, h2⟩)
      · exact Or.inl (Or.inl h1)
      · by_cases e : t = s
        · exact Or.inr e
        · exact Or.inl (Or.inr ⟨h1, fun h3 => h2 ⟨e, h3⟩⟩)
  · by_cases e : t = s
    · subst e
      rw [sef_same, if_pos ((cnt_zero _ _).2 (fun h3 => ((mem_delK hnd _ _).1 h3).1 rfl))]
    · rw [sef_other _ _ e, hf t ht]
      by_cases e2 : t ∈ left
      · rw [if_neg (fun h3 => (cnt_zero _ _).1 h3 e2), if_neg (fun h3 => (cnt_zero _ _).1 h3 ((mem_delK hnd _ _).2 ⟨e, e2⟩))]
      · rw [if_pos ((cnt_zero _ _).2 e2), if_pos ((cnt_zero _ _).2 (fun h3 => e2 ((mem_delK hnd _ _).1 h3).2))]
theorem Ax.finish {w : World} {p b : Nat} {x l : List ByteArray} (h : Ax w b x l []) (hb : Bk p [.map (some b)] w) (hne : p ≠ b) (hx : ∀ s ∈ x, s.size ≤ maxLen) (hl : ∀ s ∈ l, s.size ≤ maxLen) : Rx w p b (x ++ l) := by
  obtain ⟨ks, f, hm, _, hk, hf⟩ := h
  refine ⟨hb, hne, fun s hs => ?_, ks, f, hm, fun s => ?_, fun s hs => ?_⟩
  · rcases List.mem_append.1 hs with h1 | h1
    · exact hx s h1
    · exact hl s h1
  · rw [hk s, List.mem_append]; simp
  · rw [hf s hs, cnt_app, if_pos (cnt_nil s)]; omega
set_option maxHeartbeats 8000000 in
theorem add_any {p b : Nat} {x : List ByteArray} (l : List ByteArray) (a : Option Addr) (cap : Nat) (w : World) (h : Rx w p b x) (hs : Sl strC 1 w a l) (hl : l.length ≤ 4096) (hxl : x.length ≤ 50000) (hg : ∀ s ∈ l, s.size ≤ maxLen) :
    Calls Try.prog 9 #[.pointer (some ⟨p, 0, none⟩), .slice a l.length cap] w fun e w' => e = .returned (.int .i64 0) ∧ Rx w' p b (x ++ l) ∧ Kp (fun i => i = b) w w' := by
  have HG := Lib.hid hg
  have HX0 := Lib.hid h
  have HC := Lib.hid (counted_any l a cap w hs (by omega) hg)
  have hpl : p < w.heap.size := h.1.1
  have hbl : b < w.heap.size := by obtain ⟨_, _, _, ks, f, hm, _⟩ := h; exact hm.lt
  have hne : p ≠ b := h.2.1
  clear hs hg h
  obtain ⟨n, hn⟩ : ∃ n, n = l.length := ⟨_, rfl⟩
  have HN := Lib.hid hn
  rw [← hn] at hl HC ⊢
  clear hn
  have e1 : decide ((4096 : Int) < (n : Int)) = false := decide_eq_false (by omega)
  go_enter Try.func9, Try.ntmps9
  go_wp2_with fail
  refine HC.out.mono ?_
  rintro e w1 ⟨rfl, hm1, hb1⟩
  have hml : w.heap.size < w1.heap.size := hm1.lt
  have HM1 := Lib.hid hm1; have HB1 := Lib.hid hb1
  clear hm1 hb1
  obtain ⟨m, hm⟩ : ∃ m, m = w.heap.size := ⟨_, rfl⟩
  rw [← hm] at HM1 hml hpl hbl ⊢
  have HMM := Lib.hid hm
  clear hm
  go_wp2_with (at_range; refine wpList_range_h HM1.out rfl _ _ rfl rfl rfl ?_; intro w2 hr2 hb2 hz2)
  go_frame
  obtain ⟨r, hr⟩ : ∃ r, r = w1.heap.size := ⟨_, rfl⟩
  rw [← hr] at hr2 hz2 hml ⊢
  have HR2 := Lib.hid hr2
  have HB2 := Lib.hid (below_cons HB1.out hb2)
  have HRR := Lib.hid hr
  have hkl : (keysK l n).length ≤ n := by rw [keysK_len l n (by rw [HN.out]; exact Nat.le_refl _)]; exact onceK_le l n
  clear hr2 hb2 hz2 hr
  go_loopw [5] (fun fr wr => ∃ (k : Nat) (left : List ByteArray), fr = .int .i64 k ∧ k + left.length ≤ (keysK l n).length ∧ HR kd wr m r (keysK l n) (fun s => (cnt l s : Int)) left ∧ Below w.heap.size w wr) (fun _ wr => wr.rangeLeft m r)
  case atStart => exact ⟨0, keysK l n, rfl, by omega, HR2.out, HB2.out⟩
  case round =>
    obtain ⟨k, left, rfl, hkf, hrg, hbw⟩ := hrel
    have HRG := Lib.hid hrg; have HBW := Lib.hid hbw
    clear hrg hbw
    go_wp2_with (at_next; refine wpList_next_h Value.string (fun _ => rfl) (Value.int .i64) (fun _ => rfl) HRG.out rfl _ rfl rfl ?_ ?_)
    · intro hnil
      as_aux_lemma =>
      subst hnil
      have hxr : Rx wr p b x := HX0.out.kp (S := fun i => w.heap.size ≤ i) (Kp.of_below HBW.out (fun _ _ h => h)) (by rw [← HMM.out]; omega) (by rw [← HMM.out]; omega)
      have HXR := Lib.hid hxr
      have c1 := (hxr.1.2 0 _ rfl).1
      have hln : ∃ K : Nat, K ≤ 50000 ∧ ∀ ty, (Builtin.len_ #[40] ty #[.map (some b)]).run Try.prog wr = .ok (.int .i64 K) wr := by
        obtain ⟨_, _, _, ks, f, hm, hk, _⟩ := hxr
        refine ⟨ks.length, ?_, fun ty => hm_len hm ty⟩
        have := keys_le hm.nodup (fun s hs => (hk s).1 hs); omega
      obtain ⟨K, hK, hlen⟩ := hln
      have hkn : k ≤ n := by have := hkf; simp at this; omega
      have d3 : decide ((65536 : Int) - (K : Int) < (k : Int)) = false := decide_eq_false (by omega)
      have HMR := Lib.hid HRG.out.hm
      clear hxr
      go_wp2_with (at_range; refine wpList_range_h HMR.out rfl _ _ rfl rfl rfl ?_; intro w5 hr5 hb5 hz5)
      go_frame
      obtain ⟨q, hq⟩ : ∃ q, q = wr.heap.size := ⟨_, rfl⟩
      rw [← hq] at hr5 hz5 ⊢
      have HR5 := Lib.hid hr5
      have HQ := Lib.hid hq
      have HX5 := Lib.hid (HXR.out.keep hb5)
      have HK5 : Hid (Kp (fun i => i = b) w w5) := Lib.hid (Kp.new (below_step HBW.out (Nat.le_refl _) hb5))
      have hmq : m < q := by have := HRG.out.hm.lt; omega
      have hwq : w.heap.size ≤ q := by rw [hq]; exact HBW.out.size
      have hmb : m ≠ b := by omega
      clear hr5 hb5 hz5 hq c1 d3 hlen hkf
      go_loopw [8] (fun _ wr => ∃ (left : List ByteArray), HR kd wr m q (keysK l n) (fun s => (cnt l s : Int)) left ∧ Ax wr b x l left ∧ Bk p [.map (some b)] wr ∧ Kp (fun i => i = b) w wr) (fun _ wr => wr.rangeLeft m q)
      case atStart =>
        refine ⟨keysK l n, HR5.out, ?_, HX5.out.1, HK5.out⟩
        have := Ax.start (l := l) HX5.out
        rw [← HN.out] at this
        exact this
      case round =>
        obtain ⟨left, hrg, hax, hbk, hkp⟩ := hrel
        have HR6 := Lib.hid hrg; have HA6 := Lib.hid hax; have HB6 := Lib.hid hbk; have HK6 := Lib.hid hkp
        clear hrg hax hbk hkp
        go_wp2_with (at_next; refine wpList_next_h Value.string (fun _ => rfl) (Value.int .i64) (fun _ => rfl) HR6.out rfl _ rfl rfl ?_ ?_)
        · intro hnil
          as_aux_lemma =>
          subst hnil
          go_wp2
          go_ret
          exact ⟨rfl, HA6.out.finish HB6.out hne HX0.out.2.2.1 HG.out, HK6.out⟩
        · intro s w7 hsl hgs hrg7 hlt7 hk7 hz7 hen
          as_aux_lemma =>
          have hsk : s ∈ l := by
            have h1 := HR6.out.left_mem s hsl
            have h2 := (keysK_mem l n (by rw [HN.out]; exact Nat.le_refl _) s).1 h1
            rw [HN.out, List.take_length] at h2
            exact h2
          have hbq : b ≠ q := by omega
          have hpq : p ≠ q := by omega
          obtain ⟨hgt, w8, hu, hax8, hk8⟩ := (HA6.out.kp hk7 (fun e => hbq e)).step (by omega) (by rw [← HN.out]; omega) HR6.out.left_nodup hsl hsk hgs
          have hb7 := HB6.out.kp hk7 (fun e => hpq e)
          have c1 := (hb7.2 0 _ rfl).1
          have H8 : Hid (HR kd w8 m q (keysK l n) (fun s => (cnt l s : Int)) (delK left s) ∧ w8.rangeLeft m q < wr.rangeLeft m q) := Lib.hid (by
            obtain ⟨h1, h2⟩ := hrg7.kp hk8 (fun e => hmb e) (fun e => hbq e.symm)
            exact ⟨h1, by rw [h2]; exact hlt7⟩)
          have HA8 := Lib.hid hax8
          have HB8 := Lib.hid (hb7.kp hk8 (fun e => hne e))
          have HK8 : Hid (Kp (fun i => i = b) w w8) := Lib.hid ((HK6.out.over hk7 (fun i hi e => by omega)).over hk8 (fun i _ e => e))
          have hcx := cnt_le x s
          have hcl := cnt_le l s
          rw [← HN.out] at hcl
          have w9 : wrap64 ((cnt x s : Int) + (cnt l s : Int)) = (cnt x s : Int) + (cnt l s : Int) := wrap64_id (by omega) (by omega)
          clear hrg7 hlt7 hk7 hz7 hax8 hk8 hb7
          generalize ((cnt l s : Nat) : Int) = E at hen hu w9 ⊢
          generalize ((cnt x s : Nat) : Int) = C at hgt hu w9
          clear hcx hcl
          go_wp2
          go_roundw
          case rel => exact ⟨_, H8.out.1, HA8.out, HB8.out, HK8.out⟩
          case measure => exact H8.out.2
    · intro s w3 hsl hgs hrg3 hlt3 hk3 hz3 hen
      as_aux_lemma =>
      have hwr : w.heap.size ≤ r := by rw [← HMM.out]; omega
      have hb3 : Below w.heap.size w w3 := HBW.out.trans (hk3.below (B := w.heap.size) HBW.out.size (fun j hj => by omega))
      have hxr : Rx w3 p b x := HX0.out.kp (S := fun i => w.heap.size ≤ i) (Kp.of_below hb3 (fun _ _ h => h)) (by rw [← HMM.out]; omega) (by rw [← HMM.out]; omega)
      have c1 := (hxr.1.2 0 _ rfl).1
      have hgt : (Instr.lookup 40 (.map (some b)) (.string s) false).run Try.prog w3 = .ok (.int .i64 (cnt x s)) w3 := by
        obtain ⟨_, _, _, ks, f, hm, hk, hf⟩ := hxr
        rw [← hf s hgs]
        exact hm_get hm hgs
      have hdl := delK_len left s
      rw [if_pos hsl] at hdl
      have hlp : 0 < left.length := List.length_pos_of_mem hsl
      have H3 := Lib.hid hrg3; have HL3 := Lib.hid hlt3; have HB3 := Lib.hid hb3
      have HDL := Lib.hid hdl
      clear hrg3 hlt3 hk3 hz3 hb3 hxr hdl
      by_cases hz : cnt x s = 0
      · have d2 : ((cnt x s : Int) == 0) = true := by simp; omega
        go_wp2
        go_roundw
        case rel => exact ⟨k + 1, _, by go_num, by rw [HDL.out]; omega, H3.out, HB3.out⟩
        case measure => exact HL3.out
      · have d2 : ((cnt x s : Int) == 0) = false := by simp; omega
        go_wp2
        go_roundw
        case rel => exact ⟨k, _, rfl, by rw [HDL.out]; omega, H3.out, HB3.out⟩
        case measure => exact HL3.out
end Go.Proofs.Ytopifdcokfdhlaa

