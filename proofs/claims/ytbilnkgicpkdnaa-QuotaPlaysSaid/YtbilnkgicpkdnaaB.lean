/-
  The contracts of quota.Take and Give, and of the law's of.
-/
import Derived.Test.YtbilnkgicpkdnaaA
set_option linter.unusedVariables false
set_option linter.unusedSimpArgs false
namespace Go.Proofs.Ytbilnkgicpkdnaa
open Go.RowKit
theorem take_nil (s : ByteArray) (n : Int) (w : World) : Calls Try.prog 9 #[.pointer none, .string s, .int .i64 n] w fun e w' => e = .returned (.bool false) ∧ w' = w := by
  by_cases h1 : n < 1
  · have d1 : decide (n < 1) = true := decide_eq_true h1
    go_enter Try.func9, Try.ntmps9
    go_wp2_with fail
    go_ret
    exact ⟨rfl, rfl⟩
  · have d1 : decide (n < 1) = false := decide_eq_false h1
    have d2 : decide (0 < n) = true := decide_eq_true (by omega)
    go_enter Try.func9, Try.ntmps9
    go_wp2_with fail
    refine (left_nil _).mono ?_
    rintro e w1 ⟨rfl, rfl⟩
    go_wp2
    go_ret
    exact ⟨rfl, rfl⟩
theorem give_nil (s : ByteArray) (n : Int) (w : World) : Calls Try.prog 8 #[.pointer none, .string s, .int .i64 n] w fun e w' => e = .returned (.bool false) ∧ w' = w := by
  by_cases h1 : n < 1
  · have d1 : decide (n < 1) = true := decide_eq_true h1
    go_enter Try.func8, Try.ntmps8
    go_wp2_with fail
    go_ret
    exact ⟨rfl, rfl⟩
  · have d1 : decide (n < 1) = false := decide_eq_false h1
    have d2 : decide (0 < n) = true := decide_eq_true (by omega)
    go_enter Try.func8, Try.ntmps8
    go_wp2_with fail
    refine (of_nil _ _).mono ?_
    rintro e w1 ⟨rfl, rfl⟩
    go_wp2
    go_ret
    exact ⟨rfl, rfl⟩
theorem take_no {p b k : Nat} {f : ByteArray → Int} {left : Int} (s : ByteArray) (n : Int) (w : World) (h : Qs w p b k f left) (hn : ¬ (1 ≤ n ∧ n ≤ left)) : Calls Try.prog 9 #[.pointer (some ⟨p, 0, none⟩), .string s, .int .i64 n] w fun e w' => e = .returned (.bool false) ∧ w' = w := by
  by_cases h1 : n < 1
  · have d1 : decide (n < 1) = true := decide_eq_true h1
    go_enter Try.func9, Try.ntmps9
    go_wp2_with fail
    go_ret
    exact ⟨rfl, rfl⟩
  · have d1 : decide (n < 1) = false := decide_eq_false h1
    have d2 : decide (left < n) = true := decide_eq_true (by omega)
    go_enter Try.func9, Try.ntmps9
    go_wp2_with fail
    refine (left_any _ h).mono ?_
    rintro e w1 ⟨rfl, rfl⟩
    go_wp2
    go_ret
    exact ⟨rfl, rfl⟩
theorem give_no {p b k : Nat} {f : ByteArray → Int} {left : Int} (s : ByteArray) (n : Int) (w : World) (h : Qs w p b k f left) (hs : s.size ≤ maxLen) (hn : ¬ (1 ≤ n ∧ n ≤ f s)) : Calls Try.prog 8 #[.pointer (some ⟨p, 0, none⟩), .string s, .int .i64 n] w fun e w' => e = .returned (.bool false) ∧ w' = w := by
  by_cases h1 : n < 1
  · have d1 : decide (n < 1) = true := decide_eq_true h1
    go_enter Try.func8, Try.ntmps8
    go_wp2_with fail
    go_ret
    exact ⟨rfl, rfl⟩
  · have d1 : decide (n < 1) = false := decide_eq_false h1
    have d2 : decide (f s < n) = true := decide_eq_true (by omega)
    go_enter Try.func8, Try.ntmps8
    go_wp2_with fail
    refine (of_any _ _ h hs).mono ?_
    rintro e w1 ⟨rfl, rfl⟩
    go_wp2
    go_ret
    exact ⟨rfl, rfl⟩
theorem take_yes {p b k : Nat} {f : ByteArray → Int} {left : Int} (s : ByteArray) (n : Int) (w : World) (h : Qs w p b k f left) (hs : s.size ≤ maxLen) (hk : k < maxLen) (hn : 1 ≤ n ∧ n ≤ left) (hl : left ≤ 9007199254740992) (hf : 0 ≤ f s ∧ f s ≤ 9007199254740992) :
    Calls Try.prog 9 #[.pointer (some ⟨p, 0, none⟩), .string s, .int .i64 n] w fun e w' => e = .returned (.bool true) ∧ Qs w' p b (k + 1) (upd f s (f s + n)) (left - n) ∧ Kp (fun i => i = p ∨ i = b) w w' := by
  have d1 : decide (n < 1) = false := decide_eq_false (by omega)
  have d2 : decide (left < n) = false := decide_eq_false (by omega)
  have w1 : wrap64 (f s + n) = f s + n := wrap64_id (by omega) (by omega)
  have w2 : wrap64 (left - n) = left - n := wrap64_id (by omega) (by omega)
  have c1 := (h.1.2 0 _ rfl).1
  have hg := (h.2.1.get hs).1
  obtain ⟨wm, hu, him, hkp⟩ := h.2.1.put hk hs (WalkArith.wf_i64 (n := f s + n) (by omega))
  have hB : Bk p [.map (some b), .int .i64 left] wm := h.1.kp hkp h.2.2
  have c3 := (hB.2 0 _ rfl).1
  have c2 := (hB.2 1 _ rfl).1
  have f2 := (hB.2 1 _ rfl).2
  have HB := Lib.hid hB; have HM := Lib.hid him; have HK := Lib.hid hkp
  clear hB him hkp
  go_enter Try.func9, Try.ntmps9
  go_wp2_with fail
  refine (left_any _ h).mono ?_
  rintro e w1 ⟨rfl, rfl⟩
  go_wp2
  go_ret
  refine ⟨rfl, ⟨?_, ?_, h.2.2⟩, ?_⟩
  · exact HB.out.set 1 (by simp) _
  · exact HM.out.kp (S := fun i => i = p) (Kp.set (Kp.refl _ _) p 1 _ rfl) (fun e => h.2.2 e.symm)
  · exact (HK.out.mono (fun _ _ e => Or.inr e)).set p 1 _ (Or.inl rfl)
theorem give_zero {p b k : Nat} {f : ByteArray → Int} {left : Int} (s : ByteArray) (n : Int) (w : World) (h : Qs w p b k f left) (hs : s.size ≤ maxLen) (hk : k < maxLen) (hn : 1 ≤ n ∧ n ≤ f s) (hl : 0 ≤ left ∧ left ≤ 9007199254740992) (hf : 0 ≤ f s ∧ f s ≤ 9007199254740992)  (hz : f s - n = 0) :
    Calls Try.prog 8 #[.pointer (some ⟨p, 0, none⟩), .string s, .int .i64 n] w fun e w' => e = .returned (.bool true) ∧ Qs w' p b (k + 1) (upd f s (f s - n)) (left + n) ∧ Kp (fun i => i = p ∨ i = b) w w' := by
  have d1 : decide (n < 1) = false := decide_eq_false (by omega)
  have d2 : decide (f s < n) = false := decide_eq_false (by omega)
  have w1 : wrap64 0 = 0 := wrap64_id (by omega) (by omega)
  have w2 : wrap64 (left + n) = left + n := wrap64_id (by omega) (by omega)
  have c1 := (h.1.2 0 _ rfl).1
  have hg := (h.2.1.get hs).1
  obtain ⟨wm, hu, him, hkp⟩ := h.2.1.put hk hs (WalkArith.wf_i64 (n := 0) (by omega))
  have hB : Bk p [.map (some b), .int .i64 left] wm := h.1.kp hkp h.2.2
  have c3 := (hB.2 0 _ rfl).1
  have c2 := (hB.2 1 _ rfl).1
  have f2 := (hB.2 1 _ rfl).2
  have hM2 : IM (wm.setCell ⟨p, 1, none⟩ (.int .i64 (left + n))) b (k + 1) (upd f s (0)) := him.kp (S := fun i => i = p) (Kp.set (Kp.refl _ _) p 1 _ rfl) (fun e => h.2.2 e.symm)
  have hB2 : Bk p [.map (some b), .int .i64 (left + n)] (wm.setCell ⟨p, 1, none⟩ (.int .i64 (left + n))) := hB.set 1 (by simp) _
  have hK2 : Kp (fun i => i = p ∨ i = b) w (wm.setCell ⟨p, 1, none⟩ (.int .i64 (left + n))) := (hkp.mono (fun _ _ e => Or.inr e)).set p 1 _ (Or.inl rfl)
  have HM := Lib.hid hM2; have HB := Lib.hid hB2; have HK := Lib.hid hK2
  obtain ⟨wd, hd, hmd, hkd⟩ := hM2.del hs 0
  have hg2 := (hM2.get hs).1
  rw [upd_same] at hg2
  have HMD := Lib.hid hmd; have HKD := Lib.hid hkd
  clear him hkp hB hM2 hB2 hK2 hmd hkd
  go_enter Try.func8, Try.ntmps8
  go_wp2_with fail
  refine (of_any _ _ h hs).mono ?_
  rintro e w1 ⟨rfl, rfl⟩
  go_wp2
  go_ret
  refine ⟨rfl, ⟨HB.out.kp HKD.out h.2.2, ?_, h.2.2⟩, HK.out.trans (HKD.out.mono (fun _ _ e => Or.inr e))⟩
  have e1 : upd f s (f s - n) = upd f s 0 := by rw [hz]
  rw [e1]
  have e2 : upd (upd f s 0) s 0 = upd f s 0 := by
    funext t
    by_cases e : t = s
    · subst e; rw [upd_same, upd_same]
    · rw [upd_other _ _ e]
  rw [← e2]
  exact HMD.out
theorem give_some {p b k : Nat} {f : ByteArray → Int} {left : Int} (s : ByteArray) (n : Int) (w : World) (h : Qs w p b k f left) (hs : s.size ≤ maxLen) (hk : k < maxLen) (hn : 1 ≤ n ∧ n ≤ f s) (hl : 0 ≤ left ∧ left ≤ 9007199254740992) (hf : 0 ≤ f s ∧ f s ≤ 9007199254740992)  (hz : f s - n ≠ 0) :
    Calls Try.prog 8 #[.pointer (some ⟨p, 0, none⟩), .string s, .int .i64 n] w fun e w' => e = .returned (.bool true) ∧ Qs w' p b (k + 1) (upd f s (f s - n)) (left + n) ∧ Kp (fun i => i = p ∨ i = b) w w' := by
  have d1 : decide (n < 1) = false := decide_eq_false (by omega)
  have d2 : decide (f s < n) = false := decide_eq_false (by omega)
  have w1 : wrap64 (f s - n) = f s - n := wrap64_id (by omega) (by omega)
  have w2 : wrap64 (left + n) = left + n := wrap64_id (by omega) (by omega)
  have c1 := (h.1.2 0 _ rfl).1
  have hg := (h.2.1.get hs).1
  obtain ⟨wm, hu, him, hkp⟩ := h.2.1.put hk hs (WalkArith.wf_i64 (n := f s - n) (by omega))
  have hB : Bk p [.map (some b), .int .i64 left] wm := h.1.kp hkp h.2.2
  have c3 := (hB.2 0 _ rfl).1
  have c2 := (hB.2 1 _ rfl).1
  have f2 := (hB.2 1 _ rfl).2
  have hM2 : IM (wm.setCell ⟨p, 1, none⟩ (.int .i64 (left + n))) b (k + 1) (upd f s (f s - n)) := him.kp (S := fun i => i = p) (Kp.set (Kp.refl _ _) p 1 _ rfl) (fun e => h.2.2 e.symm)
  have hB2 : Bk p [.map (some b), .int .i64 (left + n)] (wm.setCell ⟨p, 1, none⟩ (.int .i64 (left + n))) := hB.set 1 (by simp) _
  have hK2 : Kp (fun i => i = p ∨ i = b) w (wm.setCell ⟨p, 1, none⟩ (.int .i64 (left + n))) := (hkp.mono (fun _ _ e => Or.inr e)).set p 1 _ (Or.inl rfl)
  have HM := Lib.hid hM2; have HB := Lib.hid hB2; have HK := Lib.hid hK2
  have d3 : ((f s - n) == 0) = false := by simpa using hz
  have hg2 := (hM2.get hs).1
  rw [upd_same] at hg2
  clear him hkp hB hM2 hB2 hK2
  go_enter Try.func8, Try.ntmps8
  go_wp2_with fail
  refine (of_any _ _ h hs).mono ?_
  rintro e w1 ⟨rfl, rfl⟩
  go_wp2
  go_ret
  exact ⟨rfl, ⟨HB.out, HM.out, h.2.2⟩, HK.out⟩
theorem give_yes {p b k : Nat} {f : ByteArray → Int} {left : Int} (s : ByteArray) (n : Int) (w : World) (h : Qs w p b k f left) (hs : s.size ≤ maxLen) (hk : k < maxLen) (hn : 1 ≤ n ∧ n ≤ f s) (hl : 0 ≤ left ∧ left ≤ 9007199254740992) (hf : 0 ≤ f s ∧ f s ≤ 9007199254740992) :
    Calls Try.prog 8 #[.pointer (some ⟨p, 0, none⟩), .string s, .int .i64 n] w fun e w' => e = .returned (.bool true) ∧ Qs w' p b (k + 1) (upd f s (f s - n)) (left + n) ∧ Kp (fun i => i = p ∨ i = b) w w' := by
  by_cases hz : f s - n = 0
  · exact give_zero s n w h hs hk hn hl hf hz
  · exact give_some s n w h hs hk hn hl hf hz
end Go.Proofs.Ytbilnkgicpkdnaa

