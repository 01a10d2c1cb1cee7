/-
  The contracts of the reader of wire: New, Num, Text, List, Err, Done.
-/
import Derived.Test.YthkbeeebdkccdaaF
set_option linter.unusedVariables false
set_option linter.unusedSimpArgs false
namespace Go.Proofs.Ythkbeeebdkccdaa
open Go.RowKit
theorem sl_kp {α : Type} {enc : α → List Value} {size : Nat} {S : Nat → Prop} {w w' : World} {a : Option Addr} {xs : List α} (h : Sl enc size w a xs) (k : Kp S w w') (hn : ∀ b o, a = some ⟨b, o, none⟩ → ¬ S b) : Sl enc size w' a xs := by
  intro i hi
  obtain ⟨b, o, ha, hlt, hc⟩ := h i hi
  refine ⟨b, o, ha, Nat.lt_of_lt_of_le hlt k.size, fun j v hv => ?_⟩
  rw [k.cell (p := ⟨b, o + i * size + j, none⟩) hlt (hn b o ha)]
  exact hc j v hv
/-- A reader: what is left, and the first error. -/
def Rd (p : Nat) (s : ByteArray) (e : Int) (w : World) : Prop := Bk p [.string s, .int .i64 e] w
theorem Rd.c0 {p : Nat} {s : ByteArray} {e : Int} {w : World} (h : Rd p s e w) : w.cell? ⟨p, 0, none⟩ = some (.string s) ∧ w.frozen? ⟨p, 0, none⟩ = false := h.2 0 _ rfl
theorem Rd.c1 {p : Nat} {s : ByteArray} {e : Int} {w : World} (h : Rd p s e w) : w.cell? ⟨p, 1, none⟩ = some (.int .i64 e) ∧ w.frozen? ⟨p, 1, none⟩ = false := h.2 1 _ rfl
theorem new_any (s : ByteArray) (w : World) : Calls Try.prog 15 #[.string s] w fun e w' => e = .returned (.pointer (some ⟨w.heap.size, 0, none⟩)) ∧ Rd w.heap.size s 0 w' ∧ Below w.heap.size w w' := by
  go_enter Try.func15, Try.ntmps15
  go_wp2
  go_ret
  exact ⟨rfl, Bk.new w _ #[.string s, .int .i64 0], below_new _ _⟩
theorem err_any (p : Nat) (s : ByteArray) (e : Int) (w : World) (h : Rd p s e w) : Calls Try.prog 17 #[.pointer (some ⟨p, 0, none⟩)] w fun r w' => r = .returned (.int .i64 e) ∧ w' = w := by
  obtain ⟨c0, f0⟩ := h.c0
  obtain ⟨c1, f1⟩ := h.c1
  go_enter Try.func17, Try.ntmps17
  go_wp2
  go_ret
  exact ⟨rfl, rfl⟩
def doneV (s : ByteArray) (e : Int) : Int := if e = 0 then (if s.size = 0 then 0 else 5) else e
theorem Rd.step {p : Nat} {s s' : ByteArray} {e e' : Int} {w w1 : World} (h : Rd p s e w) (k : Kp (fun _ => False) w w1) : Rd p s e w1 := Bk.kp h k (fun h => h)
theorem Rd.put0 {p : Nat} {s s' : ByteArray} {e : Int} {w : World} (h : Rd p s e w) : Rd p s' e (w.setCell ⟨p, 0, none⟩ (.string s')) := Bk.set h 0 (by simp) _
theorem Rd.put1 {p : Nat} {s : ByteArray} {e e' : Int} {w : World} (h : Rd p s e w) : Rd p s e' (w.setCell ⟨p, 1, none⟩ (.int .i64 e')) := Bk.set h 1 (by simp) _
/-- What a reader answers, and what it is then. -/
def numO (s : ByteArray) (e : Int) : Int × ByteArray × Int := if e = 0 then (if (readV (bys s)).2.2 = 0 then ((readV (bys s)).1, s.extract (readV (bys s)).2.1.toNat s.size, 0) else (0, s, (readV (bys s)).2.2)) else (0, s, e)
theorem numO_err {s : ByteArray} {e : Int} (h : e ≠ 0) : numO s e = (0, s, e) := by unfold numO; rw [if_neg h]
theorem numO_bad {s : ByteArray} {e : Int} (h : e ≠ 0) (h2 : readV (bys s) = (0, 0, e)) : numO s 0 = (0, s, e) := by unfold numO; rw [if_pos rfl, h2, if_neg h]
theorem numO_ok {s : ByteArray} {n k : Nat} (h2 : readV (bys s) = ((n : Int), (k : Int), 0)) : numO s 0 = ((n : Int), s.extract k s.size, 0) := by unfold numO; rw [if_pos rfl, h2, if_pos rfl]; rfl
theorem taken_num (p : Nat) (s : ByteArray) (e : Int) (w : World) (hs : s.size ≤ 1099511627776) (h : Rd p s e w) : Calls Try.prog 21 #[.pointer (some ⟨p, 0, none⟩), .func (.func 22) #[] #[]] w fun r w' => r = .returned (.int .i64 (numO s e).1) ∧ Rd p (numO s e).2.1 (numO s e).2.2 w' ∧ Kp (· = p) w w' := by
  obtain ⟨c0, f0⟩ := h.c0
  obtain ⟨c1, f1⟩ := h.c1
  by_cases he : e = 0
  · subst he
    rcases readV_cases (bys s) with ⟨n, k, g, h1, h2, h3, h4⟩ | ⟨e, he, g⟩
    · rw [numO_ok g]
      rw [bys_len] at h4
      have HR := Lib.hid (h.put0 (s' := s.extract k s.size))
      have HK : Hid (Kp (· = p) w (w.setCell ⟨p, 0, none⟩ (.string (s.extract k s.size)))) := Lib.hid ((Kp.refl _ _).set p 0 _ rfl)
      go_enter Try.func21, Try.ntmps21
      go_wp2_with fail
      refine (number_any s _ hs).mono ?_
      rintro r w1 ⟨rfl, hx⟩
      obtain rfl : w = w1 := hx.symm
      unfold readR
      rw [g]
      clear hx g
      dsimp only
      go_wp2
      go_ret
      exact ⟨rfl, HR.out, HK.out⟩
    · rw [numO_bad he g]
      have e1 : (e == 0) = false := by simp [he]
      have HR := Lib.hid (h.put1 (e' := e))
      have HK : Hid (Kp (· = p) w (w.setCell ⟨p, 1, none⟩ (.int .i64 e))) := Lib.hid ((Kp.refl _ _).set p 1 _ rfl)
      go_enter Try.func21, Try.ntmps21
      go_wp2_with fail
      refine (number_any s _ hs).mono ?_
      rintro r w1 ⟨rfl, hx⟩
      obtain rfl : w = w1 := hx.symm
      unfold readR
      rw [g]
      clear hx g
      dsimp only
      go_wp2
      go_ret
      exact ⟨rfl, HR.out, HK.out⟩
  · rw [numO_err he]
    have e1 : (e == 0) = false := by simp [he]
    go_enter Try.func21, Try.ntmps21
    go_wp2
    go_ret
    exact ⟨rfl, h, Kp.refl _ _⟩
theorem rd_num (p : Nat) (s : ByteArray) (e : Int) (w : World) (hs : s.size ≤ 1099511627776) (h : Rd p s e w) : Calls Try.prog 16 #[.pointer (some ⟨p, 0, none⟩)] w fun r w' => r = .returned (.int .i64 (numO s e).1) ∧ Rd p (numO s e).2.1 (numO s e).2.2 w' ∧ Kp (· = p) w w' := by
  go_enter Try.func16, Try.ntmps16
  go_wp2_with fail
  refine (taken_num p s e _ hs h).mono ?_
  rintro r w1 ⟨rfl, hr, hk⟩
  go_wp2
  go_ret
  exact ⟨rfl, hr, hk⟩
def txtO (s : ByteArray) (e : Int) : ByteArray × ByteArray × Int := if e = 0 then (if (txtV s).2.2 = 0 then ((txtV s).1, s.extract (txtV s).2.1.toNat s.size, 0) else (⟨#[]⟩, s, (txtV s).2.2)) else (⟨#[]⟩, s, e)
theorem txtO_err {s : ByteArray} {e : Int} (h : e ≠ 0) : txtO s e = (⟨#[]⟩, s, e) := by unfold txtO; rw [if_neg h]
theorem txtO_bad {s : ByteArray} {e : Int} (h : e ≠ 0) (h2 : txtV s = (⟨#[]⟩, 0, e)) : txtO s 0 = (⟨#[]⟩, s, e) := by unfold txtO; rw [if_pos rfl, h2, if_neg h]
theorem txtO_ok {s t : ByteArray} {k : Nat} (h2 : txtV s = (t, (k : Int), 0)) : txtO s 0 = (t, s.extract k s.size, 0) := by unfold txtO; rw [if_pos rfl, h2, if_pos rfl]; rfl
theorem taken_text (p : Nat) (s : ByteArray) (e : Int) (w : World) (hs : s.size ≤ 1099511627776) (h : Rd p s e w) : Calls Try.prog 23 #[.pointer (some ⟨p, 0, none⟩), .func (.func 24) #[] #[]] w fun r w' => r = .returned (.string (txtO s e).1) ∧ Rd p (txtO s e).2.1 (txtO s e).2.2 w' ∧ Kp (· = p) w w' := by
  obtain ⟨c0, f0⟩ := h.c0
  obtain ⟨c1, f1⟩ := h.c1
  by_cases he : e = 0
  · subst he
    rcases txtV_cases s with ⟨t, k, g, h1, h2, h3⟩ | ⟨e, he, g⟩
    · rw [txtO_ok g]
      have HR := Lib.hid (h.put0 (s' := s.extract k s.size))
      have HK : Hid (Kp (· = p) w (w.setCell ⟨p, 0, none⟩ (.string (s.extract k s.size)))) := Lib.hid ((Kp.refl _ _).set p 0 _ rfl)
      go_enter Try.func23, Try.ntmps23
      go_wp2_with fail
      refine (text_read s _ hs).mono ?_
      rintro r w1 ⟨rfl, hx⟩
      obtain rfl : w = w1 := hx.symm
      unfold txtR
      rw [g]
      clear hx g
      dsimp only
      go_wp2
      go_ret
      exact ⟨rfl, HR.out, HK.out⟩
    · rw [txtO_bad he g]
      have e1 : (e == 0) = false := by simp [he]
      have HR := Lib.hid (h.put1 (e' := e))
      have HK : Hid (Kp (· = p) w (w.setCell ⟨p, 1, none⟩ (.int .i64 e))) := Lib.hid ((Kp.refl _ _).set p 1 _ rfl)
      go_enter Try.func23, Try.ntmps23
      go_wp2_with fail
      refine (text_read s _ hs).mono ?_
      rintro r w1 ⟨rfl, hx⟩
      obtain rfl : w = w1 := hx.symm
      unfold txtR
      rw [g]
      clear hx g
      dsimp only
      go_wp2
      go_ret
      exact ⟨rfl, HR.out, HK.out⟩
  · rw [txtO_err he]
    have e1 : (e == 0) = false := by simp [he]
    go_enter Try.func23, Try.ntmps23
    go_wp2
    go_ret
    exact ⟨rfl, h, Kp.refl _ _⟩
theorem rd_text (p : Nat) (s : ByteArray) (e : Int) (w : World) (hs : s.size ≤ 1099511627776) (h : Rd p s e w) : Calls Try.prog 18 #[.pointer (some ⟨p, 0, none⟩)] w fun r w' => r = .returned (.string (txtO s e).1) ∧ Rd p (txtO s e).2.1 (txtO s e).2.2 w' ∧ Kp (· = p) w w' := by
  go_enter Try.func18, Try.ntmps18
  go_wp2_with fail
  refine (taken_text p s e _ hs h).mono ?_
  rintro r w1 ⟨rfl, hr, hk⟩
  go_wp2
  go_ret
  exact ⟨rfl, hr, hk⟩
theorem lstV_cases (s : ByteArray) : (∃ (l : List ByteArray) (k : Nat), lstV s = (l, k, 0) ∧ k ≤ s.size) ∨ (∃ e : Int, e ≠ 0 ∧ lstV s = ([], 0, e)) := by
  have hG : ∀ (m p : Nat) (out : List ByteArray), p ≤ s.size → (∃ (l : List ByteArray) (k : Nat), lstG s m p out = (l, k, 0) ∧ k ≤ s.size) ∨ (∃ e : Int, e ≠ 0 ∧ lstG s m p out = ([], 0, e)) := by
    intro m
    induction m with
    | zero => intro p out h; exact .inl ⟨out, p, rfl, h⟩
    | succ m ih =>
      intro p out h
      rcases txtV_cases (s.extract p s.size) with ⟨t, k, h1, h2, h3, h4⟩ | ⟨e, he, h1⟩
      · rw [lstG_ok h1]
        rw [ByteArray.size_extract] at h3
        exact ih _ _ (by omega)
      · exact .inr ⟨e, he, lstG_bad he h1⟩
  rcases readV_cases (bys s) with ⟨n, k, h, h1, h2, h3, h4⟩ | ⟨e, he, h⟩
  · by_cases hn : 4096 < n
    · exact .inr ⟨3, by decide, lstV_long h hn⟩
    · rw [lstV_ok h hn]; rw [bys_len] at h4; exact hG _ _ _ h4
  · exact .inr ⟨e, he, lstV_bad he h⟩
def lstO (s : ByteArray) (e : Int) : List ByteArray × ByteArray × Int := if e = 0 then (if (lstV s).2.2 = 0 then ((lstV s).1, s.extract (lstV s).2.1 s.size, 0) else ([], s, (lstV s).2.2)) else ([], s, e)
theorem lstO_err {s : ByteArray} {e : Int} (h : e ≠ 0) : lstO s e = ([], s, e) := by unfold lstO; rw [if_neg h]
theorem lstO_bad {s : ByteArray} {e : Int} (h : e ≠ 0) (h2 : lstV s = ([], 0, e)) : lstO s 0 = ([], s, e) := by unfold lstO; rw [if_pos rfl, h2, if_neg h]
theorem lstO_ok {s : ByteArray} {l : List ByteArray} {k : Nat} (h2 : lstV s = (l, k, 0)) : lstO s 0 = (l, s.extract k s.size, 0) := by unfold lstO; rw [if_pos rfl, h2, if_pos rfl]
def rlE (l : List ByteArray) (w w' : World) (r : Ending) : Prop := ∃ a cap, r = .returned (.slice a l.length cap) ∧ l.length ≤ cap ∧ Sl strC 1 w' a l ∧ (∀ b o, a = some ⟨b, o, none⟩ → w.heap.size ≤ b)
theorem rlE.nil (w w' : World) : rlE [] w w' (.returned (.slice none 0 0)) := ⟨none, 0, rfl, by simp, Sl.nil _ _ _ _, fun b o h => (by cases h)⟩
end Go.Proofs.Ythkbeeebdkccdaa

