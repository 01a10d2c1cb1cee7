/-
  The contract of net.Take.
-/
import Derived.Test.YtpplpbpgaaabdaaE
set_option linter.unusedVariables false
set_option linter.unusedSimpArgs false
namespace Go.Proofs.Ytpplpbpgaaabdaa
open Go.RowKit
theorem take_nil (i : Int) (w : World) : Calls Try.prog 9 #[.pointer none, .int .i64 i] w fun e w' => e = .returned (.tuple #[.int .i64 0, .string ⟨#[]⟩, .bool false]) ∧ w' = w := by
  go_enter Try.func9, Try.ntmps9
  go_wp2_with fail
  refine (peek_nil i _).mono ?_
  rintro e w1 ⟨rfl, rfl⟩
  go_wp2
  go_ret3
  exact ⟨rfl, rfl⟩
theorem take_none {p B : Nat} {v : Value} {room : Int} (i : Int) (w : World) (h : Ns w p B v [] room) : Calls Try.prog 9 #[.pointer (some ⟨p, 0, none⟩), .int .i64 i] w fun e w' => e = .returned (.tuple #[.int .i64 0, .string ⟨#[]⟩, .bool false]) ∧ w' = w := by
  go_enter Try.func9, Try.ntmps9
  go_wp2_with fail
  refine (peek_none i _ h).mono ?_
  rintro e w1 ⟨rfl, rfl⟩
  go_wp2
  go_ret3
  exact ⟨rfl, rfl⟩
set_option maxHeartbeats 4000000 in
theorem take_any {p B : Nat} {v : Value} {ms : List Msg} {room : Int} (i : Int) (w : World) (h : Ns w p B v ms room) (hn : 0 < ms.length) (hsm : ms.length ≤ 5000) :
    Calls Try.prog 9 #[.pointer (some ⟨p, 0, none⟩), .int .i64 i] w fun e w' => e = .returned (.tuple #[.int .i64 (ms[place i ms.length]'(place_lt i hn)).1, .string (ms[place i ms.length]'(place_lt i hn)).2, .bool true]) ∧
      ∃ v', Ns w' p B v' (ms.eraseIdx (place i ms.length)) room ∧ Kp (fun j => j = p ∨ v.ownBlock = some j) w w' ∧ v'.ownBlock = v.ownBlock := by
  have hpk := peek_any i w h hn
  have hk := place_lt i hn
  obtain ⟨q, hq⟩ : ∃ q : Nat, q = i.toNat := ⟨_, rfl⟩
  have hmod : Int.tmod (q : Int) (ms.length : Int) = ((place i ms.length : Nat) : Int) := by rw [hq]; exact tmod_nat _ _
  have hm1 : max i 0 = (q : Int) := by omega
  have hm2 : (if i < 0 then (0 : Int) else i) = (q : Int) := by split <;> omega
  clear hq
  obtain ⟨n1, hn1⟩ : ∃ n1, n1 + 1 = ms.length := ⟨ms.length - 1, by omega⟩
  generalize (ms[place i ms.length]'hk) = m at hpk ⊢
  have HL : Hid ((ms.eraseIdx (place i ms.length)).length = n1) := Lib.hid (by rw [List.length_eraseIdx_of_lt hk]; omega)
  generalize place i ms.length = k at *
  obtain ⟨g, cap, rfl⟩ := own_some h.2.1 hn
  have hlp : (0 : Int) < (ms.length : Int) := by omega
  have e0 : ((ms.length : Int) == 0) = false := by simp; intro e; rw [e] at hn; simp at hn
  have hgp : g ≠ p := by have := (h.2.1.lt g rfl).1; have := h.2.2.1; omega
  go_enter Try.func9, Try.ntmps9
  go_wp2_with fail
  refine hpk.mono ?_
  rintro e w1 ⟨rfl, hb⟩
  have hN := h.keep hb
  have c0 := (hN.1.2 0 _ rfl).1
  have HB := Lib.hid hb
  clear hb hpk h
  go_wp2_with fail
  have HD := delete_any k w1 hN.2.1 rfl hk hn1 hsm
  refine HD.mono ?_
  rintro e w2 ⟨rfl, ho, hkp⟩
  have hB2 := hN.1.kp hkp (fun e => hgp e.symm)
  have f2 := (hB2.2 0 _ rfl).2
  have c2 := (hB2.2 0 _ rfl).1
  have HB2 := Lib.hid (hB2.set 0 (by simp) (.slice (some ⟨g, 0, none⟩) n1 cap))
  have HO := Lib.hid ho; have HK := Lib.hid hkp
  clear HD hB2 ho hkp c0
  go_wp2
  go_ret3
  refine ⟨rfl, _, ⟨HB2.out, ?_, hN.2.2.1, ?_⟩, ?_, rfl⟩
  · rw [HL.out]
    exact own_kp2 HO.out (Kp.set (S := fun i => i = p) (Kp.refl _ _) p 0 _ rfl) (fun g' hg e => by simp [Value.ownBlock] at hg; omega)
  · have := HK.out.size; have := hN.2.2.2; simp; omega
  · exact (((Kp.new HB.out).trans (HK.out.mono (fun i _ e => Or.inr (by rw [e]; rfl)))).set p 0 _ (Or.inl rfl))
end Go.Proofs.Ytpplpbpgaaabdaa

