/-
  The parts of a patch: their bytes.
-/
import Derived.Test.YthkbeeebdkccdaaG
import Derived.Test.YthkbeeebdkccdaaPl
set_option linter.unusedVariables false
set_option linter.unusedSimpArgs false
namespace Go.Proofs.Ythkbeeebdkccdaa
open Go.RowKit
def catN : List Nat → ByteArray
  | [] => ByteArray.empty
  | n :: l => txt (nb n) ++ catN l
theorem catN_snoc (l : List Nat) (n : Nat) : catN (l ++ [n]) = catN l ++ txt (nb n) := by
  induction l with
  | nil => show txt (nb n) ++ ByteArray.empty = ByteArray.empty ++ txt (nb n); rw [ByteArray.append_empty, ByteArray.empty_append]
  | cons x l ih => show txt (nb x) ++ catN (l ++ [n]) = txt (nb x) ++ catN l ++ txt (nb n); rw [ih, ByteArray.append_assoc]
theorem catN_size (l : List Nat) (h : ∀ n ∈ l, n ≤ 9007199254740992) : (catN l).size ≤ 8 * l.length := by
  induction l with
  | nil => exact Nat.zero_le _
  | cons x l ih =>
    have := ih (fun n hn => h n (by simp [hn]))
    have h2 := nb_len8 (h x (by simp))
    show (txt (nb x) ++ catN l).size ≤ _
    rw [ByteArray.size_append, txt_size, List.length_cons]; omega
def intC (n : Nat) : List Value := [.int .i64 n]
set_option maxHeartbeats 4000000 in
theorem nums_any (l : List Nat) (b c : Nat) (w : World) (hb : b < w.heap.size) (hc : ∀ j (hj : j < l.length), w.cell? ⟨b, j, none⟩ = some (.int .i64 l[j])) (hn : ∀ n ∈ l, n ≤ 9007199254740992) (hl : l.length ≤ 100) :
    Calls Try.prog 14 #[.slice (some ⟨b, 0, none⟩) l.length c] w fun e w' => e = .returned (.string (catN l)) ∧ Below w.heap.size w w' := by
  have HC := Lib.hid hc; have HN := Lib.hid hn
  obtain ⟨NL, hNL⟩ : ∃ n, n = l.length := ⟨_, rfl⟩
  have HNL := Lib.hid hNL
  rw [← hNL] at hl ⊢
  clear hc hn hNL
  go_enter Try.func14, Try.ntmps14
  go_wp2
  go_loopw [3, 10] (fun s i wr => ∃ j : Nat, i = .int .i64 j ∧ j ≤ NL ∧ s = .string (catN (l.take j)) ∧ Below w.heap.size w wr) (fun _ i _ => NL - (intOf i).toNat)
  case atStart => exact ⟨0, rfl, by omega, rfl, Below.refl _ _⟩
  case round =>
    obtain ⟨j, rfl, hj, rfl, hbw⟩ := hrel
    have HB := Lib.hid hbw
    by_cases hlt : j < NL
    · have hjl : j < l.length := by rw [← HNL.out]; exact hlt
      have c0 : wr.cell? ⟨b, j, none⟩ = some (.int .i64 l[j]) := (hbw.cell (p := ⟨b, j, none⟩) hb).trans (HC.out j hjl)
      have hnj := HN.out l[j] (List.getElem_mem hjl)
      have T := num_any (l[j] : Nat) wr
      rw [num_ok (m := l[j]) hnj rfl] at T
      have HS : Hid (catN (l.take (j + 1)) = catN (l.take j) ++ txt (nb l[j])) := Lib.hid (by rw [List.take_succ_eq_append_getElem hjl, catN_snoc])
      have hz := catN_size (l.take j) (fun n hn => HN.out n (List.mem_of_mem_take hn))
      have hz2 : (txt (nb l[j])).size ≤ 8 := by rw [txt_size]; exact nb_len8 hnj
      have htl := List.length_take_le j l
      have HT := Lib.hid T
      clear hbw T
      generalize txt (nb l[j]) = X at *
      generalize catN (l.take j) = Y at *
      generalize l[j] = x at *
      have hadd : Y.size + X.size ≤ 9223372036854775807 := by omega
      have hjN : (j : Int) < (NL : Int) := by omega
      go_wp2_with fail
      refine HT.out.mono ?_
      rintro e w2 ⟨rfl, hb2⟩
      have HB2 := Lib.hid (below_cons HB.out hb2)
      clear hb2 c0
      go_wp2
      go_roundw
      case rel => exact ⟨j + 1, by go_num, by omega, by rw [HS.out], HB2.out⟩
      case measure => simp [intOf]; omega
    · obtain rfl : j = NL := by omega
      have HE : Hid (catN (l.take j) = catN l) := Lib.hid (by rw [List.take_of_length_le (by rw [← HNL.out]; exact Nat.le_refl _)])
      rw [HE.out]
      have hjj : ¬ (j : Int) < (j : Int) := by omega
      clear hbw
      go_wp2
      go_ret
      exact ⟨rfl, HB.out⟩
theorem ta_yes0 (v : Value) (w : World) : (Instr.typeAssert (.iface 29 v) 37 29 true).run Try.prog w = .ok (.tuple #[v, .bool true]) w := by
  have h : (underlying 29).run Try.prog w = .ok .string w := by simp [go_sem, Try.underlying29]
  simp [Instr.typeAssert, Sem.run_bind, Result.andThen, h]
theorem ta_yes1 (v : Value) (w : World) : (Instr.typeAssert (.iface 31 v) 37 31 true).run Try.prog w = .ok (.tuple #[v, .bool true]) w := by
  have h : ∃ fs, (underlying 31).run Try.prog w = .ok (.struct fs) w := ⟨_, by simp [go_sem, Try.underlying31]; rfl⟩
  obtain ⟨fs, h⟩ := h
  simp [Instr.typeAssert, Sem.run_bind, Result.andThen, h]
theorem ta_no0 (v : Value) (w : World) : (Instr.typeAssert (.iface 31 v) 37 29 true).run Try.prog w = .ok (.tuple #[.string ⟨#[]⟩, .bool false]) w := by
  have h : (underlying 29).run Try.prog w = .ok .string w := by simp [go_sem, Try.underlying29]
  have h2 : (zeroValue 29).run Try.prog w = .ok (.string ⟨#[]⟩) w := by kernel_rfl
  simp [Instr.typeAssert, Sem.run_bind, Result.andThen, h, h2]
def partF (x : ByteArray) : ByteArray := catN [0] ++ textB x
def partC (a n : Nat) : ByteArray := catN [1, a, n]
set_option maxHeartbeats 4000000 in
theorem put_fresh (x : ByteArray) (w : World) (hx : x.size ≤ 65536) : Calls Try.prog 8 #[.iface 29 (.string x)] w fun e w' => e = .returned (.string (partF x)) ∧ Below w.heap.size w w' := by
  have T := fun W => text_put x W
  rw [textR_ok (by omega)] at T
  have HT := Lib.hid T
  have hta := ta_yes0
  have hz := textB_size x (by omega)
  have HN : Hid (∀ W : World, Calls Try.prog 14 #[.slice (some ⟨W.heap.size, 0, none⟩) 1 1] (W.alloc (.cells #[.int .i64 0] 3)) fun e w' => e = .returned (.string (catN [0])) ∧ Below W.heap.size W w') := Lib.hid (fun W => by
    have := nums_any [0] W.heap.size 1 (W.alloc (.cells #[.int .i64 0] 3)) (by simp) (fun j hj => by
      obtain rfl : j = 0 := by simpa using hj
      rw [cell_new]; rfl) (fun n hn => by simp at hn; omega) (by decide)
    exact this.mono (fun e w' h => ⟨h.1, below_cons (below_new W _) h.2⟩))
  have hz2 := catN_size [0] (fun n hn => by simp at hn; omega)
  have HP : Hid (partF x = catN [0] ++ textB x) := Lib.hid rfl
  generalize partF x = PF at *
  generalize catN [0] = CN at *
  generalize textB x = TB at *
  have hadd : CN.size + TB.size ≤ 9223372036854775807 := by simp at hz2; omega
  clear T
  go_enter Try.func8, Try.ntmps8
  go_wp2_with fail
  refine (HT.out _).mono ?_
  rintro e w1 ⟨rfl, hb⟩
  have HB := Lib.hid hb
  clear hb
  go_wp2_with fail
  refine (HN.out _).mono ?_
  rintro e w2 ⟨rfl, hb⟩
  have HB := Lib.hid (below_cons HB.out hb)
  clear hb
  go_wp2
  go_ret
  rw [HP.out]
  exact ⟨rfl, HB.out⟩
set_option maxHeartbeats 4000000 in
theorem put_from (a n : Nat) (w : World) (ha : a ≤ 9007199254740992) (hn : n ≤ 9007199254740992) : Calls Try.prog 8 #[.iface 31 (.agg #[.int .i64 a, .int .i64 n])] w fun e w' => e = .returned (.string (partC a n)) ∧ Below w.heap.size w w' := by
  have hta := ta_no0; have htb := ta_yes1
  have HB0 := Lib.hid (below_new w (.cells #[.int .i64 a, .int .i64 n] 31))
  have HA := Bk.new w 31 #[.int .i64 a, .int .i64 n]
  have m0 := (HA.2 0 _ rfl).1; have m1 := (HA.2 1 _ rfl).1
  have HN : Hid (∀ W : World, Calls Try.prog 14 #[.slice (some ⟨W.heap.size, 0, none⟩) 3 3] (W.alloc (.cells #[.int .i64 1, .int .i64 a, .int .i64 n] 3)) fun e w' => e = .returned (.string (partC a n)) ∧ Below W.heap.size W w') := Lib.hid (fun W => by
    have := nums_any [1, a, n] W.heap.size 3 (W.alloc (.cells #[.int .i64 1, .int .i64 a, .int .i64 n] 3)) (by simp) (fun j hj => by
      rw [cell_new]
      match j, hj with
      | 0, _ => rfl
      | 1, _ => rfl
      | 2, _ => rfl) (fun q hq => by simp at hq; omega) (by simp)
    exact this.mono (fun e w' h => ⟨h.1, below_cons (below_new W _) h.2⟩))
  generalize partC a n = PC at *
  clear HA
  go_enter Try.func8, Try.ntmps8
  go_wp2_with fail
  have T := HN.out (w.alloc (.cells #[.int .i64 a, .int .i64 n] 31))
  rw [show (w.alloc (.cells #[.int .i64 a, .int .i64 n] 31)).heap.size = w.heap.size + 1 by simp] at T
  refine T.mono ?_
  rintro e w2 ⟨rfl, hb⟩
  have HB2 := Lib.hid (show Below w.heap.size w w2 from HB0.out.trans (hb.mono (by omega)))
  clear hb T
  go_wp2
  go_ret
  exact ⟨rfl, HB2.out⟩
theorem of_fresh (x old : ByteArray) (w : World) : Calls Try.prog 42 #[.string x, .string old] w fun e w' => e = .returned (.tuple #[.string x, .int .i64 0]) ∧ w' = w := by
  go_enter Try.func42, Try.ntmps42
  go_wp2
  go_ret2
  exact ⟨rfl, rfl⟩
theorem of_from (a n : Nat) (old : ByteArray) (w : World) (h : a + n ≤ old.size) (ho : old.size ≤ 100000) : Calls Try.prog 43 #[.agg #[.int .i64 a, .int .i64 n], .string old] w fun e w' => e = .returned (.tuple #[.string (old.extract a (a + n)), .int .i64 0]) ∧ Below w.heap.size w w' := by
  have HB0 := Lib.hid (below_new w (.cells #[.int .i64 a, .int .i64 n] 31))
  have HA := Bk.new w 31 #[.int .i64 a, .int .i64 n]
  have m0 := (HA.2 0 _ rfl).1; have m1 := (HA.2 1 _ rfl).1
  have g1 : ¬ (old.size : Int) < (a : Int) := by omega
  have g2 : ¬ (old.size : Int) - (a : Int) < (n : Int) := by omega
  have g3 : (a : Int) ≤ (a : Int) + (n : Int) := by omega
  have g4 : (a : Int) + (n : Int) ≤ (old.size : Int) := by omega
  clear HA
  go_enter Try.func43, Try.ntmps43
  go_wp2
  go_ret2
  exact ⟨rfl, HB0.out⟩
theorem of_bad (a n : Nat) (old : ByteArray) (w : World) (h : old.size < a + n) (h2 : a ≤ old.size) (ho : old.size ≤ 100000) : Calls Try.prog 43 #[.agg #[.int .i64 a, .int .i64 n], .string old] w fun e w' => e = .returned (.tuple #[.string ⟨#[]⟩, .int .i64 2]) ∧ Below w.heap.size w w' := by
  have HB0 := Lib.hid (below_new w (.cells #[.int .i64 a, .int .i64 n] 31))
  have HA := Bk.new w 31 #[.int .i64 a, .int .i64 n]
  have m0 := (HA.2 0 _ rfl).1; have m1 := (HA.2 1 _ rfl).1
  have g1 : ¬ (old.size : Int) < (a : Int) := by omega
  have g2 : (old.size : Int) - (a : Int) < (n : Int) := by omega
  clear HA
  go_enter Try.func43, Try.ntmps43
  go_wp2
  go_ret2
  exact ⟨rfl, HB0.out⟩
end Go.Proofs.Ythkbeeebdkccdaa

