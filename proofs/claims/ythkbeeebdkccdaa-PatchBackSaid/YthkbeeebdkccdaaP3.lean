/-
  The contract of Apply, for the patches that are met.
-/
import Derived.Test.YthkbeeebdkccdaaP2
import Derived.Test.YthkbeeebdkccdaaShelf
set_option linter.unusedVariables false
set_option linter.unusedSimpArgs false
namespace Go.Proofs.Ythkbeeebdkccdaa
open Go.RowKit
theorem bld_keep {T e : TypeId} {B b : Nat} {bs : List Value} {w w' : World} (h : Lib.IsBuilder T e B b bs w) (k : Below w.heap.size w w') : Lib.IsBuilder T e B b bs w' := by
  have one : ∀ p, Lib.BuilderAt T e B b p bs w → Lib.BuilderAt T e B b p bs w' := fun p ⟨h1, v, h2, h3, h4⟩ =>
    ⟨h1, v, (k.block _ (Array.getElem?_eq_some_iff.1 h2).1).trans h2, own_kept h3 k, h4⟩
  exact h.elim (fun h => .inl (one _ h)) (fun h => .inr (one _ h))
def strLen (v : Value) : Nat := match v with
  | .string r => r.size
  | _ => 0
inductive Part where
  | fresh (x : ByteArray)
  | old (a n : Nat)
def bytesP : Part → ByteArray
  | .fresh x => partF x
  | .old a n => partC a n
def outP (old : ByteArray) : Part → ByteArray
  | .fresh x => x
  | .old a n => old.extract a (a + n)
def okP (old : ByteArray) : Part → Prop
  | .fresh x => x.size ≤ 65536
  | .old a n => a + n ≤ old.size
def catP : List Part → ByteArray
  | [] => ByteArray.empty
  | x :: l => bytesP x ++ catP l
def outsP (old : ByteArray) : List Part → ByteArray
  | [] => ByteArray.empty
  | x :: l => outP old x ++ outsP old l
theorem outsP_snoc (old : ByteArray) (l : List Part) (x : Part) : outsP old (l ++ [x]) = outsP old l ++ outP old x := by
  induction l with
  | nil => show outP old x ++ ByteArray.empty = ByteArray.empty ++ outP old x; rw [ByteArray.append_empty, ByteArray.empty_append]
  | cons y l ih => show outP old y ++ outsP old (l ++ [x]) = outP old y ++ outsP old l ++ outP old x; rw [ih, ByteArray.append_assoc]
theorem outsP_take (old : ByteArray) (l : List Part) : ∀ k, (outsP old (l.take k)).size ≤ (outsP old l).size := by
  induction l with
  | nil => intro k; simp
  | cons x l ih =>
    intro k
    cases k with
    | zero => exact Nat.zero_le _
    | succ k =>
      rw [List.take_succ_cons]
      show (outP old x ++ outsP old (l.take k)).size ≤ (outP old x ++ outsP old l).size
      rw [ByteArray.size_append, ByteArray.size_append]
      have := ih k; omega
theorem catP_drop_size (l : List Part) : ∀ k, (catP (l.drop k)).size ≤ (catP l).size := by
  induction l with
  | nil => intro k; simp
  | cons x l ih =>
    intro k
    cases k with
    | zero => exact Nat.le_refl _
    | succ k =>
      rw [List.drop_succ_cons]
      refine Nat.le_trans (ih k) ?_
      show (catP l).size ≤ (bytesP x ++ catP l).size
      rw [ByteArray.size_append]; omega
theorem catN_pos (n : Nat) (l : List Nat) : 1 ≤ (catN (n :: l)).size := by
  show 1 ≤ (txt (nb n) ++ catN l).size
  rw [ByteArray.size_append, txt_size]
  have : (nb n).length ≠ 0 := by
    intro h
    have := List.eq_nil_of_length_eq_zero h
    unfold nb at this
    split at this <;> simp at this
  omega
theorem bytesP_pos (x : Part) : 1 ≤ (bytesP x).size := by
  cases x with
  | fresh x =>
    show 1 ≤ (catN [0] ++ textB x).size
    rw [ByteArray.size_append]
    have := catN_pos 0 []
    omega
  | old a n => exact catN_pos 1 [a, n]
/-- How the next part is read, and what it gives. -/
def NextOk (old : ByteArray) (x : Part) (r : ByteArray) (v : Value) : Prop :=
  ∀ W, Calls Try.prog 9 #[.string (bytesP x ++ r)] W fun e w' => e = .returned (.tuple #[v, .int .i64 (bytesP x).size, .int .i64 0]) ∧ Below W.heap.size W w'
set_option maxHeartbeats 8000000 in
theorem apply_any (old : ByteArray) (ps : List Part) (w : World) (ho : old.size ≤ 100000) (hok : ∀ x ∈ ps, okP old x) (hout : (outsP old ps).size ≤ 65536) (hcat : (catP ps).size ≤ 1000000) :
    Calls Try.prog 6 #[.string old, .string (catP ps)] w fun e w' => e = .returned (.tuple #[.string (outsP old ps), .int .i64 0]) ∧ Below w.heap.size w w' := by
  have HOK := Lib.hid hok
  have HB0 := Lib.hid (below_new w (.cells #[.pointer none, .slice none 0 0] 35))
  have HI0 := Lib.hid (Lib.fresh_isBuilder 35 5 w)
  obtain ⟨NL, hNL⟩ : ∃ n, n = ps.length := ⟨_, rfl⟩
  have HNL := Lib.hid hNL
  clear hok hNL
  have hcat2 := hcat
  obtain ⟨P0, hP0⟩ : ∃ P0, P0 = catP ps := ⟨_, rfl⟩
  have HP0 := Lib.hid hP0
  rw [← hP0]
  clear hP0
  go_enter Try.func6, Try.ntmps6
  go_wp2
  go_loopw [1] (fun p wr => ∃ j : Nat, p = .string (catP (ps.drop j)) ∧ j ≤ NL ∧ Lib.IsBuilder 35 5 w.heap.size w.heap.size (Lib.byteCells (outsP old (ps.take j)).data.toList) wr ∧ Below w.heap.size w wr) (fun p _ => strLen p)
  case atStart => exact ⟨0, by rw [List.drop_zero, HP0.out], by omega, HI0.out, HB0.out⟩
  case round =>
    obtain ⟨j, rfl, hj, hbd, hbw⟩ := hrel
    have HBD := Lib.hid hbd; have HB := Lib.hid hbw
    clear hbd hbw HI0 HB0
    by_cases hlt : j < NL
    · have hjl : j < ps.length := by rw [← HNL.out]; exact hlt
      have hd : ps.drop j = ps[j] :: ps.drop (j + 1) := by rw [List.drop_eq_getElem_cons hjl]
      have hpc : catP (ps.drop j) = bytesP ps[j] ++ catP (ps.drop (j + 1)) := by rw [hd]; rfl
      have hpos := bytesP_pos ps[j]
      have hrs := Nat.le_trans (catP_drop_size ps (j + 1)) hcat2
      have hos : outsP old (ps.take (j + 1)) = outsP old (ps.take j) ++ outP old ps[j] := by rw [List.take_succ_eq_append_getElem hjl, outsP_snoc]
      have hosz := Nat.le_trans (outsP_take old ps (j + 1)) hout
      have hokj := HOK.out ps[j] (List.getElem_mem hjl)
      rw [hpc]
      have hne := nonempty_of_pos (b := bytesP ps[j] ++ catP (ps.drop (j + 1))) (by rw [ByteArray.size_append]; omega)
      obtain ⟨RR, hRR⟩ : ∃ RR, RR = catP (ps.drop (j + 1)) := ⟨_, rfl⟩
      have HRR := Lib.hid hRR
      rw [← hRR] at hne hrs ⊢
      clear hRR
      generalize outsP old (ps.take j) = Y at *
      clear hd hpc
      generalize ps[j] = pj at *
      cases pj with
      | fresh x =>
        have hx : x.size ≤ 65536 := hokj
        have TN := Lib.hid (fun W => next_fresh x RR W hx (by omega))
        have TO := Lib.hid (fun W => of_fresh x old W)
        have hoz : Y.size + x.size ≤ 65536 := by rw [hos, ByteArray.size_append] at hosz; exact hosz
        change (outsP old (ps.take (j + 1)) = Y ++ x) at hos
        change 1 ≤ (partF x).size at hpos
        change (partF x ++ RR).toList.isEmpty = false at hne
        show Code.wp Try.prog _ _ _ _
        clear hokj
        simp only [bytesP]
        generalize partF x = PP at *
        go_wp2_with fail
        refine (TN.out _).mono ?_
        rintro e w2 ⟨rfl, hb⟩
        have HB := Lib.hid (HB.out.trans (hb.mono HB.out.size)); have HBD := Lib.hid (bld_keep HBD.out hb)
        clear hb
        go_wp2_with fail
        refine (TO.out _).mono ?_
        rintro e w3 ⟨rfl, hw⟩
        obtain rfl : w2 = w3 := hw.symm
        clear hw
        have TW := Lib.hid (Try.Builder_WriteString w.heap.size w.heap.size _ x _ HBD.out (by rw [Lib.byteCells_length, length_data]; omega) HB.out.size)
        go_wp2_with fail
        refine TW.out.mono ?_
        rintro e w4 ⟨rfl, hbd, hb⟩
        have HB := Lib.hid (HB.out.trans hb)
        have HBD := Lib.hid (Or.inr hbd : Lib.IsBuilder 35 5 w.heap.size w.heap.size _ w4)
        clear hb hbd TW
        have TL := Lib.hid (Try.Builder_Len w.heap.size w.heap.size _ w4 HBD.out)
        have hlen : ((Lib.byteCells Y.data.toList ++ Lib.strCells x).length : Int) ≤ 65536 := by
          rw [List.length_append, Lib.byteCells_length, Lib.strCells_length, length_data]
          omega
        have HBX : Hid (Lib.IsBuilder 35 5 w.heap.size w.heap.size (Lib.byteCells (Y ++ x).data.toList) w4) := Lib.hid (by
          have h8 := HBD.out
          have h9 : Lib.byteCells Y.data.toList ++ Lib.strCells x = Lib.byteCells (Y ++ x).data.toList := by simp [Lib.byteCells, Lib.strCells, ByteArray.data_append]
          rw [h9] at h8; exact h8)
        generalize (Lib.byteCells Y.data.toList ++ Lib.strCells x).length = LN at *
        have hl1 : ¬ (65536 : Int) < (LN : Int) := by omega
        go_wp2_with fail
        refine TL.out.mono ?_
        rintro e w5 ⟨rfl, hw⟩
        obtain rfl : w4 = w5 := hw.symm
        clear hw TL
        have hsl : (PP ++ RR).extract PP.size (PP.size + RR.size) = RR := by rw [← ByteArray.size_append]; exact ext_right PP RR
        have hsz : (PP ++ RR).size = PP.size + RR.size := ByteArray.size_append
        have hle : (PP.size : Int) ≤ ((PP ++ RR).size : Int) := by omega
        go_wp2
        go_roundw
        case rel => exact ⟨j + 1, by rw [HRR.out], by omega, by rw [hos]; exact HBX.out, HB.out⟩
        case measure =>
          show RR.size < (PP ++ RR).size
          omega
      | old a n =>
        have hx : a + n ≤ old.size := hokj
        have TN := Lib.hid (fun W => next_from a n RR W (by omega) (by omega) (by omega))
        have TO := Lib.hid (fun W => of_from a n old W hx ho)
        have hoz : Y.size + (old.extract a (a + n)).size ≤ 65536 := by rw [hos, ByteArray.size_append] at hosz; exact hosz
        change (outsP old (ps.take (j + 1)) = Y ++ old.extract a (a + n)) at hos
        change 1 ≤ (partC a n).size at hpos
        change (partC a n ++ RR).toList.isEmpty = false at hne
        clear hokj
        simp only [bytesP]
        generalize partC a n = PP at *
        generalize old.extract a (a + n) = ox at *
        go_wp2_with fail
        refine (TN.out _).mono ?_
        rintro e w2 ⟨rfl, hb⟩
        have HB := Lib.hid (HB.out.trans (hb.mono HB.out.size)); have HBD := Lib.hid (bld_keep HBD.out hb)
        clear hb
        go_wp2_with fail
        refine (TO.out _).mono ?_
        rintro e w3 ⟨rfl, hb⟩
        have HB := Lib.hid (HB.out.trans (hb.mono HB.out.size)); have HBD := Lib.hid (bld_keep HBD.out hb)
        clear hb
        have TW := Lib.hid (Try.Builder_WriteString w.heap.size w.heap.size _ ox _ HBD.out (by rw [Lib.byteCells_length, length_data]; omega) HB.out.size)
        go_wp2_with fail
        refine TW.out.mono ?_
        rintro e w4 ⟨rfl, hbd, hb⟩
        have HB := Lib.hid (HB.out.trans hb)
        have HBD := Lib.hid (Or.inr hbd : Lib.IsBuilder 35 5 w.heap.size w.heap.size _ w4)
        clear hb hbd TW
        have TL := Lib.hid (Try.Builder_Len w.heap.size w.heap.size _ w4 HBD.out)
        have hlen : ((Lib.byteCells Y.data.toList ++ Lib.strCells ox).length : Int) ≤ 65536 := by
          rw [List.length_append, Lib.byteCells_length, Lib.strCells_length, length_data]
          omega
        have HBX : Hid (Lib.IsBuilder 35 5 w.heap.size w.heap.size (Lib.byteCells (Y ++ ox).data.toList) w4) := Lib.hid (by
          have h8 := HBD.out
          have h9 : Lib.byteCells Y.data.toList ++ Lib.strCells ox = Lib.byteCells (Y ++ ox).data.toList := by simp [Lib.byteCells, Lib.strCells, ByteArray.data_append]
          rw [h9] at h8; exact h8)
        generalize (Lib.byteCells Y.data.toList ++ Lib.strCells ox).length = LN at *
        have hl1 : ¬ (65536 : Int) < (LN : Int) := by omega
        go_wp2_with fail
        refine TL.out.mono ?_
        rintro e w5 ⟨rfl, hw⟩
        obtain rfl : w4 = w5 := hw.symm
        clear hw TL
        have hsl : (PP ++ RR).extract PP.size (PP.size + RR.size) = RR := by rw [← ByteArray.size_append]; exact ext_right PP RR
        have hsz : (PP ++ RR).size = PP.size + RR.size := ByteArray.size_append
        have hle : (PP.size : Int) ≤ ((PP ++ RR).size : Int) := by omega
        go_wp2
        go_roundw
        case rel => exact ⟨j + 1, by rw [HRR.out], by omega, by rw [hos]; exact HBX.out, HB.out⟩
        case measure =>
          show RR.size < (PP ++ RR).size
          omega
    · obtain rfl : j = NL := by omega
      have he0 : catP (ps.drop j) = ByteArray.empty := by rw [List.drop_of_length_le (by rw [← HNL.out]; exact Nat.le_refl _)]; rfl
      have HE : Hid (outsP old (ps.take j) = outsP old ps) := Lib.hid (by rw [List.take_of_length_le (by rw [← HNL.out]; exact Nat.le_refl _)])
      rw [he0]
      rw [HE.out] at HBD
      have hem := empty_of_zero (b := ByteArray.empty) rfl
      have T := Lib.hid (Try.Builder_String_any w.heap.size w.heap.size _ wr HBD.out HB.out.size)
      go_wp2_with fail
      refine T.out.mono ?_
      rintro e w2 ⟨rfl, hb⟩
      have HB2 := Lib.hid (HB.out.trans hb)
      clear hb
      go_wp2
      go_ret2
      exact ⟨rfl, HB2.out⟩
end Go.Proofs.Ythkbeeebdkccdaa

