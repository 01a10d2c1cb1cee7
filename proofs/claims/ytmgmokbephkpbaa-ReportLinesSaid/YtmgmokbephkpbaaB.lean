/-
  The contracts of report.line and report.numbers.
-/
import Derived.Test.YtmgmokbephkpbaaA
import Derived.OwnWalk
import Derived.Laws.OwnMore
set_option linter.unusedVariables false
set_option linter.unusedSimpArgs false
namespace Go.Proofs.Ytmgmokbephkpbaa
open Go.RowKit
def encT (s : ByteArray) : List Value := [.string s]
def encI (n : Int) : List Value := [.int .i64 n]
/-- Texts with blanks between. -/
def lineOf (l : List (List UInt8)) : List UInt8 := Lib.join l [32]
theorem line_any (a : Option Addr) (xs : List ByteArray) (c : Nat) (w : World) (hs : Sl encT 1 w a xs) (hN : xs.length ≤ 140737488355328) (hcap : xs.length ≤ c) (hlen : (lineOf (xs.map (·.data.toList))).length ≤ 140737488355328) :
    Calls Try.prog 10 #[.slice a xs.length c] w fun e w' => e = .returned (.string (str (lineOf (xs.map (·.data.toList))))) ∧ Below w.heap.size w w' := by
  have HJ : Hid (Calls Try.prog 12 #[.slice a xs.length c, .string ⟨#[32]⟩] w fun e w' => e = .returned (.string (str (lineOf (xs.map (·.data.toList))))) ∧ Below w.heap.size w w') := Lib.hid (by
    cases xs with
    | nil => exact (join_none a c _ w).mono fun e w' ⟨he, hw⟩ => ⟨he, hw ▸ Below.refl _ _⟩
    | cons x l =>
      obtain ⟨b, o, rfl, hb, _⟩ := hs 0 (by simp)
      refine join_any b o c (x :: l) ⟨#[32]⟩ w (fun j y hj => ?_) hb hN hcap hlen
      obtain ⟨hj1, rfl⟩ := List.getElem?_eq_some_iff.1 hj
      obtain ⟨b2, o2, he, _, hc⟩ := hs j hj1
      obtain ⟨rfl, rfl⟩ : b = b2 ∧ o = o2 := by simpa using he
      simpa using hc 0 _ rfl)
  clear hs hlen
  go_enter Try.func10, Try.ntmps10
  go_wp2_with fail
  refine HJ.out.mono ?_
  rintro e w1 ⟨rfl, hb1⟩
  go_wp2_with fail
  go_ret
  exact ⟨rfl, hb1⟩
theorem info9 : (Try.prog.info? 9).map (fun i => (i.zero, i.size, i.bytes)) = some (some (.string ByteArray.empty), 1, 16) := by kernel_rfl
theorem own_strs {w : World} {B : Nat} {v : Value} {l : List ByteArray} (h : w.ownsRow B 9 1 v l.length (l.map Value.string)) :
    ∃ a cap, v = .slice a l.length cap ∧ l.length ≤ cap ∧ Sl encT 1 w a l := by
  obtain ⟨_, ⟨rfl, h0⟩ | ⟨g, cap, cur, rfl, hg, hh, hn, hm, hc, ht⟩⟩ := h
  · refine ⟨none, 0, by rw [h0], by omega, ?_⟩
    have : l = [] := List.eq_nil_of_length_eq_zero h0
    subst this; exact Sl.nil _ _ _ _
  · refine ⟨some ⟨g, 0, none⟩, cap, rfl, hn, fun i hi => ⟨g, 0, rfl, ?_, fun j u hj => ?_⟩⟩
    · exact (Array.getElem?_eq_some_iff.1 hh).1
    · have hj2 : j < 1 := (List.getElem?_eq_some_iff.1 hj).1
      obtain rfl : j = 0 := by omega
      have h1 : (w.heap[g]?) = some (.cells cur 9 (0, 0)) := hh
      unfold World.cell?
      simp only [h1]
      have h2 : (l.map Value.string)[i]? = some u := by rw [List.getElem?_map, List.getElem?_eq_getElem hi]; exact hj
      rw [← ht, List.getElem?_take, if_pos (by omega)] at h2
      simp only [Nat.zero_add, Nat.mul_one, Nat.add_zero]
      simpa using h2
theorem own_keep {w w2 : World} {B : Nat} {e : TypeId} {size : Nat} {v : Value} {n : Nat} {xs : List Value} (h : w.ownsRow B e size v n xs) (hb : Below w.heap.size w w2) : w2.ownsRow B e size v n xs := by
  obtain ⟨h0, h1 | ⟨g, cap, cur, rfl, hg, hh, r⟩⟩ := h
  · exact ⟨h0, .inl h1⟩
  · have hlt : g < w.heap.size := (Array.getElem?_eq_some_iff.1 hh).1
    exact ⟨h0, .inr ⟨g, cap, cur, rfl, hg, by rw [hb.block g hlt]; exact hh, r⟩⟩
theorem dec_len2 {n : Int} (h0 : -9223372036854775808 ≤ n) (h : n ≤ 9223372036854775808) : (dec n).length ≤ 20 := by
  have := dec_len h0 h
  rwa [size_str] at this
theorem join_le (l : List (List UInt8)) (m : Nat) (h : ∀ x ∈ l, x.length ≤ m) : (lineOf l).length ≤ l.length * (m + 1) := by
  unfold lineOf
  cases l with
  | nil => simp [Lib.join_nil]
  | cons x r =>
    have := Lib.join_length x r [32]
    rw [this]
    have h2 : ∀ r : List (List UInt8), (∀ x ∈ r, x.length ≤ m) → Lib.lens r ≤ r.length * m := by
      intro r
      induction r with
      | nil => simp [Lib.lens]
      | cons y r ih =>
        intro h
        have := ih (fun x hx => h x (by simp [hx]))
        have := h y (by simp)
        simp only [Lib.lens, List.map_cons, List.sum_cons, List.length_cons, Nat.add_mul, Nat.one_mul] at *
        omega
    have h3 := h2 (x :: r) h
    simp only [List.length_cons, List.length_nil, Nat.add_mul, Nat.mul_add, Nat.one_mul, Nat.mul_one] at *
    omega
theorem str_data (l : List UInt8) : (str l).data.toList = l := rfl
set_option maxHeartbeats 2000000 in
theorem numbers_any (a : Option Addr) (xs : List Int) (c : Nat) (w : World) (hs : Sl encI 1 w a xs) (hN : xs.length ≤ 1000) (hx : ∀ n ∈ xs, -9223372036854775808 ≤ n ∧ n ≤ 9223372036854775807) :
    Calls Try.prog 11 #[.slice a xs.length c] w fun e w' => e = .returned (.string (str (lineOf (xs.map dec)))) ∧ Below w.heap.size w w' := by
  obtain ⟨i0, hi, hz0, hz1, hz2'⟩ := info_parts info9
  have HSL := Lib.hid hs; have HX := Lib.hid hx
  clear hs hx
  go_enter Try.func11, Try.ntmps11
  go_wp2
  go_loopw [3, 8] (fun v i wr => ∃ k : Nat, k ≤ xs.length ∧ i = .int .i64 k ∧ wr.ownsRow w.heap.size 9 1 v ((xs.take k).map fun n => str (dec n)).length (((xs.take k).map fun n => str (dec n)).map Value.string) ∧ Below w.heap.size w wr) (fun _ i _ => xs.length - (intOf i).toNat)
  case atStart => exact ⟨0, by omega, rfl, ⟨by simp, .inl ⟨rfl, by simp⟩⟩, Below.refl _ _⟩
  case round =>
    obtain ⟨k, hk, rfl, hown, hb⟩ := hrel
    by_cases hlt : k < xs.length
    · obtain ⟨b2, o2, rfl, _, hc2⟩ := HSL.out.keep hb k hlt
      have c2 : wr.cell? ⟨b2, o2 + k * 1, none⟩ = some (.int .i64 xs[k]) := hc2 0 _ rfl
      rw [Nat.mul_one] at c2
      clear hc2
      have gi : (k : Int) < (xs.length : Int) := by omega
      have HT : Hid ((xs.take (k + 1)).map (fun n => str (dec n)) = (xs.take k).map (fun n => str (dec n)) ++ [str (dec xs[k])]) := Lib.hid (by rw [List.take_succ_eq_append_getElem hlt, List.map_append]; rfl)
      have hbd := HX.out _ (List.getElem_mem hlt)
      have hlen : ((xs.take k).map fun n => str (dec n)).length ≤ k := by simp; omega
      generalize hF : (xs.take k).map (fun n => str (dec n)) = F at *
      have HF := Lib.hid hF; clear hF
      generalize hxk : xs[k] = x at *
      have HXK := Lib.hid hxk; clear hxk
      go_wp2_with fail
      refine (number_any x hbd.1 hbd.2 _).mono ?_
      rintro e w2 ⟨rfl, hb2⟩
      have hown2 := own_keep hown hb2
      have HB2 := Lib.hid (below_step hb (Nat.le_refl _) hb2)
      have hz2 : w.heap.size ≤ w2.heap.size := HB2.out.size
      clear hown hb hb2
      go_wp2_with (at_builtin; refine wpList_append_own _ rfl _ _ 25 rfl w.heap.size 9 i0 (.string ByteArray.empty) 1 16 Try.underlying25 hi hz0 hz1 hz2' rfl (by decide) _ _ _ rfl (hown2.alloc _) ⟨w2.heap.size, 0, none⟩ 1 1 [.string (str (dec x))] rfl rfl ?a1 ?a2 ?a3 ?a4 ?a5 ?_)
      case a1 => intro j u hj; exact new_cells _ _ _ j u hj
      case a2 => intro u hu; simp at hu; subst hu; rfl
      case a3 => unfold maxLen; omega
      case a4 => omega
      case a5 => simp; omega
      intro v' w3 hown' hgrow _
      have HB : Hid (Below w.heap.size w w3) := Lib.hid ((HB2.out.alloc hz2 _).grown hgrow (by simp; omega) (fun q hq => (hown2.lt q hq).1))
      have HO : Hid (w3.ownsRow w.heap.size 9 1 v' (F ++ [str (dec x)]).length ((F ++ [str (dec x)]).map Value.string)) := Lib.hid (by rw [List.length_append, List.map_append]; simpa using hown')
      clear hown' hgrow hown2
      go_wp2
      go_roundw
      case rel => exact ⟨k + 1, by omega, by go_num, by rw [HT.out]; exact HO.out, HB.out⟩
      case measure => simp [intOf]; omega
    · obtain rfl : k = xs.length := by omega
      rw [List.take_length] at hown
      obtain ⟨ao, co, rfl, hcap, hso⟩ := own_strs hown
      have HB := Lib.hid hb
      have hmap : ((xs.map fun n => str (dec n)).map (·.data.toList)) = xs.map dec := by rw [List.map_map]; rfl
      have hL := join_le (xs.map dec) 20 (fun y hy => by
        obtain ⟨n, hn, rfl⟩ := List.mem_map.1 hy
        exact dec_len2 (HX.out n hn).1 (by have := (HX.out n hn).2; omega))
      rw [List.length_map] at hL
      have HLN := Lib.hid (line_any ao (xs.map fun n => str (dec n)) co _ hso (by simp; omega) hcap (by rw [hmap]; omega))
      rw [hmap, List.length_map] at HLN
      clear hown hso hb
      go_wp2_with fail
      refine HLN.out.mono ?_
      rintro e w1 ⟨rfl, hb1⟩
      go_wp2_with fail
      go_ret
      exact ⟨rfl, below_step HB.out (Nat.le_refl _) hb1⟩
end Go.Proofs.Ytmgmokbephkpbaa
