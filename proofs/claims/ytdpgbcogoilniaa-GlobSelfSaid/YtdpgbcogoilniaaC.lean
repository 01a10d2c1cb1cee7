/-
  Contracts of glob.Is, of the reference's Texts, and of glob.Some.
-/
import Derived.Test.YtdpgbcogoilniaaB
set_option linter.unusedVariables false
set_option linter.unusedSimpArgs false
namespace Go.Proofs.Ytdpgbcogoilniaa
open Go.RowKit
def isB (p s : List UInt8) : Bool := match partsOf p with | some l => mat l s | none => false
set_option maxHeartbeats 1000000 in
theorem Is_any (p s : ByteArray) (w : World) (hp : p.size ≤ 256) (hs : s.size ≤ 140737488351232) :
    Calls Try.prog 5 #[.string p, .string s] w fun e w' => e = .returned (.bool (isB p.data.toList s.data.toList)) ∧ Below w.heap.size w w' := by
  have HI : Hid (isB p.data.toList s.data.toList = match partsOf p.data.toList with | some l => mat l s.data.toList | none => false) := Lib.hid rfl
  go_enter Try.func5, Try.ntmps5
  go_wp2_with fail
  refine (parts_any _ _ hp).mono ?_
  rintro e w1 (⟨hb1, l, a, cap, hpo, hl, rfl, hsl⟩ | ⟨hb1, hpo, rfl⟩)
  · have HR : Hid (isB p.data.toList s.data.toList = mat l s.data.toList) := Lib.hid (by rw [HI.out, hpo])
    have hl2 : l.length ≤ 256 := by rw [length_data] at hl; omega
    have HSL := Lib.hid hsl
    clear hpo hsl hl
    go_wp2_with fail
    refine (is_any _ _ _ _ _ hl2 hs HSL.out).mono ?_
    rintro e w2 ⟨rfl, hb2⟩
    go_wp2_with fail
    go_ret
    exact ⟨rbool HR.out.symm, below_cons hb1 hb2⟩
  · have HR : Hid (isB p.data.toList s.data.toList = false) := Lib.hid (by rw [HI.out, hpo])
    clear hpo
    go_wp2_with fail
    go_ret
    exact ⟨rbool HR.out.symm, hb1⟩
theorem toList_inj {a b : ByteArray} (h : a.toList = b.toList) : a = b := by
  rw [Lib.toList_data, Lib.toList_data] at h
  exact ByteArray.ext (Array.toList_inj.1 h)
def encT (s : ByteArray) : List Value := [.string s]
set_option maxHeartbeats 1000000 in
theorem texts_any (a b : Option Addr) (x y : List ByteArray) (ca cb : Nat) (w : World) (hx : x.length ≤ 9223372036854775806) (hy : y.length ≤ 9223372036854775806) (ha : Sl encT 1 w a x) (hb : Sl encT 1 w b y) :
    Calls Try.prog 7 #[.slice a x.length ca, .slice b y.length cb] w fun e w' => e = .returned (.bool (decide (x = y))) ∧ Below w.heap.size w w' := by
  have HA := Lib.hid ha; have HB := Lib.hid hb
  clear ha hb
  by_cases hl : x.length = y.length
  · have hl1 : ((x.length : Int) == (y.length : Int)) = true := beq_iff_eq.2 (by omega)
    have hl2 : ((x.length : Int) != (y.length : Int)) = false := by rw [bne_eq_false_iff_eq]; omega
    have HL := Lib.hid hl; clear hl
    go_enter Try.func7, Try.ntmps7
    go_wp2
    go_loopw [5] (fun i wr => ∃ k : Nat, k ≤ x.length ∧ i = .int .i64 k ∧ x.take k = y.take k ∧ Below w.heap.size w wr) (fun i _ => x.length - (intOf i).toNat)
    case atStart => exact ⟨0, by omega, rfl, by simp, Below.refl _ _⟩
    case round =>
      obtain ⟨k, hk, rfl, htk, hb⟩ := hrel
      have HT := Lib.hid htk; clear htk
      by_cases hlt : k < x.length
      · have hlt2 : k < y.length := by rw [← HL.out]; exact hlt
        obtain ⟨b1, o1, rfl, _, hc1⟩ := HA.out.keep hb k hlt
        obtain ⟨b2, o2, rfl, _, hc2⟩ := HB.out.keep hb k hlt2
        have c1 : wr.cell? ⟨b1, o1 + k * 1, none⟩ = some (.string x[k]) := hc1 0 _ rfl
        have c2 : wr.cell? ⟨b2, o2 + k * 1, none⟩ = some (.string y[k]) := hc2 0 _ rfl
        rw [Nat.mul_one] at c1 c2
        have gi : (k : Int) < (x.length : Int) := by omega
        have gi2 : (k : Int) < (y.length : Int) := by omega
        clear hc1 hc2
        by_cases he : x[k] = y[k]
        · have HN : Hid (x.take (k + 1) = y.take (k + 1)) := Lib.hid (by rw [List.take_succ_eq_append_getElem hlt, List.take_succ_eq_append_getElem hlt2, HT.out, he])
          have hb1 : (x[k].toList == y[k].toList) = true := by rw [he]; simp
          have hb2 : (x[k].toList != y[k].toList) = false := by rw [he]; simp
          have HE := Lib.hid he; clear he
          go_wp2
          go_quiet (fail)
          go_wp2
          go_roundw
          case rel => exact ⟨k + 1, by omega, by go_num, HN.out, below_drewN hb _⟩
          case measure => simp [intOf]; omega
        · have hb1 : (x[k].toList == y[k].toList) = false := beq_eq_false_iff_ne.2 fun h => he (toList_inj h)
          have hb2 : (x[k].toList != y[k].toList) = true := bne_iff_ne.2 fun h => he (toList_inj h)
          have HN : Hid (x ≠ y) := Lib.hid (fun h => he (by subst h; rfl))
          clear he
          go_wp2
          go_quiet (fail)
          go_wp2
          go_ret
          exact ⟨rbool (decide_eq_false HN.out).symm, below_drewN hb _⟩
      · obtain rfl : k = x.length := by omega
        have HN : Hid (x = y) := Lib.hid (by have := HT.out; rw [List.take_length, HL.out, List.take_length] at this; exact this)
        go_wp2
        go_ret
        exact ⟨rbool (decide_eq_true HN.out).symm, hb⟩
  · have hl1 : ((x.length : Int) == (y.length : Int)) = false := beq_eq_false_iff_ne.2 (by omega)
    have hl2 : ((x.length : Int) != (y.length : Int)) = true := bne_iff_ne.2 (by omega)
    have HN : Hid (x ≠ y) := Lib.hid (fun h => hl (by rw [h]))
    clear hl
    go_enter Try.func7, Try.ntmps7
    go_wp2
    go_ret
    exact ⟨rbool (decide_eq_false HN.out).symm, Below.refl _ _⟩
theorem info9 : (Try.prog.info? 9).map (fun i => (i.zero, i.size, i.bytes)) = some (some (.string ByteArray.empty), 1, 16) := by kernel_rfl
/-- What Some answers: the texts for which the pattern stands; or why not. -/
def SomeIs (ss : List ByteArray) (p : List UInt8) (w : World) (e : Ending) (w' : World) : Prop :=
  Below w.heap.size w w' ∧
  ((∃ (l : List Part) (a : Option Addr) (cap : Nat), partsOf p = some l ∧ e = .returned (.tuple #[.slice a (ss.filter fun s => mat l s.data.toList).length cap, .int .i64 0]) ∧ Sl encT 1 w' a (ss.filter fun s => mat l s.data.toList)) ∨
  (partsOf p = none ∧ e = .returned (.tuple #[.slice none 0 0, .int .i64 5])))
theorem own_strs {w : World} {B : Nat} {v : Value} {l : List ByteArray} (h : w.ownsRow B 9 1 v l.length (l.map Value.string)) :
    ∃ a cap, v = .slice a l.length cap ∧ Sl encT 1 w a l := by
  obtain ⟨_, ⟨rfl, h0⟩ | ⟨g, cap, cur, rfl, hg, hh, hn, hm, hc, ht⟩⟩ := h
  · refine ⟨none, 0, by rw [h0], ?_⟩
    have : l = [] := List.eq_nil_of_length_eq_zero h0
    subst this; exact Sl.nil _ _ _ _
  · refine ⟨some ⟨g, 0, none⟩, cap, rfl, fun i hi => ⟨g, 0, rfl, ?_, fun j u hj => ?_⟩⟩
    · exact (Array.getElem?_eq_some_iff.1 hh).1
    · have hj2 : j < 1 := (List.getElem?_eq_some_iff.1 hj).1
      obtain rfl : j = 0 := by omega
      have h1 : (w.heap[g]?) = some (.cells cur 9 (0, 0)) := hh
      unfold World.cell?
      simp only [h1]
      have h2 : (l.map Value.string)[i]? = some u := by rw [List.getElem?_map, List.getElem?_eq_getElem hi]; exact hj
      rw [← ht, List.getElem?_take, if_pos (by omega)] at h2
      simp only [Nat.zero_add, Nat.mul_one, Nat.add_zero]
      simpa using h2
theorem own_keep {w w2 : World} {B : Nat} {e : TypeId} {size : Nat} {v : Value} {n : Nat} {xs : List Value} (h : w.ownsRow B e size v n xs) (hb : Below w.heap.size w w2) : w2.ownsRow B e size v n xs := by
  obtain ⟨h0, h1 | ⟨g, cap, cur, rfl, hg, hh, r⟩⟩ := h
  · exact ⟨h0, .inl h1⟩
  · have hlt : g < w.heap.size := (Array.getElem?_eq_some_iff.1 hh).1
    exact ⟨h0, .inr ⟨g, cap, cur, rfl, hg, by rw [hb.block g hlt]; exact hh, r⟩⟩
set_option maxHeartbeats 2000000 in
theorem some_any (a : Option Addr) (ss : List ByteArray) (ca : Nat) (p : ByteArray) (w : World) (hp : p.size ≤ 256) (hss : ss.length ≤ 1000) (hsz : ∀ s ∈ ss, s.size ≤ 140737488351232) (hsl : Sl encT 1 w a ss) :
    Calls Try.prog 6 #[.slice a ss.length ca, .string p] w (SomeIs ss p.data.toList w) := by
  obtain ⟨i0, hi, hz0, hz1, hz2'⟩ := info_parts info9
  have HSL := Lib.hid hsl; have HSZ := Lib.hid hsz
  clear hsl hsz
  go_enter Try.func6, Try.ntmps6
  go_wp2_with fail
  refine (parts_any _ _ hp).mono ?_
  rintro e w1 (⟨hb1, l, al, cap, hpo, hl, rfl, hsl⟩ | ⟨hb1, hpo, rfl⟩)
  · have hl2 : l.length ≤ 256 := by rw [length_data] at hl; omega
    have HSL2 := Lib.hid hsl
    have HPO := Lib.hid hpo
    clear hpo hsl hl
    go_wp2_with fail
    go_loopw [8, 10, 21] (fun v _ i wr => ∃ k : Nat, k ≤ ss.length ∧ i = .int .i64 k ∧ wr.ownsRow w1.heap.size 9 1 v ((ss.take k).filter fun s => mat l s.data.toList).length (((ss.take k).filter fun s => mat l s.data.toList).map Value.string) ∧ Below w1.heap.size w1 wr) (fun _ _ i _ => ss.length - (intOf i).toNat)
    case atStart => exact ⟨0, by omega, rfl, ⟨by simp, .inl ⟨rfl, by simp⟩⟩, Below.refl _ _⟩
    case round =>
      obtain ⟨k, hk, rfl, hown, hb⟩ := hrel
      by_cases hlt : k < ss.length
      · obtain ⟨b2, o2, rfl, _, hc2⟩ := (HSL.out.keep hb1).keep hb k hlt
        have c2 : wr.cell? ⟨b2, o2 + k * 1, none⟩ = some (.string ss[k]) := hc2 0 _ rfl
        rw [Nat.mul_one] at c2
        clear hc2
        have gi : (k : Int) < (ss.length : Int) := by omega
        have HT : Hid (ss.take (k + 1) = ss.take k ++ [ss[k]]) := Lib.hid (List.take_succ_eq_append_getElem hlt)
        have HIS := Lib.hid (fun W (hB : Below w1.heap.size w1 W) => is_any al l cap ss[k] W hl2 (HSZ.out _ (List.getElem_mem hlt)) (HSL2.out.keep hB))
        have hlen : ((ss.take k).filter fun s => mat l s.data.toList).length ≤ k := Nat.le_trans (List.length_filter_le _ _) (by simp; omega)
        generalize hF : (ss.take k).filter (fun s => mat l s.data.toList) = F at *
        have HF := Lib.hid hF; clear hF
        cases hm : mat l ss[k].data.toList with
        | true =>
          have HM := Lib.hid hm; clear hm
          have HF2 : Hid ((ss.take (k + 1)).filter (fun s => mat l s.data.toList) = F ++ [ss[k]]) := Lib.hid (by rw [HT.out, List.filter_append, HF.out]; simp [HM.out])
          go_wp2_with fail
          refine (HIS.out _ hb).mono ?_
          rintro e w2 ⟨rfl, hb2⟩
          rw [HM.out]
          have hown2 := own_keep hown hb2
          have HB2 := Lib.hid (below_step hb (Nat.le_refl _) hb2)
          have hz2 : w1.heap.size ≤ w2.heap.size := HB2.out.size
          clear hown hb hb2
          go_wp2_with (at_builtin; refine wpList_append_own _ rfl _ _ 24 rfl w1.heap.size 9 i0 (.string ByteArray.empty) 1 16 Try.underlying24 hi hz0 hz1 hz2' rfl (by decide) _ _ _ rfl (hown2.alloc _) ⟨w2.heap.size, 0, none⟩ 1 1 [.string ss[k]] rfl rfl ?a1 ?a2 ?a3 ?a4 ?a5 ?_)
          case a1 => intro j u hj; exact new_cells _ _ _ j u hj
          case a2 => intro u hu; simp at hu; subst hu; rfl
          case a3 => unfold maxLen; omega
          case a4 => omega
          case a5 => simp; omega
          intro v' w3 hown' hgrow _
          have HB : Hid (Below w1.heap.size w1 w3) := Lib.hid ((HB2.out.alloc hz2 _).grown hgrow (by simp; omega) (fun q hq => (hown2.lt q hq).1))
          have HO : Hid (w3.ownsRow w1.heap.size 9 1 v' (F ++ [ss[k]]).length ((F ++ [ss[k]]).map Value.string)) := Lib.hid (by rw [List.length_append, List.map_append]; simpa using hown')
          clear hown' hgrow hown2
          go_wp2
          go_roundw
          case rel => exact ⟨k + 1, by omega, by go_num, by rw [HF2.out]; exact HO.out, HB.out⟩
          case measure => simp [intOf]; omega
        | false =>
          have HM := Lib.hid hm; clear hm
          have HF2 : Hid ((ss.take (k + 1)).filter (fun s => mat l s.data.toList) = F) := Lib.hid (by rw [HT.out, List.filter_append, HF.out]; simp [HM.out])
          go_wp2_with fail
          refine (HIS.out _ hb).mono ?_
          rintro e w2 ⟨rfl, hb2⟩
          rw [HM.out]
          have HOWN := Lib.hid (own_keep hown hb2)
          clear hown
          go_wp2
          go_roundw
          case rel => exact ⟨k + 1, by omega, by go_num, by rw [HF2.out]; exact HOWN.out, below_step hb (Nat.le_refl _) hb2⟩
          case measure => simp [intOf]; omega
      · obtain rfl : k = ss.length := by omega
        rw [List.take_length] at hown
        obtain ⟨ao, co, rfl, hso⟩ := own_strs hown
        have HSO := Lib.hid hso
        clear hown hso
        go_wp2
        go_ret2
        exact ⟨below_cons hb1 hb, .inl ⟨l, ao, co, HPO.out, rfl, HSO.out⟩⟩
  · have HPO := Lib.hid hpo
    clear hpo
    go_wp2_with fail
    go_ret2
    exact ⟨hb1, .inr ⟨HPO.out, rfl⟩⟩
end Go.Proofs.Ytdpgbcogoilniaa
