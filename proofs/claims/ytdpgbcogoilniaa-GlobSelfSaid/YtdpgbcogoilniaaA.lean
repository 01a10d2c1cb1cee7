/-
  The contract of glob.parts: the parts of a pattern, or the error.
-/
import Derived.Test.YtdpgbcogoilniaaBase2
import Derived.Test.YtdpgbcogoilniaaM
import Derived.Test.YtdpgbcogoilniaaProg
import Derived.OwnWalk
import Derived.Laws.OwnMore
set_option linter.unusedVariables false
set_option linter.unusedSimpArgs false
namespace Go.Proofs.Ytdpgbcogoilniaa
open Go.RowKit
def encPt (p : Part) : List Value := [.int .u8 p.1.toNat, .int .u8 p.2.toNat]
theorem info34 : (Try.prog.info? 34).map (fun i => (i.zero, i.size, i.bytes)) = some (some (.agg #[.int .u8 0, .int .u8 0]), 2, 2) := by kernel_rfl
/-- What parts answers: the parts in new memory; or why not. -/
def PartsIs (s : List UInt8) (w : World) (e : Ending) (w' : World) : Prop :=
  Below w.heap.size w w' ∧
  (∃ (l : List Part) (a : Option Addr) (cap : Nat), partsOf s = some l ∧ l.length ≤ s.length ∧ e = .returned (.tuple #[.slice a l.length cap, .int .i64 0]) ∧ Sl encPt 2 w' a l) ∨
  (Below w.heap.size w w' ∧ partsOf s = none ∧ e = .returned (.tuple #[.slice none 0 0, .int .i64 5]))
theorem own_sl {w : World} {B : Nat} {v : Value} {l : List Part} (h : w.ownsRow B 34 2 v l.length (l.flatMap encPt)) :
    ∃ a cap, v = .slice a l.length cap ∧ Sl encPt 2 w a l := by
  obtain ⟨_, ⟨rfl, h0⟩ | ⟨g, cap, cur, rfl, hg, hh, hn, hm, hc, ht⟩⟩ := h
  · refine ⟨none, 0, by rw [h0], ?_⟩
    have : l = [] := List.eq_nil_of_length_eq_zero h0
    subst this; exact Sl.nil _ _ _ _
  · refine ⟨some ⟨g, 0, none⟩, cap, rfl, fun i hi => ⟨g, 0, rfl, ?_, fun j u hj => ?_⟩⟩
    · exact (Array.getElem?_eq_some_iff.1 hh).1
    · have hj2 : j < 2 := (List.getElem?_eq_some_iff.1 hj).1
      have key : ∀ (l : List Part) (i : Nat) (hi : i < l.length), (l.flatMap encPt)[i * 2 + j]? = (encPt l[i])[j]? := by
        intro l
        induction l with
        | nil => intro i hi; cases hi
        | cons p l ih =>
          intro i hi
          rw [List.flatMap_cons]
          cases i with
          | zero => rw [List.getElem?_append_left (by simp [encPt]; omega)]; simp
          | succ i =>
            rw [List.getElem?_append_right (by simp [encPt]; omega)]
            have e : (i + 1) * 2 + j - (encPt p).length = i * 2 + j := by simp [encPt]; omega
            rw [e, ih i (by simp at hi; omega)]; rfl
      have h1 : (w.heap[g]?) = some (.cells cur 34 (0, 0)) := hh
      unfold World.cell?
      simp only [h1]
      have h2 := key l i hi
      rw [hj, ← ht, List.getElem?_take] at h2
      rw [if_pos (by omega)] at h2
      simp only [Nat.zero_add]
      rw [← h2]
      simp
set_option maxHeartbeats 2000000 in
theorem parts_any (s : ByteArray) (w : World) (hs : s.size ≤ 256) : Calls Try.prog 8 #[.string s] w (PartsIs s.data.toList w) := by
  obtain ⟨i0, hi, hz0, hz1, hz2⟩ := info_parts info34
  have hl := Lib.hid (length_data s)
  go_enter Try.func8, Try.ntmps8
  go_wp2
  go_loopw [4, 5, 17, 25, 35] (fun v i _ _ _ wr => ∃ (k : Nat) (acc : List Part), k ≤ s.size ∧ i = .int .i64 k ∧ acc.length ≤ k ∧ wr.ownsRow w.heap.size 34 2 v acc.length (acc.flatMap encPt) ∧ Below w.heap.size w wr ∧ partsOf s.data.toList = (partsOf (s.data.toList.drop k)).map (acc ++ ·)) (fun _ i _ _ _ _ => s.size - (intOf i).toNat)
  case atStart => exact ⟨0, [], by omega, rfl, by simp, ⟨by simp, .inl ⟨rfl, rfl⟩⟩, Below.refl _ _, by simp⟩
  case round =>
    obtain ⟨k, acc, hk, rfl, hacc, hown, hb, hP⟩ := hrel
    have HP := Lib.hid hP; clear hP
    by_cases hlt : k < s.size
    · have HD : Hid (s.data.toList.drop k = s[k] :: s.data.toList.drop (k + 1)) := Lib.hid (List.drop_eq_getElem_cons (by rw [length_data]; exact hlt))
      have hcb := s[k].toNat_lt
      by_cases h1 : s[k].toNat = 42 ∨ s[k].toNat = 63
      · have HC : Hid (s[k] = 42 ∨ s[k] = 63) := Lib.hid (h1.imp (fun h => UInt8.toNat.inj h) (fun h => UInt8.toNat.inj h))
        have HR : Hid (partsOf s.data.toList = (partsOf (s.data.toList.drop (k + 1))).map ((acc ++ [(s[k], 0)]) ++ ·)) := Lib.hid (by rw [HP.out, HD.out, partsOf_star _ _ HC.out, Option.map_map]; congr 1; funext x; simp)
        rcases h1 with h1 | h1
        · have e42 : ((s[k].toNat : Int) == 42) = true := beq_iff_eq.2 (by omega)
          have e92 : ((s[k].toNat : Int) == 92) = false := beq_eq_false_iff_ne.2 (by omega)
          clear h1
          go_wp2_with (at_builtin; refine wpList_append_own _ rfl _ _ 29 rfl w.heap.size 34 i0 (.agg #[.int .u8 0, .int .u8 0]) 2 2 Try.underlying29 hi hz0 hz1 hz2 rfl (by decide) _ _ _ rfl (hown.alloc _) ⟨wr.heap.size, 0, none⟩ 1 1 [.int .u8 s[k].toNat, .int .u8 0] rfl rfl ?a1 ?a2 ?a3 ?a4 ?a5 ?_)
          case a1 => intro j u hj; exact new_cells _ _ _ j u hj
          case a2 => intro u hu; simp at hu; rcases hu with rfl | rfl <;> rfl
          case a3 => unfold maxLen; omega
          case a4 => omega
          case a5 => have := hb.size; simp; omega
          intro v' w1 hown' hgrow _
          have HB : Hid (Below w.heap.size w w1) := Lib.hid ((hb.alloc hb.size _).grown hgrow (by have := hb.size; simp; omega) (fun q hq => (hown.lt q hq).1))
          have HO : Hid (w1.ownsRow w.heap.size 34 2 v' (acc ++ [(s[k], 0)]).length ((acc ++ [(s[k], 0)]).flatMap encPt)) := Lib.hid (by rw [List.length_append, List.flatMap_append]; simpa [encPt] using hown')
          clear hown' hgrow
          go_wp2
          go_roundw
          case rel => exact ⟨k + 1, acc ++ [(s[k], 0)], by omega, by go_num, by simp; omega, HO.out, HB.out, HR.out⟩
          case measure => simp [intOf]; omega
        · have e42 : ((s[k].toNat : Int) == 42) = false := beq_eq_false_iff_ne.2 (by omega)
          have e63 : ((s[k].toNat : Int) == 63) = true := beq_iff_eq.2 (by omega)
          have e92 : ((s[k].toNat : Int) == 92) = false := beq_eq_false_iff_ne.2 (by omega)
          clear h1
          go_wp2_with (at_builtin; refine wpList_append_own _ rfl _ _ 29 rfl w.heap.size 34 i0 (.agg #[.int .u8 0, .int .u8 0]) 2 2 Try.underlying29 hi hz0 hz1 hz2 rfl (by decide) _ _ _ rfl (hown.alloc _) ⟨wr.heap.size, 0, none⟩ 1 1 [.int .u8 s[k].toNat, .int .u8 0] rfl rfl ?b1 ?b2 ?b3 ?b4 ?b5 ?_)
          case b1 => intro j u hj; exact new_cells _ _ _ j u hj
          case b2 => intro u hu; simp at hu; rcases hu with rfl | rfl <;> rfl
          case b3 => unfold maxLen; omega
          case b4 => omega
          case b5 => have := hb.size; simp; omega
          intro v' w1 hown' hgrow _
          have HB : Hid (Below w.heap.size w w1) := Lib.hid ((hb.alloc hb.size _).grown hgrow (by have := hb.size; simp; omega) (fun q hq => (hown.lt q hq).1))
          have HO : Hid (w1.ownsRow w.heap.size 34 2 v' (acc ++ [(s[k], 0)]).length ((acc ++ [(s[k], 0)]).flatMap encPt)) := Lib.hid (by rw [List.length_append, List.flatMap_append]; simpa [encPt] using hown')
          clear hown' hgrow
          go_wp2
          go_roundw
          case rel => exact ⟨k + 1, acc ++ [(s[k], 0)], by omega, by go_num, by simp; omega, HO.out, HB.out, HR.out⟩
          case measure => simp [intOf]; omega
      · have e42 : ((s[k].toNat : Int) == 42) = false := beq_eq_false_iff_ne.2 (by omega)
        have e63 : ((s[k].toNat : Int) == 63) = false := beq_eq_false_iff_ne.2 (by omega)
        have HC : Hid (¬ (s[k] = 42 ∨ s[k] = 63)) := Lib.hid (fun h => h1 (h.imp (fun h => by rw [h]; rfl) (fun h => by rw [h]; rfl)))
        clear h1
        by_cases h2 : s[k].toNat = 92
        · have e92 : ((s[k].toNat : Int) == 92) = true := beq_iff_eq.2 (by omega)
          have HC9 : Hid (s[k] = 92) := Lib.hid (UInt8.toNat.inj h2)
          clear h2
          by_cases h3 : k + 1 = s.size
          · have HN : Hid (partsOf s.data.toList = none) := Lib.hid (by
              rw [HP.out, HD.out, HC9.out, List.drop_eq_nil_of_le (by rw [length_data]; omega), partsOf_cut]; rfl)
            have e3 : ((k : Int) + 1 == (s.size : Int)) = true := beq_iff_eq.2 (by omega)
            have H3 := Lib.hid h3; clear h3
            go_wp2
            go_ret2
            exact .inr ⟨hb, HN.out, rfl⟩
          · have h4 : k + 1 < s.size := by omega
            have h4' : (k : Int) + 1 < (s.size : Int) := by omega
            have e3 : ((k : Int) + 1 == (s.size : Int)) = false := beq_eq_false_iff_ne.2 (by omega)
            have HD2 : Hid (s.data.toList.drop (k + 1) = s[k + 1] :: s.data.toList.drop (k + 1 + 1)) := Lib.hid (List.drop_eq_getElem_cons (by rw [length_data]; exact h4))
            have HR : Hid (partsOf s.data.toList = (partsOf (s.data.toList.drop (k + 2))).map ((acc ++ [(0, s[k + 1])]) ++ ·)) := Lib.hid (by rw [HP.out, HD.out, HC9.out, HD2.out, partsOf_esc, Option.map_map]; congr 1; funext x; simp)
            clear h3
            go_wp2_with (at_builtin; refine wpList_append_own _ rfl _ _ 29 rfl w.heap.size 34 i0 (.agg #[.int .u8 0, .int .u8 0]) 2 2 Try.underlying29 hi hz0 hz1 hz2 rfl (by decide) _ _ _ rfl (hown.alloc _) ⟨wr.heap.size, 0, none⟩ 1 1 [.int .u8 0, .int .u8 s[k + 1].toNat] rfl rfl ?c1 ?c2 ?c3 ?c4 ?c5 ?_)
            case c1 => intro j u hj; exact new_cells _ _ _ j u hj
            case c2 => intro u hu; simp at hu; rcases hu with rfl | rfl <;> rfl
            case c3 => unfold maxLen; omega
            case c4 => omega
            case c5 => have := hb.size; simp; omega
            intro v' w1 hown' hgrow _
            have HB : Hid (Below w.heap.size w w1) := Lib.hid ((hb.alloc hb.size _).grown hgrow (by have := hb.size; simp; omega) (fun q hq => (hown.lt q hq).1))
            have HO : Hid (w1.ownsRow w.heap.size 34 2 v' (acc ++ [(0, s[k + 1])]).length ((acc ++ [(0, s[k + 1])]).flatMap encPt)) := Lib.hid (by rw [List.length_append, List.flatMap_append]; simpa [encPt] using hown')
            clear hown' hgrow
            go_wp2
            go_roundw
            case rel => exact ⟨k + 2, acc ++ [(0, s[k + 1])], by omega, by go_num, by simp; omega, HO.out, HB.out, HR.out⟩
            case measure => simp [intOf]; omega
        · have e92 : ((s[k].toNat : Int) == 92) = false := beq_eq_false_iff_ne.2 (by omega)
          have HC2 : Hid (s[k] ≠ 92) := Lib.hid (fun h => h2 (by rw [h]; rfl))
          have HR : Hid (partsOf s.data.toList = (partsOf (s.data.toList.drop (k + 1))).map ((acc ++ [(0, s[k])]) ++ ·)) := Lib.hid (by rw [HP.out, HD.out, partsOf_lit _ _ HC.out HC2.out, Option.map_map]; congr 1; funext x; simp)
          clear h2
          go_wp2_with (at_builtin; refine wpList_append_own _ rfl _ _ 29 rfl w.heap.size 34 i0 (.agg #[.int .u8 0, .int .u8 0]) 2 2 Try.underlying29 hi hz0 hz1 hz2 rfl (by decide) _ _ _ rfl (hown.alloc _) ⟨wr.heap.size, 0, none⟩ 1 1 [.int .u8 0, .int .u8 s[k].toNat] rfl rfl ?d1 ?d2 ?d3 ?d4 ?d5 ?_)
          case d1 => intro j u hj; exact new_cells _ _ _ j u hj
          case d2 => intro u hu; simp at hu; rcases hu with rfl | rfl <;> rfl
          case d3 => unfold maxLen; omega
          case d4 => omega
          case d5 => have := hb.size; simp; omega
          intro v' w1 hown' hgrow _
          have HB : Hid (Below w.heap.size w w1) := Lib.hid ((hb.alloc hb.size _).grown hgrow (by have := hb.size; simp; omega) (fun q hq => (hown.lt q hq).1))
          have HO : Hid (w1.ownsRow w.heap.size 34 2 v' (acc ++ [(0, s[k])]).length ((acc ++ [(0, s[k])]).flatMap encPt)) := Lib.hid (by rw [List.length_append, List.flatMap_append]; simpa [encPt] using hown')
          clear hown' hgrow
          go_wp2
          go_roundw
          case rel => exact ⟨k + 1, acc ++ [(0, s[k])], by omega, by go_num, by simp; omega, HO.out, HB.out, HR.out⟩
          case measure => simp [intOf]; omega
    · obtain rfl : k = s.size := by omega
      have HN : Hid (partsOf s.data.toList = some acc) := Lib.hid (by rw [HP.out, List.drop_eq_nil_of_le (by rw [length_data]; omega)]; simp [partsOf])
      obtain ⟨a, cap, rfl, hsl⟩ := own_sl hown
      go_wp2
      go_ret2
      exact .inl ⟨hb, acc, a, cap, HN.out, by rw [hl.out]; exact hacc, rfl, hsl⟩
end Go.Proofs.Ytdpgbcogoilniaa
