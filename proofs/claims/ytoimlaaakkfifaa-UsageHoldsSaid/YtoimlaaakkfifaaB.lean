/-
  The contracts of usage.chunks, and of the law's in and long.
-/
import Derived.Test.YtoimlaaakkfifaaF
import Derived.Test.YtoimlaaakkfifaaOwn
import Derived.Test.YtoimlaaakkfifaaStrs
import Derived.Maps.AppendAt
set_option linter.unusedVariables false
set_option linter.unusedSimpArgs false
namespace Go.Proofs.Ytoimlaaakkfifaa
open Go.RowKit
def chC (x : ByteArray × Int) : List Value := [.string x.1, .int .i64 x.2]
theorem sl_one {w : World} {a : Option Addr} {xs : List ByteArray} (h : Sl strC 1 w a xs) (i : Nat) (hi : i < xs.length) : ∃ b o, a = some ⟨b, o, none⟩ ∧ b < w.heap.size ∧ w.cell? ⟨b, o + i, none⟩ = some (.string xs[i]) := by
  obtain ⟨b, o, ha, hlt, hc⟩ := h i hi
  refine ⟨b, o, ha, hlt, ?_⟩
  have := hc 0 _ rfl
  rw [Nat.mul_one, Nat.add_zero] at this
  exact this
/-- A backup's first chunks. -/
def chK (e : Ent) : Nat → List (ByteArray × Int)
  | 0 => []
  | k + 1 => chK e k ++ [(idAt e k, lng e k)]
theorem chK_len (e : Ent) : ∀ k, (chK e k).length = k
  | 0 => rfl
  | k + 1 => by rw [chK, List.length_append, chK_len e k]; rfl
theorem chK_get (e : Ent) : ∀ k j (h : j < (chK e k).length), (chK e k)[j] = (idAt e j, lng e j)
  | 0, j, h => by simp [chK] at h
  | k + 1, j, h => by
    simp only [chK]
    by_cases hj : j < (chK e k).length
    · rw [List.getElem_append_left hj]; exact chK_get e k j hj
    · have : j = k := by rw [chK_len] at h hj; omega
      subst this
      rw [List.getElem_append_right (by omega)]
      simp
theorem infoC : (Try.prog.info? 47).map (fun i => (i.zero, i.size, i.bytes)) = some (some (.agg #[.string ByteArray.empty, .int .i64 0]), 2, 24) := by kernel_rfl
set_option maxHeartbeats 8000000 in
theorem chunks_any (e : Ent) (a : Option Addr) (c : Nat) (w : World) (hs : Sl strC 1 w a e.ids) (hok : e.ok) :
    Calls Try.prog 14 #[.agg #[.int .i64 e.size, .int .i64 e.chunk, .slice a e.ids.length c]] w fun r w' => ∃ v, r = .returned v ∧ w'.ownsRow w.heap.size 47 2 v e.ids.length ((chK e e.ids.length).flatMap chC) ∧ Below w.heap.size w w' := by
  obtain ⟨i0, hi0, hz0, hz1, hz2⟩ := info_parts infoC
  have hmax := max2_int; have hmax2 := max_two; have hmin := min2_int; have hmin2 := min_two
  have HS := Lib.hid hs
  have HL := Lib.hid (left_bound hok)
  have hcb := c_bound hok
  have hn20 := hok.1
  have HLN : Hid (∀ i, lng e i = if i + 1 < e.ids.length then e.c else mx 0 (mn (leftK e i) e.c)) := Lib.hid (fun i => rfl)
  have HID : Hid (∀ k, k < e.ids.length → idAt e k = e.ids.getD k ⟨#[]⟩) := Lib.hid (fun k _ => rfl)
  have HLK : Hid (∀ k, leftK e (k + 1) = if 0 < leftK e k then leftK e k - e.c else leftK e k) := Lib.hid (fun k => rfl)
  have HGT : Hid (∀ k (h : k < e.ids.length), e.ids[k] = idAt e k) := Lib.hid (fun k h => (idAt_get h).symm)
  have HL0 : Hid (leftK e 0 = e.size) := Lib.hid rfl
  have HB0 := Lib.hid (below_new w (.cells #[.int .i64 e.size, .int .i64 e.chunk, .slice a e.ids.length c] 36))
  have HCE : Hid (mx e.chunk 0 = e.c) := Lib.hid rfl
  clear hs hok
  obtain ⟨n, hn⟩ : ∃ n, n = e.ids.length := ⟨_, rfl⟩
  have HN := Lib.hid hn
  rw [← hn] at hn20 HLN HB0 ⊢
  clear hn
  have m1 : mx e.chunk 0 = e.c := HCE.out
  obtain ⟨C, hC⟩ : ∃ C, C = e.c := ⟨_, rfl⟩
  rw [← hC] at hcb HLN HLK m1
  clear hC HCE
  have HK0 : Hid (Bk w.heap.size [.int .i64 e.size, .int .i64 e.chunk, .slice a n c] (w.alloc (.cells #[.int .i64 e.size, .int .i64 e.chunk, .slice a n c] 36))) := Lib.hid (Bk.new w 36 #[.int .i64 e.size, .int .i64 e.chunk, .slice a n c])
  go_enter Try.func14, Try.ntmps14
  go_wp2
  go_loopw [4, 5, 17] (fun lf v i wr => ∃ k : Nat, i = .int .i64 k ∧ k ≤ n ∧ lf = .int .i64 (leftK e k) ∧ wr.ownsRow (w.heap.size + 1) 47 2 v k ((chK e k).flatMap chC) ∧ Bk w.heap.size [.int .i64 e.size, .int .i64 e.chunk, .slice a n c] wr ∧ Below w.heap.size w wr) (fun _ _ i _ => n - (intOf i).toNat)
  case atStart => exact ⟨0, rfl, by omega, rfl, own_nil _ _ _ _, HK0.out, HB0.out⟩
  case round =>
    obtain ⟨k, rfl, hk, rfl, hown, hbk, hbw⟩ := hrel
    have HO := Lib.hid hown
    have HBW := Lib.hid hbw
    have HBK := Lib.hid hbk
    have c0 := (hbk.2 2 _ rfl).1
    clear hown hbw hbk
    by_cases hkt : k < n
    · have hkl : k < e.ids.length := by rw [← HN.out]; exact hkt
      obtain ⟨b, o, rfl, hb, hc⟩ := sl_one HS.out k hkl
      rw [HGT.out k hkl] at hc
      have c1 : wr.cell? ⟨b, o + k, none⟩ = some (.string (idAt e k)) := (HBW.out.cell (p := ⟨b, o + k, none⟩) hb).trans hc
      have hl := HL.out k
      have HLX := Lib.hid (HLN.out k); have HLY := Lib.hid (HLK.out k)
      have HCK : Hid ((chK e (k + 1)).flatMap chC = (chK e k).flatMap chC ++ [.string (idAt e k), .int .i64 (lng e k)]) := Lib.hid (by rw [chK, List.flatMap_append]; rfl)
      clear hc
      generalize leftK e k = L at *
      generalize lng e k = N at *
      generalize idAt e k = s at *
      have d1 : (k : Int) < (n : Int) := by omega
      by_cases hlast : k + 1 < n
      · by_cases hL : 0 < L
        · have d2 : ((k : Int) == (n : Int) - 1) = false := by simp; omega
          have d3 : decide (0 < L) = true := decide_eq_true hL
          rw [if_pos hlast] at HLX
          rw [if_pos hL] at HLY
          have HN1 := Lib.hid hlast; have hb1 := hl.1; have hb2 := hl.2
          clear hlast hl
          go_wp2_with (at_builtin; refine wpList_append_own _ rfl _ _ 43 rfl (w.heap.size + 1) 47 i0 (.agg #[.string ByteArray.empty, .int .i64 0]) 2 24 Try.underlying43 hi0 hz0 hz1 hz2 rfl (by decide) _ _ _ rfl (HO.out.alloc _) ⟨wr.heap.size, 0, none⟩ 1 1 [.string s, .int .i64 (C)] rfl rfl ?a1 ?a2 ?a3 ?a4 ?a5 ?_)
          case a1 => intro j u hj; exact new_cells _ _ _ j u hj
          case a2 => intro u hu; simp at hu; rcases hu with rfl | rfl <;> rfl
          case a3 => unfold maxLen; omega
          case a4 => omega
          case a5 => have := HBK.out.1; simp; omega
          intro v5 w5 hown5 hg5 _
          have hk5 : Kp (fun i => w.heap.size + 1 ≤ i) wr w5 := ((Kp.refl _ wr).alloc _).trans (Kp.grown hg5 (fun q hq => (HO.out.lt q hq).1))
          have HB5 : Hid (Below w.heap.size w w5) := Lib.hid (HBW.out.trans (hk5.below (B := w.heap.size) HBW.out.size (fun j hj => by omega)))
          have HK5 := Lib.hid (HBK.out.kp hk5 (by omega))
          have HO5 : Hid (w5.ownsRow (w.heap.size + 1) 47 2 v5 (k + 1) ((chK e (k + 1)).flatMap chC)) := Lib.hid (by rw [HCK.out, HLX.out]; exact hown5)
          clear hown5 hg5 hk5
          go_wp2
          go_roundw
          case rel => exact ⟨k + 1, by go_num, by omega, by rw [HLY.out], HO5.out, HK5.out, HB5.out⟩
          case measure => simp [intOf]; omega
        · have d2 : ((k : Int) == (n : Int) - 1) = false := by simp; omega
          have d3 : decide (0 < L) = false := decide_eq_false hL
          rw [if_pos hlast] at HLX
          rw [if_neg hL] at HLY; clear hL
          have HN1 := Lib.hid hlast; have hb1 := hl.1; have hb2 := hl.2
          clear hlast hl
          go_wp2_with (at_builtin; refine wpList_append_own _ rfl _ _ 43 rfl (w.heap.size + 1) 47 i0 (.agg #[.string ByteArray.empty, .int .i64 0]) 2 24 Try.underlying43 hi0 hz0 hz1 hz2 rfl (by decide) _ _ _ rfl (HO.out.alloc _) ⟨wr.heap.size, 0, none⟩ 1 1 [.string s, .int .i64 (C)] rfl rfl ?b1 ?b2 ?b3 ?b4 ?b5 ?_)
          case b1 => intro j u hj; exact new_cells _ _ _ j u hj
          case b2 => intro u hu; simp at hu; rcases hu with rfl | rfl <;> rfl
          case b3 => unfold maxLen; omega
          case b4 => omega
          case b5 => have := HBK.out.1; simp; omega
          intro v5 w5 hown5 hg5 _
          have hk5 : Kp (fun i => w.heap.size + 1 ≤ i) wr w5 := ((Kp.refl _ wr).alloc _).trans (Kp.grown hg5 (fun q hq => (HO.out.lt q hq).1))
          have HB5 : Hid (Below w.heap.size w w5) := Lib.hid (HBW.out.trans (hk5.below (B := w.heap.size) HBW.out.size (fun j hj => by omega)))
          have HK5 := Lib.hid (HBK.out.kp hk5 (by omega))
          have HO5 : Hid (w5.ownsRow (w.heap.size + 1) 47 2 v5 (k + 1) ((chK e (k + 1)).flatMap chC)) := Lib.hid (by rw [HCK.out, HLX.out]; exact hown5)
          clear hown5 hg5 hk5
          go_wp2
          go_roundw
          case rel => exact ⟨k + 1, by go_num, by omega, by rw [HLY.out], HO5.out, HK5.out, HB5.out⟩
          case measure => simp [intOf]; omega
      · by_cases hL : 0 < L
        · have d2 : ((k : Int) == (n : Int) - 1) = true := by simp; omega
          have d3 : decide (0 < L) = true := decide_eq_true hL
          rw [if_neg hlast] at HLX
          rw [if_pos hL] at HLY
          have HN1 := Lib.hid hlast; have hb1 := hl.1; have hb2 := hl.2
          have hmm : 0 ≤ mx 0 (mn L C) ∧ mx 0 (mn L C) ≤ 1073741824 := by rw [mx_eq, mn_eq]; omega
          clear hlast hl
          go_wp2_with (at_builtin; refine wpList_append_own _ rfl _ _ 43 rfl (w.heap.size + 1) 47 i0 (.agg #[.string ByteArray.empty, .int .i64 0]) 2 24 Try.underlying43 hi0 hz0 hz1 hz2 rfl (by decide) _ _ _ rfl (HO.out.alloc _) ⟨wr.heap.size, 0, none⟩ 1 1 [.string s, .int .i64 (mx 0 (mn L C))] rfl rfl ?c1 ?c2 ?c3 ?c4 ?c5 ?_)
          case c1 => intro j u hj; exact new_cells _ _ _ j u hj
          case c2 => intro u hu; simp at hu; rcases hu with rfl | rfl <;> rfl
          case c3 => unfold maxLen; omega
          case c4 => omega
          case c5 => have := HBK.out.1; simp; omega
          intro v5 w5 hown5 hg5 _
          have hk5 : Kp (fun i => w.heap.size + 1 ≤ i) wr w5 := ((Kp.refl _ wr).alloc _).trans (Kp.grown hg5 (fun q hq => (HO.out.lt q hq).1))
          have HB5 : Hid (Below w.heap.size w w5) := Lib.hid (HBW.out.trans (hk5.below (B := w.heap.size) HBW.out.size (fun j hj => by omega)))
          have HK5 := Lib.hid (HBK.out.kp hk5 (by omega))
          have HO5 : Hid (w5.ownsRow (w.heap.size + 1) 47 2 v5 (k + 1) ((chK e (k + 1)).flatMap chC)) := Lib.hid (by rw [HCK.out, HLX.out]; exact hown5)
          clear hown5 hg5 hk5
          go_wp2
          go_roundw
          case rel => exact ⟨k + 1, by go_num, by omega, by rw [HLY.out], HO5.out, HK5.out, HB5.out⟩
          case measure => simp [intOf]; omega
        · have d2 : ((k : Int) == (n : Int) - 1) = true := by simp; omega
          have d3 : decide (0 < L) = false := decide_eq_false hL
          rw [if_neg hlast] at HLX
          rw [if_neg hL] at HLY; clear hL
          have HN1 := Lib.hid hlast; have hb1 := hl.1; have hb2 := hl.2
          have hmm : 0 ≤ mx 0 (mn L C) ∧ mx 0 (mn L C) ≤ 1073741824 := by rw [mx_eq, mn_eq]; omega
          clear hlast hl
          go_wp2_with (at_builtin; refine wpList_append_own _ rfl _ _ 43 rfl (w.heap.size + 1) 47 i0 (.agg #[.string ByteArray.empty, .int .i64 0]) 2 24 Try.underlying43 hi0 hz0 hz1 hz2 rfl (by decide) _ _ _ rfl (HO.out.alloc _) ⟨wr.heap.size, 0, none⟩ 1 1 [.string s, .int .i64 (mx 0 (mn L C))] rfl rfl ?d1 ?d2 ?d3 ?d4 ?d5 ?_)
          case d1 => intro j u hj; exact new_cells _ _ _ j u hj
          case d2 => intro u hu; simp at hu; rcases hu with rfl | rfl <;> rfl
          case d3 => unfold maxLen; omega
          case d4 => omega
          case d5 => have := HBK.out.1; simp; omega
          intro v5 w5 hown5 hg5 _
          have hk5 : Kp (fun i => w.heap.size + 1 ≤ i) wr w5 := ((Kp.refl _ wr).alloc _).trans (Kp.grown hg5 (fun q hq => (HO.out.lt q hq).1))
          have HB5 : Hid (Below w.heap.size w w5) := Lib.hid (HBW.out.trans (hk5.below (B := w.heap.size) HBW.out.size (fun j hj => by omega)))
          have HK5 := Lib.hid (HBK.out.kp hk5 (by omega))
          have HO5 : Hid (w5.ownsRow (w.heap.size + 1) 47 2 v5 (k + 1) ((chK e (k + 1)).flatMap chC)) := Lib.hid (by rw [HCK.out, HLX.out]; exact hown5)
          clear hown5 hg5 hk5
          go_wp2
          go_roundw
          case rel => exact ⟨k + 1, by go_num, by omega, by rw [HLY.out], HO5.out, HK5.out, HB5.out⟩
          case measure => simp [intOf]; omega
    · obtain rfl : k = n := by omega
      go_wp2
      go_ret
      have h1 := HO.out
      rw [HN.out] at h1 ⊢
      exact ⟨_, rfl, own_base h1 (by omega), HBW.out⟩
end Go.Proofs.Ytoimlaaakkfifaa

