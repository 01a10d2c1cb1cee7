/-
  The contract of sha's Sum: the sum of any bytes.
-/
import Derived.Test.YtanehgnpominiaaShG
import Derived.Test.YtanehgnpominiaaShI
set_option linter.unusedVariables false
set_option linter.unusedSimpArgs false
set_option maxRecDepth 100000
namespace Go.Proofs.Ytanehgnpominiaa
open Go.RowKit
theorem wds_succ (b : List Nat) (n : Nat) : wds b (n + 1) = wds b n ++ [if n < 16 then wd b n else ((wds b n).getD (n - 16) 0 + (wds b n).getD (n - 7) 0 + sl ((wds b n).getD (n - 15) 0) + sh ((wds b n).getD (n - 2) 0)) % M32] := wds.eq_2 b n
theorem wds_same {a b : List Nat} (h : ∀ n, n < 16 → wd a n = wd b n) (n : Nat) : wds a n = wds b n := by
  induction n with
  | zero => rfl
  | succ n ih =>
    have e1 := wds_succ a n
    have e2 := wds_succ b n
    rw [ih] at e1
    rw [e1, e2]
    by_cases h1 : n < 16
    · rw [if_pos h1, if_pos h1, h n h1]
    · rw [if_neg h1, if_neg h1]
theorem wds_take64 (b : List Nat) (n : Nat) : wds (b.take 64) n = wds b n := wds_same (fun n h => by
  unfold wd
  rw [getD_take, getD_take, getD_take, getD_take, if_pos (by omega), if_pos (by omega), if_pos (by omega), if_pos (by omega)]) n
theorem blk_take (s : S8) (b : List Nat) : blk s (b.take 64) = blk s b := by unfold blk; rw [wds_take64]
/-- The registers behind so many blocks. -/
def foldN {σ : Type} (f : σ → List Nat → σ) (l : List Nat) : Nat → σ → σ
  | 0, s => s
  | k + 1, s => foldN f (l.drop 64) k (f s l)
theorem foldN_succ {σ : Type} (f : σ → List Nat → σ) (l : List Nat) (k : Nat) (s : σ) : foldN f l (k + 1) s = foldN f (l.drop 64) k (f s l) := rfl
theorem foldN_zero {σ : Type} (f : σ → List Nat → σ) (l : List Nat) (s : σ) : foldN f l 0 s = s := rfl
def sumN (l : List Nat) (k : Nat) (s : S8) : S8 := foldN blk l k s
theorem sumN_succ (l : List Nat) (k : Nat) (s : S8) : sumN l (k + 1) s = sumN (l.drop 64) k (blk s l) := by unfold sumN; exact foldN_succ blk l k s
theorem sumN_zero (l : List Nat) (s : S8) : sumN l 0 s = s := by unfold sumN; exact foldN_zero blk l s
def dgW (x : Nat) : List Nat := [x / 16777216, x / 65536 % 256, x / 256 % 256, x % 256]
def dg (l : List Nat) : List Nat := l.flatMap dgW
theorem dg_snoc (l : List Nat) (x : Nat) : dg (l ++ [x]) = dg l ++ dgW x := by simp [dg]
theorem dg_len (l : List Nat) : (dg l).length = 4 * l.length := by
  induction l with
  | nil => rfl
  | cons x l ih => simp only [dg, List.flatMap_cons, List.length_append, List.length_cons] at *; rw [ih]; simp [dgW]; omega
def sumV (s : ByteArray) : ByteArray := txB (dg (sumN (byB s ++ padL s.size) ((s.size + (padL s.size).length) / 64) s0).l)
theorem sumV_size (s : ByteArray) : (sumV s).size = 32 := by unfold sumV; rw [txB_size, dg_len]; rfl
theorem byB_extract (s : ByteArray) (i j : Nat) : byB (s.extract i j) = ((byB s).take j).drop i := by
  simp only [byB, ByteArray.data_extract, Array.toList_extract, List.map_take, List.map_drop, List.extract_eq_take_drop]
  try rw [List.drop_take]
theorem dgW_lt {x : Nat} (h : x < 4294967296) : ∀ c ∈ dgW x, c < 256 := by
  intro c hc
  simp only [dgW, List.mem_cons, List.not_mem_nil, or_false] at hc
  omega
def strN : Value → Nat
  | .string x => x.size
  | _ => 0
theorem celS_len (s : S8) : (celS s).length = 8 := rfl
theorem celS_one (s : S8) : ∀ v ∈ celS s, v.oneCell' = true := by rw [celS_u32]; exact u32s_one _
theorem index8 (T : TypeId) (s : S8) (k : Nat) (hk : k < 8) (hT : ∀ (a b c d e f g h : Value) (w : World), (Instr.index T (.agg #[a, b, c, d, e, f, g, h]) (.int .i64 0)).run Try.prog w = .ok a w ∧ (Instr.index T (.agg #[a, b, c, d, e, f, g, h]) (.int .i64 1)).run Try.prog w = .ok b w ∧ (Instr.index T (.agg #[a, b, c, d, e, f, g, h]) (.int .i64 2)).run Try.prog w = .ok c w ∧ (Instr.index T (.agg #[a, b, c, d, e, f, g, h]) (.int .i64 3)).run Try.prog w = .ok d w ∧ (Instr.index T (.agg #[a, b, c, d, e, f, g, h]) (.int .i64 4)).run Try.prog w = .ok e w ∧ (Instr.index T (.agg #[a, b, c, d, e, f, g, h]) (.int .i64 5)).run Try.prog w = .ok f w ∧ (Instr.index T (.agg #[a, b, c, d, e, f, g, h]) (.int .i64 6)).run Try.prog w = .ok g w ∧ (Instr.index T (.agg #[a, b, c, d, e, f, g, h]) (.int .i64 7)).run Try.prog w = .ok h w) (w : World) :
    (Instr.index T (.agg (celS s).toArray) (.int .i64 (k : Int))).run Try.prog w = .ok (.int .u32 (s.l.getD k 0 : Nat)) w := by
  have h := hT (.int .u32 (s.a : Int)) (.int .u32 (s.b : Int)) (.int .u32 (s.c : Int)) (.int .u32 (s.d : Int)) (.int .u32 (s.e : Int)) (.int .u32 (s.f : Int)) (.int .u32 (s.g : Int)) (.int .u32 (s.h : Int)) w
  rcases (show k = 0 ∨ k = 1 ∨ k = 2 ∨ k = 3 ∨ k = 4 ∨ k = 5 ∨ k = 6 ∨ k = 7 by omega) with rfl | rfl | rfl | rfl | rfl | rfl | rfl | rfl
  · exact h.1
  · exact h.2.1
  · exact h.2.2.1
  · exact h.2.2.2.1
  · exact h.2.2.2.2.1
  · exact h.2.2.2.2.2.1
  · exact h.2.2.2.2.2.2.1
  · exact h.2.2.2.2.2.2.2
set_option maxRecDepth 100000 in
set_option maxHeartbeats 8000000 in
theorem sum_any (s : ByteArray) (w : World) (hsz : s.size ≤ 1099511627000) : Calls Try.prog 44 #[.string s] w fun e w' => e = .returned (.string (sumV s)) ∧ Below w.heap.size w w' := by
  obtain ⟨i0, hi, hz0, hz1, hz2⟩ := info_parts infoB8
  have HSV : Hid (sumV s = txB (dg (sumN (byB s ++ padL s.size) ((s.size + (padL s.size).length) / 64) s0).l)) := Lib.hid (by rw [sumV])
  go_enter Try.func44, Try.ntmps44
  go_wp2_with fail
  refine (start_any _).mono ?_
  rintro e w1 ⟨rfl, hb1⟩
  have HB1 := Lib.hid (hb1.alloc hb1.size (.cells (u32s s0.l).toArray 98))
  have HN1 : Hid (Bk w1.heap.size (celS s0) (w1.alloc (.cells (u32s s0.l).toArray 98))) := Lib.hid (by
    have := Bk.new w1 98 (u32s s0.l).toArray
    exact this)
  rw [s0V] at HB1 HN1 ⊢
  have hps : (padB s.size).size ≤ 72 := by rw [padB_nat, txB_size]; exact padL_le _
  have HPB := Lib.hid (padB_nat s.size)
  have HPL := Lib.hid (padL_le s.size)
  have HPM := Lib.hid (padL_mod s.size)
  have hb1s : w.heap.size ≤ w1.heap.size := hb1.size
  clear hb1
  go_wp2_with fail
  refine (pad_any (s.size : Int) _ (by omega)).mono ?_
  rintro e w2 ⟨rfl, hb2⟩
  obtain ⟨T, hT⟩ : ∃ T, T = s ++ padB s.size := ⟨_, rfl⟩
  obtain ⟨K, hK⟩ : ∃ K, K = (s.size + (padL s.size).length) / 64 := ⟨_, rfl⟩
  have hTs : T.size = 64 * K := by
    have h1 := HPM.out
    rw [hT, ByteArray.size_append, padB_nat, txB_size]
    omega
  have hbT : byB T = byB s ++ padL s.size := by
    rw [hT, byB_app, padB_nat, byB_txB (padL_byte _)]
  obtain ⟨FN, hFN⟩ : ∃ F, F = sumN (byB T) K s0 := ⟨_, rfl⟩
  have HSF : Hid (sumV s = txB (dg FN.l)) := Lib.hid (by rw [hFN, hbT, hK]; exact HSV.out)
  have HFN := Lib.hid hFN
  have HTT := Lib.hid hT
  have HTS := Lib.hid hTs
  have hTb : T.size ≤ 1099511627100 := by rw [hT, ByteArray.size_append]; omega
  have HTB := Lib.hid hTb
  have HNN := Lib.hid (HN1.out.keep hb2)
  have HBB := Lib.hid (below_step HB1.out (Nat.le_refl _) hb2)
  have HP : Hid (w.heap.size ≤ w1.heap.size) := Lib.hid hb1s
  obtain ⟨P, hP⟩ : ∃ P, P = w1.heap.size := ⟨_, rfl⟩
  rw [← hP] at HNN HP ⊢
  clear hT hK hbT hFN hTs hTb hb2 hP
  go_wp2
  rw [← HTT.out]
  go_loopw [0] (fun v wr => ∃ (x : ByteArray) (k : Nat) (st : S8), v = .string x ∧ x.size = 64 * k ∧ x.size ≤ 1099511627100 ∧ sumN (byB x) k st = FN ∧ Bk P (celS st) wr ∧ st.ok ∧ Below w.heap.size w wr) (fun v _ => strN v)
  case atStart => exact ⟨T, K, s0, rfl, HTS.out, HTB.out, HFN.out.symm, HNN.out, s0_ok, HBB.out⟩
  case round =>
    obtain ⟨x, k, st, rfl, hxs, hxb, hsm, hbk, hok, hb⟩ := hrel
    have HXS := Lib.hid hxs
    have HSM := Lib.hid hsm
    have HBK := Lib.hid hbk
    have HBX := Lib.hid hb
    cases k with
    | succ k =>
      have he := nonempty_of_pos (b := x) (by omega)
      obtain ⟨y, hy⟩ : ∃ y, y = x.extract 0 64 := ⟨_, rfl⟩
      obtain ⟨z, hz⟩ : ∃ z, z = x.extract 64 x.size := ⟨_, rfl⟩
      have hzs : z.size = 64 * k := by rw [hz, ByteArray.size_extract]; omega
      have hz64 : (64 : Int) ≤ (x.size : Int) := by omega
      have HSM2 : Hid (sumN (byB z) k (blk st (byB y)) = FN) := Lib.hid (by
        rw [← hsm, hy, hz, byB_extract, byB_extract, List.drop_zero, blk_take, ← byB_len, List.take_length, sumN_succ])
      obtain ⟨st2, hst2⟩ : ∃ s2, s2 = blk st (byB y) := ⟨_, rfl⟩
      rw [← hst2] at HSM2
      have HOK2 : Hid st2.ok := Lib.hid (by rw [hst2]; exact blk_ok _ _)
      have HBLK : Hid (∀ w, Calls Try.prog 62 #[aggS st, .string y] w fun e w' => e = .returned (aggS st2) ∧ Below w.heap.size w w') := Lib.hid (fun w => by rw [hst2]; exact block_any st y w hok)
      obtain ⟨c0, f0⟩ := hbk.2 0 _ rfl
      obtain ⟨c1, f1⟩ := hbk.2 1 _ rfl
      obtain ⟨c2, f2⟩ := hbk.2 2 _ rfl
      obtain ⟨c3, f3⟩ := hbk.2 3 _ rfl
      obtain ⟨c4, f4⟩ := hbk.2 4 _ rfl
      obtain ⟨c5, f5⟩ := hbk.2 5 _ rfl
      obtain ⟨c6, f6⟩ := hbk.2 6 _ rfl
      obtain ⟨c7, f7⟩ := hbk.2 7 _ rfl
      have HY := Lib.hid hy
      have HZ := Lib.hid hz
      have HZS := Lib.hid hzs
      clear hxs hsm hok hb hst2 hy hz hzs hbk
      go_wp2
      refine wp_region_still_tail 3 (by kernel_rfl) (by kernel_rfl) ?_
      simp only [List.take_succ_cons, List.take_zero, List.drop_succ_cons, List.drop_zero]
      change wpStill _ _ (wr.drew) _ _ _
      repeat still_step
      refine wpStill_nil ?_
      change wpList _ _ _ _ _ (wr.drew)
      rw [← HY.out]
      go_wp2_with fail
      refine (HBLK.out _).mono ?_
      rintro e w3 ⟨rfl, hb3⟩
      have hb3' : Below wr.heap.size wr w3 := (Below.refl _ wr).drew.trans hb3
      have hbk3 := HBK.out.keep hb3'
      have HS3 := Lib.hid (hbk3.put (vs := celS st2) rfl)
      have HB3 := Lib.hid ((below_step HBX.out (Nat.le_refl _) hb3').trans ((Kp.setCells (Kp.refl (fun k => k = P) w3) P rfl (celS st2) 0).below (by have h1 := HBX.out.size; have h2 := hb3'.size; omega) (fun k hk => by subst hk; exact HP.out)))
      obtain ⟨g0, e0⟩ := hbk3.2 0 _ rfl
      obtain ⟨g1, e1⟩ := hbk3.2 1 _ rfl
      obtain ⟨g2, e2⟩ := hbk3.2 2 _ rfl
      obtain ⟨g3, e3⟩ := hbk3.2 3 _ rfl
      obtain ⟨g4, e4⟩ := hbk3.2 4 _ rfl
      obtain ⟨g5, e5⟩ := hbk3.2 5 _ rfl
      obtain ⟨g6, e6⟩ := hbk3.2 6 _ rfl
      obtain ⟨g7, e7⟩ := hbk3.2 7 _ rfl
      unfold aggS
      clear hb3 hb3' hbk3 c0 c1 c2 c3 c4 c5 c6 c7 f0 f1 f2 f3 f4 f5 f6 f7
      go_wp2
      go_roundw
      case rel => exact ⟨z, k, st2, by rw [HZ.out], HZS.out, by rw [HZS.out]; have := HXS.out; omega, HSM2.out, HS3.out, HOK2.out, HB3.out⟩
      case measure =>
        simp only [strN]
        rw [ByteArray.size_extract]
        omega
    | zero =>
      have he := empty_of_zero (b := x) (by omega)
      have hfin : st = FN := by rw [← hsm, sumN_zero]
      subst hfin
      have HLD : Hid ((Instr.loadAt 98 (.pointer (some ⟨P, 0, none⟩))).run Try.prog wr = .ok (.agg (celS st).toArray) wr) := Lib.hid (load_agg (t := 98) (fun _ => by kernel_rfl) (fun _ => by rw [celS_len]; kernel_rfl) hbk)
      have HIX : Hid (∀ k : Nat, k < 8 → ∀ w, (Instr.index 98 (.agg (celS st).toArray) (.int .i64 (k : Int))).run Try.prog w = .ok (.int .u32 (st.l.getD k 0 : Nat)) w) := Lib.hid (fun k hk w => index8 _ st k hk (fun _ _ _ _ _ _ _ _ _ => ⟨by kernel_rfl, by kernel_rfl, by kernel_rfl, by kernel_rfl, by kernel_rfl, by kernel_rfl, by kernel_rfl, by kernel_rfl⟩) w)
      obtain ⟨AV, hAV⟩ : ∃ A, A = (celS st).toArray := ⟨_, rfl⟩
      rw [← hAV] at HLD HIX
      have HLT : Hid (∀ k, st.l.getD k 0 < 4294967296) := Lib.hid (S8_get_lt hok)
      obtain ⟨L, hL⟩ : ∃ L, L = st.l := ⟨_, rfl⟩
      have HLL : Hid (L.length = 8) := Lib.hid (by rw [hL]; rfl)
      rw [← hL] at HIX HLT HSF
      clear hL hAV hbk hok hsm hxs hb HFN HSV
      go_wp2_with (refine wpList_load_run (by rfl) 98 _ (by rfl) (by rfl) HLD.out ?_)
      obtain ⟨wo, rfl⟩ : ∃ wo : World, wo = wr := ⟨_, rfl⟩
      go_loopw [4, 22] (fun v i wr => ∃ k : Nat, i = .int .i64 k ∧ k ≤ 8 ∧ wr.ownsRow w.heap.size 5 1 v (4 * k) (rowB (dg (L.take k))) ∧ Below w.heap.size w wr) (fun _ i _ => 8 - (intOf i).toNat)
      case atStart => exact ⟨0, rfl, by omega, own_nil _ _ _ _, HBX.out⟩
      case round =>
        obtain ⟨k, rfl, hk, ho, hb⟩ := hrel
        obtain ⟨a, cap, rfl, hcap⟩ := own_shape ho
        have HO := Lib.hid ho
        have HB := Lib.hid hb
        clear ho hb
        by_cases hlt : k < 8
        · have d1 : (k : Int) < 8 := by omega
          have hix := HIX.out k hlt
          have hx := HLT.out k
          have HDG : Hid (dg (L.take (k + 1)) = dg (L.take k) ++ dgW (L.getD k 0)) := Lib.hid (by
            rw [List.take_succ_eq_append_getElem (by rw [HLL.out]; exact hlt), dg_snoc, List.getD_eq_getElem?_getD, List.getElem?_eq_getElem (by rw [HLL.out]; exact hlt)]; rfl)
          obtain ⟨x, hxx⟩ : ∃ x, x = L.getD k 0 := ⟨_, rfl⟩
          rw [← hxx] at hix hx HDG
          clear hxx
          go_wp2_with (at_builtin; refine wpList_append_own _ rfl _ _ 76 rfl w.heap.size 5 i0 (.int .u8 0) 1 1 Try.underlying76 hi hz0 hz1 hz2 rfl (by decide) _ _ _ rfl (HO.out.alloc _) ⟨_, 0, none⟩ 4 4 [.int .u8 ((x : Int) / 16777216), .int .u8 ((x : Int) / 65536 % 256), .int .u8 ((x : Int) / 256 % 256), .int .u8 ((x : Int) % 256)] rfl rfl ?a1 ?a2 ?a3 ?a4 ?a5 ?_)
          case a1 => intro j u hj; exact new_cells _ _ _ j u hj
          case a2 => intro u hu; simp at hu; rcases hu with rfl | rfl | rfl | rfl <;> rfl
          case a3 => unfold maxLen; omega
          case a4 => omega
          case a5 => have := HB.out.size; simp; omega
          intro v5 w5 hown5 hg5 _
          have hb5 : Below w.heap.size w w5 := (HB.out.alloc HB.out.size _).grown hg5 (by have := HB.out.size; simp; omega) (fun q hq => (HO.out.lt q hq).1)
          have HB5 := Lib.hid hb5
          have HO5 : Hid (w5.ownsRow w.heap.size 5 1 v5 (4 * (k + 1)) (rowB (dg (L.take (k + 1))))) := Lib.hid (by
            rw [HDG.out, rowB_app]
            have e : rowB (dgW x) = [.int .u8 ((x : Int) / 16777216), .int .u8 ((x : Int) / 65536 % 256), .int .u8 ((x : Int) / 256 % 256), .int .u8 ((x : Int) % 256)] := by simp [rowB, dgW]
            rw [e]; exact hown5)
          clear hown5 hg5 hb5
          go_wp2
          go_roundw
          case rel => exact ⟨k + 1, vint (by omega), by omega, HO5.out, HB5.out⟩
          case measure => simp [intOf]; omega
        · obtain rfl : k = 8 := by omega
          have hcv := conv_ownB HO.out (by rw [dg_len, List.length_take, HLL.out]; rfl)
          rw [List.take_of_length_le (by rw [HLL.out]; exact Nat.le_refl _)] at hcv
          go_wp2
          go_ret
          exact ⟨by rw [HSF.out]; rfl, HB.out⟩
end Go.Proofs.Ytanehgnpominiaa

