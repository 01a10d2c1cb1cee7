/-
  The contract of chunk.Read. The contract of the document's Read.
-/
import Derived.Test.YtanehgnpominiaaX7
set_option linter.unusedVariables false
set_option linter.unusedSimpArgs false
set_option maxRecDepth 100000
namespace Go.Proofs.Ytanehgnpominiaa
open Go.RowKit
theorem lstG_okT {s : ByteArray} : ∀ (m p : Nat) (out : List ByteArray), okT out → okT (lstG s m p out).1
  | 0, p, out, h => h
  | m + 1, p, out, h => by
    rcases txtV_cases (s.extract p s.size) with ⟨t, k, h1, h2, h3, h4⟩ | ⟨e, he, h1⟩
    · rw [lstG_ok h1]
      refine lstG_okT m _ _ (fun x hx => ?_)
      rcases List.mem_append.1 hx with hx | hx
      · exact h x hx
      · rw [List.mem_singleton.1 hx]; exact h4
    · rw [lstG_bad he h1]
      exact fun x hx => by cases hx
theorem okT_nil : okT [] := fun x hx => by cases hx
theorem lstO_okT (s : ByteArray) (e : Int) : okT (lstO s e).1 := by
  unfold lstO
  split
  · split
    · unfold lstV
      split
      · split
        · exact okT_nil
        · exact lstG_okT _ _ _ okT_nil
      · exact okT_nil
    · exact okT_nil
  · exact okT_nil
theorem numO_small (s : ByteArray) (e : Int) : (numO s e).2.1.size ≤ s.size := by
  unfold numO
  split
  · split
    · show (s.extract _ s.size).size ≤ s.size
      rw [ByteArray.size_extract]; omega
    · exact Nat.le_refl _
  · exact Nat.le_refl _
theorem sl_kpA {α : Type} {enc : α → List Value} {size : Nat} {S : Nat → Prop} {w w2 : World} {a : Option Addr} {xs : List α} (h : Sl enc size w a xs) (k : Kp S w w2) (hS : ∀ b o, a = some ⟨b, o, none⟩ → ¬ S b) : Sl enc size w2 a xs := by
  intro i hi
  obtain ⟨b, o, ha, hlt, hc⟩ := h i hi
  refine ⟨b, o, ha, Nat.lt_of_lt_of_le hlt k.size, fun j v hv => ?_⟩
  rw [k.cell (p := ⟨b, o + i * size + j, none⟩) hlt (hS b o ha)]
  exact hc j v hv
/-- What is read of bytes: the two numbers, the ids, the error's number. -/
def rawM (s : ByteArray) : Int × Int × List ByteArray × Int :=
  let a := numO s 0
  let b := numO a.2.1 a.2.2
  let c := lstO b.2.1 b.2.2
  (a.1, b.1, c.1, doneV c.2.1 c.2.2)
/-- What Read gives. -/
def readM (s : ByteArray) : Int × Int × List ByteArray × Int :=
  if (rawM s).2.2.2 = 0 then (if checkM (rawM s).1 (rawM s).2.1 (rawM s).2.2.1 = 0 then ((rawM s).1, (rawM s).2.1, (rawM s).2.2.1, 0) else (0, 0, [], checkM (rawM s).1 (rawM s).2.1 (rawM s).2.2.1)) else (0, 0, [], (rawM s).2.2.2)
set_option maxHeartbeats 8000000 in
theorem cread_any (s : ByteArray) (w : World) (hs : s.size ≤ 1099511627) : Calls Try.prog 17 #[.string s] w fun e w' => manE (readM s) w w' e := by
  have hok := lstO_okT (numO (numO s 0).2.1 (numO s 0).2.2).2.1 (numO (numO s 0).2.1 (numO s 0).2.2).2.2
  have hz1 := numO_small s 0
  have hz2 := numO_small (numO s 0).2.1 (numO s 0).2.2
  have T1 := fun p W (h : Rd p s 0 W) => rd_num p s 0 W (by omega) h
  have T2 := fun p W h => rd_num p (numO s 0).2.1 (numO s 0).2.2 W (by omega) h
  have T3 := fun p W h => rd_list p (numO (numO s 0).2.1 (numO s 0).2.2).2.1 (numO (numO s 0).2.1 (numO s 0).2.2).2.2 W (by omega) h
  have HR : Hid (readM s = if (rawM s).2.2.2 = 0 then (if checkM (rawM s).1 (rawM s).2.1 (rawM s).2.2.1 = 0 then ((rawM s).1, (rawM s).2.1, (rawM s).2.2.1, 0) else (0, 0, [], checkM (rawM s).1 (rawM s).2.1 (rawM s).2.2.1)) else (0, 0, [], (rawM s).2.2.2)) := Lib.hid rfl
  have hraw : rawM s = ((numO s 0).1, (numO (numO s 0).2.1 (numO s 0).2.2).1, (lstO (numO (numO s 0).2.1 (numO s 0).2.2).2.1 (numO (numO s 0).2.1 (numO s 0).2.2).2.2).1, doneV (lstO (numO (numO s 0).2.1 (numO s 0).2.2).2.1 (numO (numO s 0).2.1 (numO s 0).2.2).2.2).2.1 (lstO (numO (numO s 0).2.1 (numO s 0).2.2).2.1 (numO (numO s 0).2.1 (numO s 0).2.2).2.2).2.2) := rfl
  generalize readM s = RM at *
  generalize rawM s = RW at *
  generalize numO s 0 = N1 at *
  obtain ⟨v1, s1, e1⟩ := N1
  dsimp only at *
  generalize numO s1 e1 = N2 at *
  obtain ⟨v2, s2, e2⟩ := N2
  dsimp only at *
  generalize lstO s2 e2 = N3 at *
  obtain ⟨L, s3, e3⟩ := N3
  dsimp only at *
  subst hraw
  dsimp only at *
  have HT1 := Lib.hid T1; have HT2 := Lib.hid T2; have HT3 := Lib.hid T3; have HOK := Lib.hid hok
  clear T1 T2 T3 hok
  have hA := Bk.new w 31 #[.int .i64 0, .int .i64 0, .slice none 0 0]
  have HB0 := Lib.hid (below_new w (.cells #[.int .i64 0, .int .i64 0, .slice none 0 0] 31))
  have HA0 := Lib.hid hA
  have HZ0 : Hid ((w.alloc (.cells #[.int .i64 0, .int .i64 0, .slice none 0 0] 31)).heap.size = w.heap.size + 1) := Lib.hid (by simp)
  have TN := Lib.hid (new_any s (w.alloc (.cells #[.int .i64 0, .int .i64 0, .slice none 0 0] 31)))
  clear hA
  go_enter Try.func17, Try.ntmps17
  go_wp2_with fail
  refine TN.out.mono ?_
  rintro e w1 ⟨rfl, hrd, hb⟩
  have HA1 := Lib.hid (HA0.out.keep hb); have HB1 := Lib.hid (below_cons HB0.out hb); have HRD := Lib.hid hrd
  obtain ⟨p, hp⟩ : ∃ p, p = (w.alloc (.cells #[.int .i64 0, .int .i64 0, .slice none 0 0] 31)).heap.size := ⟨_, rfl⟩
  rw [← hp] at HRD ⊢
  have HPW : Hid (w.heap.size < p) := Lib.hid (by rw [hp, HZ0.out]; omega)
  have HP1 : Hid (p < w1.heap.size) := Lib.hid HRD.out.1
  clear hp hrd hb TN HA0 HB0
  go_wp2_with fail
  refine (HT1.out _ _ HRD.out).mono ?_
  rintro e w2 ⟨rfl, hr2, hk2⟩
  have HR2 := Lib.hid hr2; have HK2 := Lib.hid hk2
  clear hr2 hk2
  go_wp2_with fail
  refine (HT2.out _ _ HR2.out).mono ?_
  rintro e w3 ⟨rfl, hr3, hk3⟩
  have HR3 := Lib.hid hr3; have HK3 := Lib.hid (HK2.out.trans hk3)
  clear hr3 hk3
  go_wp2_with fail
  refine (HT3.out _ _ HR3.out).mono ?_
  rintro e w4 ⟨⟨al, cl, rfl, hcl, hsl, hal⟩, hr4, hk4⟩
  have HAL := Lib.hid (show ∀ b o, al = some ⟨b, o, none⟩ → w.heap.size < b from fun b o e => by have := hal b o e; have := HK3.out.size; have := HP1.out; have := HPW.out; omega)
  clear hal
  have HR4 := Lib.hid hr4; have HK4 := Lib.hid (HK3.out.trans hk4); have HSL := Lib.hid hsl
  have HA4 := Lib.hid (HA1.out.kp HK4.out (by have := HPW.out; omega))
  have HB4 := Lib.hid (HB1.out.trans (HK4.out.below HB1.out.size (fun k hk => by have := HPW.out; omega)))
  have hM := Bk.new w4 31 #[.int .i64 v1, .int .i64 v2, .slice al L.length cl]
  have hbn := below_new w4 (.cells #[.int .i64 v1, .int .i64 v2, .slice al L.length cl] 31)
  have HM := Lib.hid hM; have HA5 := Lib.hid (HA4.out.keep hbn); have HB5 := Lib.hid (below_cons HB4.out hbn); have HSL5 := Lib.hid (HSL.out.keep hbn)
  have TD := Lib.hid (done_any p s3 e3 _ (show Rd p s3 e3 (w4.alloc (.cells #[.int .i64 v1, .int .i64 v2, .slice al L.length cl] 31)) from Bk.keep HR4.out hbn))
  have HW4 : Hid (w.heap.size < w4.heap.size) := Lib.hid HA4.out.1
  clear hr4 hk4 hsl hM hbn
  generalize doneV s3 e3 = D at *
  go_wp2_with fail
  refine TD.out.mono ?_
  rintro e w5 ⟨rfl, rfl⟩
  clear TD
  generalize (w4.alloc (.cells #[.int .i64 v1, .int .i64 v2, .slice al L.length cl] 31)) = W5 at *
  have m0 := (HM.out.2 0 _ rfl).1; have m1 := (HM.out.2 1 _ rfl).1; have m2 := (HM.out.2 2 _ rfl).1
  have hwl := HW4.out
  by_cases hD : D = 0
  · subst hD
    have TC := ck_any v1 v2 L al cl W5 HSL5.out (fun x hx => by have := HOK.out x hx; omega)
    unfold mf at TC
    have HTC := Lib.hid TC
    clear TC
    go_wp2_with fail
    refine HTC.out.mono ?_
    rintro e W6 ⟨rfl, hb⟩
    have HAX := Lib.hid (HA5.out.keep hb); have HBX := Lib.hid (below_cons HB5.out hb); have HSL6 := Lib.hid (HSL5.out.keep hb); have HM6 := Lib.hid (HM.out.keep hb)
    have m0 := (HM6.out.2 0 _ rfl).1; have m1 := (HM6.out.2 1 _ rfl).1; have m2 := (HM6.out.2 2 _ rfl).1
    clear hb HTC
    by_cases hc : checkM v1 v2 L = 0
    · have HRM : Hid (RM = (v1, v2, L, 0)) := Lib.hid (by rw [HR.out]; simp [hc])
      rw [hc]
      have ha := HAX.out
      have a0 := (ha.2 0 _ rfl).1; have a1 := (ha.2 1 _ rfl).1; have a2 := (ha.2 2 _ rfl).1; have b0 := (ha.2 0 _ rfl).2; have b1 := (ha.2 1 _ rfl).2; have b2 := (ha.2 2 _ rfl).2
      have hx4 := ((ha.set 0 (by simp) (.int .i64 v1)).set 1 (by simp) (.int .i64 v2)).set 2 (by simp) (.slice al L.length cl)
      have hk4 := (((Kp.refl (fun k => k = w.heap.size) W6).set w.heap.size 0 (.int .i64 v1) rfl).set w.heap.size 1 (.int .i64 v2) rfl).set w.heap.size 2 (.slice al L.length cl) rfl
      have HL4 := Lib.hid (load_var (t := 31) (fun _ => by kernel_rfl) (fun _ => by kernel_rfl) hx4)
      have HB9 := Lib.hid (HBX.out.trans (hk4.below HBX.out.size (fun k hk => by omega)))
      have HSL9 := Lib.hid (sl_kpA HSL6.out hk4 (fun b o e h => by have := HAL.out b o e; omega))
      clear ha hx4 hk4
      go_wp2
      (try simp only [Exit.inBlock, Exit.then])
      refine bodyPost_ret (res_cell rfl rfl rfl HL4.out) rfl ?_
      unfold manE
      rw [HRM.out]
      exact ⟨al, cl, rfl, HSL9.out, HB9.out⟩
    · have HRM : Hid (RM = (0, 0, [], checkM v1 v2 L)) := Lib.hid (by rw [HR.out]; simp [hc])
      generalize checkM v1 v2 L = R at *
      have hc2 : (R == 0) = false := by simp [hc]
      have ha := HAX.out
      have a0 := (ha.2 0 _ rfl).1; have a1 := (ha.2 1 _ rfl).1; have a2 := (ha.2 2 _ rfl).1; have b0 := (ha.2 0 _ rfl).2; have b1 := (ha.2 1 _ rfl).2; have b2 := (ha.2 2 _ rfl).2
      have hx4 := ((ha.set 0 (by simp) (.int .i64 0)).set 1 (by simp) (.int .i64 0)).set 2 (by simp) (.slice none 0 0)
      have hk4 := (((Kp.refl (fun k => k = w.heap.size) W6).set w.heap.size 0 (.int .i64 0) rfl).set w.heap.size 1 (.int .i64 0) rfl).set w.heap.size 2 (.slice none 0 0) rfl
      have HL4 := Lib.hid (load_var (t := 31) (fun _ => by kernel_rfl) (fun _ => by kernel_rfl) hx4)
      have HB9 := Lib.hid (HBX.out.trans (hk4.below HBX.out.size (fun k hk => by omega)))
      clear ha hx4 hk4
      go_wp2
      (try simp only [Exit.inBlock, Exit.then])
      refine bodyPost_ret (res_cell rfl rfl rfl HL4.out) rfl ?_
      unfold manE
      rw [HRM.out]
      exact ⟨none, 0, rfl, Sl.nil _ _ _ _, HB9.out⟩
  · have HRM : Hid (RM = (0, 0, [], D)) := Lib.hid (by rw [HR.out]; simp [hD])
    have hD2 : (D == 0) = false := by simp [hD]
    have HAX := Lib.hid HA5.out; have HBX := Lib.hid HB5.out
    have ha := HAX.out
    have a0 := (ha.2 0 _ rfl).1; have a1 := (ha.2 1 _ rfl).1; have a2 := (ha.2 2 _ rfl).1; have b0 := (ha.2 0 _ rfl).2; have b1 := (ha.2 1 _ rfl).2; have b2 := (ha.2 2 _ rfl).2
    have hx4 := ((ha.set 0 (by simp) (.int .i64 0)).set 1 (by simp) (.int .i64 0)).set 2 (by simp) (.slice none 0 0)
    have hk4 := (((Kp.refl (fun k => k = w.heap.size) W5).set w.heap.size 0 (.int .i64 0) rfl).set w.heap.size 1 (.int .i64 0) rfl).set w.heap.size 2 (.slice none 0 0) rfl
    have HL4 := Lib.hid (load_var (t := 31) (fun _ => by kernel_rfl) (fun _ => by kernel_rfl) hx4)
    have HB9 := Lib.hid (HBX.out.trans (hk4.below HBX.out.size (fun k hk => by omega)))
    clear ha hx4 hk4
    go_wp2
    (try simp only [Exit.inBlock, Exit.then])
    refine bodyPost_ret (res_cell rfl rfl rfl HL4.out) rfl ?_
    unfold manE
    rw [HRM.out]
    exact ⟨none, 0, rfl, Sl.nil _ _ _ _, HB9.out⟩
end Go.Proofs.Ytanehgnpominiaa
set_option linter.unusedVariables false
set_option linter.unusedSimpArgs false
namespace Go.Proofs.Ytanehgnpominiaa
open Go.RowKit
set_option maxHeartbeats 8000000 in
theorem rcread_any (s : ByteArray) (w : World) (hs : s.size ≤ 1099511627) : Calls Try.prog 18 #[.string s] w fun e w' => manE (readM s) w w' e := by
  have hok := lstO_okT (numO (numO s 0).2.1 (numO s 0).2.2).2.1 (numO (numO s 0).2.1 (numO s 0).2.2).2.2
  have hz1 := numO_small s 0
  have hz2 := numO_small (numO s 0).2.1 (numO s 0).2.2
  have T1 := fun W => rn_any s 0 W (by omega)
  have T2 := fun W => rn_any (numO s 0).2.1 (numO s 0).2.2 W (by omega)
  have T3 := fun W => rl_any (numO (numO s 0).2.1 (numO s 0).2.2).2.1 (numO (numO s 0).2.1 (numO s 0).2.2).2.2 W (by omega)
  unfold numRR at T1 T2
  unfold rlR at T3
  have HR : Hid (readM s = if (rawM s).2.2.2 = 0 then (if checkM (rawM s).1 (rawM s).2.1 (rawM s).2.2.1 = 0 then ((rawM s).1, (rawM s).2.1, (rawM s).2.2.1, 0) else (0, 0, [], checkM (rawM s).1 (rawM s).2.1 (rawM s).2.2.1)) else (0, 0, [], (rawM s).2.2.2)) := Lib.hid rfl
  have hraw : rawM s = ((numO s 0).1, (numO (numO s 0).2.1 (numO s 0).2.2).1, (lstO (numO (numO s 0).2.1 (numO s 0).2.2).2.1 (numO (numO s 0).2.1 (numO s 0).2.2).2.2).1, doneV (lstO (numO (numO s 0).2.1 (numO s 0).2.2).2.1 (numO (numO s 0).2.1 (numO s 0).2.2).2.2).2.1 (lstO (numO (numO s 0).2.1 (numO s 0).2.2).2.1 (numO (numO s 0).2.1 (numO s 0).2.2).2.2).2.2) := rfl
  generalize readM s = RM at *
  generalize rawM s = RW at *
  generalize numO s 0 = N1 at *
  obtain ⟨v1, s1, e1⟩ := N1
  dsimp only at *
  generalize numO s1 e1 = N2 at *
  obtain ⟨v2, s2, e2⟩ := N2
  dsimp only at *
  generalize lstO s2 e2 = N3 at *
  obtain ⟨L, s3, e3⟩ := N3
  dsimp only at *
  subst hraw
  dsimp only at *
  have HT1 := Lib.hid T1; have HT2 := Lib.hid T2; have HT3 := Lib.hid T3; have HOK := Lib.hid hok
  clear T1 T2 T3 hok
  have hA := Bk.new w 31 #[.int .i64 0, .int .i64 0, .slice none 0 0]
  have HB0 := Lib.hid (below_new w (.cells #[.int .i64 0, .int .i64 0, .slice none 0 0] 31))
  have HA0 := Lib.hid hA
  clear hA
  go_enter Try.func18, Try.ntmps18
  go_wp2_with fail
  refine (HT1.out _).mono ?_
  rintro e w1 ⟨rfl, hb⟩
  have HB1 := Lib.hid (below_cons HB0.out hb)
  have HA1 := Lib.hid (HA0.out.keep hb)
  have hbn := below_new w1 (.cells #[.string s1, .int .i64 e1] 67)
  have HQ1 := Lib.hid (Bk.new w1 67 #[.string s1, .int .i64 e1])
  have HB1 := Lib.hid (below_cons HB1.out hbn)
  have HQW := HA1.out.1
  have HA1 := Lib.hid (HA1.out.keep hbn)
  clear hb hbn HA0 HB0
  obtain ⟨q, hq⟩ : ∃ q, q = w1.heap.size := ⟨_, rfl⟩
  rw [← hq] at HQ1 HQW
  obtain ⟨W1, hW1⟩ : ∃ x, x = w1.alloc (.cells #[.string s1, .int .i64 e1] 67) := ⟨_, rfl⟩
  rw [← hW1] at HB1 HA1 HQ1
  go_wp2_with fail
  rw [← hW1, ← hq]
  refine (HT2.out _).mono ?_
  rintro e w2 ⟨rfl, hb⟩
  have HB2 := Lib.hid (HB1.out.trans (hb.mono HB1.out.size)); have HA2 := Lib.hid (HA1.out.keep hb)
  have hQ2 := HQ1.out.keep hb
  have q0 := (hQ2.2 0 _ rfl).1; have q1 := (hQ2.2 1 _ rfl).1; have f0 := (hQ2.2 0 _ rfl).2; have f1 := (hQ2.2 1 _ rfl).2
  have hk2 := ((Kp.refl (fun k => k = q) w2).set q 0 (.string s2) rfl).set q 1 (.int .i64 e2) rfl
  have HQ3 := Lib.hid ((hQ2.set 0 (by simp) (.string s2)).set 1 (by simp) (.int .i64 e2))
  have HA3 := Lib.hid (HA2.out.kp hk2 (by omega))
  have HB3 := Lib.hid (HB2.out.trans (hk2.below HB2.out.size (fun k hk => by omega)))
  clear hb hW1 hq hQ2 hk2 HT1 HT2
  go_wp2_with fail
  clear q0 q1 f0 f1
  generalize ((w2.setCell ⟨q, 0, none⟩ (.string s2)).setCell ⟨q, 1, none⟩ (.int .i64 e2)) = W2 at *
  refine (HT3.out _).mono ?_
  rintro e w3 ⟨al, cl, rfl, hcl, hsl, hal, hb⟩
  have HB4 := Lib.hid (HB3.out.trans (hb.mono HB3.out.size)); have HA4 := Lib.hid (HA3.out.keep hb)
  have hqs := HQ3.out.1
  have HAL := Lib.hid (show ∀ b o, al = some ⟨b, o, none⟩ → w.heap.size < b ∧ q < b from fun b o e => by have := hal b o e; omega)
  have hQ4 := HQ3.out.keep hb
  have q0 := (hQ4.2 0 _ rfl).1; have q1 := (hQ4.2 1 _ rfl).1; have f0 := (hQ4.2 0 _ rfl).2; have f1 := (hQ4.2 1 _ rfl).2
  have hk4 := ((Kp.refl (fun k => k = q) w3).set q 0 (.string s3) rfl).set q 1 (.int .i64 e3) rfl
  have HQ5 := Lib.hid ((hQ4.set 0 (by simp) (.string s3)).set 1 (by simp) (.int .i64 e3))
  have HA5 := Lib.hid (HA4.out.kp hk4 (by omega))
  have HB5 := Lib.hid (HB4.out.trans (hk4.below HB4.out.size (fun k hk => by omega)))
  have HSL5 := Lib.hid (sl_kpA hsl hk4 (fun b o e h => by have := (HAL.out b o e).2; omega))
  clear hb hQ4 hk4 hsl hal
  obtain ⟨W3, hW3⟩ : ∃ x, x = ((w3.setCell ⟨q, 0, none⟩ (.string s3)).setCell ⟨q, 1, none⟩ (.int .i64 e3)) := ⟨_, rfl⟩
  have hqw3 : q < w3.heap.size := by have := HQ5.out.1; simpa using this
  rw [← hW3] at HQ5 HA5 HB5 HSL5
  have hbn := below_new W3 (.cells #[.int .i64 v1, .int .i64 v2, .slice al L.length cl] 31)
  have HQ6 := Lib.hid (HQ5.out.keep hbn); have HA6 := Lib.hid (HA5.out.keep hbn); have HB6 := Lib.hid (HB5.out.trans (hbn.mono HB5.out.size)); have HSL6 := Lib.hid (HSL5.out.keep hbn)
  have HM6 := Lib.hid (Bk.new W3 31 #[.int .i64 v1, .int .i64 v2, .slice al L.length cl])
  have TD := Lib.hid (fun W => rdone_any s3 e3 W)
  have hms : W3.heap.size = w3.heap.size := by rw [hW3]; simp
  have HW3 := Lib.hid hW3
  clear hbn HT3 hW3
  generalize doneV s3 e3 = D at *
  go_wp2_with fail
  rw [← HW3.out]
  refine (TD.out _).mono ?_
  rintro e w5 ⟨rfl, hb⟩
  have HA5 := Lib.hid (HA6.out.keep hb); have HB5 := Lib.hid (HB6.out.trans (hb.mono HB6.out.size)); have HSL5 := Lib.hid (HSL6.out.keep hb); have HM := Lib.hid (HM6.out.keep hb)
  clear hb q0 q1 f0 f1 TD
  rw [hms] at HM
  generalize w3.heap.size = M at *
  have m0 := (HM.out.2 0 _ rfl).1; have m1 := (HM.out.2 1 _ rfl).1; have m2 := (HM.out.2 2 _ rfl).1
  clear HM6 HW3 HA6 HB6 HSL6 HQ6
  have hwM : w.heap.size < M := by omega
  by_cases hD : D = 0
  · subst hD
    have TC := rck_any v1 v2 L al cl w5 HSL5.out (fun x hx => by have := HOK.out x hx; omega)
    unfold mf at TC
    have HTC := Lib.hid TC
    clear TC
    go_wp2_with fail
    refine HTC.out.mono ?_
    rintro e W6 ⟨rfl, hb⟩
    have HAX := Lib.hid (HA5.out.keep hb); have HBX := Lib.hid (HB5.out.trans (hb.mono HB5.out.size)); have HSL6 := Lib.hid (HSL5.out.keep hb); have HM6 := Lib.hid (HM.out.keep hb)
    have m0 := (HM6.out.2 0 _ rfl).1; have m1 := (HM6.out.2 1 _ rfl).1; have m2 := (HM6.out.2 2 _ rfl).1
    clear hb HTC
    by_cases hc : checkM v1 v2 L = 0
    · have HRM : Hid (RM = (v1, v2, L, 0)) := Lib.hid (by rw [HR.out]; simp [hc])
      rw [hc]
      have ha := HAX.out
      have a0 := (ha.2 0 _ rfl).1; have a1 := (ha.2 1 _ rfl).1; have a2 := (ha.2 2 _ rfl).1; have b0 := (ha.2 0 _ rfl).2; have b1 := (ha.2 1 _ rfl).2; have b2 := (ha.2 2 _ rfl).2
      have hx4 := ((ha.set 0 (by simp) (.int .i64 v1)).set 1 (by simp) (.int .i64 v2)).set 2 (by simp) (.slice al L.length cl)
      have hk4 := (((Kp.refl (fun k => k = w.heap.size) W6).set w.heap.size 0 (.int .i64 v1) rfl).set w.heap.size 1 (.int .i64 v2) rfl).set w.heap.size 2 (.slice al L.length cl) rfl
      have HL4 := Lib.hid (load_var (t := 31) (fun _ => by kernel_rfl) (fun _ => by kernel_rfl) hx4)
      have HB9 := Lib.hid (HBX.out.trans (hk4.below HBX.out.size (fun k hk => by omega)))
      have HSL9 := Lib.hid (sl_kpA HSL6.out hk4 (fun b o e h => by have := (HAL.out b o e).1; omega))
      clear ha hx4 hk4
      go_wp2
      (try simp only [Exit.inBlock, Exit.then])
      refine bodyPost_ret (res_cell rfl rfl rfl HL4.out) rfl ?_
      unfold manE
      rw [HRM.out]
      exact ⟨al, cl, rfl, HSL9.out, HB9.out⟩
    · have HRM : Hid (RM = (0, 0, [], checkM v1 v2 L)) := Lib.hid (by rw [HR.out]; simp [hc])
      generalize checkM v1 v2 L = R at *
      have hc2 : (R == 0) = false := by simp [hc]
      have ha := HAX.out
      have a0 := (ha.2 0 _ rfl).1; have a1 := (ha.2 1 _ rfl).1; have a2 := (ha.2 2 _ rfl).1; have b0 := (ha.2 0 _ rfl).2; have b1 := (ha.2 1 _ rfl).2; have b2 := (ha.2 2 _ rfl).2
      have hx4 := ((ha.set 0 (by simp) (.int .i64 0)).set 1 (by simp) (.int .i64 0)).set 2 (by simp) (.slice none 0 0)
      have hk4 := (((Kp.refl (fun k => k = w.heap.size) W6).set w.heap.size 0 (.int .i64 0) rfl).set w.heap.size 1 (.int .i64 0) rfl).set w.heap.size 2 (.slice none 0 0) rfl
      have HL4 := Lib.hid (load_var (t := 31) (fun _ => by kernel_rfl) (fun _ => by kernel_rfl) hx4)
      have HB9 := Lib.hid (HBX.out.trans (hk4.below HBX.out.size (fun k hk => by omega)))
      clear ha hx4 hk4
      go_wp2
      (try simp only [Exit.inBlock, Exit.then])
      refine bodyPost_ret (res_cell rfl rfl rfl HL4.out) rfl ?_
      unfold manE
      rw [HRM.out]
      exact ⟨none, 0, rfl, Sl.nil _ _ _ _, HB9.out⟩
  · have HRM : Hid (RM = (0, 0, [], D)) := Lib.hid (by rw [HR.out]; simp [hD])
    have hD2 : (D == 0) = false := by simp [hD]
    have HAX := Lib.hid HA5.out; have HBX := Lib.hid HB5.out
    have ha := HAX.out
    have a0 := (ha.2 0 _ rfl).1; have a1 := (ha.2 1 _ rfl).1; have a2 := (ha.2 2 _ rfl).1; have b0 := (ha.2 0 _ rfl).2; have b1 := (ha.2 1 _ rfl).2; have b2 := (ha.2 2 _ rfl).2
    have hx4 := ((ha.set 0 (by simp) (.int .i64 0)).set 1 (by simp) (.int .i64 0)).set 2 (by simp) (.slice none 0 0)
    have hk4 := (((Kp.refl (fun k => k = w.heap.size) w5).set w.heap.size 0 (.int .i64 0) rfl).set w.heap.size 1 (.int .i64 0) rfl).set w.heap.size 2 (.slice none 0 0) rfl
    have HL4 := Lib.hid (load_var (t := 31) (fun _ => by kernel_rfl) (fun _ => by kernel_rfl) hx4)
    have HB9 := Lib.hid (HBX.out.trans (hk4.below HBX.out.size (fun k hk => by omega)))
    clear ha hx4 hk4
    go_wp2
    (try simp only [Exit.inBlock, Exit.then])
    refine bodyPost_ret (res_cell rfl rfl rfl HL4.out) rfl ?_
    unfold manE
    rw [HRM.out]
    exact ⟨none, 0, rfl, Sl.nil _ _ _ _, HB9.out⟩
end Go.Proofs.Ytanehgnpominiaa

