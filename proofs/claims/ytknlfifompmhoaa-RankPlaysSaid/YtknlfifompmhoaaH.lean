/-
  The walk of RankPlays, and its law. Conditions: none.
-/
import Derived.Test.YtknlfifompmhoaaG
set_option linter.unusedVariables false
set_option linter.unusedSimpArgs false
namespace Go.Proofs.Ytknlfifompmhoaa
open Go.RowKit Go.WideShapes Go.ChangeShapes Go.ChangeAt Go.Deep
abbrev Deed := Int × Int × Int × Int
def encD (d : Deed) : List Value := [.int .i64 d.1, .int .i64 d.2.1, .int .i64 d.2.2.1, .int .i64 d.2.2.2]
set_option maxRecDepth 100000 in
theorem long_walk (n : Int) (a : Option Addr) (m cap : Nat) (w : World) (hm : 50 < m) :
    Calls Try.prog 3 #[.int .i64 n, .slice a m cap] w fun e w' => e = .returned (.bool true) ∧ Below w.heap.size w w' := by
  have g1 : decide ((50 : Int) < (m : Int)) = true := decide_eq_true (by omega)
  go_enter Try.func3, Try.ntmps3
  go_wp2_with fail
  refine (awake_any _).mono ?_
  rintro e w1 ⟨rfl, hb⟩
  go_wp2
  go_ret
  exact ⟨rfl, hb⟩
set_option maxRecDepth 100000 in
theorem bad_walk (n : Int) (a : Option Addr) (m cap : Nat) (w : World) (hm : m ≤ 50) (h : n < 1 ∨ 4096 < n) :
    Calls Try.prog 3 #[.int .i64 n, .slice a m cap] w fun e w' => e = .returned (.bool true) ∧ Below w.heap.size w w' := by
  have g1 : decide ((50 : Int) < (m : Int)) = false := decide_eq_false (by omega)
  have T := Lib.hid (fun w => new_bad n w h)
  by_cases h1 : n < 1
  · clear h
    go_enter Try.func3, Try.ntmps3
    go_wp2_with fail
    refine (T.out _).mono ?_
    rintro e w1 ⟨rfl, rfl⟩
    go_wp2_with fail
    refine (awake_any _).mono ?_
    rintro e w2 ⟨rfl, hb⟩
    go_wp2
    go_ret
    exact ⟨rfl, hb⟩
  · have h2 : 4096 < n := by omega
    clear h
    go_enter Try.func3, Try.ntmps3
    go_wp2_with fail
    refine (T.out _).mono ?_
    rintro e w1 ⟨rfl, rfl⟩
    go_wp2_with fail
    refine (awake_any _).mono ?_
    rintro e w2 ⟨rfl, hb⟩
    go_wp2
    go_ret
    exact ⟨rfl, hb⟩
set_option maxRecDepth 100000 in
set_option maxHeartbeats 32000000 in
theorem plays_walk (n : Nat) (a : Option Addr) (l : List Deed) (cap : Nat) (w : World) (hl : l.length ≤ 50) (h1 : 1 ≤ n) (h2 : n ≤ 4096) (hs : Sl encD 4 w a l) (hbd : ∀ d ∈ l, -9223372036854775808 ≤ d.2.1 ∧ d.2.1 ≤ 9223372036854775807) :
    Calls Try.prog 3 #[.int .i64 n, .slice a l.length cap] w fun e w' => e = .returned (.bool true) ∧ Below w.heap.size w w' := by
  obtain ⟨i0, hi0, hz0, hz1, hz2⟩ := info_parts infoI
  have HS := Lib.hid hs; have HBD := Lib.hid hbd
  clear hs hbd
  have g1 : decide ((50 : Int) < (l.length : Int)) = false := decide_eq_false (by omega)
  have g2 : ¬ (n : Int) < 1 := by omega
  have g3 : ¬ (4096 : Int) < (n : Int) := by omega
  have HMK : Hid (∀ W : World, (Instr.makeSlice 28 (.int .i64 (n : Int)) (.int .i64 (n : Int))).run Try.prog W = .ok (.slice (some ⟨W.heap.size, 0, none⟩) n n) (W.alloc (.cells (ints (noughts n)).toArray 3))) := Lib.hid (fun W => by
    have h := run_make_rowN (P := Try.prog) 28 3 i0 (.int .i64 0) Try.underlying28 hi0 hz0 .i64 .i64 n n (Nat.le_refl _) (by rw [hz2]; omega) (by omega) W
    rw [hz1, show madeCells (Value.int .i64 0).cells (n * 1) = (ints (noughts n)).toArray by rw [noughts, ← made_ints]] at h
    exact h)
  clear hi0 hz0 hz1 hz2
  go_enter Try.func3, Try.ntmps3
  go_wp2_with fail
  refine (new_any n w h1 h2).mono ?_
  rintro e w1 ⟨p, gl, gs, rfl, hr, hp, hgl, hgs, hb⟩
  have hmk := HMK.out w1
  have hnew := Bk.new w1 3 (ints (noughts n)).toArray
  have hbn := below_new w1 (.cells (ints (noughts n)).toArray 3)
  obtain ⟨W1, hW1⟩ : ∃ W1, W1 = w1.alloc (.cells (ints (noughts n)).toArray 3) := ⟨_, rfl⟩
  rw [← hW1] at hmk hnew hbn
  obtain ⟨gx, hgx⟩ : ∃ gx, gx = w1.heap.size := ⟨_, rfl⟩
  have hpl := hr.tree.1; have hgll := hr.nums.1; have hgsl := hr.rows.1
  have hwx : w.heap.size ≤ gx := by rw [hgx]; exact hb.size
  have HR0 := Lib.hid (hr.keep hbn); have HB0 := Lib.hid (below_step hb (Nat.le_refl _) hbn)
  rw [← hgx] at hmk hnew hpl hgll hgsl
  have HX0 : Hid (Bk gx (ints (noughts n)) W1) := Lib.hid hnew
  have HLT : Hid (w.heap.size ≤ p ∧ w.heap.size ≤ gl ∧ w.heap.size ≤ gs ∧ w.heap.size ≤ gx ∧ p ≠ gx ∧ gl ≠ gx ∧ gs ≠ gx) := Lib.hid ⟨hp, hgl, hgs, hwx, by omega, by omega, by omega⟩
  have HP0 : Hid (pre (noughts n) n = 0 ∧ (noughts n).length = n) := Lib.hid ⟨pre_noughts n n, by simp [noughts]⟩
  clear hr hb hnew hbn hW1 hgx hpl hgll hgsl hp hgl hgs hwx HMK
  go_wp2
  clear g1 g2 g3 hmk
  go_loopw [8, 9] (fun al i wr => ∃ (k : Nat) (xs s : List Int), i = .int .i64 k ∧ k ≤ l.length ∧ xs.length = n ∧ al = .int .i64 (pre xs n) ∧ Rk p gl gs xs s wr ∧ Bk gx (ints xs) wr ∧ Below w.heap.size w wr) (fun _ i _ => l.length - (intOf i).toNat)
  case atStart => exact ⟨0, noughts n, noughts (n + 1), rfl, by omega, HP0.out.2, by rw [HP0.out.1], HR0.out, HX0.out, HB0.out⟩
  case round =>
    clear HR0 HX0 HB0 HP0
    obtain ⟨k, xs, s, rfl, hk, hxl, rfl, hr, hx, hbw⟩ := hrel
    have HR := Lib.hid hr; have HX := Lib.hid hx; have HB := Lib.hid hbw; have HXL := Lib.hid hxl
    clear hr hx hbw hxl
    by_cases hlt : k < l.length
    · obtain ⟨b2, o2, rfl, _, hc2⟩ := HS.out.keep HB.out k hlt
      have c0 : wr.cell? ⟨b2, o2 + k * 4, none⟩ = some (.int .i64 l[k].1) := hc2 0 _ rfl
      have c1 : wr.cell? ⟨b2, o2 + k * 4 + 1, none⟩ = some (.int .i64 l[k].2.1) := hc2 1 _ rfl
      have c2 : wr.cell? ⟨b2, o2 + k * 4 + 2, none⟩ = some (.int .i64 l[k].2.2.1) := hc2 2 _ rfl
      have c3 : wr.cell? ⟨b2, o2 + k * 4 + 3, none⟩ = some (.int .i64 l[k].2.2.2) := hc2 3 _ rfl
      have hbd := HBD.out l[k] (List.getElem_mem hlt)
      have gi : (k : Int) < (l.length : Int) := by omega
      clear hc2
      generalize l[k] = d at *
      obtain ⟨iI, iB, iT, iS⟩ := d
      dsimp only at hbd c0 c1 c2 c3
      obtain ⟨D, hD⟩ : ∃ D, D = wr.heap.size := ⟨_, rfl⟩
      have HDB := Lib.hid (below_new wr (.cells #[.int .i64 iI, .int .i64 iB, .int .i64 iT, .int .i64 iS] 30))
      have HD3 : Hid (Bk D [.int .i64 iI, .int .i64 iB, .int .i64 iT, .int .i64 iS] (wr.alloc (.cells #[.int .i64 iI, .int .i64 iB, .int .i64 iT, .int .i64 iS] 30))) := Lib.hid (by rw [hD]; exact Bk.new wr 30 #[.int .i64 iI, .int .i64 iB, .int .i64 iT, .int .i64 iS])
      have HR3 := Lib.hid (HR.out.keep HDB.out); have HX3 := Lib.hid (HX.out.keep HDB.out); have HB3 := Lib.hid (below_step HB.out (Nat.le_refl _) HDB.out)
      have HDN : Hid (D ≠ p ∧ D ≠ gl ∧ D ≠ gs ∧ D ≠ gx ∧ w.heap.size ≤ D) := Lib.hid (by
        have q1 := HR.out.tree.1; have q2 := HR.out.nums.1; have q3 := HR.out.rows.1; have q4 := HX.out.1; have q5 := HB.out.size
        rw [hD]; exact ⟨by omega, by omega, by omega, by omega, q5⟩)
      have HDE := Lib.hid hD
      have hpn := pre_mono HR.out.pos xs.length xs.length (Nat.le_refl _) (Nat.le_refl _)
      have hpa := HR.out.all
      rw [HXL.out] at hpn hpa
      clear hD
      by_cases hr1 : iI < 0 ∨ (n : Int) ≤ iI
      · have HW : Hid (wantR xs iI iB = 2) := Lib.hid (by unfold wantR; rw [HXL.out, if_pos hr1])
        have HN : Hid (newL xs iI iB = xs) := Lib.hid (by unfold newL; rw [HXL.out, if_pos hr1])
        by_cases hr2 : iI < 0
        · as_aux_lemma =>
            clear hr1
            go_wp2
            rw [← HDE.out]
            obtain ⟨W4, hW4⟩ : ∃ W4, W4 = (wr.alloc (.cells #[.int .i64 iI, .int .i64 iB, .int .i64 iT, .int .i64 iS] 30)) := ⟨_, rfl⟩
            rw [← hW4] at HD3 HR3 HX3 HB3 ⊢
            have HD4 := HD3; have HR4 := HR3; have HX4 := HX3; have HB4 := HB3
            clear hW4 c0 c1 c2 c3 HD3 HR3 HX3 HB3
            have HX2L : Hid (xs.length = n) := HXL
            have HPOS2 : Hid (∀ y ∈ xs, 0 ≤ y) := Lib.hid HR.out.pos
            have HALL2 : Hid (pre xs xs.length ≤ 9007199254740992) := Lib.hid HR.out.all
            have hpos2 : ∀ y ∈ xs, 0 ≤ y := HPOS2.out
            have hall2 := HALL2.out
            have hxsl := HX2L.out
            go_loop [12, 13, 14, 15] (fun sm at_ ps ix => ∃ k2 : Nat, ix = .int .i64 k2 ∧ k2 ≤ n ∧ sm = .int .i64 (pre xs (min k2 iT.toNat)) ∧ at_ = .int .i64 (fndA xs iS n k2 : Nat) ∧ ps = .int .i64 (pre xs k2)) (fun _ _ _ ix => n - (intOf ix).toNat)
            case atStart => exact ⟨0, rfl, by omega, by rw [Nat.zero_min]; rfl, rfl, rfl⟩
            case round =>
              obtain ⟨k2, rfl, hk2, rfl, rfl, rfl⟩ := hrel
              by_cases hkn : k2 < n
              · have hps := pre_succ xs k2 (by omega)
                have hm1 := pre_mono hpos2 xs.length (k2 + 1) (by omega) (Nat.le_refl _)
                have hm2 := pre_mono hpos2 xs.length k2 (by omega) (Nat.le_refl _)
                have hm3 := pre_mono hpos2 xs.length (min k2 iT.toNat) (by omega) (Nat.le_refl _)
                have cx := (HX4.out.2 k2 _ (ints_get xs k2 (by omega))).1
                have t1 := (HD4.out.2 2 _ rfl).1; have t2 := (HD4.out.2 3 _ rfl).1
                have hfs : fndA xs iS n (k2 + 1) = if fndA xs iS n k2 = n ∧ iS < pre xs (k2 + 1) then k2 else fndA xs iS n k2 := rfl
                have hle := fndA_le xs iS n k2 hk2
                have HM1 : Hid ((k2 : Int) < iT → pre xs (min (k2 + 1) iT.toNat) = pre xs (k2 + 1) ∧ pre xs (min k2 iT.toNat) = pre xs k2) := Lib.hid (fun h => ⟨by rw [Nat.min_eq_left (by omega)], by rw [Nat.min_eq_left (by omega)]⟩)
                have HM2 : Hid (¬ (k2 : Int) < iT → pre xs (min (k2 + 1) iT.toNat) = pre xs (min k2 iT.toNat)) := Lib.hid (fun h => by rw [Nat.min_eq_right (by omega), Nat.min_eq_right (by omega)])
                obtain ⟨P, hP⟩ : ∃ P, P = pre xs k2 := ⟨_, rfl⟩
                obtain ⟨y, hy⟩ : ∃ y, y = xs.getD k2 0 := ⟨_, rfl⟩
                obtain ⟨Q, hQ⟩ : ∃ Q, Q = pre xs (k2 + 1) := ⟨_, rfl⟩
                obtain ⟨U, hU⟩ : ∃ U, U = pre xs (min k2 iT.toNat) := ⟨_, rfl⟩
                obtain ⟨f, hf⟩ : ∃ f, f = fndA xs iS n k2 := ⟨_, rfl⟩
                rw [← hP] at hps hm2 HM1 ⊢
                rw [← hy] at hps cx
                rw [← hQ] at hps hm1 hfs HM1
                rw [← hU] at hm3 HM1 HM2 ⊢
                rw [← hf] at hfs hle ⊢
                have d1 : (k2 : Int) < (n : Int) := by omega
                have d2 : (0 : Int) ≤ (k2 : Int) := by omega
                have hb3 : 0 ≤ P ∧ P ≤ 9007199254740992 ∧ 0 ≤ y ∧ y ≤ 9007199254740992 ∧ 0 ≤ U ∧ U ≤ 9007199254740992 := by
                  have hy0 := getD_pos hpos2 k2 (by omega)
                  rw [← hy] at hy0
                  omega
                have hb31 := hb3.1; have hb32 := hb3.2.1; have hb33 := hb3.2.2.1; have hb34 := hb3.2.2.2.1; have hb35 := hb3.2.2.2.2.1; have hb36 := hb3.2.2.2.2.2
                have HQ : Hid (P + y = pre xs (k2 + 1)) := Lib.hid (by rw [← hQ, hps])
                have HQE : Hid (Q = P + y) := Lib.hid hps
                have HFS := Lib.hid hfs
                clear hP hy hQ hU hf hps hm1 hm2 hm3 hfs hb3 hpos2 hall2
                by_cases ht : (k2 : Int) < iT
                · have hup : P = U := (HM1.out ht).2.symm
                  have HSUM : Hid (P + y = pre xs (min (k2 + 1) iT.toNat)) := Lib.hid (by rw [(HM1.out ht).1]; exact HQE.out.symm)
                  subst hup
                  clear HM1 HM2
                  by_cases hp : iS < P + y
                  · have bp : decide (iS < P + y) = true := decide_eq_true hp
                    by_cases hf : f = n
                    · have bf : ((f : Int) == (n : Int)) = true := by simp; omega
                      have HF : Hid (fndA xs iS n (k2 + 1) = k2) := Lib.hid (by rw [HFS.out, if_pos ⟨hf, by rw [HQE.out]; exact hp⟩])
                      clear hf
                      go_wp2
                      go_round
                      case rel => exact ⟨k2 + 1, by go_num, by omega, by rw [HSUM.out], by rw [HF.out], by rw [HQ.out]⟩
                      case measure => simp [intOf]; omega
                    · have bf : ((f : Int) == (n : Int)) = false := by simp; omega
                      have HF : Hid (fndA xs iS n (k2 + 1) = f) := Lib.hid (by rw [HFS.out, if_neg (fun e => hf e.1)])
                      clear hf
                      go_wp2
                      go_round
                      case rel => exact ⟨k2 + 1, by go_num, by omega, by rw [HSUM.out], by rw [HF.out], by rw [HQ.out]⟩
                      case measure => simp [intOf]; omega
                  · have bp : decide (iS < P + y) = false := decide_eq_false hp
                    have HF : Hid (fndA xs iS n (k2 + 1) = f) := Lib.hid (by rw [HFS.out, if_neg (fun e => hp (by rw [← HQE.out]; exact e.2))])
                    go_wp2
                    go_round
                    case rel => exact ⟨k2 + 1, by go_num, by omega, by rw [HSUM.out], by rw [HF.out], by rw [HQ.out]⟩
                    case measure => simp [intOf]; omega
                · have HSUM : Hid (U = pre xs (min (k2 + 1) iT.toNat)) := Lib.hid (by rw [HM2.out ht])
                  clear HM1 HM2
                  by_cases hp : iS < P + y
                  · have bp : decide (iS < P + y) = true := decide_eq_true hp
                    by_cases hf : f = n
                    · have bf : ((f : Int) == (n : Int)) = true := by simp; omega
                      have HF : Hid (fndA xs iS n (k2 + 1) = k2) := Lib.hid (by rw [HFS.out, if_pos ⟨hf, by rw [HQE.out]; exact hp⟩])
                      clear hf
                      go_wp2
                      go_round
                      case rel => exact ⟨k2 + 1, by go_num, by omega, by rw [HSUM.out], by rw [HF.out], by rw [HQ.out]⟩
                      case measure => simp [intOf]; omega
                    · have bf : ((f : Int) == (n : Int)) = false := by simp; omega
                      have HF : Hid (fndA xs iS n (k2 + 1) = f) := Lib.hid (by rw [HFS.out, if_neg (fun e => hf e.1)])
                      clear hf
                      go_wp2
                      go_round
                      case rel => exact ⟨k2 + 1, by go_num, by omega, by rw [HSUM.out], by rw [HF.out], by rw [HQ.out]⟩
                      case measure => simp [intOf]; omega
                  · have bp : decide (iS < P + y) = false := decide_eq_false hp
                    have HF : Hid (fndA xs iS n (k2 + 1) = f) := Lib.hid (by rw [HFS.out, if_neg (fun e => hp (by rw [← HQE.out]; exact e.2))])
                    go_wp2
                    go_round
                    case rel => exact ⟨k2 + 1, by go_num, by omega, by rw [HSUM.out], by rw [HF.out], by rw [HQ.out]⟩
                    case measure => simp [intOf]; omega
              · obtain rfl : k2 = n := by omega
                have d1 : ¬ (k2 : Int) < (k2 : Int) := by omega
                have t0 := (HD4.out.2 0 _ rfl).1; have t1 := (HD4.out.2 1 _ rfl).1
                clear hpos2 hall2 hk2 hkn
                go_wp2_with fail
                have T := add_any p gl gs xs s iI iB W4 HR4.out
                rw [HW.out, HN.out] at T
                refine T.mono ?_
                clear T
                rintro e w5 ⟨rfl, ⟨s5, hr5⟩, hk5⟩
                have hd5 := HD4.out.kp hk5 (fun e => by have := HDN.out; omega)
                have t2 := (hd5.2 2 _ rfl).1
                have HR5 := Lib.hid hr5; have HD5 := Lib.hid hd5
                have HX5 := Lib.hid (HX4.out.kp hk5 (fun e => by have := HLT.out; omega))
                have HB5 := Lib.hid (HB4.out.trans (hk5.below (B := w.heap.size) HB4.out.size (fun j hj => by have := HLT.out; omega)))
                clear hr5 hk5 hd5 t0 t1 d1
                go_wp2_with fail
                have T := sum_any p gl gs xs s5 iT w5 HR5.out
                rw [show clampN iT xs.length = min k2 iT.toNat by unfold clampN; rw [HX2L.out, Nat.min_comm]] at T
                refine T.mono ?_
                clear T
                rintro e w6 ⟨rfl, hb6⟩
                have hd6 := HD5.out.keep hb6
                have t3 := (hd6.2 3 _ rfl).1
                have HR6 := Lib.hid (HR5.out.keep hb6); have HX6 := Lib.hid (HX5.out.keep hb6); have HB6 := Lib.hid (below_step HB5.out (Nat.le_refl _) hb6)
                clear hb6 hd6 t2
                obtain ⟨V, hV⟩ : ∃ V, V = pre xs (min k2 iT.toNat) := ⟨_, rfl⟩
                rw [← hV]
                have bV : (V != V) = false := by simp
                clear hV
                go_wp2_with fail
                have T := find_any p gl gs xs s5 iS w6 HR6.out
                rw [HX2L.out] at T
                refine T.mono ?_
                clear T
                rintro e w7 ⟨rfl, rfl⟩
                obtain ⟨f, hf⟩ : ∃ f, f = fndA xs iS k2 k2 := ⟨_, rfl⟩
                rw [← hf]
                have bf : ((f : Int) != (f : Int)) = false := by simp
                clear hf
                go_wp2
                go_roundw
                case rel => exact ⟨k + 1, xs, s5, by go_num, by omega, HX2L.out, rfl, HR6.out, HX6.out, HB6.out⟩
                case measure => simp [intOf]; omega
        · have hr3 : (n : Int) ≤ iI := by omega
          as_aux_lemma =>
            clear hr1
            go_wp2
            rw [← HDE.out]
            obtain ⟨W4, hW4⟩ : ∃ W4, W4 = (wr.alloc (.cells #[.int .i64 iI, .int .i64 iB, .int .i64 iT, .int .i64 iS] 30)) := ⟨_, rfl⟩
            rw [← hW4] at HD3 HR3 HX3 HB3 ⊢
            have HD4 := HD3; have HR4 := HR3; have HX4 := HX3; have HB4 := HB3
            clear hW4 c0 c1 c2 c3 HD3 HR3 HX3 HB3
            have HX2L : Hid (xs.length = n) := HXL
            have HPOS2 : Hid (∀ y ∈ xs, 0 ≤ y) := Lib.hid HR.out.pos
            have HALL2 : Hid (pre xs xs.length ≤ 9007199254740992) := Lib.hid HR.out.all
            have hpos2 : ∀ y ∈ xs, 0 ≤ y := HPOS2.out
            have hall2 := HALL2.out
            have hxsl := HX2L.out
            go_loop [12, 13, 14, 15] (fun sm at_ ps ix => ∃ k2 : Nat, ix = .int .i64 k2 ∧ k2 ≤ n ∧ sm = .int .i64 (pre xs (min k2 iT.toNat)) ∧ at_ = .int .i64 (fndA xs iS n k2 : Nat) ∧ ps = .int .i64 (pre xs k2)) (fun _ _ _ ix => n - (intOf ix).toNat)
            case atStart => exact ⟨0, rfl, by omega, by rw [Nat.zero_min]; rfl, rfl, rfl⟩
            case round =>
              obtain ⟨k2, rfl, hk2, rfl, rfl, rfl⟩ := hrel
              by_cases hkn : k2 < n
              · have hps := pre_succ xs k2 (by omega)
                have hm1 := pre_mono hpos2 xs.length (k2 + 1) (by omega) (Nat.le_refl _)
                have hm2 := pre_mono hpos2 xs.length k2 (by omega) (Nat.le_refl _)
                have hm3 := pre_mono hpos2 xs.length (min k2 iT.toNat) (by omega) (Nat.le_refl _)
                have cx := (HX4.out.2 k2 _ (ints_get xs k2 (by omega))).1
                have t1 := (HD4.out.2 2 _ rfl).1; have t2 := (HD4.out.2 3 _ rfl).1
                have hfs : fndA xs iS n (k2 + 1) = if fndA xs iS n k2 = n ∧ iS < pre xs (k2 + 1) then k2 else fndA xs iS n k2 := rfl
                have hle := fndA_le xs iS n k2 hk2
                have HM1 : Hid ((k2 : Int) < iT → pre xs (min (k2 + 1) iT.toNat) = pre xs (k2 + 1) ∧ pre xs (min k2 iT.toNat) = pre xs k2) := Lib.hid (fun h => ⟨by rw [Nat.min_eq_left (by omega)], by rw [Nat.min_eq_left (by omega)]⟩)
                have HM2 : Hid (¬ (k2 : Int) < iT → pre xs (min (k2 + 1) iT.toNat) = pre xs (min k2 iT.toNat)) := Lib.hid (fun h => by rw [Nat.min_eq_right (by omega), Nat.min_eq_right (by omega)])
                obtain ⟨P, hP⟩ : ∃ P, P = pre xs k2 := ⟨_, rfl⟩
                obtain ⟨y, hy⟩ : ∃ y, y = xs.getD k2 0 := ⟨_, rfl⟩
                obtain ⟨Q, hQ⟩ : ∃ Q, Q = pre xs (k2 + 1) := ⟨_, rfl⟩
                obtain ⟨U, hU⟩ : ∃ U, U = pre xs (min k2 iT.toNat) := ⟨_, rfl⟩
                obtain ⟨f, hf⟩ : ∃ f, f = fndA xs iS n k2 := ⟨_, rfl⟩
                rw [← hP] at hps hm2 HM1 ⊢
                rw [← hy] at hps cx
                rw [← hQ] at hps hm1 hfs HM1
                rw [← hU] at hm3 HM1 HM2 ⊢
                rw [← hf] at hfs hle ⊢
                have d1 : (k2 : Int) < (n : Int) := by omega
                have d2 : (0 : Int) ≤ (k2 : Int) := by omega
                have hb3 : 0 ≤ P ∧ P ≤ 9007199254740992 ∧ 0 ≤ y ∧ y ≤ 9007199254740992 ∧ 0 ≤ U ∧ U ≤ 9007199254740992 := by
                  have hy0 := getD_pos hpos2 k2 (by omega)
                  rw [← hy] at hy0
                  omega
                have hb31 := hb3.1; have hb32 := hb3.2.1; have hb33 := hb3.2.2.1; have hb34 := hb3.2.2.2.1; have hb35 := hb3.2.2.2.2.1; have hb36 := hb3.2.2.2.2.2
                have HQ : Hid (P + y = pre xs (k2 + 1)) := Lib.hid (by rw [← hQ, hps])
                have HQE : Hid (Q = P + y) := Lib.hid hps
                have HFS := Lib.hid hfs
                clear hP hy hQ hU hf hps hm1 hm2 hm3 hfs hb3 hpos2 hall2
                by_cases ht : (k2 : Int) < iT
                · have hup : P = U := (HM1.out ht).2.symm
                  have HSUM : Hid (P + y = pre xs (min (k2 + 1) iT.toNat)) := Lib.hid (by rw [(HM1.out ht).1]; exact HQE.out.symm)
                  subst hup
                  clear HM1 HM2
                  by_cases hp : iS < P + y
                  · have bp : decide (iS < P + y) = true := decide_eq_true hp
                    by_cases hf : f = n
                    · have bf : ((f : Int) == (n : Int)) = true := by simp; omega
                      have HF : Hid (fndA xs iS n (k2 + 1) = k2) := Lib.hid (by rw [HFS.out, if_pos ⟨hf, by rw [HQE.out]; exact hp⟩])
                      clear hf
                      go_wp2
                      go_round
                      case rel => exact ⟨k2 + 1, by go_num, by omega, by rw [HSUM.out], by rw [HF.out], by rw [HQ.out]⟩
                      case measure => simp [intOf]; omega
                    · have bf : ((f : Int) == (n : Int)) = false := by simp; omega
                      have HF : Hid (fndA xs iS n (k2 + 1) = f) := Lib.hid (by rw [HFS.out, if_neg (fun e => hf e.1)])
                      clear hf
                      go_wp2
                      go_round
                      case rel => exact ⟨k2 + 1, by go_num, by omega, by rw [HSUM.out], by rw [HF.out], by rw [HQ.out]⟩
                      case measure => simp [intOf]; omega
                  · have bp : decide (iS < P + y) = false := decide_eq_false hp
                    have HF : Hid (fndA xs iS n (k2 + 1) = f) := Lib.hid (by rw [HFS.out, if_neg (fun e => hp (by rw [← HQE.out]; exact e.2))])
                    go_wp2
                    go_round
                    case rel => exact ⟨k2 + 1, by go_num, by omega, by rw [HSUM.out], by rw [HF.out], by rw [HQ.out]⟩
                    case measure => simp [intOf]; omega
                · have HSUM : Hid (U = pre xs (min (k2 + 1) iT.toNat)) := Lib.hid (by rw [HM2.out ht])
                  clear HM1 HM2
                  by_cases hp : iS < P + y
                  · have bp : decide (iS < P + y) = true := decide_eq_true hp
                    by_cases hf : f = n
                    · have bf : ((f : Int) == (n : Int)) = true := by simp; omega
                      have HF : Hid (fndA xs iS n (k2 + 1) = k2) := Lib.hid (by rw [HFS.out, if_pos ⟨hf, by rw [HQE.out]; exact hp⟩])
                      clear hf
                      go_wp2
                      go_round
                      case rel => exact ⟨k2 + 1, by go_num, by omega, by rw [HSUM.out], by rw [HF.out], by rw [HQ.out]⟩
                      case measure => simp [intOf]; omega
                    · have bf : ((f : Int) == (n : Int)) = false := by simp; omega
                      have HF : Hid (fndA xs iS n (k2 + 1) = f) := Lib.hid (by rw [HFS.out, if_neg (fun e => hf e.1)])
                      clear hf
                      go_wp2
                      go_round
                      case rel => exact ⟨k2 + 1, by go_num, by omega, by rw [HSUM.out], by rw [HF.out], by rw [HQ.out]⟩
                      case measure => simp [intOf]; omega
                  · have bp : decide (iS < P + y) = false := decide_eq_false hp
                    have HF : Hid (fndA xs iS n (k2 + 1) = f) := Lib.hid (by rw [HFS.out, if_neg (fun e => hp (by rw [← HQE.out]; exact e.2))])
                    go_wp2
                    go_round
                    case rel => exact ⟨k2 + 1, by go_num, by omega, by rw [HSUM.out], by rw [HF.out], by rw [HQ.out]⟩
                    case measure => simp [intOf]; omega
              · obtain rfl : k2 = n := by omega
                have d1 : ¬ (k2 : Int) < (k2 : Int) := by omega
                have t0 := (HD4.out.2 0 _ rfl).1; have t1 := (HD4.out.2 1 _ rfl).1
                clear hpos2 hall2 hk2 hkn
                go_wp2_with fail
                have T := add_any p gl gs xs s iI iB W4 HR4.out
                rw [HW.out, HN.out] at T
                refine T.mono ?_
                clear T
                rintro e w5 ⟨rfl, ⟨s5, hr5⟩, hk5⟩
                have hd5 := HD4.out.kp hk5 (fun e => by have := HDN.out; omega)
                have t2 := (hd5.2 2 _ rfl).1
                have HR5 := Lib.hid hr5; have HD5 := Lib.hid hd5
                have HX5 := Lib.hid (HX4.out.kp hk5 (fun e => by have := HLT.out; omega))
                have HB5 := Lib.hid (HB4.out.trans (hk5.below (B := w.heap.size) HB4.out.size (fun j hj => by have := HLT.out; omega)))
                clear hr5 hk5 hd5 t0 t1 d1
                go_wp2_with fail
                have T := sum_any p gl gs xs s5 iT w5 HR5.out
                rw [show clampN iT xs.length = min k2 iT.toNat by unfold clampN; rw [HX2L.out, Nat.min_comm]] at T
                refine T.mono ?_
                clear T
                rintro e w6 ⟨rfl, hb6⟩
                have hd6 := HD5.out.keep hb6
                have t3 := (hd6.2 3 _ rfl).1
                have HR6 := Lib.hid (HR5.out.keep hb6); have HX6 := Lib.hid (HX5.out.keep hb6); have HB6 := Lib.hid (below_step HB5.out (Nat.le_refl _) hb6)
                clear hb6 hd6 t2
                obtain ⟨V, hV⟩ : ∃ V, V = pre xs (min k2 iT.toNat) := ⟨_, rfl⟩
                rw [← hV]
                have bV : (V != V) = false := by simp
                clear hV
                go_wp2_with fail
                have T := find_any p gl gs xs s5 iS w6 HR6.out
                rw [HX2L.out] at T
                refine T.mono ?_
                clear T
                rintro e w7 ⟨rfl, rfl⟩
                obtain ⟨f, hf⟩ : ∃ f, f = fndA xs iS k2 k2 := ⟨_, rfl⟩
                rw [← hf]
                have bf : ((f : Int) != (f : Int)) = false := by simp
                clear hf
                go_wp2
                go_roundw
                case rel => exact ⟨k + 1, xs, s5, by go_num, by omega, HX2L.out, rfl, HR6.out, HX6.out, HB6.out⟩
                case measure => simp [intOf]; omega
      · obtain ⟨i, rfl⟩ : ∃ i : Nat, iI = i := ⟨iI.toNat, by omega⟩
        have hin : i < n := by omega
        have r1 : ¬ (i : Int) < 0 := by omega
        have r2 : ¬ (n : Int) ≤ (i : Int) := by omega
        have r3 : (i : Int) < (n : Int) := by omega
        have r4 : (0 : Int) ≤ (i : Int) := by omega
        have cX := (HX.out.2 i _ (ints_get xs i (by rw [HXL.out]; exact hin))).1
        have hgxl := HX.out.1
        have hx0 := getD_pos HR.out.pos i (by rw [HXL.out]; exact hin)
        have hx1 := pre_succ xs i (by rw [HXL.out]; exact hin)
        have hx2 := pre_mono HR.out.pos xs.length (i + 1) (by rw [HXL.out]; exact hin) (Nat.le_refl _)
        have hx3 := pre_mono HR.out.pos (i + 1) i (by omega) (by rw [HXL.out]; exact hin)
        rw [HXL.out] at hx2
        have HSET := Lib.hid (ints_set xs i (xs.getD i 0 + iB))
        have HPS : Hid (pre (xs.set i (xs.getD i 0 + iB)) n = pre xs n + iB) := Lib.hid (by
          rw [pre_set _ _ _ _ (by rw [HXL.out]; exact hin), if_pos hin]; omega)
        by_cases hbf : badF xs i iB
        · have HW : Hid (wantR xs i iB = 5) := Lib.hid (by unfold wantR; rw [HXL.out, if_neg (by omega), Int.toNat_natCast, if_pos hbf])
          have HN : Hid (newL xs i iB = xs) := Lib.hid (by unfold newL; rw [HXL.out, if_neg (by omega), Int.toNat_natCast, if_pos hbf])
          unfold badF at hbf
          rw [HXL.out] at hbf
          obtain ⟨x, hx⟩ : ∃ x, x = xs.getD i 0 := ⟨_, rfl⟩
          obtain ⟨A, hA⟩ : ∃ A, A = pre xs n := ⟨_, rfl⟩
          rw [← hx] at cX hbf hx1 hx0
          rw [← hA] at hbf hpn hpa hx2
          have HAE := Lib.hid hA
          rw [← hA]
          have hxa : x ≤ 9007199254740992 := by omega
          have HH := Lib.hid hbf
          clear hx hA hx1 hx2 hx3 hbf HSET HPS hr1
          by_cases q1 : iB < -1099511627776
          · have e1 : decide (iB < -1099511627776) = true := decide_eq_true q1
            as_aux_lemma =>
              go_wp2
              go_quiet (fail)
              go_wp2
              rw [← HDE.out]
              obtain ⟨W4, hW4⟩ : ∃ W4, W4 = (wr.alloc (.cells #[.int .i64 (i : Int), .int .i64 iB, .int .i64 iT, .int .i64 iS] 30)).drewN nq := ⟨_, rfl⟩
              rw [← hW4, HAE.out]
              have HD4 : Hid (Bk D [.int .i64 (i : Int), .int .i64 iB, .int .i64 iT, .int .i64 iS] W4) := Lib.hid (by rw [hW4]; exact HD3.out)
              have HR4 : Hid (Rk p gl gs xs s W4) := Lib.hid (by rw [hW4]; exact HR3.out.keep (below_drewN' (Below.refl _ _) nq))
              have HX4 : Hid (Bk gx (ints xs) W4) := Lib.hid (by rw [hW4]; exact HX3.out)
              have HB4 : Hid (Below w.heap.size w W4) := Lib.hid (by rw [hW4]; exact below_drewN' HB3.out nq)
              clear hW4 c0 c1 c2 c3 cX HD3 HR3 HX3 HB3 e1
              have HX2L : Hid (xs.length = n) := HXL
              have HPOS2 : Hid (∀ y ∈ xs, 0 ≤ y) := Lib.hid HR.out.pos
              have HALL2 : Hid (pre xs xs.length ≤ 9007199254740992) := Lib.hid HR.out.all
              have hpos2 : ∀ y ∈ xs, 0 ≤ y := HPOS2.out
              have hall2 := HALL2.out
              have hxsl := HX2L.out
              go_loop [12, 13, 14, 15] (fun sm at_ ps ix => ∃ k2 : Nat, ix = .int .i64 k2 ∧ k2 ≤ n ∧ sm = .int .i64 (pre xs (min k2 iT.toNat)) ∧ at_ = .int .i64 (fndA xs iS n k2 : Nat) ∧ ps = .int .i64 (pre xs k2)) (fun _ _ _ ix => n - (intOf ix).toNat)
              case atStart => exact ⟨0, rfl, by omega, by rw [Nat.zero_min]; rfl, rfl, rfl⟩
              case round =>
                obtain ⟨k2, rfl, hk2, rfl, rfl, rfl⟩ := hrel
                by_cases hkn : k2 < n
                · have hps := pre_succ xs k2 (by omega)
                  have hm1 := pre_mono hpos2 xs.length (k2 + 1) (by omega) (Nat.le_refl _)
                  have hm2 := pre_mono hpos2 xs.length k2 (by omega) (Nat.le_refl _)
                  have hm3 := pre_mono hpos2 xs.length (min k2 iT.toNat) (by omega) (Nat.le_refl _)
                  have cx := (HX4.out.2 k2 _ (ints_get xs k2 (by omega))).1
                  have t1 := (HD4.out.2 2 _ rfl).1; have t2 := (HD4.out.2 3 _ rfl).1
                  have hfs : fndA xs iS n (k2 + 1) = if fndA xs iS n k2 = n ∧ iS < pre xs (k2 + 1) then k2 else fndA xs iS n k2 := rfl
                  have hle := fndA_le xs iS n k2 hk2
                  have HM1 : Hid ((k2 : Int) < iT → pre xs (min (k2 + 1) iT.toNat) = pre xs (k2 + 1) ∧ pre xs (min k2 iT.toNat) = pre xs k2) := Lib.hid (fun h => ⟨by rw [Nat.min_eq_left (by omega)], by rw [Nat.min_eq_left (by omega)]⟩)
                  have HM2 : Hid (¬ (k2 : Int) < iT → pre xs (min (k2 + 1) iT.toNat) = pre xs (min k2 iT.toNat)) := Lib.hid (fun h => by rw [Nat.min_eq_right (by omega), Nat.min_eq_right (by omega)])
                  obtain ⟨P, hP⟩ : ∃ P, P = pre xs k2 := ⟨_, rfl⟩
                  obtain ⟨y, hy⟩ : ∃ y, y = xs.getD k2 0 := ⟨_, rfl⟩
                  obtain ⟨Q, hQ⟩ : ∃ Q, Q = pre xs (k2 + 1) := ⟨_, rfl⟩
                  obtain ⟨U, hU⟩ : ∃ U, U = pre xs (min k2 iT.toNat) := ⟨_, rfl⟩
                  obtain ⟨f, hf⟩ : ∃ f, f = fndA xs iS n k2 := ⟨_, rfl⟩
                  rw [← hP] at hps hm2 HM1 ⊢
                  rw [← hy] at hps cx
                  rw [← hQ] at hps hm1 hfs HM1
                  rw [← hU] at hm3 HM1 HM2 ⊢
                  rw [← hf] at hfs hle ⊢
                  have d1 : (k2 : Int) < (n : Int) := by omega
                  have d2 : (0 : Int) ≤ (k2 : Int) := by omega
                  have hb3 : 0 ≤ P ∧ P ≤ 9007199254740992 ∧ 0 ≤ y ∧ y ≤ 9007199254740992 ∧ 0 ≤ U ∧ U ≤ 9007199254740992 := by
                    have hy0 := getD_pos hpos2 k2 (by omega)
                    rw [← hy] at hy0
                    omega
                  have hb31 := hb3.1; have hb32 := hb3.2.1; have hb33 := hb3.2.2.1; have hb34 := hb3.2.2.2.1; have hb35 := hb3.2.2.2.2.1; have hb36 := hb3.2.2.2.2.2
                  have HQ : Hid (P + y = pre xs (k2 + 1)) := Lib.hid (by rw [← hQ, hps])
                  have HQE : Hid (Q = P + y) := Lib.hid hps
                  have HFS := Lib.hid hfs
                  clear hP hy hQ hU hf hps hm1 hm2 hm3 hfs hb3 hpos2 hall2
                  by_cases ht : (k2 : Int) < iT
                  · have hup : P = U := (HM1.out ht).2.symm
                    have HSUM : Hid (P + y = pre xs (min (k2 + 1) iT.toNat)) := Lib.hid (by rw [(HM1.out ht).1]; exact HQE.out.symm)
                    subst hup
                    clear HM1 HM2
                    by_cases hp : iS < P + y
                    · have bp : decide (iS < P + y) = true := decide_eq_true hp
                      by_cases hf : f = n
                      · have bf : ((f : Int) == (n : Int)) = true := by simp; omega
                        have HF : Hid (fndA xs iS n (k2 + 1) = k2) := Lib.hid (by rw [HFS.out, if_pos ⟨hf, by rw [HQE.out]; exact hp⟩])
                        clear hf
                        go_wp2
                        go_round
                        case rel => exact ⟨k2 + 1, by go_num, by omega, by rw [HSUM.out], by rw [HF.out], by rw [HQ.out]⟩
                        case measure => simp [intOf]; omega
                      · have bf : ((f : Int) == (n : Int)) = false := by simp; omega
                        have HF : Hid (fndA xs iS n (k2 + 1) = f) := Lib.hid (by rw [HFS.out, if_neg (fun e => hf e.1)])
                        clear hf
                        go_wp2
                        go_round
                        case rel => exact ⟨k2 + 1, by go_num, by omega, by rw [HSUM.out], by rw [HF.out], by rw [HQ.out]⟩
                        case measure => simp [intOf]; omega
                    · have bp : decide (iS < P + y) = false := decide_eq_false hp
                      have HF : Hid (fndA xs iS n (k2 + 1) = f) := Lib.hid (by rw [HFS.out, if_neg (fun e => hp (by rw [← HQE.out]; exact e.2))])
                      go_wp2
                      go_round
                      case rel => exact ⟨k2 + 1, by go_num, by omega, by rw [HSUM.out], by rw [HF.out], by rw [HQ.out]⟩
                      case measure => simp [intOf]; omega
                  · have HSUM : Hid (U = pre xs (min (k2 + 1) iT.toNat)) := Lib.hid (by rw [HM2.out ht])
                    clear HM1 HM2
                    by_cases hp : iS < P + y
                    · have bp : decide (iS < P + y) = true := decide_eq_true hp
                      by_cases hf : f = n
                      · have bf : ((f : Int) == (n : Int)) = true := by simp; omega
                        have HF : Hid (fndA xs iS n (k2 + 1) = k2) := Lib.hid (by rw [HFS.out, if_pos ⟨hf, by rw [HQE.out]; exact hp⟩])
                        clear hf
                        go_wp2
                        go_round
                        case rel => exact ⟨k2 + 1, by go_num, by omega, by rw [HSUM.out], by rw [HF.out], by rw [HQ.out]⟩
                        case measure => simp [intOf]; omega
                      · have bf : ((f : Int) == (n : Int)) = false := by simp; omega
                        have HF : Hid (fndA xs iS n (k2 + 1) = f) := Lib.hid (by rw [HFS.out, if_neg (fun e => hf e.1)])
                        clear hf
                        go_wp2
                        go_round
                        case rel => exact ⟨k2 + 1, by go_num, by omega, by rw [HSUM.out], by rw [HF.out], by rw [HQ.out]⟩
                        case measure => simp [intOf]; omega
                    · have bp : decide (iS < P + y) = false := decide_eq_false hp
                      have HF : Hid (fndA xs iS n (k2 + 1) = f) := Lib.hid (by rw [HFS.out, if_neg (fun e => hp (by rw [← HQE.out]; exact e.2))])
                      go_wp2
                      go_round
                      case rel => exact ⟨k2 + 1, by go_num, by omega, by rw [HSUM.out], by rw [HF.out], by rw [HQ.out]⟩
                      case measure => simp [intOf]; omega
                · obtain rfl : k2 = n := by omega
                  have d1 : ¬ (k2 : Int) < (k2 : Int) := by omega
                  have t0 := (HD4.out.2 0 _ rfl).1; have t1 := (HD4.out.2 1 _ rfl).1
                  clear hpos2 hall2 hk2 hkn
                  go_wp2_with fail
                  have T := add_any p gl gs xs s i iB W4 HR4.out
                  rw [HW.out, HN.out] at T
                  refine T.mono ?_
                  clear T
                  rintro e w5 ⟨rfl, ⟨s5, hr5⟩, hk5⟩
                  have hd5 := HD4.out.kp hk5 (fun e => by have := HDN.out; omega)
                  have t2 := (hd5.2 2 _ rfl).1
                  have HR5 := Lib.hid hr5; have HD5 := Lib.hid hd5
                  have HX5 := Lib.hid (HX4.out.kp hk5 (fun e => by have := HLT.out; omega))
                  have HB5 := Lib.hid (HB4.out.trans (hk5.below (B := w.heap.size) HB4.out.size (fun j hj => by have := HLT.out; omega)))
                  clear hr5 hk5 hd5 t0 t1 d1
                  go_wp2_with fail
                  have T := sum_any p gl gs xs s5 iT w5 HR5.out
                  rw [show clampN iT xs.length = min k2 iT.toNat by unfold clampN; rw [HX2L.out, Nat.min_comm]] at T
                  refine T.mono ?_
                  clear T
                  rintro e w6 ⟨rfl, hb6⟩
                  have hd6 := HD5.out.keep hb6
                  have t3 := (hd6.2 3 _ rfl).1
                  have HR6 := Lib.hid (HR5.out.keep hb6); have HX6 := Lib.hid (HX5.out.keep hb6); have HB6 := Lib.hid (below_step HB5.out (Nat.le_refl _) hb6)
                  clear hb6 hd6 t2
                  obtain ⟨V, hV⟩ : ∃ V, V = pre xs (min k2 iT.toNat) := ⟨_, rfl⟩
                  rw [← hV]
                  have bV : (V != V) = false := by simp
                  clear hV
                  go_wp2_with fail
                  have T := find_any p gl gs xs s5 iS w6 HR6.out
                  rw [HX2L.out] at T
                  refine T.mono ?_
                  clear T
                  rintro e w7 ⟨rfl, rfl⟩
                  obtain ⟨f, hf⟩ : ∃ f, f = fndA xs iS k2 k2 := ⟨_, rfl⟩
                  rw [← hf]
                  have bf : ((f : Int) != (f : Int)) = false := by simp
                  clear hf
                  go_wp2
                  go_roundw
                  case rel => exact ⟨k + 1, xs, s5, by go_num, by omega, HX2L.out, rfl, HR6.out, HX6.out, HB6.out⟩
                  case measure => simp [intOf]; omega
          · have e1 : decide (iB < -1099511627776) = false := decide_eq_false q1
            by_cases q2 : 1099511627776 < iB
            · have e2 : decide (1099511627776 < iB) = true := decide_eq_true q2
              as_aux_lemma =>
                go_wp2
                go_quiet (fail)
                go_wp2
                rw [← HDE.out]
                obtain ⟨W4, hW4⟩ : ∃ W4, W4 = (wr.alloc (.cells #[.int .i64 (i : Int), .int .i64 iB, .int .i64 iT, .int .i64 iS] 30)).drewN nq := ⟨_, rfl⟩
                rw [← hW4, HAE.out]
                have HD4 : Hid (Bk D [.int .i64 (i : Int), .int .i64 iB, .int .i64 iT, .int .i64 iS] W4) := Lib.hid (by rw [hW4]; exact HD3.out)
                have HR4 : Hid (Rk p gl gs xs s W4) := Lib.hid (by rw [hW4]; exact HR3.out.keep (below_drewN' (Below.refl _ _) nq))
                have HX4 : Hid (Bk gx (ints xs) W4) := Lib.hid (by rw [hW4]; exact HX3.out)
                have HB4 : Hid (Below w.heap.size w W4) := Lib.hid (by rw [hW4]; exact below_drewN' HB3.out nq)
                clear hW4 c0 c1 c2 c3 cX HD3 HR3 HX3 HB3 e1 e2
                have HX2L : Hid (xs.length = n) := HXL
                have HPOS2 : Hid (∀ y ∈ xs, 0 ≤ y) := Lib.hid HR.out.pos
                have HALL2 : Hid (pre xs xs.length ≤ 9007199254740992) := Lib.hid HR.out.all
                have hpos2 : ∀ y ∈ xs, 0 ≤ y := HPOS2.out
                have hall2 := HALL2.out
                have hxsl := HX2L.out
                go_loop [12, 13, 14, 15] (fun sm at_ ps ix => ∃ k2 : Nat, ix = .int .i64 k2 ∧ k2 ≤ n ∧ sm = .int .i64 (pre xs (min k2 iT.toNat)) ∧ at_ = .int .i64 (fndA xs iS n k2 : Nat) ∧ ps = .int .i64 (pre xs k2)) (fun _ _ _ ix => n - (intOf ix).toNat)
                case atStart => exact ⟨0, rfl, by omega, by rw [Nat.zero_min]; rfl, rfl, rfl⟩
                case round =>
                  obtain ⟨k2, rfl, hk2, rfl, rfl, rfl⟩ := hrel
                  by_cases hkn : k2 < n
                  · have hps := pre_succ xs k2 (by omega)
                    have hm1 := pre_mono hpos2 xs.length (k2 + 1) (by omega) (Nat.le_refl _)
                    have hm2 := pre_mono hpos2 xs.length k2 (by omega) (Nat.le_refl _)
                    have hm3 := pre_mono hpos2 xs.length (min k2 iT.toNat) (by omega) (Nat.le_refl _)
                    have cx := (HX4.out.2 k2 _ (ints_get xs k2 (by omega))).1
                    have t1 := (HD4.out.2 2 _ rfl).1; have t2 := (HD4.out.2 3 _ rfl).1
                    have hfs : fndA xs iS n (k2 + 1) = if fndA xs iS n k2 = n ∧ iS < pre xs (k2 + 1) then k2 else fndA xs iS n k2 := rfl
                    have hle := fndA_le xs iS n k2 hk2
                    have HM1 : Hid ((k2 : Int) < iT → pre xs (min (k2 + 1) iT.toNat) = pre xs (k2 + 1) ∧ pre xs (min k2 iT.toNat) = pre xs k2) := Lib.hid (fun h => ⟨by rw [Nat.min_eq_left (by omega)], by rw [Nat.min_eq_left (by omega)]⟩)
                    have HM2 : Hid (¬ (k2 : Int) < iT → pre xs (min (k2 + 1) iT.toNat) = pre xs (min k2 iT.toNat)) := Lib.hid (fun h => by rw [Nat.min_eq_right (by omega), Nat.min_eq_right (by omega)])
                    obtain ⟨P, hP⟩ : ∃ P, P = pre xs k2 := ⟨_, rfl⟩
                    obtain ⟨y, hy⟩ : ∃ y, y = xs.getD k2 0 := ⟨_, rfl⟩
                    obtain ⟨Q, hQ⟩ : ∃ Q, Q = pre xs (k2 + 1) := ⟨_, rfl⟩
                    obtain ⟨U, hU⟩ : ∃ U, U = pre xs (min k2 iT.toNat) := ⟨_, rfl⟩
                    obtain ⟨f, hf⟩ : ∃ f, f = fndA xs iS n k2 := ⟨_, rfl⟩
                    rw [← hP] at hps hm2 HM1 ⊢
                    rw [← hy] at hps cx
                    rw [← hQ] at hps hm1 hfs HM1
                    rw [← hU] at hm3 HM1 HM2 ⊢
                    rw [← hf] at hfs hle ⊢
                    have d1 : (k2 : Int) < (n : Int) := by omega
                    have d2 : (0 : Int) ≤ (k2 : Int) := by omega
                    have hb3 : 0 ≤ P ∧ P ≤ 9007199254740992 ∧ 0 ≤ y ∧ y ≤ 9007199254740992 ∧ 0 ≤ U ∧ U ≤ 9007199254740992 := by
                      have hy0 := getD_pos hpos2 k2 (by omega)
                      rw [← hy] at hy0
                      omega
                    have hb31 := hb3.1; have hb32 := hb3.2.1; have hb33 := hb3.2.2.1; have hb34 := hb3.2.2.2.1; have hb35 := hb3.2.2.2.2.1; have hb36 := hb3.2.2.2.2.2
                    have HQ : Hid (P + y = pre xs (k2 + 1)) := Lib.hid (by rw [← hQ, hps])
                    have HQE : Hid (Q = P + y) := Lib.hid hps
                    have HFS := Lib.hid hfs
                    clear hP hy hQ hU hf hps hm1 hm2 hm3 hfs hb3 hpos2 hall2
                    by_cases ht : (k2 : Int) < iT
                    · have hup : P = U := (HM1.out ht).2.symm
                      have HSUM : Hid (P + y = pre xs (min (k2 + 1) iT.toNat)) := Lib.hid (by rw [(HM1.out ht).1]; exact HQE.out.symm)
                      subst hup
                      clear HM1 HM2
                      by_cases hp : iS < P + y
                      · have bp : decide (iS < P + y) = true := decide_eq_true hp
                        by_cases hf : f = n
                        · have bf : ((f : Int) == (n : Int)) = true := by simp; omega
                          have HF : Hid (fndA xs iS n (k2 + 1) = k2) := Lib.hid (by rw [HFS.out, if_pos ⟨hf, by rw [HQE.out]; exact hp⟩])
                          clear hf
                          go_wp2
                          go_round
                          case rel => exact ⟨k2 + 1, by go_num, by omega, by rw [HSUM.out], by rw [HF.out], by rw [HQ.out]⟩
                          case measure => simp [intOf]; omega
                        · have bf : ((f : Int) == (n : Int)) = false := by simp; omega
                          have HF : Hid (fndA xs iS n (k2 + 1) = f) := Lib.hid (by rw [HFS.out, if_neg (fun e => hf e.1)])
                          clear hf
                          go_wp2
                          go_round
                          case rel => exact ⟨k2 + 1, by go_num, by omega, by rw [HSUM.out], by rw [HF.out], by rw [HQ.out]⟩
                          case measure => simp [intOf]; omega
                      · have bp : decide (iS < P + y) = false := decide_eq_false hp
                        have HF : Hid (fndA xs iS n (k2 + 1) = f) := Lib.hid (by rw [HFS.out, if_neg (fun e => hp (by rw [← HQE.out]; exact e.2))])
                        go_wp2
                        go_round
                        case rel => exact ⟨k2 + 1, by go_num, by omega, by rw [HSUM.out], by rw [HF.out], by rw [HQ.out]⟩
                        case measure => simp [intOf]; omega
                    · have HSUM : Hid (U = pre xs (min (k2 + 1) iT.toNat)) := Lib.hid (by rw [HM2.out ht])
                      clear HM1 HM2
                      by_cases hp : iS < P + y
                      · have bp : decide (iS < P + y) = true := decide_eq_true hp
                        by_cases hf : f = n
                        · have bf : ((f : Int) == (n : Int)) = true := by simp; omega
                          have HF : Hid (fndA xs iS n (k2 + 1) = k2) := Lib.hid (by rw [HFS.out, if_pos ⟨hf, by rw [HQE.out]; exact hp⟩])
                          clear hf
                          go_wp2
                          go_round
                          case rel => exact ⟨k2 + 1, by go_num, by omega, by rw [HSUM.out], by rw [HF.out], by rw [HQ.out]⟩
                          case measure => simp [intOf]; omega
                        · have bf : ((f : Int) == (n : Int)) = false := by simp; omega
                          have HF : Hid (fndA xs iS n (k2 + 1) = f) := Lib.hid (by rw [HFS.out, if_neg (fun e => hf e.1)])
                          clear hf
                          go_wp2
                          go_round
                          case rel => exact ⟨k2 + 1, by go_num, by omega, by rw [HSUM.out], by rw [HF.out], by rw [HQ.out]⟩
                          case measure => simp [intOf]; omega
                      · have bp : decide (iS < P + y) = false := decide_eq_false hp
                        have HF : Hid (fndA xs iS n (k2 + 1) = f) := Lib.hid (by rw [HFS.out, if_neg (fun e => hp (by rw [← HQE.out]; exact e.2))])
                        go_wp2
                        go_round
                        case rel => exact ⟨k2 + 1, by go_num, by omega, by rw [HSUM.out], by rw [HF.out], by rw [HQ.out]⟩
                        case measure => simp [intOf]; omega
                  · obtain rfl : k2 = n := by omega
                    have d1 : ¬ (k2 : Int) < (k2 : Int) := by omega
                    have t0 := (HD4.out.2 0 _ rfl).1; have t1 := (HD4.out.2 1 _ rfl).1
                    clear hpos2 hall2 hk2 hkn
                    go_wp2_with fail
                    have T := add_any p gl gs xs s i iB W4 HR4.out
                    rw [HW.out, HN.out] at T
                    refine T.mono ?_
                    clear T
                    rintro e w5 ⟨rfl, ⟨s5, hr5⟩, hk5⟩
                    have hd5 := HD4.out.kp hk5 (fun e => by have := HDN.out; omega)
                    have t2 := (hd5.2 2 _ rfl).1
                    have HR5 := Lib.hid hr5; have HD5 := Lib.hid hd5
                    have HX5 := Lib.hid (HX4.out.kp hk5 (fun e => by have := HLT.out; omega))
                    have HB5 := Lib.hid (HB4.out.trans (hk5.below (B := w.heap.size) HB4.out.size (fun j hj => by have := HLT.out; omega)))
                    clear hr5 hk5 hd5 t0 t1 d1
                    go_wp2_with fail
                    have T := sum_any p gl gs xs s5 iT w5 HR5.out
                    rw [show clampN iT xs.length = min k2 iT.toNat by unfold clampN; rw [HX2L.out, Nat.min_comm]] at T
                    refine T.mono ?_
                    clear T
                    rintro e w6 ⟨rfl, hb6⟩
                    have hd6 := HD5.out.keep hb6
                    have t3 := (hd6.2 3 _ rfl).1
                    have HR6 := Lib.hid (HR5.out.keep hb6); have HX6 := Lib.hid (HX5.out.keep hb6); have HB6 := Lib.hid (below_step HB5.out (Nat.le_refl _) hb6)
                    clear hb6 hd6 t2
                    obtain ⟨V, hV⟩ : ∃ V, V = pre xs (min k2 iT.toNat) := ⟨_, rfl⟩
                    rw [← hV]
                    have bV : (V != V) = false := by simp
                    clear hV
                    go_wp2_with fail
                    have T := find_any p gl gs xs s5 iS w6 HR6.out
                    rw [HX2L.out] at T
                    refine T.mono ?_
                    clear T
                    rintro e w7 ⟨rfl, rfl⟩
                    obtain ⟨f, hf⟩ : ∃ f, f = fndA xs iS k2 k2 := ⟨_, rfl⟩
                    rw [← hf]
                    have bf : ((f : Int) != (f : Int)) = false := by simp
                    clear hf
                    go_wp2
                    go_roundw
                    case rel => exact ⟨k + 1, xs, s5, by go_num, by omega, HX2L.out, rfl, HR6.out, HX6.out, HB6.out⟩
                    case measure => simp [intOf]; omega
            · have e2 : decide (1099511627776 < iB) = false := decide_eq_false q2
              have u1 : IntKind.i64.wrap (x + iB) = x + iB := IntWalk.i64_in _ (by omega)
              have u2 : IntKind.i64.wrap (A + iB) = A + iB := IntWalk.i64_in _ (by omega)
              by_cases q3 : x + iB < 0
              · have e3 : decide (x + iB < 0) = true := decide_eq_true q3
                as_aux_lemma =>
                  go_wp2
                  go_quiet (fail)
                  go_wp2
                  rw [← HDE.out]
                  obtain ⟨W4, hW4⟩ : ∃ W4, W4 = (wr.alloc (.cells #[.int .i64 (i : Int), .int .i64 iB, .int .i64 iT, .int .i64 iS] 30)).drewN nq := ⟨_, rfl⟩
                  rw [← hW4, HAE.out]
                  have HD4 : Hid (Bk D [.int .i64 (i : Int), .int .i64 iB, .int .i64 iT, .int .i64 iS] W4) := Lib.hid (by rw [hW4]; exact HD3.out)
                  have HR4 : Hid (Rk p gl gs xs s W4) := Lib.hid (by rw [hW4]; exact HR3.out.keep (below_drewN' (Below.refl _ _) nq))
                  have HX4 : Hid (Bk gx (ints xs) W4) := Lib.hid (by rw [hW4]; exact HX3.out)
                  have HB4 : Hid (Below w.heap.size w W4) := Lib.hid (by rw [hW4]; exact below_drewN' HB3.out nq)
                  clear hW4 c0 c1 c2 c3 cX HD3 HR3 HX3 HB3 e1 e2 e3
                  have HX2L : Hid (xs.length = n) := HXL
                  have HPOS2 : Hid (∀ y ∈ xs, 0 ≤ y) := Lib.hid HR.out.pos
                  have HALL2 : Hid (pre xs xs.length ≤ 9007199254740992) := Lib.hid HR.out.all
                  have hpos2 : ∀ y ∈ xs, 0 ≤ y := HPOS2.out
                  have hall2 := HALL2.out
                  have hxsl := HX2L.out
                  go_loop [12, 13, 14, 15] (fun sm at_ ps ix => ∃ k2 : Nat, ix = .int .i64 k2 ∧ k2 ≤ n ∧ sm = .int .i64 (pre xs (min k2 iT.toNat)) ∧ at_ = .int .i64 (fndA xs iS n k2 : Nat) ∧ ps = .int .i64 (pre xs k2)) (fun _ _ _ ix => n - (intOf ix).toNat)
                  case atStart => exact ⟨0, rfl, by omega, by rw [Nat.zero_min]; rfl, rfl, rfl⟩
                  case round =>
                    obtain ⟨k2, rfl, hk2, rfl, rfl, rfl⟩ := hrel
                    by_cases hkn : k2 < n
                    · have hps := pre_succ xs k2 (by omega)
                      have hm1 := pre_mono hpos2 xs.length (k2 + 1) (by omega) (Nat.le_refl _)
                      have hm2 := pre_mono hpos2 xs.length k2 (by omega) (Nat.le_refl _)
                      have hm3 := pre_mono hpos2 xs.length (min k2 iT.toNat) (by omega) (Nat.le_refl _)
                      have cx := (HX4.out.2 k2 _ (ints_get xs k2 (by omega))).1
                      have t1 := (HD4.out.2 2 _ rfl).1; have t2 := (HD4.out.2 3 _ rfl).1
                      have hfs : fndA xs iS n (k2 + 1) = if fndA xs iS n k2 = n ∧ iS < pre xs (k2 + 1) then k2 else fndA xs iS n k2 := rfl
                      have hle := fndA_le xs iS n k2 hk2
                      have HM1 : Hid ((k2 : Int) < iT → pre xs (min (k2 + 1) iT.toNat) = pre xs (k2 + 1) ∧ pre xs (min k2 iT.toNat) = pre xs k2) := Lib.hid (fun h => ⟨by rw [Nat.min_eq_left (by omega)], by rw [Nat.min_eq_left (by omega)]⟩)
                      have HM2 : Hid (¬ (k2 : Int) < iT → pre xs (min (k2 + 1) iT.toNat) = pre xs (min k2 iT.toNat)) := Lib.hid (fun h => by rw [Nat.min_eq_right (by omega), Nat.min_eq_right (by omega)])
                      obtain ⟨P, hP⟩ : ∃ P, P = pre xs k2 := ⟨_, rfl⟩
                      obtain ⟨y, hy⟩ : ∃ y, y = xs.getD k2 0 := ⟨_, rfl⟩
                      obtain ⟨Q, hQ⟩ : ∃ Q, Q = pre xs (k2 + 1) := ⟨_, rfl⟩
                      obtain ⟨U, hU⟩ : ∃ U, U = pre xs (min k2 iT.toNat) := ⟨_, rfl⟩
                      obtain ⟨f, hf⟩ : ∃ f, f = fndA xs iS n k2 := ⟨_, rfl⟩
                      rw [← hP] at hps hm2 HM1 ⊢
                      rw [← hy] at hps cx
                      rw [← hQ] at hps hm1 hfs HM1
                      rw [← hU] at hm3 HM1 HM2 ⊢
                      rw [← hf] at hfs hle ⊢
                      have d1 : (k2 : Int) < (n : Int) := by omega
                      have d2 : (0 : Int) ≤ (k2 : Int) := by omega
                      have hb3 : 0 ≤ P ∧ P ≤ 9007199254740992 ∧ 0 ≤ y ∧ y ≤ 9007199254740992 ∧ 0 ≤ U ∧ U ≤ 9007199254740992 := by
                        have hy0 := getD_pos hpos2 k2 (by omega)
                        rw [← hy] at hy0
                        omega
                      have hb31 := hb3.1; have hb32 := hb3.2.1; have hb33 := hb3.2.2.1; have hb34 := hb3.2.2.2.1; have hb35 := hb3.2.2.2.2.1; have hb36 := hb3.2.2.2.2.2
                      have HQ : Hid (P + y = pre xs (k2 + 1)) := Lib.hid (by rw [← hQ, hps])
                      have HQE : Hid (Q = P + y) := Lib.hid hps
                      have HFS := Lib.hid hfs
                      clear hP hy hQ hU hf hps hm1 hm2 hm3 hfs hb3 hpos2 hall2
                      by_cases ht : (k2 : Int) < iT
                      · have hup : P = U := (HM1.out ht).2.symm
                        have HSUM : Hid (P + y = pre xs (min (k2 + 1) iT.toNat)) := Lib.hid (by rw [(HM1.out ht).1]; exact HQE.out.symm)
                        subst hup
                        clear HM1 HM2
                        by_cases hp : iS < P + y
                        · have bp : decide (iS < P + y) = true := decide_eq_true hp
                          by_cases hf : f = n
                          · have bf : ((f : Int) == (n : Int)) = true := by simp; omega
                            have HF : Hid (fndA xs iS n (k2 + 1) = k2) := Lib.hid (by rw [HFS.out, if_pos ⟨hf, by rw [HQE.out]; exact hp⟩])
                            clear hf
                            go_wp2
                            go_round
                            case rel => exact ⟨k2 + 1, by go_num, by omega, by rw [HSUM.out], by rw [HF.out], by rw [HQ.out]⟩
                            case measure => simp [intOf]; omega
                          · have bf : ((f : Int) == (n : Int)) = false := by simp; omega
                            have HF : Hid (fndA xs iS n (k2 + 1) = f) := Lib.hid (by rw [HFS.out, if_neg (fun e => hf e.1)])
                            clear hf
                            go_wp2
                            go_round
                            case rel => exact ⟨k2 + 1, by go_num, by omega, by rw [HSUM.out], by rw [HF.out], by rw [HQ.out]⟩
                            case measure => simp [intOf]; omega
                        · have bp : decide (iS < P + y) = false := decide_eq_false hp
                          have HF : Hid (fndA xs iS n (k2 + 1) = f) := Lib.hid (by rw [HFS.out, if_neg (fun e => hp (by rw [← HQE.out]; exact e.2))])
                          go_wp2
                          go_round
                          case rel => exact ⟨k2 + 1, by go_num, by omega, by rw [HSUM.out], by rw [HF.out], by rw [HQ.out]⟩
                          case measure => simp [intOf]; omega
                      · have HSUM : Hid (U = pre xs (min (k2 + 1) iT.toNat)) := Lib.hid (by rw [HM2.out ht])
                        clear HM1 HM2
                        by_cases hp : iS < P + y
                        · have bp : decide (iS < P + y) = true := decide_eq_true hp
                          by_cases hf : f = n
                          · have bf : ((f : Int) == (n : Int)) = true := by simp; omega
                            have HF : Hid (fndA xs iS n (k2 + 1) = k2) := Lib.hid (by rw [HFS.out, if_pos ⟨hf, by rw [HQE.out]; exact hp⟩])
                            clear hf
                            go_wp2
                            go_round
                            case rel => exact ⟨k2 + 1, by go_num, by omega, by rw [HSUM.out], by rw [HF.out], by rw [HQ.out]⟩
                            case measure => simp [intOf]; omega
                          · have bf : ((f : Int) == (n : Int)) = false := by simp; omega
                            have HF : Hid (fndA xs iS n (k2 + 1) = f) := Lib.hid (by rw [HFS.out, if_neg (fun e => hf e.1)])
                            clear hf
                            go_wp2
                            go_round
                            case rel => exact ⟨k2 + 1, by go_num, by omega, by rw [HSUM.out], by rw [HF.out], by rw [HQ.out]⟩
                            case measure => simp [intOf]; omega
                        · have bp : decide (iS < P + y) = false := decide_eq_false hp
                          have HF : Hid (fndA xs iS n (k2 + 1) = f) := Lib.hid (by rw [HFS.out, if_neg (fun e => hp (by rw [← HQE.out]; exact e.2))])
                          go_wp2
                          go_round
                          case rel => exact ⟨k2 + 1, by go_num, by omega, by rw [HSUM.out], by rw [HF.out], by rw [HQ.out]⟩
                          case measure => simp [intOf]; omega
                    · obtain rfl : k2 = n := by omega
                      have d1 : ¬ (k2 : Int) < (k2 : Int) := by omega
                      have t0 := (HD4.out.2 0 _ rfl).1; have t1 := (HD4.out.2 1 _ rfl).1
                      clear hpos2 hall2 hk2 hkn
                      go_wp2_with fail
                      have T := add_any p gl gs xs s i iB W4 HR4.out
                      rw [HW.out, HN.out] at T
                      refine T.mono ?_
                      clear T
                      rintro e w5 ⟨rfl, ⟨s5, hr5⟩, hk5⟩
                      have hd5 := HD4.out.kp hk5 (fun e => by have := HDN.out; omega)
                      have t2 := (hd5.2 2 _ rfl).1
                      have HR5 := Lib.hid hr5; have HD5 := Lib.hid hd5
                      have HX5 := Lib.hid (HX4.out.kp hk5 (fun e => by have := HLT.out; omega))
                      have HB5 := Lib.hid (HB4.out.trans (hk5.below (B := w.heap.size) HB4.out.size (fun j hj => by have := HLT.out; omega)))
                      clear hr5 hk5 hd5 t0 t1 d1
                      go_wp2_with fail
                      have T := sum_any p gl gs xs s5 iT w5 HR5.out
                      rw [show clampN iT xs.length = min k2 iT.toNat by unfold clampN; rw [HX2L.out, Nat.min_comm]] at T
                      refine T.mono ?_
                      clear T
                      rintro e w6 ⟨rfl, hb6⟩
                      have hd6 := HD5.out.keep hb6
                      have t3 := (hd6.2 3 _ rfl).1
                      have HR6 := Lib.hid (HR5.out.keep hb6); have HX6 := Lib.hid (HX5.out.keep hb6); have HB6 := Lib.hid (below_step HB5.out (Nat.le_refl _) hb6)
                      clear hb6 hd6 t2
                      obtain ⟨V, hV⟩ : ∃ V, V = pre xs (min k2 iT.toNat) := ⟨_, rfl⟩
                      rw [← hV]
                      have bV : (V != V) = false := by simp
                      clear hV
                      go_wp2_with fail
                      have T := find_any p gl gs xs s5 iS w6 HR6.out
                      rw [HX2L.out] at T
                      refine T.mono ?_
                      clear T
                      rintro e w7 ⟨rfl, rfl⟩
                      obtain ⟨f, hf⟩ : ∃ f, f = fndA xs iS k2 k2 := ⟨_, rfl⟩
                      rw [← hf]
                      have bf : ((f : Int) != (f : Int)) = false := by simp
                      clear hf
                      go_wp2
                      go_roundw
                      case rel => exact ⟨k + 1, xs, s5, by go_num, by omega, HX2L.out, rfl, HR6.out, HX6.out, HB6.out⟩
                      case measure => simp [intOf]; omega
              · have e3 : decide (x + iB < 0) = false := decide_eq_false q3
                have q4 : 9007199254740992 < A + iB := by have := HH.out; omega
                have e4 : decide (9007199254740992 < A + iB) = true := decide_eq_true q4
                as_aux_lemma =>
                  go_wp2
                  go_quiet (fail)
                  go_wp2
                  rw [← HDE.out]
                  obtain ⟨W4, hW4⟩ : ∃ W4, W4 = (wr.alloc (.cells #[.int .i64 (i : Int), .int .i64 iB, .int .i64 iT, .int .i64 iS] 30)).drewN nq := ⟨_, rfl⟩
                  rw [← hW4, HAE.out]
                  have HD4 : Hid (Bk D [.int .i64 (i : Int), .int .i64 iB, .int .i64 iT, .int .i64 iS] W4) := Lib.hid (by rw [hW4]; exact HD3.out)
                  have HR4 : Hid (Rk p gl gs xs s W4) := Lib.hid (by rw [hW4]; exact HR3.out.keep (below_drewN' (Below.refl _ _) nq))
                  have HX4 : Hid (Bk gx (ints xs) W4) := Lib.hid (by rw [hW4]; exact HX3.out)
                  have HB4 : Hid (Below w.heap.size w W4) := Lib.hid (by rw [hW4]; exact below_drewN' HB3.out nq)
                  clear hW4 c0 c1 c2 c3 cX HD3 HR3 HX3 HB3 e1 e2 e3
                  have HX2L : Hid (xs.length = n) := HXL
                  have HPOS2 : Hid (∀ y ∈ xs, 0 ≤ y) := Lib.hid HR.out.pos
                  have HALL2 : Hid (pre xs xs.length ≤ 9007199254740992) := Lib.hid HR.out.all
                  have hpos2 : ∀ y ∈ xs, 0 ≤ y := HPOS2.out
                  have hall2 := HALL2.out
                  have hxsl := HX2L.out
                  go_loop [12, 13, 14, 15] (fun sm at_ ps ix => ∃ k2 : Nat, ix = .int .i64 k2 ∧ k2 ≤ n ∧ sm = .int .i64 (pre xs (min k2 iT.toNat)) ∧ at_ = .int .i64 (fndA xs iS n k2 : Nat) ∧ ps = .int .i64 (pre xs k2)) (fun _ _ _ ix => n - (intOf ix).toNat)
                  case atStart => exact ⟨0, rfl, by omega, by rw [Nat.zero_min]; rfl, rfl, rfl⟩
                  case round =>
                    obtain ⟨k2, rfl, hk2, rfl, rfl, rfl⟩ := hrel
                    by_cases hkn : k2 < n
                    · have hps := pre_succ xs k2 (by omega)
                      have hm1 := pre_mono hpos2 xs.length (k2 + 1) (by omega) (Nat.le_refl _)
                      have hm2 := pre_mono hpos2 xs.length k2 (by omega) (Nat.le_refl _)
                      have hm3 := pre_mono hpos2 xs.length (min k2 iT.toNat) (by omega) (Nat.le_refl _)
                      have cx := (HX4.out.2 k2 _ (ints_get xs k2 (by omega))).1
                      have t1 := (HD4.out.2 2 _ rfl).1; have t2 := (HD4.out.2 3 _ rfl).1
                      have hfs : fndA xs iS n (k2 + 1) = if fndA xs iS n k2 = n ∧ iS < pre xs (k2 + 1) then k2 else fndA xs iS n k2 := rfl
                      have hle := fndA_le xs iS n k2 hk2
                      have HM1 : Hid ((k2 : Int) < iT → pre xs (min (k2 + 1) iT.toNat) = pre xs (k2 + 1) ∧ pre xs (min k2 iT.toNat) = pre xs k2) := Lib.hid (fun h => ⟨by rw [Nat.min_eq_left (by omega)], by rw [Nat.min_eq_left (by omega)]⟩)
                      have HM2 : Hid (¬ (k2 : Int) < iT → pre xs (min (k2 + 1) iT.toNat) = pre xs (min k2 iT.toNat)) := Lib.hid (fun h => by rw [Nat.min_eq_right (by omega), Nat.min_eq_right (by omega)])
                      obtain ⟨P, hP⟩ : ∃ P, P = pre xs k2 := ⟨_, rfl⟩
                      obtain ⟨y, hy⟩ : ∃ y, y = xs.getD k2 0 := ⟨_, rfl⟩
                      obtain ⟨Q, hQ⟩ : ∃ Q, Q = pre xs (k2 + 1) := ⟨_, rfl⟩
                      obtain ⟨U, hU⟩ : ∃ U, U = pre xs (min k2 iT.toNat) := ⟨_, rfl⟩
                      obtain ⟨f, hf⟩ : ∃ f, f = fndA xs iS n k2 := ⟨_, rfl⟩
                      rw [← hP] at hps hm2 HM1 ⊢
                      rw [← hy] at hps cx
                      rw [← hQ] at hps hm1 hfs HM1
                      rw [← hU] at hm3 HM1 HM2 ⊢
                      rw [← hf] at hfs hle ⊢
                      have d1 : (k2 : Int) < (n : Int) := by omega
                      have d2 : (0 : Int) ≤ (k2 : Int) := by omega
                      have hb3 : 0 ≤ P ∧ P ≤ 9007199254740992 ∧ 0 ≤ y ∧ y ≤ 9007199254740992 ∧ 0 ≤ U ∧ U ≤ 9007199254740992 := by
                        have hy0 := getD_pos hpos2 k2 (by omega)
                        rw [← hy] at hy0
                        omega
                      have hb31 := hb3.1; have hb32 := hb3.2.1; have hb33 := hb3.2.2.1; have hb34 := hb3.2.2.2.1; have hb35 := hb3.2.2.2.2.1; have hb36 := hb3.2.2.2.2.2
                      have HQ : Hid (P + y = pre xs (k2 + 1)) := Lib.hid (by rw [← hQ, hps])
                      have HQE : Hid (Q = P + y) := Lib.hid hps
                      have HFS := Lib.hid hfs
                      clear hP hy hQ hU hf hps hm1 hm2 hm3 hfs hb3 hpos2 hall2
                      by_cases ht : (k2 : Int) < iT
                      · have hup : P = U := (HM1.out ht).2.symm
                        have HSUM : Hid (P + y = pre xs (min (k2 + 1) iT.toNat)) := Lib.hid (by rw [(HM1.out ht).1]; exact HQE.out.symm)
                        subst hup
                        clear HM1 HM2
                        by_cases hp : iS < P + y
                        · have bp : decide (iS < P + y) = true := decide_eq_true hp
                          by_cases hf : f = n
                          · have bf : ((f : Int) == (n : Int)) = true := by simp; omega
                            have HF : Hid (fndA xs iS n (k2 + 1) = k2) := Lib.hid (by rw [HFS.out, if_pos ⟨hf, by rw [HQE.out]; exact hp⟩])
                            clear hf
                            go_wp2
                            go_round
                            case rel => exact ⟨k2 + 1, by go_num, by omega, by rw [HSUM.out], by rw [HF.out], by rw [HQ.out]⟩
                            case measure => simp [intOf]; omega
                          · have bf : ((f : Int) == (n : Int)) = false := by simp; omega
                            have HF : Hid (fndA xs iS n (k2 + 1) = f) := Lib.hid (by rw [HFS.out, if_neg (fun e => hf e.1)])
                            clear hf
                            go_wp2
                            go_round
                            case rel => exact ⟨k2 + 1, by go_num, by omega, by rw [HSUM.out], by rw [HF.out], by rw [HQ.out]⟩
                            case measure => simp [intOf]; omega
                        · have bp : decide (iS < P + y) = false := decide_eq_false hp
                          have HF : Hid (fndA xs iS n (k2 + 1) = f) := Lib.hid (by rw [HFS.out, if_neg (fun e => hp (by rw [← HQE.out]; exact e.2))])
                          go_wp2
                          go_round
                          case rel => exact ⟨k2 + 1, by go_num, by omega, by rw [HSUM.out], by rw [HF.out], by rw [HQ.out]⟩
                          case measure => simp [intOf]; omega
                      · have HSUM : Hid (U = pre xs (min (k2 + 1) iT.toNat)) := Lib.hid (by rw [HM2.out ht])
                        clear HM1 HM2
                        by_cases hp : iS < P + y
                        · have bp : decide (iS < P + y) = true := decide_eq_true hp
                          by_cases hf : f = n
                          · have bf : ((f : Int) == (n : Int)) = true := by simp; omega
                            have HF : Hid (fndA xs iS n (k2 + 1) = k2) := Lib.hid (by rw [HFS.out, if_pos ⟨hf, by rw [HQE.out]; exact hp⟩])
                            clear hf
                            go_wp2
                            go_round
                            case rel => exact ⟨k2 + 1, by go_num, by omega, by rw [HSUM.out], by rw [HF.out], by rw [HQ.out]⟩
                            case measure => simp [intOf]; omega
                          · have bf : ((f : Int) == (n : Int)) = false := by simp; omega
                            have HF : Hid (fndA xs iS n (k2 + 1) = f) := Lib.hid (by rw [HFS.out, if_neg (fun e => hf e.1)])
                            clear hf
                            go_wp2
                            go_round
                            case rel => exact ⟨k2 + 1, by go_num, by omega, by rw [HSUM.out], by rw [HF.out], by rw [HQ.out]⟩
                            case measure => simp [intOf]; omega
                        · have bp : decide (iS < P + y) = false := decide_eq_false hp
                          have HF : Hid (fndA xs iS n (k2 + 1) = f) := Lib.hid (by rw [HFS.out, if_neg (fun e => hp (by rw [← HQE.out]; exact e.2))])
                          go_wp2
                          go_round
                          case rel => exact ⟨k2 + 1, by go_num, by omega, by rw [HSUM.out], by rw [HF.out], by rw [HQ.out]⟩
                          case measure => simp [intOf]; omega
                    · obtain rfl : k2 = n := by omega
                      have d1 : ¬ (k2 : Int) < (k2 : Int) := by omega
                      have t0 := (HD4.out.2 0 _ rfl).1; have t1 := (HD4.out.2 1 _ rfl).1
                      clear hpos2 hall2 hk2 hkn
                      go_wp2_with fail
                      have T := add_any p gl gs xs s i iB W4 HR4.out
                      rw [HW.out, HN.out] at T
                      refine T.mono ?_
                      clear T
                      rintro e w5 ⟨rfl, ⟨s5, hr5⟩, hk5⟩
                      have hd5 := HD4.out.kp hk5 (fun e => by have := HDN.out; omega)
                      have t2 := (hd5.2 2 _ rfl).1
                      have HR5 := Lib.hid hr5; have HD5 := Lib.hid hd5
                      have HX5 := Lib.hid (HX4.out.kp hk5 (fun e => by have := HLT.out; omega))
                      have HB5 := Lib.hid (HB4.out.trans (hk5.below (B := w.heap.size) HB4.out.size (fun j hj => by have := HLT.out; omega)))
                      clear hr5 hk5 hd5 t0 t1 d1
                      go_wp2_with fail
                      have T := sum_any p gl gs xs s5 iT w5 HR5.out
                      rw [show clampN iT xs.length = min k2 iT.toNat by unfold clampN; rw [HX2L.out, Nat.min_comm]] at T
                      refine T.mono ?_
                      clear T
                      rintro e w6 ⟨rfl, hb6⟩
                      have hd6 := HD5.out.keep hb6
                      have t3 := (hd6.2 3 _ rfl).1
                      have HR6 := Lib.hid (HR5.out.keep hb6); have HX6 := Lib.hid (HX5.out.keep hb6); have HB6 := Lib.hid (below_step HB5.out (Nat.le_refl _) hb6)
                      clear hb6 hd6 t2
                      obtain ⟨V, hV⟩ : ∃ V, V = pre xs (min k2 iT.toNat) := ⟨_, rfl⟩
                      rw [← hV]
                      have bV : (V != V) = false := by simp
                      clear hV
                      go_wp2_with fail
                      have T := find_any p gl gs xs s5 iS w6 HR6.out
                      rw [HX2L.out] at T
                      refine T.mono ?_
                      clear T
                      rintro e w7 ⟨rfl, rfl⟩
                      obtain ⟨f, hf⟩ : ∃ f, f = fndA xs iS k2 k2 := ⟨_, rfl⟩
                      rw [← hf]
                      have bf : ((f : Int) != (f : Int)) = false := by simp
                      clear hf
                      go_wp2
                      go_roundw
                      case rel => exact ⟨k + 1, xs, s5, by go_num, by omega, HX2L.out, rfl, HR6.out, HX6.out, HB6.out⟩
                      case measure => simp [intOf]; omega
        · have HW : Hid (wantR xs i iB = 0) := Lib.hid (by unfold wantR; rw [HXL.out, if_neg (by omega), Int.toNat_natCast, if_neg hbf])
          have HN : Hid (newL xs i iB = xs.set i (xs.getD i 0 + iB)) := Lib.hid (by unfold newL; rw [HXL.out, if_neg (by omega), Int.toNat_natCast, if_neg hbf])
          unfold badF at hbf
          rw [HXL.out] at hbf
          obtain ⟨x2, hx2e⟩ : ∃ x2, x2 = xs.set i (xs.getD i 0 + iB) := ⟨_, rfl⟩
          rw [← hx2e] at HN HSET HPS
          have HX2L : Hid (x2.length = n) := Lib.hid (by rw [hx2e, List.length_set]; exact HXL.out)
          have HPX : Hid (∀ y ∈ x2, 0 ≤ y) := Lib.hid (by
            rw [hx2e]; intro y hy
            rcases List.mem_or_eq_of_mem_set hy with hy | hy
            · exact HR.out.pos y hy
            · rw [hy]; omega)
          have HAX : Hid (pre xs n + iB ≤ 9007199254740992) := Lib.hid (by omega)
          have HIL : Hid (i < (ints xs).length) := Lib.hid (by rw [ints_len, HXL.out]; exact hin)
          have fX := (HX.out.2 i _ (ints_get xs i (by rw [HXL.out]; exact hin))).2
          obtain ⟨x, hx⟩ : ∃ x, x = xs.getD i 0 := ⟨_, rfl⟩
          obtain ⟨A, hA⟩ : ∃ A, A = pre xs n := ⟨_, rfl⟩
          rw [← hx] at cX hbf hx1 hx0 HSET
          rw [← hA] at hbf hpn hpa hx2 HPS HAX
          rw [← hA]
          have hxa : x ≤ 9007199254740992 := by omega
          have HXE := Lib.hid hx
          have HGX : Hid (gx ≠ p ∧ gx ≠ gl ∧ gx ≠ gs ∧ gx ≠ D) := Lib.hid (by have := HLT.out; have := HDN.out; omega)
          have e1 : decide (iB < -1099511627776) = false := decide_eq_false (by omega)
          have e2 : decide (1099511627776 < iB) = false := decide_eq_false (by omega)
          have e3 : decide (x + iB < 0) = false := decide_eq_false (by omega)
          have e4 : decide (9007199254740992 < A + iB) = false := decide_eq_false (by omega)
          have u1 : IntKind.i64.wrap (x + iB) = x + iB := IntWalk.i64_in _ (by omega)
          have u2 : IntKind.i64.wrap (A + iB) = A + iB := IntWalk.i64_in _ (by omega)
          have q9 : -9223372036854775808 ≤ A + iB ∧ A + iB ≤ 9223372036854775807 := by omega
          have q8 := q9.1; have q7 := q9.2
          clear hx hA hx1 hx2 hx3 hbf hr1 hx2e q9
          as_aux_lemma =>
            go_wp2
            go_quiet (fail)
            rw [← HDE.out]
            obtain ⟨W3, hW3⟩ : ∃ W3, W3 = (wr.alloc (.cells #[.int .i64 (i : Int), .int .i64 iB, .int .i64 iT, .int .i64 iS] 30)).drewN nq := ⟨_, rfl⟩
            rw [← hW3]
            have HD4 : Hid (Bk D [.int .i64 (i : Int), .int .i64 iB, .int .i64 iT, .int .i64 iS] W3) := Lib.hid (by rw [hW3]; exact HD3.out)
            have HR4 : Hid (Rk p gl gs xs s W3) := Lib.hid (by rw [hW3]; exact HR3.out.keep (below_drewN' (Below.refl _ _) nq))
            have HX4 : Hid (Bk gx (ints xs) W3) := Lib.hid (by rw [hW3]; exact HX3.out)
            have HB4 : Hid (Below w.heap.size w W3) := Lib.hid (by rw [hW3]; exact below_drewN' HB3.out nq)
            clear hW3 c0 c1 c2 c3 cX fX HD3 HR3 HX3 HB3 e1 e2 e3 e4
            have t0 := (HD4.out.2 0 _ rfl).1; have t1 := (HD4.out.2 1 _ rfl).1
            have cX := (HX4.out.2 i _ (ints_get xs i (by rw [HXL.out]; exact hin))).1
            have fX := (HX4.out.2 i _ (ints_get xs i (by rw [HXL.out]; exact hin))).2
            rw [← HXE.out] at cX
            have nD : ¬ D = gx := fun e => HGX.out.2.2.2 e.symm
            go_wp2
            refine wp_region_still_tail 12 (by kernel_rfl) (by kernel_rfl) ?_
            simp only [List.take_succ_cons, List.take_zero, List.drop_succ_cons, List.drop_zero]
            change wpStill _ _ (W3.drew) _ _ _
            repeat still_step
            refine wpStill_nil ?_
            change wpList _ _ _ _ _ (W3.drew)
            go_wp2
            obtain ⟨W4, hW4⟩ : ∃ W4, W4 = (W3.setCell ⟨gx, i, none⟩ (.int .i64 (x + iB))).drew := ⟨_, rfl⟩
            rw [← hW4]
            have HX4' : Hid (Bk gx (ints x2) W4) := Lib.hid (by rw [hW4, ← HSET.out]; exact (HX4.out.set i HIL.out _).drew)
            have HKK : Hid (Kp (· = gx) W3 W4) := Lib.hid (by rw [hW4]; exact ((Kp.refl (· = gx) W3).set gx i _ rfl).drew)
            have HD4' := Lib.hid (HD4.out.kp HKK.out nD)
            have HR4' : Hid (Rk p gl gs xs s W4) := Lib.hid ⟨HR4.out.tree.kp HKK.out (fun e => HGX.out.1 e.symm), HR4.out.nums.kp HKK.out (fun e => HGX.out.2.1 e.symm), HR4.out.rows.kp HKK.out (fun e => HGX.out.2.2.1 e.symm), HR4.out.fen, HR4.out.ne1, HR4.out.ne2, HR4.out.ne3, HR4.out.pos, HR4.out.all, HR4.out.len1, HR4.out.len2⟩
            have HB4' : Hid (Below w.heap.size w W4) := Lib.hid (HB4.out.trans (HKK.out.below (B := w.heap.size) HB4.out.size (fun j hj => by have := HLT.out; omega)))
            have HPOS2 : Hid (∀ y ∈ x2, 0 ≤ y) := HPX
            have HALL2 : Hid (pre x2 x2.length ≤ 9007199254740992) := Lib.hid (by rw [HX2L.out, HPS.out]; exact HAX.out)
            rw [← HPS.out]
            clear hW4 HX4 HD4 HR4 HB4 t0 t1 cX fX u1 u2
            have HX4 := HX4'; have HD4 := HD4'; have HR4 := HR4'; have HB4 := HB4'
            clear HX4' HD4' HR4' HB4'
            have hpos2 : ∀ y ∈ x2, 0 ≤ y := HPOS2.out
            have hall2 := HALL2.out
            have hx2l := HX2L.out
            go_loop [12, 13, 14, 15] (fun sm at_ ps ix => ∃ k2 : Nat, ix = .int .i64 k2 ∧ k2 ≤ n ∧ sm = .int .i64 (pre x2 (min k2 iT.toNat)) ∧ at_ = .int .i64 (fndA x2 iS n k2 : Nat) ∧ ps = .int .i64 (pre x2 k2)) (fun _ _ _ ix => n - (intOf ix).toNat)
            case atStart => exact ⟨0, rfl, by omega, by rw [Nat.zero_min]; rfl, rfl, rfl⟩
            case round =>
              obtain ⟨k2, rfl, hk2, rfl, rfl, rfl⟩ := hrel
              by_cases hkn : k2 < n
              · have hps := pre_succ x2 k2 (by omega)
                have hm1 := pre_mono hpos2 x2.length (k2 + 1) (by omega) (Nat.le_refl _)
                have hm2 := pre_mono hpos2 x2.length k2 (by omega) (Nat.le_refl _)
                have hm3 := pre_mono hpos2 x2.length (min k2 iT.toNat) (by omega) (Nat.le_refl _)
                have cx := (HX4.out.2 k2 _ (ints_get x2 k2 (by omega))).1
                have t1 := (HD4.out.2 2 _ rfl).1; have t2 := (HD4.out.2 3 _ rfl).1
                have hfs : fndA x2 iS n (k2 + 1) = if fndA x2 iS n k2 = n ∧ iS < pre x2 (k2 + 1) then k2 else fndA x2 iS n k2 := rfl
                have hle := fndA_le x2 iS n k2 hk2
                have HM1 : Hid ((k2 : Int) < iT → pre x2 (min (k2 + 1) iT.toNat) = pre x2 (k2 + 1) ∧ pre x2 (min k2 iT.toNat) = pre x2 k2) := Lib.hid (fun h => ⟨by rw [Nat.min_eq_left (by omega)], by rw [Nat.min_eq_left (by omega)]⟩)
                have HM2 : Hid (¬ (k2 : Int) < iT → pre x2 (min (k2 + 1) iT.toNat) = pre x2 (min k2 iT.toNat)) := Lib.hid (fun h => by rw [Nat.min_eq_right (by omega), Nat.min_eq_right (by omega)])
                obtain ⟨P, hP⟩ : ∃ P, P = pre x2 k2 := ⟨_, rfl⟩
                obtain ⟨y, hy⟩ : ∃ y, y = x2.getD k2 0 := ⟨_, rfl⟩
                obtain ⟨Q, hQ⟩ : ∃ Q, Q = pre x2 (k2 + 1) := ⟨_, rfl⟩
                obtain ⟨U, hU⟩ : ∃ U, U = pre x2 (min k2 iT.toNat) := ⟨_, rfl⟩
                obtain ⟨f, hf⟩ : ∃ f, f = fndA x2 iS n k2 := ⟨_, rfl⟩
                rw [← hP] at hps hm2 HM1 ⊢
                rw [← hy] at hps cx
                rw [← hQ] at hps hm1 hfs HM1
                rw [← hU] at hm3 HM1 HM2 ⊢
                rw [← hf] at hfs hle ⊢
                have d1 : (k2 : Int) < (n : Int) := by omega
                have d2 : (0 : Int) ≤ (k2 : Int) := by omega
                have hb3 : 0 ≤ P ∧ P ≤ 9007199254740992 ∧ 0 ≤ y ∧ y ≤ 9007199254740992 ∧ 0 ≤ U ∧ U ≤ 9007199254740992 := by
                  have hy0 := getD_pos hpos2 k2 (by omega)
                  rw [← hy] at hy0
                  omega
                have hb31 := hb3.1; have hb32 := hb3.2.1; have hb33 := hb3.2.2.1; have hb34 := hb3.2.2.2.1; have hb35 := hb3.2.2.2.2.1; have hb36 := hb3.2.2.2.2.2
                have HQ : Hid (P + y = pre x2 (k2 + 1)) := Lib.hid (by rw [← hQ, hps])
                have HQE : Hid (Q = P + y) := Lib.hid hps
                have HFS := Lib.hid hfs
                clear hP hy hQ hU hf hps hm1 hm2 hm3 hfs hb3 hpos2 hall2
                by_cases ht : (k2 : Int) < iT
                · have hup : P = U := (HM1.out ht).2.symm
                  have HSUM : Hid (P + y = pre x2 (min (k2 + 1) iT.toNat)) := Lib.hid (by rw [(HM1.out ht).1]; exact HQE.out.symm)
                  subst hup
                  clear HM1 HM2
                  by_cases hp : iS < P + y
                  · have bp : decide (iS < P + y) = true := decide_eq_true hp
                    by_cases hf : f = n
                    · have bf : ((f : Int) == (n : Int)) = true := by simp; omega
                      have HF : Hid (fndA x2 iS n (k2 + 1) = k2) := Lib.hid (by rw [HFS.out, if_pos ⟨hf, by rw [HQE.out]; exact hp⟩])
                      clear hf
                      go_wp2
                      go_round
                      case rel => exact ⟨k2 + 1, by go_num, by omega, by rw [HSUM.out], by rw [HF.out], by rw [HQ.out]⟩
                      case measure => simp [intOf]; omega
                    · have bf : ((f : Int) == (n : Int)) = false := by simp; omega
                      have HF : Hid (fndA x2 iS n (k2 + 1) = f) := Lib.hid (by rw [HFS.out, if_neg (fun e => hf e.1)])
                      clear hf
                      go_wp2
                      go_round
                      case rel => exact ⟨k2 + 1, by go_num, by omega, by rw [HSUM.out], by rw [HF.out], by rw [HQ.out]⟩
                      case measure => simp [intOf]; omega
                  · have bp : decide (iS < P + y) = false := decide_eq_false hp
                    have HF : Hid (fndA x2 iS n (k2 + 1) = f) := Lib.hid (by rw [HFS.out, if_neg (fun e => hp (by rw [← HQE.out]; exact e.2))])
                    go_wp2
                    go_round
                    case rel => exact ⟨k2 + 1, by go_num, by omega, by rw [HSUM.out], by rw [HF.out], by rw [HQ.out]⟩
                    case measure => simp [intOf]; omega
                · have HSUM : Hid (U = pre x2 (min (k2 + 1) iT.toNat)) := Lib.hid (by rw [HM2.out ht])
                  clear HM1 HM2
                  by_cases hp : iS < P + y
                  · have bp : decide (iS < P + y) = true := decide_eq_true hp
                    by_cases hf : f = n
                    · have bf : ((f : Int) == (n : Int)) = true := by simp; omega
                      have HF : Hid (fndA x2 iS n (k2 + 1) = k2) := Lib.hid (by rw [HFS.out, if_pos ⟨hf, by rw [HQE.out]; exact hp⟩])
                      clear hf
                      go_wp2
                      go_round
                      case rel => exact ⟨k2 + 1, by go_num, by omega, by rw [HSUM.out], by rw [HF.out], by rw [HQ.out]⟩
                      case measure => simp [intOf]; omega
                    · have bf : ((f : Int) == (n : Int)) = false := by simp; omega
                      have HF : Hid (fndA x2 iS n (k2 + 1) = f) := Lib.hid (by rw [HFS.out, if_neg (fun e => hf e.1)])
                      clear hf
                      go_wp2
                      go_round
                      case rel => exact ⟨k2 + 1, by go_num, by omega, by rw [HSUM.out], by rw [HF.out], by rw [HQ.out]⟩
                      case measure => simp [intOf]; omega
                  · have bp : decide (iS < P + y) = false := decide_eq_false hp
                    have HF : Hid (fndA x2 iS n (k2 + 1) = f) := Lib.hid (by rw [HFS.out, if_neg (fun e => hp (by rw [← HQE.out]; exact e.2))])
                    go_wp2
                    go_round
                    case rel => exact ⟨k2 + 1, by go_num, by omega, by rw [HSUM.out], by rw [HF.out], by rw [HQ.out]⟩
                    case measure => simp [intOf]; omega
              · obtain rfl : k2 = n := by omega
                have d1 : ¬ (k2 : Int) < (k2 : Int) := by omega
                have t0 := (HD4.out.2 0 _ rfl).1; have t1 := (HD4.out.2 1 _ rfl).1
                clear hpos2 hall2 hk2 hkn
                go_wp2_with fail
                have T := add_any p gl gs xs s i iB W4 HR4.out
                rw [HW.out, HN.out] at T
                refine T.mono ?_
                clear T
                rintro e w5 ⟨rfl, ⟨s5, hr5⟩, hk5⟩
                have hd5 := HD4.out.kp hk5 (fun e => by have := HDN.out; omega)
                have t2 := (hd5.2 2 _ rfl).1
                have HR5 := Lib.hid hr5; have HD5 := Lib.hid hd5
                have HX5 := Lib.hid (HX4.out.kp hk5 (fun e => by have := HLT.out; omega))
                have HB5 := Lib.hid (HB4.out.trans (hk5.below (B := w.heap.size) HB4.out.size (fun j hj => by have := HLT.out; omega)))
                clear hr5 hk5 hd5 t0 t1 d1
                go_wp2_with fail
                have T := sum_any p gl gs x2 s5 iT w5 HR5.out
                rw [show clampN iT x2.length = min k2 iT.toNat by unfold clampN; rw [HX2L.out, Nat.min_comm]] at T
                refine T.mono ?_
                clear T
                rintro e w6 ⟨rfl, hb6⟩
                have hd6 := HD5.out.keep hb6
                have t3 := (hd6.2 3 _ rfl).1
                have HR6 := Lib.hid (HR5.out.keep hb6); have HX6 := Lib.hid (HX5.out.keep hb6); have HB6 := Lib.hid (below_step HB5.out (Nat.le_refl _) hb6)
                clear hb6 hd6 t2
                obtain ⟨V, hV⟩ : ∃ V, V = pre x2 (min k2 iT.toNat) := ⟨_, rfl⟩
                rw [← hV]
                have bV : (V != V) = false := by simp
                clear hV
                go_wp2_with fail
                have T := find_any p gl gs x2 s5 iS w6 HR6.out
                rw [HX2L.out] at T
                refine T.mono ?_
                clear T
                rintro e w7 ⟨rfl, rfl⟩
                obtain ⟨f, hf⟩ : ∃ f, f = fndA x2 iS k2 k2 := ⟨_, rfl⟩
                rw [← hf]
                have bf : ((f : Int) != (f : Int)) = false := by simp
                clear hf
                go_wp2
                go_roundw
                case rel => exact ⟨k + 1, x2, s5, by go_num, by omega, HX2L.out, rfl, HR6.out, HX6.out, HB6.out⟩
                case measure => simp [intOf]; omega
    · obtain rfl : k = l.length := by omega
      have d1 : ¬ (l.length : Int) < (l.length : Int) := by omega
      go_wp2_with fail
      refine (awake_any _).mono ?_
      rintro e w6 ⟨rfl, hb⟩
      have HBY := Lib.hid (below_step HB.out (Nat.le_refl _) hb)
      clear hb
      go_wp2
      go_ret
      exact ⟨rfl, HBY.out⟩
def DeedsOk (w : World) (v : Value) : Prop := ∃ (l : List Deed) (a : Option Addr) (cap : Nat), v = .slice a l.length cap ∧ Sl encD 4 w a l ∧ ∀ d ∈ l, -9223372036854775808 ≤ d.2.1 ∧ d.2.1 ≤ 9223372036854775807
theorem open_deeds {H : Type} {enc : TypeId × Value → H} {w : World} {base base0 : Nat} {spare : Bool} {held : TypeId → Bool} {r : Reach} {v : Value} {d : DataW H} {p : List MemPlace}
    (hv : Value.okWide Try.prog w r base0 22 v) (h : DataW.Trod enc Try.prog w base held spare 22 v d p) : ∃ x : Unit, DeedsOk w v := by
  obtain ⟨xs, ⟨a, cap, rfl, _, hs⟩, _, hg⟩ := open_sl encD (fun d => -9223372036854775808 ≤ d.2.1 ∧ d.2.1 ≤ 9223372036854775807) 4 Try.underlying22 (by kernel_rfl) (by omega) (fun _ => rfl) (fun n cs y hy => by
    obtain ⟨i, b, t, s, rfl, hb⟩ := deed_of hy
    exact ⟨(i, b, t, s), rfl, hb⟩) hv h
  exact ⟨(), xs, a, cap, rfl, hs, hg⟩
theorem plays_law (n : Int) (v : Value) (_x : Unit) (w : World) (w0 : (Lit.int .i64 n).wf = true) (h : DeedsOk w v) : Calls Try.prog 3 #[.int .i64 n, v] w fun e w' => e = .returned (.bool true) ∧ Below w.heap.size w w' := by
  obtain ⟨l, a, cap, rfl, hs, hi⟩ := h
  by_cases hl : l.length ≤ 50
  · by_cases hm : n < 1 ∨ 4096 < n
    · exact bad_walk n a l.length cap w hl hm
    · obtain ⟨m, rfl⟩ : ∃ m : Nat, n = m := ⟨n.toNat, by omega⟩
      exact plays_walk m a l cap w hl (by omega) (by omega) hs hi
  · exact long_walk n a l.length cap w (by omega)
end Go.Proofs.Ytknlfifompmhoaa

