/-
  The contract of Order.
-/
import Derived.Test.YtddonekagmnokaaF
import Derived.WalkMore
set_option linter.unusedVariables false
set_option linter.unusedSimpArgs false
namespace Go.Proofs.Ytddonekagmnokaa
open Go.RowKit
theorem info_partsS {t : TypeInfo} (h : Try.prog.info? 9 = some t) (h1 : t.zero = some (.string ByteArray.empty) ∧ t.size = 1 ∧ t.bytes = 16) : ∃ i0, Try.prog.info? 9 = some i0 ∧ i0.zero = some (.string ByteArray.empty) ∧ i0.size = 1 ∧ i0.bytes = 16 := ⟨t, h, h1⟩
theorem infoS : ∃ i0, Try.prog.info? 9 = some i0 ∧ i0.zero = some (.string ByteArray.empty) ∧ i0.size = 1 ∧ i0.bytes = 16 := ⟨_, rfl, rfl, rfl, rfl⟩
def lenV (v : Value) : Nat := match v with
  | .slice _ n _ => n
  | _ => 0
theorem own_shape {w : World} {B : Nat} {e : TypeId} {size : Nat} {v : Value} {n : Nat} {xs : List Value} (h : w.ownsRow B e size v n xs) : ∃ a cap, v = .slice a n cap := by
  obtain ⟨_, ⟨rfl, rfl⟩ | ⟨g, cap, cur, rfl, _⟩⟩ := h
  · exact ⟨none, 0, rfl⟩
  · exact ⟨_, cap, rfl⟩
def LeftOf (n : Nat) (d : List Nat) (lf : List Int) : Prop := ∀ x, x ∈ lf ↔ ∃ i : Nat, i < n ∧ i ∉ d ∧ (i : Int) = x
def OrdE (l : List ByteArray) (E : List (Int × Int)) (w w' : World) (e : Ending) : Prop :=
  (¬ okN l.length E → e = .returned (.tuple #[.slice none 0 0, .int .i64 2])) ∧
  (okN l.length E → ((ordL E l.length).length < l.length → e = .returned (.tuple #[.slice none 0 0, .int .i64 11])) ∧
    ((ordL E l.length).length = l.length → ∃ a c, e = .returned (.tuple #[.slice a (ordL E l.length).length c, .int .i64 0]) ∧ Sl strC 1 w' a (outD l (ordL E l.length))))
set_option maxHeartbeats 16000000 in
theorem order_bad (l : List ByteArray) (a ea : Option Addr) (c ec : Nat) (E : List (Int × Int)) (w : World) (hl : l.length ≤ 256) (hE : E.length ≤ 4096) (hs : Sl pairC 2 w ea E) (hb : ¬ okN l.length E) :
    Calls Try.prog 6 #[.slice a l.length c, .slice ea E.length ec] w fun e w' => OrdE l E w w' e ∧ Below w.heap.size w w' := by
  have T0 := check_any (l.length : Int) E ea ec w (by omega) hE hs
  obtain ⟨L, hL⟩ : ∃ L, L = E.length := ⟨_, rfl⟩
  obtain ⟨n, hn⟩ : ∃ n, n = l.length := ⟨_, rfl⟩
  have HN := Lib.hid hn
  rw [← hL, ← hn] at T0
  rw [← hn] at hb hl
  rw [← hL] at hE
  rw [← hL, ← hn]
  have T := Lib.hid T0
  have HBad := Lib.hid hb
  clear hL hs hb T0 hn
  go_enter Try.func6, Try.ntmps6
  go_wp2
  go_step3
  go_wp2_with fail
  refine T.out.mono ?_
  rintro e w1 ⟨hc, hb⟩
  obtain rfl := hc.2 HBad.out
  have HB := Lib.hid hb
  clear hc hb
  go_wp2
  (try rw [Exit.noGoto_ret])
  go_ret2
  have hb := HBad.out
  refine ⟨⟨fun _ => rfl, fun h => ?_⟩, HB.out⟩
  rw [← HN.out] at h
  exact absurd h hb
theorem left_start {n : Nat} {lf : List Int} (h : ∀ x, x ∈ lf ↔ ∃ i : Nat, i < n ∧ (i : Int) = x) : LeftOf n [] lf := fun x => by
  rw [h x]
  constructor
  · rintro ⟨i, h1, h2⟩; exact ⟨i, h1, by simp, h2⟩
  · rintro ⟨i, h1, _, h2⟩; exact ⟨i, h1, h2⟩
theorem left_mem {n : Nat} {d : List Nat} {lf : List Int} (h : LeftOf n d lf) {k : Nat} (hk : k < n) : ((k : Int) ∈ lf) ↔ k ∉ d := by
  rw [h k]
  constructor
  · rintro ⟨i, _, h2, e⟩
    have : i = k := by omega
    exact this ▸ h2
  · intro h; exact ⟨k, hk, h, rfl⟩
theorem left_snoc {n : Nat} {d : List Nat} {lf : List Int} (h : LeftOf n d lf) (hn : lf.Nodup) (k : Nat) : LeftOf n (d ++ [k]) (delK lf (k : Int)) := fun x => by
  rw [mem_delK hn, h x]
  constructor
  · rintro ⟨h0, i, h1, h2, rfl⟩
    exact ⟨i, h1, by simp only [List.mem_append, List.mem_singleton, not_or]; exact ⟨h2, fun e => h0 (by rw [e])⟩, rfl⟩
  · rintro ⟨i, h1, h2, rfl⟩
    simp only [List.mem_append, List.mem_singleton, not_or] at h2
    exact ⟨fun e => h2.2 (by omega), i, h1, h2.1, rfl⟩
/-- A place is free: in the words of the maps. -/
theorem free_of {E : List (Int × Int)} {d : List Nat} {ks : List Int} {k : Nat} (hks : ∀ k, k ∈ ks ↔ ∃ x, (k, x) ∈ E) : isFree E d k = true ↔ k ∉ d ∧ ((k : Int) ∈ ks → ∀ y, ¬ SO E d k y) := by
  rw [isFree_iff]
  constructor
  · rintro ⟨h1, h2⟩
    refine ⟨h1, fun _ y hy => ?_⟩
    have := h2 y hy.1
    rw [hy.2] at this; cases this
  · rintro ⟨h1, h2⟩
    refine ⟨h1, fun x hx => ?_⟩
    have h3 := h2 ((hks _).2 ⟨x, hx⟩) x
    cases e : inD d x with
    | true => rfl
    | false => exact absurd ⟨hx, e⟩ h3
theorem sl_start (E : List (Int × Int)) (d : List Nat) (i : Int) (ks : List Int) : ∀ k ∈ ks, ∀ x, SO E d k x ↔ SL E d i ks k x := fun k hk x => ⟨fun h => ⟨h, fun _ => hk⟩, fun h => h.1⟩
theorem sl_end (E : List (Int × Int)) (d : List Nat) (i : Nat) (ks : List Int) : ∀ k ∈ ks, ∀ x, SL E d i [] k x ↔ SO E (d ++ [i]) k x := fun k _ x => by
  unfold SL SO
  constructor
  · rintro ⟨⟨h1, h2⟩, h3⟩
    refine ⟨h1, ?_⟩
    rw [Bool.eq_false_iff]
    intro h
    rcases (inD_snoc d i x).1 h with h4 | h4
    · rw [h2] at h4; cases h4
    · have := h3 h4; cases this
  · rintro ⟨h1, h2⟩
    rw [Bool.eq_false_iff] at h2
    refine ⟨⟨h1, ?_⟩, fun e => absurd ((inD_snoc d i x).2 (Or.inr e)) h2⟩
    rw [Bool.eq_false_iff]
    exact fun h => h2 ((inD_snoc d i x).2 (Or.inl h))
theorem sl_step {E : List (Int × Int)} {d : List Nat} {i : Int} {left : List Int} (hn : left.Nodup) {k : Int} (hk : k ∈ left) (z : Int) : SL E d i (delK left k) k z ↔ z ≠ i ∧ SL E d i left k z := by
  unfold SL
  constructor
  · rintro ⟨h1, h2⟩
    refine ⟨fun e => ?_, h1, fun _ => hk⟩
    exact ((mem_delK hn _ _).1 (h2 e)).1 rfl
  · rintro ⟨h0, h1, _⟩
    exact ⟨h1, fun e => absurd e h0⟩
theorem sl_other {E : List (Int × Int)} {d : List Nat} {i : Int} {left : List Int} (hn : left.Nodup) {k j : Int} (hj : j ≠ k) (z : Int) : SL E d i left j z ↔ SL E d i (delK left k) j z := by
  unfold SL
  rw [mem_delK hn]
  simp [hj]
set_option maxRecDepth 100000 in
set_option maxHeartbeats 16000000 in
theorem order_ok (l : List ByteArray) (a ea : Option Addr) (c ec : Nat) (E : List (Int × Int)) (w : World) (hl : l.length ≤ 256) (hE : E.length ≤ 4096) (hls : Sl strC 1 w a l) (hs : Sl pairC 2 w ea E) (hg : ∀ p ∈ E, goodI p.1 ∧ goodI p.2) (hok : okN l.length E) :
    Calls Try.prog 6 #[.slice a l.length c, .slice ea E.length ec] w fun e w' => OrdE l E w w' e ∧ Below w.heap.size w w' := by
  obtain ⟨i0, hi0, hz0, hz1, hz2⟩ := infoS
  have T0 := check_any (l.length : Int) E ea ec w (by omega) hE hs
  have TN := Lib.hid (fun W (hb : Below w.heap.size w W) => needs_any E ea ec W hE (hs.keep hb) hg)
  obtain ⟨L, hL⟩ : ∃ L, L = E.length := ⟨_, rfl⟩
  obtain ⟨n, hn⟩ : ∃ n, n = l.length := ⟨_, rfl⟩
  have HN := Lib.hid hn; have HL := Lib.hid hL
  rw [← hL, ← hn] at T0
  rw [← hL] at TN hE
  rw [← hn] at hok hl
  rw [← hL, ← hn]
  have T := Lib.hid T0
  have HOK := Lib.hid hok
  have HLS := Lib.hid hls
  obtain ⟨m, hm⟩ : ∃ m, m = w.heap.size := ⟨_, rfl⟩
  have HM := Lib.hid hm
  clear hL hs T0 hn hok hg hls hm
  have hmm := @run_makeMap Try.prog
  go_enter Try.func6, Try.ntmps6
  go_wp2
  go_step3
  go_wp2_with fail
  refine T.out.mono ?_
  rintro e w1 ⟨hc, hb⟩
  obtain rfl := hc.1 HOK.out
  have HB := Lib.hid hb
  clear hc hb
  go_wp2_with fail
  refine (TN.out w1 HB.out).mono ?_
  rintro e w2 ⟨rfl, ⟨ks, g, hmmm, hks, hkl⟩, hb⟩
  have HB2 := Lib.hid (below_cons HB.out hb)
  have hmB : m ≤ w1.heap.size := by rw [HM.out]; exact HB.out.size
  have hB8 : w1.heap.size < w2.heap.size := hmmm.hm.lt
  have HMM := Lib.hid (hmmm.lower hmB)
  have HKS := Lib.hid hks
  obtain ⟨B, hBe⟩ : ∃ B, B = w1.heap.size := ⟨_, rfl⟩
  rw [← hBe] at HMM hB8 hmB ⊢
  clear hmmm hks hb T TN HB hBe
  have HS0 := Lib.hid (St.made w2)
  have HM0 := Lib.hid (HMM.out.keep (below_new w2 (.map #[] 0)))
  have HB0 := Lib.hid (below_cons HB2.out (below_new w2 (.map #[] 0)))
  have HIN : Hid (∀ k ∈ ks, g k ≠ some w2.heap.size) := Lib.hid (fun k hk e => by have := (HMM.out.lt_inner hk e).1; omega)
  have hb8 : m ≤ w2.heap.size := by omega
  go_wp2
  obtain ⟨b8, hb8e⟩ : ∃ b, b = w2.heap.size := ⟨_, rfl⟩
  rw [← hb8e] at HS0 HIN hb8 hB8 ⊢
  clear hb8e
  go_loopw [26] (fun i wr => ∃ (k : Nat) (lf : List Int), i = .int .i64 k ∧ k ≤ n ∧ St wr b8 lf ∧ lf.length ≤ k ∧ (∀ x, x ∈ lf ↔ ∃ i : Nat, i < k ∧ (i : Int) = x) ∧ MM wr m B ks g (fun k x => (k, x) ∈ E) ∧ Below w.heap.size w wr) (fun i _ => n - (intOf i).toNat)
  case atStart => exact ⟨0, [], rfl, by omega, HS0.out, by simp, fun x => by simp, HM0.out, HB0.out⟩
  case round =>
    obtain ⟨k, lf, rfl, hk, hst, hlf, hlx, hmw, hbw⟩ := hrel
    have HST := Lib.hid hst; have HLX := Lib.hid hlx; have HMW := Lib.hid hmw; have HBW := Lib.hid hbw
    clear hst hlx hmw hbw
    by_cases hlt : k < n
    · have gi : (k : Int) < (n : Int) := by omega
      obtain ⟨w4, hu, hs4, hk4, hz4⟩ := HST.out.put (by simp only [maxLen]; omega) (goodI_of (x := (k : Int)) (by omega) (by omega))
      have HS4 := Lib.hid hs4
      have HM4 := Lib.hid (HMW.out.kp2 hk4 (fun e => by omega) (fun j hj b e e2 => HIN.out j hj (by rw [e, e2])))
      have HB4 := Lib.hid (HBW.out.trans (hk4.below HBW.out.size (fun j e => by rw [← HM.out]; omega)))
      clear hs4 hk4 hz4
      go_wp2
      go_roundw
      case rel =>
        refine ⟨k + 1, _, by go_num, by omega, HS4.out, by rw [addK_len]; split <;> omega, fun x => ?_, HM4.out, HB4.out⟩
        rw [mem_addK, HLX.out x]
        constructor
        · rintro (⟨i, h1, h2⟩ | rfl)
          · exact ⟨i, by omega, h2⟩
          · exact ⟨k, by omega, rfl⟩
        · rintro ⟨i, h1, h2⟩
          by_cases e : i = k
          · exact Or.inr (by rw [← h2, e])
          · exact Or.inl ⟨i, by omega, h2⟩
      case measure => simp [intOf]; omega
    · obtain rfl : n = k := by omega
      have hkk : ¬ (n : Int) < (n : Int) := by omega
      have HOS : Hid (OS wr m B b8 ks g (SO E []) lf (.slice none 0 0) (outD l [])) := Lib.hid
        ⟨HMW.out.congr (fun j _ x => ⟨fun h => ⟨h, rfl⟩, fun h => h.1⟩), HST.out, by omega, hb8, HIN.out, own_nil _ _ _ _⟩
      have HLF := Lib.hid (left_start HLX.out)
      have HBW0 := Lib.hid HBW.out
      clear HS0 HM0 HB0 HMM HB2 hlf
      go_wp2
      go_step3
      go_wp2
      clear hkk
      go_loopw [10] (fun v wr => ∃ (d : List Nat) (lf : List Int), Run E n d ∧ OS wr m B b8 ks g (SO E d) lf v (outD l d) ∧ LeftOf n d lf ∧ Below w.heap.size w wr) (fun v _ => n - lenV v)
      case atStart => exact ⟨[], lf, Run.start E n, HOS.out, HLF.out, HBW0.out⟩
      case round =>
        obtain ⟨d, lf, hrun, hos, hlf, hbw⟩ := hrel
        clear HOS HLF HBW0 HST HLX HMW HBW
        have hll := left_len hrun.1 hos.st.nodup hlf
        have hlen := hos.st.len
        obtain ⟨av, cv, rfl⟩ := own_shape hos.row
        rw [outD_len] at hos ⊢
        have HRN := Lib.hid hrun; have HO := Lib.hid hos; have HLF := Lib.hid hlf; have HBW := Lib.hid hbw
        have hdo : (outD l d).length = d.length := outD_len l d
        clear hrun hos hlf hbw
        by_cases hd : d.length < n
        · have hd1 : decide ((0 : Int) < (lf.length : Int)) = true := decide_eq_true (by omega)
          have hd2 : decide (0 < lf.length) = true := decide_eq_true (by omega)
          clear hll
          go_wp2
          clear hlen hd1 hd2
          go_loopw [10, 37] (fun v i wr2 => v = .slice av d.length cv ∧ ∃ k : Nat, i = .int .i64 k ∧ k ≤ n ∧ (∀ j < k, isFree E d j = false) ∧ wr2 = wr) (fun _ i _ => n - (intOf i).toNat)
          case atStart => exact ⟨rfl, 0, rfl, by omega, by omega, rfl⟩
          case round =>
            obtain ⟨rfl, k, rfl, hk, hfr, rfl⟩ := hrel
            have HFR := Lib.hid hfr
            clear hfr
            by_cases hlt : k < n
            · have gi : (k : Int) < (n : Int) := by omega
              have hgk : goodI (k : Int) := goodI_of (by omega) (by omega)
              have hleft := HO.out.st.get hgk
              by_cases hkd : k ∈ d
              · rw [decide_eq_false (fun h => (left_mem HLF.out hlt).1 h hkd)] at hleft
                have HF2 : Hid (∀ j < k + 1, isFree E d j = false) := Lib.hid (fun j hj => by
                  by_cases e : j < k
                  · exact HFR.out j e
                  · obtain rfl : j = k := by omega
                    rw [Bool.eq_false_iff]
                    exact fun h => ((isFree_iff E d j).1 h).1 hkd)
                go_wp2
                go_roundw
                case rel => exact ⟨rfl, k + 1, by go_num, by omega, HF2.out, by trivial⟩
                case measure => simp [intOf]; omega
              · rw [decide_eq_true ((left_mem HLF.out hlt).2 hkd)] at hleft
                obtain ⟨hlook, q, hq, hq0⟩ := HO.out.needs hgk
                by_cases hz : q = 0
                · have hfree : isFree E d k = true := (free_of HKS.out).2 ⟨hkd, hq0.1 hz⟩
                  subst hz
                  obtain ⟨w5, hdel, hos5, hk5⟩ := HO.out.strike hgk 0
                  have HO5 := Lib.hid hos5
                  have HB5 : Hid (Below w.heap.size w w5) := Lib.hid (HBW.out.trans (hk5.below HBW.out.size (fun j e => by have := HO.out.lo8; rw [← HM.out]; omega)))
                  have HLF5 := Lib.hid (left_snoc HLF.out HO.out.st.nodup k)
                  have HRUN := Lib.hid (HRN.out.step hlt hfree HFR.out)
                  have HHM5 := Lib.hid hos5.mm.hm
                  clear hq0 hos5 hk5 hfree
                  go_wp2_with (at_range; refine wpList_range_h HHM5.out rfl _ _ rfl rfl rfl ?_; intro w6 hr6 hb6 hz6)
                  go_frame
                  have hlt5 := HO5.out.lt
                  obtain ⟨r, hre⟩ : ∃ r, r = w5.heap.size := ⟨_, rfl⟩
                  rw [← hre] at hr6 hlt5 ⊢
                  have HLT := Lib.hid hlt5
                  have HR6 := Lib.hid hr6
                  have HO6 := Lib.hid ((HO5.out.keep hb6).congr (sl_start E d (k : Int) ks))
                  have HB6 := Lib.hid (below_cons HB5.out hb6)
                  have hrw : w.heap.size ≤ r := by rw [hre]; exact HB5.out.size
                  clear hr6 hb6 hz6 hlt5 hdel hleft hlook hq hre
                  go_loopw [13] (fun _ wr => ∃ left : List Int, HR kM wr B r ks g left ∧ OS wr m B b8 ks g (SL E d (k : Int) left) (delK lf (k : Int)) (.slice av d.length cv) (outD l d) ∧ Below w.heap.size w wr) (fun _ wr => wr.rangeLeft B r)
                  case atStart => exact ⟨ks, HR6.out, HO6.out, HB6.out⟩
                  case round =>
                    obtain ⟨left, hrg, hos, hbw⟩ := hrel
                    have HRG := Lib.hid hrg; have HOW := Lib.hid hos; have HBQ := Lib.hid hbw
                    clear hrg hos hbw
                    go_wp2_with (at_next; refine wpList_next_h (Value.int .i64) (fun _ => rfl) Value.map (fun _ => rfl) HRG.out rfl _ rfl rfl ?_ ?_)
                    · intro hnil
                      subst hnil
                      have HOZ := Lib.hid (HOW.out.congr (sl_end E d k ks))
                      have hkl : k < l.length := by rw [← HN.out]; exact hlt
                      obtain ⟨b2, o2, rfl, hb2, hc2⟩ := HLS.out k hkl
                      have c0 : wr.cell? ⟨b2, o2 + k, none⟩ = some (.string l[k]) := by
                        have := (HBQ.out.cell (p := ⟨b2, o2 + k * 1 + 0, none⟩) hb2).trans (hc2 0 _ rfl)
                        rwa [Nat.mul_one, Nat.add_zero] at this
                      have HSN : Hid (outD l (d ++ [k]) = outD l d ++ [l[k]]) := Lib.hid (outD_snoc l d k hkl)
                      clear hc2
                      generalize l[k] = s at *
                      have hmw : m ≤ wr.heap.size := by rw [HM.out]; exact HBQ.out.size
                      have HOA := Lib.hid (HOZ.out.keep (below_new wr (.cells #[.string s] 9)))
                      have hol : (outD l d).length ≤ 256 := by have := HRN.out.1.len; rw [outD_len]; omega
                      go_wp2_with (at_builtin; refine wpList_append_own _ rfl _ _ 22 rfl m 9 i0 (.string ByteArray.empty) 1 16 Try.underlying22 hi0 hz0 hz1 hz2 rfl (by decide) _ _ _ rfl HOA.out.row ⟨wr.heap.size, 0, none⟩ 1 1 [.string s] rfl rfl ?a1 ?a2 ?a3 ?a4 ?a5 ?_)
                      case a1 => intro j u hj; exact new_cells _ _ _ j u hj
                      case a2 => intro u hu; simp at hu; rcases hu with rfl; rfl
                      case a3 => unfold maxLen; omega
                      case a4 => omega
                      case a5 => simp; omega
                      intro v5 w5 hown5 hg5 _
                      have HO5 : Hid (OS w5 m B b8 ks g (SO E (d ++ [k])) (delK lf (k : Int)) v5 (outD l (d ++ [k]))) := Lib.hid (HOA.out.push hg5 (by rw [HSN.out, List.length_append, List.flatMap_append, outD_len]; exact hown5))
                      have HB5 : Hid (Below w.heap.size w w5) := Lib.hid ((below_cons HBQ.out (below_new wr (.cells #[.string s] 9))).trans ((Kp.grown (S := fun i => m ≤ i) hg5 (fun q hq => (HOA.out.row.lt q hq).1)).below (by have := HBQ.out.size; simp; omega) (fun q hq => by rw [← HM.out]; exact hq)))
                      obtain ⟨a5, c5, rfl⟩ := own_shape HO5.out.row
                      clear hown5 hg5 c0 hol
                      go_wp2
                      go_roundw
                      case rel => exact ⟨d ++ [k], _, HRUN.out, HO5.out, HLF5.out, HB5.out⟩
                      case measure => simp [lenV, outD_len]; omega
                    · intro x w7 hxl hgx hr7 hlt7 hk7 hz7 hen
                      have hxk : x ∈ ks := HRG.out.left_mem x hxl
                      have hos7 := HOW.out.iter HLT.out hk7
                      obtain ⟨b, w8, hgb, hdel, hos8, hk8⟩ := hos7.turn hxk hgk (S' := SL E d (k : Int) (delK left x)) (fun z => sl_step HRG.out.left_nodup hxl z) (fun j hj hne z => sl_other HRG.out.left_nodup hne z) 0
                      rw [hgb] at hen ⊢
                      have hbr : b < r := HLT.out.2.2.1 x hxk b hgb
                      have hbB : b ≠ B := (hos7.mm.lt_inner hxk hgb).2.2
                      have hbm : m ≤ b := (hos7.mm.lt_inner hxk hgb).2.1
                      have H8 : Hid (HR kM w8 B r ks g (delK left x) ∧ w8.rangeLeft B r < wr.rangeLeft B r) := Lib.hid (by
                        obtain ⟨h1, h2⟩ := hr7.kp hk8 (fun e => hbB e.symm) (fun e => by omega)
                        exact ⟨h1, by rw [h2]; exact hlt7⟩)
                      have HO8 := Lib.hid hos8
                      have HB8 : Hid (Below w.heap.size w w8) := Lib.hid ((HBQ.out.trans (hk7.below HBQ.out.size (fun j e => by omega))).trans (hk8.below (by rw [hz7]; exact HBQ.out.size) (fun j e => by rw [← HM.out]; omega)))
                      clear hr7 hlt7 hk7 hz7 hos7 hos8 hk8
                      go_wp2
                      go_roundw
                      case rel => exact ⟨_, H8.out.1, HO8.out, HB8.out⟩
                      case measure => exact H8.out.2
                · have hnf : isFree E d k = false := by
                    rw [Bool.eq_false_iff]
                    exact fun h => hz (hq0.2 ((free_of HKS.out).1 h).2)
                  have HF2 : Hid (∀ j < k + 1, isFree E d j = false) := Lib.hid (fun j hj => by
                    by_cases e : j < k
                    · exact HFR.out j e
                    · obtain rfl : j = k := by omega
                      exact hnf)
                  have hq1 : (0 : Int) < (q : Int) := by omega
                  clear hq0 hnf
                  go_wp2
                  go_roundw
                  case rel => exact ⟨rfl, k + 1, by go_num, by omega, HF2.out, by trivial⟩
                  case measure => simp [intOf]; omega
            · obtain rfl : n = k := by omega
              have hst := HRN.out.stop HFR.out
              have HE : Hid (ordL E n = d) := Lib.hid hst
              have hkk : ¬ (n : Int) < (n : Int) := by omega
              clear hst
              go_wp2
              (try rw [Exit.noGoto_ret])
              go_ret2
              refine ⟨?_, HBW.out⟩
              have hok := HOK.out
              rw [HN.out] at hok hd
              have he := HE.out
              rw [HN.out] at he
              refine ⟨fun h => absurd hok h, fun _ => ⟨fun _ => rfl, fun h => ?_⟩⟩
              rw [he] at h
              omega
        · have hd0 : lf.length = 0 := by omega
          have hd1 : ¬ (0 : Int) < (lf.length : Int) := by omega
          have hde : d.length = n := by have := HRN.out.1.len; omega
          have HE : Hid (ordL E n = d) := Lib.hid (HRN.out.full hde)
          have hdn := hde
          clear hll
          go_wp2
          (try rw [Exit.noGoto_ret])
          go_ret2
          refine ⟨?_, HBW.out⟩
          have hok := HOK.out
          have he := HE.out
          rw [HN.out] at hok he hde
          refine ⟨fun h => absurd hok h, fun _ => ⟨fun h => ?_, fun h => ?_⟩⟩
          · rw [he] at h; omega
          · obtain ⟨a2, c2, e2, _, hsl⟩ := own_sl (enc := strC) (fun _ => rfl) (by decide) HO.out.row
            rw [he]
            simp only [Value.slice.injEq] at e2
            obtain ⟨rfl, _, rfl⟩ := e2
            exact ⟨av, cv, by rw [hdn]; rfl, hsl⟩
end Go.Proofs.Ytddonekagmnokaa

