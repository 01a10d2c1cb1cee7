/-
  The contract of Needs.
-/
import Derived.Test.YtddonekagmnokaaI
import Derived.Deep.LoopGhost
set_option linter.unusedVariables false
set_option linter.unusedSimpArgs false
namespace Go.Proofs.Ytddonekagmnokaa
open Go.RowKit
set_option maxHeartbeats 4000000 in
theorem check_long (n : Int) (a : Option Addr) (len cap : Nat) (w : World) (hn : 256 < n) :
    Calls Try.prog 11 #[.int .i64 n, .slice a len cap] w fun e w' => e = .returned (.int .i64 3) ∧ w = w' := by
  go_enter Try.func11, Try.ntmps11
  go_wp2
  go_ret
  exact ⟨rfl, rfl⟩
set_option maxHeartbeats 4000000 in
theorem needs_long (n i : Int) (a : Option Addr) (len cap : Nat) (w : World) (hn : 256 < n) :
    Calls Try.prog 10 #[.int .i64 n, .slice a len cap, .int .i64 i] w fun e w' => e = .returned (.tuple #[.slice none 0 0, .int .i64 3]) ∧ Below w.heap.size w w' := by
  go_enter Try.func10, Try.ntmps10
  go_wp2_with fail
  refine (check_long n a len cap w hn).mono ?_
  rintro e w1 ⟨rfl, rfl⟩
  go_wp2
  go_ret2
  exact ⟨rfl, Below.refl _ _⟩
def MayN (n i : Int) (E : List (Int × Int)) : Prop := 1 ≤ n ∧ 0 ≤ i ∧ i < n ∧ okN n E
set_option maxHeartbeats 4000000 in
theorem needs_bad (n i : Int) (ea : Option Addr) (ec : Nat) (E : List (Int × Int)) (w : World) (hn : n ≤ 256) (hE : E.length ≤ 4096) (hs : Sl pairC 2 w ea E) (hb : ¬ MayN n i E) :
    Calls Try.prog 10 #[.int .i64 n, .slice ea E.length ec, .int .i64 i] w fun e w' => e = .returned (.tuple #[.slice none 0 0, .int .i64 2]) ∧ Below w.heap.size w w' := by
  have T0 := check_any n E ea ec w hn hE hs
  obtain ⟨L, hL⟩ : ∃ L, L = E.length := ⟨_, rfl⟩
  rw [← hL] at T0 ⊢
  have T := Lib.hid T0
  clear hL hs T0 hE
  by_cases h1 : n < 1
  · have HX : Hid (∀ e, ChkE n E e → e = .returned (.int .i64 0) ∨ e = .returned (.int .i64 2)) := Lib.hid (fun e h => by
      by_cases hk : okN n E
      · exact Or.inl (h.1 hk)
      · exact Or.inr (h.2 hk))
    clear hb
    go_enter Try.func10, Try.ntmps10
    go_wp2_with fail
    refine T.out.mono ?_
    rintro e w1 ⟨hc, hb⟩
    have HB := Lib.hid hb
    have hx := HX.out e hc
    clear hc hb
    rcases hx with rfl | rfl
    · go_wp2
      go_ret2
      exact ⟨rfl, HB.out⟩
    · go_wp2
      go_ret2
      exact ⟨rfl, HB.out⟩
  by_cases h2 : i < 0
  · have HX : Hid (∀ e, ChkE n E e → e = .returned (.int .i64 0) ∨ e = .returned (.int .i64 2)) := Lib.hid (fun e h => by
      by_cases hk : okN n E
      · exact Or.inl (h.1 hk)
      · exact Or.inr (h.2 hk))
    clear hb
    go_enter Try.func10, Try.ntmps10
    go_wp2_with fail
    refine T.out.mono ?_
    rintro e w1 ⟨hc, hb⟩
    have HB := Lib.hid hb
    have hx := HX.out e hc
    clear hc hb
    rcases hx with rfl | rfl
    · go_wp2
      go_ret2
      exact ⟨rfl, HB.out⟩
    · go_wp2
      go_ret2
      exact ⟨rfl, HB.out⟩
  by_cases h3 : n ≤ i
  · have HX : Hid (∀ e, ChkE n E e → e = .returned (.int .i64 0) ∨ e = .returned (.int .i64 2)) := Lib.hid (fun e h => by
      by_cases hk : okN n E
      · exact Or.inl (h.1 hk)
      · exact Or.inr (h.2 hk))
    clear hb
    go_enter Try.func10, Try.ntmps10
    go_wp2_with fail
    refine T.out.mono ?_
    rintro e w1 ⟨hc, hb⟩
    have HB := Lib.hid hb
    have hx := HX.out e hc
    clear hc hb
    rcases hx with rfl | rfl
    · go_wp2
      go_ret2
      exact ⟨rfl, HB.out⟩
    · go_wp2
      go_ret2
      exact ⟨rfl, HB.out⟩
  have HX : Hid (∀ e, ChkE n E e → e = .returned (.int .i64 2)) := Lib.hid (fun e h => h.2 (fun hk => hb ⟨by omega, by omega, by omega, hk⟩))
  clear hb
  go_enter Try.func10, Try.ntmps10
  go_wp2_with fail
  refine T.out.mono ?_
  rintro e w1 ⟨hc, hb⟩
  have HB := Lib.hid hb
  obtain rfl := HX.out e hc
  clear hc hb
  go_wp2
  go_ret2
  exact ⟨rfl, HB.out⟩
def intC (x : Int) : List Value := [.int .i64 x]
def NeedE (l : List Int) (w' : World) (e : Ending) : Prop := ∃ a c, e = .returned (.tuple #[.slice a l.length c, .int .i64 0]) ∧ Sl intC 1 w' a l
theorem infoI : ∃ i0, Try.prog.info? 3 = some i0 ∧ i0.zero = some (.int .i64 0) ∧ i0.size = 1 ∧ i0.bytes = 8 := ⟨_, rfl, rfl, rfl, rfl⟩
set_option maxRecDepth 100000 in
set_option maxHeartbeats 16000000 in
theorem needs_ok (n : Nat) (i : Int) (ea : Option Addr) (ec : Nat) (E : List (Int × Int)) (w : World) (hn : n ≤ 256) (hE : E.length ≤ 4096) (hs : Sl pairC 2 w ea E) (hb : MayN n i E) :
    Calls Try.prog 10 #[.int .i64 n, .slice ea E.length ec, .int .i64 i] w fun e w' => NeedE (needL E i n) w' e ∧ Below w.heap.size w w' := by
  obtain ⟨i0, hi0, hz0, hz1, hz2⟩ := infoI
  obtain ⟨hb1, hb2, hb3, hok⟩ := hb
  have hg : ∀ p ∈ E, goodI p.1 ∧ goodI p.2 := fun p hp => by
    have := hok p hp
    unfold inN at this
    exact ⟨goodI_of (by omega) (by omega), goodI_of (by omega) (by omega)⟩
  have hgi : goodI i := goodI_of (by omega) (by omega)
  have T0 := check_any (n : Int) E ea ec w (by omega) hE hs
  have TN := Lib.hid (fun W (hb : Below w.heap.size w W) => needs_any E ea ec W hE (hs.keep hb) hg)
  have HG2 : Hid (∀ x y, (x, y) ∈ E → goodI y) := Lib.hid (fun x y h => (hg _ h).2)
  have HGI := Lib.hid hgi
  obtain ⟨L, hL⟩ : ∃ L, L = E.length := ⟨_, rfl⟩
  have HL := Lib.hid hL
  rw [← hL] at T0 TN hE
  rw [← hL]
  have T := Lib.hid T0
  have HOK := Lib.hid hok
  obtain ⟨m, hm⟩ : ∃ m, m = w.heap.size := ⟨_, rfl⟩
  have HM := Lib.hid hm
  clear hL hs T0 hok hg hm hgi
  have c1 : ¬ (n : Int) < 1 := by omega
  have c2 : ¬ i < 0 := by omega
  have c3 : ¬ (n : Int) ≤ i := by omega
  have hmm := @run_makeMap Try.prog
  go_enter Try.func10, Try.ntmps10
  go_wp2_with fail
  refine T.out.mono ?_
  rintro e w1 ⟨hc, hb⟩
  obtain rfl := hc.1 HOK.out
  have HB := Lib.hid hb
  clear hc hb
  go_wp2_with fail
  refine (TN.out w1 HB.out).mono ?_
  rintro e w2 ⟨rfl, ⟨ks, g, hmmm, hks, hkl⟩, hb⟩
  have HB2 := Lib.hid (below_cons HB.out hb)
  have hmB : m ≤ w1.heap.size := by rw [HM.out]; exact HB.out.size
  have hB8 : w1.heap.size < w2.heap.size := hmmm.hm.lt
  have HMM := Lib.hid (hmmm.lower hmB)
  have HKS := Lib.hid hks
  obtain ⟨B, hBe⟩ : ∃ B, B = w1.heap.size := ⟨_, rfl⟩
  rw [← hBe] at HMM hB8 hmB ⊢
  clear hmmm hks hb T TN HB hBe c1 c2 c3 hkl
  have HS0 := Lib.hid (St.made w2)
  have HM0 := Lib.hid (HMM.out.keep (below_new w2 (.map #[] 0)))
  have HB0 := Lib.hid (below_cons HB2.out (below_new w2 (.map #[] 0)))
  have hb8 : m ≤ w2.heap.size := by omega
  have HIN : Hid (∀ k ∈ ks, g k ≠ some w2.heap.size) := Lib.hid (fun k hk e => by have := (HMM.out.lt_inner hk e).1; omega)
  have HNS : Hid (NS ((w2.alloc (.map #[] 0)).alloc (.cells #[.int .i64 i] 3)) m B w2.heap.size ks g (fun k x => (k, x) ∈ E) [] (.slice (some ⟨w2.heap.size + 1, 0, none⟩) 1 1) [i]) := Lib.hid (by
    have hq := Qu.made (B := m) (w2.alloc (.map #[] 0)) i (by simp; omega)
    have hsz : (w2.alloc (.map #[] 0)).heap.size = w2.heap.size + 1 := by simp
    rw [hsz] at hq
    refine ⟨HM0.out.keep (below_new _ _), HS0.out.keep (below_new _ _), hq, by omega, hb8, HIN.out, fun j hj => ?_⟩
    obtain rfl : w2.heap.size + 1 = j := by simpa [Value.ownBlock] using hj
    refine ⟨by omega, by omega, by simp, fun k hk e => ?_⟩
    have := (HMM.out.lt_inner hk e).1
    omega)
  have HBF := Lib.hid (Bfs.start E i)
  have HB1 := Lib.hid (below_cons HB0.out (below_new (w2.alloc (.map #[] 0)) (.cells #[.int .i64 i] 3)))
  go_wp2
  obtain ⟨b10, hb10e⟩ : ∃ b, b = w2.heap.size := ⟨_, rfl⟩
  rw [← hb10e] at HNS HIN hb8 hB8 ⊢
  clear HS0 HM0 HMM HB2 HB0 hb10e
  go_loopg [11] (2 * (E.length - ([] : List Int).length) + [i].length) (fun k v wr => ∃ sn q, NS wr m B b10 ks g (fun k x => (k, x) ∈ E) sn v q ∧ Bfs E i sn q none [] ∧ k = 2 * (E.length - sn.length) + q.length ∧ Below w.heap.size w wr)
  case atStart => exact ⟨[], [i], HNS.out, HBF.out, rfl, HB1.out⟩
  case round =>
    obtain ⟨sn, q, hns, hbf, hgk, hbw⟩ := hrel
    clear HNS HBF HB1
    obtain ⟨g1, o1, c1, rfl⟩ := qu_shape hns.qu
    have hfew := hbf.few
    have hsl := seen_le hns.st.nodup hbf.seen
    cases q with
    | nil =>
      have HN := Lib.hid hns; have HBW := Lib.hid hbw
      have HALL := Lib.hid hbf.all
      clear hns hbf hgk hbw hfew hsl
      simp only [List.length_nil]
      go_wp2
      have HST := Lib.hid HN.out.st
      have HMB : m ≤ b10 := HN.out.lo8
      clear HN
      obtain ⟨wo, rfl⟩ : ∃ wo : World, wo = wr := ⟨_, rfl⟩
      go_loopw [14, 71] (fun v j wr => ∃ k : Nat, j = .int .i64 k ∧ k ≤ n ∧ wr.ownsRow m 3 1 v (needL E i k).length ((needL E i k).flatMap intC) ∧ St wr b10 sn ∧ Below w.heap.size w wr) (fun _ j _ => n - (intOf j).toNat)
      case atStart => exact ⟨0, rfl, by omega, own_nil _ _ _ _, HST.out, HBW.out⟩
      case round =>
        obtain ⟨k, rfl, hk, hrow, hst, hbw⟩ := hrel
        clear HST HBW
        have HR := Lib.hid hrow; have HST := Lib.hid hst; have HBW := Lib.hid hbw
        obtain ⟨av, cv, rfl⟩ := own_shape hrow
        clear hrow hst hbw
        by_cases hlt : k < n
        · have hgk : goodI (k : Int) := goodI_of (by omega) (by omega)
          have hget := HST.out.get hgk
          have gi : (k : Int) < (n : Int) := by omega
          have HNX := Lib.hid (needL_next E i k)
          by_cases hr : reachB E i k = true
          · rw [decide_eq_true ((HALL.out k).2 ((reachB_iff E i k).1 hr))] at hget
            have HN1 : Hid (needL E i (k + 1) = needL E i k ++ [(k : Int)]) := Lib.hid (by rw [HNX.out, if_pos hr])
            have hll := needL_len E i k
            have HR1 := Lib.hid (own_kept HR.out (below_new wr (.cells #[.int .i64 k] 3)))
            obtain ⟨ln, hln⟩ : ∃ ln, ln = (needL E i k).length := ⟨_, rfl⟩
            rw [← hln] at HR1 hll ⊢
            have HLN := Lib.hid hln
            have hmw : m ≤ wr.heap.size := by have := HBW.out.size; rw [HM.out]; exact this
            clear HNX hr hln
            go_wp2_with (at_builtin; refine wpList_append_own _ rfl _ _ 33 rfl m 3 i0 (.int .i64 0) 1 8 Try.underlying33 hi0 hz0 hz1 hz2 rfl (by decide) _ _ _ rfl HR1.out ⟨wr.heap.size, 0, none⟩ 1 1 [.int .i64 k] rfl rfl ?a1 ?a2 ?a3 ?a4 ?a5 ?_)
            case a1 => intro j u hj; exact new_cells _ _ _ j u hj
            case a2 => intro u hu; simp at hu; rcases hu with rfl; rfl
            case a3 => unfold maxLen; omega
            case a4 => omega
            case a5 => simp; omega
            intro v5 w5 hown5 hg5 _
            have HO5 : Hid (w5.ownsRow m 3 1 v5 (needL E i (k + 1)).length ((needL E i (k + 1)).flatMap intC)) := Lib.hid (by rw [HN1.out, List.length_append, List.flatMap_append, ← HLN.out]; exact hown5)
            have HK5 : Hid (Kp (fun q => (Value.slice av ln cv).ownBlock = some q) (wr.alloc (.cells #[.int .i64 k] 3)) w5) := Lib.hid (Kp.grown hg5 (fun k e => e))
            have HB5 : Hid (Below w.heap.size w w5) := Lib.hid ((below_cons HBW.out (below_new wr (.cells #[.int .i64 k] 3))).trans (HK5.out.below (by have := HBW.out.size; simp; omega) (fun q hq => by rw [← HM.out]; exact (HR1.out.lt q hq).1)))
            have HS5 : Hid (St w5 b10 sn) := Lib.hid ((HST.out.keep (below_new wr (.cells #[.int .i64 k] 3))).kp HK5.out (fun e => by
              obtain ⟨f, hm, _⟩ := HST.out.keep (below_new wr (.cells #[.int .i64 k] 3))
              exact row_ne hm HR1.out e rfl))
            clear hown5 hg5 HK5 hget hll
            go_wp2
            go_roundw
            case rel => exact ⟨k + 1, by go_num, by omega, HO5.out, HS5.out, HB5.out⟩
            case measure => simp [intOf]; omega
          · rw [decide_eq_false (fun h => hr ((reachB_iff E i k).2 ((HALL.out k).1 h)))] at hget
            have HN1 : Hid (needL E i (k + 1) = needL E i k) := Lib.hid (by rw [HNX.out, if_neg hr])
            clear HNX hr
            go_wp2
            go_roundw
            case rel => exact ⟨k + 1, by go_num, by omega, by rw [HN1.out]; exact HR.out, HST.out, HBW.out⟩
            case measure => simp [intOf]; omega
        · obtain rfl : n = k := by omega
          have hkk : ¬ (n : Int) < (n : Int) := by omega
          go_wp2
          go_ret2
          obtain ⟨a2, c2, e2, _, hsl⟩ := own_sl (enc := intC) (fun _ => rfl) (by decide) HR.out
          simp only [Value.slice.injEq] at e2
          obtain ⟨rfl, _, rfl⟩ := e2
          exact ⟨⟨av, cv, rfl, hsl⟩, HBW.out⟩
    | cons x q =>
      obtain ⟨hc0, o2, c2, hsl2, hq2⟩ := hns.qu.pop
      have HN := Lib.hid (hns.tail hq2); have HBW := Lib.hid hbw; have HBF := Lib.hid hbf; have HK := Lib.hid hgk
      clear hq2 hns hbf hgk hbw
      obtain ⟨n1, hn1⟩ : ∃ n1, n1 = (x :: q).length := ⟨_, rfl⟩
      obtain ⟨n2, hn2⟩ : ∃ n2, n2 = q.length := ⟨_, rfl⟩
      rw [← hn1] at hsl2 ⊢
      rw [← hn2] at hsl2 HN
      have d1 : (0 : Int) < (n1 : Int) := by rw [hn1]; simp only [List.length_cons]; omega
      have d2 : 0 < n1 := by omega
      have HN2 := Lib.hid hn2
      have HLT : Hid (2 * (E.length - sn.length) + q.length < gk) := Lib.hid (by rw [HK.out]; simp only [List.length_cons]; omega)
      clear hn1 hn2 HK
      have hgx : goodI x := by
        rcases HBF.out.todo x (by simp) with rfl | h
        · exact HGI.out
        · obtain ⟨y, hy⟩ := (HBF.out.seen x h).snd
          exact HG2.out _ _ hy
      have hlook := HN.out.mm.look hgx
      obtain ⟨wo, rfl⟩ : ∃ wo : World, wo = wr := ⟨_, rfl⟩
      by_cases hxk : x ∈ ks
      · obtain ⟨b, l, e1, e2, e3, e4, e5⟩ := HN.out.mm.inner x hxk
        rw [e1] at hlook
        have HE1 := Lib.hid e1; have HE5 := Lib.hid e5
        have hbl : b < wo.heap.size := e4.lt
        have hbb : b ≠ b10 := fun e => HN.out.nei x hxk (by rw [e1, e])
        have hqb : ∀ j, (Value.slice (some ⟨g1, o2, none⟩) n2 c2).ownBlock = some j → j ≠ b := fun j hj e => (HN.out.nq j hj).2.2.2 x hxk (by rw [e1, e])
        have HQB := Lib.hid hqb
        obtain ⟨f, hmf, _⟩ := e4
        have HMF := Lib.hid hmf
        clear e1 e5 hmf hqb
        go_wp2_with (at_range; refine wpList_range_h HMF.out rfl _ _ rfl rfl rfl ?_; intro w6 hr6 hb6 hz6)
        go_frame
        have HO6 : Hid (NS w6 m B b10 ks g (fun k x => (k, x) ∈ E) sn (.slice (some ⟨g1, o2, none⟩) n2 c2) q) := Lib.hid (HN.out.keep hb6)
        have HB6 := Lib.hid (below_cons HBW.out hb6)
        have HBF6 : Hid (Bfs E i sn q (some x) l) := Lib.hid (HBF.out.pop (fun y hy => (HE5.out y).2 hy))
        obtain ⟨r, hre⟩ : ∃ r, r = wo.heap.size := ⟨_, rfl⟩
        rw [← hre] at hr6 ⊢
        have HR6 := Lib.hid hr6
        have hBr : B < r := by rw [hre]; exact HN.out.mm.hm.lt
        have hbr : b10 < r := by rw [hre]; exact HN.out.st.lt
        have hbr2 : b < r := by rw [hre]; exact hbl
        have HGR : Hid (∀ k ∈ ks, g k ≠ some r) := Lib.hid (fun k hk e => by have := (HN.out.mm.lt_inner hk e).1; omega)
        have hrw : w.heap.size ≤ r := by rw [hre]; exact HBW.out.size
        have HVR : Hid (∀ j, (Value.slice (some ⟨g1, o2, none⟩) n2 c2).ownBlock = some j → j ≠ r) := Lib.hid (fun j hj e => by have := (HN.out.nq j hj).2.2.1; omega)
        clear hr6 hb6 hz6 hlook hc0 hre HMF hsl2
        have HV0 : Hid (∃ q2 sn2 left, NS w6 m B b10 ks g (fun k x => (k, x) ∈ E) sn2 (.slice (some ⟨g1, o2, none⟩) n2 c2) q2 ∧ Bfs E i sn2 q2 (some x) left ∧ 2 * (E.length - sn2.length) + q2.length < gk ∧ HR kB w6 b r l f left ∧ ∀ j, (Value.slice (some ⟨g1, o2, none⟩) n2 c2).ownBlock = some j → j ≠ r ∧ j ≠ b) := Lib.hid
          ⟨q, sn, l, HO6.out, HBF6.out, HLT.out, HR6.out, fun j hj => ⟨HVR.out j hj, HQB.out j hj⟩⟩
        clear HO6 HBF6 HLT HR6 HVR HQB HN HBF
        go_loopw [11, 13] (fun v _ wr => (∃ q2 sn2 left, NS wr m B b10 ks g (fun k x => (k, x) ∈ E) sn2 v q2 ∧ Bfs E i sn2 q2 (some x) left ∧ 2 * (E.length - sn2.length) + q2.length < gk ∧ HR kB wr b r l f left ∧ ∀ j, v.ownBlock = some j → j ≠ r ∧ j ≠ b) ∧ Below w.heap.size w wr) (fun _ _ wr => wr.rangeLeft b r)
        case atStart => exact ⟨HV0.out, HB6.out⟩
        case round =>
          obtain ⟨⟨q2, sn2, left, hns, hbf, hlt, hrg, hvb⟩, hbw⟩ := hrel
          clear HV0 HB6
          have HN := Lib.hid hns; have HBF := Lib.hid hbf; have HLT := Lib.hid hlt; have HRG := Lib.hid hrg; have HVB := Lib.hid hvb; have HBW := Lib.hid hbw
          obtain ⟨g3, o3, c3, rfl⟩ := qu_shape hns.qu
          clear hns hbf hlt hrg hvb hbw
          obtain ⟨n3, hn3⟩ : ∃ n3, n3 = q2.length := ⟨_, rfl⟩
          rw [← hn3] at HN HVB ⊢
          have HN3 := Lib.hid hn3
          clear hn3
          go_wp2_with (at_next; refine wpList_next_h (Value.int .i64) (fun _ => rfl) Value.bool (fun _ => rfl) HRG.out rfl _ rfl rfl ?_ ?_)
          · intro hnil
            subst hnil
            have HBO := Lib.hid HBF.out.over
            go_wp2
            go_roundg (2 * (E.length - sn2.length) + q2.length)
            case rel => exact ⟨sn2, q2, HN.out, HBO.out, rfl, HBW.out⟩
            case measure => exact HLT.out
          · intro y w7 hyl hgy hr7 hlt7 hk7 hz7 hen
            have hyl2 : y ∈ l := HRG.out.left_mem y hyl
            have HXY : Hid ((x, y) ∈ E) := Lib.hid ((HE5.out y).1 hyl2)
            have HN7 : Hid (NS w7 m B b10 ks g (fun k x => (k, x) ∈ E) sn2 (.slice (some ⟨g3, o3, none⟩) n3 c3) q2) := Lib.hid (HN.out.kp hk7 (fun e => by omega) (fun e => by omega) (fun j hj bb e e2 => HGR.out j hj (by rw [e, e2])) (fun j hj e => (HVB.out j hj).1 e))
            have HB7 : Hid (Below w.heap.size w w7) := Lib.hid (HBW.out.trans (hk7.below HBW.out.size (fun j e => by omega)))
            have HLT7 := Lib.hid hlt7; have HR7 := Lib.hid hr7
            have hget := HN7.out.st.get hgy
            clear hr7 hlt7 hk7 hz7
            by_cases hys : y ∈ sn2
            · rw [decide_eq_true hys] at hget
              have HBY := Lib.hid (HBF.out.had HRG.out.left_nodup hys)
              clear hyl
              go_wp2
              go_roundw
              case rel => exact ⟨⟨q2, sn2, _, HN7.out, HBY.out, HLT.out, HR7.out, HVB.out⟩, HB7.out⟩
              case measure => exact HLT7.out
            · rw [decide_eq_false hys] at hget
              have hs2 := seen_le HN7.out.st.nodup HBF.out.seen
              have hEl : E.length ≤ 4096 := by rw [← HL.out]; exact hE
              obtain ⟨w8, hu, hn8, hk8, hz8⟩ := HN7.out.see hgy (by simp only [maxLen]; omega)
              have HBY := Lib.hid (HBF.out.adds HRG.out.left_nodup HXY.out hys)
              have hs3 := seen_le hn8.st.nodup HBY.out.seen
              rw [addK_len, if_neg hys] at hs3
              have HN8 := Lib.hid hn8
              have hb10 : b10 ≥ m := hn8.lo8
              have HB8 : Hid (Below w.heap.size w w8) := Lib.hid (HB7.out.trans (hk8.below HB7.out.size (fun j e => by rw [← HM.out]; omega)))
              have H8 : Hid (HR kB w8 b r l f (delK left y) ∧ w8.rangeLeft b r < wr.rangeLeft b r) := Lib.hid (by
                obtain ⟨h1, h2⟩ := HR7.out.kp hk8 (fun e => hbb e) (fun e => by omega)
                exact ⟨h1, by rw [h2]; exact HLT7.out⟩)
              have HLT2 : Hid (2 * (E.length - (addK sn2 y).length) + (q2 ++ [y]).length < gk) := Lib.hid (by
                rw [addK_len, if_neg hys, List.length_append]
                have := HLT.out
                simp only [List.length_cons, List.length_nil]
                omega)
              have HN9 : Hid (NS (w8.alloc (.cells #[.int .i64 y] 3)) m B b10 ks g (fun k x => (k, x) ∈ E) (addK sn2 y) (.slice (some ⟨g3, o3, none⟩) n3 c3) q2) := Lib.hid (HN8.out.keep (below_new _ _))
              have hmw : m ≤ w8.heap.size := by have := HB8.out.size; rw [HM.out]; exact this
              have hfew := HBF.out.few
              have hrlt := H8.out.1.lt
              have hq2l : q2.length ≤ 5000 := by omega
              clear hn8 hk8 hz8 hs2 hs3 hys hyl hfew
              have hblt : b < w8.heap.size := H8.out.1.hm.lt
              go_wp2_with (at_builtin; refine wpList_append_qu (y := y) rfl rfl rfl rfl HN9.out.qu ?b1 ?b2 ?b3 ?b4)
              case b1 => simp; omega
              case b2 => exact new_cells _ _ _ 0 _ rfl
              case b3 => omega
              intro v9 w9 hq9 hk9 ho9
              have hsz9 : (w8.alloc (.cells #[.int .i64 y] 3)).heap.size = w8.heap.size + 1 := by simp
              have HN10 := Lib.hid (HN9.out.push hq9 hk9 (fun j hj => by rw [hsz9]; exact ho9 j hj))
              have H9 : Hid (HR kB w9 b r l f (delK left y) ∧ w9.rangeLeft b r < wr.rangeLeft b r) := Lib.hid (by
                obtain ⟨h1, h2⟩ := H8.out.1.keep (below_new w8 (.cells #[.int .i64 y] 3))
                obtain ⟨h3, h4⟩ := h1.kp hk9 (fun e => (HVB.out _ e).2 rfl) (fun e => (HVB.out _ e).1 rfl)
                exact ⟨h3, by rw [h4, h2]; exact H8.out.2⟩)
              have HB9 : Hid (Below w.heap.size w w9) := Lib.hid ((below_cons HB8.out (below_new w8 (.cells #[.int .i64 y] 3))).trans (hk9.below (by have := HB8.out.size; simp; omega) (fun j e => by
                have := (qu_lt HN9.out.qu j e).1
                rw [← HM.out]; exact this)))
              have HV9 : Hid (∀ j, v9.ownBlock = some j → j ≠ r ∧ j ≠ b) := Lib.hid (fun j hj => by
                rcases ho9 j hj with h1 | h1
                · exact HVB.out j h1
                · exact ⟨by omega, by omega⟩)
              obtain ⟨g5, o5, c5, rfl⟩ := qu_shape hq9
              clear hq9 hk9 ho9
              obtain ⟨n5, hn5⟩ : ∃ n5, n5 = (q2 ++ [y]).length := ⟨_, rfl⟩
              rw [← hn5] at HN10 HV9 ⊢
              clear hn5 hsz9
              go_wp2
              go_roundw
              case rel => exact ⟨⟨_, _, _, HN10.out, HBY.out, HLT2.out, H9.out.1, HV9.out⟩, HB9.out⟩
              case measure => exact H9.out.2
      · rw [HN.out.mm.none hgx hxk] at hlook
        have hrg := run_range_nilMap (P := Try.prog) wo 41 3 4 Try.underlying41
        have hnx : ∀ ty, (Instr.next (.pointer (some ⟨wo.heap.size, 0, none⟩)) false ty).run Try.prog (wo.alloc (.mapIter none 0 #[] 0)) = _ := fun ty => run_next_nilMap wo ty 0 0 #[]
        have HNN := Lib.hid (HN.out.keep (below_new wo (.mapIter none 0 #[] 0)))
        have HBN := Lib.hid (below_cons HBW.out (below_new wo (.mapIter none 0 #[] 0)))
        have HBF2 := Lib.hid (HBF.out.pop (left := []) (fun y hy => absurd ((HKS.out x).2 ⟨y, hy⟩) hxk)).over
        clear HN HBF HBW
        go_wp2
        refine wp_loop_rounds 1 ?_
        rw [rounds_succ]
        go_wp2
        go_roundg (2 * (E.length - sn.length) + q.length)
        case rel => exact ⟨sn, q, HNN.out, HBF2.out, rfl, HBN.out⟩
        case measure => exact HLT.out
end Go.Proofs.Ytddonekagmnokaa

