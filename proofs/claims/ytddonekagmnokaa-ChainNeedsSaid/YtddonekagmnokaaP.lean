/-
  The law of ChainNeeds.
-/
import Derived.Test.YtddonekagmnokaaL
import Derived.Deep.LoopGhost
set_option linter.unusedVariables false
set_option linter.unusedSimpArgs false
namespace Go.Proofs.Ytddonekagmnokaa
open Go.RowKit
theorem needL_pre (E : List (Int × Int)) (i : Int) (k n : Nat) (h : k ≤ n) : ∃ t, needL E i n = needL E i k ++ t := by
  induction n with
  | zero => obtain rfl : k = 0 := by omega
            exact ⟨[], by simp⟩
  | succ n ih =>
    by_cases e : k = n + 1
    · subst e; exact ⟨[], by simp⟩
    · obtain ⟨t, ht⟩ := ih (by omega)
      rw [needL_next]
      split
      · exact ⟨t ++ [(n : Int)], by rw [ht, List.append_assoc]⟩
      · exact ⟨t, ht⟩
theorem needL_at {E : List (Int × Int)} {i : Int} {k n : Nat} (h : k < n) (hr : reachB E i k = true) : ∃ hl : (needL E i k).length < (needL E i n).length, (needL E i n)[(needL E i k).length] = (k : Int) := by
  obtain ⟨t, ht⟩ := needL_pre E i (k + 1) n (by omega)
  rw [needL_next, if_pos hr] at ht
  refine ⟨by rw [ht]; simp only [List.length_append, List.length_cons]; omega, ?_⟩
  simp only [ht]
  rw [List.getElem_append_left (by simp), List.getElem_append_right (by simp)]
  simp
def closedD (E : List (Int × Int)) (i : Int) (d : List Nat) (j : Nat) : Prop := ∀ q ∈ E.take j, (q.1 = i ∨ inD d q.1 = true) → inD d q.2 = true
theorem closedD_next {E : List (Int × Int)} {i : Int} {d : List Nat} {j : Nat} (hj : j < E.length) (h : closedD E i d j) (h2 : (E[j].1 = i ∨ inD d E[j].1 = true) → inD d E[j].2 = true) : closedD E i d (j + 1) := by
  intro q hq
  rw [List.take_succ_eq_append_getElem hj] at hq
  rcases List.mem_append.1 hq with h1 | h1
  · exact h q h1
  · rw [List.mem_singleton.1 h1]; exact h2
theorem closed_all {E : List (Int × Int)} {i : Int} {d : List Nat} (h : closedD E i d E.length) (hs : ∀ j ∈ d, Rch E i (j : Int)) (k : Nat) : inD d (k : Int) = reachB E i k := by
  rw [Bool.eq_iff_iff, reachB_iff]
  constructor
  · intro h1; exact hs k ((inD_nat d k).1 h1)
  · intro hr
    unfold closedD at h
    rw [List.take_length] at h
    have key : ∀ x, Rch E i x → inD d x = true := by
      intro x hx
      induction hx with
      | one h1 => exact h _ h1 (Or.inl rfl)
      | more _ h2 ih => exact h _ h2 (Or.inr ih)
    exact key _ hr
theorem sl_int {w : World} {a : Option Addr} {xs : List Int} (h : Sl intC 1 w a xs) (i : Nat) (hi : i < xs.length) : ∃ b o, a = some ⟨b, o, none⟩ ∧ b < w.heap.size ∧ w.cell? ⟨b, o + i, none⟩ = some (.int .i64 xs[i]) := by
  obtain ⟨b, o, ha, hlt, hc⟩ := h i hi
  refine ⟨b, o, ha, hlt, ?_⟩
  have := hc 0 _ rfl
  rw [Nat.mul_one, Nat.add_zero] at this
  exact this
set_option maxRecDepth 100000 in
set_option maxHeartbeats 16000000 in
theorem cneeds_long (n i : Int) (ea : Option Addr) (L ec : Nat) (w : World) (hl : (30 < n ∧ n ≤ 256) ∨ 100 < L) :
    Calls Try.prog 4 #[.int .i64 n, .slice ea L ec, .int .i64 i] w fun e w' => e = .returned (.bool true) ∧ Below w.heap.size w w' := by
  by_cases h : 30 < n
  · have d1 : decide ((30 : Int) < n) = true := decide_eq_true h
    by_cases h2 : n ≤ 256
    · have d2 : decide (n ≤ (256 : Int)) = true := decide_eq_true h2
      clear hl
      go_enter Try.func4, Try.ntmps4
      go_wp2_with fail
      refine (awake_any _).mono ?_
      rintro e w3 ⟨rfl, hb⟩
      have HB3 := Lib.hid hb
      clear hb
      go_wp2
      go_ret
      exact ⟨rfl, HB3.out⟩
    · have d2 : decide (n ≤ (256 : Int)) = false := decide_eq_false h2
      have d3 : decide ((100 : Int) < (L : Int)) = true := decide_eq_true (by omega)
      clear hl
      go_enter Try.func4, Try.ntmps4
      go_wp2_with fail
      refine (awake_any _).mono ?_
      rintro e w3 ⟨rfl, hb⟩
      have HB3 := Lib.hid hb
      clear hb
      go_wp2
      go_ret
      exact ⟨rfl, HB3.out⟩
  · have d1 : decide ((30 : Int) < n) = false := decide_eq_false h
    have d3 : decide ((100 : Int) < (L : Int)) = true := decide_eq_true (by omega)
    clear hl
    go_enter Try.func4, Try.ntmps4
    go_wp2_with fail
    refine (awake_any _).mono ?_
    rintro e w3 ⟨rfl, hb⟩
    have HB3 := Lib.hid hb
    clear hb
    go_wp2
    go_ret
    exact ⟨rfl, HB3.out⟩
set_option maxRecDepth 100000 in
set_option maxHeartbeats 16000000 in
theorem cneeds_big (n i : Int) (ea : Option Addr) (L ec : Nat) (w : World) (hl : 256 < n) (hL : L ≤ 100) :
    Calls Try.prog 4 #[.int .i64 n, .slice ea L ec, .int .i64 i] w fun e w' => e = .returned (.bool true) ∧ Below w.heap.size w w' := by
  have d1 : decide ((30 : Int) < n) = true := decide_eq_true (by omega)
  have d2 : decide (n ≤ (256 : Int)) = false := decide_eq_false (by omega)
  have d3 : decide ((100 : Int) < (L : Int)) = false := decide_eq_false (by omega)
  have d4 : decide ((256 : Int) < n) = true := decide_eq_true (by omega)
  have HH := Lib.hid hl
  go_enter Try.func4, Try.ntmps4
  go_wp2_with fail
  refine (needs_long n i ea L ec w HH.out).mono ?_
  rintro e w1 ⟨rfl, hb⟩
  have HB := Lib.hid hb
  clear hb
  go_wp2_with fail
  refine (awake_any _).mono ?_
  rintro e w3 ⟨rfl, hb⟩
  have HB3 := Lib.hid (below_cons HB.out hb)
  clear hb
  go_wp2
  go_ret
  exact ⟨rfl, HB3.out⟩
set_option maxRecDepth 100000 in
set_option maxHeartbeats 16000000 in
theorem cneeds_bad (n i : Int) (ea : Option Addr) (ec : Nat) (E : List (Int × Int)) (w : World) (hn : n ≤ 30) (hE : E.length ≤ 100) (hs : Sl pairC 2 w ea E) (hb : ¬ MayN n i E) :
    Calls Try.prog 4 #[.int .i64 n, .slice ea E.length ec, .int .i64 i] w fun e w' => e = .returned (.bool true) ∧ Below w.heap.size w w' := by
  have T0 := needs_bad n i ea ec E w (by omega) (by omega) hs hb
  have T1 := fun W (h : Below w.heap.size w W) => places_any n E ea ec W (by omega) (hs.keep h)
  obtain ⟨L, hL⟩ : ∃ L, L = E.length := ⟨_, rfl⟩
  rw [← hL] at T0
  rw [← hL] at T1
  rw [← hL] at hE
  rw [← hL]
  have T := Lib.hid T0; have TP := Lib.hid T1
  have HBad := Lib.hid hb
  clear hL hs hb T0 T1
  have d1 : decide ((30 : Int) < n) = false := decide_eq_false (by omega)
  have d3 : decide ((100 : Int) < (L : Int)) = false := decide_eq_false (by omega)
  have d4 : decide ((256 : Int) < n) = false := decide_eq_false (by omega)
  by_cases h1 : n < 1
  · have d5 : decide (n < 1) = true := decide_eq_true h1
    go_enter Try.func4, Try.ntmps4
    go_wp2_with fail
    refine T.out.mono ?_
    rintro e w1 ⟨rfl, hb⟩
    have HB := Lib.hid hb
    clear hb
    go_wp2_with fail
    refine (awake_any _).mono ?_
    rintro e w3 ⟨rfl, hb⟩
    have HB3 := Lib.hid (below_cons HB.out hb)
    clear hb
    go_wp2
    go_ret
    exact ⟨rfl, HB3.out⟩
  have d5 : decide (n < 1) = false := decide_eq_false h1
  by_cases h2 : i < 0
  · have d6 : decide (i < 0) = true := decide_eq_true h2
    go_enter Try.func4, Try.ntmps4
    go_wp2_with fail
    refine T.out.mono ?_
    rintro e w1 ⟨rfl, hb⟩
    have HB := Lib.hid hb
    clear hb
    go_wp2_with fail
    refine (awake_any _).mono ?_
    rintro e w3 ⟨rfl, hb⟩
    have HB3 := Lib.hid (below_cons HB.out hb)
    clear hb
    go_wp2
    go_ret
    exact ⟨rfl, HB3.out⟩
  have d6 : decide (i < 0) = false := decide_eq_false h2
  by_cases h3 : n ≤ i
  · have d7 : decide (n ≤ i) = true := decide_eq_true h3
    go_enter Try.func4, Try.ntmps4
    go_wp2_with fail
    refine T.out.mono ?_
    rintro e w1 ⟨rfl, hb⟩
    have HB := Lib.hid hb
    clear hb
    go_wp2_with fail
    refine (awake_any _).mono ?_
    rintro e w3 ⟨rfl, hb⟩
    have HB3 := Lib.hid (below_cons HB.out hb)
    clear hb
    go_wp2
    go_ret
    exact ⟨rfl, HB3.out⟩
  have d7 : decide (n ≤ i) = false := decide_eq_false h3
  have HNO : Hid (¬ okN n E) := Lib.hid (fun h => HBad.out ⟨by omega, by omega, by omega, h⟩)
  go_enter Try.func4, Try.ntmps4
  go_wp2_with fail
  refine T.out.mono ?_
  rintro e w1 ⟨rfl, hb⟩
  have HB := Lib.hid hb
  clear hb
  go_wp2_with fail
  refine (TP.out _ HB.out).mono ?_
  rintro e w2 ⟨hc, rfl⟩
  obtain rfl := hc.2 HNO.out
  clear hc
  go_wp2_with fail
  refine (awake_any _).mono ?_
  rintro e w3 ⟨rfl, hb⟩
  have HB3 := Lib.hid (below_cons HB.out hb)
  clear hb
  go_wp2
  go_ret
  exact ⟨rfl, HB3.out⟩
set_option maxRecDepth 100000 in
set_option maxHeartbeats 16000000 in
theorem cneeds_ok (n : Nat) (i : Int) (ea : Option Addr) (ec : Nat) (E : List (Int × Int)) (w : World) (hn : n ≤ 30) (hE : E.length ≤ 100) (hs : Sl pairC 2 w ea E) (hb : MayN n i E) :
    Calls Try.prog 4 #[.int .i64 n, .slice ea E.length ec, .int .i64 i] w fun e w' => e = .returned (.bool true) ∧ Below w.heap.size w w' := by
  have T0 := needs_ok n i ea ec E w (by omega) (by omega) hs hb
  have T1 := fun W (h : Below w.heap.size w W) => places_any (n : Int) E ea ec W (by omega) (hs.keep h)
  have HP := Lib.hid (fun (k : Nat) (hk : k < E.length) => pair_at hs hk)
  obtain ⟨L, hL⟩ : ∃ L, L = E.length := ⟨_, rfl⟩
  have HL := Lib.hid hL
  rw [← hL] at T0
  rw [← hL] at T1
  rw [← hL] at hE
  rw [← hL]
  obtain ⟨hb1, hb2, hb3, hok⟩ := hb
  have T := Lib.hid T0; have TP := Lib.hid T1
  have HOK := Lib.hid hok
  clear hL hs T0 T1 hok
  have d1 : decide ((30 : Int) < (n : Int)) = false := decide_eq_false (by omega)
  have d3 : decide ((100 : Int) < (L : Int)) = false := decide_eq_false (by omega)
  have d4 : decide ((256 : Int) < (n : Int)) = false := decide_eq_false (by omega)
  have d5 : decide ((n : Int) < 1) = false := decide_eq_false (by omega)
  have d6 : decide (i < 0) = false := decide_eq_false (by omega)
  have d7 : decide ((n : Int) ≤ i) = false := decide_eq_false (by omega)
  have hmk := make_bool n (by omega)
  go_enter Try.func4, Try.ntmps4
  go_wp2_with fail
  refine T.out.mono ?_
  rintro e w1 ⟨⟨ga, gc, rfl, hsl⟩, hb⟩
  have HB := Lib.hid hb; have HSL := Lib.hid hsl
  clear hb hsl
  obtain ⟨gl, hgl⟩ : ∃ gl, gl = (needL E i n).length := ⟨_, rfl⟩
  rw [← hgl]
  have HGL := Lib.hid hgl
  clear hgl
  go_wp2_with fail
  refine (TP.out _ HB.out).mono ?_
  rintro e w2 ⟨hc, rfl⟩
  obtain rfl := hc.1 HOK.out
  clear hc
  have HK2 : Hid (Bk w2.heap.size (boolR n []) (w2.alloc (.cells (boolR n []).toArray 4))) := Lib.hid (Bk.new w2 4 (boolR n []).toArray)
  have HBN := Lib.hid (below_new w2 (.cells (boolR n []).toArray 4))
  generalize (boolR n []).toArray = Z at hmk HK2 HBN
  go_wp2
  clear hmk d1 d3 d4 d5 d6 d7
  go_loopg [10] (2 * (n - ([] : List Nat).length) + (if true = true then 1 else 0)) (fun k v wr => ∃ (d : List Nat) (mb : Bool), k = 2 * (n - d.length) + (if mb = true then 1 else 0) ∧ v = .bool mb ∧ Came2 n d ∧ (∀ j ∈ d, Rch E i (j : Int)) ∧ (mb = false → closedD E i d E.length) ∧ Bk w2.heap.size (boolR n d) wr ∧ Below w2.heap.size w2 wr)
  case atStart => exact ⟨[], true, rfl, rfl, ⟨List.nodup_nil, fun i h => by cases h⟩, (fun j h => by cases h), (fun h => by cases h), HK2.out, HBN.out⟩
  case round =>
    obtain ⟨d, mb, hgk, rfl, hcm, hsd, hcl, hbk, hbw⟩ := hrel
    have HGK := Lib.hid hgk; have HCM := Lib.hid hcm; have HSD := Lib.hid hsd; have HBK := Lib.hid hbk; have HBW := Lib.hid hbw
    clear hgk hcm hsd hbk hbw HK2 HBN
    obtain ⟨wo, rfl⟩ : ∃ wo : World, wo = wr := ⟨_, rfl⟩
    cases mb with
    | true =>
      clear hcl
      go_wp2
      go_loopw [10, 11] (fun v ji wr => ∃ (d2 : List Nat) (mb : Bool) (j : Nat), v = .bool mb ∧ ji = .int .i64 j ∧ j ≤ L ∧ Came2 n d2 ∧ (∀ j ∈ d2, Rch E i (j : Int)) ∧ (mb = false → d2 = d ∧ closedD E i d j) ∧ (mb = true → d.length < d2.length) ∧ Bk w2.heap.size (boolR n d2) wr ∧ Below w2.heap.size w2 wr) (fun _ ji _ => L - (intOf ji).toNat)
      case atStart => exact ⟨d, false, 0, rfl, rfl, by omega, HCM.out, HSD.out, fun _ => ⟨rfl, fun q hq => by simp at hq⟩, (fun h => by cases h), HBK.out, HBW.out⟩
      case round =>
        obtain ⟨d2, mb, j, rfl, rfl, hj, hcm2, hsd2, hf, ht, hbk, hbw⟩ := hrel
        have HC2 := Lib.hid hcm2; have HS2 := Lib.hid hsd2; have HF2 := Lib.hid hf; have HT2 := Lib.hid ht; have HBK2 := Lib.hid hbk; have HBW2 := Lib.hid hbw
        clear hcm2 hsd2 hf ht hbk hbw HBK HBW
        by_cases hjl : j < L
        · have hjE : j < E.length := by rw [← HL.out]; exact hjl
          obtain ⟨b, o, rfl, hbl, hcc⟩ := HP.out j hjE
          have HBA : Below w.heap.size w wr := HB.out.trans (HBW2.out.mono HB.out.size)
          have c0 := (hcc wr HBA).1; have c1 := (hcc wr HBA).2
          have gj : (j : Int) < (L : Int) := by omega
          have hin := HOK.out E[j] (List.getElem_mem hjE)
          have HMEM : Hid (E[j] ∈ E) := Lib.hid (List.getElem_mem hjE)
          have HNX : Hid (closedD E i d j → ((E[j].1 = i ∨ inD d E[j].1 = true) → inD d E[j].2 = true) → closedD E i d (j + 1)) := Lib.hid (closedD_next hjE)
          clear hcc HBA
          generalize E[j] = q at *
          obtain ⟨x, y⟩ := q
          unfold inN at hin
          dsimp only at c0 c1 hin
          obtain ⟨xx, rfl⟩ : ∃ xx : Nat, x = (xx : Int) := ⟨x.toNat, by omega⟩
          obtain ⟨yy, rfl⟩ : ∃ yy : Nat, y = (yy : Int) := ⟨y.toNat, by omega⟩
          have HXN : Hid (xx < n) := Lib.hid (by omega)
          have HYN : Hid (yy < n) := Lib.hid (by omega)
          have hx := (HBK2.out.2 xx _ (boolR_get n d2 xx HXN.out)).1
          obtain ⟨hy, hyf⟩ := (HBK2.out.2 yy _ (boolR_get n d2 yy HYN.out))
          have gx : (xx : Int) < (n : Int) := hin.1.2
          have gy : (yy : Int) < (n : Int) := hin.2.2
          clear hin
          have HXI := Lib.hid (inD_nat d2 xx); have HYI := Lib.hid (inD_nat d2 yy)
          obtain ⟨px, hpx⟩ : ∃ px, px = inD d2 (xx : Int) := ⟨_, rfl⟩
          obtain ⟨py, hpy⟩ : ∃ py, py = inD d2 (yy : Int) := ⟨_, rfl⟩
          rw [← hpx] at hx
          rw [← hpy] at hy
          have HPX := Lib.hid hpx; have HPY := Lib.hid hpy
          clear hpx hpy
          have HGO : Hid ((((xx : Int) = i ∨ px = true) → py = true) → (mb = false → d2 = d ∧ closedD E i d (j + 1))) := Lib.hid (fun h hm => by
            obtain ⟨e, hc⟩ := HF2.out hm
            refine ⟨e, HNX.out hc ?_⟩
            rw [HPX.out, HPY.out, e] at h
            exact h)
          have HADD : Hid (((xx : Int) = i ∨ px = true) → py = false → Came2 n (d2 ++ [yy]) ∧ (∀ j ∈ d2 ++ [yy], Rch E i (j : Int)) ∧ d.length < (d2 ++ [yy]).length ∧ Bk w2.heap.size (boolR n (d2 ++ [yy])) (wr.setCell ⟨w2.heap.size, yy, none⟩ (.bool true))) := Lib.hid (fun h hp => by
            have hny : yy ∉ d2 := fun hm => by
              have := HYI.out.2 hm
              rw [← HPY.out, hp] at this
              cases this
            refine ⟨HC2.out.snoc HYN.out hny, fun z hz => ?_, ?_, ?_⟩
            · rcases List.mem_append.1 hz with h1 | h1
              · exact HS2.out z h1
              · rw [List.mem_singleton.1 h1]
                rcases h with h | h
                · exact .one (h ▸ HMEM.out)
                · exact .more (HS2.out xx (HXI.out.1 (by rw [← HPX.out, h]))) HMEM.out
            · rw [List.length_append]
              cases hm : mb with
              | true => have := HT2.out hm; omega
              | false => rw [(HF2.out hm).1]; simp
            · have := HBK2.out.set yy (by rw [boolR_len]; exact HYN.out) (.bool true)
              rwa [boolR_set n d2 yy HYN.out] at this)
          have HBS : Hid (Below w2.heap.size w2 (wr.setCell ⟨w2.heap.size, yy, none⟩ (.bool true))) := Lib.hid (HBW2.out.setCell (by simp) _)
          by_cases hxi : (xx : Int) = i
          · have e1 : ((xx : Int) == i) = true := by simp [hxi]
            have HXE := Lib.hid hxi
            clear hxi
            cases py with
            | true =>
              have HG := Lib.hid (HGO.out (fun _ => rfl))
              clear HGO HADD HBS
              go_wp2
              go_roundw
              case rel => exact ⟨d2, mb, j + 1, rfl, by go_num, by omega, HC2.out, HS2.out, HG.out, HT2.out, HBK2.out, HBW2.out⟩
              case measure => simp [intOf]; omega
            | false =>
              have HA := Lib.hid (HADD.out (Or.inl HXE.out) rfl)
              clear HGO HADD
              go_wp2
              go_roundw
              case rel => exact ⟨d2 ++ [yy], true, j + 1, rfl, by go_num, by omega, HA.out.1, HA.out.2.1, (fun h => by cases h), fun _ => HA.out.2.2.1, HA.out.2.2.2, HBS.out⟩
              case measure => simp [intOf]; omega
          · have e1 : ((xx : Int) == i) = false := by simp [hxi]
            have HXE := Lib.hid hxi
            clear hxi
            cases px with
            | false =>
              have HG := Lib.hid (HGO.out (fun h => by
                rcases h with h | h
                · exact absurd h HXE.out
                · cases h))
              clear HGO HADD HBS
              go_wp2
              go_roundw
              case rel => exact ⟨d2, mb, j + 1, rfl, by go_num, by omega, HC2.out, HS2.out, HG.out, HT2.out, HBK2.out, HBW2.out⟩
              case measure => simp [intOf]; omega
            | true =>
              cases py with
              | true =>
                have HG := Lib.hid (HGO.out (fun _ => rfl))
                clear HGO HADD HBS
                go_wp2
                go_roundw
                case rel => exact ⟨d2, mb, j + 1, rfl, by go_num, by omega, HC2.out, HS2.out, HG.out, HT2.out, HBK2.out, HBW2.out⟩
                case measure => simp [intOf]; omega
              | false =>
                have HA := Lib.hid (HADD.out (Or.inr rfl) rfl)
                clear HGO HADD
                go_wp2
                go_roundw
                case rel => exact ⟨d2 ++ [yy], true, j + 1, rfl, by go_num, by omega, HA.out.1, HA.out.2.1, (fun h => by cases h), fun _ => HA.out.2.2.1, HA.out.2.2.2, HBS.out⟩
                case measure => simp [intOf]; omega
        · obtain rfl : L = j := by omega
          have hkk : ¬ (L : Int) < (L : Int) := by omega
          have HFE : Hid (mb = false → d2 = d ∧ closedD E i d2 E.length) := Lib.hid (fun hm => by
            obtain ⟨e, hc⟩ := HF2.out hm
            rw [HL.out] at hc
            exact ⟨e, by rw [e]; exact hc⟩)
          have hl1 := HC2.out.len
          go_wp2
          go_roundg (2 * (n - d2.length) + (if mb = true then 1 else 0))
          case rel => exact ⟨d2, mb, rfl, rfl, HC2.out, HS2.out, fun hm => (HFE.out hm).2, HBK2.out, HBW2.out⟩
          case measure =>
            rw [HGK.out]
            cases hm : mb with
            | true => have := HT2.out hm; simp only [if_true]; omega
            | false => rw [(HFE.out hm).1]; simp
    | false =>
      have HCL := Lib.hid (closed_all (hcl rfl) HSD.out)
      clear hcl
      go_wp2
      have HBA : Hid (Below w.heap.size w wo) := Lib.hid (HB.out.trans (HBW.out.mono HB.out.size))
      have HSL2 : Hid (Sl intC 1 wo ga (needL E i n)) := Lib.hid (HSL.out.keep HBW.out)
      go_loopw [12, 13] (fun v ki wr => ∃ k : Nat, ki = .int .i64 k ∧ k ≤ n ∧ v = .int .i64 (needL E i k).length ∧ wr = wo) (fun _ ki _ => n - (intOf ki).toNat)
      case atStart => exact ⟨0, rfl, by omega, rfl, rfl⟩
      case round =>
        obtain ⟨k, rfl, hk, rfl, rfl⟩ := hrel
        by_cases hlt : k < n
        · have gk : (k : Int) < (n : Int) := by omega
          have hc := (HBK.out.2 k _ (boolR_get n d k hlt)).1
          rw [HCL.out k] at hc
          have hll := needL_len E i k
          have HNX := Lib.hid (needL_next E i k)
          cases hr : reachB E i k with
          | true =>
            rw [hr] at hc
            obtain ⟨h1, h2⟩ := needL_at hlt hr
            obtain ⟨b, o, rfl, hb1, hcc⟩ := sl_int HSL2.out _ h1
            rw [h2] at hcc
            have HN1 : Hid ((needL E i (k + 1)).length = (needL E i k).length + 1) := Lib.hid (by rw [HNX.out, if_pos hr, List.length_append]; rfl)
            rw [← HGL.out] at h1
            clear hr h2 HNX
            obtain ⟨A, hA⟩ : ∃ A, A = (needL E i k).length := ⟨_, rfl⟩
            rw [← hA] at h1 hcc hll HN1 ⊢
            clear hA
            have g1 : (A : Int) < (gl : Int) := by omega
            have g2 : decide (gl ≤ A) = false := decide_eq_false (by omega)
            go_wp2
            go_roundw
            case rel => exact ⟨k + 1, by go_num, by omega, by rw [HN1.out]; go_num, by first | trivial | rfl⟩
            case measure => simp [intOf]; omega
          | false =>
            rw [hr] at hc
            have HN1 : Hid ((needL E i (k + 1)).length = (needL E i k).length) := Lib.hid (by rw [HNX.out, if_neg (by rw [hr]; simp)])
            clear hr HNX
            obtain ⟨A, hA⟩ : ∃ A, A = (needL E i k).length := ⟨_, rfl⟩
            rw [← hA] at hll HN1 ⊢
            clear hA
            go_wp2
            go_roundw
            case rel => exact ⟨k + 1, by go_num, by omega, by rw [HN1.out], by first | trivial | rfl⟩
            case measure => simp [intOf]; omega
        · obtain rfl : n = k := by omega
          have hkk : ¬ (n : Int) < (n : Int) := by omega
          rw [← HGL.out]
          go_wp2_with fail
          refine (awake_any _).mono ?_
          rintro e w9 ⟨rfl, hb⟩
          have HB9 := Lib.hid (below_cons HBA.out hb)
          clear hb
          go_wp2
          go_ret
          exact ⟨rfl, HB9.out⟩
theorem cneeds_law (n : Int) (v1 : Value) (E : List (Int × Int)) (i : Int) (w : World) (h0 : (Lit.int .i64 n).wf = true) (h1 : PairsOk E w v1) (h2 : (Lit.int .i64 i).wf = true) : Calls Try.prog 4 #[.int .i64 n, v1, .int .i64 i] w fun e w' => e = .returned (.bool true) ∧ Below w.heap.size w w' := by
  obtain ⟨ea, ec, rfl, _, hp, hg⟩ := h1
  by_cases hE : E.length ≤ 100
  · by_cases hn : n ≤ 30
    · by_cases hm : MayN n i E
      · obtain ⟨m, rfl⟩ : ∃ m : Nat, n = (m : Int) := ⟨n.toNat, by have := hm.1; omega⟩
        exact cneeds_ok m i ea ec E w (by omega) hE hp hm
      · exact cneeds_bad n i ea ec E w hn hE hp hm
    · by_cases hn2 : n ≤ 256
      · exact cneeds_long n i ea _ ec w (Or.inl ⟨by omega, hn2⟩)
      · exact cneeds_big n i ea _ ec w (by omega) hE
  · exact cneeds_long n i ea _ ec w (Or.inr (by omega))
end Go.Proofs.Ytddonekagmnokaa

