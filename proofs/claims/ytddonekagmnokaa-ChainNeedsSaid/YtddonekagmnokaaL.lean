/-
  The law of ChainOrders.
-/
import Derived.Test.YtddonekagmnokaaK
set_option linter.unusedVariables false
set_option linter.unusedSimpArgs false
namespace Go.Proofs.Ytddonekagmnokaa
open Go.RowKit Go.WideShapes Go.ChangeShapes Go.ChangeAt Go.Deep
def PairsOk (E : List (Int × Int)) (w : World) (v : Value) : Prop := ∃ a cap, v = .slice a E.length cap ∧ E.length ≤ maxLen ∧ Sl pairC 2 w a E ∧ ∀ p ∈ E, goodI p.1 ∧ goodI p.2
theorem open_pairs {H : Type} {enc : TypeId × Value → H} {w : World} {base base0 : Nat} {spare : Bool} {held : TypeId → Bool} {r : Reach} {v : Value} {d : DataW H} {p : List MemPlace}
    (hv : Value.okWide Try.prog w r base0 23 v) (h : DataW.Trod enc Try.prog w base held spare 23 v d p) : ∃ l, PairsOk l w v := by
  obtain ⟨xs, ⟨a, cap, rfl, hcap, hs⟩, hl, hg⟩ := open_sl pairC (fun p => goodI p.1 ∧ goodI p.2) 2 Try.underlying23 (by kernel_rfl) (by omega) (fun _ => rfl) (fun n cs y hy => by
    obtain ⟨zs, k1, k2, k3⟩ := open_arr_of Try.underlying36 Try.underlying3 (by kernel_rfl) (by kernel_rfl) hy
    obtain ⟨x, z, rfl⟩ := list2 k2
    exact ⟨(x, z), k1, k3 x (by simp), k3 z (by simp)⟩) hv h
  exact ⟨xs, a, cap, rfl, hl, hs, hg⟩
theorem infoB : ∃ i0, Try.prog.info? 4 = some i0 ∧ i0.zero = some (.bool false) ∧ i0.size = 1 ∧ i0.bytes = 1 := ⟨_, rfl, rfl, rfl, rfl⟩
theorem boolR_made (n : Nat) : madeCells #[.bool false] n = (boolR n []).toArray := by
  apply Array.ext
  · simp [madeCells, boolR]
  · intro i h1 h2
    simp [madeCells] at h1
    simp [madeCells, boolR, inD, Nat.mod_one]
theorem make_bool (n : Nat) (hn : n ≤ 256) (w : World) : (Instr.makeSlice 29 (.int .i64 n) (.int .i64 n)).run Try.prog w = .ok (.slice (some ⟨w.heap.size, 0, none⟩) n n) (w.alloc (.cells (boolR n []).toArray 4)) := by
  obtain ⟨i0, hi, hz, h1, h2⟩ := infoB
  have := run_make (P := Try.prog) w 29 4 i0 (.bool false) Try.underlying29 hi hz .i64 .i64 (n : Int) (n : Int) (by omega) (by omega) (by rw [h2]; omega) (by omega)
  rw [Int.toNat_natCast, h1, Nat.mul_one] at this
  rw [this]
  show Result.ok _ (w.alloc (.cells (madeCells #[.bool false] n) 4)) = _
  rw [boolR_made]
/-- What Order gives, in one form. -/
def OrdR (l : List ByteArray) (E : List (Int × Int)) (W : World) (ga : Option Addr) (gl : Nat) (ge : Int) : Prop :=
  ((ordL E l.length).length < l.length → gl = 0 ∧ ge = 11) ∧ ((ordL E l.length).length = l.length → gl = l.length ∧ ge = 0 ∧ Sl strC 1 W ga (outD l (ordL E l.length)))
theorem ordL_le (E : List (Int × Int)) (n : Nat) : (ordL E n).length ≤ n := by
  have key : ∀ f d, Came2 n d → Came2 n (ordF E n f d) := by
    intro f
    induction f with
    | zero => intro d h; exact h
    | succ f ih =>
      intro d h
      unfold ordF
      cases hf : (List.range n).find? (isFree E d) with
      | none => exact h
      | some i =>
        have hi : i < n := List.mem_range.1 (List.mem_of_find?_eq_some hf)
        exact ih _ (h.snoc hi ((isFree_iff E d i).1 (List.find?_some hf)).1)
  exact (key n [] ⟨List.nodup_nil, fun i h => by cases h⟩).len
theorem order_one (l : List ByteArray) (a ea : Option Addr) (c ec : Nat) (E : List (Int × Int)) (w : World) (hl : l.length ≤ 256) (hE : E.length ≤ 4096) (hls : Sl strC 1 w a l) (hs : Sl pairC 2 w ea E) (hg : ∀ p ∈ E, goodI p.1 ∧ goodI p.2) (hok : okN l.length E) :
    Calls Try.prog 6 #[.slice a l.length c, .slice ea E.length ec] w fun e w' => ∃ ga gl gc ge, e = .returned (.tuple #[.slice ga gl gc, .int .i64 ge]) ∧ OrdR l E w' ga gl ge ∧ Below w.heap.size w w' := by
  refine (order_ok l a ea c ec E w hl hE hls hs hg hok).mono ?_
  rintro e w' ⟨h, hb⟩
  have h2 := h.2 hok
  have hle := ordL_le E l.length
  by_cases hlt : (ordL E l.length).length < l.length
  · obtain rfl := h2.1 hlt
    exact ⟨_, _, _, _, rfl, ⟨fun _ => ⟨rfl, rfl⟩, fun e => by omega⟩, hb⟩
  · have he : (ordL E l.length).length = l.length := by omega
    obtain ⟨ga, gc, rfl, hs⟩ := h2.2 he
    exact ⟨ga, _, gc, _, rfl, ⟨fun e => by omega, fun _ => ⟨he, rfl, hs⟩⟩, hb⟩
set_option maxRecDepth 100000 in
set_option maxHeartbeats 16000000 in
theorem orders_bad (l : List ByteArray) (a ea : Option Addr) (c ec : Nat) (E : List (Int × Int)) (w : World) (hl : l.length ≤ 30) (hE : E.length ≤ 100) (hs : Sl pairC 2 w ea E) (hb : ¬ okN l.length E) :
    Calls Try.prog 3 #[.slice a l.length c, .slice ea E.length ec] w fun e w' => e = .returned (.bool true) ∧ Below w.heap.size w w' := by
  have T0 := order_bad l a ea c ec E w (by omega) (by omega) hs hb
  have T1 := fun W (h : Below w.heap.size w W) => places_any (l.length : Int) E ea ec W (by omega) (hs.keep h)
  obtain ⟨L, hL⟩ : ∃ L, L = E.length := ⟨_, rfl⟩
  obtain ⟨n, hn⟩ : ∃ n, n = l.length := ⟨_, rfl⟩
  have HN := Lib.hid hn
  rw [← hL, ← hn] at T0 T1
  rw [← hn] at hb hl
  rw [← hL] at hE
  rw [← hL, ← hn]
  have T := Lib.hid T0; have TP := Lib.hid T1
  have HBad := Lib.hid hb
  clear hL hs hb T0 T1 hn
  have d1 : decide ((30 : Int) < (n : Int)) = false := decide_eq_false (by omega)
  have d2 : decide ((100 : Int) < (L : Int)) = false := decide_eq_false (by omega)
  go_enter Try.func3, Try.ntmps3
  go_wp2_with fail
  refine T.out.mono ?_
  rintro e w1 ⟨hc, hb⟩
  obtain rfl := hc.1 (by rw [← HN.out]; exact HBad.out)
  have HB := Lib.hid hb
  clear hc hb
  go_wp2_with fail
  refine (TP.out _ HB.out).mono ?_
  rintro e w2 ⟨hc, rfl⟩
  obtain rfl := hc.2 HBad.out
  clear hc
  go_wp2_with fail
  refine (awake_any _).mono ?_
  rintro e w3 ⟨rfl, hb⟩
  have HB3 := Lib.hid (below_cons HB.out hb)
  clear hb
  go_wp2
  go_ret
  exact ⟨rfl, HB3.out⟩
set_option maxRecDepth 100000 in
set_option maxHeartbeats 16000000 in
theorem orders_long (a ea : Option Addr) (n c L ec : Nat) (w : World) (hl : 30 < n ∨ 100 < L) :
    Calls Try.prog 3 #[.slice a n c, .slice ea L ec] w fun e w' => e = .returned (.bool true) ∧ Below w.heap.size w w' := by
  by_cases h : 30 < n
  · have d1 : decide ((30 : Int) < (n : Int)) = true := decide_eq_true (by omega)
    clear hl
    go_enter Try.func3, Try.ntmps3
    go_wp2_with fail
    refine (awake_any _).mono ?_
    rintro e w3 ⟨rfl, hb⟩
    have HB3 := Lib.hid hb
    clear hb
    go_wp2
    go_ret
    exact ⟨rfl, HB3.out⟩
  · have d1 : decide ((30 : Int) < (n : Int)) = false := decide_eq_false (by omega)
    have d2 : decide ((100 : Int) < (L : Int)) = true := decide_eq_true (by omega)
    clear hl h
    go_enter Try.func3, Try.ntmps3
    go_wp2_with fail
    refine (awake_any _).mono ?_
    rintro e w3 ⟨rfl, hb⟩
    have HB3 := Lib.hid hb
    clear hb
    go_wp2
    go_ret
    exact ⟨rfl, HB3.out⟩
set_option maxRecDepth 100000 in
set_option maxHeartbeats 16000000 in
theorem orders_ok (l : List ByteArray) (a ea : Option Addr) (c ec : Nat) (E : List (Int × Int)) (w : World) (hl : l.length ≤ 30) (hE : E.length ≤ 100) (hls : Sl strC 1 w a l) (hs : Sl pairC 2 w ea E) (hg : ∀ p ∈ E, goodI p.1 ∧ goodI p.2) (hok : okN l.length E) :
    Calls Try.prog 3 #[.slice a l.length c, .slice ea E.length ec] w fun e w' => e = .returned (.bool true) ∧ Below w.heap.size w w' := by
  obtain ⟨i0, hi0, hz0, hz1, hz2⟩ := infoS
  have T0 := order_one l a ea c ec E w (by omega) (by omega) hls hs hg hok
  have T1 := fun W (h : Below w.heap.size w W) => places_any (l.length : Int) E ea ec W (by omega) (hs.keep h)
  have T2 := fun W (h : Below w.heap.size w W) d p dc hd => free_any l.length d p dc E ea ec W (by omega) (by omega) hd (hs.keep h) hok
  have T3 := fun (k : Nat) (hk : k < l.length) => slT_str hls k hk
  obtain ⟨L, hL⟩ : ∃ L, L = E.length := ⟨_, rfl⟩
  obtain ⟨n, hn⟩ : ∃ n, n = l.length := ⟨_, rfl⟩
  have HN := Lib.hid hn
  rw [← hL, ← hn] at T0
  rw [← hL, ← hn] at T1
  rw [← hL, ← hn] at T2
  rw [← hn] at hok hl
  rw [← hL] at hE
  rw [← hL, ← hn]
  have T := Lib.hid T0; have TP := Lib.hid T1; have TF := Lib.hid T2; have TS := Lib.hid T3
  have HOK := Lib.hid hok
  clear hL hs hls hok hg T0 T1 T2 T3 hn
  have d1 : decide ((30 : Int) < (n : Int)) = false := decide_eq_false (by omega)
  have d2 : decide ((100 : Int) < (L : Int)) = false := decide_eq_false (by omega)
  have hmk := make_bool n (by omega)
  go_enter Try.func3, Try.ntmps3
  go_wp2_with fail
  refine T.out.mono ?_
  rintro e w1 ⟨ga, gl, gc, ge, rfl, hc, hb⟩
  have HB := Lib.hid hb; have HC := Lib.hid hc
  clear hc hb
  go_wp2_with fail
  refine (TP.out _ HB.out).mono ?_
  rintro e w2 ⟨hc, rfl⟩
  obtain rfl := hc.1 HOK.out
  clear hc
  have HK2 : Hid (Bk w2.heap.size (boolR n []) (w2.alloc (.cells (boolR n []).toArray 4))) := Lib.hid (Bk.new w2 4 (boolR n []).toArray)
  have HB2 := Lib.hid (below_cons HB.out (below_new w2 (.cells (boolR n []).toArray 4)))
  have HBN := Lib.hid (below_new w2 (.cells (boolR n []).toArray 4))
  generalize (boolR n []).toArray = Z at hmk HK2 HB2 HBN
  go_wp2_with fail
  refine (TF.out _ HB2.out [] w2.heap.size n HK2.out).mono ?_
  rintro e w3 ⟨rfl, rfl⟩
  clear hmk
  obtain ⟨F, hF⟩ : ∃ F, F = freeR E n [] := ⟨_, rfl⟩
  rw [← hF]
  have HF := Lib.hid hF
  clear hF
  have HSZ : Hid ((w2.alloc (.cells Z 4)).heap.size = w2.heap.size + 1) := Lib.hid (by simp)
  have HST : Hid (Run E n []) := Lib.hid (Run.start E n)
  go_wp2
  go_loopg [8, 9] (n - ([] : List Nat).length) (fun k v i wr => ∃ d, k = n - d.length ∧ Run E n d ∧ i = .int .i64 (freeR E n d) ∧ Bk w2.heap.size (boolR n d) wr ∧ wr.ownsRow (w2.heap.size + 1) 9 1 v d.length ((outD l d).flatMap strC) ∧ Below w2.heap.size w2 wr)
  case atStart => exact ⟨[], rfl, HST.out, by rw [HF.out], HK2.out, own_nil _ _ _ _, HBN.out⟩
  case round =>
    obtain ⟨d, hgk, hrun, rfl, hbk, hrow, hbw⟩ := hrel
    clear HF HK2 HST HBN HB2
    have HGK := Lib.hid hgk; have HRUN := Lib.hid hrun; have HBK := Lib.hid hbk; have HROW := Lib.hid hrow; have HBW := Lib.hid hbw
    obtain ⟨av, cv, rfl⟩ := own_shape hrow
    have hdl := hrun.1.len
    clear hgk hrun hbk hrow hbw
    rcases freeR_inv E n d with ⟨j, hj, hfr, hfree, hfirst⟩ | ⟨hfr, hnone⟩
    · rw [hfr]
      have HFREE := Lib.hid hfree; have HFIRST := Lib.hid hfirst
      have HRUN2 := Lib.hid (HRUN.out.step hj hfree hfirst)
      clear hfr hfree hfirst
      have hcj := (HBK.out.2 j _ (boolR_get n d j hj))
      obtain ⟨hc1, hc2⟩ := hcj
      have gj : (j : Int) < (n : Int) := by omega
      have HBK2 : Hid (Bk w2.heap.size (boolR n (d ++ [j])) (wr.setCell ⟨w2.heap.size, j, none⟩ (.bool true))) := Lib.hid (by
        have := HBK.out.set j (by rw [boolR_len]; exact hj) (.bool true)
        rwa [boolR_set n d j hj] at this)
      have HROW2 : Hid ((wr.setCell ⟨w2.heap.size, j, none⟩ (.bool true)).ownsRow (w2.heap.size + 1) 9 1 (.slice av d.length cv) d.length ((outD l d).flatMap strC)) := Lib.hid
        (own_kp HROW.out (Kp.set (S := fun q => q = w2.heap.size) (Kp.refl _ wr) w2.heap.size j (.bool true) rfl) (fun g e => by omega))
      have HBW2 : Hid (Below w2.heap.size w2 (wr.setCell ⟨w2.heap.size, j, none⟩ (.bool true))) := Lib.hid (HBW.out.setCell (by simp) _)
      have hlj : j < l.length := by rw [← HN.out]; exact hj
      obtain ⟨b2, o2, rfl, hb2, hcs⟩ := TS.out j hlj
      have hcs2 : (wr.setCell ⟨w2.heap.size, j, none⟩ (.bool true)).cell? ⟨b2, o2 + j, none⟩ = some (.string l[j]) :=
        ((HB.out.trans (HBW2.out.mono HB.out.size)).cell (p := ⟨b2, o2 + j, none⟩) hb2).trans hcs
      have HSN : Hid (outD l (d ++ [j]) = outD l d ++ [l[j]]) := Lib.hid (outD_snoc l d j hlj)
      clear hcs
      generalize l[j] = s at *
      have HROW3 := Lib.hid (own_kept HROW2.out (below_new _ (.cells #[.string s] 9)))
      have HBK3 := Lib.hid (HBK2.out.keep (below_new _ (.cells #[.string s] 9)))
      have HBW3 := Lib.hid (HBW2.out.trans ((below_new _ (.cells #[.string s] 9)).mono HBW2.out.size))
      have hsw : w2.heap.size < wr.heap.size := HBK.out.1
      have a1 : ∀ q u, [Value.string s][q]? = some u → ((wr.setCell ⟨w2.heap.size, j, none⟩ (.bool true)).alloc (.cells #[.string s] 9)).cell? ((⟨wr.heap.size, 0, none⟩ : Addr).add q) = some u := fun q u hu => new_cells_at (by simp) _ _ _ _ hu
      have HA1 := Lib.hid a1
      clear a1
      go_wp2_with (at_builtin; refine wpList_append_own _ rfl _ _ 22 rfl (w2.heap.size + 1) 9 i0 (.string ByteArray.empty) 1 16 Try.underlying22 hi0 hz0 hz1 hz2 rfl (by decide) _ _ _ rfl HROW3.out ⟨wr.heap.size, 0, none⟩ 1 1 [.string s] rfl rfl ?a1 ?a2 ?a3 ?a4 ?a5 ?_)
      case a1 => exact HA1.out
      case a2 => intro u hu; simp at hu; rcases hu with rfl; rfl
      case a3 => unfold maxLen; omega
      case a4 => omega
      case a5 => simp; omega
      intro v5 w5 hown5 hg5 _
      have HROW5 : Hid (w5.ownsRow (w2.heap.size + 1) 9 1 v5 (d ++ [j]).length ((outD l (d ++ [j])).flatMap strC)) := Lib.hid (by rw [HSN.out, List.length_append, List.flatMap_append]; exact hown5)
      have HK5 : Hid (Kp (fun q => w2.heap.size + 1 ≤ q) ((wr.setCell ⟨w2.heap.size, j, none⟩ (.bool true)).alloc (.cells #[.string s] 9)) w5) := Lib.hid (Kp.grown hg5 (fun q hq => (HROW3.out.lt q hq).1))
      have HBK5 : Hid (Bk w2.heap.size (boolR n (d ++ [j])) w5) := Lib.hid (HBK3.out.kp HK5.out (fun e => by omega))
      have HBW5 : Hid (Below w2.heap.size w2 w5) := Lib.hid (HBW3.out.trans (HK5.out.below (by simp; omega) (fun q hq => by omega)))
      have HB5 : Hid (Below w.heap.size w w5) := Lib.hid (HB.out.trans (HBW5.out.mono HB.out.size))
      obtain ⟨a5, c5, rfl⟩ := own_shape HROW5.out
      obtain ⟨n5, hn5⟩ : ∃ n5, n5 = (d ++ [j]).length := ⟨_, rfl⟩
      rw [← hn5] at HROW5 ⊢
      have HN5 := Lib.hid hn5
      clear hown5 hg5 HK5 hc1 hc2 hcs2 hn5
      go_wp2_with fail
      refine (TF.out _ HB5.out (d ++ [j]) w2.heap.size n HBK5.out).mono ?_
      rintro e w6 ⟨rfl, rfl⟩
      obtain ⟨F, hF⟩ : ∃ F, F = freeR E n (d ++ [j]) := ⟨_, rfl⟩
      rw [← hF]
      have HF := Lib.hid hF
      clear hF
      go_wp2
      go_roundg (n - (d ++ [j]).length)
      case rel => exact ⟨d ++ [j], rfl, HRUN2.out, by rw [HF.out], HBK5.out, by rw [← HN5.out]; exact HROW5.out, HBW5.out⟩
      case measure =>
        have h1 := HRUN2.out.1.len
        rw [HGK.out]
        rw [List.length_append] at h1 ⊢
        simp only [List.length_cons, List.length_nil] at h1 ⊢
        omega
    · rw [hfr]
      have HE : Hid (ordL E n = d) := Lib.hid (HRUN.out.stop hnone)
      have HB5 : Hid (Below w.heap.size w wr) := Lib.hid (HB.out.trans (HBW.out.mono HB.out.size))
      obtain ⟨hc1, hc2⟩ := HC.out
      rw [← HN.out, HE.out] at hc1 hc2
      have HC1 := Lib.hid hc1; have HC2 := Lib.hid hc2
      clear hfr hnone hc1 hc2
      by_cases hlt : d.length < n
      · obtain ⟨rfl, rfl⟩ := HC1.out hlt
        have g1 : (d.length : Int) < (n : Int) := by omega
        go_wp2_with fail
        refine (awake_any _).mono ?_
        rintro e w9 ⟨rfl, hb⟩
        have HB9 := Lib.hid (below_cons HB5.out hb)
        clear hb
        go_wp2
        go_ret
        exact ⟨rfl, HB9.out⟩
      · have hde : d.length = n := by omega
        obtain ⟨hgl, rfl, hsl⟩ := HC2.out hde
        have HG := Lib.hid (Sl.keep hsl HBW.out)
        obtain ⟨a2, c2, e2, _, hw2⟩ := own_sl (enc := strC) (fun _ => rfl) (by decide) (l := outD l d) (by rw [outD_len]; exact HROW.out)
        rw [outD_len] at e2
        simp only [Value.slice.injEq] at e2
        obtain ⟨rfl, _, rfl⟩ := e2
        have TT0 := texts_eq (outD l d) (outD l d) ga av gc cv wr HG.out hw2 (by rw [outD_len]; omega)
        rw [outD_len, decide_eq_true rfl] at TT0
        rw [hgl]
        have TT := Lib.hid TT0
        obtain ⟨n7, hn7⟩ : ∃ n7, n7 = d.length := ⟨_, rfl⟩
        rw [← hn7] at TT ⊢
        have h77 : n7 = n := by omega
        clear hsl hw2 TT0 hgl hlt hde hn7
        rw [h77]
        rw [h77] at TT
        clear h77
        have gnn : ¬ (n : Int) < (n : Int) := by omega
        go_wp2_with fail
        refine TT.out.mono ?_
        rintro e w8 ⟨rfl, q, rfl⟩
        go_wp2_with fail
        refine (awake_any _).mono ?_
        rintro e w9 ⟨rfl, hb⟩
        have HB9 := Lib.hid (below_cons (below_drewN HB5.out q) hb)
        clear hb
        go_wp2
        go_ret
        exact ⟨rfl, HB9.out⟩
theorem orders_law (v0 : Value) (l : List ByteArray) (v1 : Value) (E : List (Int × Int)) (w : World) (h0 : StrsOk l w v0) (h1 : PairsOk E w v1) : Calls Try.prog 3 #[v0, v1] w fun e w' => e = .returned (.bool true) ∧ Below w.heap.size w w' := by
  obtain ⟨a, c, rfl, _, _, hs, _⟩ := h0
  obtain ⟨ea, ec, rfl, _, hp, hg⟩ := h1
  by_cases hl : l.length ≤ 30
  · by_cases hE : E.length ≤ 100
    · by_cases hok : okN l.length E
      · exact orders_ok l a ea c ec E w hl hE hs hp hg hok
      · exact orders_bad l a ea c ec E w hl hE hp hok
    · exact orders_long a ea _ c _ ec w (Or.inr (by omega))
  · exact orders_long a ea _ c _ ec w (Or.inl (by omega))
end Go.Proofs.Ytddonekagmnokaa

