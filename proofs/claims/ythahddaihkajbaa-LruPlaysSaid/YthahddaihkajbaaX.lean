/-
  The walk of LruPlays, and its law. Conditions: none.
-/
import Derived.Test.YthahddaihkajbaaV
import Derived.Test.YthahddaihkajbaaO
set_option linter.unusedVariables false
set_option linter.unusedSimpArgs false
namespace Go.Proofs.Ythahddaihkajbaa
open Go.RowKit Go.WideShapes Go.ChangeShapes Go.ChangeAt Go.Deep
abbrev Dd := Int × ByteArray × ByteArray
def encD (d : Dd) : List Value := [.int .i64 d.1, .string d.2.1, .string d.2.2]
set_option maxRecDepth 100000 in
theorem long_walk (n : Int) (a : Option Addr) (m cap : Nat) (w : World) (hm : 50 < m) :
    Calls Try.prog 3 #[.int .i64 n, .slice a m cap] w fun e w' => e = .returned (.bool true) ∧ Below w.heap.size w w' := by
  have g1 : decide ((50 : Int) < (m : Int)) = true := decide_eq_true (by omega)
  go_enter Try.func3, Try.ntmps3
  go_wp2_with fail
  refine (awake_any _).mono ?_
  rintro e w1 ⟨rfl, hb⟩
  go_wp2
  go_ret
  exact ⟨rfl, hb⟩
set_option maxRecDepth 100000 in
theorem bad_walk (n : Int) (a : Option Addr) (m cap : Nat) (w : World) (hm : m ≤ 50) (h : n < 1 ∨ 4096 < n) :
    Calls Try.prog 3 #[.int .i64 n, .slice a m cap] w fun e w' => e = .returned (.bool true) ∧ Below w.heap.size w w' := by
  have g1 : decide ((50 : Int) < (m : Int)) = false := decide_eq_false (by omega)
  have T := Lib.hid (fun w => bad_any n w h)
  by_cases h1 : n < 1
  · clear h
    go_enter Try.func3, Try.ntmps3
    go_wp2_with fail
    refine (T.out _).mono ?_
    rintro e w1 ⟨rfl, rfl⟩
    go_wp2_with fail
    refine (awake_any _).mono ?_
    rintro e w2 ⟨rfl, hb⟩
    go_wp2
    go_ret
    exact ⟨rfl, hb⟩
  · have h2 : 4096 < n := by omega
    clear h
    go_enter Try.func3, Try.ntmps3
    go_wp2_with fail
    refine (T.out _).mono ?_
    rintro e w1 ⟨rfl, rfl⟩
    go_wp2_with fail
    refine (awake_any _).mono ?_
    rintro e w2 ⟨rfl, hb⟩
    go_wp2
    go_ret
    exact ⟨rfl, hb⟩
theorem do_len (ms : List Itm) (room : Nat) (kd : Int) (k x : ByteArray) (hn : ms.length ≤ room) : (doI ms room kd k x).length ≤ room := by
  unfold doI
  split
  · rw [put_take ms k x room hn, List.length_take]; omega
  · split
    · rw [get_len]; exact hn
    · exact Nat.le_trans (drop_len ms k) hn
set_option maxRecDepth 100000 in
set_option maxHeartbeats 32000000 in
theorem plays_walk (R : Nat) (a : Option Addr) (l : List Dd) (cap : Nat) (w : World) (hl : l.length ≤ 50) (h1 : 1 ≤ R) (h2 : R ≤ 4096) (hs : Sl encD 3 w a l) :
    Calls Try.prog 3 #[.int .i64 R, .slice a l.length cap] w fun e w' => e = .returned (.bool true) ∧ Below w.heap.size w w' := by
  obtain ⟨i0, hi0, hz0, hz1, hz2⟩ := info_parts infoStr
  have HS := Lib.hid hs
  clear hs
  obtain ⟨n, hn⟩ : ∃ n, n = l.length := ⟨_, rfl⟩
  have HN := Lib.hid hn
  rw [← hn] at hl ⊢
  clear hn
  have g1 : decide ((50 : Int) < (n : Int)) = false := decide_eq_false (by omega)
  have g2 : ¬ (R : Int) < 1 := by omega
  have g3 : ¬ (4096 : Int) < (R : Int) := by omega
  go_enter Try.func3, Try.ntmps3
  go_wp2_with fail
  refine (new_any (R : Int) w (by omega) (by omega)).mono ?_
  rintro e w1 ⟨rfl, hc, hb⟩
  obtain ⟨p, hp⟩ : ∃ p, p = w.heap.size := ⟨_, rfl⟩
  have hpy : Py w w1 p (.slice none 0 0) [] [] R := ⟨_, _, by rw [hp]; exact hc, by omega, own_nil _ _ _ _, (fun g hg => by cases hg), hb⟩
  have HP0 := Lib.hid hpy
  rw [← hp]
  clear hc hb hp hpy
  go_wp2
  clear g1 g2 g3
  go_loopw [7, 8] (fun vx i wr => ∃ (k : Nat) (ms : List Itm), i = .int .i64 k ∧ k ≤ n ∧ ms.length ≤ R ∧ Py w wr p vx ms ms R) (fun _ i _ => n - (intOf i).toNat)
  case atStart => exact ⟨0, [], rfl, by omega, by simp, HP0.out⟩
  case round =>
    clear HP0
    obtain ⟨k, ms, rfl, hk, hms, hpy⟩ := hrel
    have HP := Lib.hid hpy
    have HB := Lib.hid hpy.below
    clear hpy
    by_cases hlt : k < n
    · have hkl : k < l.length := by rw [← HN.out]; exact hlt
      obtain ⟨b2, o2, rfl, hb2, hc2⟩ := HS.out k hkl
      have c0 : wr.cell? ⟨b2, o2 + k * 3, none⟩ = some (.int .i64 l[k].1) := (HB.out.cell (p := ⟨b2, o2 + k * 3, none⟩) hb2).trans (hc2 0 _ rfl)
      have c1 : wr.cell? ⟨b2, o2 + k * 3 + 1, none⟩ = some (.string l[k].2.1) := (HB.out.cell (p := ⟨b2, o2 + k * 3 + 1, none⟩) hb2).trans (hc2 1 _ rfl)
      have c2 : wr.cell? ⟨b2, o2 + k * 3 + 2, none⟩ = some (.string l[k].2.2) := (HB.out.cell (p := ⟨b2, o2 + k * 3 + 2, none⟩) hb2).trans (hc2 2 _ rfl)
      have gi : (k : Int) < (n : Int) := by omega
      clear hc2
      generalize l[k] = d at *
      obtain ⟨kd, K, V⟩ := d
      dsimp only at c0 c1 c2
      by_cases hK : 100 < K.size
      · have d1 : decide ((100 : Int) < (K.size : Int)) = true := decide_eq_true (by omega)
        clear hK
        go_wp2
        go_roundw
        case rel => exact ⟨k + 1, ms, by go_num, by omega, hms, HP.out⟩
        case measure => simp [intOf]; omega
      · have d1 : decide ((100 : Int) < (K.size : Int)) = false := decide_eq_false (by omega)
        by_cases hV : 100 < V.size
        · have d2 : decide ((100 : Int) < (V.size : Int)) = true := decide_eq_true (by omega)
          clear hK hV
          go_wp2
          go_roundw
          case rel => exact ⟨k + 1, ms, by go_num, by omega, hms, HP.out⟩
          case measure => simp [intOf]; omega
        · have d2 : decide ((100 : Int) < (V.size : Int)) = false := decide_eq_false (by omega)
          have T := do_any kd K V HP.out h2 hms h1
          have hxl := do_len ms R kd K V hms
          generalize doI ms R kd K V = xs at *
          have HT := Lib.hid T
          clear T hK hV
          go_wp2_with fail
          refine HT.out.mono ?_
          rintro e w2 ⟨vy, rfl, hpy⟩
          have HP2 := Lib.hid hpy
          clear HT hpy c0 c1 c2 d1 d2
          obtain ⟨ay, cy, rfl⟩ := HP2.out.shape
          obtain ⟨N, hN⟩ : ∃ N, N = xs.length := ⟨_, rfl⟩
          have HNN := Lib.hid hN
          have hsl : (Value.slice ay xs.length cy) = .slice ay N cy := by rw [hN]
          rw [hsl]
          have hNR : N ≤ R := by omega
          clear hN hsl
          go_wp2
          go_loopw [11, 12] (fun vk j wr2 => ∃ m : Nat, j = .int .i64 m ∧ m ≤ N ∧ wr2.ownsRow w2.heap.size 9 1 vk ((xs.take m).map (·.1)).length (((xs.take m).map (·.1)).flatMap strC) ∧ Below w2.heap.size w2 wr2) (fun _ j _ => N - (intOf j).toNat)
          case atStart => exact ⟨0, rfl, by omega, own_nil _ _ _ _, Below.refl _ _⟩
          case round =>
            obtain ⟨m, rfl, hm, hown, hbw⟩ := hrel
            have HO := Lib.hid hown; have HBW := Lib.hid hbw
            clear hown hbw
            by_cases hmt : m < N
            · have hml : m < xs.length := by rw [← HNN.out]; exact hmt
              have d1 : decide (m < N) = true := decide_eq_true hmt
              have hrow := (HP2.out.keep HBW.out).row
              obtain ⟨g, cap', he⟩ := own_some hrow (by omega)
              simp only [Value.slice.injEq, true_and] at he
              obtain ⟨he1, he2⟩ := he
              subst he1
              obtain ⟨c1, c2⟩ := row_cellsP hrow m hml
              have HZS : Hid ((xs.take (m + 1)).map (·.1) = (xs.take m).map (·.1) ++ [xs[m].1]) := Lib.hid (by rw [List.take_succ_eq_append_getElem hml, List.map_append]; rfl)
              have hzk : ((xs.take m).map (·.1)).length ≤ m := by rw [List.length_map]; exact List.length_take_le _ _
              generalize xs[m].1 = X at *
              generalize xs[m].2 = Y at *
              generalize (xs.take m).map (·.1) = Z at *
              have d0 : (m : Int) < (N : Int) := by omega
              clear hrow he2
              go_wp2_with (at_builtin; refine wpList_append_own _ rfl _ _ 33 rfl w2.heap.size 9 i0 (.string ByteArray.empty) 1 16 Try.underlying33 hi0 hz0 hz1 hz2 rfl (by decide) _ _ _ rfl (HO.out.alloc _) ⟨wr.heap.size, 0, none⟩ 1 1 [.string X] rfl rfl ?a1 ?a2 ?a3 ?a4 ?a5 ?_)
              case a1 => intro j u hj; exact new_cells1 wr [.string X] 9 j u hj
              case a2 => intro u hu; simp at hu; rcases hu with rfl; rfl
              case a3 => unfold maxLen; omega
              case a4 => omega
              case a5 => have h1 := HBW.out.size; simp; omega
              intro v5 w5 hown5 hg5 _
              have HB5 : Hid (Below w2.heap.size w2 w5) := Lib.hid ((HBW.out.alloc HBW.out.size _).grown hg5 (by have := HBW.out.size; simp; omega) (fun q hq => (HO.out.lt q hq).1))
              have HO5 : Hid (w5.ownsRow w2.heap.size 9 1 v5 ((xs.take (m + 1)).map (·.1)).length (((xs.take (m + 1)).map (·.1)).flatMap strC)) := Lib.hid (by rw [HZS.out, List.length_append, List.flatMap_append]; exact hown5)
              obtain ⟨a5, c5, rfl⟩ := own_shape hown5
              clear hown5 hg5
              go_wp2
              go_roundw
              case rel => exact ⟨m + 1, by go_num, by omega, HO5.out, HB5.out⟩
              case measure => simp [intOf]; omega
            · have d1 : decide (m < N) = false := decide_eq_false hmt
              obtain rfl : m = N := by omega
              have HKE : Hid ((xs.take m).map (·.1) = xs.map (·.1)) := Lib.hid (by rw [List.take_of_length_le (by rw [← HNN.out]; exact Nat.le_refl _)])
              have HO2 := HO.out
              rw [HKE.out] at HO2
              obtain ⟨ak, ck, rfl, _, hsk⟩ := own_sl (enc := strC) (size := 1) (fun _ => rfl) (by decide) HO2
              have HSK := Lib.hid hsk
              have HC := Lib.hid (HP2.out.keep HBW.out)
              have T := Cx.keys HC.out.cx (by omega)
              have HT := Lib.hid T
              clear T HO2 hsk hmt
              go_wp2_with fail
              refine HT.out.mono ?_
              rintro e w6 ⟨a6, c6, rfl, hs6, _, hb6⟩
              have HP6 : Hid (Py w w6 p (.slice ay m cy) xs xs R) := Lib.hid (by rw [HNN.out]; exact HC.out.keep hb6)
              have T2 := texts_eq (xs.map (·.1)) (xs.map (·.1)) a6 ak c6 ck w6 hs6 (HSK.out.keep hb6) (by rw [List.length_map, ← HNN.out]; omega)
              rw [decide_eq_true rfl, List.length_map] at T2
              have HT2 := Lib.hid T2
              clear T2 hs6 hb6
              go_wp2_with fail
              refine HT2.out.mono ?_
              rintro e w7 ⟨rfl, n7, rfl⟩
              have HP7 := Lib.hid (HP6.out.keep (below_drewN (Below.refl _ _) n7))
              clear HT2 HP6 HC HT HP2
              go_wp2
              go_roundw
              case rel => exact ⟨k + 1, xs, by go_num, by omega, hxl, HP7.out⟩
              case measure => simp [intOf]; omega
    · obtain rfl : k = n := by omega
      have gi : ¬ (k : Int) < (k : Int) := by omega
      go_wp2_with fail
      refine (awake_any _).mono ?_
      rintro e w9 ⟨rfl, hb⟩
      have HB9 := Lib.hid (below_cons HB.out hb)
      clear hb
      go_wp2
      go_ret
      exact ⟨rfl, HB9.out⟩
def DeedsOk (w : World) (v : Value) : Prop := ∃ (l : List Dd) (a : Option Addr) (cap : Nat), v = .slice a l.length cap ∧ Sl encD 3 w a l
theorem open_deeds {H : Type} {enc : TypeId × Value → H} {w : World} {base base0 : Nat} {spare : Bool} {held : TypeId → Bool} {r : Reach} {v : Value} {d : DataW H} {p : List MemPlace}
    (hv : Value.okWide Try.prog w r base0 22 v) (h : DataW.Trod enc Try.prog w base held spare 22 v d p) : ∃ x : Unit, DeedsOk w v := by
  obtain ⟨xs, ⟨a, cap, rfl, _, hs⟩, _, _⟩ := open_sl encD (fun d => True) 3 Try.underlying22 (by kernel_rfl) (by omega) (fun _ => rfl) (fun n cs y hy => by
    obtain ⟨kd, s, t, rfl, _⟩ := deed_of hy
    exact ⟨(kd, s, t), rfl, trivial⟩) hv h
  exact ⟨(), xs, a, cap, rfl, hs⟩
theorem plays_law (n : Int) (v : Value) (_x : Unit) (w : World) (w0 : (Lit.int .i64 n).wf = true) (h : DeedsOk w v) : Calls Try.prog 3 #[.int .i64 n, v] w fun e w' => e = .returned (.bool true) ∧ Below w.heap.size w w' := by
  obtain ⟨l, a, cap, rfl, hs⟩ := h
  by_cases hl : l.length ≤ 50
  · by_cases hm : n < 1 ∨ 4096 < n
    · exact bad_walk n a l.length cap w hl hm
    · obtain ⟨m, rfl⟩ : ∃ m : Nat, n = m := ⟨n.toNat, by omega⟩
      exact plays_walk m a l cap w hl (by omega) (by omega) hs
  · exact long_walk n a l.length cap w (by omega)
end Go.Proofs.Ythahddaihkajbaa

