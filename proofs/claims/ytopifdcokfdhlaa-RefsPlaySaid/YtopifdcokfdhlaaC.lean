/-
  The contracts of refs: New, Of, Len, Zero, Add, Drop.
-/
import Derived.Test.YtopifdcokfdhlaaB
import Derived.Maps.AppendAt
set_option linter.unusedVariables false
set_option linter.unusedSimpArgs false
namespace Go.Proofs.Ytopifdcokfdhlaa
open Go.RowKit
/-- Counts lie at block p, their map at block b: each text of x counts as often as it is there. -/
def Rx (w : World) (p b : Nat) (x : List ByteArray) : Prop :=
  Bk p [.map (some b)] w ∧ p ≠ b ∧ (∀ s ∈ x, s.size ≤ maxLen) ∧ ∃ ks f, HM kd w b ks f ∧ (∀ s, s ∈ ks ↔ s ∈ x) ∧ ∀ s : ByteArray, s.size ≤ maxLen → f s = (cnt x s : Int)
theorem Rx.kp {S : Nat → Prop} {w w' : World} {p b : Nat} {x : List ByteArray} (h : Rx w p b x) (k : Kp S w w') (h1 : ¬ S p) (h2 : ¬ S b) : Rx w' p b x := by
  obtain ⟨hb, hne, hg, ks, f, hm, r⟩ := h
  exact ⟨hb.kp k h1, hne, hg, ks, f, hm.kp k h2, r⟩
theorem Rx.keep {w w' : World} {p b : Nat} {x : List ByteArray} (h : Rx w p b x) (k : Below w.heap.size w w') : Rx w' p b x := h.kp (Kp.new (S := fun _ => False) k) (fun h => h) (fun h => h)
theorem new_any (w : World) : Calls Try.prog 6 #[] w fun e w' => e = .returned (.pointer (some ⟨w.heap.size + 1, 0, none⟩)) ∧ Rx w' (w.heap.size + 1) w.heap.size [] ∧ Below w.heap.size w w' := by
  have hmm := @run_makeMap Try.prog
  go_enter Try.func6, Try.ntmps6
  go_wp2_with fail
  go_ret
  refine ⟨rfl, ⟨?_, by omega, by simp, [], _, (HM.made kd w).keep (below_new _ _), by simp, fun s _ => rfl⟩, ?_⟩
  · have := Bk.new (w.alloc (.map #[] 0)) 42 #[.map (some w.heap.size)]
    simpa using this
  · exact below_step (below_new _ _) (Nat.le_refl _) (below_new _ _)
theorem of_nil (s : ByteArray) (w : World) : Calls Try.prog 11 #[.pointer none, .string s] w fun e w' => e = .returned (.int .i64 0) ∧ w' = w := by
  go_enter Try.func11, Try.ntmps11
  go_wp2_with fail
  go_ret
  exact ⟨rfl, rfl⟩
theorem len_nil (w : World) : Calls Try.prog 14 #[.pointer none] w fun e w' => e = .returned (.int .i64 0) ∧ w' = w := by
  go_enter Try.func14, Try.ntmps14
  go_wp2_with fail
  go_ret
  exact ⟨rfl, rfl⟩
theorem zero_nil (v : Value) (w : World) : Calls Try.prog 13 #[.pointer none, v] w fun e w' => e = .returned (.slice none 0 0) ∧ w' = w := by
  go_enter Try.func13, Try.ntmps13
  go_wp2_with fail
  go_ret
  exact ⟨rfl, rfl⟩
theorem add_nil (v : Value) (w : World) : Calls Try.prog 9 #[.pointer none, v] w fun e w' => e = .returned (.int .i64 12) ∧ w' = w := by
  go_enter Try.func9, Try.ntmps9
  go_wp2_with fail
  go_ret
  exact ⟨rfl, rfl⟩
theorem drop_nil (v : Value) (w : World) : Calls Try.prog 8 #[.pointer none, v] w fun e w' => e = .returned (.bool false) ∧ w' = w := by
  go_enter Try.func8, Try.ntmps8
  go_wp2_with fail
  go_ret
  exact ⟨rfl, rfl⟩
theorem of_any {p b : Nat} {x : List ByteArray} (s : ByteArray) (w : World) (h : Rx w p b x) (hs : s.size ≤ maxLen) : Calls Try.prog 11 #[.pointer (some ⟨p, 0, none⟩), .string s] w fun e w' => e = .returned (.int .i64 (cnt x s)) ∧ w' = w := by
  obtain ⟨hb, hne, hg, ks, f, hm, hk, hf⟩ := h
  have c1 := (hb.2 0 _ rfl).1
  have hgt := hm_get hm hs
  rw [hf s hs] at hgt
  clear hf hk hg
  go_enter Try.func11, Try.ntmps11
  go_wp2_with fail
  go_ret
  exact ⟨rfl, rfl⟩
theorem len_any {p b : Nat} {x : List ByteArray} (w : World) (h : Rx w p b x) : Calls Try.prog 14 #[.pointer (some ⟨p, 0, none⟩)] w fun e w' => e = .returned (.int .i64 (onceK x x.length)) ∧ w' = w := by
  obtain ⟨hb, hne, hg, ks, f, hm, hk, hf⟩ := h
  have c1 := (hb.2 0 _ rfl).1
  have hgt := hm_len hm
  rw [len_once hm.nodup hk] at hgt
  clear hf hk hg
  go_enter Try.func14, Try.ntmps14
  go_wp2_with fail
  go_ret
  exact ⟨rfl, rfl⟩
theorem infoS : (Try.prog.info? 9).map (fun i => (i.zero, i.size, i.bytes)) = some (some (.string ByteArray.empty), 1, 16) := by kernel_rfl
theorem zeroL_len (x l : List ByteArray) : (zeroL x l).length ≤ l.length := List.length_filter_le _ _
set_option maxHeartbeats 4000000 in
theorem zero_any {p b : Nat} {x : List ByteArray} (l : List ByteArray) (a : Option Addr) (cap : Nat) (w : World) (h : Rx w p b x) (hs : Sl strC 1 w a l) (hl : l.length ≤ 1000000) (hg : ∀ s ∈ l, s.size ≤ maxLen) :
    Calls Try.prog 13 #[.pointer (some ⟨p, 0, none⟩), .slice a l.length cap] w fun e w' => ∃ v, e = .returned v ∧ w'.ownsRow w.heap.size 9 1 v (zeroL x l).length ((zeroL x l).flatMap strC) ∧ Below w.heap.size w w' := by
  obtain ⟨i0, hi, hz0, hz1, hz2⟩ := info_parts infoS
  have HS := Lib.hid hs; have HG := Lib.hid hg
  have HX : Hid (∀ wr, Below w.heap.size w wr → wr.cell? ⟨p, 0, none⟩ = some (.map (some b)) ∧ ∀ s : ByteArray, s.size ≤ maxLen → (Instr.lookup 40 (.map (some b)) (.string s) false).run Try.prog wr = .ok (.int .i64 (cnt x s)) wr) := Lib.hid (fun wr hb => by
    obtain ⟨hb', hne, hg, ks, f, hm, hk, hf⟩ := h.keep hb
    refine ⟨(hb'.2 0 _ rfl).1, fun s hs => ?_⟩
    rw [← hf s hs]; exact hm_get hm hs)
  clear hs hg h
  obtain ⟨n, hn⟩ : ∃ n, n = l.length := ⟨_, rfl⟩
  have HN := Lib.hid hn
  rw [← hn] at hl ⊢
  clear hn
  go_enter Try.func13, Try.ntmps13
  go_wp2
  go_loopw [5, 12] (fun v i wr => ∃ k : Nat, i = .int .i64 k ∧ k ≤ n ∧ wr.ownsRow w.heap.size 9 1 v (zeroL x (l.take k)).length ((zeroL x (l.take k)).flatMap strC) ∧ Below w.heap.size w wr) (fun _ i _ => n - (intOf i).toNat)
  case atStart => exact ⟨0, rfl, by omega, own_nil _ _ _ _, Below.refl _ _⟩
  case round =>
    obtain ⟨k, rfl, hk, hown, hbw⟩ := hrel
    have HO := Lib.hid hown; have HBW := Lib.hid hbw
    clear hown hbw
    by_cases hlt : k < n
    · have hkl : k < l.length := by rw [← HN.out]; exact hlt
      obtain ⟨b2, o, rfl, hb, hc⟩ := sl_one HS.out k hkl
      have hc2 := (HBW.out.cell (p := ⟨b2, o + k, none⟩) hb).trans hc
      clear hc
      have hgk := HG.out l[k] (List.getElem_mem hkl)
      have hzl := zeroL_len x (l.take k)
      have htl : (l.take k).length ≤ k := List.length_take_le _ _
      have HZS := Lib.hid (zeroL_snoc x l k hkl)
      have c1 := (HX.out _ HBW.out).1
      have hgt := (HX.out _ HBW.out).2 _ hgk
      obtain ⟨C, hC⟩ : ∃ C : Nat, C = cnt x l[k] := ⟨_, rfl⟩
      rw [← hC] at hgt HZS
      clear hC
      generalize l[k] = s at *
      have hzk : (zeroL x (l.take k)).length ≤ k := by omega
      generalize zeroL x (l.take k) = Z at *
      have d1 : (k : Int) < (n : Int) := by omega
      by_cases hz : C = 0
      · have d2 : ((C : Int) == 0) = true := by simp; omega
        rw [if_pos hz] at HZS
        clear hz
        go_wp2_with (at_builtin; refine wpList_append_own _ rfl _ _ 26 rfl w.heap.size 9 i0 (.string ByteArray.empty) 1 16 Try.underlying26 hi hz0 hz1 hz2 rfl (by decide) _ _ _ rfl (HO.out.alloc _) ⟨wr.heap.size, 0, none⟩ 1 1 [.string s] rfl rfl ?a1 ?a2 ?a3 ?a4 ?a5 ?_)
        case a1 => intro j u hj; exact new_cells _ _ _ j u hj
        case a2 => intro u hu; simp at hu; rcases hu with rfl; rfl
        case a3 => unfold maxLen; omega
        case a4 => omega
        case a5 => have h1 := HBW.out.size; simp; omega
        intro v5 w5 hown5 hg5 _
        have HB5 : Hid (Below w.heap.size w w5) := Lib.hid ((HBW.out.alloc HBW.out.size _).grown hg5 (by have := HBW.out.size; simp; omega) (fun q hq => (HO.out.lt q hq).1))
        have HO5 : Hid (w5.ownsRow w.heap.size 9 1 v5 (zeroL x (l.take (k + 1))).length ((zeroL x (l.take (k + 1))).flatMap strC)) := Lib.hid (by rw [HZS.out, List.length_append, List.flatMap_append]; exact hown5)
        clear hown5 hg5
        go_wp2
        go_roundw
        case rel => exact ⟨k + 1, by go_num, by omega, HO5.out, HB5.out⟩
        case measure => simp [intOf]; omega
      · have d2 : ((C : Int) == 0) = false := by simp; omega
        rw [if_neg hz] at HZS
        clear hz
        go_wp2
        go_roundw
        case rel => exact ⟨k + 1, by go_num, by omega, by rw [HZS.out]; exact HO.out, HBW.out⟩
        case measure => simp [intOf]; omega
    · obtain rfl : k = n := by omega
      go_wp2
      go_ret
      have h1 := HO.out
      rw [HN.out, List.take_length] at h1
      exact ⟨_, rfl, h1, HBW.out⟩
end Go.Proofs.Ytopifdcokfdhlaa

