/-
  The contract of Keys.
-/
import Derived.Test.YthahddaihkajbaaK
set_option linter.unusedVariables false
set_option linter.unusedSimpArgs false
namespace Go.Proofs.Ythahddaihkajbaa
open Go.RowKit
theorem keys_nil (w : World) : Calls Try.prog 9 #[.pointer none] w fun e w' => e = .returned (.slice none 0 0) ∧ w' = w := by
  go_enter Try.func9, Try.ntmps9
  go_wp2_with fail
  go_ret
  exact ⟨rfl, rfl⟩
theorem infoStr : (Try.prog.info? 9).map (fun i => (i.zero, i.size, i.bytes)) = some (some (.string ByteArray.empty), 1, 16) := by kernel_rfl
theorem new_cells1 (w : World) (cs : List Value) (e : TypeId) (j : Nat) (u : Value) (h : cs[j]? = some u) : (w.alloc (.cells cs.toArray e)).cell? ((⟨w.heap.size, 0, none⟩ : Addr).add j) = some u := by
  rw [Addr.add_lit, Nat.zero_add]
  exact ((Bk.new w e cs.toArray).2 j u (by simpa using h)).1
set_option maxHeartbeats 4000000 in
theorem keys_any {p B : Nat} {v : Value} {ms : List Itm} {room : Int} (w : World) (h : Cs w p B v ms room) (hn5 : ms.length ≤ 5000) :
    Calls Try.prog 9 #[.pointer (some ⟨p, 0, none⟩)] w fun e w' => ∃ v', e = .returned v' ∧ w'.ownsRow w.heap.size 9 1 v' (ms.map (·.1)).length ((ms.map (·.1)).flatMap strC) ∧ Below w.heap.size w w' := by
  obtain ⟨i0, hi, hz0, hz1, hz2⟩ := info_parts infoStr
  have HC := Lib.hid h
  obtain ⟨a, cap, rfl⟩ := own_shape h.2.1
  have c0 := (h.1.2 0 _ rfl).1
  clear h
  obtain ⟨n, hn⟩ : ∃ n, n = ms.length := ⟨_, rfl⟩
  have HN := Lib.hid hn
  rw [← hn] at hn5 c0
  clear hn
  go_enter Try.func9, Try.ntmps9
  go_wp2
  go_loopw [3, 14] (fun v i wr => ∃ k : Nat, i = .int .i64 k ∧ k ≤ n ∧ wr.ownsRow w.heap.size 9 1 v ((ms.take k).map (·.1)).length (((ms.take k).map (·.1)).flatMap strC) ∧ Below w.heap.size w wr) (fun _ i _ => n - (intOf i).toNat)
  case atStart => exact ⟨0, rfl, by omega, own_nil _ _ _ _, Below.refl _ _⟩
  case round =>
    obtain ⟨k, rfl, hk, hown, hbw⟩ := hrel
    have HO := Lib.hid hown; have HBW := Lib.hid hbw
    clear hown hbw
    by_cases hlt : k < n
    · have hkl : k < ms.length := by rw [← HN.out]; exact hlt
      have d1 : decide (k < n) = true := decide_eq_true hlt
      obtain ⟨g, cap', he⟩ := own_some HC.out.2.1 (by omega)
      simp only [Value.slice.injEq, true_and] at he
      obtain ⟨rfl, rfl⟩ := he
      obtain ⟨c1, c2⟩ := row_cells (HC.out.keep HBW.out).2.1 k hkl
      have HZS : Hid ((ms.take (k + 1)).map (·.1) = (ms.take k).map (·.1) ++ [ms[k].1]) := Lib.hid (by rw [List.take_succ_eq_append_getElem hkl, List.map_append]; rfl)
      have hzk : ((ms.take k).map (·.1)).length ≤ k := by rw [List.length_map]; exact List.length_take_le _ _
      generalize ms[k].1 = X at *
      generalize ms[k].2 = Y at *
      generalize (ms.take k).map (·.1) = Z at *
      have d0 : (k : Int) < (n : Int) := by omega
      go_wp2_with (at_builtin; refine wpList_append_own _ rfl _ _ 33 rfl w.heap.size 9 i0 (.string ByteArray.empty) 1 16 Try.underlying33 hi hz0 hz1 hz2 rfl (by decide) _ _ _ rfl ((HO.out.alloc _).alloc _) ⟨wr.heap.size + 1, 0, none⟩ 1 1 [.string X] rfl rfl ?a1 ?a2 ?a3 ?a4 ?a5 ?_)
      case a1 => intro j u hj; have := new_cells1 (wr.alloc (.cells #[.string X, .string Y] 52)) [.string X] 9 j u hj; simpa using this
      case a2 => intro u hu; simp at hu; rcases hu with rfl; rfl
      case a3 => unfold maxLen; omega
      case a4 => omega
      case a5 => have h1 := HBW.out.size; simp; omega
      intro v5 w5 hown5 hg5 _
      have HB5 : Hid (Below w.heap.size w w5) := Lib.hid (((HBW.out.alloc HBW.out.size _).alloc (by have := HBW.out.size; simp; omega) _).grown hg5 (by have := HBW.out.size; simp; omega) (fun q hq => (HO.out.lt q hq).1))
      have HO5 : Hid (w5.ownsRow w.heap.size 9 1 v5 ((ms.take (k + 1)).map (·.1)).length (((ms.take (k + 1)).map (·.1)).flatMap strC)) := Lib.hid (by rw [HZS.out, List.length_append, List.flatMap_append]; exact hown5)
      clear hown5 hg5
      go_wp2
      go_roundw
      case rel => exact ⟨k + 1, by go_num, by omega, HO5.out, HB5.out⟩
      case measure => simp [intOf]; omega
    · obtain rfl : k = n := by omega
      have d1 : decide (k < k) = false := decide_eq_false (by omega)
      go_wp2
      go_ret
      have h1 := HO.out
      rw [HN.out, List.take_length, List.length_map] at h1
      exact ⟨_, rfl, h1, HBW.out⟩
end Go.Proofs.Ythahddaihkajbaa

