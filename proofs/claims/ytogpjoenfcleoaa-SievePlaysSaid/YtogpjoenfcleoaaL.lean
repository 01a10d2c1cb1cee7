/-
  The contract of Join of two of like kind.
-/
import Derived.Test.YtogpjoenfcleoaaK
import Derived.StillTail
import Derived.StillTailTactics
set_option linter.unusedVariables false
set_option linter.unusedSimpArgs false
namespace Go.Proofs.Ytogpjoenfcleoaa
open Go.RowKit
set_option maxRecDepth 100000 in
set_option maxHeartbeats 4000000 in
theorem join_yes (p q : Nat) (m n : List Bool) (b t : Int) (w : World) (h : Bk p (svC m b t) w) (hm : m.length = 4096) (h2 : Bk q (svC n b t) w) (hn : n.length = 4096) : Calls Try.prog 11 #[.pointer (some ⟨p, 0, none⟩), .pointer (some ⟨q, 0, none⟩)] w fun e w' => e = .returned (.bool true) ∧ Bk p (svC (joinN m n 4096) b t) w' ∧ Kp (· = p) w w' := by
  have c1 := sv_bits h hm
  have c2 := sv_tries h hm
  have c3 := sv_bits h2 hn
  have c4 := sv_tries h2 hn
  have HBK := Lib.hid h
  have HLD : Hid (∀ k : Nat, (Instr.loadAt 36 (.pointer (some ⟨q, 0, none⟩))).run Try.prog (w.drewN k) = .ok (.agg (n.map Value.bool).toArray) (w.drewN k)) := Lib.hid (fun k => sv_load (w := w.drewN k) h2 hn)
  have HIX := Lib.hid (fun k hk => sv_index n hn k hk)
  have HML := Lib.hid hm
  have HJL := Lib.hid (joinN_len m n)
  have HJG := Lib.hid (joinN_get m n)
  obtain ⟨Z, hZ⟩ : ∃ Z, Z = (n.map Value.bool).toArray := ⟨_, rfl⟩
  rw [← hZ] at HLD HIX
  clear hZ h h2 hm hn
  go_enter Try.func11, Try.ntmps11
  go_wp2
  go_quiet (fail)
  clear c1 c2 c3 c4
  go_wp2_with (refine Go.Proofs.Ytogpjoenfcleoaa.wpList_load_run (by rfl) 36 _ (by rfl) (by rfl) (HLD.out _) ?_)
  have HB0 : Hid (Bk p (svC (joinN m n 0) b t) (w.drewN nq) ∧ Kp (· = p) w (w.drewN nq)) := Lib.hid ⟨HBK.out, ⟨rfl, rfl, rfl, Nat.le_refl _, fun _ _ _ => rfl⟩⟩
  go_loopw [39] (fun i wr => ∃ k : Nat, i = .int .i64 k ∧ k ≤ 4096 ∧ Bk p (svC (joinN m n k) b t) wr ∧ Kp (· = p) w wr) (fun i _ => 4096 - (intOf i).toNat)
  case atStart => exact ⟨0, rfl, by omega, HB0.out⟩
  case round =>
    obtain ⟨k, rfl, hk, hbk, hkp⟩ := hrel
    by_cases hkt : k < 4096
    · have d1 : (k : Int) < 4096 := by omega
      have d0 : (0 : Int) ≤ (k : Int) := by omega
      have hix := HIX.out k hkt
      have hjl := HJL.out k
      have hjg := HJG.out k k (by rw [HML.out]; omega)
      rw [if_neg (by omega)] at hjg
      have cm := (sv_mark hbk k (by rw [hjl, HML.out]; omega)).1
      have fm := (sv_mark hbk k (by rw [hjl, HML.out]; omega)).2
      rw [hjg] at cm
      have HS : Hid (joinN m n (k + 1) = (joinN m n k).set k (m.getD k false || n.getD k false)) := Lib.hid rfl
      have HL2 : Hid (k < (joinN m n k).length) := Lib.hid (by rw [hjl, HML.out]; omega)
      have HB := Lib.hid hbk
      have HK := Lib.hid hkp
      clear hjl hjg hbk hkp
      generalize m.getD k false = x at cm HS
      generalize n.getD k false = y at hix HS
      cases x <;> cases y
      all_goals
        go_wp2
        refine wp_region_still_tail 14 (by kernel_rfl) (by kernel_rfl) ?_
        simp only [List.take_succ_cons, List.take_zero, List.drop_succ_cons, List.drop_zero]
        change wpStill _ _ (wr.drew) _ _ _
        repeat still_step
        refine wpStill_nil ?_
        change wpList _ _ _ _ _ (wr.drew)
        go_wp2
        refine ⟨⟨k + 1, vint (by omega), by omega, ?_, ?_⟩, by simp [intOf]; omega⟩
        · rw [HS.out, ← svC_set _ _ _ _ HL2.out]
          exact Bk.set (w := wr.drewN _) HB.out k (by rw [svC_len]; have := HL2.out; omega) _
        · exact (HK.out.set p k _ rfl).drew
    · obtain rfl : k = 4096 := by omega
      go_wp2
      go_ret
      exact ⟨rfl, hbk, hkp⟩
end Go.Proofs.Ytogpjoenfcleoaa

