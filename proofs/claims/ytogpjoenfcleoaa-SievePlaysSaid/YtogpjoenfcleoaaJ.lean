/-
  The contract of Join of two that try differently often.
-/
import Derived.Test.YtogpjoenfcleoaaI
set_option linter.unusedVariables false
set_option linter.unusedSimpArgs false
namespace Go.Proofs.Ytogpjoenfcleoaa
open Go.RowKit
theorem join_no (p q : Nat) (m n : List Bool) (b t u : Int) (w : World) (h : Bk p (svC m b t) w) (hm : m.length = 4096) (h2 : Bk q (svC n b u) w) (hn : n.length = 4096) (htu : t ≠ u) : Calls Try.prog 11 #[.pointer (some ⟨p, 0, none⟩), .pointer (some ⟨q, 0, none⟩)] w fun e w' => e = .returned (.bool false) ∧ ∃ n, w' = w.drewN n := by
  have c1 := sv_bits h hm
  have c2 := sv_tries h hm
  have c3 := sv_bits h2 hn
  have c4 := sv_tries h2 hn
  have b1 : (t == u) = false := by simp only [beq_eq_false_iff_ne, ne_eq]; exact htu
  clear h h2 hm hn
  go_enter Try.func11, Try.ntmps11
  go_wp2
  go_quiet (fail)
  go_wp2
  go_ret
  exact ⟨rfl, _, rfl⟩
end Go.Proofs.Ytogpjoenfcleoaa

