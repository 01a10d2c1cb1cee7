/-
  What the world's shape gives the walks: internal/bytealg.MaxLen holds some int.
-/
import Derived.Test.YtkpnhiafdfbogaaDoorB
import Derived.Test.YtkpnhiafdfbogaaDoorShelf
import Derived.Clock
namespace Go.Proofs.YtkpnhiafdfbogaaDoor
theorem gm_shaped {W : World} (h : W.ShapedOpen Tryd.prog) : GM W := by
  obtain ⟨m, hm⟩ := Tryd.laysM146.s1_3 W h
  have hm' : W.cell? ⟨0, 0, none⟩ = some (.int .i64 m) := hm
  exact ⟨Clock.block_lt hm', m, hm'⟩
end Go.Proofs.YtkpnhiafdfbogaaDoor

