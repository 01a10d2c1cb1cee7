/-
  A builder beside other blocks of the call's own; the contract of base.Put.
-/
import Derived.Test.YtmfpahnncalcaaaA
import Derived.Test.YtmfpahnncalcaaaShelf
set_option linter.unusedVariables false
set_option linter.unusedSimpArgs false
namespace Go.Proofs.Ytmfpahnncalcaaa
open Go.RowKit
/-- A builder at block b; its bytes lie at B or beyond. -/
def Bd (w : World) (B b : Nat) (p v : Value) (bs : List Nat) : Prop := w.heap[b]? = some (.cells #[p, v] 32 (0, 0)) ∧ w.ownsRow B 5 1 v bs.length (rowU bs) ∧ b < B ∧ B ≤ w.heap.size ∧ (p = .pointer none ∨ p = .pointer (some ⟨b, 0, none⟩))
theorem Bd.lt {w : World} {B b : Nat} {p v : Value} {bs : List Nat} (h : Bd w B b p v bs) : b < w.heap.size := (Array.getElem?_eq_some_iff.1 h.1).1
theorem check_any {w : World} {B b : Nat} {p v : Value} {bs : List Nat} (h : Bd w B b p v bs) :
    Calls Try.prog 13 #[.pointer (some ⟨b, 0, none⟩)] w fun e w' => e = .returned (.tuple #[]) ∧ Bd w' B b (.pointer (some ⟨b, 0, none⟩)) v bs ∧ Kp (fun i => i = b) w w' := by
  have hp : p = .pointer none ∨ p = .pointer (some ⟨b, 0, none⟩) := h.2.2.2.2
  rcases hp with rfl | rfl
  · refine (Any.Builder_copyCheck_fresh Try.lays240 Try.Builder_X72_240 b w (by rw [Lib.cell_of_heap h.1]; rfl) (by simp [World.shape?, h.1]; rfl) (Lib.frozen_of_heap h.1 0)).mono ?_
    rintro e w' ⟨rfl, rfl⟩
    have hk : Kp (fun i => i = b) w (w.setCell ⟨b, 0, none⟩ (.pointer (some ⟨b, 0, none⟩))) := Kp.set (Kp.refl _ w) b 0 _ rfl
    refine ⟨rfl, ⟨?_, own_kp h.2.1 hk (fun g hg => by have := h.2.2.1; omega), h.2.2.1, Nat.le_trans h.2.2.2.1 hk.size, Or.inr rfl⟩, hk⟩
    simp [World.setCell, Array.getElem?_modify, h.1]
  · refine (Any.Builder_copyCheck_used Try.lays240 Try.Builder_X72_240 b w (by rw [Lib.cell_of_heap h.1]; rfl)).mono ?_
    rintro e w' ⟨rfl, rfl⟩
    exact ⟨rfl, h, Kp.refl _ _⟩
set_option maxHeartbeats 4000000 in
theorem wb_any {w : World} {B b : Nat} {p v : Value} {bs : List Nat} (c : Nat) (h : Bd w B b p v bs) (hl : bs.length ≤ 1000000) :
    Calls Try.prog 9 #[.pointer (some ⟨b, 0, none⟩), .int .u8 c] w fun e w' => e = .returned .nilIface ∧ ∃ p' v', Bd w' B b p' v' (bs ++ [c]) ∧ Kp (fun i => i = b ∨ B ≤ i) w w' := by
  obtain ⟨i0, hi, hz0, hz1, hz2⟩ := info_parts info5
  go_enter Try.func9, Try.ntmps9
  go_wp2_with fail
  refine (check_any h).mono ?_
  rintro e w1 ⟨rfl, h1, k1⟩
  have H1 := Lib.hid h1; have K1 := Lib.hid k1
  have c0 : w1.cell? ⟨b, 0, none⟩ = some (.pointer (some ⟨b, 0, none⟩)) := by rw [Lib.cell_of_heap h1.1]; rfl
  have c1 : w1.cell? ⟨b, 1, none⟩ = some v := by rw [Lib.cell_of_heap h1.1]; rfl
  clear h1 k1
  go_wp2_with (at_builtin; refine wpList_append_own _ rfl _ _ 30 rfl B 5 i0 (.int .u8 0) 1 1 Try.underlying30 hi hz0 hz1 hz2 rfl (by decide) _ _ _ rfl (H1.out.2.1.alloc _) ⟨w1.heap.size, 0, none⟩ 1 1 [.int .u8 c] rfl rfl ?c1 ?c2 ?c3 ?c4 ?c5 ?_)
  case c1 => intro j u hj; exact new_cells _ _ _ j u hj
  case c2 => intro u hu; simp at hu; subst hu; rfl
  case c3 => unfold maxLen; omega
  case c4 => omega
  case c5 => have := H1.out.2.2.2.1; simp; omega
  intro v5 w5 hown5 hg5 _
  have hne : v.ownBlock ≠ some b := fun e => by have := (H1.out.2.1.lt b e).1; have := H1.out.2.2.1; omega
  have hb5 : w5.heap[b]? = some (.cells #[.pointer (some ⟨b, 0, none⟩), v] 32 (0, 0)) := by
    rw [hg5.block b (by have := H1.out.lt; simp; omega) (fun e => hne e.symm), Lib.alloc_old w1 _ b H1.out.lt]
    exact H1.out.1
  have K5 : Hid (Kp (fun i => i = b ∨ B ≤ i) w w5) := Lib.hid ((K1.out.mono (fun i _ e => Or.inl e)).trans (((Kp.refl _ w1).alloc _).trans (Kp.grown hg5 (fun q hq => Or.inr (H1.out.2.1.lt q hq).1))))
  have d1 : w5.cell? ⟨b, 1, none⟩ = some v := by rw [Lib.cell_of_heap hb5]; rfl
  have f1 : w5.frozen? ⟨b, 1, none⟩ = false := Lib.frozen_of_heap hb5 1
  obtain ⟨a5, cap5, rfl⟩ : ∃ a cap, v5 = .slice a (bs.length + 1) cap := by
    obtain ⟨_, ⟨rfl, h0⟩ | ⟨g, cap, cur, rfl, _⟩⟩ := hown5
    · omega
    · exact ⟨_, _, rfl⟩
  have HO5 := Lib.hid hown5
  have HG5 := Lib.hid hg5.size
  have HB5 := Lib.hid hb5
  clear hown5 hg5 hb5
  go_wp2
  go_ret
  have hk : Kp (fun i => i = b) w5 (w5.setCell ⟨b, 1, none⟩ (.slice a5 (bs.length + 1) cap5)) := Kp.set (Kp.refl _ w5) b 1 _ rfl
  refine ⟨rfl, .pointer (some ⟨b, 0, none⟩), .slice a5 (bs.length + 1) cap5, ⟨?_, ?_, H1.out.2.2.1, ?_, Or.inr rfl⟩, K5.out.set b 1 _ (Or.inl rfl)⟩
  · simp [World.setCell, Array.getElem?_modify, HB5.out]
  · refine own_kp ?_ hk (fun g hg => by have := H1.out.2.2.1; omega)
    rw [List.length_append, List.length_singleton]
    simpa [rowU] using HO5.out
  · have h1 := HG5.out
    have h2 := H1.out.2.2.2.1
    rw [World.size_alloc] at h1
    exact Nat.le_trans (by omega) hk.size
/-- The letters, by numbers. -/
theorem letter_at (d : Nat) (hd : d < 32) (w : World) : (Instr.index 9 (.string ⟨#[97, 98, 99, 100, 101, 102, 103, 104, 105, 106, 107, 108, 109, 110, 111, 112, 113, 114, 115, 116, 117, 118, 119, 120, 121, 122, 50, 51, 52, 53, 54, 55]⟩) (.int .i64 d)).run Try.prog w = .ok (.int .u8 (letN d)) w := by
  match d, hd with
  | 0, _ => rfl
  | 1, _ => rfl
  | 2, _ => rfl
  | 3, _ => rfl
  | 4, _ => rfl
  | 5, _ => rfl
  | 6, _ => rfl
  | 7, _ => rfl
  | 8, _ => rfl
  | 9, _ => rfl
  | 10, _ => rfl
  | 11, _ => rfl
  | 12, _ => rfl
  | 13, _ => rfl
  | 14, _ => rfl
  | 15, _ => rfl
  | 16, _ => rfl
  | 17, _ => rfl
  | 18, _ => rfl
  | 19, _ => rfl
  | 20, _ => rfl
  | 21, _ => rfl
  | 22, _ => rfl
  | 23, _ => rfl
  | 24, _ => rfl
  | 25, _ => rfl
  | 26, _ => rfl
  | 27, _ => rfl
  | 28, _ => rfl
  | 29, _ => rfl
  | 30, _ => rfl
  | 31, _ => rfl
  | n + 32, h => omega
end Go.Proofs.Ytmfpahnncalcaaa
