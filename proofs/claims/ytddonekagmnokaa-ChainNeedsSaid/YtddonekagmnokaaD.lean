/-
  The contract of needs.
-/
import Derived.Test.YtddonekagmnokaaB
set_option linter.unusedVariables false
set_option linter.unusedSimpArgs false
namespace Go.Proofs.Ytddonekagmnokaa
open Go.RowKit
theorem nodup_sub {α : Type} [DecidableEq α] : ∀ {l m : List α}, l.Nodup → (∀ x ∈ l, x ∈ m) → l.length ≤ m.length
  | [], m, _, _ => by simp
  | x :: l, m, hn, h => by
    obtain ⟨h1, h2⟩ := List.nodup_cons.1 hn
    have hx := h x (by simp)
    have := nodup_sub (l := l) (m := m.erase x) h2 (fun y hy => (List.mem_erase_of_ne (fun e => h1 (by rw [← e]; exact hy))).2 (h y (by simp [hy])))
    rw [List.length_erase_of_mem hx] at this
    have hp : 0 < m.length := List.length_pos_of_mem hx
    simp only [List.length_cons]
    omega
theorem succs_le {x : Int} {E : List (Int × Int)} {l : List Int} (hn : l.Nodup) (h : ∀ z ∈ l, (x, z) ∈ E) : l.length ≤ E.length := by
  have h1 : (l.map (fun z => (x, z))).Nodup := by
    unfold List.Nodup at hn ⊢
    rw [List.pairwise_map]
    exact hn.imp (fun hne e => hne (by simpa using e))
  have := nodup_sub h1 (m := E) (fun p hp => by
    obtain ⟨z, hz, rfl⟩ := List.mem_map.1 hp
    exact h z hz)
  rwa [List.length_map] at this
def NeedM (w : World) (lo B : Nat) (E : List (Int × Int)) : Prop := ∃ ks g, MM w lo B ks g (fun k x => (k, x) ∈ E) ∧ (∀ k, k ∈ ks ↔ ∃ x, (k, x) ∈ E) ∧ ks.length ≤ E.length
theorem run_eql_map_nil (t k e : TypeId) (m : Option Nat) (w : World) (h : Try.prog.underlying t = some (.map k e)) : (binOp .eql t (.map m) (.map none)).run Try.prog w = .ok (.bool m.isNone) w := by
  simp only [binOp]
  simp [run_equal_map_nil w t k e m h]
theorem NeedM.start (w : World) : NeedM (w.alloc (.map #[] 0)) w.heap.size w.heap.size [] := by
  refine ⟨[], _, ⟨Nat.le_refl _, HM.made kM w, ?_, ?_⟩, fun k => by simp, by simp⟩
  · intro k hk; cases hk
  · intro k hk; cases hk
theorem NeedM.keep {w w' : World} {lo B : Nat} {E : List (Int × Int)} (h : NeedM w lo B E) (k : Below w.heap.size w w') : NeedM w' lo B E := by
  obtain ⟨ks, g, h1, h2⟩ := h
  exact ⟨ks, g, h1.keep k, h2⟩
/-- A pair is put where its first place has a set. -/
theorem NeedM.put {w : World} {lo B : Nat} {ks : List Int} {g : Int → Option Nat} {S : Int → Int → Prop} {E : List (Int × Int)} (h : MM w lo B ks g S) {x y : Int} (hx : x ∈ ks) (hy : goodI y) (hS : ∀ k ∈ ks, ∀ z, S k z ↔ (k, z) ∈ E) (hk : ∀ k, k ∈ ks ↔ k = x ∨ ∃ z, (k, z) ∈ E) (hl : ks.length ≤ E.length + 1) (hE : E.length ≤ 100000) :
    ∃ b, g x = some b ∧ ∃ w', (Instr.mapUpdate 41 (.map (some b)) (.int .i64 y) (.bool true)).run Try.prog w = .ok () w' ∧ NeedM w' lo B (E ++ [(x, y)]) ∧ Below lo w w' := by
  obtain ⟨b, l, h1, h2, h3, h4, h5⟩ := h.inner x hx
  have hll := succs_le h4.nodup (fun z hz => (hS x hx z).1 ((h5 z).1 hz))
  obtain ⟨w', hu, hs, hkp, hz⟩ := h4.put (by simp only [maxLen]; omega) hy
  refine ⟨b, h1, w', hu, ⟨ks, g, h.turn hx h1 hs hkp (S' := fun k z => (k, z) ∈ E ++ [(x, y)]) (fun z => ?_) (fun k hk2 hne z => ?_), fun k => ?_, by rw [List.length_append]; exact hl⟩, hkp.below (by have := h.hm.lt; have := h.base; omega) (fun k e => by omega)⟩
  · rw [mem_addK, h5 z, hS x hx z]; simp
  · rw [hS k hk2 z]; simp [hne]
  · rw [hk k]
    constructor
    · rintro (rfl | ⟨z, hz⟩)
      · exact ⟨y, by simp⟩
      · exact ⟨z, by simp [hz]⟩
    · rintro ⟨z, hz⟩
      rcases List.mem_append.1 hz with h1 | h1
      · exact Or.inr ⟨z, h1⟩
      · simp at h1; exact Or.inl h1.1
/-- What a pair does to the map: either its first place has a set, or it gets one. -/
inductive Way (w : World) (lo B : Nat) (E : List (Int × Int)) (x y : Int) : Prop
  | has (b : Nat) (w' : World) (h1 : (Instr.lookup 39 (.map (some B)) (.int .i64 x) false).run Try.prog w = .ok (.map (some b)) w)
      (h2 : (Instr.mapUpdate 41 (.map (some b)) (.int .i64 y) (.bool true)).run Try.prog w = .ok () w') (h3 : NeedM w' lo B (E ++ [(x, y)])) (h4 : Below lo w w')
  | gets (w1 w' : World) (h1 : (Instr.lookup 39 (.map (some B)) (.int .i64 x) false).run Try.prog w = .ok (.map none) w)
      (h0 : (Instr.lookup 39 (.map (some B)) (.int .i64 x) false).run Try.prog (w.alloc (.map #[] 0)) = .ok (.map none) (w.alloc (.map #[] 0)))
      (h2 : (Instr.mapUpdate 39 (.map (some B)) (.int .i64 x) (.map (some w.heap.size))).run Try.prog (w.alloc (.map #[] 0)) = .ok () w1) (hb : Kp (fun k => k = B) w w1)
      (h3 : (Instr.lookup 39 (.map (some B)) (.int .i64 x) false).run Try.prog w1 = .ok (.map (some w.heap.size)) w1)
      (h4 : (Instr.mapUpdate 41 (.map (some w.heap.size)) (.int .i64 y) (.bool true)).run Try.prog w1 = .ok () w') (h5 : NeedM w' lo B (E ++ [(x, y)])) (h6 : Below lo w w')
theorem NeedM.way {w : World} {lo B : Nat} {E : List (Int × Int)} (h : NeedM w lo B E) (hlo : lo ≤ w.heap.size) {x y : Int} (hx : goodI x) (hy : goodI y) (hE : E.length ≤ 10000) : Way w lo B E x y := by
  obtain ⟨ks, g, hm, hk, hl⟩ := h
  by_cases e : x ∈ ks
  · obtain ⟨b, e1, w', e2, e3, e4⟩ := NeedM.put hm e hy (fun k _ z => Iff.rfl) (fun k => by rw [hk k]; constructor
                                                                                            · exact Or.inr
                                                                                            · rintro (rfl | h)
                                                                                              · exact (hk _).1 e
                                                                                              · exact h) (by omega) (by omega)
    have e5 := hm.look hx
    rw [e1] at e5
    exact .has b w' e5 e2 e3 e4
  · have e1 := hm.look hx
    have e0 := (hm.keep (below_new w (.map #[] 0))).look hx
    rw [hm.none hx e] at e1 e0
    obtain ⟨w1, f1, f2, f3⟩ := hm.fresh hlo (by simp only [maxLen]; omega) hx e (S' := fun k z => (k, z) ∈ E) (fun z hz => e ((hk x).2 ⟨z, hz⟩)) (fun k _ z => Iff.rfl)
    have f4 := f2.look hx
    rw [sef_same] at f4
    obtain ⟨b, e1', w', e2, e3, e4⟩ := NeedM.put f2 ((mem_addK _ _ _).2 (Or.inr rfl)) hy (fun k _ z => Iff.rfl) (fun k => by rw [mem_addK, hk k]; exact Or.comm) (by rw [addK_len, if_neg e]; omega) (by omega)
    rw [sef_same] at e1'
    obtain rfl : w.heap.size = b := by simpa using e1'
    have hbase := hm.base
    exact .gets w1 w' e1 e0 f1 f3 f4 e2 e3 ((f3.below hlo (fun k e => by omega)).trans e4)
theorem cell_kp {w w1 : World} {B : Nat} {p : Addr} {v : Value} (hk : Kp (fun k => k = B) w w1) (h : w.cell? p = some v) (hp : p.block < w.heap.size) (hB : p.block ≠ B) : w1.cell? p = some v := (hk.cell hp hB).trans h
set_option maxHeartbeats 4000000 in
theorem needs_any (E : List (Int × Int)) (a : Option Addr) (cap : Nat) (w : World) (hl : E.length ≤ 4096) (hs : Sl pairC 2 w a E) (hg : ∀ p ∈ E, goodI p.1 ∧ goodI p.2) :
    Calls Try.prog 12 #[.slice a E.length cap] w fun e w' => e = .returned (.map (some w.heap.size)) ∧ NeedM w' w.heap.size w.heap.size E ∧ Below w.heap.size w w' := by
  have HP := Lib.hid (fun (k : Nat) (hk : k < E.length) => pair_at hs hk)
  have HG := Lib.hid hg
  have HS := Lib.hid (NeedM.start w)
  clear hs hg
  obtain ⟨L, hL⟩ : ∃ L, L = E.length := ⟨_, rfl⟩
  have HL := Lib.hid hL
  rw [← hL] at hl ⊢
  clear hL
  have HB0 := Lib.hid (below_new w (.map #[] 0))
  have hne := run_eql_map_nil 41 3 4 none
  have hne2 := fun b => run_eql_map_nil 41 3 4 (some b)
  have hmm := @run_makeMap Try.prog
  go_enter Try.func12, Try.ntmps12
  go_wp2
  go_loopw [9] (fun i wr => ∃ k : Nat, i = .int .i64 k ∧ k ≤ L ∧ NeedM wr w.heap.size w.heap.size (E.take k) ∧ Below w.heap.size w wr) (fun i _ => L - (intOf i).toNat)
  case atStart => exact ⟨0, rfl, by omega, HS.out, HB0.out⟩
  case round =>
    obtain ⟨k, rfl, hk, hm, hbw⟩ := hrel
    have HM := Lib.hid hm; have HB := Lib.hid hbw
    clear hm hbw
    by_cases hlt : k < L
    · have hkE : k < E.length := by rw [← HL.out]; exact hlt
      obtain ⟨b, o, rfl, hbl, hcc⟩ := HP.out k hkE
      have c0 := (hcc wr HB.out).1; have c1 := (hcc wr HB.out).2
      have gi : (k : Int) < (L : Int) := by omega
      have HT : Hid (E.take (k + 1) = E.take k ++ [E[k]]) := Lib.hid (List.take_succ_eq_append_getElem hkE)
      have hgd := HG.out E[k] (List.getElem_mem hkE)
      have HGD := Lib.hid hgd
      clear hcc hgd
      generalize E[k] = q at *
      obtain ⟨x, y⟩ := q
      dsimp only at c0 c1
      have hbn := below_new wr (.cells #[.int .i64 x, .int .i64 y] 36)
      have HBN := Lib.hid hbn
      have hwB : w.heap.size ≤ wr.heap.size := HB.out.size
      have hBlt : w.heap.size < wr.heap.size := by obtain ⟨ks, g, hm, _⟩ := HM.out; exact hm.hm.lt
      have hm0 : (wr.alloc (.cells #[.int .i64 x, .int .i64 y] 36)).cell? ⟨wr.heap.size, 0, none⟩ = some (.int .i64 x) := by rw [cell_new]; rfl
      have hm1 : (wr.alloc (.cells #[.int .i64 x, .int .i64 y] 36)).cell? ⟨wr.heap.size, 1, none⟩ = some (.int .i64 y) := by rw [cell_new]; rfl
      have HW := (HM.out.keep hbn).way (by simp; omega) (x := x) (y := y) HGD.out.1 HGD.out.2 (by have := List.length_take_le k E; omega)
      have HBW := Lib.hid (below_cons HB.out hbn)
      have hz : (wr.alloc (.cells #[.int .i64 x, .int .i64 y] 36)).heap.size = wr.heap.size + 1 := by simp
      clear hbn
      rcases HW with ⟨b2, w4, h1, h2, h3, h4⟩ | ⟨w1, w4, h1, h0, h2, hb, h3, h4, h5, h6⟩
      · have HN4 := Lib.hid h3
        have HB4 := Lib.hid (HBW.out.trans h4)
        clear h3 h4 hz
        go_wp2
        go_roundw
        case rel => exact ⟨k + 1, by go_num, by omega, by rw [HT.out]; exact HN4.out, HB4.out⟩
        case measure => simp [intOf]; omega
      · have n0 := cell_kp hb hm0 (by rw [hz]; show wr.heap.size < _; omega) (by show wr.heap.size ≠ _; omega)
        have n1 := cell_kp hb hm1 (by rw [hz]; show wr.heap.size < _; omega) (by show wr.heap.size ≠ _; omega)
        rw [hz] at h2 h3 h4
        have HN4 := Lib.hid h5
        have HB4 := Lib.hid (HBW.out.trans h6)
        clear h5 h6 hz hb
        go_wp2
        go_roundw
        case rel => exact ⟨k + 1, by go_num, by omega, by rw [HT.out]; exact HN4.out, HB4.out⟩
        case measure => simp [intOf]; omega
    · obtain rfl : k = L := by omega
      have HE : Hid (NeedM wr w.heap.size w.heap.size E) := Lib.hid (by have := HM.out; rwa [List.take_of_length_le (by rw [← HL.out]; exact Nat.le_refl _)] at this)
      have hkk : ¬ (k : Int) < (k : Int) := by omega
      go_wp2
      go_ret
      exact ⟨rfl, HE.out, HB.out⟩
end Go.Proofs.Ytddonekagmnokaa

