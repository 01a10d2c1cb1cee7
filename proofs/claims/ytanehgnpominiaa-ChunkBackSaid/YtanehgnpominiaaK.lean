/-
  The contract of the law's own reader of texts.
-/
import Derived.Test.YtanehgnpominiaaJ
set_option linter.unusedVariables false
set_option linter.unusedSimpArgs false
set_option maxRecDepth 100000
namespace Go.Proofs.Ytanehgnpominiaa
open Go.RowKit
def rlR (s : ByteArray) (e : Int) (w w' : World) (r : Ending) : Prop := ∃ a cap, r = .returned (.tuple #[.agg #[.string (lstO s e).2.1, .int .i64 (lstO s e).2.2], .slice a (lstO s e).1.length cap]) ∧ (lstO s e).1.length ≤ cap ∧ Sl strC 1 w' a (lstO s e).1 ∧ (∀ b o, a = some ⟨b, o, none⟩ → w.heap.size ≤ b) ∧ Below w.heap.size w w'
theorem rlR.bad {s : ByteArray} {e e0 : Int} {w w' : World} (h : lstO s e = ([], s, e0)) (hb : Below w.heap.size w w') : rlR s e w w' (.returned (.tuple #[.agg #[.string s, .int .i64 e0], .slice none 0 0])) := by
  unfold rlR; rw [h]; exact ⟨none, 0, rfl, by simp, Sl.nil _ _ _ _, fun b o h => (by cases h), hb⟩
theorem res_plain {w W : World} {p B : Nat} {x0 x1 : Value} (h : Bk p [x0, x1] W) (hb : Below B w W) (hB : B ≤ p) (v0 v1 : Value) :
    (loadVar 67 ⟨p, 0, none⟩).run Try.prog ((W.setCell ⟨p, 0, none⟩ v0).setCell ⟨p, 1, none⟩ v1) = .ok (.agg #[v0, v1]) ((W.setCell ⟨p, 0, none⟩ v0).setCell ⟨p, 1, none⟩ v1) ∧ Below B w ((W.setCell ⟨p, 0, none⟩ v0).setCell ⟨p, 1, none⟩ v1) := by
  refine ⟨load_R ?_, (hb.setCell (p := ⟨p, 0, none⟩) hB _).setCell (p := ⟨p, 1, none⟩) hB _⟩
  exact (h.set 0 (by simp) v0).set 1 (by simp) v1
/-- Three blocks: the parameter, the result, and what is left. -/
structure Tri (s : ByteArray) (x : ByteArray) (e : Int) (w : World) (P : Nat) (wr : World) : Prop where
  a : Bk w.heap.size [.string s, .int .i64 0] wr
  b : Bk (w.heap.size + 1) [.string ⟨#[]⟩, .int .i64 0] wr
  c : Bk P [.string x, .int .i64 e] wr
  lt : w.heap.size + 1 < P
  below : Below w.heap.size w wr
theorem Tri.kp {s x : ByteArray} {e : Int} {w wr w2 : World} {P : Nat} {S : Nat → Prop} (h : Tri s x e w P wr) (k : Kp S wr w2) (hS : ∀ g, S g → P < g) : Tri s x e w P w2 :=
  ⟨h.a.kp k (fun g => by have := hS _ g; have := h.lt; omega), h.b.kp k (fun g => by have := hS _ g; have := h.lt; omega), h.c.kp k (fun g => by have := hS _ g; omega), h.lt, h.below.trans (k.below (by have := h.below.size; omega) (fun g hg => by have := hS _ hg; have := h.lt; omega))⟩
theorem Tri.put {s x x' : ByteArray} {e e' : Int} {w wr : World} {P : Nat} (h : Tri s x e w P wr) : Tri s x' e' w P ((wr.setCell ⟨P, 0, none⟩ (.string x')).setCell ⟨P, 1, none⟩ (.int .i64 e')) :=
  ⟨(h.a.other (by have := h.lt; simp; omega) _).other (by have := h.lt; simp; omega) _, (h.b.other (by have := h.lt; simp; omega) _).other (by have := h.lt; simp; omega) _, (h.c.set 0 (by simp) _).set 1 (by simp) _, h.lt, (h.below.setCell (p := ⟨P, 0, none⟩) (by have := h.lt; simp; omega) _).setCell (p := ⟨P, 1, none⟩) (by have := h.lt; simp; omega) _⟩
theorem kp_two (P : Nat) (u v : Value) (w : World) : Kp (fun k => k = P) w ((w.setCell ⟨P, 0, none⟩ u).setCell ⟨P, 1, none⟩ v) := ((Kp.refl (fun k => k = P) w).set P 0 u rfl).set P 1 v rfl
theorem rl_err (s : ByteArray) (e0 e : Int) (w : World) (hs : s.size ≤ 1099511627776) (he : e ≠ 0) (hn : numRR s e0 = .returned (.tuple #[.agg #[.string s, .int .i64 e], .int .i64 0])) (hl : lstO s e0 = ([], s, e)) : Calls Try.prog 37 #[.agg #[.string s, .int .i64 e0]] w fun r w' => rlR s e0 w w' r := by
  have e1 : (e == 0) = false := by simp [he]
  have e2 : (e != 0) = true := by simp [he]
  have HN := Lib.hid hn
  have HL := Lib.hid hl
  clear hn hl
  go_enter Try.func37, Try.ntmps37
  go_wp2_with fail
  refine (rn_any s e0 _ hs).mono ?_
  rintro r w1 ⟨rfl, hb⟩
  rw [HN.out]
  obtain ⟨r0, r1, hbb⟩ := wR_after hb
  have HR := Lib.hid (res_two r1 hbb (by omega) (.cells #[.string s, .int .i64 e] 67) (.string s) (.int .i64 e))
  obtain ⟨c0, f0⟩ := r0.2 0 _ rfl
  obtain ⟨c1, f1⟩ := r0.2 1 _ rfl
  obtain ⟨d0, g0⟩ := r1.2 0 _ rfl
  obtain ⟨d1, g1⟩ := r1.2 1 _ rfl
  have hz : w.heap.size + 1 < w1.heap.size := r1.1
  have hz2 : w.heap.size < w1.heap.size := r0.1
  clear r0 r1 hb hbb
  go_wp2
  go_loopw [7] (fun x wr => x = .int .i64 0 ∧ wr = w1.alloc (.cells #[.string s, .int .i64 e] 67)) (fun _ _ => 0)
  case atStart => exact ⟨rfl, rfl⟩
  case round =>
    obtain ⟨rfl, rfl⟩ := hrel
    go_wp2
    (try simp only [Exit.inBlock, Exit.then])
    refine bodyPost_ret (res_cell rfl rfl rfl HR.out.1) rfl ?_
    exact rlR.bad HL.out HR.out.2
theorem rl_ok (s : ByteArray) (n k : Nat) (w : World) (hs : s.size ≤ 1099511627776) (h : readV (bys s) = ((n : Int), (k : Int), 0)) (h4 : k ≤ s.size) (hn : ¬ 4096 < n) : Calls Try.prog 37 #[.agg #[.string s, .int .i64 0]] w fun r w' => rlR s 0 w w' r := by
  obtain ⟨i0, hi, hz0, hz1, hz2⟩ := info_parts infoStr
  have HN := Lib.hid (show numRR s 0 = .returned (.tuple #[.agg #[.string (s.extract k s.size), .int .i64 0], .int .i64 n]) by unfold numRR; rw [numO_ok h])
  obtain ⟨V, hV⟩ : ∃ V, V = lstV s := ⟨_, rfl⟩
  have HV := Lib.hid hV
  rw [lstV_ok h hn] at hV
  have HG0 := Lib.hid hV
  have dn : ¬ (4096 : Int) < (n : Int) := by omega
  clear hV h
  go_enter Try.func37, Try.ntmps37
  go_wp2_with fail
  refine (rn_any s 0 _ hs).mono ?_
  rintro r w1 ⟨rfl, hb⟩
  rw [HN.out]
  obtain ⟨r0, r1, hbb⟩ := wR_after hb
  have HT : Hid (Tri s (s.extract k s.size) 0 w w1.heap.size (w1.alloc (.cells #[.string (s.extract k s.size), .int .i64 0] 67))) := Lib.hid ⟨r0.keep (below_new _ _), r1.keep (below_new _ _), Bk.new _ _ _, r1.1, hbb.alloc (by have := r0.1; omega) _⟩
  have HW : Hid (w.heap.size + 1 < w1.heap.size) := Lib.hid r1.1
  clear r0 r1 hb hbb
  go_wp2
  go_loopw [6, 7] (fun v i wr => ∃ (j : Nat), i = .int .i64 j ∧ j ≤ n ∧ ((∃ (A : Nat) (out : List ByteArray), A ≤ s.size ∧ out.length = j ∧ lstG s (n - j) A out = V ∧ wr.ownsRow (w1.heap.size + 1) 9 1 v j (out.flatMap strC) ∧ Tri s (s.extract A s.size) 0 w w1.heap.size wr) ∨ (∃ (e0 : Int) (x : ByteArray), e0 ≠ 0 ∧ V = ([], 0, e0) ∧ Tri s x e0 w w1.heap.size wr))) (fun _ i _ => n - (intOf i).toNat)
  case atStart => exact ⟨0, rfl, by omega, .inl ⟨k, [], h4, rfl, HG0.out.symm, own_nil _ _ _ _, HT.out⟩⟩
  case round =>
    obtain ⟨j, rfl, hj, ⟨A, out, hA, rfl, hg, ho, ht⟩ | ⟨e0, x, he0, hV0, ht⟩⟩ := hrel
    · have HG := Lib.hid hg
      have HO := Lib.hid ho
      have HT2 := Lib.hid ht
      have HW1 : Hid (w1.heap.size < wr.heap.size) := Lib.hid ht.c.1
      obtain ⟨a, cap, rfl, hcap, hsl⟩ := own_sl (enc := strC) (size := 1) (fun _ => rfl) (by decide) ho
      have HSL := Lib.hid hsl
      obtain ⟨c0, f0⟩ := ht.c.2 0 _ rfl
      obtain ⟨c1, f1⟩ := ht.c.2 1 _ rfl
      have hsz : (s.extract A s.size).size ≤ 1099511627776 := by rw [ByteArray.size_extract]; omega
      obtain ⟨x, hx⟩ : ∃ x, x = s.extract A s.size := ⟨_, rfl⟩
      rw [← hx] at c0 hsz
      have HX := Lib.hid hx
      clear hg ho ht hsl hx
      by_cases hlt : out.length < n
      · have d1 : (out.length : Int) < (n : Int) := by omega
        rcases txtV_cases x with ⟨t, q, g1, g2, g3, g4⟩ | ⟨e, he, g1⟩
        · rw [HX.out, ByteArray.size_extract] at g3
          have HG2 : Hid (lstG s (n - (out.length + 1)) (A + q) (out ++ [t]) = V) := Lib.hid (by
            rw [← HG.out, show n - out.length = (n - (out.length + 1)) + 1 by omega, lstG_ok (by rw [← HX.out]; exact g1)])
          have HXX : Hid (x.extract q x.size = s.extract (A + q) s.size) := Lib.hid (by
            have := ext_ext s A q (s.size - A) (by omega)
            rw [Nat.add_sub_cancel' hA, ← HX.out] at this
            rw [← this, HX.out, ByteArray.size_extract, Nat.min_self])
          have HT := Lib.hid (show txtRR x 0 = .returned (.tuple #[.agg #[.string (x.extract q x.size), .int .i64 0], .string t]) by unfold txtRR; rw [txtO_ok g1])
          clear g1
          obtain ⟨y, hy⟩ : ∃ y, y = x.extract q x.size := ⟨_, rfl⟩
          rw [← hy] at HT HXX
          clear hy
          go_wp2_with fail
          refine (rt_any x 0 _ hsz).mono ?_
          rintro r w2 ⟨rfl, hb2⟩
          rw [HT.out]
          have ht2 := HT2.out.kp (Kp.new (S := fun _ => False) hb2) (fun g hg => hg.elim)
          have HS2 : Hid (w1.heap.size < w2.heap.size) := Lib.hid ht2.c.1
          have hs2 := HS2.out
          obtain ⟨c2, f2⟩ := ht2.c.2 0 _ rfl
          obtain ⟨c3, f3⟩ := ht2.c.2 1 _ rfl
          have HO3 : Hid (World.ownsRow ((((w2.setCell ⟨w1.heap.size, 0, none⟩ (.string y)).setCell ⟨w1.heap.size, 1, none⟩ (.int .i64 0)).alloc (.cells #[.string y, .int .i64 0] 67)).alloc (.cells #[.string t] 9)) (w1.heap.size + 1) 9 1 (.slice a out.length cap) out.length (out.flatMap strC)) := Lib.hid (((own_kp (own_kept HO.out hb2) (kp_two _ _ _ _) (fun g hg => by omega)).alloc _).alloc _)
          have HT4 : Hid (Tri s y 0 w w1.heap.size ((((w2.setCell ⟨w1.heap.size, 0, none⟩ (.string y)).setCell ⟨w1.heap.size, 1, none⟩ (.int .i64 0)).alloc (.cells #[.string y, .int .i64 0] 67)).alloc (.cells #[.string t] 9))) := Lib.hid ((ht2.put (x' := y) (e' := 0)).kp (((Kp.refl (fun _ => False) _).alloc _).alloc _) (fun g hg => hg.elim))
          clear ht2 hb2 c0 c1 f0 f1
          have c0 := c2
          have c1 := c3
          go_wp2_with (at_builtin; refine wpList_append_own _ rfl _ _ 23 rfl (w1.heap.size + 1) 9 i0 (.string ⟨#[]⟩) 1 16 Try.underlying23 hi hz0 hz1 hz2 rfl (by decide) _ _ _ rfl HO3.out ⟨_, 0, none⟩ 1 1 [.string t] rfl rfl ?a1 ?a2 ?a3 ?a4 ?a5 ?_)
          case a1 => intro j u hj; exact new_cells_at (by simp) _ _ j u hj
          case a2 => intro u hu; simp at hu; subst hu; rfl
          case a3 => unfold maxLen; omega
          case a4 => omega
          case a5 => simp; omega
          intro v5 w5 hown5 hg5 _
          have HT5 : Hid (Tri s y 0 w w1.heap.size w5) := Lib.hid (HT4.out.kp (Kp.grown (S := fun g => w1.heap.size < g) hg5 (fun q hq => (HO3.out.lt q hq).1)) (fun g hg => hg))
          have HO5 : Hid (w5.ownsRow (w1.heap.size + 1) 9 1 v5 (out.length + 1) ((out ++ [t]).flatMap strC)) := Lib.hid (by simpa [strC] using hown5)
          clear hown5 hg5
          go_wp2
          go_roundw
          case rel => exact ⟨out.length + 1, vint (by omega), by omega, .inl ⟨A + q, out ++ [t], by omega, by simp, HG2.out, HO5.out, by rw [← HXX.out]; exact HT5.out⟩⟩
          case measure => simp [intOf]; omega
        · have HVB : Hid (V = ([], 0, e)) := Lib.hid (by
            rw [← HG.out, show n - out.length = (n - (out.length + 1)) + 1 by omega, lstG_bad he (by rw [← HX.out]; exact g1)])
          have HT := Lib.hid (show txtRR x 0 = .returned (.tuple #[.agg #[.string x, .int .i64 e], .string ⟨#[]⟩]) by unfold txtRR; rw [txtO_bad he g1])
          clear g1
          go_wp2_with fail
          refine (rt_any x 0 _ hsz).mono ?_
          rintro r w2 ⟨rfl, hb2⟩
          rw [HT.out]
          have ht2 := HT2.out.kp (Kp.new (S := fun _ => False) hb2) (fun g hg => hg.elim)
          have HS2 : Hid (w1.heap.size < w2.heap.size) := Lib.hid ht2.c.1
          have hs2 := HS2.out
          obtain ⟨c2, f2⟩ := ht2.c.2 0 _ rfl
          obtain ⟨c3, f3⟩ := ht2.c.2 1 _ rfl
          have HO3 : Hid (World.ownsRow ((((w2.setCell ⟨w1.heap.size, 0, none⟩ (.string x)).setCell ⟨w1.heap.size, 1, none⟩ (.int .i64 e)).alloc (.cells #[.string x, .int .i64 e] 67)).alloc (.cells #[.string ⟨#[]⟩] 9)) (w1.heap.size + 1) 9 1 (.slice a out.length cap) out.length (out.flatMap strC)) := Lib.hid (((own_kp (own_kept HO.out hb2) (kp_two _ _ _ _) (fun g hg => by omega)).alloc _).alloc _)
          have HT4 : Hid (Tri s x e w w1.heap.size ((((w2.setCell ⟨w1.heap.size, 0, none⟩ (.string x)).setCell ⟨w1.heap.size, 1, none⟩ (.int .i64 e)).alloc (.cells #[.string x, .int .i64 e] 67)).alloc (.cells #[.string ⟨#[]⟩] 9))) := Lib.hid ((ht2.put (x' := x) (e' := e)).kp (((Kp.refl (fun _ => False) _).alloc _).alloc _) (fun g hg => hg.elim))
          clear ht2 hb2 c0 c1 f0 f1
          have c0 := c2
          have c1 := c3
          go_wp2_with (at_builtin; refine wpList_append_own _ rfl _ _ 23 rfl (w1.heap.size + 1) 9 i0 (.string ⟨#[]⟩) 1 16 Try.underlying23 hi hz0 hz1 hz2 rfl (by decide) _ _ _ rfl HO3.out ⟨_, 0, none⟩ 1 1 [.string ⟨#[]⟩] rfl rfl ?b1 ?b2 ?b3 ?b4 ?b5 ?_)
          case b1 => intro j u hj; exact new_cells_at (by simp) _ _ j u hj
          case b2 => intro u hu; simp at hu; subst hu; rfl
          case b3 => unfold maxLen; omega
          case b4 => omega
          case b5 => simp; omega
          intro v5 w5 hown5 hg5 _
          have HT5 : Hid (Tri s x e w w1.heap.size w5) := Lib.hid (HT4.out.kp (Kp.grown (S := fun g => w1.heap.size < g) hg5 (fun q hq => (HO3.out.lt q hq).1)) (fun g hg => hg))
          clear hown5 hg5
          go_wp2
          go_roundw
          case rel => exact ⟨out.length + 1, vint (by omega), by omega, .inr ⟨e, x, he, HVB.out, HT5.out⟩⟩
          case measure => simp [intOf]; omega
      · have d1 : ¬ (out.length : Int) < (n : Int) := by omega
        have HVE : Hid (V = (out, A, 0)) := Lib.hid (by rw [← HG.out, show n - out.length = 0 by omega, lstG_zero])
        obtain ⟨g0, q0⟩ := HT2.out.b.2 0 _ rfl
        obtain ⟨g1, q1⟩ := HT2.out.b.2 1 _ rfl
        have HR := Lib.hid (res_plain HT2.out.b HT2.out.below (by omega) (.string x) (.int .i64 0))
        have HSL2 : Hid (Sl strC 1 ((wr.setCell ⟨w.heap.size + 1, 0, none⟩ (.string x)).setCell ⟨w.heap.size + 1, 1, none⟩ (.int .i64 0)) a out) := Lib.hid (sl_kp HSL.out (kp_two (w.heap.size + 1) (.string x) (.int .i64 0) wr) (fun b o hab e => by
          have := (HO.out.lt b (by rw [hab]; rfl)).1
          have := HW.out
          omega))
        go_wp2
        (try simp only [Exit.inBlock, Exit.then])
        refine bodyPost_ret (res_cell rfl rfl rfl HR.out.1) rfl ?_
        have hl : lstO s 0 = (out, x, 0) := by rw [HX.out]; exact lstO_ok (HV.out.symm.trans HVE.out)
        unfold rlR
        rw [hl]
        exact ⟨a, cap, rfl, hcap, HSL2.out, fun b o hab => (by
          have := (HO.out.lt b (by rw [hab]; rfl)).1
          have := HW.out
          omega), HR.out.2⟩
    · have HVB := Lib.hid hV0
      have HT2 := Lib.hid ht
      have e1 : (e0 == 0) = false := by simp [he0]
      have e2 : (e0 != 0) = true := by simp [he0]
      obtain ⟨c0, f0⟩ := ht.c.2 0 _ rfl
      obtain ⟨c1, f1⟩ := ht.c.2 1 _ rfl
      obtain ⟨g0, q0⟩ := ht.b.2 0 _ rfl
      obtain ⟨g1, q1⟩ := ht.b.2 1 _ rfl
      obtain ⟨k0, l0⟩ := ht.a.2 0 _ rfl
      have HR := Lib.hid (res_plain HT2.out.b HT2.out.below (by omega) (.string s) (.int .i64 e0))
      clear ht hV0
      have hjj : (j : Int) < (n : Int) ∨ ¬ (j : Int) < (n : Int) := Classical.em _
      rcases hjj with hjj | hjj
      all_goals
        go_wp2
        (try simp only [Exit.inBlock, Exit.then])
        refine bodyPost_ret (res_cell rfl rfl rfl HR.out.1) rfl ?_
        exact rlR.bad (lstO_bad he0 (HV.out.symm.trans HVB.out)) HR.out.2
theorem rl_long (s : ByteArray) (n k : Nat) (w : World) (hs : s.size ≤ 1099511627776) (h : readV (bys s) = ((n : Int), (k : Int), 0)) (hn : 4096 < n) : Calls Try.prog 37 #[.agg #[.string s, .int .i64 0]] w fun r w' => rlR s 0 w w' r := by
  have HN := Lib.hid (show numRR s 0 = .returned (.tuple #[.agg #[.string (s.extract k s.size), .int .i64 0], .int .i64 n]) by unfold numRR; rw [numO_ok h])
  have HV := Lib.hid (lstO_bad (e := 3) (by decide) (lstV_long h hn))
  have dn : (4096 : Int) < (n : Int) := by omega
  have dn0 : (0 : Int) < (n : Int) := by omega
  clear h
  go_enter Try.func37, Try.ntmps37
  go_wp2_with fail
  refine (rn_any s 0 _ hs).mono ?_
  rintro r w1 ⟨rfl, hb⟩
  rw [HN.out]
  obtain ⟨r0, r1, hbb⟩ := wR_after hb
  have HR := Lib.hid (res_two r1 hbb (by omega) (.cells #[.string (s.extract k s.size), .int .i64 3] 67) (.string s) (.int .i64 3))
  obtain ⟨c0, f0⟩ := r0.2 0 _ rfl
  obtain ⟨c1, f1⟩ := r0.2 1 _ rfl
  obtain ⟨d0, g0⟩ := r1.2 0 _ rfl
  obtain ⟨d1, g1⟩ := r1.2 1 _ rfl
  have hz : w.heap.size + 1 < w1.heap.size := r1.1
  have hz2 : w.heap.size < w1.heap.size := r0.1
  clear r0 r1 hb hbb
  go_wp2
  go_loopw [7] (fun x wr => x = .int .i64 0 ∧ wr = w1.alloc (.cells #[.string (s.extract k s.size), .int .i64 3] 67)) (fun _ _ => 0)
  case atStart => exact ⟨rfl, rfl⟩
  case round =>
    obtain ⟨rfl, rfl⟩ := hrel
    go_wp2
    (try simp only [Exit.inBlock, Exit.then])
    refine bodyPost_ret (res_cell rfl rfl rfl HR.out.1) rfl ?_
    exact rlR.bad HV.out HR.out.2
theorem rl_any (s : ByteArray) (e : Int) (w : World) (hs : s.size ≤ 1099511627776) : Calls Try.prog 37 #[.agg #[.string s, .int .i64 e]] w fun r w' => rlR s e w w' r := by
  by_cases he : e = 0
  · subst he
    rcases readV_cases (bys s) with ⟨n, k, h, h1, h2, h3, h4⟩ | ⟨e, he, h⟩
    · rw [bys_len] at h4
      by_cases hn : 4096 < n
      · exact rl_long s n k w hs h hn
      · exact rl_ok s n k w hs h h4 hn
    · exact rl_err s 0 e w hs he (by unfold numRR; rw [numO_bad he h]) (lstO_bad he (lstV_bad he h))
  · exact rl_err s e e w hs he (by unfold numRR; rw [numO_err he]) (lstO_err he)
end Go.Proofs.Ytanehgnpominiaa

