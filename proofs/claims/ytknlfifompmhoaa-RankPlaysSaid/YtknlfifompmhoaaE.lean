/-
  The contract of Add.
-/
import Derived.Test.YtknlfifompmhoaaD
set_option linter.unusedVariables false
set_option linter.unusedSimpArgs false
namespace Go.Proofs.Ytknlfifompmhoaa
open Go.RowKit
theorem Rk.keep {p gl gs : Nat} {l s : List Int} {w w' : World} (h : Rk p gl gs l s w) (hb : Below w.heap.size w w') : Rk p gl gs l s w' :=
  ⟨h.tree.keep hb, h.nums.keep hb, h.rows.keep hb, h.fen, h.ne1, h.ne2, h.ne3, h.pos, h.all, h.len1, h.len2⟩
theorem below_drewN' {B : Nat} {a w : World} (h : Below B a w) (n : Nat) : Below B a (w.drewN n) := h.trans ⟨rfl, rfl, rfl, Nat.le_refl _, fun _ _ => rfl⟩
theorem below_two (w : World) (a b : Obj) : Below w.heap.size w ((w.alloc a).alloc b) := ((Below.refl _ w).alloc (Nat.le_refl _) _).alloc (by simp) _
theorem getD_pos {l : List Int} (h : ∀ x ∈ l, 0 ≤ x) (i : Nat) (hi : i < l.length) : 0 ≤ l.getD i 0 := by
  rw [List.getD_eq_getElem?_getD, List.getElem?_eq_getElem hi]
  exact h _ (List.getElem_mem _)
theorem add_nil (i b : Int) (w : World) : Calls Try.prog 7 #[.pointer none, .int .i64 i, .int .i64 b] w fun e w' => e = .returned (.int .i64 12) ∧ Below w.heap.size w w' := by
  have HB := Lib.hid (below_two w (.cells #[.pointer none] 24) (.cells #[.int .i64 b] 3))
  go_enter Try.func7, Try.ntmps7
  go_wp2
  go_ret
  exact ⟨rfl, HB.out⟩
theorem add_range (p gl gs : Nat) (l s : List Int) (i b : Int) (w : World) (h : Rk p gl gs l s w) (hi : i < 0 ∨ (l.length : Int) ≤ i) : Calls Try.prog 7 #[.pointer (some ⟨p, 0, none⟩), .int .i64 i, .int .i64 b] w fun e w' => e = .returned (.int .i64 2) ∧ Below w.heap.size w w' := by
  have HB := Lib.hid (below_two w (.cells #[.pointer (some ⟨p, 0, none⟩)] 24) (.cells #[.int .i64 b] 3))
  have hpl := h.tree.1
  have c0 := ((h.tree.keep HB.out).2 0 _ rfl).1
  clear h
  by_cases h0 : i < 0
  · go_enter Try.func7, Try.ntmps7
    go_wp2
    go_ret
    exact ⟨rfl, HB.out⟩
  · have h1 : (l.length : Int) ≤ i := by omega
    clear hi
    go_enter Try.func7, Try.ntmps7
    go_wp2
    go_ret
    exact ⟨rfl, HB.out⟩
set_option maxHeartbeats 4000000 in
theorem add_form (p gl gs : Nat) (l s : List Int) (i : Nat) (b : Int) (w : World) (h : Rk p gl gs l s w) (hi : i < l.length) (hb : b < -1099511627776 ∨ 1099511627776 < b ∨ l.getD i 0 + b < 0 ∨ 9007199254740992 < pre l l.length + b) : Calls Try.prog 7 #[.pointer (some ⟨p, 0, none⟩), .int .i64 i, .int .i64 b] w fun e w' => e = .returned (.int .i64 5) ∧ Below w.heap.size w w' := by
  have HB := Lib.hid (below_two w (.cells #[.pointer (some ⟨p, 0, none⟩)] 24) (.cells #[.int .i64 b] 3))
  have hpl := h.tree.1; have hgl := h.nums.1
  have c0 := ((h.tree.keep HB.out).2 0 _ rfl).1
  have c2 := ((h.tree.keep HB.out).2 2 _ rfl).1
  have cl := ((h.nums.keep HB.out).2 i _ (ints_get l i hi)).1
  have hall := h.all; have hall0 := (pre_mono h.pos l.length l.length (Nat.le_refl _) (Nat.le_refl _)).1
  have hx0 := getD_pos h.pos i hi
  have hx1 := pre_succ l i hi
  have hx2 := pre_mono h.pos l.length (i + 1) hi (Nat.le_refl _)
  have hx3 := pre_mono h.pos (i + 1) i (by omega) hi
  obtain ⟨x, hx⟩ : ∃ x, x = l.getD i 0 := ⟨_, rfl⟩
  obtain ⟨A, hA⟩ : ∃ A, A = pre l l.length := ⟨_, rfl⟩
  rw [← hx] at cl hb hx1 hx0
  rw [← hA] at c2 hb hall hall0 hx2
  have hxa : x ≤ 9007199254740992 := by omega
  have g0 : (0 : Int) ≤ (i : Int) := by omega
  have g1 : ¬ (i : Int) < 0 := by omega
  have g2 : ¬ (l.length : Int) ≤ (i : Int) := by omega
  have g3 : (i : Int) < (l.length : Int) := by omega
  have HH := Lib.hid hb
  clear h hx hA hx1 hx2 hx3 hb
  by_cases h1 : b < -1099511627776
  · have e1 : decide (b < -1099511627776) = true := decide_eq_true h1
    go_enter Try.func7, Try.ntmps7
    go_wp2
    go_quiet (fail)
    go_wp2
    go_ret
    exact ⟨rfl, below_drewN' HB.out _⟩
  · have e1 : decide (b < -1099511627776) = false := decide_eq_false h1
    by_cases h2 : 1099511627776 < b
    · have e2 : decide (1099511627776 < b) = true := decide_eq_true h2
      go_enter Try.func7, Try.ntmps7
      go_wp2
      go_quiet (fail)
      go_wp2
      go_ret
      exact ⟨rfl, below_drewN' HB.out _⟩
    · have e2 : decide (1099511627776 < b) = false := decide_eq_false h2
      by_cases h3 : x + b < 0
      · have e3 : decide (x + b < 0) = true := decide_eq_true h3
        have w1 : IntKind.i64.wrap (x + b) = x + b := IntWalk.i64_in _ (by omega)
        go_enter Try.func7, Try.ntmps7
        go_wp2
        go_quiet (fail)
        go_wp2
        go_ret
        exact ⟨rfl, below_drewN' HB.out _⟩
      · have e3 : decide (x + b < 0) = false := decide_eq_false h3
        have h4 : 9007199254740992 < A + b := by have := HH.out; omega
        have e4 : decide (9007199254740992 < A + b) = true := decide_eq_true h4
        have w1 : IntKind.i64.wrap (x + b) = x + b := IntWalk.i64_in _ (by omega)
        have w2 : IntKind.i64.wrap (A + b) = A + b := IntWalk.i64_in _ (by omega)
        go_enter Try.func7, Try.ntmps7
        go_wp2
        go_quiet (fail)
        go_wp2
        go_ret
        exact ⟨rfl, below_drewN' HB.out _⟩
theorem bk_newtree {p gl gs n : Nat} {A B : Int} {w : World} (h : Bk p [.slice (some ⟨gl, 0, none⟩) n n, .slice (some ⟨gs, 0, none⟩) (n + 1) (n + 1), .int .i64 A] w) : Bk p [.slice (some ⟨gl, 0, none⟩) n n, .slice (some ⟨gs, 0, none⟩) (n + 1) (n + 1), .int .i64 B] (w.setCell ⟨p, 2, none⟩ (.int .i64 B)) := h.set 2 (by simp) _
set_option maxHeartbeats 8000000 in
theorem add_ok (p gl gs : Nat) (l s : List Int) (i : Nat) (b : Int) (w : World) (h : Rk p gl gs l s w) (hi : i < l.length) (hb1 : -1099511627776 ≤ b) (hb2 : b ≤ 1099511627776) (hb3 : 0 ≤ l.getD i 0 + b) (hb4 : pre l l.length + b ≤ 9007199254740992) : Calls Try.prog 7 #[.pointer (some ⟨p, 0, none⟩), .int .i64 i, .int .i64 b] w
    fun e w' => e = .returned (.int .i64 0) ∧ (∃ s', Rk p gl gs (l.set i (l.getD i 0 + b)) s' w') ∧ Kp (fun j => j = p ∨ j = gl ∨ j = gs) w w' := by
  have HB := Lib.hid (below_two w (.cells #[.pointer (some ⟨p, 0, none⟩)] 24) (.cells #[.int .i64 b] 3))
  have hpl := h.tree.1; have hgl := h.nums.1; have hgs := h.rows.1; have hlen2 := h.len2
  have HT := Lib.hid (h.tree.keep HB.out); have HN := Lib.hid (h.nums.keep HB.out); have HRW := Lib.hid (h.rows.keep HB.out)
  have HX0 := Lib.hid ((Bk.new w 24 #[.pointer (some ⟨p, 0, none⟩)]).keep (below_new _ (.cells #[.int .i64 b] 3)))
  have HX1 : Hid (Bk (w.heap.size + 1) [.int .i64 b] ((w.alloc (.cells #[.pointer (some ⟨p, 0, none⟩)] 24)).alloc (.cells #[.int .i64 b] 3))) := Lib.hid (by
    have := Bk.new (w.alloc (.cells #[.pointer (some ⟨p, 0, none⟩)] 24)) 3 #[.int .i64 b]
    rw [show (w.alloc (.cells #[.pointer (some ⟨p, 0, none⟩)] 24)).heap.size = w.heap.size + 1 by simp] at this
    exact this)
  have c0 := (HT.out.2 0 _ rfl).1
  have c2 := (HT.out.2 2 _ rfl).1
  have f2 := (HT.out.2 2 _ rfl).2
  have cl := (HN.out.2 i _ (ints_get l i hi)).1
  have fl := (HN.out.2 i _ (ints_get l i hi)).2
  have hall := h.all; have hall0 := (pre_mono h.pos l.length l.length (Nat.le_refl _) (Nat.le_refl _)).1
  have hx0 := getD_pos h.pos i hi
  have hx1 := pre_succ l i hi
  have hx2 := pre_mono h.pos l.length (i + 1) hi (Nat.le_refl _)
  have hx3 := pre_mono h.pos (i + 1) i (by omega) hi
  have HEND : Hid (∀ (s' : List Int) (W : World), Bk p [.slice (some ⟨gl, 0, none⟩) l.length l.length, .slice (some ⟨gs, 0, none⟩) (l.length + 1) (l.length + 1), .int .i64 (pre l l.length + b)] W → Bk gl (ints (l.set i (l.getD i 0 + b))) W → Bk gs (ints s') W → Fen (l.set i (l.getD i 0 + b)) s' → Rk p gl gs (l.set i (l.getD i 0 + b)) s' W) := Lib.hid (fun s' W t1 t2 t3 t4 => by
    have e1 : pre (l.set i (l.getD i 0 + b)) l.length = pre l l.length + b := by rw [pre_set _ _ _ _ hi, if_pos hi]; omega
    refine ⟨by rw [List.length_set, e1]; exact t1, t2, t3, t4, h.ne1, h.ne2, h.ne3, ?_, by rw [List.length_set, e1]; exact hb4, by rw [List.length_set]; exact h.len1, by rw [List.length_set]; exact h.len2⟩
    intro y hy
    rcases List.mem_or_eq_of_mem_set hy with hy | hy
    · exact h.pos y hy
    · rw [hy]; exact hb3)
  have HAL : Hid (∀ (bt bb : Nat) (W : World), Cad bt bb p gs (l.length + 1) W → Bk bb [.int .i64 b] W → Bk gs (ints s) W → Calls Try.prog 10 #[.pointer (some ⟨p, 0, none⟩), .int .i64 ((i : Int) + 1), .func (.func 11) #[.pointer (some ⟨p, 0, none⟩)] #[], .func (.func 12) #[] #[.pointer (some ⟨bt, 0, none⟩), .pointer (some ⟨bb, 0, none⟩)]] W
      fun e w' => e = .returned (.tuple #[]) ∧ (∃ sums', Fen (l.set i (l.getD i 0 + b)) sums' ∧ Bk gs (ints sums') w') ∧ Kp (· = gs) W w') := Lib.hid (fun bt bb W q1 q2 q3 => along_add bt bb p gs i b l s W q1 q2 q3 h.fen h.pos h.all h.len2 hi ⟨hb1, hb2⟩)
  have HNE : Hid (p ≠ gl ∧ p ≠ gs ∧ gl ≠ gs) := Lib.hid ⟨h.ne1, h.ne2, h.ne3⟩
  have HSET := Lib.hid (ints_set l i (l.getD i 0 + b))
  have HIL : Hid (i < (ints l).length) := Lib.hid (by rw [ints_len]; exact hi)
  obtain ⟨l', hl'⟩ : ∃ l', l' = l.set i (l.getD i 0 + b) := ⟨_, rfl⟩
  rw [← hl'] at HEND HAL HSET ⊢
  obtain ⟨x, hx⟩ : ∃ x, x = l.getD i 0 := ⟨_, rfl⟩
  obtain ⟨A, hA⟩ : ∃ A, A = pre l l.length := ⟨_, rfl⟩
  rw [← hx] at cl hb3 hx1 hx0 HSET
  have HXE := Lib.hid hx
  rw [← hA] at c2 hb4 hall hall0 hx2 HEND HT
  have hxa : x ≤ 9007199254740992 := by omega
  have g0 : (0 : Int) ≤ (i : Int) := by omega
  have g1 : ¬ (i : Int) < 0 := by omega
  have g2 : ¬ (l.length : Int) ≤ (i : Int) := by omega
  have g3 : (i : Int) < (l.length : Int) := by omega
  have e1 : decide (b < -1099511627776) = false := decide_eq_false (by omega)
  have e2 : decide (1099511627776 < b) = false := decide_eq_false (by omega)
  have e3 : decide (x + b < 0) = false := decide_eq_false (by omega)
  have e4 : decide (9007199254740992 < A + b) = false := decide_eq_false (by omega)
  have w1 : IntKind.i64.wrap (x + b) = x + b := IntWalk.i64_in _ (by omega)
  have w2 : IntKind.i64.wrap (A + b) = A + b := IntWalk.i64_in _ (by omega)
  have hmf : ∀ (fn : Fn) (first cap : Array Value) (w : World), (Instr.makeFunc fn first cap).run Try.prog w = .ok (.func fn first cap) w := fun _ _ _ _ => rfl
  clear h hx hA hx1 hx2 hx3 hl'
  go_enter Try.func7, Try.ntmps7
  go_wp2
  go_quiet (fail)
  clear c0 c2 f2 cl fl
  obtain ⟨W1, hW1⟩ : ∃ W1, W1 = ((w.alloc (.cells #[.pointer (some ⟨p, 0, none⟩)] 24)).alloc (.cells #[.int .i64 b] 3)).drewN nq := ⟨_, rfl⟩
  rw [← hW1]
  have hT1 : Bk p [.slice (some ⟨gl, 0, none⟩) l.length l.length, .slice (some ⟨gs, 0, none⟩) (l.length + 1) (l.length + 1), .int .i64 A] W1 := by rw [hW1]; exact HT.out
  have hN1 : Bk gl (ints l) W1 := by rw [hW1]; exact HN.out
  have hS1 : Bk gs (ints s) W1 := by rw [hW1]; exact HRW.out
  have hX1 : Bk w.heap.size [.pointer (some ⟨p, 0, none⟩)] W1 := by rw [hW1]; exact HX0.out
  have hY1 : Bk (w.heap.size + 1) [.int .i64 b] W1 := by rw [hW1]; exact HX1.out
  have HK1 : Hid (Kp (fun j => j = p ∨ j = gl ∨ j = gs) w W1) := Lib.hid (by rw [hW1]; exact Kp.new (below_drewN' HB.out nq))
  have x0 := (hX1.2 0 _ rfl).1
  have y0 := (hY1.2 0 _ rfl).1
  have c0 := (hT1.2 0 _ rfl).1
  have cl := (hN1.2 i _ (ints_get l i hi)).1
  have fl := (hN1.2 i _ (ints_get l i hi)).2
  rw [← HXE.out] at cl
  have HT1 := Lib.hid hT1; have HN1 := Lib.hid hN1; have HS1 := Lib.hid hS1; have HX1' := Lib.hid hX1; have HY1 := Lib.hid hY1
  clear hT1 hN1 hS1 hX1 hY1 hW1
  go_wp2
  refine wp_region_still_tail 10 (by kernel_rfl) (by kernel_rfl) ?_
  simp only [List.take_succ_cons, List.take_zero, List.drop_succ_cons, List.drop_zero]
  change wpStill _ _ (W1.drew) _ _ _
  repeat still_step
  refine wpStill_nil ?_
  change wpList _ _ _ _ _ (W1.drew)
  go_wp2
  clear x0 y0 c0 cl fl
  have n1 := HNE.out
  obtain ⟨W2, hW2⟩ : ∃ W2, W2 = (W1.setCell ⟨gl, i, none⟩ (.int .i64 (x + b))).drew := ⟨_, rfl⟩
  have hT2 : Bk p [.slice (some ⟨gl, 0, none⟩) l.length l.length, .slice (some ⟨gs, 0, none⟩) (l.length + 1) (l.length + 1), .int .i64 A] W2 := by rw [hW2]; exact (HT1.out.other (q := ⟨gl, i, none⟩) (by simp; omega) _).drew
  have hN2 : Bk gl (ints l') W2 := by rw [hW2, ← HSET.out]; exact (HN1.out.set i HIL.out _).drew
  have hS2 : Bk gs (ints s) W2 := by rw [hW2]; exact (HS1.out.other (q := ⟨gl, i, none⟩) (by simp; omega) _).drew
  have hX2 : Bk w.heap.size [.pointer (some ⟨p, 0, none⟩)] W2 := by rw [hW2]; exact (HX1'.out.other (q := ⟨gl, i, none⟩) (by simp; omega) _).drew
  have hY2 : Bk (w.heap.size + 1) [.int .i64 b] W2 := by rw [hW2]; exact (HY1.out.other (q := ⟨gl, i, none⟩) (by simp; omega) _).drew
  have HK2 : Hid (Kp (fun j => j = p ∨ j = gl ∨ j = gs) w W2) := Lib.hid (by rw [hW2]; exact (HK1.out.set gl i _ (.inr (.inl rfl))).drew)
  have x0 := (hX2.2 0 _ rfl).1
  have y0 := (hY2.2 0 _ rfl).1
  have c2 := (hT2.2 2 _ rfl).1
  have f2 := (hT2.2 2 _ rfl).2
  have HT2 := Lib.hid hT2; have HN2 := Lib.hid hN2; have HS2 := Lib.hid hS2; have HX2 := Lib.hid hX2; have HY2 := Lib.hid hY2
  rw [← hW2]
  clear hT2 hN2 hS2 hX2 hY2 n1 hW2
  refine wp_region_still_tail 8 (by kernel_rfl) (by kernel_rfl) ?_
  simp only [List.take_succ_cons, List.take_zero, List.drop_succ_cons, List.drop_zero]
  change wpStill _ _ (W2.drew) _ _ _
  repeat still_step
  refine wpStill_nil ?_
  change wpList _ _ _ _ _ (W2.drew)
  go_wp2_with fail
  clear x0 y0 c2 f2
  have n1 := HNE.out
  obtain ⟨W3, hW3⟩ : ∃ W3, W3 = (W2.setCell ⟨p, 2, none⟩ (.int .i64 (A + b))).drew := ⟨_, rfl⟩
  have hT3 : Bk p [.slice (some ⟨gl, 0, none⟩) l.length l.length, .slice (some ⟨gs, 0, none⟩) (l.length + 1) (l.length + 1), .int .i64 (A + b)] W3 := by rw [hW3]; exact (bk_newtree HT2.out).drew
  have hN3 : Bk gl (ints l') W3 := by rw [hW3]; exact (HN2.out.other (q := ⟨p, 2, none⟩) (by simp; omega) _).drew
  have hS3 : Bk gs (ints s) W3 := by rw [hW3]; exact (HS2.out.other (q := ⟨p, 2, none⟩) (by simp; omega) _).drew
  have hX3 : Bk w.heap.size [.pointer (some ⟨p, 0, none⟩)] W3 := by rw [hW3]; exact (HX2.out.other (q := ⟨p, 2, none⟩) (by simp; omega) _).drew
  have hY3 : Bk (w.heap.size + 1) [.int .i64 b] W3 := by rw [hW3]; exact (HY2.out.other (q := ⟨p, 2, none⟩) (by simp; omega) _).drew
  have HK3 : Hid (Kp (fun j => j = p ∨ j = gl ∨ j = gs) w W3) := Lib.hid (by rw [hW3]; exact (HK2.out.set p 2 _ (.inl rfl)).drew)
  have x0 := (hX3.2 0 _ rfl).1
  have HCD : Hid (Cad w.heap.size (w.heap.size + 1) p gs (l.length + 1) W3) := Lib.hid ⟨(hX3.2 0 _ rfl).1, (hT3.2 1 _ rfl).1, by omega, by omega, by omega, by omega, by omega, hX3.1, hY3.1, hT3.1⟩
  have HT3 := Lib.hid hT3; have HN3 := Lib.hid hN3; have HS3 := Lib.hid hS3; have HY3 := Lib.hid hY3
  rw [← hW3]
  clear hT3 hN3 hS3 hX3 hY3 n1 hW3
  refine (HAL.out _ _ _ HCD.out HY3.out HS3.out).mono ?_
  rintro e w9 ⟨rfl, ⟨s', hfen, hbs⟩, hk⟩
  have HR9 : Hid (Rk p gl gs l' s' w9) := Lib.hid (HEND.out s' w9 (HT3.out.kp hk (fun e => HNE.out.2.1 e)) (HN3.out.kp hk (fun e => HNE.out.2.2 e)) hbs hfen)
  have HK9 := Lib.hid (HK3.out.trans (hk.mono (fun j _ e => .inr (.inr e))))
  clear hfen hbs hk
  go_wp2
  go_ret
  exact ⟨rfl, ⟨s', HR9.out⟩, HK9.out⟩
end Go.Proofs.Ytknlfifompmhoaa

