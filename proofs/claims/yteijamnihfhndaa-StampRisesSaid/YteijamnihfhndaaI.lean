/-
  The walk of StampRises: it returns true, for every input, without condition.
-/
import Derived.Test.YteijamnihfhndaaH
set_option linter.unusedVariables false
set_option linter.unusedSimpArgs false
namespace Go.Proofs.Yteijamnihfhndaa
open Go.RowKit
/-- A stamp's three cells in a box that may be written. -/
def BoxW (k : Nat) (a : St) (w : World) : Prop := k < w.heap.size ∧ (w.cell? ⟨k, 0, none⟩ = some (.int .i64 a.t) ∧ w.cell? ⟨k, 1, none⟩ = some (.int .i64 a.c) ∧ w.cell? ⟨k, 2, none⟩ = some (.int .i64 a.r)) ∧
  w.frozen? ⟨k, 0, none⟩ = false ∧ w.frozen? ⟨k, 1, none⟩ = false ∧ w.frozen? ⟨k, 2, none⟩ = false
theorem BoxW.keep {k : Nat} {a : St} {w1 w2 : World} (h : BoxW k a w1) (hb : Below w1.heap.size w1 w2) : BoxW k a w2 := by
  obtain ⟨hz, ⟨a0, a1, a2⟩, f0, f1, f2⟩ := h
  refine ⟨Nat.lt_of_lt_of_le hz hb.size, ⟨?_, ?_, ?_⟩, ?_, ?_, ?_⟩
  · exact (hb.cell (p := ⟨_, _, none⟩) (by simp <;> omega)).trans a0
  · exact (hb.cell (p := ⟨_, _, none⟩) (by simp <;> omega)).trans a1
  · exact (hb.cell (p := ⟨_, _, none⟩) (by simp <;> omega)).trans a2
  · exact (hb.frozen (p := ⟨_, _, none⟩) (by simp <;> omega)).trans f0
  · exact (hb.frozen (p := ⟨_, _, none⟩) (by simp <;> omega)).trans f1
  · exact (hb.frozen (p := ⟨_, _, none⟩) (by simp <;> omega)).trans f2
theorem BoxW.new (w : World) (a : St) : BoxW w.heap.size a (w.alloc (.cells #[.int .i64 a.t, .int .i64 a.c, .int .i64 a.r] 23)) := by
  refine ⟨by simp, ⟨?_, ?_, ?_⟩, ?_, ?_, ?_⟩
  all_goals go_simp
theorem BoxW.set {k : Nat} {a : St} {w : World} (h : BoxW k a w) (b : St) : BoxW k b (((w.setCell ⟨k, 0, none⟩ (.int .i64 b.t)).setCell ⟨k, 1, none⟩ (.int .i64 b.c)).setCell ⟨k, 2, none⟩ (.int .i64 b.r)) := by
  obtain ⟨hz, ⟨a0, a1, a2⟩, f0, f1, f2⟩ := h
  refine ⟨by simpa [World.setCell] using hz, ⟨?_, ?_, ?_⟩, ?_, ?_, ?_⟩
  all_goals go_simp
/-- What is known in a round: the last stamp's box, the list's element, and that nothing old has changed. -/
def Pt (w : World) (x : St) (b o : Nat) (y : St) (v : World) : Prop :=
  BoxW w.heap.size x v ∧ (v.cell? ⟨b, o, none⟩ = some (.int .i64 y.t) ∧ v.cell? ⟨b, o + 1, none⟩ = some (.int .i64 y.c) ∧ v.cell? ⟨b, o + 2, none⟩ = some (.int .i64 y.r)) ∧ b < w.heap.size ∧ Below w.heap.size w v
theorem Pt.keep {w : World} {x : St} {b o : Nat} {y : St} {v v2 : World} (h : Pt w x b o y v) (hv : Below v.heap.size v v2) : Pt w x b o y v2 := by
  obtain ⟨hx, ⟨h0, h1, h2⟩, hb, hB⟩ := h
  have hs := hB.size
  exact ⟨hx.keep hv, ⟨(hv.cell (p := ⟨_, _, none⟩) (by simp; omega)).trans h0, (hv.cell (p := ⟨_, _, none⟩) (by simp; omega)).trans h1, (hv.cell (p := ⟨_, _, none⟩) (by simp; omega)).trans h2⟩, hb, below_step hB (Nat.le_refl _) hv⟩
def set3 (v : World) (q : Nat) (s : St) : World := ((v.setCell ⟨q, 0, none⟩ (.int .i64 s.t)).setCell ⟨q, 1, none⟩ (.int .i64 s.c)).setCell ⟨q, 2, none⟩ (.int .i64 s.r)
theorem set3_below (v : World) (q : Nat) (s : St) (B : Nat) (h : B ≤ q) : Below B v (set3 v q s) := ((((Below.refl _ _).setCell h _).setCell h _).setCell h _)
theorem below_kept {k : Nat} {x : St} {v v2 : World} (h : BoxW k x v) (B : Nat) (hk : k < B) (hb : Below B v v2) : BoxW k x v2 := by
  obtain ⟨hz, ⟨a0, a1, a2⟩, f0, f1, f2⟩ := h
  refine ⟨Nat.lt_of_lt_of_le hz hb.size, ⟨?_, ?_, ?_⟩, ?_, ?_, ?_⟩
  · exact (hb.cell (p := ⟨_, _, none⟩) hk).trans a0
  · exact (hb.cell (p := ⟨_, _, none⟩) hk).trans a1
  · exact (hb.cell (p := ⟨_, _, none⟩) hk).trans a2
  · exact (hb.frozen (p := ⟨_, _, none⟩) hk).trans f0
  · exact (hb.frozen (p := ⟨_, _, none⟩) hk).trans f1
  · exact (hb.frozen (p := ⟨_, _, none⟩) hk).trans f2
theorem Pt.set {w : World} {x : St} {b o : Nat} {y : St} {v : World} (h : Pt w x b o y v) (q : Nat) (s : St) (hq : w.heap.size < q) : Pt w x b o y (set3 v q s) := by
  obtain ⟨hx, ⟨h0, h1, h2⟩, hb, hB⟩ := h
  have hv := set3_below v q s q (Nat.le_refl _)
  exact ⟨below_kept hx q hq hv, ⟨(hv.cell (p := ⟨_, _, none⟩) (by simp; omega)).trans h0, (hv.cell (p := ⟨_, _, none⟩) (by simp; omega)).trans h1, (hv.cell (p := ⟨_, _, none⟩) (by simp; omega)).trans h2⟩, hb, hB.trans (set3_below v q s _ (by omega))⟩
theorem undrew {w v : World} (h : Below w.drew.heap.size w.drew v) : Below w.heap.size w v := ⟨h.os, h.tape, h.output, h.size, h.block⟩
def encS (a : St) : List Value := [.int .i64 a.t, .int .i64 a.c, .int .i64 a.r]
def lex (a b : St) : Prop := a.t < b.t ∨ (a.t = b.t ∧ a.c ≤ b.c)
theorem seen_two (a b : St) (now : Int) : (seenS a b now = (⟨0, 0, 0⟩, 2)) ∨
    (∃ x : St, seenS a b now = (x, 0) ∧ okB a = true ∧ okB b = true ∧ badB now = false ∧ okB x = true ∧ x.r = a.r ∧ now ≤ x.t ∧ lex a x ∧ lex b x) := by
  by_cases h : okB a = false ∨ okB b = false ∨ badB now = true
  · left; unfold seenS; rw [if_pos h]
  · right
    have ha : okB a = true := by cases h2 : okB a <;> simp_all
    have hb : okB b = true := by cases h2 : okB b <;> simp_all
    have hn : badB now = false := by cases h2 : badB now <;> simp_all
    have a1 := ok_iff.1 ha
    have b1 := ok_iff.1 hb
    have n1 : 0 ≤ now ∧ now ≤ 1099511627776 := by
      have : ¬ (now < 0 ∨ 1099511627776 < now) := fun k => by rw [bad_iff.2 k] at hn; cases hn
      omega
    have sp := seen_plain a b now ha hb n1.1 n1.2
    by_cases c1 : a.t < b.t ∨ (a.t = b.t ∧ a.c < b.c)
    · by_cases c2 : b.t < now
      · refine ⟨⟨now, 0, a.r⟩, sp now 0 (.inl ⟨c1, c2, rfl, rfl⟩), ha, hb, hn, ok_iff.2 (by simp only; omega), rfl, by simp, .inl (by simp only; omega), .inl (by simp only; omega)⟩
      · refine ⟨⟨b.t, b.c, a.r⟩, sp b.t b.c (.inr (.inl ⟨c1, c2, rfl, rfl⟩)), ha, hb, hn, ok_iff.2 (by simp only; omega), rfl, by simp only; omega, ?_, .inr ⟨rfl, by simp only; omega⟩⟩
        unfold lex; simp only; omega
    · by_cases c2 : a.t < now
      · refine ⟨⟨now, 0, a.r⟩, sp now 0 (.inr (.inr (.inl ⟨c1, c2, rfl, rfl⟩))), ha, hb, hn, ok_iff.2 (by simp only; omega), rfl, by simp, .inl (by simp only; omega), .inl (by simp only; omega)⟩
      · refine ⟨⟨a.t, a.c, a.r⟩, sp a.t a.c (.inr (.inr (.inr ⟨c1, c2, rfl, rfl⟩))), ha, hb, hn, ok_iff.2 (by simp only; omega), rfl, by simp only; omega, .inr ⟨rfl, by simp only; omega⟩, ?_⟩
        unfold lex; simp only; omega
theorem next_two (x : St) (now : Int) (hx : okB x = true) (hn : badB now = false) (h : now ≤ x.t) : nextS x now x.r = (⟨0, 0, 0⟩, 13) ∨
    (nextS x now x.r = (⟨x.t, x.c + 1, x.r⟩, 0) ∧ okB ⟨x.t, x.c + 1, x.r⟩ = true) := by
  have x1 := ok_iff.1 hx
  unfold nextS
  rw [if_neg (by rw [hx, hn]; simp; omega), if_neg (by omega)]
  by_cases hc : x.c = 1099511627776
  · left; rw [if_pos hc]
  · right; rw [if_neg hc]; exact ⟨rfl, ok_iff.2 (by simp only; omega)⟩
theorem less_of_lex {a x : St} (h : lex a x) : lessB a ⟨x.t, x.c + 1, x.r⟩ = true := by
  apply less_iff.2; unfold lex at h; simp only; omega
set_option maxRecDepth 100000 in
set_option maxHeartbeats 8000000 in
theorem rises_walk (a : Option Addr) (l : List St) (cap : Nat) (r0 : Nat) (w : World) (hr : r0 ≤ 255) (hs : Sl encS 3 w a l) :
    Calls Try.prog 4 #[.slice a l.length cap, .int .u8 r0] w fun e w' => e = .returned (.bool true) ∧ Below w.heap.size w w' := by
  have HS := Lib.hid hs; clear hs
  by_cases hl : 60 < l.length
  · go_enter Try.func4, Try.ntmps4
    go_wp2_with fail
    refine (awake_any _).mono ?_
    rintro e w1 ⟨rfl, hb1⟩
    go_wp2_with fail
    go_ret
    exact ⟨rfl, hb1⟩
  · have HB0 : Hid (BoxW w.heap.size ⟨0, 0, (r0 : Int) % 16⟩ (w.alloc (.cells #[.int .i64 0, .int .i64 0, .int .i64 ((r0 : Int) % 16)] 23))) := Lib.hid (BoxW.new w ⟨0, 0, (r0 : Int) % 16⟩)
    have HK0 : Hid (okB ⟨0, 0, (r0 : Int) % 16⟩ = true) := Lib.hid (ok_iff.2 (by simp only; omega))
    go_enter Try.func4, Try.ntmps4
    go_wp2_with fail
    go_loopw [6, 7, 8, 9, 10, 11] (fun i _ _ _ _ _ wr => ∃ k : Nat, k ≤ l.length ∧ i = .int .i64 k ∧ (∃ x : St, okB x = true ∧ BoxW w.heap.size x wr) ∧ Below w.heap.size w wr) (fun i _ _ _ _ _ _ => l.length - (intOf i).toNat)
    case atStart => exact ⟨0, by omega, rfl, ⟨_, HK0.out, HB0.out⟩, below_new _ _⟩
    case round =>
      obtain ⟨k, hk, rfl, ⟨x, hx, hbox⟩, hb⟩ := hrel
      have HX := Lib.hid hx; have HBX := Lib.hid hbox
      clear hx hbox
      by_cases hlt : k < l.length
      · obtain ⟨b, o, rfl, hbw, hc0⟩ := HS.out k hlt
        have hbl : b < wr.heap.size := Nat.lt_of_lt_of_le hbw hb.size
        obtain ⟨b', o', hbo, _, hc⟩ := HS.out.keep hb k hlt
        obtain ⟨rfl, rfl⟩ : b = b' ∧ o = o' := by simpa using hbo
        clear hc0 hbo
        have c0 : wr.cell? ⟨b, o + k * 3, none⟩ = some (.int .i64 l[k].t) := hc 0 _ rfl
        have c1 : wr.cell? ⟨b, o + k * 3 + 1, none⟩ = some (.int .i64 l[k].c) := hc 1 _ rfl
        have c2 : wr.cell? ⟨b, o + k * 3 + 2, none⟩ = some (.int .i64 l[k].r) := hc 2 _ rfl
        clear hc
        generalize l[k] = y at *
        obtain ⟨hz, ⟨a0, a1, a2⟩, f0, f1, f2⟩ := HBX.out
        go_wp2_with fail
        have hP : Pt w x b (o + k * 3) y wr.drew := ⟨HBX.out, ⟨c0, c1, c2⟩, hbw, hb.drew⟩
        have hA : True := trivial
        have hk0 : (k : Int) < (l.length : Int) := by omega
        have HTWO := Lib.hid (seen_two x ⟨y.t, y.c, (k : Int) % 16⟩ y.r)
        have HSA := Lib.hid (seen_any x ⟨y.t, y.c, (k : Int) % 16⟩ y.r)
        generalize seenS x ⟨y.t, y.c, (k : Int) % 16⟩ y.r = S at *
        obtain ⟨s, se⟩ := S
        have hq0 : w.heap.size < wr.heap.size := hz
        clear hz a0 a1 a2 f0 f1 f2 c0 c1 c2 hb hbl hbw
        refine wp_region_held_drew (S := Pt w x b (o + k * 3) y) (by kernel_rfl) (by (exact hP)) (fun hHeld => ?_)
        refine wpAnyH_take (i := 0) (oi := { dst := some 32, op := Go.Op.load 23 (Go.Operand.tmp 5), type := 23, pos := "law.go:38", after := #[], guard := none }) (v := ?_) rfl (by kernel_rfl) (by kernel_rfl) (by kernel_rfl) (fun _ _ _ h => h) (Or.inl ⟨by rfl, ?_⟩) (by assumption) ?_
        (rotate_left; focus (intro wS hSw; obtain ⟨⟨hzS, ⟨sa0, sa1, sa2⟩, _⟩, ⟨s0, s1, s2⟩, _⟩ := hSw; go_simp; try with_reducible rfl))
        (try simp only [Act.put, List.setIfInBounds_toArray, List.set_cons_zero, List.set_cons_succ])
        refine wpAnyH_take (i := 1) (oi := { dst := some 33, op := Go.Op.move (Go.Operand.tmp 0), type := 37, pos := "law.go:38", after := #[], guard := none }) (v := ?_) rfl (by kernel_rfl) (by kernel_rfl) (by kernel_rfl) (fun _ _ _ h => h) (Or.inl ⟨by rfl, ?_⟩) (by assumption) ?_
        (rotate_left; focus (intro wS hSw; obtain ⟨⟨hzS, ⟨sa0, sa1, sa2⟩, _⟩, ⟨s0, s1, s2⟩, _⟩ := hSw; go_simp; try with_reducible rfl))
        (try simp only [Act.put, List.setIfInBounds_toArray, List.set_cons_zero, List.set_cons_succ])
        refine wpAnyH_take (i := 2) (oi := { dst := some 34, op := Go.Op.move (Go.Operand.tmp 6), type := 3, pos := "law.go:38", after := #[], guard := none }) (v := ?_) rfl (by kernel_rfl) (by kernel_rfl) (by kernel_rfl) (fun _ _ _ h => h) (Or.inl ⟨by rfl, ?_⟩) (by assumption) ?_
        (rotate_left; focus (intro wS hSw; obtain ⟨⟨hzS, ⟨sa0, sa1, sa2⟩, _⟩, ⟨s0, s1, s2⟩, _⟩ := hSw; go_simp; try with_reducible rfl))
        (try simp only [Act.put, List.setIfInBounds_toArray, List.set_cons_zero, List.set_cons_succ])
        refine wpAnyH_take (i := 3) (oi := { dst := some 35, op := Go.Op.indexAddr 37 (Go.Operand.tmp 33) (Go.Operand.tmp 34), type := 0, pos := "law.go:38", after := #[{ on := 1, ground := Go.Ground.data }, { on := 2, ground := Go.Ground.data }], guard := none }) (v := ?_) rfl (by kernel_rfl) (by kernel_rfl) (by kernel_rfl) (fun _ _ _ h => h) (Or.inl ⟨by rfl, ?_⟩) (by assumption) ?_
        (rotate_left; focus (intro wS hSw; obtain ⟨⟨hzS, ⟨sa0, sa1, sa2⟩, _⟩, ⟨s0, s1, s2⟩, _⟩ := hSw; go_simp; try with_reducible rfl))
        (try simp only [Act.put, List.setIfInBounds_toArray, List.set_cons_zero, List.set_cons_succ])
        refine wpAnyH_take (i := 4) (oi := { dst := some 36, op := Go.Op.fieldAddr 23 (Go.Operand.tmp 35) 0, type := 0, pos := "law.go:38", after := #[{ on := 3, ground := Go.Ground.data }], guard := none }) (v := ?_) rfl (by kernel_rfl) (by kernel_rfl) (by kernel_rfl) (fun _ _ _ h => h) (Or.inl ⟨by rfl, ?_⟩) (by assumption) ?_
        (rotate_left; focus (intro wS hSw; obtain ⟨⟨hzS, ⟨sa0, sa1, sa2⟩, _⟩, ⟨s0, s1, s2⟩, _⟩ := hSw; go_simp; try with_reducible rfl))
        (try simp only [Act.put, List.setIfInBounds_toArray, List.set_cons_zero, List.set_cons_succ])
        refine wpAnyH_take (i := 5) (oi := { dst := some 37, op := Go.Op.load 3 (Go.Operand.tmp 36), type := 3, pos := "law.go:38", after := #[{ on := 4, ground := Go.Ground.data }], guard := none }) (v := ?_) rfl (by kernel_rfl) (by kernel_rfl) (by kernel_rfl) (fun _ _ _ h => h) (Or.inl ⟨by rfl, ?_⟩) (by assumption) ?_
        (rotate_left; focus (intro wS hSw; obtain ⟨⟨hzS, ⟨sa0, sa1, sa2⟩, _⟩, ⟨s0, s1, s2⟩, _⟩ := hSw; go_simp; try with_reducible rfl))
        (try simp only [Act.put, List.setIfInBounds_toArray, List.set_cons_zero, List.set_cons_succ])
        refine wpAnyH_take (i := 6) (oi := { dst := some 38, op := Go.Op.move (Go.Operand.tmp 0), type := 37, pos := "law.go:38", after := #[], guard := none }) (v := ?_) rfl (by kernel_rfl) (by kernel_rfl) (by kernel_rfl) (fun _ _ _ h => h) (Or.inl ⟨by rfl, ?_⟩) (by assumption) ?_
        (rotate_left; focus (intro wS hSw; obtain ⟨⟨hzS, ⟨sa0, sa1, sa2⟩, _⟩, ⟨s0, s1, s2⟩, _⟩ := hSw; go_simp; try with_reducible rfl))
        (try simp only [Act.put, List.setIfInBounds_toArray, List.set_cons_zero, List.set_cons_succ])
        refine wpAnyH_take (i := 7) (oi := { dst := some 39, op := Go.Op.move (Go.Operand.tmp 6), type := 3, pos := "law.go:38", after := #[], guard := none }) (v := ?_) rfl (by kernel_rfl) (by kernel_rfl) (by kernel_rfl) (fun _ _ _ h => h) (Or.inl ⟨by rfl, ?_⟩) (by assumption) ?_
        (rotate_left; focus (intro wS hSw; obtain ⟨⟨hzS, ⟨sa0, sa1, sa2⟩, _⟩, ⟨s0, s1, s2⟩, _⟩ := hSw; go_simp; try with_reducible rfl))
        (try simp only [Act.put, List.setIfInBounds_toArray, List.set_cons_zero, List.set_cons_succ])
        refine wpAnyH_take (i := 8) (oi := { dst := some 40, op := Go.Op.indexAddr 37 (Go.Operand.tmp 38) (Go.Operand.tmp 39), type := 0, pos := "law.go:38", after := #[{ on := 6, ground := Go.Ground.data }, { on := 7, ground := Go.Ground.data }], guard := none }) (v := ?_) rfl (by kernel_rfl) (by kernel_rfl) (by kernel_rfl) (fun _ _ _ h => h) (Or.inl ⟨by rfl, ?_⟩) (by assumption) ?_
        (rotate_left; focus (intro wS hSw; obtain ⟨⟨hzS, ⟨sa0, sa1, sa2⟩, _⟩, ⟨s0, s1, s2⟩, _⟩ := hSw; go_simp; try with_reducible rfl))
        (try simp only [Act.put, List.setIfInBounds_toArray, List.set_cons_zero, List.set_cons_succ])
        refine wpAnyH_take (i := 9) (oi := { dst := some 41, op := Go.Op.fieldAddr 23 (Go.Operand.tmp 40) 1, type := 0, pos := "law.go:38", after := #[{ on := 8, ground := Go.Ground.data }], guard := none }) (v := ?_) rfl (by kernel_rfl) (by kernel_rfl) (by kernel_rfl) (fun _ _ _ h => h) (Or.inl ⟨by rfl, ?_⟩) (by assumption) ?_
        (rotate_left; focus (intro wS hSw; obtain ⟨⟨hzS, ⟨sa0, sa1, sa2⟩, _⟩, ⟨s0, s1, s2⟩, _⟩ := hSw; go_simp; try with_reducible rfl))
        (try simp only [Act.put, List.setIfInBounds_toArray, List.set_cons_zero, List.set_cons_succ])
        refine wpAnyH_take (i := 10) (oi := { dst := some 42, op := Go.Op.load 3 (Go.Operand.tmp 41), type := 3, pos := "law.go:38", after := #[{ on := 9, ground := Go.Ground.data }], guard := none }) (v := ?_) rfl (by kernel_rfl) (by kernel_rfl) (by kernel_rfl) (fun _ _ _ h => h) (Or.inl ⟨by rfl, ?_⟩) (by assumption) ?_
        (rotate_left; focus (intro wS hSw; obtain ⟨⟨hzS, ⟨sa0, sa1, sa2⟩, _⟩, ⟨s0, s1, s2⟩, _⟩ := hSw; go_simp; try with_reducible rfl))
        (try simp only [Act.put, List.setIfInBounds_toArray, List.set_cons_zero, List.set_cons_succ])
        refine wpAnyH_take (i := 11) (oi := { dst := some 43, op := Go.Op.move (Go.Operand.tmp 6), type := 3, pos := "law.go:38", after := #[], guard := none }) (v := ?_) rfl (by kernel_rfl) (by kernel_rfl) (by kernel_rfl) (fun _ _ _ h => h) (Or.inl ⟨by rfl, ?_⟩) (by assumption) ?_
        (rotate_left; focus (intro wS hSw; obtain ⟨⟨hzS, ⟨sa0, sa1, sa2⟩, _⟩, ⟨s0, s1, s2⟩, _⟩ := hSw; go_simp; try with_reducible rfl))
        (try simp only [Act.put, List.setIfInBounds_toArray, List.set_cons_zero, List.set_cons_succ])
        refine wpAnyH_take (i := 12) (oi := { dst := some 44, op := Go.Op.binOp Go.BinOp.rem 3 (Go.Operand.tmp 43) (Go.Operand.const (Go.Value.int Go.IntKind.i64 16)) 3, type := 3, pos := "law.go:38", after := #[{ on := 11, ground := Go.Ground.data }], guard := none }) (v := ?_) rfl (by kernel_rfl) (by kernel_rfl) (by kernel_rfl) (fun _ _ _ h => h) (Or.inl ⟨by rfl, ?_⟩) (by assumption) ?_
        (rotate_left; focus (intro wS hSw; obtain ⟨⟨hzS, ⟨sa0, sa1, sa2⟩, _⟩, ⟨s0, s1, s2⟩, _⟩ := hSw; go_simp; try with_reducible rfl))
        (try simp only [Act.put, List.setIfInBounds_toArray, List.set_cons_zero, List.set_cons_succ])
        refine wpAnyH_take (i := 13) (oi := { dst := some 45, op := Go.Op.build 23 #[(0, Go.Operand.tmp 37), (1, Go.Operand.tmp 42), (2, Go.Operand.tmp 44)], type := 23, pos := "law.go:38", after := #[{ on := 5, ground := Go.Ground.data }, { on := 10, ground := Go.Ground.data }, { on := 12, ground := Go.Ground.data }], guard := none }) (v := ?_) rfl (by kernel_rfl) (by kernel_rfl) (by kernel_rfl) (fun _ _ _ h => h) (Or.inl ⟨by rfl, ?_⟩) (by assumption) ?_
        (rotate_left; focus (intro wS hSw; obtain ⟨⟨hzS, ⟨sa0, sa1, sa2⟩, _⟩, ⟨s0, s1, s2⟩, _⟩ := hSw; go_simp; try with_reducible rfl))
        (try simp only [Act.put, List.setIfInBounds_toArray, List.set_cons_zero, List.set_cons_succ])
        refine wpAnyH_take (i := 14) (oi := { dst := some 46, op := Go.Op.move (Go.Operand.tmp 7), type := 3, pos := "law.go:38", after := #[], guard := none }) (v := ?_) rfl (by kernel_rfl) (by kernel_rfl) (by kernel_rfl) (fun _ _ _ h => h) (Or.inl ⟨by rfl, ?_⟩) (by assumption) ?_
        (rotate_left; focus (intro wS hSw; obtain ⟨⟨hzS, ⟨sa0, sa1, sa2⟩, _⟩, ⟨s0, s1, s2⟩, _⟩ := hSw; go_simp; try with_reducible rfl))
        (try simp only [Act.put, List.setIfInBounds_toArray, List.set_cons_zero, List.set_cons_succ])
        refine wpAnyH_ready (rs := [15, 19]) (by kernel_rfl) (by simp) ?_
        refine AllReadyH.cons (o := { dst := some 47, op := Go.Op.call { callee := Go.Callee.value (Go.Operand.func 8), args := #[Go.Operand.tmp 32, Go.Operand.tmp 45, Go.Operand.tmp 46], argTypes := #[23, 23, 3] }, type := 26, pos := "law.go:38", after := #[{ on := 0, ground := Go.Ground.data }, { on := 13, ground := Go.Ground.data }, { on := 14, ground := Go.Ground.data }], guard := none }) rfl (fun K hK => ?_) ?_
        focus
          go_simp
          refine (HSA.out _).mono ?_
          rintro e v1 ⟨rfl, hv1⟩
          replace hP := hP.keep hv1
          (try replace hA := BoxW.keep hA hv1)
          (try go_wp2_with fail)
          refine hK.out _ _ (by (exact hP)) (fun hHeld => ?_)
          clear hK K
          (try simp only [Act.put, List.setIfInBounds_toArray, List.set_cons_zero, List.set_cons_succ])
          refine wpAnyH_take (i := 16) (oi := { dst := some 31, op := Go.Op.move (Go.Operand.tmp 47), type := 26, pos := "law.go:38", after := #[{ on := 15, ground := Go.Ground.data }], guard := none }) (v := ?_) rfl (by kernel_rfl) (by kernel_rfl) (by kernel_rfl) (fun _ _ _ h => h) (Or.inl ⟨by rfl, ?_⟩) (by assumption) ?_
          (rotate_left; focus (intro wS hSw; obtain ⟨⟨hzS, ⟨sa0, sa1, sa2⟩, _⟩, ⟨s0, s1, s2⟩, _⟩ := hSw; go_simp; try with_reducible rfl))
          (try simp only [Act.put, List.setIfInBounds_toArray, List.set_cons_zero, List.set_cons_succ])
          refine wpAnyH_take (i := 17) (oi := { dst := some 48, op := Go.Op.extract (Go.Operand.tmp 31) 0, type := 23, pos := "law.go:38", after := #[{ on := 16, ground := Go.Ground.data }], guard := none }) (v := ?_) rfl (by kernel_rfl) (by kernel_rfl) (by kernel_rfl) (fun _ _ _ h => h) (Or.inl ⟨by rfl, ?_⟩) (by assumption) ?_
          (rotate_left; focus (intro wS hSw; obtain ⟨⟨hzS, ⟨sa0, sa1, sa2⟩, _⟩, ⟨s0, s1, s2⟩, _⟩ := hSw; go_simp; try with_reducible rfl))
          (try simp only [Act.put, List.setIfInBounds_toArray, List.set_cons_zero, List.set_cons_succ])
          refine wpAnyH_take (i := 18) (oi := { dst := some 49, op := Go.Op.extract (Go.Operand.tmp 31) 1, type := 25, pos := "law.go:38", after := #[{ on := 16, ground := Go.Ground.data }, { on := 20, ground := Go.Ground.gcOnly Go.Departure.lateStores }], guard := none }) (v := ?_) rfl (by kernel_rfl) (by kernel_rfl) (by kernel_rfl) (fun _ _ _ h => h) (Or.inl ⟨by rfl, ?_⟩) (by assumption) ?_
          (rotate_left; focus (intro wS hSw; obtain ⟨⟨hzS, ⟨sa0, sa1, sa2⟩, _⟩, ⟨s0, s1, s2⟩, _⟩ := hSw; go_simp; try with_reducible rfl))
          (try simp only [Act.put, List.setIfInBounds_toArray, List.set_cons_zero, List.set_cons_succ])
          refine wpAnyH_ready (rs := [19]) (by kernel_rfl) (by simp) ?_
          refine AllReadyH.cons (o := { dst := some 8, op := Go.Op.alloc 23, type := 0, pos := "law.go:38", after := #[], guard := none }) rfl (fun K hK => ?_) AllReadyH.nil
          go_simp
          first | (have hN := below_new v1 (.cells #[.int .i64 0, .int .i64 0, .int .i64 0] 23); have hP1 := hP; replace hP := hP.keep hN) | (have hN : Below wr.drew.heap.size wr.drew (wr.alloc (.cells #[.int .i64 0, .int .i64 0, .int .i64 0] 23)).drew := below_new wr.drew (.cells #[.int .i64 0, .int .i64 0, .int .i64 0] 23); replace hA : BoxW wr.heap.size ⟨0, 0, 0⟩ (wr.alloc (.cells #[.int .i64 0, .int .i64 0, .int .i64 0] 23)).drew := BoxW.new wr.drew ⟨0, 0, 0⟩; replace hP := hP.keep hN)
          clear hN
          refine hK.out _ _ (by (exact hP)) (fun hHeld => ?_)
          clear hK K
          (try simp only [Act.put, List.setIfInBounds_toArray, List.set_cons_zero, List.set_cons_succ])
          refine wpAnyH_ready (rs := [20]) (by kernel_rfl) (by simp) ?_
          refine AllReadyH.cons (o := { dst := none, op := Go.Op.store 23 (Go.Operand.tmp 8) (Go.Operand.tmp 48), type := 0, pos := "law.go:38", after := #[{ on := 19, ground := Go.Ground.data }, { on := 17, ground := Go.Ground.data }, { on := 15, ground := Go.Ground.chain }, { on := 0, ground := Go.Ground.phase }, { on := 1, ground := Go.Ground.phase }, { on := 2, ground := Go.Ground.phase }, { on := 3, ground := Go.Ground.phase }, { on := 4, ground := Go.Ground.phase }, { on := 5, ground := Go.Ground.phase }, { on := 6, ground := Go.Ground.phase }, { on := 7, ground := Go.Ground.phase }, { on := 8, ground := Go.Ground.phase }, { on := 9, ground := Go.Ground.phase }, { on := 10, ground := Go.Ground.phase }, { on := 11, ground := Go.Ground.phase }, { on := 12, ground := Go.Ground.phase }, { on := 13, ground := Go.Ground.phase }, { on := 14, ground := Go.Ground.phase }, { on := 15, ground := Go.Ground.phase }, { on := 16, ground := Go.Ground.phase }, { on := 17, ground := Go.Ground.phase }, { on := 18, ground := Go.Ground.textOnly Go.Departure.lateStores }, { on := 19, ground := Go.Ground.phase }], guard := none }) rfl (fun K hK => ?_) AllReadyH.nil
          (try obtain ⟨hzA, ⟨qa0, qa1, qa2⟩, fa0, fa1, fa2⟩ := id hA)
          go_simp
          first | (have hBx : BoxW v1.heap.size s (v1.alloc (.cells #[.int .i64 s.t, .int .i64 s.c, .int .i64 s.r] 23)) := BoxW.new v1 s; replace hP := hP1.keep (below_new v1 (.cells #[.int .i64 s.t, .int .i64 s.c, .int .i64 s.r] 23)); have hq1 : w.heap.size < v1.heap.size := hP1.1.1) | (have hBx : BoxW wr.heap.size s (set3 v1 wr.heap.size s) := hA.set s; replace hP : Pt w x b (o + k * 3) y (set3 v1 wr.heap.size s) := hP.set _ s hq0)
          refine hK.out _ _ (by (exact hP)) (fun hHeld => ?_)
          clear hK K
          (try simp only [Act.put, List.setIfInBounds_toArray, List.set_cons_zero, List.set_cons_succ])
          refine wpAnyH_take (i := 21) (oi := { dst := some 9, op := Go.Op.assign (Go.Operand.tmp 49), type := 25, pos := "law.go:38", after := #[{ on := 18, ground := Go.Ground.data }, { on := 20, ground := Go.Ground.chain }, { on := 0, ground := Go.Ground.phase }, { on := 1, ground := Go.Ground.phase }, { on := 2, ground := Go.Ground.phase }, { on := 3, ground := Go.Ground.phase }, { on := 4, ground := Go.Ground.phase }, { on := 5, ground := Go.Ground.phase }, { on := 6, ground := Go.Ground.phase }, { on := 7, ground := Go.Ground.phase }, { on := 8, ground := Go.Ground.phase }, { on := 9, ground := Go.Ground.phase }, { on := 10, ground := Go.Ground.phase }, { on := 11, ground := Go.Ground.phase }, { on := 12, ground := Go.Ground.phase }, { on := 13, ground := Go.Ground.phase }, { on := 14, ground := Go.Ground.phase }, { on := 15, ground := Go.Ground.phase }, { on := 16, ground := Go.Ground.phase }, { on := 17, ground := Go.Ground.phase }, { on := 18, ground := Go.Ground.phase }, { on := 19, ground := Go.Ground.phase }, { on := 20, ground := Go.Ground.phase }], guard := none }) (v := ?_) rfl (by kernel_rfl) (by kernel_rfl) (by kernel_rfl) (fun _ _ _ h => h) (Or.inl ⟨by rfl, ?_⟩) (by assumption) ?_
          (rotate_left; focus (intro wS hSw; obtain ⟨⟨hzS, ⟨sa0, sa1, sa2⟩, _⟩, ⟨s0, s1, s2⟩, _⟩ := hSw; go_simp; try with_reducible rfl))
          (try simp only [Act.put, List.setIfInBounds_toArray, List.set_cons_zero, List.set_cons_succ])
          refine wpAnyH_done (by kernel_rfl) ?_ _
        rotate_left 1
        refine AllReadyH.cons (o := { dst := some 8, op := Go.Op.alloc 23, type := 0, pos := "law.go:38", after := #[], guard := none }) rfl (fun K hK => ?_) AllReadyH.nil
        focus
          go_simp
          first | (have hN := below_new v1 (.cells #[.int .i64 0, .int .i64 0, .int .i64 0] 23); have hP1 := hP; replace hP := hP.keep hN) | (have hN : Below wr.drew.heap.size wr.drew (wr.alloc (.cells #[.int .i64 0, .int .i64 0, .int .i64 0] 23)).drew := below_new wr.drew (.cells #[.int .i64 0, .int .i64 0, .int .i64 0] 23); replace hA : BoxW wr.heap.size ⟨0, 0, 0⟩ (wr.alloc (.cells #[.int .i64 0, .int .i64 0, .int .i64 0] 23)).drew := BoxW.new wr.drew ⟨0, 0, 0⟩; replace hP := hP.keep hN)
          clear hN
          refine hK.out _ _ (by (exact hP)) (fun hHeld => ?_)
          clear hK K
          (try simp only [Act.put, List.setIfInBounds_toArray, List.set_cons_zero, List.set_cons_succ])
          refine wpAnyH_ready (rs := [15]) (by kernel_rfl) (by simp) ?_
          refine AllReadyH.cons (o := { dst := some 47, op := Go.Op.call { callee := Go.Callee.value (Go.Operand.func 8), args := #[Go.Operand.tmp 32, Go.Operand.tmp 45, Go.Operand.tmp 46], argTypes := #[23, 23, 3] }, type := 26, pos := "law.go:38", after := #[{ on := 0, ground := Go.Ground.data }, { on := 13, ground := Go.Ground.data }, { on := 14, ground := Go.Ground.data }], guard := none }) rfl (fun K hK => ?_) AllReadyH.nil
          go_simp
          refine (HSA.out _).mono ?_
          rintro e v1 ⟨rfl, hv1⟩
          replace hP := hP.keep hv1
          (try replace hA := BoxW.keep hA hv1)
          (try go_wp2_with fail)
          refine hK.out _ _ (by (exact hP)) (fun hHeld => ?_)
          clear hK K
          (try simp only [Act.put, List.setIfInBounds_toArray, List.set_cons_zero, List.set_cons_succ])
          refine wpAnyH_take (i := 16) (oi := { dst := some 31, op := Go.Op.move (Go.Operand.tmp 47), type := 26, pos := "law.go:38", after := #[{ on := 15, ground := Go.Ground.data }], guard := none }) (v := ?_) rfl (by kernel_rfl) (by kernel_rfl) (by kernel_rfl) (fun _ _ _ h => h) (Or.inl ⟨by rfl, ?_⟩) (by assumption) ?_
          (rotate_left; focus (intro wS hSw; obtain ⟨⟨hzS, ⟨sa0, sa1, sa2⟩, _⟩, ⟨s0, s1, s2⟩, _⟩ := hSw; go_simp; try with_reducible rfl))
          (try simp only [Act.put, List.setIfInBounds_toArray, List.set_cons_zero, List.set_cons_succ])
          refine wpAnyH_take (i := 17) (oi := { dst := some 48, op := Go.Op.extract (Go.Operand.tmp 31) 0, type := 23, pos := "law.go:38", after := #[{ on := 16, ground := Go.Ground.data }], guard := none }) (v := ?_) rfl (by kernel_rfl) (by kernel_rfl) (by kernel_rfl) (fun _ _ _ h => h) (Or.inl ⟨by rfl, ?_⟩) (by assumption) ?_
          (rotate_left; focus (intro wS hSw; obtain ⟨⟨hzS, ⟨sa0, sa1, sa2⟩, _⟩, ⟨s0, s1, s2⟩, _⟩ := hSw; go_simp; try with_reducible rfl))
          (try simp only [Act.put, List.setIfInBounds_toArray, List.set_cons_zero, List.set_cons_succ])
          refine wpAnyH_take (i := 18) (oi := { dst := some 49, op := Go.Op.extract (Go.Operand.tmp 31) 1, type := 25, pos := "law.go:38", after := #[{ on := 16, ground := Go.Ground.data }, { on := 20, ground := Go.Ground.gcOnly Go.Departure.lateStores }], guard := none }) (v := ?_) rfl (by kernel_rfl) (by kernel_rfl) (by kernel_rfl) (fun _ _ _ h => h) (Or.inl ⟨by rfl, ?_⟩) (by assumption) ?_
          (rotate_left; focus (intro wS hSw; obtain ⟨⟨hzS, ⟨sa0, sa1, sa2⟩, _⟩, ⟨s0, s1, s2⟩, _⟩ := hSw; go_simp; try with_reducible rfl))
          (try simp only [Act.put, List.setIfInBounds_toArray, List.set_cons_zero, List.set_cons_succ])
          refine wpAnyH_ready (rs := [20]) (by kernel_rfl) (by simp) ?_
          refine AllReadyH.cons (o := { dst := none, op := Go.Op.store 23 (Go.Operand.tmp 8) (Go.Operand.tmp 48), type := 0, pos := "law.go:38", after := #[{ on := 19, ground := Go.Ground.data }, { on := 17, ground := Go.Ground.data }, { on := 15, ground := Go.Ground.chain }, { on := 0, ground := Go.Ground.phase }, { on := 1, ground := Go.Ground.phase }, { on := 2, ground := Go.Ground.phase }, { on := 3, ground := Go.Ground.phase }, { on := 4, ground := Go.Ground.phase }, { on := 5, ground := Go.Ground.phase }, { on := 6, ground := Go.Ground.phase }, { on := 7, ground := Go.Ground.phase }, { on := 8, ground := Go.Ground.phase }, { on := 9, ground := Go.Ground.phase }, { on := 10, ground := Go.Ground.phase }, { on := 11, ground := Go.Ground.phase }, { on := 12, ground := Go.Ground.phase }, { on := 13, ground := Go.Ground.phase }, { on := 14, ground := Go.Ground.phase }, { on := 15, ground := Go.Ground.phase }, { on := 16, ground := Go.Ground.phase }, { on := 17, ground := Go.Ground.phase }, { on := 18, ground := Go.Ground.textOnly Go.Departure.lateStores }, { on := 19, ground := Go.Ground.phase }], guard := none }) rfl (fun K hK => ?_) AllReadyH.nil
          (try obtain ⟨hzA, ⟨qa0, qa1, qa2⟩, fa0, fa1, fa2⟩ := id hA)
          go_simp
          first | (have hBx : BoxW v1.heap.size s (v1.alloc (.cells #[.int .i64 s.t, .int .i64 s.c, .int .i64 s.r] 23)) := BoxW.new v1 s; replace hP := hP1.keep (below_new v1 (.cells #[.int .i64 s.t, .int .i64 s.c, .int .i64 s.r] 23)); have hq1 : w.heap.size < v1.heap.size := hP1.1.1) | (have hBx : BoxW wr.heap.size s (set3 v1 wr.heap.size s) := hA.set s; replace hP : Pt w x b (o + k * 3) y (set3 v1 wr.heap.size s) := hP.set _ s hq0)
          refine hK.out _ _ (by (exact hP)) (fun hHeld => ?_)
          clear hK K
          (try simp only [Act.put, List.setIfInBounds_toArray, List.set_cons_zero, List.set_cons_succ])
          refine wpAnyH_take (i := 21) (oi := { dst := some 9, op := Go.Op.assign (Go.Operand.tmp 49), type := 25, pos := "law.go:38", after := #[{ on := 18, ground := Go.Ground.data }, { on := 20, ground := Go.Ground.chain }, { on := 0, ground := Go.Ground.phase }, { on := 1, ground := Go.Ground.phase }, { on := 2, ground := Go.Ground.phase }, { on := 3, ground := Go.Ground.phase }, { on := 4, ground := Go.Ground.phase }, { on := 5, ground := Go.Ground.phase }, { on := 6, ground := Go.Ground.phase }, { on := 7, ground := Go.Ground.phase }, { on := 8, ground := Go.Ground.phase }, { on := 9, ground := Go.Ground.phase }, { on := 10, ground := Go.Ground.phase }, { on := 11, ground := Go.Ground.phase }, { on := 12, ground := Go.Ground.phase }, { on := 13, ground := Go.Ground.phase }, { on := 14, ground := Go.Ground.phase }, { on := 15, ground := Go.Ground.phase }, { on := 16, ground := Go.Ground.phase }, { on := 17, ground := Go.Ground.phase }, { on := 18, ground := Go.Ground.phase }, { on := 19, ground := Go.Ground.phase }, { on := 20, ground := Go.Ground.phase }], guard := none }) (v := ?_) rfl (by kernel_rfl) (by kernel_rfl) (by kernel_rfl) (fun _ _ _ h => h) (Or.inl ⟨by rfl, ?_⟩) (by assumption) ?_
          (rotate_left; focus (intro wS hSw; obtain ⟨⟨hzS, ⟨sa0, sa1, sa2⟩, _⟩, ⟨s0, s1, s2⟩, _⟩ := hSw; go_simp; try with_reducible rfl))
          (try simp only [Act.put, List.setIfInBounds_toArray, List.set_cons_zero, List.set_cons_succ])
          refine wpAnyH_done (by kernel_rfl) ?_ _
        all_goals clear hA
        all_goals first | (change Exit.then _ _ .normal _ (set3 v1 wr.heap.size s); generalize set3 v1 wr.heap.size s = W at hBx hP ⊢; generalize wr.heap.size = p at hBx ⊢) | (generalize v1.alloc (.cells #[.int .i64 s.t, .int .i64 s.c, .int .i64 s.r] 23) = W at hBx hP ⊢; generalize v1.heap.size = p at hBx ⊢)
        all_goals
          have HBx := Lib.hid hBx
          have HP := Lib.hid hP
          clear hBx hP
          rcases HTWO.out with hE | ⟨s', hE, _, _, hbn, hoks, hsr, hnow, hlx, hly⟩
          · obtain ⟨rfl, rfl⟩ : s = ⟨0, 0, 0⟩ ∧ se = 2 := by simpa using hE
            clear hE
            go_wp2_with fail
            go_roundw
            case rel => exact ⟨k + 1, by omega, by go_num, ⟨x, HX.out, HP.out.1⟩, HP.out.2.2.2⟩
            case measure => simp [intOf]; omega
          · obtain ⟨rfl, rfl⟩ : s' = s ∧ se = 0 := by
              have := hE
              simp at this
              exact ⟨this.1.symm, this.2⟩
            clear hE
            have HSR := Lib.hid hsr
            have HNT := Lib.hid (next_two s' y.r hoks hbn hnow)
            have HNX := Lib.hid (next_any s' y.r s'.r)
            have HLESS := Lib.hid (less_of_lex hlx)
            have hly2 : y.t < s'.t ∨ (y.t = s'.t ∧ y.c ≤ s'.c) := hly
            have HLY := Lib.hid hly2
            have hok2 := ok_iff.1 hoks
            have hcb : 0 ≤ s'.c := hok2.2.2.1
            have hcb2 : s'.c ≤ 1099511627776 := hok2.2.2.2.1
            have hyt : y.t ≤ s'.t := by omega
            clear hbn hoks hsr hnow hlx hly hly2 hok2
            obtain ⟨⟨hz, ⟨a0, a1, a2⟩, f0, f1, f2⟩, ⟨c0, c1, c2⟩, hbw, hb⟩ := HP.out
            obtain ⟨hz2, ⟨t0, t1, t2⟩, g0, g1, g2⟩ := HBx.out
            rw [HSR.out] at HNX
            go_wp2_with fail
            refine (HNX.out _).mono ?_
            rintro e W1 ⟨rfl, hW1⟩
            have HP1 := Lib.hid (HP.out.keep hW1)
            clear hz a0 a1 a2 f0 f1 f2 c0 c1 c2 hbw hb hz2 t0 t1 t2 g0 g1 g2 hW1
            have hEn : nextS s' y.r x.r = nextS s' y.r s'.r := by rw [HSR.out]
            have HEN := Lib.hid hEn; clear hEn
            generalize nextS s' y.r x.r = N at *
            rcases HNT.out with hE | ⟨hE, hokn⟩
            · rw [← HEN.out] at hE
              subst hE
              have hnew := HP1.out.keep (below_new W1 (.cells #[.int .i64 0, .int .i64 0, .int .i64 0] 23))
              have HNW := Lib.hid hnew; clear hnew
              go_wp2_with fail
              go_roundw
              case rel => exact ⟨k + 1, by omega, by go_num, ⟨x, HX.out, HNW.out.1⟩, HNW.out.2.2.2⟩
              case measure => simp [intOf]; omega
            · rw [← HEN.out] at hE
              subst hE
              have HOKN := Lib.hid hokn; clear hokn
              have hnew := HP1.out.keep (below_new W1 (.cells #[.int .i64 s'.t, .int .i64 (s'.c + 1), .int .i64 s'.r] 23))
              have hbx := BoxW.new W1 ⟨s'.t, s'.c + 1, s'.r⟩
              have HNW := Lib.hid hnew; clear hnew
              have HBX2 := Lib.hid hbx; clear hbx
              by_cases heq : y.t = s'.t
              · have hyc : y.c ≤ s'.c := by have := HLY.out; omega
                have heb : (y.t == s'.t) = true := beq_iff_eq.2 heq
                have HEQ := Lib.hid heq; clear heq
                go_wp2_with fail
                have hk0 : (k : Int) < (l.length : Int) := by omega
                have hgt : decide (s'.t < y.t) = false := decide_eq_false (by omega)
                have hge : decide (s'.c + 1 ≤ y.c) = false := decide_eq_false (by omega)
                have hR : Pt w x b (o + k * 3) y (W1.alloc (.cells #[.int .i64 s'.t, .int .i64 (s'.c + 1), .int .i64 s'.r] 23)).drew ∧ BoxW W1.heap.size ⟨s'.t, s'.c + 1, s'.r⟩ (W1.alloc (.cells #[.int .i64 s'.t, .int .i64 (s'.c + 1), .int .i64 s'.r] 23)).drew := ⟨⟨HNW.out.1, HNW.out.2.1, HNW.out.2.2.1, HNW.out.2.2.2.drew⟩, HBX2.out⟩
                refine wp_region_held_drew (S := fun w' => Pt w x b (o + k * 3) y w' ∧ BoxW W1.heap.size ⟨s'.t, s'.c + 1, s'.r⟩ w') (by kernel_rfl) (by (exact hR)) (fun hHeld => ?_)
                refine wpAnyH_take (i := 0) (oi := { dst := some 62, op := Go.Op.move (Go.Operand.tmp 11), type := 25, pos := "law.go:46", after := #[], guard := none }) (v := ?_) rfl (by kernel_rfl) (by kernel_rfl) (by kernel_rfl) (fun _ _ _ h => h) (Or.inl ⟨by rfl, ?_⟩) (by assumption) ?_
                (rotate_left; focus (intro wS hSw; obtain ⟨⟨⟨hzS, ⟨sa0, sa1, sa2⟩, _⟩, ⟨s0, s1, s2⟩, _⟩, hzT, ⟨ta0, ta1, ta2⟩, _⟩ := hSw; go_simp; try with_reducible rfl))
                (try simp only [Act.put, List.setIfInBounds_toArray, List.set_cons_zero, List.set_cons_succ])
                refine wpAnyH_take (i := 1) (oi := { dst := some 63, op := Go.Op.binOp Go.BinOp.neq 25 (Go.Operand.tmp 62) (Go.Operand.const (Go.Value.int Go.IntKind.i64 0)) 25, type := 4, pos := "law.go:46", after := #[{ on := 0, ground := Go.Ground.data }], guard := none }) (v := ?_) rfl (by kernel_rfl) (by kernel_rfl) (by kernel_rfl) (fun _ _ _ h => h) (Or.inl ⟨by rfl, ?_⟩) (by assumption) ?_
                (rotate_left; focus (intro wS hSw; obtain ⟨⟨⟨hzS, ⟨sa0, sa1, sa2⟩, _⟩, ⟨s0, s1, s2⟩, _⟩, hzT, ⟨ta0, ta1, ta2⟩, _⟩ := hSw; go_simp; try with_reducible rfl))
                (try simp only [Act.put, List.setIfInBounds_toArray, List.set_cons_zero, List.set_cons_succ])
                refine wpAnyH_take (i := 2) (oi := { dst := some 64, op := Go.Op.move (Go.Operand.tmp 63), type := 4, pos := "law.go:46", after := #[{ on := 1, ground := Go.Ground.data }], guard := none }) (v := ?_) rfl (by kernel_rfl) (by kernel_rfl) (by kernel_rfl) (fun _ _ _ h => h) (Or.inl ⟨by rfl, ?_⟩) (by assumption) ?_
                (rotate_left; focus (intro wS hSw; obtain ⟨⟨⟨hzS, ⟨sa0, sa1, sa2⟩, _⟩, ⟨s0, s1, s2⟩, _⟩, hzT, ⟨ta0, ta1, ta2⟩, _⟩ := hSw; go_simp; try with_reducible rfl))
                (try simp only [Act.put, List.setIfInBounds_toArray, List.set_cons_zero, List.set_cons_succ])
                refine wpAnyH_take (i := 3) (oi := { dst := some 65, op := Go.Op.load 23 (Go.Operand.tmp 5), type := 23, pos := "law.go:46", after := #[{ on := 2, ground := Go.Ground.guard }], guard := some (2, false) }) (v := ?_) rfl (by kernel_rfl) (by kernel_rfl) (by kernel_rfl) (fun _ _ _ h => h) (Or.inl ⟨by rfl, ?_⟩) (by assumption) ?_
                (rotate_left; focus (intro wS hSw; obtain ⟨⟨⟨hzS, ⟨sa0, sa1, sa2⟩, _⟩, ⟨s0, s1, s2⟩, _⟩, hzT, ⟨ta0, ta1, ta2⟩, _⟩ := hSw; go_simp; try with_reducible rfl))
                (try simp only [Act.put, List.setIfInBounds_toArray, List.set_cons_zero, List.set_cons_succ])
                refine wpAnyH_take (i := 4) (oi := { dst := some 66, op := Go.Op.load 23 (Go.Operand.tmp 10), type := 23, pos := "law.go:46", after := #[{ on := 2, ground := Go.Ground.guard }], guard := some (2, false) }) (v := ?_) rfl (by kernel_rfl) (by kernel_rfl) (by kernel_rfl) (fun _ _ _ h => h) (Or.inl ⟨by rfl, ?_⟩) (by assumption) ?_
                (rotate_left; focus (intro wS hSw; obtain ⟨⟨⟨hzS, ⟨sa0, sa1, sa2⟩, _⟩, ⟨s0, s1, s2⟩, _⟩, hzT, ⟨ta0, ta1, ta2⟩, _⟩ := hSw; go_simp; try with_reducible rfl))
                (try simp only [Act.put, List.setIfInBounds_toArray, List.set_cons_zero, List.set_cons_succ])
                refine wpAnyH_ready (rs := [5]) (by kernel_rfl) (by simp) ?_
                refine AllReadyH.cons (o := { dst := some 67, op := Go.Op.call { callee := Go.Callee.value (Go.Operand.func 12), args := #[Go.Operand.tmp 65, Go.Operand.tmp 66], argTypes := #[23, 23] }, type := 4, pos := "law.go:46", after := #[{ on := 3, ground := Go.Ground.data }, { on := 4, ground := Go.Ground.data }, { on := 2, ground := Go.Ground.chain }, { on := 2, ground := Go.Ground.guard }], guard := some (2, false) }) rfl (fun K hK => ?_) AllReadyH.nil
                go_simp
                refine (less_any x ⟨s'.t, s'.c + 1, s'.r⟩ _).mono ?_
                rintro e v3 ⟨rfl, hv3⟩
                rw [HLESS.out]
                replace hR : Pt w x b (o + k * 3) y v3 ∧ BoxW W1.heap.size ⟨s'.t, s'.c + 1, s'.r⟩ v3 := ⟨hR.1.keep hv3, hR.2.keep hv3⟩
                (try go_wp2_with fail)
                refine hK.out _ _ (by (exact hR)) (fun hHeld => ?_)
                clear hK K
                (try simp only [Act.put, List.setIfInBounds_toArray, List.set_cons_zero, List.set_cons_succ])
                refine wpAnyH_take (i := 6) (oi := { dst := some 68, op := Go.Op.unOp Go.UnOp.not 4 (Go.Operand.tmp 67), type := 4, pos := "law.go:46", after := #[{ on := 5, ground := Go.Ground.data }, { on := 2, ground := Go.Ground.guard }], guard := some (2, false) }) (v := ?_) rfl (by kernel_rfl) (by kernel_rfl) (by kernel_rfl) (fun _ _ _ h => h) (Or.inl ⟨by rfl, ?_⟩) (by assumption) ?_
                (rotate_left; focus (intro wS hSw; obtain ⟨⟨⟨hzS, ⟨sa0, sa1, sa2⟩, _⟩, ⟨s0, s1, s2⟩, _⟩, hzT, ⟨ta0, ta1, ta2⟩, _⟩ := hSw; go_simp; try with_reducible rfl))
                (try simp only [Act.put, List.setIfInBounds_toArray, List.set_cons_zero, List.set_cons_succ])
                refine wpAnyH_take (i := 7) (oi := { dst := some 69, op := Go.Op.pick (Go.Operand.tmp 64) (Go.Operand.const (Go.Value.bool true)) (Go.Operand.tmp 68), type := 4, pos := "law.go:46", after := #[{ on := 2, ground := Go.Ground.data }, { on := 6, ground := Go.Ground.data }], guard := none }) (v := ?_) rfl (by kernel_rfl) (by kernel_rfl) (by kernel_rfl) (fun _ _ _ h => h) (Or.inl ⟨by rfl, ?_⟩) (by assumption) ?_
                (rotate_left; focus (intro wS hSw; obtain ⟨⟨⟨hzS, ⟨sa0, sa1, sa2⟩, _⟩, ⟨s0, s1, s2⟩, _⟩, hzT, ⟨ta0, ta1, ta2⟩, _⟩ := hSw; go_simp; try with_reducible rfl))
                (try simp only [Act.put, List.setIfInBounds_toArray, List.set_cons_zero, List.set_cons_succ])
                refine wpAnyH_take (i := 8) (oi := { dst := some 70, op := Go.Op.move (Go.Operand.tmp 69), type := 4, pos := "law.go:46", after := #[{ on := 7, ground := Go.Ground.data }, { on := 5, ground := Go.Ground.chain }], guard := none }) (v := ?_) rfl (by kernel_rfl) (by kernel_rfl) (by kernel_rfl) (fun _ _ _ h => h) (Or.inl ⟨by rfl, ?_⟩) (by assumption) ?_
                (rotate_left; focus (intro wS hSw; obtain ⟨⟨⟨hzS, ⟨sa0, sa1, sa2⟩, _⟩, ⟨s0, s1, s2⟩, _⟩, hzT, ⟨ta0, ta1, ta2⟩, _⟩ := hSw; go_simp; try with_reducible rfl))
                (try simp only [Act.put, List.setIfInBounds_toArray, List.set_cons_zero, List.set_cons_succ])
                refine wpAnyH_take (i := 9) (oi := { dst := some 71, op := Go.Op.move (Go.Operand.tmp 0), type := 37, pos := "law.go:46", after := #[{ on := 8, ground := Go.Ground.guard }], guard := some (8, false) }) (v := ?_) rfl (by kernel_rfl) (by kernel_rfl) (by kernel_rfl) (fun _ _ _ h => h) (Or.inl ⟨by rfl, ?_⟩) (by assumption) ?_
                (rotate_left; focus (intro wS hSw; obtain ⟨⟨⟨hzS, ⟨sa0, sa1, sa2⟩, _⟩, ⟨s0, s1, s2⟩, _⟩, hzT, ⟨ta0, ta1, ta2⟩, _⟩ := hSw; go_simp; try with_reducible rfl))
                (try simp only [Act.put, List.setIfInBounds_toArray, List.set_cons_zero, List.set_cons_succ])
                refine wpAnyH_take (i := 10) (oi := { dst := some 72, op := Go.Op.move (Go.Operand.tmp 6), type := 3, pos := "law.go:46", after := #[{ on := 8, ground := Go.Ground.guard }], guard := some (8, false) }) (v := ?_) rfl (by kernel_rfl) (by kernel_rfl) (by kernel_rfl) (fun _ _ _ h => h) (Or.inl ⟨by rfl, ?_⟩) (by assumption) ?_
                (rotate_left; focus (intro wS hSw; obtain ⟨⟨⟨hzS, ⟨sa0, sa1, sa2⟩, _⟩, ⟨s0, s1, s2⟩, _⟩, hzT, ⟨ta0, ta1, ta2⟩, _⟩ := hSw; go_simp; try with_reducible rfl))
                (try simp only [Act.put, List.setIfInBounds_toArray, List.set_cons_zero, List.set_cons_succ])
                refine wpAnyH_take (i := 11) (oi := { dst := some 73, op := Go.Op.indexAddr 37 (Go.Operand.tmp 71) (Go.Operand.tmp 72), type := 0, pos := "law.go:46", after := #[{ on := 9, ground := Go.Ground.data }, { on := 10, ground := Go.Ground.data }, { on := 8, ground := Go.Ground.guard }], guard := some (8, false) }) (v := ?_) rfl (by kernel_rfl) (by kernel_rfl) (by kernel_rfl) (fun _ _ _ h => h) (Or.inl ⟨by rfl, ?_⟩) (by assumption) ?_
                (rotate_left; focus (intro wS hSw; obtain ⟨⟨⟨hzS, ⟨sa0, sa1, sa2⟩, _⟩, ⟨s0, s1, s2⟩, _⟩, hzT, ⟨ta0, ta1, ta2⟩, _⟩ := hSw; go_simp; try with_reducible rfl))
                (try simp only [Act.put, List.setIfInBounds_toArray, List.set_cons_zero, List.set_cons_succ])
                refine wpAnyH_take (i := 12) (oi := { dst := some 74, op := Go.Op.fieldAddr 23 (Go.Operand.tmp 73) 0, type := 0, pos := "law.go:46", after := #[{ on := 11, ground := Go.Ground.data }, { on := 8, ground := Go.Ground.guard }], guard := some (8, false) }) (v := ?_) rfl (by kernel_rfl) (by kernel_rfl) (by kernel_rfl) (fun _ _ _ h => h) (Or.inl ⟨by rfl, ?_⟩) (by assumption) ?_
                (rotate_left; focus (intro wS hSw; obtain ⟨⟨⟨hzS, ⟨sa0, sa1, sa2⟩, _⟩, ⟨s0, s1, s2⟩, _⟩, hzT, ⟨ta0, ta1, ta2⟩, _⟩ := hSw; go_simp; try with_reducible rfl))
                (try simp only [Act.put, List.setIfInBounds_toArray, List.set_cons_zero, List.set_cons_succ])
                refine wpAnyH_take (i := 13) (oi := { dst := some 75, op := Go.Op.load 3 (Go.Operand.tmp 74), type := 3, pos := "law.go:46", after := #[{ on := 12, ground := Go.Ground.data }, { on := 8, ground := Go.Ground.guard }], guard := some (8, false) }) (v := ?_) rfl (by kernel_rfl) (by kernel_rfl) (by kernel_rfl) (fun _ _ _ h => h) (Or.inl ⟨by rfl, ?_⟩) (by assumption) ?_
                (rotate_left; focus (intro wS hSw; obtain ⟨⟨⟨hzS, ⟨sa0, sa1, sa2⟩, _⟩, ⟨s0, s1, s2⟩, _⟩, hzT, ⟨ta0, ta1, ta2⟩, _⟩ := hSw; go_simp; try with_reducible rfl))
                (try simp only [Act.put, List.setIfInBounds_toArray, List.set_cons_zero, List.set_cons_succ])
                refine wpAnyH_take (i := 14) (oi := { dst := some 76, op := Go.Op.fieldAddr 23 (Go.Operand.tmp 10) 0, type := 0, pos := "law.go:46", after := #[{ on := 8, ground := Go.Ground.guard }], guard := some (8, false) }) (v := ?_) rfl (by kernel_rfl) (by kernel_rfl) (by kernel_rfl) (fun _ _ _ h => h) (Or.inl ⟨by rfl, ?_⟩) (by assumption) ?_
                (rotate_left; focus (intro wS hSw; obtain ⟨⟨⟨hzS, ⟨sa0, sa1, sa2⟩, _⟩, ⟨s0, s1, s2⟩, _⟩, hzT, ⟨ta0, ta1, ta2⟩, _⟩ := hSw; go_simp; try with_reducible rfl))
                (try simp only [Act.put, List.setIfInBounds_toArray, List.set_cons_zero, List.set_cons_succ])
                refine wpAnyH_take (i := 15) (oi := { dst := some 77, op := Go.Op.load 3 (Go.Operand.tmp 76), type := 3, pos := "law.go:46", after := #[{ on := 14, ground := Go.Ground.data }, { on := 8, ground := Go.Ground.guard }], guard := some (8, false) }) (v := ?_) rfl (by kernel_rfl) (by kernel_rfl) (by kernel_rfl) (fun _ _ _ h => h) (Or.inl ⟨by rfl, ?_⟩) (by assumption) ?_
                (rotate_left; focus (intro wS hSw; obtain ⟨⟨⟨hzS, ⟨sa0, sa1, sa2⟩, _⟩, ⟨s0, s1, s2⟩, _⟩, hzT, ⟨ta0, ta1, ta2⟩, _⟩ := hSw; go_simp; try with_reducible rfl))
                (try simp only [Act.put, List.setIfInBounds_toArray, List.set_cons_zero, List.set_cons_succ])
                refine wpAnyH_take (i := 16) (oi := { dst := some 78, op := Go.Op.binOp Go.BinOp.gtr 3 (Go.Operand.tmp 75) (Go.Operand.tmp 77) 3, type := 4, pos := "law.go:46", after := #[{ on := 13, ground := Go.Ground.data }, { on := 15, ground := Go.Ground.data }, { on := 8, ground := Go.Ground.guard }], guard := some (8, false) }) (v := ?_) rfl (by kernel_rfl) (by kernel_rfl) (by kernel_rfl) (fun _ _ _ h => h) (Or.inl ⟨by rfl, ?_⟩) (by assumption) ?_
                (rotate_left; focus (intro wS hSw; obtain ⟨⟨⟨hzS, ⟨sa0, sa1, sa2⟩, _⟩, ⟨s0, s1, s2⟩, _⟩, hzT, ⟨ta0, ta1, ta2⟩, _⟩ := hSw; go_simp; try with_reducible rfl))
                (try simp only [Act.put, List.setIfInBounds_toArray, List.set_cons_zero, List.set_cons_succ])
                refine wpAnyH_take (i := 17) (oi := { dst := some 79, op := Go.Op.pick (Go.Operand.tmp 70) (Go.Operand.const (Go.Value.bool true)) (Go.Operand.tmp 78), type := 4, pos := "law.go:46", after := #[{ on := 8, ground := Go.Ground.data }, { on := 16, ground := Go.Ground.data }], guard := none }) (v := ?_) rfl (by kernel_rfl) (by kernel_rfl) (by kernel_rfl) (fun _ _ _ h => h) (Or.inl ⟨by rfl, ?_⟩) (by assumption) ?_
                (rotate_left; focus (intro wS hSw; obtain ⟨⟨⟨hzS, ⟨sa0, sa1, sa2⟩, _⟩, ⟨s0, s1, s2⟩, _⟩, hzT, ⟨ta0, ta1, ta2⟩, _⟩ := hSw; go_simp; try with_reducible rfl))
                (try simp only [Act.put, List.setIfInBounds_toArray, List.set_cons_zero, List.set_cons_succ])
                refine wpAnyH_take (i := 18) (oi := { dst := some 80, op := Go.Op.move (Go.Operand.tmp 79), type := 4, pos := "law.go:46", after := #[{ on := 17, ground := Go.Ground.data }, { on := 8, ground := Go.Ground.chain }], guard := none }) (v := ?_) rfl (by kernel_rfl) (by kernel_rfl) (by kernel_rfl) (fun _ _ _ h => h) (Or.inl ⟨by rfl, ?_⟩) (by assumption) ?_
                (rotate_left; focus (intro wS hSw; obtain ⟨⟨⟨hzS, ⟨sa0, sa1, sa2⟩, _⟩, ⟨s0, s1, s2⟩, _⟩, hzT, ⟨ta0, ta1, ta2⟩, _⟩ := hSw; go_simp; try with_reducible rfl))
                (try simp only [Act.put, List.setIfInBounds_toArray, List.set_cons_zero, List.set_cons_succ])
                refine wpAnyH_take (i := 19) (oi := { dst := some 81, op := Go.Op.move (Go.Operand.tmp 0), type := 37, pos := "law.go:46", after := #[{ on := 18, ground := Go.Ground.guard }], guard := some (18, false) }) (v := ?_) rfl (by kernel_rfl) (by kernel_rfl) (by kernel_rfl) (fun _ _ _ h => h) (Or.inl ⟨by rfl, ?_⟩) (by assumption) ?_
                (rotate_left; focus (intro wS hSw; obtain ⟨⟨⟨hzS, ⟨sa0, sa1, sa2⟩, _⟩, ⟨s0, s1, s2⟩, _⟩, hzT, ⟨ta0, ta1, ta2⟩, _⟩ := hSw; go_simp; try with_reducible rfl))
                (try simp only [Act.put, List.setIfInBounds_toArray, List.set_cons_zero, List.set_cons_succ])
                refine wpAnyH_take (i := 20) (oi := { dst := some 82, op := Go.Op.move (Go.Operand.tmp 6), type := 3, pos := "law.go:46", after := #[{ on := 18, ground := Go.Ground.guard }], guard := some (18, false) }) (v := ?_) rfl (by kernel_rfl) (by kernel_rfl) (by kernel_rfl) (fun _ _ _ h => h) (Or.inl ⟨by rfl, ?_⟩) (by assumption) ?_
                (rotate_left; focus (intro wS hSw; obtain ⟨⟨⟨hzS, ⟨sa0, sa1, sa2⟩, _⟩, ⟨s0, s1, s2⟩, _⟩, hzT, ⟨ta0, ta1, ta2⟩, _⟩ := hSw; go_simp; try with_reducible rfl))
                (try simp only [Act.put, List.setIfInBounds_toArray, List.set_cons_zero, List.set_cons_succ])
                refine wpAnyH_take (i := 21) (oi := { dst := some 83, op := Go.Op.indexAddr 37 (Go.Operand.tmp 81) (Go.Operand.tmp 82), type := 0, pos := "law.go:46", after := #[{ on := 19, ground := Go.Ground.data }, { on := 20, ground := Go.Ground.data }, { on := 18, ground := Go.Ground.guard }], guard := some (18, false) }) (v := ?_) rfl (by kernel_rfl) (by kernel_rfl) (by kernel_rfl) (fun _ _ _ h => h) (Or.inl ⟨by rfl, ?_⟩) (by assumption) ?_
                (rotate_left; focus (intro wS hSw; obtain ⟨⟨⟨hzS, ⟨sa0, sa1, sa2⟩, _⟩, ⟨s0, s1, s2⟩, _⟩, hzT, ⟨ta0, ta1, ta2⟩, _⟩ := hSw; go_simp; try with_reducible rfl))
                (try simp only [Act.put, List.setIfInBounds_toArray, List.set_cons_zero, List.set_cons_succ])
                refine wpAnyH_take (i := 22) (oi := { dst := some 84, op := Go.Op.fieldAddr 23 (Go.Operand.tmp 83) 0, type := 0, pos := "law.go:46", after := #[{ on := 21, ground := Go.Ground.data }, { on := 18, ground := Go.Ground.guard }], guard := some (18, false) }) (v := ?_) rfl (by kernel_rfl) (by kernel_rfl) (by kernel_rfl) (fun _ _ _ h => h) (Or.inl ⟨by rfl, ?_⟩) (by assumption) ?_
                (rotate_left; focus (intro wS hSw; obtain ⟨⟨⟨hzS, ⟨sa0, sa1, sa2⟩, _⟩, ⟨s0, s1, s2⟩, _⟩, hzT, ⟨ta0, ta1, ta2⟩, _⟩ := hSw; go_simp; try with_reducible rfl))
                (try simp only [Act.put, List.setIfInBounds_toArray, List.set_cons_zero, List.set_cons_succ])
                refine wpAnyH_take (i := 23) (oi := { dst := some 85, op := Go.Op.load 3 (Go.Operand.tmp 84), type := 3, pos := "law.go:46", after := #[{ on := 22, ground := Go.Ground.data }, { on := 18, ground := Go.Ground.guard }], guard := some (18, false) }) (v := ?_) rfl (by kernel_rfl) (by kernel_rfl) (by kernel_rfl) (fun _ _ _ h => h) (Or.inl ⟨by rfl, ?_⟩) (by assumption) ?_
                (rotate_left; focus (intro wS hSw; obtain ⟨⟨⟨hzS, ⟨sa0, sa1, sa2⟩, _⟩, ⟨s0, s1, s2⟩, _⟩, hzT, ⟨ta0, ta1, ta2⟩, _⟩ := hSw; go_simp; try with_reducible rfl))
                (try simp only [Act.put, List.setIfInBounds_toArray, List.set_cons_zero, List.set_cons_succ])
                refine wpAnyH_take (i := 24) (oi := { dst := some 86, op := Go.Op.fieldAddr 23 (Go.Operand.tmp 10) 0, type := 0, pos := "law.go:46", after := #[{ on := 18, ground := Go.Ground.guard }], guard := some (18, false) }) (v := ?_) rfl (by kernel_rfl) (by kernel_rfl) (by kernel_rfl) (fun _ _ _ h => h) (Or.inl ⟨by rfl, ?_⟩) (by assumption) ?_
                (rotate_left; focus (intro wS hSw; obtain ⟨⟨⟨hzS, ⟨sa0, sa1, sa2⟩, _⟩, ⟨s0, s1, s2⟩, _⟩, hzT, ⟨ta0, ta1, ta2⟩, _⟩ := hSw; go_simp; try with_reducible rfl))
                (try simp only [Act.put, List.setIfInBounds_toArray, List.set_cons_zero, List.set_cons_succ])
                refine wpAnyH_take (i := 25) (oi := { dst := some 87, op := Go.Op.load 3 (Go.Operand.tmp 86), type := 3, pos := "law.go:46", after := #[{ on := 24, ground := Go.Ground.data }, { on := 18, ground := Go.Ground.guard }], guard := some (18, false) }) (v := ?_) rfl (by kernel_rfl) (by kernel_rfl) (by kernel_rfl) (fun _ _ _ h => h) (Or.inl ⟨by rfl, ?_⟩) (by assumption) ?_
                (rotate_left; focus (intro wS hSw; obtain ⟨⟨⟨hzS, ⟨sa0, sa1, sa2⟩, _⟩, ⟨s0, s1, s2⟩, _⟩, hzT, ⟨ta0, ta1, ta2⟩, _⟩ := hSw; go_simp; try with_reducible rfl))
                (try simp only [Act.put, List.setIfInBounds_toArray, List.set_cons_zero, List.set_cons_succ])
                refine wpAnyH_take (i := 26) (oi := { dst := some 88, op := Go.Op.binOp Go.BinOp.eql 3 (Go.Operand.tmp 85) (Go.Operand.tmp 87) 3, type := 4, pos := "law.go:46", after := #[{ on := 23, ground := Go.Ground.data }, { on := 25, ground := Go.Ground.data }, { on := 18, ground := Go.Ground.guard }], guard := some (18, false) }) (v := ?_) rfl (by kernel_rfl) (by kernel_rfl) (by kernel_rfl) (fun _ _ _ h => h) (Or.inl ⟨by rfl, ?_⟩) (by assumption) ?_
                (rotate_left; focus (intro wS hSw; obtain ⟨⟨⟨hzS, ⟨sa0, sa1, sa2⟩, _⟩, ⟨s0, s1, s2⟩, _⟩, hzT, ⟨ta0, ta1, ta2⟩, _⟩ := hSw; go_simp; try with_reducible rfl))
                (try simp only [Act.put, List.setIfInBounds_toArray, List.set_cons_zero, List.set_cons_succ])
                refine wpAnyH_take (i := 27) (oi := { dst := some 89, op := Go.Op.move (Go.Operand.tmp 88), type := 4, pos := "law.go:46", after := #[{ on := 26, ground := Go.Ground.data }, { on := 18, ground := Go.Ground.chain }, { on := 18, ground := Go.Ground.guard }], guard := some (18, false) }) (v := ?_) rfl (by kernel_rfl) (by kernel_rfl) (by kernel_rfl) (fun _ _ _ h => h) (Or.inl ⟨by rfl, ?_⟩) (by assumption) ?_
                (rotate_left; focus (intro wS hSw; obtain ⟨⟨⟨hzS, ⟨sa0, sa1, sa2⟩, _⟩, ⟨s0, s1, s2⟩, _⟩, hzT, ⟨ta0, ta1, ta2⟩, _⟩ := hSw; go_simp; try with_reducible rfl))
                (try simp only [Act.put, List.setIfInBounds_toArray, List.set_cons_zero, List.set_cons_succ])
                refine wpAnyH_take (i := 28) (oi := { dst := some 90, op := Go.Op.move (Go.Operand.tmp 0), type := 37, pos := "law.go:46", after := #[{ on := 27, ground := Go.Ground.guard }], guard := some (27, true) }) (v := ?_) rfl (by kernel_rfl) (by kernel_rfl) (by kernel_rfl) (fun _ _ _ h => h) (Or.inl ⟨by rfl, ?_⟩) (by assumption) ?_
                (rotate_left; focus (intro wS hSw; obtain ⟨⟨⟨hzS, ⟨sa0, sa1, sa2⟩, _⟩, ⟨s0, s1, s2⟩, _⟩, hzT, ⟨ta0, ta1, ta2⟩, _⟩ := hSw; go_simp; try with_reducible rfl))
                (try simp only [Act.put, List.setIfInBounds_toArray, List.set_cons_zero, List.set_cons_succ])
                refine wpAnyH_take (i := 29) (oi := { dst := some 91, op := Go.Op.move (Go.Operand.tmp 6), type := 3, pos := "law.go:46", after := #[{ on := 27, ground := Go.Ground.guard }], guard := some (27, true) }) (v := ?_) rfl (by kernel_rfl) (by kernel_rfl) (by kernel_rfl) (fun _ _ _ h => h) (Or.inl ⟨by rfl, ?_⟩) (by assumption) ?_
                (rotate_left; focus (intro wS hSw; obtain ⟨⟨⟨hzS, ⟨sa0, sa1, sa2⟩, _⟩, ⟨s0, s1, s2⟩, _⟩, hzT, ⟨ta0, ta1, ta2⟩, _⟩ := hSw; go_simp; try with_reducible rfl))
                (try simp only [Act.put, List.setIfInBounds_toArray, List.set_cons_zero, List.set_cons_succ])
                refine wpAnyH_take (i := 30) (oi := { dst := some 92, op := Go.Op.indexAddr 37 (Go.Operand.tmp 90) (Go.Operand.tmp 91), type := 0, pos := "law.go:46", after := #[{ on := 28, ground := Go.Ground.data }, { on := 29, ground := Go.Ground.data }, { on := 27, ground := Go.Ground.guard }], guard := some (27, true) }) (v := ?_) rfl (by kernel_rfl) (by kernel_rfl) (by kernel_rfl) (fun _ _ _ h => h) (Or.inl ⟨by rfl, ?_⟩) (by assumption) ?_
                (rotate_left; focus (intro wS hSw; obtain ⟨⟨⟨hzS, ⟨sa0, sa1, sa2⟩, _⟩, ⟨s0, s1, s2⟩, _⟩, hzT, ⟨ta0, ta1, ta2⟩, _⟩ := hSw; go_simp; try with_reducible rfl))
                (try simp only [Act.put, List.setIfInBounds_toArray, List.set_cons_zero, List.set_cons_succ])
                refine wpAnyH_take (i := 31) (oi := { dst := some 93, op := Go.Op.fieldAddr 23 (Go.Operand.tmp 92) 1, type := 0, pos := "law.go:46", after := #[{ on := 30, ground := Go.Ground.data }, { on := 27, ground := Go.Ground.guard }], guard := some (27, true) }) (v := ?_) rfl (by kernel_rfl) (by kernel_rfl) (by kernel_rfl) (fun _ _ _ h => h) (Or.inl ⟨by rfl, ?_⟩) (by assumption) ?_
                (rotate_left; focus (intro wS hSw; obtain ⟨⟨⟨hzS, ⟨sa0, sa1, sa2⟩, _⟩, ⟨s0, s1, s2⟩, _⟩, hzT, ⟨ta0, ta1, ta2⟩, _⟩ := hSw; go_simp; try with_reducible rfl))
                (try simp only [Act.put, List.setIfInBounds_toArray, List.set_cons_zero, List.set_cons_succ])
                refine wpAnyH_take (i := 32) (oi := { dst := some 94, op := Go.Op.load 3 (Go.Operand.tmp 93), type := 3, pos := "law.go:46", after := #[{ on := 31, ground := Go.Ground.data }, { on := 27, ground := Go.Ground.guard }], guard := some (27, true) }) (v := ?_) rfl (by kernel_rfl) (by kernel_rfl) (by kernel_rfl) (fun _ _ _ h => h) (Or.inl ⟨by rfl, ?_⟩) (by assumption) ?_
                (rotate_left; focus (intro wS hSw; obtain ⟨⟨⟨hzS, ⟨sa0, sa1, sa2⟩, _⟩, ⟨s0, s1, s2⟩, _⟩, hzT, ⟨ta0, ta1, ta2⟩, _⟩ := hSw; go_simp; try with_reducible rfl))
                (try simp only [Act.put, List.setIfInBounds_toArray, List.set_cons_zero, List.set_cons_succ])
                refine wpAnyH_take (i := 33) (oi := { dst := some 95, op := Go.Op.fieldAddr 23 (Go.Operand.tmp 10) 1, type := 0, pos := "law.go:46", after := #[{ on := 27, ground := Go.Ground.guard }], guard := some (27, true) }) (v := ?_) rfl (by kernel_rfl) (by kernel_rfl) (by kernel_rfl) (fun _ _ _ h => h) (Or.inl ⟨by rfl, ?_⟩) (by assumption) ?_
                (rotate_left; focus (intro wS hSw; obtain ⟨⟨⟨hzS, ⟨sa0, sa1, sa2⟩, _⟩, ⟨s0, s1, s2⟩, _⟩, hzT, ⟨ta0, ta1, ta2⟩, _⟩ := hSw; go_simp; try with_reducible rfl))
                (try simp only [Act.put, List.setIfInBounds_toArray, List.set_cons_zero, List.set_cons_succ])
                refine wpAnyH_take (i := 34) (oi := { dst := some 96, op := Go.Op.load 3 (Go.Operand.tmp 95), type := 3, pos := "law.go:46", after := #[{ on := 33, ground := Go.Ground.data }, { on := 27, ground := Go.Ground.guard }], guard := some (27, true) }) (v := ?_) rfl (by kernel_rfl) (by kernel_rfl) (by kernel_rfl) (fun _ _ _ h => h) (Or.inl ⟨by rfl, ?_⟩) (by assumption) ?_
                (rotate_left; focus (intro wS hSw; obtain ⟨⟨⟨hzS, ⟨sa0, sa1, sa2⟩, _⟩, ⟨s0, s1, s2⟩, _⟩, hzT, ⟨ta0, ta1, ta2⟩, _⟩ := hSw; go_simp; try with_reducible rfl))
                (try simp only [Act.put, List.setIfInBounds_toArray, List.set_cons_zero, List.set_cons_succ])
                refine wpAnyH_take (i := 35) (oi := { dst := some 97, op := Go.Op.binOp Go.BinOp.geq 3 (Go.Operand.tmp 94) (Go.Operand.tmp 96) 3, type := 4, pos := "law.go:46", after := #[{ on := 32, ground := Go.Ground.data }, { on := 34, ground := Go.Ground.data }, { on := 27, ground := Go.Ground.guard }], guard := some (27, true) }) (v := ?_) rfl (by kernel_rfl) (by kernel_rfl) (by kernel_rfl) (fun _ _ _ h => h) (Or.inl ⟨by rfl, ?_⟩) (by assumption) ?_
                (rotate_left; focus (intro wS hSw; obtain ⟨⟨⟨hzS, ⟨sa0, sa1, sa2⟩, _⟩, ⟨s0, s1, s2⟩, _⟩, hzT, ⟨ta0, ta1, ta2⟩, _⟩ := hSw; go_simp; try with_reducible rfl))
                (try simp only [Act.put, List.setIfInBounds_toArray, List.set_cons_zero, List.set_cons_succ])
                refine wpAnyH_take (i := 36) (oi := { dst := some 98, op := Go.Op.pick (Go.Operand.tmp 89) (Go.Operand.tmp 97) (Go.Operand.const (Go.Value.bool false)), type := 4, pos := "law.go:46", after := #[{ on := 27, ground := Go.Ground.data }, { on := 35, ground := Go.Ground.data }, { on := 18, ground := Go.Ground.guard }], guard := some (18, false) }) (v := ?_) rfl (by kernel_rfl) (by kernel_rfl) (by kernel_rfl) (fun _ _ _ h => h) (Or.inl ⟨by rfl, ?_⟩) (by assumption) ?_
                (rotate_left; focus (intro wS hSw; obtain ⟨⟨⟨hzS, ⟨sa0, sa1, sa2⟩, _⟩, ⟨s0, s1, s2⟩, _⟩, hzT, ⟨ta0, ta1, ta2⟩, _⟩ := hSw; go_simp; try with_reducible rfl))
                (try simp only [Act.put, List.setIfInBounds_toArray, List.set_cons_zero, List.set_cons_succ])
                refine wpAnyH_take (i := 37) (oi := { dst := some 99, op := Go.Op.pick (Go.Operand.tmp 80) (Go.Operand.const (Go.Value.bool true)) (Go.Operand.tmp 98), type := 4, pos := "law.go:46", after := #[{ on := 18, ground := Go.Ground.data }, { on := 36, ground := Go.Ground.data }], guard := none }) (v := ?_) rfl (by kernel_rfl) (by kernel_rfl) (by kernel_rfl) (fun _ _ _ h => h) (Or.inl ⟨by rfl, ?_⟩) (by assumption) ?_
                (rotate_left; focus (intro wS hSw; obtain ⟨⟨⟨hzS, ⟨sa0, sa1, sa2⟩, _⟩, ⟨s0, s1, s2⟩, _⟩, hzT, ⟨ta0, ta1, ta2⟩, _⟩ := hSw; go_simp; try with_reducible rfl))
                (try simp only [Act.put, List.setIfInBounds_toArray, List.set_cons_zero, List.set_cons_succ])
                refine wpAnyH_done (by kernel_rfl) ?_ _
                have HR := Lib.hid hR
                clear hR
                obtain ⟨⟨⟨hz, ⟨a0, a1, a2⟩, f0, f1, f2⟩, _, _, hB⟩, hzt, ⟨ta0, ta1, ta2⟩, _⟩ := HR.out
                have HBW := Lib.hid (HR.out.1.1.set ⟨s'.t, s'.c + 1, s'.r⟩)
                have HBB : Hid (Below w.heap.size w (set3 v3 w.heap.size ⟨s'.t, s'.c + 1, s'.r⟩)) := Lib.hid (HR.out.1.2.2.2.trans (set3_below v3 w.heap.size ⟨s'.t, s'.c + 1, s'.r⟩ w.heap.size (Nat.le_refl _)))
                go_wp2_with fail
                go_roundw
                case rel => exact ⟨k + 1, by omega, by go_num, ⟨⟨s'.t, s'.c + 1, s'.r⟩, HOKN.out, HBW.out⟩, HBB.out⟩
                case measure => simp [intOf]; omega
              · have heb : (y.t == s'.t) = false := beq_eq_false_iff_ne.2 heq
                have HEQ := Lib.hid heq; clear heq
                have hk0 : (k : Int) < (l.length : Int) := by omega
                have hgt : decide (s'.t < y.t) = false := decide_eq_false (by omega)
                go_wp2_with fail
                have hR : Pt w x b (o + k * 3) y (W1.alloc (.cells #[.int .i64 s'.t, .int .i64 (s'.c + 1), .int .i64 s'.r] 23)).drew ∧ BoxW W1.heap.size ⟨s'.t, s'.c + 1, s'.r⟩ (W1.alloc (.cells #[.int .i64 s'.t, .int .i64 (s'.c + 1), .int .i64 s'.r] 23)).drew := ⟨⟨HNW.out.1, HNW.out.2.1, HNW.out.2.2.1, HNW.out.2.2.2.drew⟩, HBX2.out⟩
                refine wp_region_held_drew (S := fun w' => Pt w x b (o + k * 3) y w' ∧ BoxW W1.heap.size ⟨s'.t, s'.c + 1, s'.r⟩ w') (by kernel_rfl) (by (exact hR)) (fun hHeld => ?_)
                refine wpAnyH_take (i := 0) (oi := { dst := some 62, op := Go.Op.move (Go.Operand.tmp 11), type := 25, pos := "law.go:46", after := #[], guard := none }) (v := ?_) rfl (by kernel_rfl) (by kernel_rfl) (by kernel_rfl) (fun _ _ _ h => h) (Or.inl ⟨by rfl, ?_⟩) (by assumption) ?_
                (rotate_left; focus (intro wS hSw; obtain ⟨⟨⟨hzS, ⟨sa0, sa1, sa2⟩, _⟩, ⟨s0, s1, s2⟩, _⟩, hzT, ⟨ta0, ta1, ta2⟩, _⟩ := hSw; go_simp; try with_reducible rfl))
                (try simp only [Act.put, List.setIfInBounds_toArray, List.set_cons_zero, List.set_cons_succ])
                refine wpAnyH_take (i := 1) (oi := { dst := some 63, op := Go.Op.binOp Go.BinOp.neq 25 (Go.Operand.tmp 62) (Go.Operand.const (Go.Value.int Go.IntKind.i64 0)) 25, type := 4, pos := "law.go:46", after := #[{ on := 0, ground := Go.Ground.data }], guard := none }) (v := ?_) rfl (by kernel_rfl) (by kernel_rfl) (by kernel_rfl) (fun _ _ _ h => h) (Or.inl ⟨by rfl, ?_⟩) (by assumption) ?_
                (rotate_left; focus (intro wS hSw; obtain ⟨⟨⟨hzS, ⟨sa0, sa1, sa2⟩, _⟩, ⟨s0, s1, s2⟩, _⟩, hzT, ⟨ta0, ta1, ta2⟩, _⟩ := hSw; go_simp; try with_reducible rfl))
                (try simp only [Act.put, List.setIfInBounds_toArray, List.set_cons_zero, List.set_cons_succ])
                refine wpAnyH_take (i := 2) (oi := { dst := some 64, op := Go.Op.move (Go.Operand.tmp 63), type := 4, pos := "law.go:46", after := #[{ on := 1, ground := Go.Ground.data }], guard := none }) (v := ?_) rfl (by kernel_rfl) (by kernel_rfl) (by kernel_rfl) (fun _ _ _ h => h) (Or.inl ⟨by rfl, ?_⟩) (by assumption) ?_
                (rotate_left; focus (intro wS hSw; obtain ⟨⟨⟨hzS, ⟨sa0, sa1, sa2⟩, _⟩, ⟨s0, s1, s2⟩, _⟩, hzT, ⟨ta0, ta1, ta2⟩, _⟩ := hSw; go_simp; try with_reducible rfl))
                (try simp only [Act.put, List.setIfInBounds_toArray, List.set_cons_zero, List.set_cons_succ])
                refine wpAnyH_take (i := 3) (oi := { dst := some 65, op := Go.Op.load 23 (Go.Operand.tmp 5), type := 23, pos := "law.go:46", after := #[{ on := 2, ground := Go.Ground.guard }], guard := some (2, false) }) (v := ?_) rfl (by kernel_rfl) (by kernel_rfl) (by kernel_rfl) (fun _ _ _ h => h) (Or.inl ⟨by rfl, ?_⟩) (by assumption) ?_
                (rotate_left; focus (intro wS hSw; obtain ⟨⟨⟨hzS, ⟨sa0, sa1, sa2⟩, _⟩, ⟨s0, s1, s2⟩, _⟩, hzT, ⟨ta0, ta1, ta2⟩, _⟩ := hSw; go_simp; try with_reducible rfl))
                (try simp only [Act.put, List.setIfInBounds_toArray, List.set_cons_zero, List.set_cons_succ])
                refine wpAnyH_take (i := 4) (oi := { dst := some 66, op := Go.Op.load 23 (Go.Operand.tmp 10), type := 23, pos := "law.go:46", after := #[{ on := 2, ground := Go.Ground.guard }], guard := some (2, false) }) (v := ?_) rfl (by kernel_rfl) (by kernel_rfl) (by kernel_rfl) (fun _ _ _ h => h) (Or.inl ⟨by rfl, ?_⟩) (by assumption) ?_
                (rotate_left; focus (intro wS hSw; obtain ⟨⟨⟨hzS, ⟨sa0, sa1, sa2⟩, _⟩, ⟨s0, s1, s2⟩, _⟩, hzT, ⟨ta0, ta1, ta2⟩, _⟩ := hSw; go_simp; try with_reducible rfl))
                (try simp only [Act.put, List.setIfInBounds_toArray, List.set_cons_zero, List.set_cons_succ])
                refine wpAnyH_ready (rs := [5]) (by kernel_rfl) (by simp) ?_
                refine AllReadyH.cons (o := { dst := some 67, op := Go.Op.call { callee := Go.Callee.value (Go.Operand.func 12), args := #[Go.Operand.tmp 65, Go.Operand.tmp 66], argTypes := #[23, 23] }, type := 4, pos := "law.go:46", after := #[{ on := 3, ground := Go.Ground.data }, { on := 4, ground := Go.Ground.data }, { on := 2, ground := Go.Ground.chain }, { on := 2, ground := Go.Ground.guard }], guard := some (2, false) }) rfl (fun K hK => ?_) AllReadyH.nil
                go_simp
                refine (less_any x ⟨s'.t, s'.c + 1, s'.r⟩ _).mono ?_
                rintro e v3 ⟨rfl, hv3⟩
                rw [HLESS.out]
                replace hR : Pt w x b (o + k * 3) y v3 ∧ BoxW W1.heap.size ⟨s'.t, s'.c + 1, s'.r⟩ v3 := ⟨hR.1.keep hv3, hR.2.keep hv3⟩
                (try go_wp2_with fail)
                refine hK.out _ _ (by (exact hR)) (fun hHeld => ?_)
                clear hK K
                (try simp only [Act.put, List.setIfInBounds_toArray, List.set_cons_zero, List.set_cons_succ])
                refine wpAnyH_take (i := 6) (oi := { dst := some 68, op := Go.Op.unOp Go.UnOp.not 4 (Go.Operand.tmp 67), type := 4, pos := "law.go:46", after := #[{ on := 5, ground := Go.Ground.data }, { on := 2, ground := Go.Ground.guard }], guard := some (2, false) }) (v := ?_) rfl (by kernel_rfl) (by kernel_rfl) (by kernel_rfl) (fun _ _ _ h => h) (Or.inl ⟨by rfl, ?_⟩) (by assumption) ?_
                (rotate_left; focus (intro wS hSw; obtain ⟨⟨⟨hzS, ⟨sa0, sa1, sa2⟩, _⟩, ⟨s0, s1, s2⟩, _⟩, hzT, ⟨ta0, ta1, ta2⟩, _⟩ := hSw; go_simp; try with_reducible rfl))
                (try simp only [Act.put, List.setIfInBounds_toArray, List.set_cons_zero, List.set_cons_succ])
                refine wpAnyH_take (i := 7) (oi := { dst := some 69, op := Go.Op.pick (Go.Operand.tmp 64) (Go.Operand.const (Go.Value.bool true)) (Go.Operand.tmp 68), type := 4, pos := "law.go:46", after := #[{ on := 2, ground := Go.Ground.data }, { on := 6, ground := Go.Ground.data }], guard := none }) (v := ?_) rfl (by kernel_rfl) (by kernel_rfl) (by kernel_rfl) (fun _ _ _ h => h) (Or.inl ⟨by rfl, ?_⟩) (by assumption) ?_
                (rotate_left; focus (intro wS hSw; obtain ⟨⟨⟨hzS, ⟨sa0, sa1, sa2⟩, _⟩, ⟨s0, s1, s2⟩, _⟩, hzT, ⟨ta0, ta1, ta2⟩, _⟩ := hSw; go_simp; try with_reducible rfl))
                (try simp only [Act.put, List.setIfInBounds_toArray, List.set_cons_zero, List.set_cons_succ])
                refine wpAnyH_take (i := 8) (oi := { dst := some 70, op := Go.Op.move (Go.Operand.tmp 69), type := 4, pos := "law.go:46", after := #[{ on := 7, ground := Go.Ground.data }, { on := 5, ground := Go.Ground.chain }], guard := none }) (v := ?_) rfl (by kernel_rfl) (by kernel_rfl) (by kernel_rfl) (fun _ _ _ h => h) (Or.inl ⟨by rfl, ?_⟩) (by assumption) ?_
                (rotate_left; focus (intro wS hSw; obtain ⟨⟨⟨hzS, ⟨sa0, sa1, sa2⟩, _⟩, ⟨s0, s1, s2⟩, _⟩, hzT, ⟨ta0, ta1, ta2⟩, _⟩ := hSw; go_simp; try with_reducible rfl))
                (try simp only [Act.put, List.setIfInBounds_toArray, List.set_cons_zero, List.set_cons_succ])
                refine wpAnyH_take (i := 9) (oi := { dst := some 71, op := Go.Op.move (Go.Operand.tmp 0), type := 37, pos := "law.go:46", after := #[{ on := 8, ground := Go.Ground.guard }], guard := some (8, false) }) (v := ?_) rfl (by kernel_rfl) (by kernel_rfl) (by kernel_rfl) (fun _ _ _ h => h) (Or.inl ⟨by rfl, ?_⟩) (by assumption) ?_
                (rotate_left; focus (intro wS hSw; obtain ⟨⟨⟨hzS, ⟨sa0, sa1, sa2⟩, _⟩, ⟨s0, s1, s2⟩, _⟩, hzT, ⟨ta0, ta1, ta2⟩, _⟩ := hSw; go_simp; try with_reducible rfl))
                (try simp only [Act.put, List.setIfInBounds_toArray, List.set_cons_zero, List.set_cons_succ])
                refine wpAnyH_take (i := 10) (oi := { dst := some 72, op := Go.Op.move (Go.Operand.tmp 6), type := 3, pos := "law.go:46", after := #[{ on := 8, ground := Go.Ground.guard }], guard := some (8, false) }) (v := ?_) rfl (by kernel_rfl) (by kernel_rfl) (by kernel_rfl) (fun _ _ _ h => h) (Or.inl ⟨by rfl, ?_⟩) (by assumption) ?_
                (rotate_left; focus (intro wS hSw; obtain ⟨⟨⟨hzS, ⟨sa0, sa1, sa2⟩, _⟩, ⟨s0, s1, s2⟩, _⟩, hzT, ⟨ta0, ta1, ta2⟩, _⟩ := hSw; go_simp; try with_reducible rfl))
                (try simp only [Act.put, List.setIfInBounds_toArray, List.set_cons_zero, List.set_cons_succ])
                refine wpAnyH_take (i := 11) (oi := { dst := some 73, op := Go.Op.indexAddr 37 (Go.Operand.tmp 71) (Go.Operand.tmp 72), type := 0, pos := "law.go:46", after := #[{ on := 9, ground := Go.Ground.data }, { on := 10, ground := Go.Ground.data }, { on := 8, ground := Go.Ground.guard }], guard := some (8, false) }) (v := ?_) rfl (by kernel_rfl) (by kernel_rfl) (by kernel_rfl) (fun _ _ _ h => h) (Or.inl ⟨by rfl, ?_⟩) (by assumption) ?_
                (rotate_left; focus (intro wS hSw; obtain ⟨⟨⟨hzS, ⟨sa0, sa1, sa2⟩, _⟩, ⟨s0, s1, s2⟩, _⟩, hzT, ⟨ta0, ta1, ta2⟩, _⟩ := hSw; go_simp; try with_reducible rfl))
                (try simp only [Act.put, List.setIfInBounds_toArray, List.set_cons_zero, List.set_cons_succ])
                refine wpAnyH_take (i := 12) (oi := { dst := some 74, op := Go.Op.fieldAddr 23 (Go.Operand.tmp 73) 0, type := 0, pos := "law.go:46", after := #[{ on := 11, ground := Go.Ground.data }, { on := 8, ground := Go.Ground.guard }], guard := some (8, false) }) (v := ?_) rfl (by kernel_rfl) (by kernel_rfl) (by kernel_rfl) (fun _ _ _ h => h) (Or.inl ⟨by rfl, ?_⟩) (by assumption) ?_
                (rotate_left; focus (intro wS hSw; obtain ⟨⟨⟨hzS, ⟨sa0, sa1, sa2⟩, _⟩, ⟨s0, s1, s2⟩, _⟩, hzT, ⟨ta0, ta1, ta2⟩, _⟩ := hSw; go_simp; try with_reducible rfl))
                (try simp only [Act.put, List.setIfInBounds_toArray, List.set_cons_zero, List.set_cons_succ])
                refine wpAnyH_take (i := 13) (oi := { dst := some 75, op := Go.Op.load 3 (Go.Operand.tmp 74), type := 3, pos := "law.go:46", after := #[{ on := 12, ground := Go.Ground.data }, { on := 8, ground := Go.Ground.guard }], guard := some (8, false) }) (v := ?_) rfl (by kernel_rfl) (by kernel_rfl) (by kernel_rfl) (fun _ _ _ h => h) (Or.inl ⟨by rfl, ?_⟩) (by assumption) ?_
                (rotate_left; focus (intro wS hSw; obtain ⟨⟨⟨hzS, ⟨sa0, sa1, sa2⟩, _⟩, ⟨s0, s1, s2⟩, _⟩, hzT, ⟨ta0, ta1, ta2⟩, _⟩ := hSw; go_simp; try with_reducible rfl))
                (try simp only [Act.put, List.setIfInBounds_toArray, List.set_cons_zero, List.set_cons_succ])
                refine wpAnyH_take (i := 14) (oi := { dst := some 76, op := Go.Op.fieldAddr 23 (Go.Operand.tmp 10) 0, type := 0, pos := "law.go:46", after := #[{ on := 8, ground := Go.Ground.guard }], guard := some (8, false) }) (v := ?_) rfl (by kernel_rfl) (by kernel_rfl) (by kernel_rfl) (fun _ _ _ h => h) (Or.inl ⟨by rfl, ?_⟩) (by assumption) ?_
                (rotate_left; focus (intro wS hSw; obtain ⟨⟨⟨hzS, ⟨sa0, sa1, sa2⟩, _⟩, ⟨s0, s1, s2⟩, _⟩, hzT, ⟨ta0, ta1, ta2⟩, _⟩ := hSw; go_simp; try with_reducible rfl))
                (try simp only [Act.put, List.setIfInBounds_toArray, List.set_cons_zero, List.set_cons_succ])
                refine wpAnyH_take (i := 15) (oi := { dst := some 77, op := Go.Op.load 3 (Go.Operand.tmp 76), type := 3, pos := "law.go:46", after := #[{ on := 14, ground := Go.Ground.data }, { on := 8, ground := Go.Ground.guard }], guard := some (8, false) }) (v := ?_) rfl (by kernel_rfl) (by kernel_rfl) (by kernel_rfl) (fun _ _ _ h => h) (Or.inl ⟨by rfl, ?_⟩) (by assumption) ?_
                (rotate_left; focus (intro wS hSw; obtain ⟨⟨⟨hzS, ⟨sa0, sa1, sa2⟩, _⟩, ⟨s0, s1, s2⟩, _⟩, hzT, ⟨ta0, ta1, ta2⟩, _⟩ := hSw; go_simp; try with_reducible rfl))
                (try simp only [Act.put, List.setIfInBounds_toArray, List.set_cons_zero, List.set_cons_succ])
                refine wpAnyH_take (i := 16) (oi := { dst := some 78, op := Go.Op.binOp Go.BinOp.gtr 3 (Go.Operand.tmp 75) (Go.Operand.tmp 77) 3, type := 4, pos := "law.go:46", after := #[{ on := 13, ground := Go.Ground.data }, { on := 15, ground := Go.Ground.data }, { on := 8, ground := Go.Ground.guard }], guard := some (8, false) }) (v := ?_) rfl (by kernel_rfl) (by kernel_rfl) (by kernel_rfl) (fun _ _ _ h => h) (Or.inl ⟨by rfl, ?_⟩) (by assumption) ?_
                (rotate_left; focus (intro wS hSw; obtain ⟨⟨⟨hzS, ⟨sa0, sa1, sa2⟩, _⟩, ⟨s0, s1, s2⟩, _⟩, hzT, ⟨ta0, ta1, ta2⟩, _⟩ := hSw; go_simp; try with_reducible rfl))
                (try simp only [Act.put, List.setIfInBounds_toArray, List.set_cons_zero, List.set_cons_succ])
                refine wpAnyH_take (i := 17) (oi := { dst := some 79, op := Go.Op.pick (Go.Operand.tmp 70) (Go.Operand.const (Go.Value.bool true)) (Go.Operand.tmp 78), type := 4, pos := "law.go:46", after := #[{ on := 8, ground := Go.Ground.data }, { on := 16, ground := Go.Ground.data }], guard := none }) (v := ?_) rfl (by kernel_rfl) (by kernel_rfl) (by kernel_rfl) (fun _ _ _ h => h) (Or.inl ⟨by rfl, ?_⟩) (by assumption) ?_
                (rotate_left; focus (intro wS hSw; obtain ⟨⟨⟨hzS, ⟨sa0, sa1, sa2⟩, _⟩, ⟨s0, s1, s2⟩, _⟩, hzT, ⟨ta0, ta1, ta2⟩, _⟩ := hSw; go_simp; try with_reducible rfl))
                (try simp only [Act.put, List.setIfInBounds_toArray, List.set_cons_zero, List.set_cons_succ])
                refine wpAnyH_take (i := 18) (oi := { dst := some 80, op := Go.Op.move (Go.Operand.tmp 79), type := 4, pos := "law.go:46", after := #[{ on := 17, ground := Go.Ground.data }, { on := 8, ground := Go.Ground.chain }], guard := none }) (v := ?_) rfl (by kernel_rfl) (by kernel_rfl) (by kernel_rfl) (fun _ _ _ h => h) (Or.inl ⟨by rfl, ?_⟩) (by assumption) ?_
                (rotate_left; focus (intro wS hSw; obtain ⟨⟨⟨hzS, ⟨sa0, sa1, sa2⟩, _⟩, ⟨s0, s1, s2⟩, _⟩, hzT, ⟨ta0, ta1, ta2⟩, _⟩ := hSw; go_simp; try with_reducible rfl))
                (try simp only [Act.put, List.setIfInBounds_toArray, List.set_cons_zero, List.set_cons_succ])
                refine wpAnyH_take (i := 19) (oi := { dst := some 81, op := Go.Op.move (Go.Operand.tmp 0), type := 37, pos := "law.go:46", after := #[{ on := 18, ground := Go.Ground.guard }], guard := some (18, false) }) (v := ?_) rfl (by kernel_rfl) (by kernel_rfl) (by kernel_rfl) (fun _ _ _ h => h) (Or.inl ⟨by rfl, ?_⟩) (by assumption) ?_
                (rotate_left; focus (intro wS hSw; obtain ⟨⟨⟨hzS, ⟨sa0, sa1, sa2⟩, _⟩, ⟨s0, s1, s2⟩, _⟩, hzT, ⟨ta0, ta1, ta2⟩, _⟩ := hSw; go_simp; try with_reducible rfl))
                (try simp only [Act.put, List.setIfInBounds_toArray, List.set_cons_zero, List.set_cons_succ])
                refine wpAnyH_take (i := 20) (oi := { dst := some 82, op := Go.Op.move (Go.Operand.tmp 6), type := 3, pos := "law.go:46", after := #[{ on := 18, ground := Go.Ground.guard }], guard := some (18, false) }) (v := ?_) rfl (by kernel_rfl) (by kernel_rfl) (by kernel_rfl) (fun _ _ _ h => h) (Or.inl ⟨by rfl, ?_⟩) (by assumption) ?_
                (rotate_left; focus (intro wS hSw; obtain ⟨⟨⟨hzS, ⟨sa0, sa1, sa2⟩, _⟩, ⟨s0, s1, s2⟩, _⟩, hzT, ⟨ta0, ta1, ta2⟩, _⟩ := hSw; go_simp; try with_reducible rfl))
                (try simp only [Act.put, List.setIfInBounds_toArray, List.set_cons_zero, List.set_cons_succ])
                refine wpAnyH_take (i := 21) (oi := { dst := some 83, op := Go.Op.indexAddr 37 (Go.Operand.tmp 81) (Go.Operand.tmp 82), type := 0, pos := "law.go:46", after := #[{ on := 19, ground := Go.Ground.data }, { on := 20, ground := Go.Ground.data }, { on := 18, ground := Go.Ground.guard }], guard := some (18, false) }) (v := ?_) rfl (by kernel_rfl) (by kernel_rfl) (by kernel_rfl) (fun _ _ _ h => h) (Or.inl ⟨by rfl, ?_⟩) (by assumption) ?_
                (rotate_left; focus (intro wS hSw; obtain ⟨⟨⟨hzS, ⟨sa0, sa1, sa2⟩, _⟩, ⟨s0, s1, s2⟩, _⟩, hzT, ⟨ta0, ta1, ta2⟩, _⟩ := hSw; go_simp; try with_reducible rfl))
                (try simp only [Act.put, List.setIfInBounds_toArray, List.set_cons_zero, List.set_cons_succ])
                refine wpAnyH_take (i := 22) (oi := { dst := some 84, op := Go.Op.fieldAddr 23 (Go.Operand.tmp 83) 0, type := 0, pos := "law.go:46", after := #[{ on := 21, ground := Go.Ground.data }, { on := 18, ground := Go.Ground.guard }], guard := some (18, false) }) (v := ?_) rfl (by kernel_rfl) (by kernel_rfl) (by kernel_rfl) (fun _ _ _ h => h) (Or.inl ⟨by rfl, ?_⟩) (by assumption) ?_
                (rotate_left; focus (intro wS hSw; obtain ⟨⟨⟨hzS, ⟨sa0, sa1, sa2⟩, _⟩, ⟨s0, s1, s2⟩, _⟩, hzT, ⟨ta0, ta1, ta2⟩, _⟩ := hSw; go_simp; try with_reducible rfl))
                (try simp only [Act.put, List.setIfInBounds_toArray, List.set_cons_zero, List.set_cons_succ])
                refine wpAnyH_take (i := 23) (oi := { dst := some 85, op := Go.Op.load 3 (Go.Operand.tmp 84), type := 3, pos := "law.go:46", after := #[{ on := 22, ground := Go.Ground.data }, { on := 18, ground := Go.Ground.guard }], guard := some (18, false) }) (v := ?_) rfl (by kernel_rfl) (by kernel_rfl) (by kernel_rfl) (fun _ _ _ h => h) (Or.inl ⟨by rfl, ?_⟩) (by assumption) ?_
                (rotate_left; focus (intro wS hSw; obtain ⟨⟨⟨hzS, ⟨sa0, sa1, sa2⟩, _⟩, ⟨s0, s1, s2⟩, _⟩, hzT, ⟨ta0, ta1, ta2⟩, _⟩ := hSw; go_simp; try with_reducible rfl))
                (try simp only [Act.put, List.setIfInBounds_toArray, List.set_cons_zero, List.set_cons_succ])
                refine wpAnyH_take (i := 24) (oi := { dst := some 86, op := Go.Op.fieldAddr 23 (Go.Operand.tmp 10) 0, type := 0, pos := "law.go:46", after := #[{ on := 18, ground := Go.Ground.guard }], guard := some (18, false) }) (v := ?_) rfl (by kernel_rfl) (by kernel_rfl) (by kernel_rfl) (fun _ _ _ h => h) (Or.inl ⟨by rfl, ?_⟩) (by assumption) ?_
                (rotate_left; focus (intro wS hSw; obtain ⟨⟨⟨hzS, ⟨sa0, sa1, sa2⟩, _⟩, ⟨s0, s1, s2⟩, _⟩, hzT, ⟨ta0, ta1, ta2⟩, _⟩ := hSw; go_simp; try with_reducible rfl))
                (try simp only [Act.put, List.setIfInBounds_toArray, List.set_cons_zero, List.set_cons_succ])
                refine wpAnyH_take (i := 25) (oi := { dst := some 87, op := Go.Op.load 3 (Go.Operand.tmp 86), type := 3, pos := "law.go:46", after := #[{ on := 24, ground := Go.Ground.data }, { on := 18, ground := Go.Ground.guard }], guard := some (18, false) }) (v := ?_) rfl (by kernel_rfl) (by kernel_rfl) (by kernel_rfl) (fun _ _ _ h => h) (Or.inl ⟨by rfl, ?_⟩) (by assumption) ?_
                (rotate_left; focus (intro wS hSw; obtain ⟨⟨⟨hzS, ⟨sa0, sa1, sa2⟩, _⟩, ⟨s0, s1, s2⟩, _⟩, hzT, ⟨ta0, ta1, ta2⟩, _⟩ := hSw; go_simp; try with_reducible rfl))
                (try simp only [Act.put, List.setIfInBounds_toArray, List.set_cons_zero, List.set_cons_succ])
                refine wpAnyH_take (i := 26) (oi := { dst := some 88, op := Go.Op.binOp Go.BinOp.eql 3 (Go.Operand.tmp 85) (Go.Operand.tmp 87) 3, type := 4, pos := "law.go:46", after := #[{ on := 23, ground := Go.Ground.data }, { on := 25, ground := Go.Ground.data }, { on := 18, ground := Go.Ground.guard }], guard := some (18, false) }) (v := ?_) rfl (by kernel_rfl) (by kernel_rfl) (by kernel_rfl) (fun _ _ _ h => h) (Or.inl ⟨by rfl, ?_⟩) (by assumption) ?_
                (rotate_left; focus (intro wS hSw; obtain ⟨⟨⟨hzS, ⟨sa0, sa1, sa2⟩, _⟩, ⟨s0, s1, s2⟩, _⟩, hzT, ⟨ta0, ta1, ta2⟩, _⟩ := hSw; go_simp; try with_reducible rfl))
                (try simp only [Act.put, List.setIfInBounds_toArray, List.set_cons_zero, List.set_cons_succ])
                refine wpAnyH_take (i := 27) (oi := { dst := some 89, op := Go.Op.move (Go.Operand.tmp 88), type := 4, pos := "law.go:46", after := #[{ on := 26, ground := Go.Ground.data }, { on := 18, ground := Go.Ground.chain }, { on := 18, ground := Go.Ground.guard }], guard := some (18, false) }) (v := ?_) rfl (by kernel_rfl) (by kernel_rfl) (by kernel_rfl) (fun _ _ _ h => h) (Or.inl ⟨by rfl, ?_⟩) (by assumption) ?_
                (rotate_left; focus (intro wS hSw; obtain ⟨⟨⟨hzS, ⟨sa0, sa1, sa2⟩, _⟩, ⟨s0, s1, s2⟩, _⟩, hzT, ⟨ta0, ta1, ta2⟩, _⟩ := hSw; go_simp; try with_reducible rfl))
                (try simp only [Act.put, List.setIfInBounds_toArray, List.set_cons_zero, List.set_cons_succ])
                refine wpAnyH_take (i := 28) (oi := { dst := some 90, op := Go.Op.move (Go.Operand.tmp 0), type := 37, pos := "law.go:46", after := #[{ on := 27, ground := Go.Ground.guard }], guard := some (27, true) }) (v := undef) rfl (by kernel_rfl) (by kernel_rfl) (by kernel_rfl) (fun _ _ _ h => h) (Or.inr ⟨by rfl, rfl⟩) (by assumption) ?_
                (try simp only [Act.put, List.setIfInBounds_toArray, List.set_cons_zero, List.set_cons_succ])
                refine wpAnyH_take (i := 29) (oi := { dst := some 91, op := Go.Op.move (Go.Operand.tmp 6), type := 3, pos := "law.go:46", after := #[{ on := 27, ground := Go.Ground.guard }], guard := some (27, true) }) (v := undef) rfl (by kernel_rfl) (by kernel_rfl) (by kernel_rfl) (fun _ _ _ h => h) (Or.inr ⟨by rfl, rfl⟩) (by assumption) ?_
                (try simp only [Act.put, List.setIfInBounds_toArray, List.set_cons_zero, List.set_cons_succ])
                refine wpAnyH_take (i := 30) (oi := { dst := some 92, op := Go.Op.indexAddr 37 (Go.Operand.tmp 90) (Go.Operand.tmp 91), type := 0, pos := "law.go:46", after := #[{ on := 28, ground := Go.Ground.data }, { on := 29, ground := Go.Ground.data }, { on := 27, ground := Go.Ground.guard }], guard := some (27, true) }) (v := undef) rfl (by kernel_rfl) (by kernel_rfl) (by kernel_rfl) (fun _ _ _ h => h) (Or.inr ⟨by rfl, rfl⟩) (by assumption) ?_
                (try simp only [Act.put, List.setIfInBounds_toArray, List.set_cons_zero, List.set_cons_succ])
                refine wpAnyH_take (i := 31) (oi := { dst := some 93, op := Go.Op.fieldAddr 23 (Go.Operand.tmp 92) 1, type := 0, pos := "law.go:46", after := #[{ on := 30, ground := Go.Ground.data }, { on := 27, ground := Go.Ground.guard }], guard := some (27, true) }) (v := undef) rfl (by kernel_rfl) (by kernel_rfl) (by kernel_rfl) (fun _ _ _ h => h) (Or.inr ⟨by rfl, rfl⟩) (by assumption) ?_
                (try simp only [Act.put, List.setIfInBounds_toArray, List.set_cons_zero, List.set_cons_succ])
                refine wpAnyH_take (i := 32) (oi := { dst := some 94, op := Go.Op.load 3 (Go.Operand.tmp 93), type := 3, pos := "law.go:46", after := #[{ on := 31, ground := Go.Ground.data }, { on := 27, ground := Go.Ground.guard }], guard := some (27, true) }) (v := undef) rfl (by kernel_rfl) (by kernel_rfl) (by kernel_rfl) (fun _ _ _ h => h) (Or.inr ⟨by rfl, rfl⟩) (by assumption) ?_
                (try simp only [Act.put, List.setIfInBounds_toArray, List.set_cons_zero, List.set_cons_succ])
                refine wpAnyH_take (i := 33) (oi := { dst := some 95, op := Go.Op.fieldAddr 23 (Go.Operand.tmp 10) 1, type := 0, pos := "law.go:46", after := #[{ on := 27, ground := Go.Ground.guard }], guard := some (27, true) }) (v := undef) rfl (by kernel_rfl) (by kernel_rfl) (by kernel_rfl) (fun _ _ _ h => h) (Or.inr ⟨by rfl, rfl⟩) (by assumption) ?_
                (try simp only [Act.put, List.setIfInBounds_toArray, List.set_cons_zero, List.set_cons_succ])
                refine wpAnyH_take (i := 34) (oi := { dst := some 96, op := Go.Op.load 3 (Go.Operand.tmp 95), type := 3, pos := "law.go:46", after := #[{ on := 33, ground := Go.Ground.data }, { on := 27, ground := Go.Ground.guard }], guard := some (27, true) }) (v := undef) rfl (by kernel_rfl) (by kernel_rfl) (by kernel_rfl) (fun _ _ _ h => h) (Or.inr ⟨by rfl, rfl⟩) (by assumption) ?_
                (try simp only [Act.put, List.setIfInBounds_toArray, List.set_cons_zero, List.set_cons_succ])
                refine wpAnyH_take (i := 35) (oi := { dst := some 97, op := Go.Op.binOp Go.BinOp.geq 3 (Go.Operand.tmp 94) (Go.Operand.tmp 96) 3, type := 4, pos := "law.go:46", after := #[{ on := 32, ground := Go.Ground.data }, { on := 34, ground := Go.Ground.data }, { on := 27, ground := Go.Ground.guard }], guard := some (27, true) }) (v := undef) rfl (by kernel_rfl) (by kernel_rfl) (by kernel_rfl) (fun _ _ _ h => h) (Or.inr ⟨by rfl, rfl⟩) (by assumption) ?_
                (try simp only [Act.put, List.setIfInBounds_toArray, List.set_cons_zero, List.set_cons_succ])
                refine wpAnyH_take (i := 36) (oi := { dst := some 98, op := Go.Op.pick (Go.Operand.tmp 89) (Go.Operand.tmp 97) (Go.Operand.const (Go.Value.bool false)), type := 4, pos := "law.go:46", after := #[{ on := 27, ground := Go.Ground.data }, { on := 35, ground := Go.Ground.data }, { on := 18, ground := Go.Ground.guard }], guard := some (18, false) }) (v := ?_) rfl (by kernel_rfl) (by kernel_rfl) (by kernel_rfl) (fun _ _ _ h => h) (Or.inl ⟨by rfl, ?_⟩) (by assumption) ?_
                (rotate_left; focus (intro wS hSw; obtain ⟨⟨⟨hzS, ⟨sa0, sa1, sa2⟩, _⟩, ⟨s0, s1, s2⟩, _⟩, hzT, ⟨ta0, ta1, ta2⟩, _⟩ := hSw; go_simp; try with_reducible rfl))
                (try simp only [Act.put, List.setIfInBounds_toArray, List.set_cons_zero, List.set_cons_succ])
                refine wpAnyH_take (i := 37) (oi := { dst := some 99, op := Go.Op.pick (Go.Operand.tmp 80) (Go.Operand.const (Go.Value.bool true)) (Go.Operand.tmp 98), type := 4, pos := "law.go:46", after := #[{ on := 18, ground := Go.Ground.data }, { on := 36, ground := Go.Ground.data }], guard := none }) (v := ?_) rfl (by kernel_rfl) (by kernel_rfl) (by kernel_rfl) (fun _ _ _ h => h) (Or.inl ⟨by rfl, ?_⟩) (by assumption) ?_
                (rotate_left; focus (intro wS hSw; obtain ⟨⟨⟨hzS, ⟨sa0, sa1, sa2⟩, _⟩, ⟨s0, s1, s2⟩, _⟩, hzT, ⟨ta0, ta1, ta2⟩, _⟩ := hSw; go_simp; try with_reducible rfl))
                (try simp only [Act.put, List.setIfInBounds_toArray, List.set_cons_zero, List.set_cons_succ])
                refine wpAnyH_done (by kernel_rfl) ?_ _
                have HR := Lib.hid hR
                clear hR
                obtain ⟨⟨⟨hz, ⟨a0, a1, a2⟩, f0, f1, f2⟩, _, _, hB⟩, hzt, ⟨ta0, ta1, ta2⟩, _⟩ := HR.out
                have HBW := Lib.hid (HR.out.1.1.set ⟨s'.t, s'.c + 1, s'.r⟩)
                have HBB : Hid (Below w.heap.size w (set3 v3 w.heap.size ⟨s'.t, s'.c + 1, s'.r⟩)) := Lib.hid (HR.out.1.2.2.2.trans (set3_below v3 w.heap.size ⟨s'.t, s'.c + 1, s'.r⟩ w.heap.size (Nat.le_refl _)))
                go_wp2_with fail
                go_roundw
                case rel => exact ⟨k + 1, by omega, by go_num, ⟨⟨s'.t, s'.c + 1, s'.r⟩, HOKN.out, HBW.out⟩, HBB.out⟩
                case measure => simp [intOf]; omega
      · go_wp2_with fail
        refine (awake_any _).mono ?_
        rintro e w1 ⟨rfl, hb1⟩
        go_wp2_with fail
        go_ret
        exact ⟨rfl, below_step hb (Nat.le_refl _) hb1⟩
end Go.Proofs.Yteijamnihfhndaa

