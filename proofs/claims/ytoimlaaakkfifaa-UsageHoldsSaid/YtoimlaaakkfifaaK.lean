/-
  The contract of the law's awake.
-/
import Derived.Test.YtoimlaaakkfifaaJ
set_option linter.unusedVariables false
set_option linter.unusedSimpArgs false
namespace Go.Proofs.Ytoimlaaakkfifaa
open Go.RowKit
theorem wp_append_ty {P : Program} {w w2 : World} {o : Oper} {a : Act} {K : Act → World → Prop} {Q : Exit → Act → World → Prop} {s x : Operand} {t ty : TypeId} {v y r : Value}
    (ho : o.op = .call { callee := .builtin .append, args := #[s, x], argTypes := #[t, t] }) (hty : o.type = ty) (hs : a.eval s = v) (hx : a.eval x = y) (hr : (Builtin.append_ #[t, t] ty #[v, y]).run P w = .ok r w2) (h : K (a.put o.dst r) w2) : o.wp P a w K Q := by
  subst hty
  unfold Oper.wp execOp
  simp only [ho, resolve, invoke, builtin, Sem.run_bind, Sem.run_pure, Result.andThen_ok, List.map_toArray, List.map_cons, List.map_nil, hs, hx, hr]
  exact h
theorem append_e (W : World) (ty : TypeId) (pl : Nat) (L : List EntM) (x : EntM) (h : Sl encE 8 W (some ⟨pl, 0, none⟩) L) (hl : L.length ≤ 1000) :
    ∃ a' c' w', (Builtin.append_ #[22, 22] ty #[.slice (some ⟨pl, 0, none⟩) L.length L.length, .slice (some ⟨W.heap.size, 0, none⟩) 1 1]).run Try.prog (W.alloc (.cells (encE x).toArray 40)) = .ok (.slice a' (L.length + 1) c') w' ∧ Sl encE 8 w' a' (L ++ [x]) ∧ Below W.heap.size W w' := by
  obtain ⟨i0, hi0, hz0, hz1, hz2⟩ := info_parts infoE
  obtain ⟨v', w', hrun, r1, r2⟩ := run_append_arg_grows (P := Try.prog) (W.alloc (.cells (encE x).toArray 40)) 22 ty 40 i0 _ 8 144 Try.underlying22 hi0 hz0 hz1 hz2 rfl (by decide) ⟨pl, 0, none⟩ L.length L.length (L.flatMap encE) (flatE_len L) (slE_flat (h.keep (below_new W (.cells (encE x).toArray 40))) _ rfl) ⟨W.heap.size, 0, none⟩ 1 1 (encE x) rfl (fun j u hj => new_cells W (encE x).toArray 40 j u hj) (by omega) (by unfold maxLen; omega) (by omega)
  have e1 : L.flatMap encE ++ encE x = (L ++ [x]).flatMap encE := by rw [List.flatMap_append]; simp
  have e2 : L.length + 1 = (L ++ [x]).length := by simp
  rw [e1, e2] at r1
  obtain ⟨a', c', rfl, h1, h2⟩ := own_sl (enc := encE) (size := 8) encE_len (by decide) r1
  rw [← e2] at hrun
  refine ⟨a', c', w', hrun, h2, below_step (below_new W _) (Nat.le_refl _) ((Below.refl _ _).grown r2 (Nat.le_refl _) (fun q hq => by cases hq))⟩
abbrev ta : ByteArray := ⟨#[97]⟩
abbrev tb : ByteArray := ⟨#[98]⟩
abbrev tc : ByteArray := ⟨#[99]⟩
abbrev td : ByteArray := ⟨#[100]⟩
abbrev tx : ByteArray := ⟨#[120]⟩
abbrev ty : ByteArray := ⟨#[121]⟩
abbrev tz : ByteArray := ⟨#[122]⟩
def L2 (p1 p2 : Nat) : List EntM := [mkE ta 4 [tx] (some ⟨p1, 0, none⟩) 1, mkE tb 4 [tx] (some ⟨p2, 0, none⟩) 1]
def x3 (p3 : Nat) : EntM := mkE tc 6 [ty, tz] (some ⟨p3, 0, none⟩) 2
def E2 : List Ent := [⟨ta, 4, 4, [tx]⟩, ⟨tb, 4, 4, [tx]⟩]
def E3 : List Ent := [⟨ta, 4, 4, [tx]⟩, ⟨tb, 4, 4, [tx]⟩, ⟨tc, 6, 4, [ty, tz]⟩]
theorem E2_few : ∀ e ∈ E2, e.ok := by
  intro e he
  simp only [E2, List.mem_cons, List.mem_nil_iff, or_false] at he
  rcases he with rfl | rfl <;> exact ⟨by decide, by decide, by decide, by decide⟩
theorem E3_few : ∀ e ∈ E3, e.ok := by
  intro e he
  simp only [E3, List.mem_cons, List.mem_nil_iff, or_false] at he
  rcases he with rfl | rfl | rfl <;> exact ⟨by decide, by decide, by decide, by decide⟩
theorem E2_all : allI E2 2 = 8 ∧ onceI E2 2 = 4 := by decide +kernel
theorem E2_rat : ratV E2 = 4611686018427387904 := by decide +kernel
theorem E0_rat : ratV [] = 4607182418800017408 := by decide +kernel
theorem E3_c : ownV E3 tc = 6 ∧ ownErr E3 tc = 0 := by decide +kernel
theorem E3_a : ownV E3 ta = 0 ∧ ownErr E3 ta = 0 := by decide +kernel
theorem E3_d : ownV E3 td = 0 ∧ ownErr E3 td = 7 := by decide +kernel
/-- A list lies in memory, with all that it holds. -/
def Lies (W : World) (a : Option Addr) (l : List EntM) : Prop := Sl encE 8 W a l ∧ ∀ x ∈ l, x.ok W
theorem Lies.keep {W W' : World} {a : Option Addr} {l : List EntM} (h : Lies W a l) (k : Below W.heap.size W W') : Lies W' a l := ⟨h.1.keep k, fun x hx => ⟨(h.2 x hx).1.keep k, (h.2 x hx).2⟩⟩
theorem one_ok {W : World} {p : Nat} {nm : ByteArray} {sz : Int} {ids : List ByteArray} {c : Nat} (h : Sl strC 1 W (some ⟨p, 0, none⟩) ids) (hs : ∀ s ∈ ids, s.size ≤ 1) : (mkE nm sz ids (some ⟨p, 0, none⟩) c).ok W := ⟨h, fun s hs' => Nat.le_trans (hs s hs') (by decide)⟩
set_option maxRecDepth 100000 in
set_option maxHeartbeats 16000000 in
theorem awake_any (w : World) : Calls Try.prog 6 #[] w fun e w' => e = .returned (.bool true) ∧ Below w.heap.size w w' := by
  have TS : Hid (∀ (W : World) (p1 p2 q : Nat), Lies W (some ⟨q, 0, none⟩) (L2 p1 p2) → Calls Try.prog 9 #[.slice (some ⟨q, 0, none⟩) 2 2] W fun e w' => e = .returned (.tuple #[.int .i64 8, .int .i64 4]) ∧ Below W.heap.size W w') := Lib.hid (fun W p1 p2 q h => by
    have := shared_any (L2 p1 p2) (some ⟨q, 0, none⟩) 2 W h.1 h.2 E2_few (show 2 ≤ 16 by decide)
    rw [show ents (L2 p1 p2) = E2 from rfl, show (L2 p1 p2).length = 2 from rfl, E2_all.1, E2_all.2] at this
    exact this)
  have TR : Hid (∀ (W : World) (p1 p2 q : Nat), Lies W (some ⟨q, 0, none⟩) (L2 p1 p2) → Calls Try.prog 11 #[.slice (some ⟨q, 0, none⟩) 2 2] W fun e w' => e = .returned (.float .f64 4611686018427387904) ∧ Below W.heap.size W w') := Lib.hid (fun W p1 p2 q h => by
    have := ratio_any (L2 p1 p2) (some ⟨q, 0, none⟩) 2 W h.1 h.2 E2_few (show 2 ≤ 16 by decide)
    rw [show ents (L2 p1 p2) = E2 from rfl, E2_rat] at this
    exact this)
  have TN : Hid (∀ (W : World), Calls Try.prog 11 #[.slice none 0 0] W fun e w' => e = .returned (.float .f64 4607182418800017408) ∧ Below W.heap.size W w') := Lib.hid (fun W => by
    have := ratio_any [] none 0 W (Sl.nil _ _ _ _) (by simp) (by simp [ents]) (by decide)
    rw [show ents [] = [] from rfl, E0_rat] at this
    exact this)
  have TO : Hid (∀ (W : World) (p1 p2 p3 : Nat) (a : Option Addr) (c : Nat) (nm : ByteArray), Lies W a (L2 p1 p2 ++ [x3 p3]) → Calls Try.prog 7 #[.slice a 3 c, .string nm] W fun e w' => e = .returned (.tuple #[.int .i64 (ownV E3 nm), .int .i64 (ownErr E3 nm)]) ∧ Below W.heap.size W w') := Lib.hid (fun W p1 p2 p3 a c nm h => own_any (L2 p1 p2 ++ [x3 p3]) nm a c W h.1 h.2 E3_few (show 3 ≤ 16 by decide))
  have TC : Hid (∀ (W : World) (p1 p2 p3 : Nat) (a : Option Addr) (c : Nat), Lies W a (L2 p1 p2 ++ [x3 p3]) → Calls Try.prog 7 #[.slice a 3 c, .string ⟨#[99]⟩] W fun e w' => e = .returned (.tuple #[.int .i64 6, .int .i64 0]) ∧ Below W.heap.size W w') := Lib.hid (fun W p1 p2 p3 a c h => by have := TO.out W p1 p2 p3 a c tc h; rw [E3_c.1, E3_c.2] at this; exact this)
  have TA : Hid (∀ (W : World) (p1 p2 p3 : Nat) (a : Option Addr) (c : Nat), Lies W a (L2 p1 p2 ++ [x3 p3]) → Calls Try.prog 7 #[.slice a 3 c, .string ⟨#[97]⟩] W fun e w' => e = .returned (.tuple #[.int .i64 0, .int .i64 0]) ∧ Below W.heap.size W w') := Lib.hid (fun W p1 p2 p3 a c h => by have := TO.out W p1 p2 p3 a c ta h; rw [E3_a.1, E3_a.2] at this; exact this)
  have TD : Hid (∀ (W : World) (p1 p2 p3 : Nat) (a : Option Addr) (c : Nat), Lies W a (L2 p1 p2 ++ [x3 p3]) → Calls Try.prog 7 #[.slice a 3 c, .string ⟨#[100]⟩] W fun e w' => e = .returned (.tuple #[.int .i64 0, .int .i64 7]) ∧ Below W.heap.size W w') := Lib.hid (fun W p1 p2 p3 a c h => by have := TO.out W p1 p2 p3 a c td h; rw [E3_d.1, E3_d.2] at this; exact this)
  have q2 := fun w => flt_eql (r := 4611686018427387904) (by unfold isNo; omega) w
  have q1 := fun w => flt_eql (r := 4607182418800017408) (by unfold isNo; omega) w
  have HQ2 := Lib.hid q2; have HQ1 := Lib.hid q1
  clear q1 q2
  have S1 : Hid (∀ W : World, Sl strC 1 (W.alloc (.cells #[.string ⟨#[120]⟩] 9)) (some ⟨W.heap.size, 0, none⟩) [tx]) := Lib.hid (fun W => sl_new W [tx] 9)
  have S3 : Hid (∀ W : World, Sl strC 1 (W.alloc (.cells #[.string ⟨#[121]⟩, .string ⟨#[122]⟩] 9)) (some ⟨W.heap.size, 0, none⟩) [ty, tz]) := Lib.hid (fun W => sl_new W [ty, tz] 9)
  go_enter Try.func6, Try.ntmps6
  go_wp2_with fail
  refine (one_any _ _ _ _ _ _).mono ?_
  rintro e w2 ⟨rfl, hb⟩
  obtain ⟨p1, hp1⟩ : ∃ p, p = w.heap.size := ⟨_, rfl⟩
  have I1 := Lib.hid ((S1.out w).keep hb); have HB2 := Lib.hid (below_cons (below_new w _) hb)
  have HP1 := Lib.hid hp1
  rw [← hp1] at I1 ⊢
  clear hb hp1
  go_wp2_with fail
  refine (one_any _ _ _ _ _ _).mono ?_
  rintro e w4 ⟨rfl, hb⟩
  obtain ⟨p2, hp2⟩ : ∃ p, p = w2.heap.size := ⟨_, rfl⟩
  have J1 := Lib.hid ((I1.out.keep (below_new w2 (.cells #[.string ⟨#[120]⟩] 9))).keep hb)
  have J2 := Lib.hid ((S1.out w2).keep hb); have HB4 := Lib.hid (below_cons HB2.out (below_cons (below_new w2 _) hb))
  rw [← hp2] at J2 ⊢
  clear hb hp2
  have hli : Lies (w4.alloc (.cells #[.string ⟨#[97]⟩, .int .i64 4, .int .i64 4, .slice (some ⟨p1, 0, none⟩) 1 1, .string ⟨#[]⟩, .slice none 0 0, .slice none 0 0, .slice none 0 0, .string ⟨#[98]⟩, .int .i64 4, .int .i64 4, .slice (some ⟨p2, 0, none⟩) 1 1, .string ⟨#[]⟩, .slice none 0 0, .slice none 0 0, .slice none 0 0] 40)) (some ⟨w4.heap.size, 0, none⟩) (L2 p1 p2) := by
    refine ⟨sl_newE w4 (L2 p1 p2) 40, fun x hx => ?_⟩
    simp only [L2, List.mem_cons, List.mem_nil_iff, or_false] at hx
    rcases hx with rfl | rfl
    · exact one_ok (J1.out.keep (below_new w4 _)) (by decide)
    · exact one_ok (J2.out.keep (below_new w4 _)) (by decide)
  have HLI := Lib.hid hli
  have HB5 := Lib.hid (below_cons HB4.out (below_new w4 (.cells #[.string ⟨#[97]⟩, .int .i64 4, .int .i64 4, .slice (some ⟨p1, 0, none⟩) 1 1, .string ⟨#[]⟩, .slice none 0 0, .slice none 0 0, .slice none 0 0, .string ⟨#[98]⟩, .int .i64 4, .int .i64 4, .slice (some ⟨p2, 0, none⟩) 1 1, .string ⟨#[]⟩, .slice none 0 0, .slice none 0 0, .slice none 0 0] 40)))
  clear hli
  go_wp2_with fail
  obtain ⟨q, hq⟩ : ∃ q, q = w4.heap.size := ⟨_, rfl⟩
  rw [← hq] at HLI ⊢
  have hq5 : q < (w4.alloc (.cells #[.string ⟨#[97]⟩, .int .i64 4, .int .i64 4, .slice (some ⟨p1, 0, none⟩) 1 1, .string ⟨#[]⟩, .slice none 0 0, .slice none 0 0, .slice none 0 0, .string ⟨#[98]⟩, .int .i64 4, .int .i64 4, .slice (some ⟨p2, 0, none⟩) 1 1, .string ⟨#[]⟩, .slice none 0 0, .slice none 0 0, .slice none 0 0] 40)).heap.size := by simp; omega
  generalize w4.alloc (.cells #[.string ⟨#[97]⟩, .int .i64 4, .int .i64 4, .slice (some ⟨p1, 0, none⟩) 1 1, .string ⟨#[]⟩, .slice none 0 0, .slice none 0 0, .slice none 0 0, .string ⟨#[98]⟩, .int .i64 4, .int .i64 4, .slice (some ⟨p2, 0, none⟩) 1 1, .string ⟨#[]⟩, .slice none 0 0, .slice none 0 0, .slice none 0 0] 40) = W5 at HLI HB5 hq5 ⊢
  clear hq
  refine wp_region_held_drew (S := fun _ => True) (by kernel_rfl) (trivial) (fun hHeld => ?_)
  refine wpAnyH_take (i := 0) (oi := { dst := some 16, op := Go.Op.move (Go.Operand.tmp 1), type := 22, pos := "law.go:18", after := #[], guard := none }) (v := ?_) rfl (by kernel_rfl) (by kernel_rfl) (by kernel_rfl) (fun _ _ _ h => h) (Or.inl ⟨by rfl, ?_⟩) (by assumption) ?_
  (rotate_left; focus (intro wS hSw; (try dsimp only at hSw); go_simp; (try rw [if_neg (by omega)]); try with_reducible rfl))
  (try simp only [Act.put, List.setIfInBounds_toArray, List.set_cons_zero, List.set_cons_succ])
  refine wpAnyH_take (i := 1) (oi := { dst := some 17, op := Go.Op.slice 22 (Go.Operand.tmp 16) none (some (Go.Operand.const (Go.Value.int Go.IntKind.i64 2))) (some (Go.Operand.const (Go.Value.int Go.IntKind.i64 2))), type := 22, pos := "law.go:18", after := #[{ on := 0, ground := Go.Ground.data }], guard := none }) (v := ?_) rfl (by kernel_rfl) (by kernel_rfl) (by kernel_rfl) (fun _ _ _ h => h) (Or.inl ⟨by rfl, ?_⟩) (by assumption) ?_
  (rotate_left; focus (intro wS hSw; (try dsimp only at hSw); go_simp; (try rw [if_neg (by omega)]); try with_reducible rfl))
  (try simp only [Act.put, List.setIfInBounds_toArray, List.set_cons_zero, List.set_cons_succ])
  refine wpAnyH_ready (rs := [2]) (by kernel_rfl) (by simp) ?_
  refine AllReadyH.cons (o := { dst := some 18, op := Go.Op.buildSlice 34 2 #[(0, Go.Operand.const (Go.Value.string { data := #[121] })), (1, Go.Operand.const (Go.Value.string { data := #[122] }))], type := 34, pos := "law.go:18", after := #[], guard := none }) rfl (fun K hK => ?_) AllReadyH.nil
  go_simp
  refine hK.out _ _ (trivial) (fun hHeld => ?_)
  clear hK K
  (try simp only [Act.put, List.setIfInBounds_toArray, List.set_cons_zero, List.set_cons_succ])
  refine wpAnyH_ready (rs := [3]) (by kernel_rfl) (by simp) ?_
  refine AllReadyH.cons (o := { dst := some 19, op := Go.Op.call { callee := Go.Callee.value (Go.Operand.func 13), args := #[Go.Operand.const (Go.Value.string { data := #[99] }), Go.Operand.const (Go.Value.int Go.IntKind.i64 6), Go.Operand.tmp 18], argTypes := #[9, 3, 34] }, type := 40, pos := "law.go:18", after := #[{ on := 2, ground := Go.Ground.data }], guard := none }) rfl (fun K hK => ?_) AllReadyH.nil
  go_simp
  refine (one_any _ _ _ _ _ _).mono ?_
  rintro e w6 ⟨rfl, hb⟩
  have HB6 : Hid (Below W5.heap.size W5 w6) := Lib.hid ((Below.drew (below_new W5 (.cells #[.string ⟨#[121]⟩, .string ⟨#[122]⟩] 9))).trans (hb.mono (by simp)))
  have M1 : Hid (Sl strC 1 w6 (some ⟨W5.heap.size, 0, none⟩) [ty, tz]) := Lib.hid (Sl.keep (w := (W5.alloc (.cells #[.string ⟨#[121]⟩, .string ⟨#[122]⟩] 9)).drew) (S3.out W5) hb)
  clear hb
  (try go_wp2_with fail)
  refine hK.out _ _ (trivial) (fun hHeld => ?_)
  clear hK K
  (try simp only [Act.put, List.setIfInBounds_toArray, List.set_cons_zero, List.set_cons_succ])
  refine wpAnyH_ready (rs := [4]) (by kernel_rfl) (by simp) ?_
  refine AllReadyH.cons (o := { dst := some 20, op := Go.Op.buildSlice 22 1 #[(0, Go.Operand.tmp 19)], type := 22, pos := "law.go:18", after := #[{ on := 3, ground := Go.Ground.data }], guard := none }) rfl (fun K hK => ?_) AllReadyH.nil
  go_simp
  obtain ⟨a7, c7, w7, hrun, hs7, hb7⟩ := append_e w6 22 q (L2 p1 p2) (x3 W5.heap.size) ((HLI.out.keep HB6.out).1) (show 2 ≤ 1000 by decide)
  have HRUN : Hid ((Builtin.append_ #[22, 22] 22 #[.slice (some ⟨q, 0, none⟩) 2 2, .slice (some ⟨w6.heap.size, 0, none⟩) 1 1]).run Try.prog (w6.alloc (.cells #[.string ⟨#[99]⟩, .int .i64 6, .int .i64 4, .slice (some ⟨W5.heap.size, 0, none⟩) 2 2, .string ⟨#[]⟩, .slice none 0 0, .slice none 0 0, .slice none 0 0] 40)) = .ok (.slice a7 3 c7) w7) := Lib.hid hrun
  have HL7 : Hid (Lies w7 a7 (L2 p1 p2 ++ [x3 W5.heap.size])) := Lib.hid ⟨hs7, fun x hx => by
  rcases List.mem_append.1 hx with h | h
  · exact ((HLI.out.keep HB6.out).keep hb7).2 x h
  · rw [List.mem_singleton.1 h]; exact one_ok (M1.out.keep hb7) (by decide)⟩
  have HI7 := Lib.hid ((HLI.out.keep HB6.out).keep hb7)
  have HB7 := Lib.hid (below_cons HB5.out (below_cons HB6.out hb7))
  clear hrun hs7 hb7
  refine hK.out _ _ (trivial) (fun hHeld => ?_)
  clear hK K
  (try simp only [Act.put, List.setIfInBounds_toArray, List.set_cons_zero, List.set_cons_succ])
  refine wpAnyH_ready (rs := [5]) (by kernel_rfl) (by simp) ?_
  refine AllReadyH.cons (o := { dst := some 21, op := Go.Op.call { callee := Go.Callee.builtin Go.Builtin.append, args := #[Go.Operand.tmp 17, Go.Operand.tmp 20], argTypes := #[22, 22] }, type := 22, pos := "law.go:18", after := #[{ on := 1, ground := Go.Ground.data }, { on := 4, ground := Go.Ground.data }, { on := 3, ground := Go.Ground.chain }], guard := none }) rfl (fun K hK => ?_) AllReadyH.nil
  refine wp_append_ty rfl rfl rfl rfl HRUN.out ?_
  refine hK.out _ _ (trivial) (fun hHeld => ?_)
  clear hK K
  (try simp only [Act.put, List.setIfInBounds_toArray, List.set_cons_zero, List.set_cons_succ])
  refine wpAnyH_take (i := 6) (oi := { dst := some 2, op := Go.Op.assign (Go.Operand.tmp 21), type := 22, pos := "law.go:18", after := #[{ on := 5, ground := Go.Ground.data }, { on := 5, ground := Go.Ground.chain }, { on := 0, ground := Go.Ground.phase }, { on := 1, ground := Go.Ground.phase }, { on := 2, ground := Go.Ground.phase }, { on := 3, ground := Go.Ground.phase }, { on := 4, ground := Go.Ground.phase }, { on := 5, ground := Go.Ground.phase }], guard := none }) (v := ?_) rfl (by kernel_rfl) (by kernel_rfl) (by kernel_rfl) (fun _ _ _ h => h) (Or.inl ⟨by rfl, ?_⟩) (by assumption) ?_
  (rotate_left; focus (intro wS hSw; (try dsimp only at hSw); go_simp; (try rw [if_neg (by omega)]); try with_reducible rfl))
  (try simp only [Act.put, List.setIfInBounds_toArray, List.set_cons_zero, List.set_cons_succ])
  refine wpAnyH_done (by kernel_rfl) ?_ _
  go_wp2_with fail
  refine (TS.out _ _ _ _ HI7.out).mono ?_
  rintro e w8 ⟨rfl, hb⟩
  have HL8 := Lib.hid (HL7.out.keep hb); have HI8 := Lib.hid (HI7.out.keep hb); have HB8 := Lib.hid (below_cons HB7.out hb)
  clear hb HL7 HI7 HB7
  go_wp2_with fail
  refine (TC.out _ _ _ _ _ _ HL8.out).mono ?_
  rintro e w9 ⟨rfl, hb⟩
  have HL9 := Lib.hid (HL8.out.keep hb); have HI9 := Lib.hid (HI8.out.keep hb); have HB9 := Lib.hid (below_cons HB8.out hb)
  clear hb HL8 HI8 HB8
  go_wp2_with fail
  refine (TA.out _ _ _ _ _ _ HL9.out).mono ?_
  rintro e w10 ⟨rfl, hb⟩
  have HL10 := Lib.hid (HL9.out.keep hb); have HI10 := Lib.hid (HI9.out.keep hb); have HB10 := Lib.hid (below_cons HB9.out hb)
  clear hb HL9 HI9 HB9
  go_wp2_with fail
  refine (TD.out _ _ _ _ _ _ HL10.out).mono ?_
  rintro e w11 ⟨rfl, hb⟩
  have HL11 := Lib.hid (HL10.out.keep hb); have HI11 := Lib.hid (HI10.out.keep hb); have HB11 := Lib.hid (below_cons HB10.out hb)
  clear hb HL10 HI10 HB10
  have q2 := HQ2.out
  go_wp2_with fail
  refine (TR.out _ _ _ _ HI11.out).mono ?_
  rintro e w12 ⟨rfl, hb⟩
  have HL12 := Lib.hid (HL11.out.keep hb); have HI12 := Lib.hid (HI11.out.keep hb); have HB12 := Lib.hid (below_cons HB11.out hb)
  clear hb HL11 HI11 HB11
  have q1 := HQ1.out
  go_wp2_with fail
  refine (TN.out _).mono ?_
  rintro e w13 ⟨rfl, hb⟩
  have HL13 := Lib.hid (HL12.out.keep hb); have HI13 := Lib.hid (HI12.out.keep hb); have HB13 := Lib.hid (below_cons HB12.out hb)
  clear hb HL12 HI12 HB12
  go_wp2
  go_ret
  exact ⟨rfl, HB13.out⟩
end Go.Proofs.Ytoimlaaakkfifaa

