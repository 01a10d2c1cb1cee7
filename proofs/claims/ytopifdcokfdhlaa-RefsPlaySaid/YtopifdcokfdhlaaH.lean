/-
  The walk of RefsPlay.
-/
import Derived.Test.YtopifdcokfdhlaaG
import Derived.Maps.AppendAt
import Derived.ArgAppend
set_option linter.unusedVariables false
set_option linter.unusedSimpArgs false
namespace Go.Proofs.Ytopifdcokfdhlaa
open Go.RowKit
theorem wp_append_ty {P : Program} {w w2 : World} {o : Oper} {a : Act} {K : Act → World → Prop} {Q : Exit → Act → World → Prop} {s x : Operand} {t ty : TypeId} {v y r : Value}
    (ho : o.op = .call { callee := .builtin .append, args := #[s, x], argTypes := #[t, t] }) (hty : o.type = ty) (hs : a.eval s = v) (hx : a.eval x = y) (hr : (Builtin.append_ #[t, t] ty #[v, y]).run P w = .ok r w2) (h : K (a.put o.dst r) w2) : o.wp P a w K Q := by
  subst hty
  unfold Oper.wp execOp
  simp only [ho, resolve, invoke, builtin, Sem.run_bind, Sem.run_pure, Result.andThen_ok, List.map_toArray, List.map_cons, List.map_nil, hs, hx, hr]
  exact h
theorem append_zero (w : World) (ty : TypeId) (b g : Option Addr) (n c : Nat) : (Builtin.append_ #[26, 26] ty #[.slice b n n, .slice g 0 c]).run Try.prog w = .ok (.slice b n n) w := by
  have hsz : (sizeOf 9).run Try.prog w = .ok 1 w := by kernel_rfl
  cases b <;> cases g <;> simp [Builtin.append_, run_underlying Try.underlying26, hsz, Builtin.lenOf, Builtin.firstCells, loadCells, loadCellsFrom, storeCells, Result.andThen]
theorem flat_len (p : List ByteArray) : (p.flatMap strC).length = p.length * 1 := by
  induction p with
  | nil => rfl
  | cons x p ih => rw [List.flatMap_cons, List.length_append, ih, List.length_cons]; simp [strC]; omega
theorem sl_flat {w : World} {a : Option Addr} {p : List ByteArray} (h : Sl strC 1 w a p) : ∀ b, a = some b → ∀ j u, (p.flatMap strC)[j]? = some u → w.cell? (b.add j) = some u := by
  intro b hb j u hu
  have hj : j < p.length := by have := (List.getElem?_eq_some_iff.1 hu).1; rw [flat_len] at this; omega
  obtain ⟨b1, o1, e, _, hc⟩ := slT_str h j hj
  obtain rfl : b = ⟨b1, o1, none⟩ := by rw [hb] at e; simpa using e
  rw [Addr.add_lit, hc]
  have h2 := flat_get (enc := strC) (size := 1) (fun _ => rfl) p j hj 0 (.string p[j]) rfl
  rw [Nat.mul_one, Nat.add_zero, hu] at h2
  exact h2.symm
theorem one_flat (l : List ByteArray) : ∀ u ∈ l.flatMap strC, u.oneCell' = true := by
  intro u hu
  obtain ⟨m, _, hm⟩ := List.mem_flatMap.1 hu
  simp only [strC, List.mem_cons, List.mem_nil_iff, or_false] at hm
  rw [hm]; rfl
theorem sl_none {w : World} {a : Option Addr} {l : List ByteArray} (h : Sl strC 1 w a l) (ha : a = none) : l.length = 0 := by
  cases l with
  | nil => rfl
  | cons x l =>
    obtain ⟨b, o, e, _⟩ := h 0 (by simp)
    rw [ha] at e; cases e
/-- Texts behind others, in a row of their own. -/
theorem append_texts (w : World) (ty : TypeId) (x L : List ByteArray) (ax da : Option Addr) (dc : Nat) (hx : Sl strC 1 w ax x) (hL : Sl strC 1 w da L) (hlx : x.length ≤ 100000) (hlL : L.length ≤ 100000) :
    ∃ a' c' w', (Builtin.append_ #[26, 26] ty #[.slice ax x.length x.length, .slice da L.length dc]).run Try.prog w = .ok (.slice a' (x ++ L).length c') w' ∧ (x ++ L).length ≤ c' ∧ Sl strC 1 w' a' (x ++ L) ∧ Below w.heap.size w w' := by
  obtain ⟨i0, hi0, hz0, hz1, hz2⟩ := info_parts infoS
  by_cases h0 : L.length = 0
  · obtain rfl : L = [] := List.eq_nil_of_length_eq_zero h0
    refine ⟨ax, x.length, w, by rw [List.append_nil]; exact append_zero w ty ax da x.length dc, by simp, by simpa using hx, Below.refl _ _⟩
  · cases da with
    | none => exact absurd (sl_none hL rfl) h0
    | some ad =>
      cases ax with
      | some b =>
        obtain ⟨v', w', hrun, r1, r2⟩ := run_append_arg_grows (P := Try.prog) w 26 ty 9 i0 (.string ByteArray.empty) 1 16 Try.underlying26 hi0 hz0 hz1 hz2 rfl (by decide) b x.length x.length (x.flatMap strC) (flat_len x) (sl_flat hx b rfl) ad L.length dc (L.flatMap strC) (flat_len L) (sl_flat hL ad rfl) (by omega) (by unfold maxLen; omega) (by omega)
        rw [← List.flatMap_append, ← List.length_append] at r1
        obtain ⟨a', c', rfl, h1, h2⟩ := own_sl (enc := strC) (size := 1) (fun _ => rfl) (by decide) r1
        exact ⟨a', c', w', hrun, h1, h2, (Below.refl _ _).grown r2 (Nat.le_refl _) (fun q hq => by cases hq)⟩
      | none =>
        have hx0 := sl_none hx rfl
        obtain rfl : x = [] := List.eq_nil_of_length_eq_zero hx0
        obtain ⟨v', w', hrun, r1, r2, _⟩ := run_append_own (P := Try.prog) w w.heap.size 26 ty 9 i0 (.string ByteArray.empty) 1 16 Try.underlying26 hi0 hz0 hz1 hz2 rfl (by decide) (.slice none 0 0) 0 [] (World.ownsRow_nil w _ 9 1) ad L.length dc (L.flatMap strC) (flat_len L) (sl_flat hL ad rfl) (one_flat L) (by unfold maxLen; omega) (by omega) (Nat.le_refl _)
        rw [Nat.zero_add, List.nil_append] at r1
        obtain ⟨a', c', rfl, h1, h2⟩ := own_sl (enc := strC) (size := 1) (fun _ => rfl) (by decide) r1
        exact ⟨a', c', w', by simpa using hrun, by simpa using h1, by simpa using h2, (Below.refl _ _).grown r2 (Nat.le_refl _) (fun q hq => by cases hq)⟩
theorem sl_map {w w' : World} {p b : Nat} {x l : List ByteArray} {a : Option Addr} (h : Sl strC 1 w a l) (hr : Rx w p b x) (k : Kp (fun i => i = b) w w') : Sl strC 1 w' a l := by
  intro i hi
  obtain ⟨b1, o, ha, hlt, hc⟩ := h i hi
  have hne : b1 ≠ b := by
    intro e
    subst e
    have h1 := hc 0 _ rfl
    obtain ⟨_, _, _, ks, f, ⟨D, ⟨es, clock, hb, _⟩, _⟩, _⟩ := hr
    unfold World.cell? at h1
    simp only [hb] at h1
    cases h1
  refine ⟨b1, o, ha, Nat.lt_of_lt_of_le hlt k.size, fun j v hv => ?_⟩
  rw [k.cell (p := ⟨b1, o + i * 1 + j, none⟩) hlt hne]
  exact hc j v hv
/-- A deed: texts count more, or less. -/
structure Dd where
  dr : Bool
  L : List ByteArray
  a : Option Addr
  c : Nat
def encD (d : Dd) : List Value := [.bool d.dr, .slice d.a d.L.length d.c]
def Dd.ok (w : World) (d : Dd) : Prop := d.L.length ≤ d.c ∧ Sl strC 1 w d.a d.L ∧ ∀ s ∈ d.L, s.size ≤ maxLen
set_option maxRecDepth 100000 in
theorem long_walk (a : Option Addr) (n cap : Nat) (w : World) (hl : 30 < n) : Calls Try.prog 3 #[.slice a n cap] w fun e w' => e = .returned (.bool true) ∧ Below w.heap.size w w' := by
  have g1 : decide ((30 : Int) < (n : Int)) = true := decide_eq_true (by omega)
  go_enter Try.func3, Try.ntmps3
  go_wp2_with fail
  refine (awake_any _).mono ?_
  rintro e w1 ⟨rfl, hb⟩
  go_wp2
  go_ret
  exact ⟨rfl, hb⟩
set_option maxRecDepth 100000 in
set_option maxHeartbeats 32000000 in
theorem plays_walk (a : Option Addr) (l : List Dd) (cap : Nat) (w : World) (hl : l.length ≤ 30) (hs : Sl encD 2 w a l) (hg : ∀ d ∈ l, d.ok w) :
    Calls Try.prog 3 #[.slice a l.length cap] w fun e w' => e = .returned (.bool true) ∧ Below w.heap.size w w' := by
  obtain ⟨i0, hi0, hz0, hz1, hz2⟩ := info_parts infoS
  have HS := Lib.hid hs; have HG := Lib.hid hg
  clear hs hg
  obtain ⟨n, hn⟩ : ∃ n, n = l.length := ⟨_, rfl⟩
  have HN := Lib.hid hn
  rw [← hn] at hl ⊢
  clear hn
  have g1 : decide ((30 : Int) < (n : Int)) = false := decide_eq_false (by omega)
  go_enter Try.func3, Try.ntmps3
  go_wp2_with fail
  refine (new_any _).mono ?_
  rintro e w1 ⟨rfl, hx, hb⟩
  obtain ⟨b, hbe⟩ : ∃ b, b = w.heap.size := ⟨_, rfl⟩
  obtain ⟨p, hpe⟩ : ∃ p, p = w.heap.size + 1 := ⟨_, rfl⟩
  rw [← hpe, ← hbe] at hx
  rw [← hpe]
  have HX0 := Lib.hid hx; have HB0 := Lib.hid hb; have HBE := Lib.hid hbe
  clear hx hb hbe hpe
  go_wp2
  clear g1
  go_loopw [4, 5] (fun vx i wr => ∃ (k : Nat) (x : List ByteArray) (ax : Option Addr) (cx : Nat), k ≤ n ∧ i = .int .i64 k ∧ vx = .slice ax x.length cx ∧ x.length ≤ cx ∧ x.length ≤ 10 * k ∧ Sl strC 1 wr ax x ∧ Rx wr p b x ∧ Below w.heap.size w wr) (fun _ i _ => n - (intOf i).toNat)
  case atStart => exact ⟨0, [], none, 0, by omega, rfl, rfl, by simp, by simp, Sl.nil _ _ _ _, HX0.out, HB0.out⟩
  case round =>
    obtain ⟨k, x, ax, cx, hk, rfl, rfl, hxc, hxl, hsx, hrx, hbw⟩ := hrel
    have HSX := Lib.hid hsx; have HRX := Lib.hid hrx; have HBW := Lib.hid hbw
    clear hsx hrx hbw
    by_cases hlt : k < n
    · have hkl : k < l.length := by rw [← HN.out]; exact hlt
      obtain ⟨b2, o2, rfl, hb2, hc2⟩ := HS.out k hkl
      have hd := HG.out l[k] (List.getElem_mem hkl)
      have HCC : Hid (∀ W, Below w.heap.size w W → W.cell? ⟨b2, o2 + k * 2, none⟩ = some (.bool l[k].dr) ∧ W.cell? ⟨b2, o2 + k * 2 + 1, none⟩ = some (.slice l[k].a l[k].L.length l[k].c)) := Lib.hid (fun W h =>
        ⟨(h.cell (p := ⟨b2, o2 + k * 2, none⟩) hb2).trans (hc2 0 _ rfl), (h.cell (p := ⟨b2, o2 + k * 2 + 1, none⟩) hb2).trans (hc2 1 _ rfl)⟩)
      clear hc2
      generalize l[k] = d at *
      obtain ⟨dr, L, da, dc⟩ := d
      unfold Dd.ok at hd
      dsimp only at hd HCC
      have hLc := hd.1
      have HSL := Lib.hid hd.2.1; have HGL := Lib.hid hd.2.2
      clear hd
      have gi : (k : Int) < (n : Int) := by omega
      obtain ⟨m, hm⟩ : ∃ m, m = L.length := ⟨_, rfl⟩
      have HM := Lib.hid hm
      rw [← hm] at HCC hLc
      clear hm
      by_cases hsz : m ≤ 10
      · have d1 : decide ((10 : Int) < (m : Int)) = false := decide_eq_false (by omega)
        have c0 := (HCC.out wr HBW.out).1; have c1 := (HCC.out wr HBW.out).2
        cases dr
        case' true =>
          go_wp2_with fail
          have T := less_any x L ax da cx dc wr HSX.out (HSL.out.keep HBW.out) hxc (by omega) (by rw [← HM.out]; omega)
          have hol := outL_len x L
          have T2 := fun w2 hr hs => drop_any (p := p) (b := b) (x := x) L da dc w2 hr hs (by rw [← HM.out]; omega) (by omega) HGL.out
          obtain ⟨X, hX⟩ : ∃ X, X = outL x L := ⟨_, rfl⟩
          obtain ⟨OK, hOK⟩ : ∃ OK, OK = okB x L := ⟨_, rfl⟩
          rw [← HM.out, ← hX, ← hOK] at T
          rw [← HM.out, ← hX, ← hOK] at T2
          rw [← hX] at hol
          have hbb : (OK != OK) = false := by simp
          have HT := Lib.hid T; have HT2 := Lib.hid T2; have HXE := Lib.hid hX; have HOE := Lib.hid hOK
          clear T T2 hX hOK
          refine HT.out.mono ?_
          rintro e w2 ⟨a2, c2, rfl, hXc, hs2, hb2'⟩
          have HB2 := Lib.hid (below_step HBW.out (Nat.le_refl _) hb2')
          have HS2 := Lib.hid hs2; have HR2 := Lib.hid (HRX.out.keep hb2')
          clear hs2 hb2' c0 c1
          have c1 := (HCC.out w2 HB2.out).2
          go_wp2_with fail
          refine (HT2.out w2 HR2.out (HSL.out.keep HB2.out)).mono ?_
          rintro e w3 ⟨rfl, hr3, hk3⟩
          have hXL : X.length ≤ 10 * (k + 1) := by omega
          have HR3 := Lib.hid hr3; have HS3 := Lib.hid (sl_map HS2.out HR2.out hk3)
          have HB3 : Hid (Below w.heap.size w w3) := Lib.hid (HB2.out.trans (hk3.below (B := w.heap.size) HB2.out.size (fun j hj => by have := HBE.out; omega)))
          clear hr3 hk3 c1 hol HT HT2 HXE HOE HB2 HS2 HR2
        case' false =>
          obtain ⟨a2, c2, w2, hrun, hXc, hs2, hb2'⟩ := append_texts wr.drew 26 x L ax da dc (Sl.keep HSX.out ((Below.refl _ wr).drew)) (Sl.keep (HSL.out.keep HBW.out) ((Below.refl _ wr).drew)) (by omega) (by rw [← HM.out]; omega)
          have T2 := fun w2 hr hs => add_any (p := p) (b := b) (x := x) L da dc w2 hr hs (by rw [← HM.out]; omega) (by omega) HGL.out
          have hXL : (x ++ L).length ≤ 10 * (k + 1) := by rw [List.length_append, ← HM.out]; omega
          rw [← HM.out] at hrun T2
          obtain ⟨X, hX⟩ : ∃ X, X = x ++ L := ⟨_, rfl⟩
          rw [← hX] at hrun hXc hs2 hXL T2
          have HRUN := Lib.hid hrun; have HT2 := Lib.hid T2
          have HB1 : Hid (Below w.heap.size w wr.drew) := Lib.hid HBW.out.drew
          have HB2 : Hid (Below w.heap.size w w2) := Lib.hid (below_step HB1.out (Nat.le_refl _) hb2')
          have HS2 := Lib.hid hs2; have HR2 : Hid (Rx w2 p b x) := Lib.hid ((HRX.out.keep ((Below.refl _ wr).drew)).keep hb2')
          have gx0 : (0 : Int) ≤ (x.length : Int) := by omega
          have hB0 := HBW.out
          clear hrun T2 hX hs2 hb2'
          go_wp2_with fail
          refine wp_region_held_drew (S := fun w' => Below w.heap.size w w') (by kernel_rfl) (by ((repeat (first | exact Below.refl _ _ | (with_reducible assumption) | refine Below.setCell ?_ (by simp <;> omega) _ | refine Below.alloc ?_ (by simp <;> omega) _ | refine Below.drew ?_ | refine below_drewN ?_ _)))) (fun hHeld => ?_)
          refine wpAnyH_take (i := 0) (oi := { dst := some 58, op := Go.Op.move (Go.Operand.tmp 4), type := 26, pos := "law.go:74", after := #[], guard := none }) (v := ?_) rfl (by kernel_rfl) (by kernel_rfl) (by kernel_rfl) (fun _ _ _ h => h) (Or.inl ⟨by rfl, ?_⟩) (by assumption) ?_
          (rotate_left; focus (intro wS hSw; have s0 := (HCC.out wS hSw).2; clear hSw; go_simp; (try rw [if_neg (by omega)]); try with_reducible rfl))
          (try simp only [Act.put, List.setIfInBounds_toArray, List.set_cons_zero, List.set_cons_succ])
          refine wpAnyH_take (i := 1) (oi := { dst := some 59, op := Go.Op.move (Go.Operand.tmp 4), type := 26, pos := "law.go:74", after := #[], guard := none }) (v := ?_) rfl (by kernel_rfl) (by kernel_rfl) (by kernel_rfl) (fun _ _ _ h => h) (Or.inl ⟨by rfl, ?_⟩) (by assumption) ?_
          (rotate_left; focus (intro wS hSw; have s0 := (HCC.out wS hSw).2; clear hSw; go_simp; (try rw [if_neg (by omega)]); try with_reducible rfl))
          (try simp only [Act.put, List.setIfInBounds_toArray, List.set_cons_zero, List.set_cons_succ])
          refine wpAnyH_take (i := 2) (oi := { dst := some 60, op := Go.Op.call { callee := Go.Callee.builtin Go.Builtin.len, args := #[Go.Operand.tmp 59], argTypes := #[26] }, type := 3, pos := "law.go:74", after := #[{ on := 1, ground := Go.Ground.data }], guard := none }) (v := ?_) rfl (by kernel_rfl) (by kernel_rfl) (by kernel_rfl) (fun _ _ _ h => h) (Or.inl ⟨by rfl, ?_⟩) (by assumption) ?_
          (rotate_left; focus (intro wS hSw; have s0 := (HCC.out wS hSw).2; clear hSw; go_simp; (try rw [if_neg (by omega)]); try with_reducible rfl))
          (try simp only [Act.put, List.setIfInBounds_toArray, List.set_cons_zero, List.set_cons_succ])
          refine wpAnyH_take (i := 3) (oi := { dst := some 61, op := Go.Op.move (Go.Operand.tmp 4), type := 26, pos := "law.go:74", after := #[], guard := none }) (v := ?_) rfl (by kernel_rfl) (by kernel_rfl) (by kernel_rfl) (fun _ _ _ h => h) (Or.inl ⟨by rfl, ?_⟩) (by assumption) ?_
          (rotate_left; focus (intro wS hSw; have s0 := (HCC.out wS hSw).2; clear hSw; go_simp; (try rw [if_neg (by omega)]); try with_reducible rfl))
          (try simp only [Act.put, List.setIfInBounds_toArray, List.set_cons_zero, List.set_cons_succ])
          refine wpAnyH_take (i := 4) (oi := { dst := some 62, op := Go.Op.call { callee := Go.Callee.builtin Go.Builtin.len, args := #[Go.Operand.tmp 61], argTypes := #[26] }, type := 3, pos := "law.go:74", after := #[{ on := 3, ground := Go.Ground.data }], guard := none }) (v := ?_) rfl (by kernel_rfl) (by kernel_rfl) (by kernel_rfl) (fun _ _ _ h => h) (Or.inl ⟨by rfl, ?_⟩) (by assumption) ?_
          (rotate_left; focus (intro wS hSw; have s0 := (HCC.out wS hSw).2; clear hSw; go_simp; (try rw [if_neg (by omega)]); try with_reducible rfl))
          (try simp only [Act.put, List.setIfInBounds_toArray, List.set_cons_zero, List.set_cons_succ])
          refine wpAnyH_take (i := 5) (oi := { dst := some 63, op := Go.Op.slice 26 (Go.Operand.tmp 58) none (some (Go.Operand.tmp 60)) (some (Go.Operand.tmp 62)), type := 26, pos := "law.go:74", after := #[{ on := 0, ground := Go.Ground.data }, { on := 2, ground := Go.Ground.data }, { on := 4, ground := Go.Ground.data }], guard := none }) (v := ?_) rfl (by kernel_rfl) (by kernel_rfl) (by kernel_rfl) (fun _ _ _ h => h) (Or.inl ⟨by rfl, ?_⟩) (by assumption) ?_
          (rotate_left; focus (intro wS hSw; have s0 := (HCC.out wS hSw).2; clear hSw; go_simp; (try rw [if_neg (by omega)]); try with_reducible rfl))
          (try simp only [Act.put, List.setIfInBounds_toArray, List.set_cons_zero, List.set_cons_succ])
          refine wpAnyH_take (i := 6) (oi := { dst := some 64, op := Go.Op.move (Go.Operand.tmp 0), type := 22, pos := "law.go:74", after := #[], guard := none }) (v := ?_) rfl (by kernel_rfl) (by kernel_rfl) (by kernel_rfl) (fun _ _ _ h => h) (Or.inl ⟨by rfl, ?_⟩) (by assumption) ?_
          (rotate_left; focus (intro wS hSw; have s0 := (HCC.out wS hSw).2; clear hSw; go_simp; (try rw [if_neg (by omega)]); try with_reducible rfl))
          (try simp only [Act.put, List.setIfInBounds_toArray, List.set_cons_zero, List.set_cons_succ])
          refine wpAnyH_take (i := 7) (oi := { dst := some 65, op := Go.Op.move (Go.Operand.tmp 5), type := 3, pos := "law.go:74", after := #[], guard := none }) (v := ?_) rfl (by kernel_rfl) (by kernel_rfl) (by kernel_rfl) (fun _ _ _ h => h) (Or.inl ⟨by rfl, ?_⟩) (by assumption) ?_
          (rotate_left; focus (intro wS hSw; have s0 := (HCC.out wS hSw).2; clear hSw; go_simp; (try rw [if_neg (by omega)]); try with_reducible rfl))
          (try simp only [Act.put, List.setIfInBounds_toArray, List.set_cons_zero, List.set_cons_succ])
          refine wpAnyH_take (i := 8) (oi := { dst := some 66, op := Go.Op.indexAddr 22 (Go.Operand.tmp 64) (Go.Operand.tmp 65), type := 0, pos := "law.go:74", after := #[{ on := 6, ground := Go.Ground.data }, { on := 7, ground := Go.Ground.data }], guard := none }) (v := ?_) rfl (by kernel_rfl) (by kernel_rfl) (by kernel_rfl) (fun _ _ _ h => h) (Or.inl ⟨by rfl, ?_⟩) (by assumption) ?_
          (rotate_left; focus (intro wS hSw; have s0 := (HCC.out wS hSw).2; clear hSw; go_simp; (try rw [if_neg (by omega)]); try with_reducible rfl))
          (try simp only [Act.put, List.setIfInBounds_toArray, List.set_cons_zero, List.set_cons_succ])
          refine wpAnyH_take (i := 9) (oi := { dst := some 67, op := Go.Op.fieldAddr 28 (Go.Operand.tmp 66) 1, type := 0, pos := "law.go:74", after := #[{ on := 8, ground := Go.Ground.data }], guard := none }) (v := ?_) rfl (by kernel_rfl) (by kernel_rfl) (by kernel_rfl) (fun _ _ _ h => h) (Or.inl ⟨by rfl, ?_⟩) (by assumption) ?_
          (rotate_left; focus (intro wS hSw; have s0 := (HCC.out wS hSw).2; clear hSw; go_simp; (try rw [if_neg (by omega)]); try with_reducible rfl))
          (try simp only [Act.put, List.setIfInBounds_toArray, List.set_cons_zero, List.set_cons_succ])
          refine wpAnyH_take (i := 10) (oi := { dst := some 68, op := Go.Op.load 26 (Go.Operand.tmp 67), type := 26, pos := "law.go:74", after := #[{ on := 9, ground := Go.Ground.data }], guard := none }) (v := ?_) rfl (by kernel_rfl) (by kernel_rfl) (by kernel_rfl) (fun _ _ _ h => h) (Or.inl ⟨by rfl, ?_⟩) (by assumption) ?_
          (rotate_left; focus (intro wS hSw; have s0 := (HCC.out wS hSw).2; clear hSw; go_simp; (try rw [if_neg (by omega)]); try with_reducible rfl))
          (try simp only [Act.put, List.setIfInBounds_toArray, List.set_cons_zero, List.set_cons_succ])
          refine wpAnyH_ready (rs := [11]) (by kernel_rfl) (by simp) ?_
          refine AllReadyH.cons (o := { dst := some 69, op := Go.Op.call { callee := Go.Callee.builtin Go.Builtin.append, args := #[Go.Operand.tmp 63, Go.Operand.tmp 68], argTypes := #[26, 26] }, type := 26, pos := "law.go:74", after := #[{ on := 5, ground := Go.Ground.data }, { on := 10, ground := Go.Ground.data }], guard := none }) rfl (fun K hK => ?_) AllReadyH.nil
          refine wp_append_ty rfl rfl rfl rfl HRUN.out ?_
          have hB2 := HB2.out
          refine hK.out _ _ (by ((repeat (first | exact Below.refl _ _ | (with_reducible assumption) | refine Below.setCell ?_ (by simp <;> omega) _ | refine Below.alloc ?_ (by simp <;> omega) _ | refine Below.drew ?_ | refine below_drewN ?_ _)))) (fun hHeld => ?_)
          clear hK K
          (try simp only [Act.put, List.setIfInBounds_toArray, List.set_cons_zero, List.set_cons_succ])
          refine wpAnyH_take (i := 12) (oi := { dst := some 4, op := Go.Op.assign (Go.Operand.tmp 69), type := 26, pos := "law.go:74", after := #[{ on := 11, ground := Go.Ground.data }, { on := 11, ground := Go.Ground.chain }, { on := 0, ground := Go.Ground.phase }, { on := 1, ground := Go.Ground.phase }, { on := 2, ground := Go.Ground.phase }, { on := 3, ground := Go.Ground.phase }, { on := 4, ground := Go.Ground.phase }, { on := 5, ground := Go.Ground.phase }, { on := 6, ground := Go.Ground.phase }, { on := 7, ground := Go.Ground.phase }, { on := 8, ground := Go.Ground.phase }, { on := 9, ground := Go.Ground.phase }, { on := 10, ground := Go.Ground.phase }, { on := 11, ground := Go.Ground.phase }], guard := none }) (v := ?_) rfl (by kernel_rfl) (by kernel_rfl) (by kernel_rfl) (fun _ _ _ h => h) (Or.inl ⟨by rfl, ?_⟩) (by assumption) ?_
          (rotate_left; focus (intro wS hSw; have s0 := (HCC.out wS hSw).2; clear hSw; go_simp; (try rw [if_neg (by omega)]); try with_reducible rfl))
          (try simp only [Act.put, List.setIfInBounds_toArray, List.set_cons_zero, List.set_cons_succ])
          refine wpAnyH_done (by kernel_rfl) ?_ _
          clear hB0 hB2 c0 c1
          have c1 := (HCC.out w2 HB2.out).2
          go_wp2_with fail
          refine (HT2.out w2 HR2.out (HSL.out.keep HB2.out)).mono ?_
          rintro e w3 ⟨rfl, hr3, hk3⟩
          have HR3 := Lib.hid hr3; have HS3 := Lib.hid (sl_map HS2.out HR2.out hk3)
          have HB3 : Hid (Below w.heap.size w w3) := Lib.hid (HB2.out.trans (hk3.below (B := w.heap.size) HB2.out.size (fun j hj => by have := HBE.out; omega)))
          clear hr3 hk3 c1 HT2 HRUN HB1 HB2 HS2 HR2
        all_goals
          as_aux_lemma =>
          have c1 := (HCC.out w3 HB3.out).2
          go_wp2
          go_loopw [8, 9] (fun vz i wr => ∃ j : Nat, i = .int .i64 j ∧ j ≤ m ∧ wr.ownsRow w3.heap.size 9 1 vz (zeroL X (L.take j)).length ((zeroL X (L.take j)).flatMap strC) ∧ Below w3.heap.size w3 wr) (fun _ i _ => m - (intOf i).toNat)
          case atStart => exact ⟨0, rfl, by omega, own_nil _ _ _ _, Below.refl _ _⟩
          case round =>
            obtain ⟨j, rfl, hj, hown, hbj⟩ := hrel
            have HO := Lib.hid hown; have HBJ := Lib.hid hbj
            clear hown hbj
            have HBW4 := Lib.hid (below_step HB3.out (Nat.le_refl _) HBJ.out)
            clear c1
            have c1 := (HCC.out _ HBW4.out).2
            by_cases hjt : j < m
            · as_aux_lemma =>
              have hjl : j < L.length := by rw [← HM.out]; exact hjt
              obtain ⟨b3, o3, rfl, hb3, hc3⟩ := sl_one HSL.out j hjl
              have HLC : Hid (∀ W, Below w.heap.size w W → W.cell? ⟨b3, o3 + j, none⟩ = some (.string L[j])) := Lib.hid (fun W h => (h.cell (p := ⟨b3, o3 + j, none⟩) hb3).trans hc3)
              have hgs := HGL.out L[j] (List.getElem_mem hjl)
              have HZS := Lib.hid (zeroL_snoc X L j hjl)
              have T1 := Lib.hid (count_any X L[j] a2 c2 _ (HS3.out.keep HBJ.out) (by omega))
              have T2 := Lib.hid (of_any L[j] _ (HR3.out.keep HBJ.out) hgs)
              have hzl := zeroL_len X (L.take j)
              have htl : (L.take j).length ≤ j := List.length_take_le _ _
              have hzk : (zeroL X (L.take j)).length ≤ j := by omega
              have c3 := HLC.out _ HBW4.out
              clear hc3 hzl htl
              obtain ⟨C, hC⟩ : ∃ C : Nat, C = cnt X L[j] := ⟨_, rfl⟩
              rw [← hC] at T1 T2 HZS
              clear hC
              generalize L[j] = s at *
              generalize zeroL X (L.take j) = Z at *
              have d3 : (j : Int) < (m : Int) := by omega
              have d4 : ((C : Int) != (C : Int)) = false := by simp
              have d5 : (0 : Int) ≤ (j : Int) := by omega
              by_cases hz : C = 0
              · have d2 : ((C : Int) == 0) = true := by simp; omega
                rw [if_pos hz] at HZS
                clear hz
                go_wp2_with fail
                refine T1.out.mono ?_
                rintro e x1 ⟨rfl, hx⟩
                subst hx
                go_wp2_with fail
                refine T2.out.mono ?_
                rintro e x2 ⟨rfl, hx⟩
                subst hx
                go_wp2_with (at_builtin; refine wpList_append_own _ rfl _ _ 26 rfl w3.heap.size 9 i0 (.string ByteArray.empty) 1 16 Try.underlying26 hi0 hz0 hz1 hz2 rfl (by decide) _ _ _ rfl (HO.out.alloc _) ⟨_, 0, none⟩ 1 1 [.string s] rfl rfl ?a1 ?a2 ?a3 ?a4 ?a5 ?_)
                case a1 => intro j u hj; exact new_cells _ _ _ j u hj
                case a2 => intro u hu; simp at hu; rcases hu with rfl; rfl
                case a3 => unfold maxLen; omega
                case a4 => omega
                case a5 => have h1 := HBJ.out.size; simp; omega
                intro v5 w5 hown5 hg5 _
                have HB5 : Hid (Below w3.heap.size w3 w5) := Lib.hid ((HBJ.out.alloc HBJ.out.size _).grown hg5 (by have := HBJ.out.size; simp; omega) (fun q hq => (HO.out.lt q hq).1))
                have HO5 : Hid (w5.ownsRow w3.heap.size 9 1 v5 (zeroL X (L.take (j + 1))).length ((zeroL X (L.take (j + 1))).flatMap strC)) := Lib.hid (by rw [HZS.out, List.length_append, List.flatMap_append]; exact hown5)
                clear hown5 hg5
                go_wp2
                go_roundw
                case rel => exact ⟨j + 1, by go_num, by omega, HO5.out, HB5.out⟩
                case measure => simp [intOf]; omega
              · have d2 : ((C : Int) == 0) = false := by simp; omega
                rw [if_neg hz] at HZS
                clear hz
                go_wp2_with fail
                refine T1.out.mono ?_
                rintro e x1 ⟨rfl, hx⟩
                subst hx
                go_wp2_with fail
                refine T2.out.mono ?_
                rintro e x2 ⟨rfl, hx⟩
                subst hx
                go_wp2
                go_roundw
                case rel => exact ⟨j + 1, by go_num, by omega, by rw [HZS.out]; exact HO.out, HBJ.out⟩
                case measure => simp [intOf]; omega
            · obtain rfl : j = m := by omega
              as_aux_lemma =>
              have HZE : Hid (zeroL X (L.take j) = zeroL X L) := Lib.hid (by rw [HM.out, List.take_length])
              have ho := HO.out
              rw [HZE.out] at ho
              obtain ⟨az, cz, rfl, hzc, hsz4⟩ := own_sl (enc := strC) (size := 1) (fun _ => rfl) (by decide) ho
              have HSZ := Lib.hid hsz4
              clear ho hsz4 HZE HO
              obtain ⟨wo, rfl⟩ : ∃ wo : World, wo = wr := ⟨_, rfl⟩
              have HSO := Lib.hid (HS3.out.keep HBJ.out); have HRO := Lib.hid (HR3.out.keep HBJ.out)
              go_wp2
              go_loopw [11, 12] (fun oc i wr => ∃ q : Nat, i = .int .i64 q ∧ q ≤ X.length ∧ oc = .int .i64 (onceK X q) ∧ Below wo.heap.size wo wr) (fun _ i _ => X.length - (intOf i).toNat)
              case atStart => exact ⟨0, rfl, by omega, rfl, Below.refl _ _⟩
              case round =>
                obtain ⟨q, rfl, hq, rfl, hbq⟩ := hrel
                have HBQ := Lib.hid hbq
                clear hbq
                by_cases hqt : q < X.length
                · as_aux_lemma =>
                  obtain ⟨b3, o3, rfl, hb3, hc3⟩ := sl_one HSO.out q hqt
                  have HLC : Hid (∀ W, Below wo.heap.size wo W → W.cell? ⟨b3, o3 + q, none⟩ = some (.string X[q])) := Lib.hid (fun W h => (h.cell (p := ⟨b3, o3 + q, none⟩) hb3).trans hc3)
                  have HOK1 : Hid (onceK X (q + 1) = if cnt (X.take q) X[q] = 0 then onceK X q + 1 else onceK X q) := Lib.hid (by rw [onceK, dif_pos hqt])
                  have T1 : Hid (∀ W, Below wo.heap.size wo W → Calls Try.prog 10 #[.slice (some ⟨b3, o3, none⟩) q c2, .string X[q]] W fun e w' => e = .returned (.int .i64 (cnt (X.take q) X[q])) ∧ w' = W) := Lib.hid (fun W h => by
                    have := count_any (X.take q) X[q] (some ⟨b3, o3, none⟩) c2 W (sl_take (HSO.out.keep h) q) (by rw [List.length_take]; omega)
                    rw [show (X.take q).length = q by rw [List.length_take]; omega] at this
                    exact this)
                  have hon := onceK_le X q
                  clear hc3
                  obtain ⟨C, hC⟩ : ∃ C : Nat, C = cnt (X.take q) X[q] := ⟨_, rfl⟩
                  obtain ⟨O, hO⟩ : ∃ O : Nat, O = onceK X q := ⟨_, rfl⟩
                  rw [← hC] at HOK1 T1
                  rw [← hO] at HOK1 hon ⊢
                  clear hC hO
                  generalize X[q] = s at *
                  obtain ⟨N, hN⟩ : ∃ N, N = X.length := ⟨_, rfl⟩
                  have HNX := Lib.hid hN
                  rw [← hN] at hq hqt hXc hXL ⊢
                  clear hN
                  have d3 : (q : Int) < (N : Int) := by omega
                  have d5 : (0 : Int) ≤ (q : Int) := by omega
                  have d6 : q ≤ c2 := by omega
                  have d7 : (q : Int) ≤ (c2 : Int) := by omega
                  have hB0 := HBQ.out
                  by_cases hz : C = 0
                  · have d2 : ((C : Int) == 0) = true := by simp; omega
                    rw [if_pos hz] at HOK1
                    clear hz
                    go_wp2
                    refine wp_region_held_drew (S := fun w' => Below wo.heap.size wo w') (by kernel_rfl) (by ((repeat (first | exact Below.refl _ _ | (with_reducible assumption) | refine Below.setCell ?_ (by simp <;> omega) _ | refine Below.alloc ?_ (by simp <;> omega) _ | refine Below.drew ?_ | refine below_drewN ?_ _)))) (fun hHeld => ?_)
                    refine wpAnyH_take (i := 0) (oi := { dst := some 129, op := Go.Op.move (Go.Operand.tmp 4), type := 26, pos := "law.go:91", after := #[], guard := none }) (v := ?_) rfl (by kernel_rfl) (by kernel_rfl) (by kernel_rfl) (fun _ _ _ h => h) (Or.inl ⟨by rfl, ?_⟩) (by assumption) ?_
                    (rotate_left; focus (intro wS hSw; have s0 := HLC.out wS hSw; clear hSw; go_simp; (try rw [if_neg (by omega)]); try with_reducible rfl))
                    (try simp only [Act.put, List.setIfInBounds_toArray, List.set_cons_zero, List.set_cons_succ])
                    refine wpAnyH_take (i := 1) (oi := { dst := some 130, op := Go.Op.move (Go.Operand.tmp 12), type := 3, pos := "law.go:91", after := #[], guard := none }) (v := ?_) rfl (by kernel_rfl) (by kernel_rfl) (by kernel_rfl) (fun _ _ _ h => h) (Or.inl ⟨by rfl, ?_⟩) (by assumption) ?_
                    (rotate_left; focus (intro wS hSw; have s0 := HLC.out wS hSw; clear hSw; go_simp; (try rw [if_neg (by omega)]); try with_reducible rfl))
                    (try simp only [Act.put, List.setIfInBounds_toArray, List.set_cons_zero, List.set_cons_succ])
                    refine wpAnyH_take (i := 2) (oi := { dst := some 131, op := Go.Op.slice 26 (Go.Operand.tmp 129) none (some (Go.Operand.tmp 130)) none, type := 26, pos := "law.go:91", after := #[{ on := 0, ground := Go.Ground.data }, { on := 1, ground := Go.Ground.data }], guard := none }) (v := ?_) rfl (by kernel_rfl) (by kernel_rfl) (by kernel_rfl) (fun _ _ _ h => h) (Or.inl ⟨by rfl, ?_⟩) (by assumption) ?_
                    (rotate_left; focus (intro wS hSw; have s0 := HLC.out wS hSw; clear hSw; go_simp; (try rw [if_neg (by omega)]); try with_reducible rfl))
                    (try simp only [Act.put, List.setIfInBounds_toArray, List.set_cons_zero, List.set_cons_succ])
                    refine wpAnyH_take (i := 3) (oi := { dst := some 132, op := Go.Op.move (Go.Operand.tmp 4), type := 26, pos := "law.go:91", after := #[], guard := none }) (v := ?_) rfl (by kernel_rfl) (by kernel_rfl) (by kernel_rfl) (fun _ _ _ h => h) (Or.inl ⟨by rfl, ?_⟩) (by assumption) ?_
                    (rotate_left; focus (intro wS hSw; have s0 := HLC.out wS hSw; clear hSw; go_simp; (try rw [if_neg (by omega)]); try with_reducible rfl))
                    (try simp only [Act.put, List.setIfInBounds_toArray, List.set_cons_zero, List.set_cons_succ])
                    refine wpAnyH_take (i := 4) (oi := { dst := some 133, op := Go.Op.move (Go.Operand.tmp 12), type := 3, pos := "law.go:91", after := #[], guard := none }) (v := ?_) rfl (by kernel_rfl) (by kernel_rfl) (by kernel_rfl) (fun _ _ _ h => h) (Or.inl ⟨by rfl, ?_⟩) (by assumption) ?_
                    (rotate_left; focus (intro wS hSw; have s0 := HLC.out wS hSw; clear hSw; go_simp; (try rw [if_neg (by omega)]); try with_reducible rfl))
                    (try simp only [Act.put, List.setIfInBounds_toArray, List.set_cons_zero, List.set_cons_succ])
                    refine wpAnyH_take (i := 5) (oi := { dst := some 134, op := Go.Op.indexAddr 26 (Go.Operand.tmp 132) (Go.Operand.tmp 133), type := 0, pos := "law.go:91", after := #[{ on := 3, ground := Go.Ground.data }, { on := 4, ground := Go.Ground.data }], guard := none }) (v := ?_) rfl (by kernel_rfl) (by kernel_rfl) (by kernel_rfl) (fun _ _ _ h => h) (Or.inl ⟨by rfl, ?_⟩) (by assumption) ?_
                    (rotate_left; focus (intro wS hSw; have s0 := HLC.out wS hSw; clear hSw; go_simp; (try rw [if_neg (by omega)]); try with_reducible rfl))
                    (try simp only [Act.put, List.setIfInBounds_toArray, List.set_cons_zero, List.set_cons_succ])
                    refine wpAnyH_take (i := 6) (oi := { dst := some 135, op := Go.Op.load 9 (Go.Operand.tmp 134), type := 9, pos := "law.go:91", after := #[{ on := 5, ground := Go.Ground.data }], guard := none }) (v := ?_) rfl (by kernel_rfl) (by kernel_rfl) (by kernel_rfl) (fun _ _ _ h => h) (Or.inl ⟨by rfl, ?_⟩) (by assumption) ?_
                    (rotate_left; focus (intro wS hSw; have s0 := HLC.out wS hSw; clear hSw; go_simp; (try rw [if_neg (by omega)]); try with_reducible rfl))
                    (try simp only [Act.put, List.setIfInBounds_toArray, List.set_cons_zero, List.set_cons_succ])
                    refine wpAnyH_ready (rs := [7]) (by kernel_rfl) (by simp) ?_
                    refine AllReadyH.cons (o := { dst := some 136, op := Go.Op.call { callee := Go.Callee.value (Go.Operand.func 10), args := #[Go.Operand.tmp 131, Go.Operand.tmp 135], argTypes := #[26, 9] }, type := 3, pos := "law.go:91", after := #[{ on := 2, ground := Go.Ground.data }, { on := 6, ground := Go.Ground.data }], guard := none }) rfl (fun K hK => ?_) AllReadyH.nil
                    go_simp
                    refine (T1.out _ hHeld).mono ?_
                    rintro e x1 ⟨rfl, hx⟩
                    subst hx
                    (try go_wp2_with fail)
                    refine hK.out _ _ (by ((repeat (first | exact Below.refl _ _ | (with_reducible assumption) | refine Below.setCell ?_ (by simp <;> omega) _ | refine Below.alloc ?_ (by simp <;> omega) _ | refine Below.drew ?_ | refine below_drewN ?_ _)))) (fun hHeld => ?_)
                    clear hK K
                    (try simp only [Act.put, List.setIfInBounds_toArray, List.set_cons_zero, List.set_cons_succ])
                    refine wpAnyH_take (i := 8) (oi := { dst := some 137, op := Go.Op.binOp Go.BinOp.eql 3 (Go.Operand.tmp 136) (Go.Operand.const (Go.Value.int Go.IntKind.i64 0)) 3, type := 4, pos := "law.go:91", after := #[{ on := 7, ground := Go.Ground.data }], guard := none }) (v := ?_) rfl (by kernel_rfl) (by kernel_rfl) (by kernel_rfl) (fun _ _ _ h => h) (Or.inl ⟨by rfl, ?_⟩) (by assumption) ?_
                    (rotate_left; focus (intro wS hSw; have s0 := HLC.out wS hSw; clear hSw; go_simp; (try rw [if_neg (by omega)]); try with_reducible rfl))
                    (try simp only [Act.put, List.setIfInBounds_toArray, List.set_cons_zero, List.set_cons_succ])
                    refine wpAnyH_done (by kernel_rfl) ?_ _
                    have HB1 : Hid (Below wo.heap.size wo wr.drew) := Lib.hid hB0.drew
                    clear hB0
                    go_wp2
                    go_roundw
                    case rel => exact ⟨q + 1, by go_num, by omega, by rw [HOK1.out]; go_num, HB1.out⟩
                    case measure => simp [intOf]; omega
                  · have d2 : ((C : Int) == 0) = false := by simp; omega
                    rw [if_neg hz] at HOK1
                    clear hz
                    go_wp2
                    refine wp_region_held_drew (S := fun w' => Below wo.heap.size wo w') (by kernel_rfl) (by ((repeat (first | exact Below.refl _ _ | (with_reducible assumption) | refine Below.setCell ?_ (by simp <;> omega) _ | refine Below.alloc ?_ (by simp <;> omega) _ | refine Below.drew ?_ | refine below_drewN ?_ _)))) (fun hHeld => ?_)
                    refine wpAnyH_take (i := 0) (oi := { dst := some 129, op := Go.Op.move (Go.Operand.tmp 4), type := 26, pos := "law.go:91", after := #[], guard := none }) (v := ?_) rfl (by kernel_rfl) (by kernel_rfl) (by kernel_rfl) (fun _ _ _ h => h) (Or.inl ⟨by rfl, ?_⟩) (by assumption) ?_
                    (rotate_left; focus (intro wS hSw; have s0 := HLC.out wS hSw; clear hSw; go_simp; (try rw [if_neg (by omega)]); try with_reducible rfl))
                    (try simp only [Act.put, List.setIfInBounds_toArray, List.set_cons_zero, List.set_cons_succ])
                    refine wpAnyH_take (i := 1) (oi := { dst := some 130, op := Go.Op.move (Go.Operand.tmp 12), type := 3, pos := "law.go:91", after := #[], guard := none }) (v := ?_) rfl (by kernel_rfl) (by kernel_rfl) (by kernel_rfl) (fun _ _ _ h => h) (Or.inl ⟨by rfl, ?_⟩) (by assumption) ?_
                    (rotate_left; focus (intro wS hSw; have s0 := HLC.out wS hSw; clear hSw; go_simp; (try rw [if_neg (by omega)]); try with_reducible rfl))
                    (try simp only [Act.put, List.setIfInBounds_toArray, List.set_cons_zero, List.set_cons_succ])
                    refine wpAnyH_take (i := 2) (oi := { dst := some 131, op := Go.Op.slice 26 (Go.Operand.tmp 129) none (some (Go.Operand.tmp 130)) none, type := 26, pos := "law.go:91", after := #[{ on := 0, ground := Go.Ground.data }, { on := 1, ground := Go.Ground.data }], guard := none }) (v := ?_) rfl (by kernel_rfl) (by kernel_rfl) (by kernel_rfl) (fun _ _ _ h => h) (Or.inl ⟨by rfl, ?_⟩) (by assumption) ?_
                    (rotate_left; focus (intro wS hSw; have s0 := HLC.out wS hSw; clear hSw; go_simp; (try rw [if_neg (by omega)]); try with_reducible rfl))
                    (try simp only [Act.put, List.setIfInBounds_toArray, List.set_cons_zero, List.set_cons_succ])
                    refine wpAnyH_take (i := 3) (oi := { dst := some 132, op := Go.Op.move (Go.Operand.tmp 4), type := 26, pos := "law.go:91", after := #[], guard := none }) (v := ?_) rfl (by kernel_rfl) (by kernel_rfl) (by kernel_rfl) (fun _ _ _ h => h) (Or.inl ⟨by rfl, ?_⟩) (by assumption) ?_
                    (rotate_left; focus (intro wS hSw; have s0 := HLC.out wS hSw; clear hSw; go_simp; (try rw [if_neg (by omega)]); try with_reducible rfl))
                    (try simp only [Act.put, List.setIfInBounds_toArray, List.set_cons_zero, List.set_cons_succ])
                    refine wpAnyH_take (i := 4) (oi := { dst := some 133, op := Go.Op.move (Go.Operand.tmp 12), type := 3, pos := "law.go:91", after := #[], guard := none }) (v := ?_) rfl (by kernel_rfl) (by kernel_rfl) (by kernel_rfl) (fun _ _ _ h => h) (Or.inl ⟨by rfl, ?_⟩) (by assumption) ?_
                    (rotate_left; focus (intro wS hSw; have s0 := HLC.out wS hSw; clear hSw; go_simp; (try rw [if_neg (by omega)]); try with_reducible rfl))
                    (try simp only [Act.put, List.setIfInBounds_toArray, List.set_cons_zero, List.set_cons_succ])
                    refine wpAnyH_take (i := 5) (oi := { dst := some 134, op := Go.Op.indexAddr 26 (Go.Operand.tmp 132) (Go.Operand.tmp 133), type := 0, pos := "law.go:91", after := #[{ on := 3, ground := Go.Ground.data }, { on := 4, ground := Go.Ground.data }], guard := none }) (v := ?_) rfl (by kernel_rfl) (by kernel_rfl) (by kernel_rfl) (fun _ _ _ h => h) (Or.inl ⟨by rfl, ?_⟩) (by assumption) ?_
                    (rotate_left; focus (intro wS hSw; have s0 := HLC.out wS hSw; clear hSw; go_simp; (try rw [if_neg (by omega)]); try with_reducible rfl))
                    (try simp only [Act.put, List.setIfInBounds_toArray, List.set_cons_zero, List.set_cons_succ])
                    refine wpAnyH_take (i := 6) (oi := { dst := some 135, op := Go.Op.load 9 (Go.Operand.tmp 134), type := 9, pos := "law.go:91", after := #[{ on := 5, ground := Go.Ground.data }], guard := none }) (v := ?_) rfl (by kernel_rfl) (by kernel_rfl) (by kernel_rfl) (fun _ _ _ h => h) (Or.inl ⟨by rfl, ?_⟩) (by assumption) ?_
                    (rotate_left; focus (intro wS hSw; have s0 := HLC.out wS hSw; clear hSw; go_simp; (try rw [if_neg (by omega)]); try with_reducible rfl))
                    (try simp only [Act.put, List.setIfInBounds_toArray, List.set_cons_zero, List.set_cons_succ])
                    refine wpAnyH_ready (rs := [7]) (by kernel_rfl) (by simp) ?_
                    refine AllReadyH.cons (o := { dst := some 136, op := Go.Op.call { callee := Go.Callee.value (Go.Operand.func 10), args := #[Go.Operand.tmp 131, Go.Operand.tmp 135], argTypes := #[26, 9] }, type := 3, pos := "law.go:91", after := #[{ on := 2, ground := Go.Ground.data }, { on := 6, ground := Go.Ground.data }], guard := none }) rfl (fun K hK => ?_) AllReadyH.nil
                    go_simp
                    refine (T1.out _ hHeld).mono ?_
                    rintro e x1 ⟨rfl, hx⟩
                    subst hx
                    (try go_wp2_with fail)
                    refine hK.out _ _ (by ((repeat (first | exact Below.refl _ _ | (with_reducible assumption) | refine Below.setCell ?_ (by simp <;> omega) _ | refine Below.alloc ?_ (by simp <;> omega) _ | refine Below.drew ?_ | refine below_drewN ?_ _)))) (fun hHeld => ?_)
                    clear hK K
                    (try simp only [Act.put, List.setIfInBounds_toArray, List.set_cons_zero, List.set_cons_succ])
                    refine wpAnyH_take (i := 8) (oi := { dst := some 137, op := Go.Op.binOp Go.BinOp.eql 3 (Go.Operand.tmp 136) (Go.Operand.const (Go.Value.int Go.IntKind.i64 0)) 3, type := 4, pos := "law.go:91", after := #[{ on := 7, ground := Go.Ground.data }], guard := none }) (v := ?_) rfl (by kernel_rfl) (by kernel_rfl) (by kernel_rfl) (fun _ _ _ h => h) (Or.inl ⟨by rfl, ?_⟩) (by assumption) ?_
                    (rotate_left; focus (intro wS hSw; have s0 := HLC.out wS hSw; clear hSw; go_simp; (try rw [if_neg (by omega)]); try with_reducible rfl))
                    (try simp only [Act.put, List.setIfInBounds_toArray, List.set_cons_zero, List.set_cons_succ])
                    refine wpAnyH_done (by kernel_rfl) ?_ _
                    have HB1 : Hid (Below wo.heap.size wo wr.drew) := Lib.hid hB0.drew
                    clear hB0
                    go_wp2
                    go_roundw
                    case rel => exact ⟨q + 1, by go_num, by omega, by rw [HOK1.out], HB1.out⟩
                    case measure => simp [intOf]; omega
                · obtain rfl : q = X.length := by omega
                  as_aux_lemma =>
                  have HBQ2 := Lib.hid (below_step HBW4.out (Nat.le_refl _) HBQ.out)
                  have HRQ := Lib.hid (HRO.out.keep HBQ.out)
                  have HSQ := Lib.hid (HSO.out.keep HBQ.out)
                  have HZQ := Lib.hid (HSZ.out.keep HBQ.out)
                  have T1 := Lib.hid (zero_any L da dc _ HRQ.out (HSL.out.keep HBQ2.out) (by rw [← HM.out]; omega) HGL.out)
                  rw [← HM.out] at T1
                  have hzl := zeroL_len X L
                  rw [← HM.out] at hzl
                  have hon := onceK_le X X.length
                  clear c1
                  have c1 := (HCC.out _ HBQ2.out).2
                  obtain ⟨O, hO⟩ : ∃ O : Nat, O = onceK X X.length := ⟨_, rfl⟩
                  have HOE := Lib.hid hO
                  obtain ⟨Z, hZ⟩ : ∃ Z, Z = zeroL X L := ⟨_, rfl⟩
                  rw [← hZ] at T1 HZQ hzl ⊢
                  rw [← hO] at hon ⊢
                  clear hO hZ
                  have d4 : ((O : Int) != (O : Int)) = false := by simp
                  go_wp2_with fail
                  refine T1.out.mono ?_
                  rintro e w6 ⟨v6, rfl, ho6, hb6⟩
                  obtain ⟨a6, c6, rfl, _, hs6⟩ := own_sl (enc := strC) (size := 1) (fun _ => rfl) (by decide) ho6
                  have HB6 := Lib.hid (below_step HBQ2.out (Nat.le_refl _) hb6)
                  have HR6 := Lib.hid (HRQ.out.keep hb6)
                  have HS6 := Lib.hid (HSQ.out.keep hb6)
                  have T2 := Lib.hid (texts_eq Z Z a6 az c6 cz w6 hs6 (HZQ.out.keep hb6) (by omega))
                  rw [decide_eq_true rfl] at T2
                  clear ho6 hs6 hb6
                  go_wp2_with fail
                  refine T2.out.mono ?_
                  rintro e w7 ⟨rfl, nq, rfl⟩
                  have HB7 := Lib.hid (below_drewN' HB6.out nq)
                  have HR7 : Hid (Rx (w6.drewN nq) p b X) := Lib.hid (HR6.out.keep (below_drewN' (Below.refl _ _) nq))
                  have HS7 := Lib.hid (sl_draws HS6.out nq)
                  have T3 := Lib.hid (len_any _ HR7.out)
                  rw [← HOE.out] at T3
                  go_wp2_with fail
                  refine T3.out.mono ?_
                  rintro e w8 ⟨rfl, hx⟩
                  subst hx
                  go_wp2
                  go_roundw
                  case rel => exact ⟨k + 1, X, a2, c2, by omega, by go_num, rfl, hXc, hXL, HS7.out, HR7.out, HB7.out⟩
                  case measure => simp [intOf]; omega
      · have d1 : decide ((10 : Int) < (m : Int)) = true := decide_eq_true (by omega)
        have c0 := (HCC.out wr HBW.out).1; have c1 := (HCC.out wr HBW.out).2
        go_wp2
        go_roundw
        case rel => exact ⟨k + 1, x, ax, cx, by omega, by go_num, rfl, hxc, by omega, HSX.out, HRX.out, HBW.out⟩
        case measure => simp [intOf]; omega
    · obtain rfl : k = n := by omega
      go_wp2_with fail
      refine (awake_any _).mono ?_
      rintro e w2 ⟨rfl, hb⟩
      have HB2 := Lib.hid (below_step HBW.out (Nat.le_refl _) hb)
      clear hb
      go_wp2
      go_ret
      exact ⟨rfl, HB2.out⟩
end Go.Proofs.Ytopifdcokfdhlaa

