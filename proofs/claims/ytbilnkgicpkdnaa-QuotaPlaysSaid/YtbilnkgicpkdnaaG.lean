/-
  The walk of QuotaPlays: it returns true, for every input, without condition.
-/
import Derived.Test.YtbilnkgicpkdnaaF
set_option linter.unusedVariables false
set_option linter.unusedSimpArgs false
namespace Go.Proofs.Ytbilnkgicpkdnaa
open Go.RowKit
theorem Sl.drew2 {α : Type} {enc : α → List Value} {n : Nat} {w : World} {a : Option Addr} {xs : List α} (h : Sl enc n w a xs) : Sl enc n w.drew a xs := h
theorem info29 : (Try.prog.info? 29).map (fun i => (i.zero, i.size, i.bytes)) = some (some (.agg #[.bool false, .string ByteArray.empty, .int .i64 0]), 3, 32) := by kernel_rfl
set_option maxRecDepth 100000 in
theorem long_walk (most : Int) (a : Option Addr) (n cap : Nat) (w : World) (hl : 50 < n) :
    Calls Try.prog 3 #[.int .i64 most, .slice a n cap] w fun e w' => e = .returned (.bool true) ∧ Below w.heap.size w w' := by
  have g1 : decide ((50 : Int) < (n : Int)) = true := decide_eq_true (by omega)
  go_enter Try.func3, Try.ntmps3
  go_wp2_with fail
  refine (awake_any _).mono ?_
  rintro e w1 ⟨rfl, hb⟩
  go_wp2
  go_ret
  exact ⟨rfl, hb⟩
set_option maxRecDepth 100000 in
theorem bad_walk (most : Int) (a : Option Addr) (n cap : Nat) (w : World) (hl : n ≤ 50) (h : most < 0 ∨ 9007199254740992 < most) :
    Calls Try.prog 3 #[.int .i64 most, .slice a n cap] w fun e w' => e = .returned (.bool true) ∧ Below w.heap.size w w' := by
  have g1 : decide ((50 : Int) < (n : Int)) = false := decide_eq_false (by omega)
  by_cases h1 : most < 0
  · have g2 : decide (most < 0) = true := decide_eq_true h1
    go_enter Try.func3, Try.ntmps3
    go_wp2_with fail
    refine (bad_any most _ h).mono ?_
    rintro e w1 ⟨rfl, rfl⟩
    go_wp2_with fail
    refine (awake_any _).mono ?_
    rintro e w2 ⟨rfl, hb⟩
    go_wp2
    go_ret
    exact ⟨rfl, hb⟩
  · have g2 : decide (most < 0) = false := decide_eq_false h1
    have g3 : decide (9007199254740992 < most) = true := decide_eq_true (by omega)
    go_enter Try.func3, Try.ntmps3
    go_wp2_with fail
    refine (bad_any most _ h).mono ?_
    rintro e w1 ⟨rfl, rfl⟩
    go_wp2_with fail
    refine (awake_any _).mono ?_
    rintro e w2 ⟨rfl, hb⟩
    go_wp2
    go_ret
    exact ⟨rfl, hb⟩
set_option maxRecDepth 100000 in
set_option maxHeartbeats 16000000 in
theorem plays_walk (most : Int) (a : Option Addr) (l : List Deed) (cap : Nat) (w : World) (hl : l.length ≤ 50) (h0 : 0 ≤ most) (h1 : most ≤ 9007199254740992) (hs : Sl encD 3 w a l) (hi : ∀ d ∈ l, d.2.1.size ≤ maxLen ∧ -9223372036854775808 ≤ d.2.2 ∧ d.2.2 ≤ 9223372036854775807) :
    Calls Try.prog 3 #[.int .i64 most, .slice a l.length cap] w fun e w' => e = .returned (.bool true) ∧ Below w.heap.size w w' := by
  have HS := Lib.hid hs; have HI := Lib.hid hi
  clear hs hi
  obtain ⟨i0, hi, hz0, hz1, hz2⟩ := info_parts info29
  have g1 : decide ((50 : Int) < (l.length : Int)) = false := decide_eq_false (by omega)
  have g2 : decide (most < 0) = false := decide_eq_false (by omega)
  have g3 : decide (9007199254740992 < most) = false := decide_eq_false (by omega)
  go_enter Try.func3, Try.ntmps3
  go_wp2_with fail
  refine (new_any most _ h0 h1).mono ?_
  rintro e w1 ⟨rfl, hq, hb⟩
  have hz : w.heap.size + 1 < w1.heap.size := hq.1.1
  have HW := Lib.hid (show w.heap.size ≤ w.heap.size + 1 ∧ w.heap.size + 1 < w1.heap.size ∧ w.heap.size ≤ w.heap.size ∧ w.heap.size < w1.heap.size from ⟨by omega, hz, by omega, by omega⟩)
  clear hz
  generalize hpe : w.heap.size + 1 = p at hq HW ⊢
  obtain ⟨b, hbe⟩ : ∃ b, b = w.heap.size := ⟨_, rfl⟩
  have hq2 : Qs w1 p b 0 (ofL []) (most - total []) := by rw [hbe, show ofL [] = fun _ => 0 from rfl, show most - total [] = most by simp [total]]; exact hq
  have HW2 : Hid (w.heap.size ≤ p ∧ p < w1.heap.size ∧ w.heap.size ≤ b ∧ b < w1.heap.size) := by rw [hbe]; exact HW
  have HQ0 := Lib.hid hq2; have HB0 := Lib.hid hb
  clear hq hq2 hb hpe HW hbe g2 g3
  have g2 : decide (most < 0) = false := decide_eq_false (by omega)
  have g3 : decide (9007199254740992 < most) = false := decide_eq_false (by omega)
  go_wp2
  clear g2 g3
  go_loopw [7, 8, 9] (fun lf dn i wr => ∃ (k : Nat) (done : List Deed) (kk : Nat), k ≤ l.length ∧ i = .int .i64 k ∧ lf = .int .i64 (most - total done) ∧ done.length ≤ k ∧ kk ≤ k ∧ (∀ d ∈ done, 1 ≤ d.2.2 ∧ d.2.2 ≤ 9007199254740992) ∧ (∀ s, 0 ≤ ofL done s) ∧ 0 ≤ most - total done ∧
    wr.ownsRow w1.heap.size 29 3 dn done.length (done.flatMap encD) ∧ Qs wr p b kk (ofL done) (most - total done) ∧ Below w.heap.size w wr ∧ w1.heap.size ≤ wr.heap.size) (fun _ _ i _ => l.length - (intOf i).toNat)
  case atStart => exact ⟨0, [], 0, by omega, rfl, by simp [total], Nat.le_refl _, Nat.le_refl _, by simp, fun s => Int.le_refl _, by simpa [total] using h0, own_nil _ _ _ _, HQ0.out, HB0.out, Nat.le_refl _⟩
  case round =>
    obtain ⟨k, done, kk, hk, rfl, rfl, hdl, hkk, hdb, hpos, hlf, hown, hq, hbw, hws⟩ := hrel
    have hfs : ∀ s, ofL done s ≤ 9007199254740992 := fun s => by
      have := of_le_total done hpos s
      omega
    have htp := total_pos _ done (Nat.le_refl _) hpos
    have HQ := Lib.hid hq; have HO := Lib.hid hown; have HB := Lib.hid hbw; have HDB := Lib.hid hdb; have HPOS := Lib.hid hpos; have HFS := Lib.hid hfs; have HWS := Lib.hid hws; have HDL := Lib.hid hdl
    clear hq hown hbw hdb hpos hfs hws hdl
    by_cases hlt : k < l.length
    · obtain ⟨b2, o2, rfl, _, hc2⟩ := HS.out.keep HB0.out k hlt
      clear hc2
      have hsl := Sl.keep HS.out (w' := wr) (Kp.below (S := fun i => w.heap.size ≤ i) (Kp.of_below HB.out (fun _ _ h => h)) (Nat.le_refl _) (fun _ h => h))
      obtain ⟨b3, o3, he3, _, hc2⟩ := hsl k hlt
      obtain ⟨rfl, rfl⟩ : b2 = b3 ∧ o2 = o3 := by simpa using he3
      have gi : (k : Int) < (l.length : Int) := by omega
      have hd := HI.out l[k] (List.getElem_mem hlt)
      have c0 : wr.cell? ⟨b2, o2 + k * 3, none⟩ = some (.bool l[k].1) := hc2 0 _ rfl
      have c1 : wr.cell? ⟨b2, o2 + k * 3 + 1, none⟩ = some (.string l[k].2.1) := hc2 1 _ rfl
      have c2 : wr.cell? ⟨b2, o2 + k * 3 + 2, none⟩ = some (.int .i64 l[k].2.2) := hc2 2 _ rfl
      clear hc2 he3
      have HSL := Lib.hid hsl; clear hsl
      obtain ⟨ad, cd, rfl, _, hsd⟩ := own_sl (size := 3) (fun _ => rfl) (by decide) HO.out
      have HSD := Lib.hid hsd; clear hsd
      have HEQ : Hid (∃ d, d = l[k]) := Lib.hid ⟨_, rfl⟩
      have HLK : Hid (∀ (wx : World), Below w.heap.size w wx → wx.cell? ⟨b2, o2 + k * 3, none⟩ = some (.bool l[k].1) ∧ wx.cell? ⟨b2, o2 + k * 3 + 1, none⟩ = some (.string l[k].2.1) ∧ wx.cell? ⟨b2, o2 + k * 3 + 2, none⟩ = some (.int .i64 l[k].2.2)) := Lib.hid (fun wx hx => by
        obtain ⟨b3, o3, he3, _, hc3⟩ := Sl.keep HS.out (w' := wx) (Kp.below (S := fun i => w.heap.size ≤ i) (Kp.of_below hx (fun _ _ h => h)) (Nat.le_refl _) (fun _ h => h)) k hlt
        obtain ⟨rfl, rfl⟩ : b2 = b3 ∧ o2 = o3 := by simpa using he3
        exact ⟨hc3 0 _ rfl, hc3 1 _ rfl, hc3 2 _ rfl⟩)
      clear HEQ HSL
      generalize l[k] = d at *
      obtain ⟨gv, who, n⟩ := d
      dsimp only at c0 c1 c2 hd HLK
      by_cases hws : who.size ≤ 100
      · have d1 : decide ((100 : Int) < (who.size : Int)) = false := decide_eq_false (by omega)
        have HF := Lib.hid (HFS.out who); have HF0 := Lib.hid (HPOS.out who)
        obtain ⟨L, hL⟩ : ∃ L, L = most - total done := ⟨_, rfl⟩
        rw [← hL] at hlf HQ ⊢
        have HL : Hid (most - total done = L) := Lib.hid hL.symm
        have hlb : L ≤ 9007199254740992 := by omega
        clear hL
        by_cases hlow : 1 ≤ n
        · cases gv with
          | true =>
            by_cases hno : n ≤ ofL done who
            · as_aux_lemma =>
                have d2 : decide ((1 : Int) ≤ n) = true := decide_eq_true hlow
                have d4 : decide (n ≤ ofL done who) = true := decide_eq_true hno
                go_wp2_with fail
                refine (law_of done who _ _ _ HSD.out (by have := HDL.out; omega) HDB.out).mono ?_
                rintro e x0 ⟨rfl, hx⟩
                obtain rfl : wr = x0 := hx.symm
                clear hx
                go_wp2_with fail
                have hP0 : wr.drew.cell? ⟨b2, o2 + k * 3 + 1, none⟩ = some (.string who) ∧ wr.drew.cell? ⟨b2, o2 + k * 3 + 2, none⟩ = some (.int .i64 n) := ⟨c1, c2⟩
                refine wp_region_held_drew (S := fun w' => w'.cell? ⟨b2, o2 + k * 3 + 1, none⟩ = some (.string who) ∧ w'.cell? ⟨b2, o2 + k * 3 + 2, none⟩ = some (.int .i64 n)) (by kernel_rfl) (by (first | exact hP0 | exact hP1)) (fun hHeld => ?_)
                refine wpAnyH_take (i := 0) (oi := { dst := some 99, op := Go.Op.move (Go.Operand.tmp 5), type := 24, pos := "law.go:67", after := #[], guard := none }) (v := ?_) rfl (by kernel_rfl) (by kernel_rfl) (by kernel_rfl) (fun _ _ _ h => h) (Or.inl ⟨by rfl, ?_⟩) (by assumption) ?_
                (rotate_left; focus (intro wS hSw; have s1 := hSw.1; have s2 := hSw.2; clear hSw; go_simp; (try rw [if_neg (by omega)]); try with_reducible rfl))
                (try simp only [Act.put, List.setIfInBounds_toArray, List.set_cons_zero, List.set_cons_succ])
                refine wpAnyH_take (i := 1) (oi := { dst := some 100, op := Go.Op.move (Go.Operand.tmp 1), type := 22, pos := "law.go:67", after := #[], guard := none }) (v := ?_) rfl (by kernel_rfl) (by kernel_rfl) (by kernel_rfl) (fun _ _ _ h => h) (Or.inl ⟨by rfl, ?_⟩) (by assumption) ?_
                (rotate_left; focus (intro wS hSw; have s1 := hSw.1; have s2 := hSw.2; clear hSw; go_simp; (try rw [if_neg (by omega)]); try with_reducible rfl))
                (try simp only [Act.put, List.setIfInBounds_toArray, List.set_cons_zero, List.set_cons_succ])
                refine wpAnyH_take (i := 2) (oi := { dst := some 101, op := Go.Op.move (Go.Operand.tmp 9), type := 3, pos := "law.go:67", after := #[], guard := none }) (v := ?_) rfl (by kernel_rfl) (by kernel_rfl) (by kernel_rfl) (fun _ _ _ h => h) (Or.inl ⟨by rfl, ?_⟩) (by assumption) ?_
                (rotate_left; focus (intro wS hSw; have s1 := hSw.1; have s2 := hSw.2; clear hSw; go_simp; (try rw [if_neg (by omega)]); try with_reducible rfl))
                (try simp only [Act.put, List.setIfInBounds_toArray, List.set_cons_zero, List.set_cons_succ])
                refine wpAnyH_take (i := 3) (oi := { dst := some 102, op := Go.Op.indexAddr 22 (Go.Operand.tmp 100) (Go.Operand.tmp 101), type := 0, pos := "law.go:67", after := #[{ on := 1, ground := Go.Ground.data }, { on := 2, ground := Go.Ground.data }], guard := none }) (v := ?_) rfl (by kernel_rfl) (by kernel_rfl) (by kernel_rfl) (fun _ _ _ h => h) (Or.inl ⟨by rfl, ?_⟩) (by assumption) ?_
                (rotate_left; focus (intro wS hSw; have s1 := hSw.1; have s2 := hSw.2; clear hSw; go_simp; (try rw [if_neg (by omega)]); try with_reducible rfl))
                (try simp only [Act.put, List.setIfInBounds_toArray, List.set_cons_zero, List.set_cons_succ])
                refine wpAnyH_take (i := 4) (oi := { dst := some 103, op := Go.Op.fieldAddr 29 (Go.Operand.tmp 102) 1, type := 0, pos := "law.go:67", after := #[{ on := 3, ground := Go.Ground.data }], guard := none }) (v := ?_) rfl (by kernel_rfl) (by kernel_rfl) (by kernel_rfl) (fun _ _ _ h => h) (Or.inl ⟨by rfl, ?_⟩) (by assumption) ?_
                (rotate_left; focus (intro wS hSw; have s1 := hSw.1; have s2 := hSw.2; clear hSw; go_simp; (try rw [if_neg (by omega)]); try with_reducible rfl))
                (try simp only [Act.put, List.setIfInBounds_toArray, List.set_cons_zero, List.set_cons_succ])
                refine wpAnyH_take (i := 5) (oi := { dst := some 104, op := Go.Op.load 9 (Go.Operand.tmp 103), type := 9, pos := "law.go:67", after := #[{ on := 4, ground := Go.Ground.data }], guard := none }) (v := ?_) rfl (by kernel_rfl) (by kernel_rfl) (by kernel_rfl) (fun _ _ _ h => h) (Or.inl ⟨by rfl, ?_⟩) (by assumption) ?_
                (rotate_left; focus (intro wS hSw; have s1 := hSw.1; have s2 := hSw.2; clear hSw; go_simp; (try rw [if_neg (by omega)]); try with_reducible rfl))
                (try simp only [Act.put, List.setIfInBounds_toArray, List.set_cons_zero, List.set_cons_succ])
                refine wpAnyH_take (i := 6) (oi := { dst := some 105, op := Go.Op.move (Go.Operand.tmp 1), type := 22, pos := "law.go:67", after := #[], guard := none }) (v := ?_) rfl (by kernel_rfl) (by kernel_rfl) (by kernel_rfl) (fun _ _ _ h => h) (Or.inl ⟨by rfl, ?_⟩) (by assumption) ?_
                (rotate_left; focus (intro wS hSw; have s1 := hSw.1; have s2 := hSw.2; clear hSw; go_simp; (try rw [if_neg (by omega)]); try with_reducible rfl))
                (try simp only [Act.put, List.setIfInBounds_toArray, List.set_cons_zero, List.set_cons_succ])
                refine wpAnyH_take (i := 7) (oi := { dst := some 106, op := Go.Op.move (Go.Operand.tmp 9), type := 3, pos := "law.go:67", after := #[], guard := none }) (v := ?_) rfl (by kernel_rfl) (by kernel_rfl) (by kernel_rfl) (fun _ _ _ h => h) (Or.inl ⟨by rfl, ?_⟩) (by assumption) ?_
                (rotate_left; focus (intro wS hSw; have s1 := hSw.1; have s2 := hSw.2; clear hSw; go_simp; (try rw [if_neg (by omega)]); try with_reducible rfl))
                (try simp only [Act.put, List.setIfInBounds_toArray, List.set_cons_zero, List.set_cons_succ])
                refine wpAnyH_take (i := 8) (oi := { dst := some 107, op := Go.Op.indexAddr 22 (Go.Operand.tmp 105) (Go.Operand.tmp 106), type := 0, pos := "law.go:67", after := #[{ on := 6, ground := Go.Ground.data }, { on := 7, ground := Go.Ground.data }], guard := none }) (v := ?_) rfl (by kernel_rfl) (by kernel_rfl) (by kernel_rfl) (fun _ _ _ h => h) (Or.inl ⟨by rfl, ?_⟩) (by assumption) ?_
                (rotate_left; focus (intro wS hSw; have s1 := hSw.1; have s2 := hSw.2; clear hSw; go_simp; (try rw [if_neg (by omega)]); try with_reducible rfl))
                (try simp only [Act.put, List.setIfInBounds_toArray, List.set_cons_zero, List.set_cons_succ])
                refine wpAnyH_take (i := 9) (oi := { dst := some 108, op := Go.Op.fieldAddr 29 (Go.Operand.tmp 107) 2, type := 0, pos := "law.go:67", after := #[{ on := 8, ground := Go.Ground.data }], guard := none }) (v := ?_) rfl (by kernel_rfl) (by kernel_rfl) (by kernel_rfl) (fun _ _ _ h => h) (Or.inl ⟨by rfl, ?_⟩) (by assumption) ?_
                (rotate_left; focus (intro wS hSw; have s1 := hSw.1; have s2 := hSw.2; clear hSw; go_simp; (try rw [if_neg (by omega)]); try with_reducible rfl))
                (try simp only [Act.put, List.setIfInBounds_toArray, List.set_cons_zero, List.set_cons_succ])
                refine wpAnyH_take (i := 10) (oi := { dst := some 109, op := Go.Op.load 3 (Go.Operand.tmp 108), type := 3, pos := "law.go:67", after := #[{ on := 9, ground := Go.Ground.data }], guard := none }) (v := ?_) rfl (by kernel_rfl) (by kernel_rfl) (by kernel_rfl) (fun _ _ _ h => h) (Or.inl ⟨by rfl, ?_⟩) (by assumption) ?_
                (rotate_left; focus (intro wS hSw; have s1 := hSw.1; have s2 := hSw.2; clear hSw; go_simp; (try rw [if_neg (by omega)]); try with_reducible rfl))
                (try simp only [Act.put, List.setIfInBounds_toArray, List.set_cons_zero, List.set_cons_succ])
                refine wpAnyH_ready (rs := [11]) (by kernel_rfl) (by simp) ?_
                refine AllReadyH.cons (o := { dst := some 110, op := Go.Op.call { callee := Go.Callee.value (Go.Operand.func 8), args := #[Go.Operand.tmp 99, Go.Operand.tmp 104, Go.Operand.tmp 109], argTypes := #[24, 9, 3] }, type := 4, pos := "law.go:67", after := #[{ on := 0, ground := Go.Ground.data }, { on := 5, ground := Go.Ground.data }, { on := 10, ground := Go.Ground.data }], guard := none }) rfl (fun K hK => ?_) AllReadyH.nil
                go_simp
                refine (give_yes who n _ HQ.out.drew hd.1 (by unfold maxLen; omega) ⟨hlow, hno⟩ ⟨hlf, by omega⟩ ⟨HF0.out, HF.out⟩).mono ?_
                rintro e x4 ⟨rfl, hq4, hk4⟩
                have HB4 : Hid (Below w.heap.size w x4) := Lib.hid (HB.out.drew.trans (hk4.below HB.out.size (fun i hi => by have := HW2.out; omega)))
                have HO4 := Lib.hid (own_kp (w := wr.drew) HO.out hk4 (fun g hg => by have := HW2.out; omega))
                have HQ4 := Lib.hid hq4
                have HS4 := Lib.hid hk4.size
                clear hq4 hk4
                have hP1 := (HLK.out x4 HB4.out).2
                (try go_wp2_with fail)
                refine hK.out _ _ (by (first | exact hP0 | exact hP1)) (fun hHeld => ?_)
                clear hK K
                (try simp only [Act.put, List.setIfInBounds_toArray, List.set_cons_zero, List.set_cons_succ])
                refine wpAnyH_take (i := 12) (oi := { dst := some 12, op := Go.Op.assign (Go.Operand.tmp 110), type := 4, pos := "law.go:67", after := #[{ on := 11, ground := Go.Ground.data }, { on := 11, ground := Go.Ground.chain }, { on := 0, ground := Go.Ground.phase }, { on := 1, ground := Go.Ground.phase }, { on := 2, ground := Go.Ground.phase }, { on := 3, ground := Go.Ground.phase }, { on := 4, ground := Go.Ground.phase }, { on := 5, ground := Go.Ground.phase }, { on := 6, ground := Go.Ground.phase }, { on := 7, ground := Go.Ground.phase }, { on := 8, ground := Go.Ground.phase }, { on := 9, ground := Go.Ground.phase }, { on := 10, ground := Go.Ground.phase }, { on := 11, ground := Go.Ground.phase }], guard := none }) (v := ?_) rfl (by kernel_rfl) (by kernel_rfl) (by kernel_rfl) (fun _ _ _ h => h) (Or.inl ⟨by rfl, ?_⟩) (by assumption) ?_
                (rotate_left; focus (intro wS hSw; have s1 := hSw.1; have s2 := hSw.2; clear hSw; go_simp; (try rw [if_neg (by omega)]); try with_reducible rfl))
                (try simp only [Act.put, List.setIfInBounds_toArray, List.set_cons_zero, List.set_cons_succ])
                refine wpAnyH_done (by kernel_rfl) ?_ _
                clear hP0 hP1
                have c0 := (HLK.out x4 HB4.out).1
                have c1 := (HLK.out x4 HB4.out).2.1
                have c2 := (HLK.out x4 HB4.out).2.2
                go_wp2_with (at_builtin; refine wpList_append_own _ rfl _ _ 22 rfl w1.heap.size 29 i0 (.agg #[.bool false, .string ByteArray.empty, .int .i64 0]) 3 32 Try.underlying22 hi hz0 hz1 hz2 rfl (by decide) _ _ _ rfl (HO4.out.alloc _) ⟨x4.heap.size, 0, none⟩ 1 1 [.bool true, .string who, .int .i64 n] rfl rfl ?a1 ?a2 ?a3 ?a4 ?a5 ?_)
                case a1 => intro j u hj; exact new_cells _ _ _ j u hj
                case a2 => intro u hu; simp at hu; rcases hu with rfl | rfl | rfl <;> rfl
                case a3 => have := HDL.out; unfold maxLen; omega
                case a4 => have := HDL.out; omega
                case a5 => have h1 := HWS.out; have h2 := HS4.out; simp at h2 ⊢; omega
                intro v5 x5 hown5 hg5 _
                have HB5 : Hid (Below w.heap.size w x5) := Lib.hid ((HB4.out.alloc HB4.out.size _).grown hg5 (by have := HB4.out.size; simp; omega) (fun q hq => Nat.le_trans HB0.out.size (HO4.out.lt q hq).1))
                have HK5 : Hid (Kp (fun i => w1.heap.size ≤ i) x4 x5) := Lib.hid (((Kp.refl _ x4).alloc _).trans (Kp.grown hg5 (fun q hq => (HO4.out.lt q hq).1)))
                obtain ⟨dn5, hdn⟩ : ∃ x, x = done ++ [(true, who, n)] := ⟨_, rfl⟩
                have HO5 : Hid (x5.ownsRow w1.heap.size 29 3 v5 dn5.length (dn5.flatMap encD)) := Lib.hid (by rw [hdn, List.length_append, List.flatMap_append]; exact hown5)
                have HL5 : Hid (L + n = most - total dn5) := Lib.hid (by rw [hdn, total_snoc, ← HL.out]; simp; omega)
                have HQ5 : Hid (Qs x5 p b (kk + 1) (ofL dn5) (L + n)) := Lib.hid (by have h9 := HQ4.out.kp HK5.out (by have := HW2.out; omega) (by have := HW2.out; omega); rw [hdn, ofL_upd]; exact h9)
                have c0 := (HLK.out x5 HB5.out).1
                have c1 := (HLK.out x5 HB5.out).2.1
                have c2 := (HLK.out x5 HB5.out).2.2
                have w2 : wrap64 (L + n) = L + n := wrap64_id (by have := HF.out; omega) (by have := HF.out; omega)
                clear hown5 hg5
                go_wp2_with fail
                have HDB5 : Hid (∀ x ∈ dn5, 1 ≤ x.2.2 ∧ x.2.2 ≤ 9007199254740992) := Lib.hid (by rw [hdn]; intro x hx; rcases List.mem_append.1 hx with h | h; exact HDB.out x h; rw [List.mem_singleton.1 h]; have := HF.out; exact ⟨hlow, by dsimp only; omega⟩)
                have HDL5 : Hid (dn5.length ≤ k + 1) := Lib.hid (by have := HDL.out; rw [hdn]; simp; omega)
                have HDN := Lib.hid hdn
                clear hdn
                obtain ⟨a5, cd5, rfl, _, hsd5⟩ := own_sl (size := 3) (fun _ => rfl) (by decide) HO5.out
                have HSD5 := Lib.hid hsd5
                clear hsd5
                have c1 : x5.drew.cell? ⟨b2, o2 + k * 3 + 1, none⟩ = some (.string who) := c1
                refine wp_region_held_drew (S := fun w' => w' = x5.drew) (by kernel_rfl) (by (exact rfl)) (fun hHeld => ?_)
                refine wpAnyH_take (i := 0) (oi := { dst := some 150, op := Go.Op.move (Go.Operand.tmp 12), type := 4, pos := "law.go:79", after := #[], guard := none }) (v := ?_) rfl (by kernel_rfl) (by kernel_rfl) (by kernel_rfl) (fun _ _ _ h => h) (Or.inl ⟨by rfl, ?_⟩) (by assumption) ?_
                (rotate_left; focus (intro wS hSw; subst hSw; go_simp; (try rw [if_neg (by omega)]); try with_reducible rfl))
                (try simp only [Act.put, List.setIfInBounds_toArray, List.set_cons_zero, List.set_cons_succ])
                refine wpAnyH_take (i := 1) (oi := { dst := some 151, op := Go.Op.move (Go.Operand.tmp 11), type := 4, pos := "law.go:79", after := #[], guard := none }) (v := ?_) rfl (by kernel_rfl) (by kernel_rfl) (by kernel_rfl) (fun _ _ _ h => h) (Or.inl ⟨by rfl, ?_⟩) (by assumption) ?_
                (rotate_left; focus (intro wS hSw; subst hSw; go_simp; (try rw [if_neg (by omega)]); try with_reducible rfl))
                (try simp only [Act.put, List.setIfInBounds_toArray, List.set_cons_zero, List.set_cons_succ])
                refine wpAnyH_take (i := 2) (oi := { dst := some 152, op := Go.Op.binOp Go.BinOp.neq 4 (Go.Operand.tmp 150) (Go.Operand.tmp 151) 4, type := 4, pos := "law.go:79", after := #[{ on := 0, ground := Go.Ground.data }, { on := 1, ground := Go.Ground.data }], guard := none }) (v := ?_) rfl (by kernel_rfl) (by kernel_rfl) (by kernel_rfl) (fun _ _ _ h => h) (Or.inl ⟨by rfl, ?_⟩) (by assumption) ?_
                (rotate_left; focus (intro wS hSw; subst hSw; go_simp; (try rw [if_neg (by omega)]); try with_reducible rfl))
                (try simp only [Act.put, List.setIfInBounds_toArray, List.set_cons_zero, List.set_cons_succ])
                refine wpAnyH_take (i := 3) (oi := { dst := some 153, op := Go.Op.move (Go.Operand.tmp 152), type := 4, pos := "law.go:79", after := #[{ on := 2, ground := Go.Ground.data }], guard := none }) (v := ?_) rfl (by kernel_rfl) (by kernel_rfl) (by kernel_rfl) (fun _ _ _ h => h) (Or.inl ⟨by rfl, ?_⟩) (by assumption) ?_
                (rotate_left; focus (intro wS hSw; subst hSw; go_simp; (try rw [if_neg (by omega)]); try with_reducible rfl))
                (try simp only [Act.put, List.setIfInBounds_toArray, List.set_cons_zero, List.set_cons_succ])
                refine wpAnyH_take (i := 4) (oi := { dst := some 154, op := Go.Op.move (Go.Operand.tmp 5), type := 24, pos := "law.go:79", after := #[{ on := 3, ground := Go.Ground.guard }], guard := some (3, false) }) (v := ?_) rfl (by kernel_rfl) (by kernel_rfl) (by kernel_rfl) (fun _ _ _ h => h) (Or.inl ⟨by rfl, ?_⟩) (by assumption) ?_
                (rotate_left; focus (intro wS hSw; subst hSw; go_simp; (try rw [if_neg (by omega)]); try with_reducible rfl))
                (try simp only [Act.put, List.setIfInBounds_toArray, List.set_cons_zero, List.set_cons_succ])
                refine wpAnyH_take (i := 6) (oi := { dst := some 156, op := Go.Op.move (Go.Operand.tmp 7), type := 3, pos := "law.go:79", after := #[{ on := 3, ground := Go.Ground.guard }], guard := some (3, false) }) (v := ?_) rfl (by kernel_rfl) (by kernel_rfl) (by kernel_rfl) (fun _ _ _ h => h) (Or.inl ⟨by rfl, ?_⟩) (by assumption) ?_
                (rotate_left; focus (intro wS hSw; subst hSw; go_simp; (try rw [if_neg (by omega)]); try with_reducible rfl))
                (try simp only [Act.put, List.setIfInBounds_toArray, List.set_cons_zero, List.set_cons_succ])
                refine wpAnyH_ready (rs := [5]) (by kernel_rfl) (by simp) ?_
                refine AllReadyH.cons (o := { dst := some 155, op := Go.Op.call { callee := Go.Callee.value (Go.Operand.func 10), args := #[Go.Operand.tmp 154], argTypes := #[24] }, type := 3, pos := "law.go:79", after := #[{ on := 4, ground := Go.Ground.data }, { on := 3, ground := Go.Ground.chain }, { on := 3, ground := Go.Ground.guard }], guard := some (3, false) }) rfl (fun K hK => ?_) AllReadyH.nil
                go_simp
                refine (left_any _ (Qs.drew (w := x5) HQ5.out)).mono ?_
                rintro e y1 ⟨rfl, hy⟩
                subst hy
                (try go_wp2_with fail)
                refine hK.out _ _ (by (exact rfl)) (fun hHeld => ?_)
                clear hK K
                (try simp only [Act.put, List.setIfInBounds_toArray, List.set_cons_zero, List.set_cons_succ])
                refine wpAnyH_take (i := 7) (oi := { dst := some 157, op := Go.Op.binOp Go.BinOp.neq 3 (Go.Operand.tmp 155) (Go.Operand.tmp 156) 3, type := 4, pos := "law.go:79", after := #[{ on := 5, ground := Go.Ground.data }, { on := 6, ground := Go.Ground.data }, { on := 3, ground := Go.Ground.guard }], guard := some (3, false) }) (v := ?_) rfl (by kernel_rfl) (by kernel_rfl) (by kernel_rfl) (fun _ _ _ h => h) (Or.inl ⟨by rfl, ?_⟩) (by assumption) ?_
                (rotate_left; focus (intro wS hSw; subst hSw; go_simp; (try rw [if_neg (by omega)]); try with_reducible rfl))
                (try simp only [Act.put, List.setIfInBounds_toArray, List.set_cons_zero, List.set_cons_succ])
                refine wpAnyH_take (i := 8) (oi := { dst := some 158, op := Go.Op.pick (Go.Operand.tmp 153) (Go.Operand.const (Go.Value.bool true)) (Go.Operand.tmp 157), type := 4, pos := "law.go:79", after := #[{ on := 3, ground := Go.Ground.data }, { on := 7, ground := Go.Ground.data }], guard := none }) (v := ?_) rfl (by kernel_rfl) (by kernel_rfl) (by kernel_rfl) (fun _ _ _ h => h) (Or.inl ⟨by rfl, ?_⟩) (by assumption) ?_
                (rotate_left; focus (intro wS hSw; subst hSw; go_simp; (try rw [if_neg (by omega)]); try with_reducible rfl))
                (try simp only [Act.put, List.setIfInBounds_toArray, List.set_cons_zero, List.set_cons_succ])
                refine wpAnyH_take (i := 9) (oi := { dst := some 159, op := Go.Op.move (Go.Operand.tmp 158), type := 4, pos := "law.go:79", after := #[{ on := 8, ground := Go.Ground.data }, { on := 5, ground := Go.Ground.chain }], guard := none }) (v := ?_) rfl (by kernel_rfl) (by kernel_rfl) (by kernel_rfl) (fun _ _ _ h => h) (Or.inl ⟨by rfl, ?_⟩) (by assumption) ?_
                (rotate_left; focus (intro wS hSw; subst hSw; go_simp; (try rw [if_neg (by omega)]); try with_reducible rfl))
                (try simp only [Act.put, List.setIfInBounds_toArray, List.set_cons_zero, List.set_cons_succ])
                refine wpAnyH_take (i := 10) (oi := { dst := some 160, op := Go.Op.move (Go.Operand.tmp 5), type := 24, pos := "law.go:79", after := #[{ on := 9, ground := Go.Ground.guard }], guard := some (9, false) }) (v := ?_) rfl (by kernel_rfl) (by kernel_rfl) (by kernel_rfl) (fun _ _ _ h => h) (Or.inl ⟨by rfl, ?_⟩) (by assumption) ?_
                (rotate_left; focus (intro wS hSw; subst hSw; go_simp; (try rw [if_neg (by omega)]); try with_reducible rfl))
                (try simp only [Act.put, List.setIfInBounds_toArray, List.set_cons_zero, List.set_cons_succ])
                refine wpAnyH_take (i := 11) (oi := { dst := some 161, op := Go.Op.move (Go.Operand.tmp 1), type := 22, pos := "law.go:79", after := #[{ on := 9, ground := Go.Ground.guard }], guard := some (9, false) }) (v := ?_) rfl (by kernel_rfl) (by kernel_rfl) (by kernel_rfl) (fun _ _ _ h => h) (Or.inl ⟨by rfl, ?_⟩) (by assumption) ?_
                (rotate_left; focus (intro wS hSw; subst hSw; go_simp; (try rw [if_neg (by omega)]); try with_reducible rfl))
                (try simp only [Act.put, List.setIfInBounds_toArray, List.set_cons_zero, List.set_cons_succ])
                refine wpAnyH_take (i := 12) (oi := { dst := some 162, op := Go.Op.move (Go.Operand.tmp 9), type := 3, pos := "law.go:79", after := #[{ on := 9, ground := Go.Ground.guard }], guard := some (9, false) }) (v := ?_) rfl (by kernel_rfl) (by kernel_rfl) (by kernel_rfl) (fun _ _ _ h => h) (Or.inl ⟨by rfl, ?_⟩) (by assumption) ?_
                (rotate_left; focus (intro wS hSw; subst hSw; go_simp; (try rw [if_neg (by omega)]); try with_reducible rfl))
                (try simp only [Act.put, List.setIfInBounds_toArray, List.set_cons_zero, List.set_cons_succ])
                refine wpAnyH_take (i := 13) (oi := { dst := some 163, op := Go.Op.indexAddr 22 (Go.Operand.tmp 161) (Go.Operand.tmp 162), type := 0, pos := "law.go:79", after := #[{ on := 11, ground := Go.Ground.data }, { on := 12, ground := Go.Ground.data }, { on := 9, ground := Go.Ground.guard }], guard := some (9, false) }) (v := ?_) rfl (by kernel_rfl) (by kernel_rfl) (by kernel_rfl) (fun _ _ _ h => h) (Or.inl ⟨by rfl, ?_⟩) (by assumption) ?_
                (rotate_left; focus (intro wS hSw; subst hSw; go_simp; (try rw [if_neg (by omega)]); try with_reducible rfl))
                (try simp only [Act.put, List.setIfInBounds_toArray, List.set_cons_zero, List.set_cons_succ])
                refine wpAnyH_take (i := 14) (oi := { dst := some 164, op := Go.Op.fieldAddr 29 (Go.Operand.tmp 163) 1, type := 0, pos := "law.go:79", after := #[{ on := 13, ground := Go.Ground.data }, { on := 9, ground := Go.Ground.guard }], guard := some (9, false) }) (v := ?_) rfl (by kernel_rfl) (by kernel_rfl) (by kernel_rfl) (fun _ _ _ h => h) (Or.inl ⟨by rfl, ?_⟩) (by assumption) ?_
                (rotate_left; focus (intro wS hSw; subst hSw; go_simp; (try rw [if_neg (by omega)]); try with_reducible rfl))
                (try simp only [Act.put, List.setIfInBounds_toArray, List.set_cons_zero, List.set_cons_succ])
                refine wpAnyH_take (i := 15) (oi := { dst := some 165, op := Go.Op.load 9 (Go.Operand.tmp 164), type := 9, pos := "law.go:79", after := #[{ on := 14, ground := Go.Ground.data }, { on := 9, ground := Go.Ground.guard }], guard := some (9, false) }) (v := ?_) rfl (by kernel_rfl) (by kernel_rfl) (by kernel_rfl) (fun _ _ _ h => h) (Or.inl ⟨by rfl, ?_⟩) (by assumption) ?_
                (rotate_left; focus (intro wS hSw; subst hSw; go_simp; (try rw [if_neg (by omega)]); try with_reducible rfl))
                (try simp only [Act.put, List.setIfInBounds_toArray, List.set_cons_zero, List.set_cons_succ])
                refine wpAnyH_take (i := 17) (oi := { dst := some 167, op := Go.Op.move (Go.Operand.tmp 8), type := 22, pos := "law.go:79", after := #[{ on := 9, ground := Go.Ground.guard }], guard := some (9, false) }) (v := ?_) rfl (by kernel_rfl) (by kernel_rfl) (by kernel_rfl) (fun _ _ _ h => h) (Or.inl ⟨by rfl, ?_⟩) (by assumption) ?_
                (rotate_left; focus (intro wS hSw; subst hSw; go_simp; (try rw [if_neg (by omega)]); try with_reducible rfl))
                (try simp only [Act.put, List.setIfInBounds_toArray, List.set_cons_zero, List.set_cons_succ])
                refine wpAnyH_take (i := 18) (oi := { dst := some 168, op := Go.Op.move (Go.Operand.tmp 1), type := 22, pos := "law.go:79", after := #[{ on := 9, ground := Go.Ground.guard }], guard := some (9, false) }) (v := ?_) rfl (by kernel_rfl) (by kernel_rfl) (by kernel_rfl) (fun _ _ _ h => h) (Or.inl ⟨by rfl, ?_⟩) (by assumption) ?_
                (rotate_left; focus (intro wS hSw; subst hSw; go_simp; (try rw [if_neg (by omega)]); try with_reducible rfl))
                (try simp only [Act.put, List.setIfInBounds_toArray, List.set_cons_zero, List.set_cons_succ])
                refine wpAnyH_take (i := 19) (oi := { dst := some 169, op := Go.Op.move (Go.Operand.tmp 9), type := 3, pos := "law.go:79", after := #[{ on := 9, ground := Go.Ground.guard }], guard := some (9, false) }) (v := ?_) rfl (by kernel_rfl) (by kernel_rfl) (by kernel_rfl) (fun _ _ _ h => h) (Or.inl ⟨by rfl, ?_⟩) (by assumption) ?_
                (rotate_left; focus (intro wS hSw; subst hSw; go_simp; (try rw [if_neg (by omega)]); try with_reducible rfl))
                (try simp only [Act.put, List.setIfInBounds_toArray, List.set_cons_zero, List.set_cons_succ])
                refine wpAnyH_take (i := 20) (oi := { dst := some 170, op := Go.Op.indexAddr 22 (Go.Operand.tmp 168) (Go.Operand.tmp 169), type := 0, pos := "law.go:79", after := #[{ on := 18, ground := Go.Ground.data }, { on := 19, ground := Go.Ground.data }, { on := 9, ground := Go.Ground.guard }], guard := some (9, false) }) (v := ?_) rfl (by kernel_rfl) (by kernel_rfl) (by kernel_rfl) (fun _ _ _ h => h) (Or.inl ⟨by rfl, ?_⟩) (by assumption) ?_
                (rotate_left; focus (intro wS hSw; subst hSw; go_simp; (try rw [if_neg (by omega)]); try with_reducible rfl))
                (try simp only [Act.put, List.setIfInBounds_toArray, List.set_cons_zero, List.set_cons_succ])
                refine wpAnyH_take (i := 21) (oi := { dst := some 171, op := Go.Op.fieldAddr 29 (Go.Operand.tmp 170) 1, type := 0, pos := "law.go:79", after := #[{ on := 20, ground := Go.Ground.data }, { on := 9, ground := Go.Ground.guard }], guard := some (9, false) }) (v := ?_) rfl (by kernel_rfl) (by kernel_rfl) (by kernel_rfl) (fun _ _ _ h => h) (Or.inl ⟨by rfl, ?_⟩) (by assumption) ?_
                (rotate_left; focus (intro wS hSw; subst hSw; go_simp; (try rw [if_neg (by omega)]); try with_reducible rfl))
                (try simp only [Act.put, List.setIfInBounds_toArray, List.set_cons_zero, List.set_cons_succ])
                refine wpAnyH_take (i := 22) (oi := { dst := some 172, op := Go.Op.load 9 (Go.Operand.tmp 171), type := 9, pos := "law.go:79", after := #[{ on := 21, ground := Go.Ground.data }, { on := 9, ground := Go.Ground.guard }], guard := some (9, false) }) (v := ?_) rfl (by kernel_rfl) (by kernel_rfl) (by kernel_rfl) (fun _ _ _ h => h) (Or.inl ⟨by rfl, ?_⟩) (by assumption) ?_
                (rotate_left; focus (intro wS hSw; subst hSw; go_simp; (try rw [if_neg (by omega)]); try with_reducible rfl))
                (try simp only [Act.put, List.setIfInBounds_toArray, List.set_cons_zero, List.set_cons_succ])
                refine wpAnyH_ready (rs := [16]) (by kernel_rfl) (by simp) ?_
                refine AllReadyH.cons (o := { dst := some 166, op := Go.Op.call { callee := Go.Callee.value (Go.Operand.func 11), args := #[Go.Operand.tmp 160, Go.Operand.tmp 165], argTypes := #[24, 9] }, type := 3, pos := "law.go:79", after := #[{ on := 10, ground := Go.Ground.data }, { on := 15, ground := Go.Ground.data }, { on := 9, ground := Go.Ground.chain }, { on := 9, ground := Go.Ground.guard }], guard := some (9, false) }) rfl (fun K hK => ?_) AllReadyH.nil
                go_simp
                refine (of_any who _ (Qs.drew (w := x5) HQ5.out) hd.1).mono ?_
                rintro e y2 ⟨rfl, hy⟩
                subst hy
                (try go_wp2_with fail)
                refine hK.out _ _ (by (exact rfl)) (fun hHeld => ?_)
                clear hK K
                (try simp only [Act.put, List.setIfInBounds_toArray, List.set_cons_zero, List.set_cons_succ])
                refine wpAnyH_ready (rs := [23]) (by kernel_rfl) (by simp) ?_
                refine AllReadyH.cons (o := { dst := some 173, op := Go.Op.call { callee := Go.Callee.value (Go.Operand.func 7), args := #[Go.Operand.tmp 167, Go.Operand.tmp 172], argTypes := #[22, 9] }, type := 3, pos := "law.go:79", after := #[{ on := 17, ground := Go.Ground.data }, { on := 22, ground := Go.Ground.data }, { on := 16, ground := Go.Ground.chain }, { on := 9, ground := Go.Ground.guard }], guard := some (9, false) }) rfl (fun K hK => ?_) AllReadyH.nil
                go_simp
                refine (law_of dn5 who _ _ _ (Sl.drew2 HSD5.out) (by have := HDL5.out; omega) HDB5.out).mono ?_
                rintro e y3 ⟨rfl, hy⟩
                subst hy
                (try go_wp2_with fail)
                refine hK.out _ _ (by (exact rfl)) (fun hHeld => ?_)
                clear hK K
                (try simp only [Act.put, List.setIfInBounds_toArray, List.set_cons_zero, List.set_cons_succ])
                refine wpAnyH_take (i := 24) (oi := { dst := some 174, op := Go.Op.binOp Go.BinOp.neq 3 (Go.Operand.tmp 166) (Go.Operand.tmp 173) 3, type := 4, pos := "law.go:79", after := #[{ on := 16, ground := Go.Ground.data }, { on := 23, ground := Go.Ground.data }, { on := 9, ground := Go.Ground.guard }], guard := some (9, false) }) (v := ?_) rfl (by kernel_rfl) (by kernel_rfl) (by kernel_rfl) (fun _ _ _ h => h) (Or.inl ⟨by rfl, ?_⟩) (by assumption) ?_
                (rotate_left; focus (intro wS hSw; subst hSw; go_simp; (try rw [if_neg (by omega)]); try with_reducible rfl))
                (try simp only [Act.put, List.setIfInBounds_toArray, List.set_cons_zero, List.set_cons_succ])
                refine wpAnyH_take (i := 25) (oi := { dst := some 175, op := Go.Op.pick (Go.Operand.tmp 159) (Go.Operand.const (Go.Value.bool true)) (Go.Operand.tmp 174), type := 4, pos := "law.go:79", after := #[{ on := 9, ground := Go.Ground.data }, { on := 24, ground := Go.Ground.data }], guard := none }) (v := ?_) rfl (by kernel_rfl) (by kernel_rfl) (by kernel_rfl) (fun _ _ _ h => h) (Or.inl ⟨by rfl, ?_⟩) (by assumption) ?_
                (rotate_left; focus (intro wS hSw; subst hSw; go_simp; (try rw [if_neg (by omega)]); try with_reducible rfl))
                (try simp only [Act.put, List.setIfInBounds_toArray, List.set_cons_zero, List.set_cons_succ])
                refine wpAnyH_done (by kernel_rfl) ?_ _
                go_wp2
                go_roundw
                case rel =>
                  have hpos5 : ∀ s, 0 ≤ ofL dn5 s := by
                    intro s
                    rw [HDN.out, ofL_upd]
                    by_cases h : s = who
                    · subst h; rw [upd_same]; have := HF0.out; simp; omega
                    · rw [upd_other _ _ h]; exact HPOS.out s
                  exact ⟨k + 1, dn5, kk + 1, by omega, by go_num, by rw [← HL5.out], HDL5.out, by omega, HDB5.out, hpos5, by rw [← HL5.out]; omega, HO5.out, by rw [← HL5.out]; exact HQ5.out.drew, HB5.out.drew, by have h1 := HWS.out; have h2 := HS4.out; have h3 := HK5.out.size; simp at h2 ⊢; omega⟩
                case measure => simp [intOf]; omega
            · as_aux_lemma =>
                have d2 : decide ((1 : Int) ≤ n) = true := decide_eq_true hlow
                have d4 : decide (n ≤ ofL done who) = false := decide_eq_false hno
                go_wp2_with fail
                refine (law_of done who _ _ _ HSD.out (by have := HDL.out; omega) HDB.out).mono ?_
                rintro e x0 ⟨rfl, hx⟩
                obtain rfl : wr = x0 := hx.symm
                clear hx
                go_wp2_with fail
                have hP0 : wr.drew.cell? ⟨b2, o2 + k * 3 + 1, none⟩ = some (.string who) ∧ wr.drew.cell? ⟨b2, o2 + k * 3 + 2, none⟩ = some (.int .i64 n) := ⟨c1, c2⟩
                refine wp_region_held_drew (S := fun w' => w'.cell? ⟨b2, o2 + k * 3 + 1, none⟩ = some (.string who) ∧ w'.cell? ⟨b2, o2 + k * 3 + 2, none⟩ = some (.int .i64 n)) (by kernel_rfl) (by (first | exact hP0 | exact hP1)) (fun hHeld => ?_)
                refine wpAnyH_take (i := 0) (oi := { dst := some 99, op := Go.Op.move (Go.Operand.tmp 5), type := 24, pos := "law.go:67", after := #[], guard := none }) (v := ?_) rfl (by kernel_rfl) (by kernel_rfl) (by kernel_rfl) (fun _ _ _ h => h) (Or.inl ⟨by rfl, ?_⟩) (by assumption) ?_
                (rotate_left; focus (intro wS hSw; have s1 := hSw.1; have s2 := hSw.2; clear hSw; go_simp; (try rw [if_neg (by omega)]); try with_reducible rfl))
                (try simp only [Act.put, List.setIfInBounds_toArray, List.set_cons_zero, List.set_cons_succ])
                refine wpAnyH_take (i := 1) (oi := { dst := some 100, op := Go.Op.move (Go.Operand.tmp 1), type := 22, pos := "law.go:67", after := #[], guard := none }) (v := ?_) rfl (by kernel_rfl) (by kernel_rfl) (by kernel_rfl) (fun _ _ _ h => h) (Or.inl ⟨by rfl, ?_⟩) (by assumption) ?_
                (rotate_left; focus (intro wS hSw; have s1 := hSw.1; have s2 := hSw.2; clear hSw; go_simp; (try rw [if_neg (by omega)]); try with_reducible rfl))
                (try simp only [Act.put, List.setIfInBounds_toArray, List.set_cons_zero, List.set_cons_succ])
                refine wpAnyH_take (i := 2) (oi := { dst := some 101, op := Go.Op.move (Go.Operand.tmp 9), type := 3, pos := "law.go:67", after := #[], guard := none }) (v := ?_) rfl (by kernel_rfl) (by kernel_rfl) (by kernel_rfl) (fun _ _ _ h => h) (Or.inl ⟨by rfl, ?_⟩) (by assumption) ?_
                (rotate_left; focus (intro wS hSw; have s1 := hSw.1; have s2 := hSw.2; clear hSw; go_simp; (try rw [if_neg (by omega)]); try with_reducible rfl))
                (try simp only [Act.put, List.setIfInBounds_toArray, List.set_cons_zero, List.set_cons_succ])
                refine wpAnyH_take (i := 3) (oi := { dst := some 102, op := Go.Op.indexAddr 22 (Go.Operand.tmp 100) (Go.Operand.tmp 101), type := 0, pos := "law.go:67", after := #[{ on := 1, ground := Go.Ground.data }, { on := 2, ground := Go.Ground.data }], guard := none }) (v := ?_) rfl (by kernel_rfl) (by kernel_rfl) (by kernel_rfl) (fun _ _ _ h => h) (Or.inl ⟨by rfl, ?_⟩) (by assumption) ?_
                (rotate_left; focus (intro wS hSw; have s1 := hSw.1; have s2 := hSw.2; clear hSw; go_simp; (try rw [if_neg (by omega)]); try with_reducible rfl))
                (try simp only [Act.put, List.setIfInBounds_toArray, List.set_cons_zero, List.set_cons_succ])
                refine wpAnyH_take (i := 4) (oi := { dst := some 103, op := Go.Op.fieldAddr 29 (Go.Operand.tmp 102) 1, type := 0, pos := "law.go:67", after := #[{ on := 3, ground := Go.Ground.data }], guard := none }) (v := ?_) rfl (by kernel_rfl) (by kernel_rfl) (by kernel_rfl) (fun _ _ _ h => h) (Or.inl ⟨by rfl, ?_⟩) (by assumption) ?_
                (rotate_left; focus (intro wS hSw; have s1 := hSw.1; have s2 := hSw.2; clear hSw; go_simp; (try rw [if_neg (by omega)]); try with_reducible rfl))
                (try simp only [Act.put, List.setIfInBounds_toArray, List.set_cons_zero, List.set_cons_succ])
                refine wpAnyH_take (i := 5) (oi := { dst := some 104, op := Go.Op.load 9 (Go.Operand.tmp 103), type := 9, pos := "law.go:67", after := #[{ on := 4, ground := Go.Ground.data }], guard := none }) (v := ?_) rfl (by kernel_rfl) (by kernel_rfl) (by kernel_rfl) (fun _ _ _ h => h) (Or.inl ⟨by rfl, ?_⟩) (by assumption) ?_
                (rotate_left; focus (intro wS hSw; have s1 := hSw.1; have s2 := hSw.2; clear hSw; go_simp; (try rw [if_neg (by omega)]); try with_reducible rfl))
                (try simp only [Act.put, List.setIfInBounds_toArray, List.set_cons_zero, List.set_cons_succ])
                refine wpAnyH_take (i := 6) (oi := { dst := some 105, op := Go.Op.move (Go.Operand.tmp 1), type := 22, pos := "law.go:67", after := #[], guard := none }) (v := ?_) rfl (by kernel_rfl) (by kernel_rfl) (by kernel_rfl) (fun _ _ _ h => h) (Or.inl ⟨by rfl, ?_⟩) (by assumption) ?_
                (rotate_left; focus (intro wS hSw; have s1 := hSw.1; have s2 := hSw.2; clear hSw; go_simp; (try rw [if_neg (by omega)]); try with_reducible rfl))
                (try simp only [Act.put, List.setIfInBounds_toArray, List.set_cons_zero, List.set_cons_succ])
                refine wpAnyH_take (i := 7) (oi := { dst := some 106, op := Go.Op.move (Go.Operand.tmp 9), type := 3, pos := "law.go:67", after := #[], guard := none }) (v := ?_) rfl (by kernel_rfl) (by kernel_rfl) (by kernel_rfl) (fun _ _ _ h => h) (Or.inl ⟨by rfl, ?_⟩) (by assumption) ?_
                (rotate_left; focus (intro wS hSw; have s1 := hSw.1; have s2 := hSw.2; clear hSw; go_simp; (try rw [if_neg (by omega)]); try with_reducible rfl))
                (try simp only [Act.put, List.setIfInBounds_toArray, List.set_cons_zero, List.set_cons_succ])
                refine wpAnyH_take (i := 8) (oi := { dst := some 107, op := Go.Op.indexAddr 22 (Go.Operand.tmp 105) (Go.Operand.tmp 106), type := 0, pos := "law.go:67", after := #[{ on := 6, ground := Go.Ground.data }, { on := 7, ground := Go.Ground.data }], guard := none }) (v := ?_) rfl (by kernel_rfl) (by kernel_rfl) (by kernel_rfl) (fun _ _ _ h => h) (Or.inl ⟨by rfl, ?_⟩) (by assumption) ?_
                (rotate_left; focus (intro wS hSw; have s1 := hSw.1; have s2 := hSw.2; clear hSw; go_simp; (try rw [if_neg (by omega)]); try with_reducible rfl))
                (try simp only [Act.put, List.setIfInBounds_toArray, List.set_cons_zero, List.set_cons_succ])
                refine wpAnyH_take (i := 9) (oi := { dst := some 108, op := Go.Op.fieldAddr 29 (Go.Operand.tmp 107) 2, type := 0, pos := "law.go:67", after := #[{ on := 8, ground := Go.Ground.data }], guard := none }) (v := ?_) rfl (by kernel_rfl) (by kernel_rfl) (by kernel_rfl) (fun _ _ _ h => h) (Or.inl ⟨by rfl, ?_⟩) (by assumption) ?_
                (rotate_left; focus (intro wS hSw; have s1 := hSw.1; have s2 := hSw.2; clear hSw; go_simp; (try rw [if_neg (by omega)]); try with_reducible rfl))
                (try simp only [Act.put, List.setIfInBounds_toArray, List.set_cons_zero, List.set_cons_succ])
                refine wpAnyH_take (i := 10) (oi := { dst := some 109, op := Go.Op.load 3 (Go.Operand.tmp 108), type := 3, pos := "law.go:67", after := #[{ on := 9, ground := Go.Ground.data }], guard := none }) (v := ?_) rfl (by kernel_rfl) (by kernel_rfl) (by kernel_rfl) (fun _ _ _ h => h) (Or.inl ⟨by rfl, ?_⟩) (by assumption) ?_
                (rotate_left; focus (intro wS hSw; have s1 := hSw.1; have s2 := hSw.2; clear hSw; go_simp; (try rw [if_neg (by omega)]); try with_reducible rfl))
                (try simp only [Act.put, List.setIfInBounds_toArray, List.set_cons_zero, List.set_cons_succ])
                refine wpAnyH_ready (rs := [11]) (by kernel_rfl) (by simp) ?_
                refine AllReadyH.cons (o := { dst := some 110, op := Go.Op.call { callee := Go.Callee.value (Go.Operand.func 8), args := #[Go.Operand.tmp 99, Go.Operand.tmp 104, Go.Operand.tmp 109], argTypes := #[24, 9, 3] }, type := 4, pos := "law.go:67", after := #[{ on := 0, ground := Go.Ground.data }, { on := 5, ground := Go.Ground.data }, { on := 10, ground := Go.Ground.data }], guard := none }) rfl (fun K hK => ?_) AllReadyH.nil
                go_simp
                refine (give_no who n _ HQ.out.drew hd.1 (by omega)).mono ?_
                rintro e x4 ⟨rfl, hx⟩
                subst hx
                have hP1 := hP0
                (try go_wp2_with fail)
                refine hK.out _ _ (by (first | exact hP0 | exact hP1)) (fun hHeld => ?_)
                clear hK K
                (try simp only [Act.put, List.setIfInBounds_toArray, List.set_cons_zero, List.set_cons_succ])
                refine wpAnyH_take (i := 12) (oi := { dst := some 12, op := Go.Op.assign (Go.Operand.tmp 110), type := 4, pos := "law.go:67", after := #[{ on := 11, ground := Go.Ground.data }, { on := 11, ground := Go.Ground.chain }, { on := 0, ground := Go.Ground.phase }, { on := 1, ground := Go.Ground.phase }, { on := 2, ground := Go.Ground.phase }, { on := 3, ground := Go.Ground.phase }, { on := 4, ground := Go.Ground.phase }, { on := 5, ground := Go.Ground.phase }, { on := 6, ground := Go.Ground.phase }, { on := 7, ground := Go.Ground.phase }, { on := 8, ground := Go.Ground.phase }, { on := 9, ground := Go.Ground.phase }, { on := 10, ground := Go.Ground.phase }, { on := 11, ground := Go.Ground.phase }], guard := none }) (v := ?_) rfl (by kernel_rfl) (by kernel_rfl) (by kernel_rfl) (fun _ _ _ h => h) (Or.inl ⟨by rfl, ?_⟩) (by assumption) ?_
                (rotate_left; focus (intro wS hSw; have s1 := hSw.1; have s2 := hSw.2; clear hSw; go_simp; (try rw [if_neg (by omega)]); try with_reducible rfl))
                (try simp only [Act.put, List.setIfInBounds_toArray, List.set_cons_zero, List.set_cons_succ])
                refine wpAnyH_done (by kernel_rfl) ?_ _
                clear hP0 hP1
                go_wp2_with fail
                have c1 : wr.drew.drew.cell? ⟨b2, o2 + k * 3 + 1, none⟩ = some (.string who) := c1
                refine wp_region_held_drew (S := fun w' => w' = wr.drew.drew) (by kernel_rfl) (by (exact rfl)) (fun hHeld => ?_)
                refine wpAnyH_take (i := 0) (oi := { dst := some 150, op := Go.Op.move (Go.Operand.tmp 12), type := 4, pos := "law.go:79", after := #[], guard := none }) (v := ?_) rfl (by kernel_rfl) (by kernel_rfl) (by kernel_rfl) (fun _ _ _ h => h) (Or.inl ⟨by rfl, ?_⟩) (by assumption) ?_
                (rotate_left; focus (intro wS hSw; subst hSw; go_simp; (try rw [if_neg (by omega)]); try with_reducible rfl))
                (try simp only [Act.put, List.setIfInBounds_toArray, List.set_cons_zero, List.set_cons_succ])
                refine wpAnyH_take (i := 1) (oi := { dst := some 151, op := Go.Op.move (Go.Operand.tmp 11), type := 4, pos := "law.go:79", after := #[], guard := none }) (v := ?_) rfl (by kernel_rfl) (by kernel_rfl) (by kernel_rfl) (fun _ _ _ h => h) (Or.inl ⟨by rfl, ?_⟩) (by assumption) ?_
                (rotate_left; focus (intro wS hSw; subst hSw; go_simp; (try rw [if_neg (by omega)]); try with_reducible rfl))
                (try simp only [Act.put, List.setIfInBounds_toArray, List.set_cons_zero, List.set_cons_succ])
                refine wpAnyH_take (i := 2) (oi := { dst := some 152, op := Go.Op.binOp Go.BinOp.neq 4 (Go.Operand.tmp 150) (Go.Operand.tmp 151) 4, type := 4, pos := "law.go:79", after := #[{ on := 0, ground := Go.Ground.data }, { on := 1, ground := Go.Ground.data }], guard := none }) (v := ?_) rfl (by kernel_rfl) (by kernel_rfl) (by kernel_rfl) (fun _ _ _ h => h) (Or.inl ⟨by rfl, ?_⟩) (by assumption) ?_
                (rotate_left; focus (intro wS hSw; subst hSw; go_simp; (try rw [if_neg (by omega)]); try with_reducible rfl))
                (try simp only [Act.put, List.setIfInBounds_toArray, List.set_cons_zero, List.set_cons_succ])
                refine wpAnyH_take (i := 3) (oi := { dst := some 153, op := Go.Op.move (Go.Operand.tmp 152), type := 4, pos := "law.go:79", after := #[{ on := 2, ground := Go.Ground.data }], guard := none }) (v := ?_) rfl (by kernel_rfl) (by kernel_rfl) (by kernel_rfl) (fun _ _ _ h => h) (Or.inl ⟨by rfl, ?_⟩) (by assumption) ?_
                (rotate_left; focus (intro wS hSw; subst hSw; go_simp; (try rw [if_neg (by omega)]); try with_reducible rfl))
                (try simp only [Act.put, List.setIfInBounds_toArray, List.set_cons_zero, List.set_cons_succ])
                refine wpAnyH_take (i := 4) (oi := { dst := some 154, op := Go.Op.move (Go.Operand.tmp 5), type := 24, pos := "law.go:79", after := #[{ on := 3, ground := Go.Ground.guard }], guard := some (3, false) }) (v := ?_) rfl (by kernel_rfl) (by kernel_rfl) (by kernel_rfl) (fun _ _ _ h => h) (Or.inl ⟨by rfl, ?_⟩) (by assumption) ?_
                (rotate_left; focus (intro wS hSw; subst hSw; go_simp; (try rw [if_neg (by omega)]); try with_reducible rfl))
                (try simp only [Act.put, List.setIfInBounds_toArray, List.set_cons_zero, List.set_cons_succ])
                refine wpAnyH_take (i := 6) (oi := { dst := some 156, op := Go.Op.move (Go.Operand.tmp 7), type := 3, pos := "law.go:79", after := #[{ on := 3, ground := Go.Ground.guard }], guard := some (3, false) }) (v := ?_) rfl (by kernel_rfl) (by kernel_rfl) (by kernel_rfl) (fun _ _ _ h => h) (Or.inl ⟨by rfl, ?_⟩) (by assumption) ?_
                (rotate_left; focus (intro wS hSw; subst hSw; go_simp; (try rw [if_neg (by omega)]); try with_reducible rfl))
                (try simp only [Act.put, List.setIfInBounds_toArray, List.set_cons_zero, List.set_cons_succ])
                refine wpAnyH_ready (rs := [5]) (by kernel_rfl) (by simp) ?_
                refine AllReadyH.cons (o := { dst := some 155, op := Go.Op.call { callee := Go.Callee.value (Go.Operand.func 10), args := #[Go.Operand.tmp 154], argTypes := #[24] }, type := 3, pos := "law.go:79", after := #[{ on := 4, ground := Go.Ground.data }, { on := 3, ground := Go.Ground.chain }, { on := 3, ground := Go.Ground.guard }], guard := some (3, false) }) rfl (fun K hK => ?_) AllReadyH.nil
                go_simp
                refine (left_any _ (Qs.drew (w := wr.drew) HQ.out)).mono ?_
                rintro e y1 ⟨rfl, hy⟩
                subst hy
                (try go_wp2_with fail)
                refine hK.out _ _ (by (exact rfl)) (fun hHeld => ?_)
                clear hK K
                (try simp only [Act.put, List.setIfInBounds_toArray, List.set_cons_zero, List.set_cons_succ])
                refine wpAnyH_take (i := 7) (oi := { dst := some 157, op := Go.Op.binOp Go.BinOp.neq 3 (Go.Operand.tmp 155) (Go.Operand.tmp 156) 3, type := 4, pos := "law.go:79", after := #[{ on := 5, ground := Go.Ground.data }, { on := 6, ground := Go.Ground.data }, { on := 3, ground := Go.Ground.guard }], guard := some (3, false) }) (v := ?_) rfl (by kernel_rfl) (by kernel_rfl) (by kernel_rfl) (fun _ _ _ h => h) (Or.inl ⟨by rfl, ?_⟩) (by assumption) ?_
                (rotate_left; focus (intro wS hSw; subst hSw; go_simp; (try rw [if_neg (by omega)]); try with_reducible rfl))
                (try simp only [Act.put, List.setIfInBounds_toArray, List.set_cons_zero, List.set_cons_succ])
                refine wpAnyH_take (i := 8) (oi := { dst := some 158, op := Go.Op.pick (Go.Operand.tmp 153) (Go.Operand.const (Go.Value.bool true)) (Go.Operand.tmp 157), type := 4, pos := "law.go:79", after := #[{ on := 3, ground := Go.Ground.data }, { on := 7, ground := Go.Ground.data }], guard := none }) (v := ?_) rfl (by kernel_rfl) (by kernel_rfl) (by kernel_rfl) (fun _ _ _ h => h) (Or.inl ⟨by rfl, ?_⟩) (by assumption) ?_
                (rotate_left; focus (intro wS hSw; subst hSw; go_simp; (try rw [if_neg (by omega)]); try with_reducible rfl))
                (try simp only [Act.put, List.setIfInBounds_toArray, List.set_cons_zero, List.set_cons_succ])
                refine wpAnyH_take (i := 9) (oi := { dst := some 159, op := Go.Op.move (Go.Operand.tmp 158), type := 4, pos := "law.go:79", after := #[{ on := 8, ground := Go.Ground.data }, { on := 5, ground := Go.Ground.chain }], guard := none }) (v := ?_) rfl (by kernel_rfl) (by kernel_rfl) (by kernel_rfl) (fun _ _ _ h => h) (Or.inl ⟨by rfl, ?_⟩) (by assumption) ?_
                (rotate_left; focus (intro wS hSw; subst hSw; go_simp; (try rw [if_neg (by omega)]); try with_reducible rfl))
                (try simp only [Act.put, List.setIfInBounds_toArray, List.set_cons_zero, List.set_cons_succ])
                refine wpAnyH_take (i := 10) (oi := { dst := some 160, op := Go.Op.move (Go.Operand.tmp 5), type := 24, pos := "law.go:79", after := #[{ on := 9, ground := Go.Ground.guard }], guard := some (9, false) }) (v := ?_) rfl (by kernel_rfl) (by kernel_rfl) (by kernel_rfl) (fun _ _ _ h => h) (Or.inl ⟨by rfl, ?_⟩) (by assumption) ?_
                (rotate_left; focus (intro wS hSw; subst hSw; go_simp; (try rw [if_neg (by omega)]); try with_reducible rfl))
                (try simp only [Act.put, List.setIfInBounds_toArray, List.set_cons_zero, List.set_cons_succ])
                refine wpAnyH_take (i := 11) (oi := { dst := some 161, op := Go.Op.move (Go.Operand.tmp 1), type := 22, pos := "law.go:79", after := #[{ on := 9, ground := Go.Ground.guard }], guard := some (9, false) }) (v := ?_) rfl (by kernel_rfl) (by kernel_rfl) (by kernel_rfl) (fun _ _ _ h => h) (Or.inl ⟨by rfl, ?_⟩) (by assumption) ?_
                (rotate_left; focus (intro wS hSw; subst hSw; go_simp; (try rw [if_neg (by omega)]); try with_reducible rfl))
                (try simp only [Act.put, List.setIfInBounds_toArray, List.set_cons_zero, List.set_cons_succ])
                refine wpAnyH_take (i := 12) (oi := { dst := some 162, op := Go.Op.move (Go.Operand.tmp 9), type := 3, pos := "law.go:79", after := #[{ on := 9, ground := Go.Ground.guard }], guard := some (9, false) }) (v := ?_) rfl (by kernel_rfl) (by kernel_rfl) (by kernel_rfl) (fun _ _ _ h => h) (Or.inl ⟨by rfl, ?_⟩) (by assumption) ?_
                (rotate_left; focus (intro wS hSw; subst hSw; go_simp; (try rw [if_neg (by omega)]); try with_reducible rfl))
                (try simp only [Act.put, List.setIfInBounds_toArray, List.set_cons_zero, List.set_cons_succ])
                refine wpAnyH_take (i := 13) (oi := { dst := some 163, op := Go.Op.indexAddr 22 (Go.Operand.tmp 161) (Go.Operand.tmp 162), type := 0, pos := "law.go:79", after := #[{ on := 11, ground := Go.Ground.data }, { on := 12, ground := Go.Ground.data }, { on := 9, ground := Go.Ground.guard }], guard := some (9, false) }) (v := ?_) rfl (by kernel_rfl) (by kernel_rfl) (by kernel_rfl) (fun _ _ _ h => h) (Or.inl ⟨by rfl, ?_⟩) (by assumption) ?_
                (rotate_left; focus (intro wS hSw; subst hSw; go_simp; (try rw [if_neg (by omega)]); try with_reducible rfl))
                (try simp only [Act.put, List.setIfInBounds_toArray, List.set_cons_zero, List.set_cons_succ])
                refine wpAnyH_take (i := 14) (oi := { dst := some 164, op := Go.Op.fieldAddr 29 (Go.Operand.tmp 163) 1, type := 0, pos := "law.go:79", after := #[{ on := 13, ground := Go.Ground.data }, { on := 9, ground := Go.Ground.guard }], guard := some (9, false) }) (v := ?_) rfl (by kernel_rfl) (by kernel_rfl) (by kernel_rfl) (fun _ _ _ h => h) (Or.inl ⟨by rfl, ?_⟩) (by assumption) ?_
                (rotate_left; focus (intro wS hSw; subst hSw; go_simp; (try rw [if_neg (by omega)]); try with_reducible rfl))
                (try simp only [Act.put, List.setIfInBounds_toArray, List.set_cons_zero, List.set_cons_succ])
                refine wpAnyH_take (i := 15) (oi := { dst := some 165, op := Go.Op.load 9 (Go.Operand.tmp 164), type := 9, pos := "law.go:79", after := #[{ on := 14, ground := Go.Ground.data }, { on := 9, ground := Go.Ground.guard }], guard := some (9, false) }) (v := ?_) rfl (by kernel_rfl) (by kernel_rfl) (by kernel_rfl) (fun _ _ _ h => h) (Or.inl ⟨by rfl, ?_⟩) (by assumption) ?_
                (rotate_left; focus (intro wS hSw; subst hSw; go_simp; (try rw [if_neg (by omega)]); try with_reducible rfl))
                (try simp only [Act.put, List.setIfInBounds_toArray, List.set_cons_zero, List.set_cons_succ])
                refine wpAnyH_take (i := 17) (oi := { dst := some 167, op := Go.Op.move (Go.Operand.tmp 8), type := 22, pos := "law.go:79", after := #[{ on := 9, ground := Go.Ground.guard }], guard := some (9, false) }) (v := ?_) rfl (by kernel_rfl) (by kernel_rfl) (by kernel_rfl) (fun _ _ _ h => h) (Or.inl ⟨by rfl, ?_⟩) (by assumption) ?_
                (rotate_left; focus (intro wS hSw; subst hSw; go_simp; (try rw [if_neg (by omega)]); try with_reducible rfl))
                (try simp only [Act.put, List.setIfInBounds_toArray, List.set_cons_zero, List.set_cons_succ])
                refine wpAnyH_take (i := 18) (oi := { dst := some 168, op := Go.Op.move (Go.Operand.tmp 1), type := 22, pos := "law.go:79", after := #[{ on := 9, ground := Go.Ground.guard }], guard := some (9, false) }) (v := ?_) rfl (by kernel_rfl) (by kernel_rfl) (by kernel_rfl) (fun _ _ _ h => h) (Or.inl ⟨by rfl, ?_⟩) (by assumption) ?_
                (rotate_left; focus (intro wS hSw; subst hSw; go_simp; (try rw [if_neg (by omega)]); try with_reducible rfl))
                (try simp only [Act.put, List.setIfInBounds_toArray, List.set_cons_zero, List.set_cons_succ])
                refine wpAnyH_take (i := 19) (oi := { dst := some 169, op := Go.Op.move (Go.Operand.tmp 9), type := 3, pos := "law.go:79", after := #[{ on := 9, ground := Go.Ground.guard }], guard := some (9, false) }) (v := ?_) rfl (by kernel_rfl) (by kernel_rfl) (by kernel_rfl) (fun _ _ _ h => h) (Or.inl ⟨by rfl, ?_⟩) (by assumption) ?_
                (rotate_left; focus (intro wS hSw; subst hSw; go_simp; (try rw [if_neg (by omega)]); try with_reducible rfl))
                (try simp only [Act.put, List.setIfInBounds_toArray, List.set_cons_zero, List.set_cons_succ])
                refine wpAnyH_take (i := 20) (oi := { dst := some 170, op := Go.Op.indexAddr 22 (Go.Operand.tmp 168) (Go.Operand.tmp 169), type := 0, pos := "law.go:79", after := #[{ on := 18, ground := Go.Ground.data }, { on := 19, ground := Go.Ground.data }, { on := 9, ground := Go.Ground.guard }], guard := some (9, false) }) (v := ?_) rfl (by kernel_rfl) (by kernel_rfl) (by kernel_rfl) (fun _ _ _ h => h) (Or.inl ⟨by rfl, ?_⟩) (by assumption) ?_
                (rotate_left; focus (intro wS hSw; subst hSw; go_simp; (try rw [if_neg (by omega)]); try with_reducible rfl))
                (try simp only [Act.put, List.setIfInBounds_toArray, List.set_cons_zero, List.set_cons_succ])
                refine wpAnyH_take (i := 21) (oi := { dst := some 171, op := Go.Op.fieldAddr 29 (Go.Operand.tmp 170) 1, type := 0, pos := "law.go:79", after := #[{ on := 20, ground := Go.Ground.data }, { on := 9, ground := Go.Ground.guard }], guard := some (9, false) }) (v := ?_) rfl (by kernel_rfl) (by kernel_rfl) (by kernel_rfl) (fun _ _ _ h => h) (Or.inl ⟨by rfl, ?_⟩) (by assumption) ?_
                (rotate_left; focus (intro wS hSw; subst hSw; go_simp; (try rw [if_neg (by omega)]); try with_reducible rfl))
                (try simp only [Act.put, List.setIfInBounds_toArray, List.set_cons_zero, List.set_cons_succ])
                refine wpAnyH_take (i := 22) (oi := { dst := some 172, op := Go.Op.load 9 (Go.Operand.tmp 171), type := 9, pos := "law.go:79", after := #[{ on := 21, ground := Go.Ground.data }, { on := 9, ground := Go.Ground.guard }], guard := some (9, false) }) (v := ?_) rfl (by kernel_rfl) (by kernel_rfl) (by kernel_rfl) (fun _ _ _ h => h) (Or.inl ⟨by rfl, ?_⟩) (by assumption) ?_
                (rotate_left; focus (intro wS hSw; subst hSw; go_simp; (try rw [if_neg (by omega)]); try with_reducible rfl))
                (try simp only [Act.put, List.setIfInBounds_toArray, List.set_cons_zero, List.set_cons_succ])
                refine wpAnyH_ready (rs := [16]) (by kernel_rfl) (by simp) ?_
                refine AllReadyH.cons (o := { dst := some 166, op := Go.Op.call { callee := Go.Callee.value (Go.Operand.func 11), args := #[Go.Operand.tmp 160, Go.Operand.tmp 165], argTypes := #[24, 9] }, type := 3, pos := "law.go:79", after := #[{ on := 10, ground := Go.Ground.data }, { on := 15, ground := Go.Ground.data }, { on := 9, ground := Go.Ground.chain }, { on := 9, ground := Go.Ground.guard }], guard := some (9, false) }) rfl (fun K hK => ?_) AllReadyH.nil
                go_simp
                refine (of_any who _ (Qs.drew (w := wr.drew) HQ.out) hd.1).mono ?_
                rintro e y2 ⟨rfl, hy⟩
                subst hy
                (try go_wp2_with fail)
                refine hK.out _ _ (by (exact rfl)) (fun hHeld => ?_)
                clear hK K
                (try simp only [Act.put, List.setIfInBounds_toArray, List.set_cons_zero, List.set_cons_succ])
                refine wpAnyH_ready (rs := [23]) (by kernel_rfl) (by simp) ?_
                refine AllReadyH.cons (o := { dst := some 173, op := Go.Op.call { callee := Go.Callee.value (Go.Operand.func 7), args := #[Go.Operand.tmp 167, Go.Operand.tmp 172], argTypes := #[22, 9] }, type := 3, pos := "law.go:79", after := #[{ on := 17, ground := Go.Ground.data }, { on := 22, ground := Go.Ground.data }, { on := 16, ground := Go.Ground.chain }, { on := 9, ground := Go.Ground.guard }], guard := some (9, false) }) rfl (fun K hK => ?_) AllReadyH.nil
                go_simp
                refine (law_of done who _ _ _ (Sl.drew2 (Sl.drew2 HSD.out)) (by have := HDL.out; omega) HDB.out).mono ?_
                rintro e y3 ⟨rfl, hy⟩
                subst hy
                (try go_wp2_with fail)
                refine hK.out _ _ (by (exact rfl)) (fun hHeld => ?_)
                clear hK K
                (try simp only [Act.put, List.setIfInBounds_toArray, List.set_cons_zero, List.set_cons_succ])
                refine wpAnyH_take (i := 24) (oi := { dst := some 174, op := Go.Op.binOp Go.BinOp.neq 3 (Go.Operand.tmp 166) (Go.Operand.tmp 173) 3, type := 4, pos := "law.go:79", after := #[{ on := 16, ground := Go.Ground.data }, { on := 23, ground := Go.Ground.data }, { on := 9, ground := Go.Ground.guard }], guard := some (9, false) }) (v := ?_) rfl (by kernel_rfl) (by kernel_rfl) (by kernel_rfl) (fun _ _ _ h => h) (Or.inl ⟨by rfl, ?_⟩) (by assumption) ?_
                (rotate_left; focus (intro wS hSw; subst hSw; go_simp; (try rw [if_neg (by omega)]); try with_reducible rfl))
                (try simp only [Act.put, List.setIfInBounds_toArray, List.set_cons_zero, List.set_cons_succ])
                refine wpAnyH_take (i := 25) (oi := { dst := some 175, op := Go.Op.pick (Go.Operand.tmp 159) (Go.Operand.const (Go.Value.bool true)) (Go.Operand.tmp 174), type := 4, pos := "law.go:79", after := #[{ on := 9, ground := Go.Ground.data }, { on := 24, ground := Go.Ground.data }], guard := none }) (v := ?_) rfl (by kernel_rfl) (by kernel_rfl) (by kernel_rfl) (fun _ _ _ h => h) (Or.inl ⟨by rfl, ?_⟩) (by assumption) ?_
                (rotate_left; focus (intro wS hSw; subst hSw; go_simp; (try rw [if_neg (by omega)]); try with_reducible rfl))
                (try simp only [Act.put, List.setIfInBounds_toArray, List.set_cons_zero, List.set_cons_succ])
                refine wpAnyH_done (by kernel_rfl) ?_ _
                go_wp2
                go_roundw
                case rel =>
                  exact ⟨k + 1, done, kk, by omega, by go_num, by rw [HL.out], by have := HDL.out; omega, by omega, HDB.out, HPOS.out, by rw [HL.out]; exact hlf, HO.out, by rw [HL.out]; exact HQ.out, HB.out.drew.drew, HWS.out⟩
                case measure => simp [intOf]; omega
          | false =>
            by_cases hno : n ≤ L
            · as_aux_lemma =>
                have d2 : decide ((1 : Int) ≤ n) = true := decide_eq_true hlow
                have d4 : decide (n ≤ L) = true := decide_eq_true hno
                go_wp2_with fail
                refine (law_of done who _ _ _ HSD.out (by have := HDL.out; omega) HDB.out).mono ?_
                rintro e x0 ⟨rfl, hx⟩
                obtain rfl : wr = x0 := hx.symm
                clear hx
                go_wp2_with fail
                have hP0 : wr.drew.cell? ⟨b2, o2 + k * 3 + 1, none⟩ = some (.string who) ∧ wr.drew.cell? ⟨b2, o2 + k * 3 + 2, none⟩ = some (.int .i64 n) := ⟨c1, c2⟩
                refine wp_region_held_drew (S := fun w' => w'.cell? ⟨b2, o2 + k * 3 + 1, none⟩ = some (.string who) ∧ w'.cell? ⟨b2, o2 + k * 3 + 2, none⟩ = some (.int .i64 n)) (by kernel_rfl) (by (first | exact hP0 | exact hP1)) (fun hHeld => ?_)
                refine wpAnyH_take (i := 0) (oi := { dst := some 111, op := Go.Op.move (Go.Operand.tmp 5), type := 24, pos := "law.go:69", after := #[], guard := none }) (v := ?_) rfl (by kernel_rfl) (by kernel_rfl) (by kernel_rfl) (fun _ _ _ h => h) (Or.inl ⟨by rfl, ?_⟩) (by assumption) ?_
                (rotate_left; focus (intro wS hSw; have s1 := hSw.1; have s2 := hSw.2; clear hSw; go_simp; (try rw [if_neg (by omega)]); try with_reducible rfl))
                (try simp only [Act.put, List.setIfInBounds_toArray, List.set_cons_zero, List.set_cons_succ])
                refine wpAnyH_take (i := 1) (oi := { dst := some 112, op := Go.Op.move (Go.Operand.tmp 1), type := 22, pos := "law.go:69", after := #[], guard := none }) (v := ?_) rfl (by kernel_rfl) (by kernel_rfl) (by kernel_rfl) (fun _ _ _ h => h) (Or.inl ⟨by rfl, ?_⟩) (by assumption) ?_
                (rotate_left; focus (intro wS hSw; have s1 := hSw.1; have s2 := hSw.2; clear hSw; go_simp; (try rw [if_neg (by omega)]); try with_reducible rfl))
                (try simp only [Act.put, List.setIfInBounds_toArray, List.set_cons_zero, List.set_cons_succ])
                refine wpAnyH_take (i := 2) (oi := { dst := some 113, op := Go.Op.move (Go.Operand.tmp 9), type := 3, pos := "law.go:69", after := #[], guard := none }) (v := ?_) rfl (by kernel_rfl) (by kernel_rfl) (by kernel_rfl) (fun _ _ _ h => h) (Or.inl ⟨by rfl, ?_⟩) (by assumption) ?_
                (rotate_left; focus (intro wS hSw; have s1 := hSw.1; have s2 := hSw.2; clear hSw; go_simp; (try rw [if_neg (by omega)]); try with_reducible rfl))
                (try simp only [Act.put, List.setIfInBounds_toArray, List.set_cons_zero, List.set_cons_succ])
                refine wpAnyH_take (i := 3) (oi := { dst := some 114, op := Go.Op.indexAddr 22 (Go.Operand.tmp 112) (Go.Operand.tmp 113), type := 0, pos := "law.go:69", after := #[{ on := 1, ground := Go.Ground.data }, { on := 2, ground := Go.Ground.data }], guard := none }) (v := ?_) rfl (by kernel_rfl) (by kernel_rfl) (by kernel_rfl) (fun _ _ _ h => h) (Or.inl ⟨by rfl, ?_⟩) (by assumption) ?_
                (rotate_left; focus (intro wS hSw; have s1 := hSw.1; have s2 := hSw.2; clear hSw; go_simp; (try rw [if_neg (by omega)]); try with_reducible rfl))
                (try simp only [Act.put, List.setIfInBounds_toArray, List.set_cons_zero, List.set_cons_succ])
                refine wpAnyH_take (i := 4) (oi := { dst := some 115, op := Go.Op.fieldAddr 29 (Go.Operand.tmp 114) 1, type := 0, pos := "law.go:69", after := #[{ on := 3, ground := Go.Ground.data }], guard := none }) (v := ?_) rfl (by kernel_rfl) (by kernel_rfl) (by kernel_rfl) (fun _ _ _ h => h) (Or.inl ⟨by rfl, ?_⟩) (by assumption) ?_
                (rotate_left; focus (intro wS hSw; have s1 := hSw.1; have s2 := hSw.2; clear hSw; go_simp; (try rw [if_neg (by omega)]); try with_reducible rfl))
                (try simp only [Act.put, List.setIfInBounds_toArray, List.set_cons_zero, List.set_cons_succ])
                refine wpAnyH_take (i := 5) (oi := { dst := some 116, op := Go.Op.load 9 (Go.Operand.tmp 115), type := 9, pos := "law.go:69", after := #[{ on := 4, ground := Go.Ground.data }], guard := none }) (v := ?_) rfl (by kernel_rfl) (by kernel_rfl) (by kernel_rfl) (fun _ _ _ h => h) (Or.inl ⟨by rfl, ?_⟩) (by assumption) ?_
                (rotate_left; focus (intro wS hSw; have s1 := hSw.1; have s2 := hSw.2; clear hSw; go_simp; (try rw [if_neg (by omega)]); try with_reducible rfl))
                (try simp only [Act.put, List.setIfInBounds_toArray, List.set_cons_zero, List.set_cons_succ])
                refine wpAnyH_take (i := 6) (oi := { dst := some 117, op := Go.Op.move (Go.Operand.tmp 1), type := 22, pos := "law.go:69", after := #[], guard := none }) (v := ?_) rfl (by kernel_rfl) (by kernel_rfl) (by kernel_rfl) (fun _ _ _ h => h) (Or.inl ⟨by rfl, ?_⟩) (by assumption) ?_
                (rotate_left; focus (intro wS hSw; have s1 := hSw.1; have s2 := hSw.2; clear hSw; go_simp; (try rw [if_neg (by omega)]); try with_reducible rfl))
                (try simp only [Act.put, List.setIfInBounds_toArray, List.set_cons_zero, List.set_cons_succ])
                refine wpAnyH_take (i := 7) (oi := { dst := some 118, op := Go.Op.move (Go.Operand.tmp 9), type := 3, pos := "law.go:69", after := #[], guard := none }) (v := ?_) rfl (by kernel_rfl) (by kernel_rfl) (by kernel_rfl) (fun _ _ _ h => h) (Or.inl ⟨by rfl, ?_⟩) (by assumption) ?_
                (rotate_left; focus (intro wS hSw; have s1 := hSw.1; have s2 := hSw.2; clear hSw; go_simp; (try rw [if_neg (by omega)]); try with_reducible rfl))
                (try simp only [Act.put, List.setIfInBounds_toArray, List.set_cons_zero, List.set_cons_succ])
                refine wpAnyH_take (i := 8) (oi := { dst := some 119, op := Go.Op.indexAddr 22 (Go.Operand.tmp 117) (Go.Operand.tmp 118), type := 0, pos := "law.go:69", after := #[{ on := 6, ground := Go.Ground.data }, { on := 7, ground := Go.Ground.data }], guard := none }) (v := ?_) rfl (by kernel_rfl) (by kernel_rfl) (by kernel_rfl) (fun _ _ _ h => h) (Or.inl ⟨by rfl, ?_⟩) (by assumption) ?_
                (rotate_left; focus (intro wS hSw; have s1 := hSw.1; have s2 := hSw.2; clear hSw; go_simp; (try rw [if_neg (by omega)]); try with_reducible rfl))
                (try simp only [Act.put, List.setIfInBounds_toArray, List.set_cons_zero, List.set_cons_succ])
                refine wpAnyH_take (i := 9) (oi := { dst := some 120, op := Go.Op.fieldAddr 29 (Go.Operand.tmp 119) 2, type := 0, pos := "law.go:69", after := #[{ on := 8, ground := Go.Ground.data }], guard := none }) (v := ?_) rfl (by kernel_rfl) (by kernel_rfl) (by kernel_rfl) (fun _ _ _ h => h) (Or.inl ⟨by rfl, ?_⟩) (by assumption) ?_
                (rotate_left; focus (intro wS hSw; have s1 := hSw.1; have s2 := hSw.2; clear hSw; go_simp; (try rw [if_neg (by omega)]); try with_reducible rfl))
                (try simp only [Act.put, List.setIfInBounds_toArray, List.set_cons_zero, List.set_cons_succ])
                refine wpAnyH_take (i := 10) (oi := { dst := some 121, op := Go.Op.load 3 (Go.Operand.tmp 120), type := 3, pos := "law.go:69", after := #[{ on := 9, ground := Go.Ground.data }], guard := none }) (v := ?_) rfl (by kernel_rfl) (by kernel_rfl) (by kernel_rfl) (fun _ _ _ h => h) (Or.inl ⟨by rfl, ?_⟩) (by assumption) ?_
                (rotate_left; focus (intro wS hSw; have s1 := hSw.1; have s2 := hSw.2; clear hSw; go_simp; (try rw [if_neg (by omega)]); try with_reducible rfl))
                (try simp only [Act.put, List.setIfInBounds_toArray, List.set_cons_zero, List.set_cons_succ])
                refine wpAnyH_ready (rs := [11]) (by kernel_rfl) (by simp) ?_
                refine AllReadyH.cons (o := { dst := some 122, op := Go.Op.call { callee := Go.Callee.value (Go.Operand.func 9), args := #[Go.Operand.tmp 111, Go.Operand.tmp 116, Go.Operand.tmp 121], argTypes := #[24, 9, 3] }, type := 4, pos := "law.go:69", after := #[{ on := 0, ground := Go.Ground.data }, { on := 5, ground := Go.Ground.data }, { on := 10, ground := Go.Ground.data }], guard := none }) rfl (fun K hK => ?_) AllReadyH.nil
                go_simp
                refine (take_yes who n _ HQ.out.drew hd.1 (by unfold maxLen; omega) ⟨hlow, hno⟩ (by omega) ⟨HF0.out, HF.out⟩).mono ?_
                rintro e x4 ⟨rfl, hq4, hk4⟩
                have HB4 : Hid (Below w.heap.size w x4) := Lib.hid (HB.out.drew.trans (hk4.below HB.out.size (fun i hi => by have := HW2.out; omega)))
                have HO4 := Lib.hid (own_kp (w := wr.drew) HO.out hk4 (fun g hg => by have := HW2.out; omega))
                have HQ4 := Lib.hid hq4
                have HS4 := Lib.hid hk4.size
                clear hq4 hk4
                have hP1 := (HLK.out x4 HB4.out).2
                (try go_wp2_with fail)
                refine hK.out _ _ (by (first | exact hP0 | exact hP1)) (fun hHeld => ?_)
                clear hK K
                (try simp only [Act.put, List.setIfInBounds_toArray, List.set_cons_zero, List.set_cons_succ])
                refine wpAnyH_take (i := 12) (oi := { dst := some 12, op := Go.Op.assign (Go.Operand.tmp 122), type := 4, pos := "law.go:69", after := #[{ on := 11, ground := Go.Ground.data }, { on := 11, ground := Go.Ground.chain }, { on := 0, ground := Go.Ground.phase }, { on := 1, ground := Go.Ground.phase }, { on := 2, ground := Go.Ground.phase }, { on := 3, ground := Go.Ground.phase }, { on := 4, ground := Go.Ground.phase }, { on := 5, ground := Go.Ground.phase }, { on := 6, ground := Go.Ground.phase }, { on := 7, ground := Go.Ground.phase }, { on := 8, ground := Go.Ground.phase }, { on := 9, ground := Go.Ground.phase }, { on := 10, ground := Go.Ground.phase }, { on := 11, ground := Go.Ground.phase }], guard := none }) (v := ?_) rfl (by kernel_rfl) (by kernel_rfl) (by kernel_rfl) (fun _ _ _ h => h) (Or.inl ⟨by rfl, ?_⟩) (by assumption) ?_
                (rotate_left; focus (intro wS hSw; have s1 := hSw.1; have s2 := hSw.2; clear hSw; go_simp; (try rw [if_neg (by omega)]); try with_reducible rfl))
                (try simp only [Act.put, List.setIfInBounds_toArray, List.set_cons_zero, List.set_cons_succ])
                refine wpAnyH_done (by kernel_rfl) ?_ _
                clear hP0 hP1
                have c0 := (HLK.out x4 HB4.out).1
                have c1 := (HLK.out x4 HB4.out).2.1
                have c2 := (HLK.out x4 HB4.out).2.2
                go_wp2_with (at_builtin; refine wpList_append_own _ rfl _ _ 22 rfl w1.heap.size 29 i0 (.agg #[.bool false, .string ByteArray.empty, .int .i64 0]) 3 32 Try.underlying22 hi hz0 hz1 hz2 rfl (by decide) _ _ _ rfl (HO4.out.alloc _) ⟨x4.heap.size, 0, none⟩ 1 1 [.bool false, .string who, .int .i64 n] rfl rfl ?a1 ?a2 ?a3 ?a4 ?a5 ?_)
                case a1 => intro j u hj; exact new_cells _ _ _ j u hj
                case a2 => intro u hu; simp at hu; rcases hu with rfl | rfl | rfl <;> rfl
                case a3 => have := HDL.out; unfold maxLen; omega
                case a4 => have := HDL.out; omega
                case a5 => have h1 := HWS.out; have h2 := HS4.out; simp at h2 ⊢; omega
                intro v5 x5 hown5 hg5 _
                have HB5 : Hid (Below w.heap.size w x5) := Lib.hid ((HB4.out.alloc HB4.out.size _).grown hg5 (by have := HB4.out.size; simp; omega) (fun q hq => Nat.le_trans HB0.out.size (HO4.out.lt q hq).1))
                have HK5 : Hid (Kp (fun i => w1.heap.size ≤ i) x4 x5) := Lib.hid (((Kp.refl _ x4).alloc _).trans (Kp.grown hg5 (fun q hq => (HO4.out.lt q hq).1)))
                obtain ⟨dn5, hdn⟩ : ∃ x, x = done ++ [(false, who, n)] := ⟨_, rfl⟩
                have HO5 : Hid (x5.ownsRow w1.heap.size 29 3 v5 dn5.length (dn5.flatMap encD)) := Lib.hid (by rw [hdn, List.length_append, List.flatMap_append]; exact hown5)
                have HL5 : Hid (L - n = most - total dn5) := Lib.hid (by rw [hdn, total_snoc, ← HL.out]; simp; omega)
                have HQ5 : Hid (Qs x5 p b (kk + 1) (ofL dn5) (L - n)) := Lib.hid (by have h9 := HQ4.out.kp HK5.out (by have := HW2.out; omega) (by have := HW2.out; omega); rw [hdn, ofL_upd]; exact h9)
                have c0 := (HLK.out x5 HB5.out).1
                have c1 := (HLK.out x5 HB5.out).2.1
                have c2 := (HLK.out x5 HB5.out).2.2
                have w2 : wrap64 (L - n) = L - n := wrap64_id (by have := HF.out; omega) (by have := HF.out; omega)
                clear hown5 hg5
                go_wp2_with fail
                have HDB5 : Hid (∀ x ∈ dn5, 1 ≤ x.2.2 ∧ x.2.2 ≤ 9007199254740992) := Lib.hid (by rw [hdn]; intro x hx; rcases List.mem_append.1 hx with h | h; exact HDB.out x h; rw [List.mem_singleton.1 h]; have := HF.out; exact ⟨hlow, by dsimp only; omega⟩)
                have HDL5 : Hid (dn5.length ≤ k + 1) := Lib.hid (by have := HDL.out; rw [hdn]; simp; omega)
                have HDN := Lib.hid hdn
                clear hdn
                obtain ⟨a5, cd5, rfl, _, hsd5⟩ := own_sl (size := 3) (fun _ => rfl) (by decide) HO5.out
                have HSD5 := Lib.hid hsd5
                clear hsd5
                have c1 : x5.drew.cell? ⟨b2, o2 + k * 3 + 1, none⟩ = some (.string who) := c1
                refine wp_region_held_drew (S := fun w' => w' = x5.drew) (by kernel_rfl) (by (exact rfl)) (fun hHeld => ?_)
                refine wpAnyH_take (i := 0) (oi := { dst := some 150, op := Go.Op.move (Go.Operand.tmp 12), type := 4, pos := "law.go:79", after := #[], guard := none }) (v := ?_) rfl (by kernel_rfl) (by kernel_rfl) (by kernel_rfl) (fun _ _ _ h => h) (Or.inl ⟨by rfl, ?_⟩) (by assumption) ?_
                (rotate_left; focus (intro wS hSw; subst hSw; go_simp; (try rw [if_neg (by omega)]); try with_reducible rfl))
                (try simp only [Act.put, List.setIfInBounds_toArray, List.set_cons_zero, List.set_cons_succ])
                refine wpAnyH_take (i := 1) (oi := { dst := some 151, op := Go.Op.move (Go.Operand.tmp 11), type := 4, pos := "law.go:79", after := #[], guard := none }) (v := ?_) rfl (by kernel_rfl) (by kernel_rfl) (by kernel_rfl) (fun _ _ _ h => h) (Or.inl ⟨by rfl, ?_⟩) (by assumption) ?_
                (rotate_left; focus (intro wS hSw; subst hSw; go_simp; (try rw [if_neg (by omega)]); try with_reducible rfl))
                (try simp only [Act.put, List.setIfInBounds_toArray, List.set_cons_zero, List.set_cons_succ])
                refine wpAnyH_take (i := 2) (oi := { dst := some 152, op := Go.Op.binOp Go.BinOp.neq 4 (Go.Operand.tmp 150) (Go.Operand.tmp 151) 4, type := 4, pos := "law.go:79", after := #[{ on := 0, ground := Go.Ground.data }, { on := 1, ground := Go.Ground.data }], guard := none }) (v := ?_) rfl (by kernel_rfl) (by kernel_rfl) (by kernel_rfl) (fun _ _ _ h => h) (Or.inl ⟨by rfl, ?_⟩) (by assumption) ?_
                (rotate_left; focus (intro wS hSw; subst hSw; go_simp; (try rw [if_neg (by omega)]); try with_reducible rfl))
                (try simp only [Act.put, List.setIfInBounds_toArray, List.set_cons_zero, List.set_cons_succ])
                refine wpAnyH_take (i := 3) (oi := { dst := some 153, op := Go.Op.move (Go.Operand.tmp 152), type := 4, pos := "law.go:79", after := #[{ on := 2, ground := Go.Ground.data }], guard := none }) (v := ?_) rfl (by kernel_rfl) (by kernel_rfl) (by kernel_rfl) (fun _ _ _ h => h) (Or.inl ⟨by rfl, ?_⟩) (by assumption) ?_
                (rotate_left; focus (intro wS hSw; subst hSw; go_simp; (try rw [if_neg (by omega)]); try with_reducible rfl))
                (try simp only [Act.put, List.setIfInBounds_toArray, List.set_cons_zero, List.set_cons_succ])
                refine wpAnyH_take (i := 4) (oi := { dst := some 154, op := Go.Op.move (Go.Operand.tmp 5), type := 24, pos := "law.go:79", after := #[{ on := 3, ground := Go.Ground.guard }], guard := some (3, false) }) (v := ?_) rfl (by kernel_rfl) (by kernel_rfl) (by kernel_rfl) (fun _ _ _ h => h) (Or.inl ⟨by rfl, ?_⟩) (by assumption) ?_
                (rotate_left; focus (intro wS hSw; subst hSw; go_simp; (try rw [if_neg (by omega)]); try with_reducible rfl))
                (try simp only [Act.put, List.setIfInBounds_toArray, List.set_cons_zero, List.set_cons_succ])
                refine wpAnyH_take (i := 6) (oi := { dst := some 156, op := Go.Op.move (Go.Operand.tmp 7), type := 3, pos := "law.go:79", after := #[{ on := 3, ground := Go.Ground.guard }], guard := some (3, false) }) (v := ?_) rfl (by kernel_rfl) (by kernel_rfl) (by kernel_rfl) (fun _ _ _ h => h) (Or.inl ⟨by rfl, ?_⟩) (by assumption) ?_
                (rotate_left; focus (intro wS hSw; subst hSw; go_simp; (try rw [if_neg (by omega)]); try with_reducible rfl))
                (try simp only [Act.put, List.setIfInBounds_toArray, List.set_cons_zero, List.set_cons_succ])
                refine wpAnyH_ready (rs := [5]) (by kernel_rfl) (by simp) ?_
                refine AllReadyH.cons (o := { dst := some 155, op := Go.Op.call { callee := Go.Callee.value (Go.Operand.func 10), args := #[Go.Operand.tmp 154], argTypes := #[24] }, type := 3, pos := "law.go:79", after := #[{ on := 4, ground := Go.Ground.data }, { on := 3, ground := Go.Ground.chain }, { on := 3, ground := Go.Ground.guard }], guard := some (3, false) }) rfl (fun K hK => ?_) AllReadyH.nil
                go_simp
                refine (left_any _ (Qs.drew (w := x5) HQ5.out)).mono ?_
                rintro e y1 ⟨rfl, hy⟩
                subst hy
                (try go_wp2_with fail)
                refine hK.out _ _ (by (exact rfl)) (fun hHeld => ?_)
                clear hK K
                (try simp only [Act.put, List.setIfInBounds_toArray, List.set_cons_zero, List.set_cons_succ])
                refine wpAnyH_take (i := 7) (oi := { dst := some 157, op := Go.Op.binOp Go.BinOp.neq 3 (Go.Operand.tmp 155) (Go.Operand.tmp 156) 3, type := 4, pos := "law.go:79", after := #[{ on := 5, ground := Go.Ground.data }, { on := 6, ground := Go.Ground.data }, { on := 3, ground := Go.Ground.guard }], guard := some (3, false) }) (v := ?_) rfl (by kernel_rfl) (by kernel_rfl) (by kernel_rfl) (fun _ _ _ h => h) (Or.inl ⟨by rfl, ?_⟩) (by assumption) ?_
                (rotate_left; focus (intro wS hSw; subst hSw; go_simp; (try rw [if_neg (by omega)]); try with_reducible rfl))
                (try simp only [Act.put, List.setIfInBounds_toArray, List.set_cons_zero, List.set_cons_succ])
                refine wpAnyH_take (i := 8) (oi := { dst := some 158, op := Go.Op.pick (Go.Operand.tmp 153) (Go.Operand.const (Go.Value.bool true)) (Go.Operand.tmp 157), type := 4, pos := "law.go:79", after := #[{ on := 3, ground := Go.Ground.data }, { on := 7, ground := Go.Ground.data }], guard := none }) (v := ?_) rfl (by kernel_rfl) (by kernel_rfl) (by kernel_rfl) (fun _ _ _ h => h) (Or.inl ⟨by rfl, ?_⟩) (by assumption) ?_
                (rotate_left; focus (intro wS hSw; subst hSw; go_simp; (try rw [if_neg (by omega)]); try with_reducible rfl))
                (try simp only [Act.put, List.setIfInBounds_toArray, List.set_cons_zero, List.set_cons_succ])
                refine wpAnyH_take (i := 9) (oi := { dst := some 159, op := Go.Op.move (Go.Operand.tmp 158), type := 4, pos := "law.go:79", after := #[{ on := 8, ground := Go.Ground.data }, { on := 5, ground := Go.Ground.chain }], guard := none }) (v := ?_) rfl (by kernel_rfl) (by kernel_rfl) (by kernel_rfl) (fun _ _ _ h => h) (Or.inl ⟨by rfl, ?_⟩) (by assumption) ?_
                (rotate_left; focus (intro wS hSw; subst hSw; go_simp; (try rw [if_neg (by omega)]); try with_reducible rfl))
                (try simp only [Act.put, List.setIfInBounds_toArray, List.set_cons_zero, List.set_cons_succ])
                refine wpAnyH_take (i := 10) (oi := { dst := some 160, op := Go.Op.move (Go.Operand.tmp 5), type := 24, pos := "law.go:79", after := #[{ on := 9, ground := Go.Ground.guard }], guard := some (9, false) }) (v := ?_) rfl (by kernel_rfl) (by kernel_rfl) (by kernel_rfl) (fun _ _ _ h => h) (Or.inl ⟨by rfl, ?_⟩) (by assumption) ?_
                (rotate_left; focus (intro wS hSw; subst hSw; go_simp; (try rw [if_neg (by omega)]); try with_reducible rfl))
                (try simp only [Act.put, List.setIfInBounds_toArray, List.set_cons_zero, List.set_cons_succ])
                refine wpAnyH_take (i := 11) (oi := { dst := some 161, op := Go.Op.move (Go.Operand.tmp 1), type := 22, pos := "law.go:79", after := #[{ on := 9, ground := Go.Ground.guard }], guard := some (9, false) }) (v := ?_) rfl (by kernel_rfl) (by kernel_rfl) (by kernel_rfl) (fun _ _ _ h => h) (Or.inl ⟨by rfl, ?_⟩) (by assumption) ?_
                (rotate_left; focus (intro wS hSw; subst hSw; go_simp; (try rw [if_neg (by omega)]); try with_reducible rfl))
                (try simp only [Act.put, List.setIfInBounds_toArray, List.set_cons_zero, List.set_cons_succ])
                refine wpAnyH_take (i := 12) (oi := { dst := some 162, op := Go.Op.move (Go.Operand.tmp 9), type := 3, pos := "law.go:79", after := #[{ on := 9, ground := Go.Ground.guard }], guard := some (9, false) }) (v := ?_) rfl (by kernel_rfl) (by kernel_rfl) (by kernel_rfl) (fun _ _ _ h => h) (Or.inl ⟨by rfl, ?_⟩) (by assumption) ?_
                (rotate_left; focus (intro wS hSw; subst hSw; go_simp; (try rw [if_neg (by omega)]); try with_reducible rfl))
                (try simp only [Act.put, List.setIfInBounds_toArray, List.set_cons_zero, List.set_cons_succ])
                refine wpAnyH_take (i := 13) (oi := { dst := some 163, op := Go.Op.indexAddr 22 (Go.Operand.tmp 161) (Go.Operand.tmp 162), type := 0, pos := "law.go:79", after := #[{ on := 11, ground := Go.Ground.data }, { on := 12, ground := Go.Ground.data }, { on := 9, ground := Go.Ground.guard }], guard := some (9, false) }) (v := ?_) rfl (by kernel_rfl) (by kernel_rfl) (by kernel_rfl) (fun _ _ _ h => h) (Or.inl ⟨by rfl, ?_⟩) (by assumption) ?_
                (rotate_left; focus (intro wS hSw; subst hSw; go_simp; (try rw [if_neg (by omega)]); try with_reducible rfl))
                (try simp only [Act.put, List.setIfInBounds_toArray, List.set_cons_zero, List.set_cons_succ])
                refine wpAnyH_take (i := 14) (oi := { dst := some 164, op := Go.Op.fieldAddr 29 (Go.Operand.tmp 163) 1, type := 0, pos := "law.go:79", after := #[{ on := 13, ground := Go.Ground.data }, { on := 9, ground := Go.Ground.guard }], guard := some (9, false) }) (v := ?_) rfl (by kernel_rfl) (by kernel_rfl) (by kernel_rfl) (fun _ _ _ h => h) (Or.inl ⟨by rfl, ?_⟩) (by assumption) ?_
                (rotate_left; focus (intro wS hSw; subst hSw; go_simp; (try rw [if_neg (by omega)]); try with_reducible rfl))
                (try simp only [Act.put, List.setIfInBounds_toArray, List.set_cons_zero, List.set_cons_succ])
                refine wpAnyH_take (i := 15) (oi := { dst := some 165, op := Go.Op.load 9 (Go.Operand.tmp 164), type := 9, pos := "law.go:79", after := #[{ on := 14, ground := Go.Ground.data }, { on := 9, ground := Go.Ground.guard }], guard := some (9, false) }) (v := ?_) rfl (by kernel_rfl) (by kernel_rfl) (by kernel_rfl) (fun _ _ _ h => h) (Or.inl ⟨by rfl, ?_⟩) (by assumption) ?_
                (rotate_left; focus (intro wS hSw; subst hSw; go_simp; (try rw [if_neg (by omega)]); try with_reducible rfl))
                (try simp only [Act.put, List.setIfInBounds_toArray, List.set_cons_zero, List.set_cons_succ])
                refine wpAnyH_take (i := 17) (oi := { dst := some 167, op := Go.Op.move (Go.Operand.tmp 8), type := 22, pos := "law.go:79", after := #[{ on := 9, ground := Go.Ground.guard }], guard := some (9, false) }) (v := ?_) rfl (by kernel_rfl) (by kernel_rfl) (by kernel_rfl) (fun _ _ _ h => h) (Or.inl ⟨by rfl, ?_⟩) (by assumption) ?_
                (rotate_left; focus (intro wS hSw; subst hSw; go_simp; (try rw [if_neg (by omega)]); try with_reducible rfl))
                (try simp only [Act.put, List.setIfInBounds_toArray, List.set_cons_zero, List.set_cons_succ])
                refine wpAnyH_take (i := 18) (oi := { dst := some 168, op := Go.Op.move (Go.Operand.tmp 1), type := 22, pos := "law.go:79", after := #[{ on := 9, ground := Go.Ground.guard }], guard := some (9, false) }) (v := ?_) rfl (by kernel_rfl) (by kernel_rfl) (by kernel_rfl) (fun _ _ _ h => h) (Or.inl ⟨by rfl, ?_⟩) (by assumption) ?_
                (rotate_left; focus (intro wS hSw; subst hSw; go_simp; (try rw [if_neg (by omega)]); try with_reducible rfl))
                (try simp only [Act.put, List.setIfInBounds_toArray, List.set_cons_zero, List.set_cons_succ])
                refine wpAnyH_take (i := 19) (oi := { dst := some 169, op := Go.Op.move (Go.Operand.tmp 9), type := 3, pos := "law.go:79", after := #[{ on := 9, ground := Go.Ground.guard }], guard := some (9, false) }) (v := ?_) rfl (by kernel_rfl) (by kernel_rfl) (by kernel_rfl) (fun _ _ _ h => h) (Or.inl ⟨by rfl, ?_⟩) (by assumption) ?_
                (rotate_left; focus (intro wS hSw; subst hSw; go_simp; (try rw [if_neg (by omega)]); try with_reducible rfl))
                (try simp only [Act.put, List.setIfInBounds_toArray, List.set_cons_zero, List.set_cons_succ])
                refine wpAnyH_take (i := 20) (oi := { dst := some 170, op := Go.Op.indexAddr 22 (Go.Operand.tmp 168) (Go.Operand.tmp 169), type := 0, pos := "law.go:79", after := #[{ on := 18, ground := Go.Ground.data }, { on := 19, ground := Go.Ground.data }, { on := 9, ground := Go.Ground.guard }], guard := some (9, false) }) (v := ?_) rfl (by kernel_rfl) (by kernel_rfl) (by kernel_rfl) (fun _ _ _ h => h) (Or.inl ⟨by rfl, ?_⟩) (by assumption) ?_
                (rotate_left; focus (intro wS hSw; subst hSw; go_simp; (try rw [if_neg (by omega)]); try with_reducible rfl))
                (try simp only [Act.put, List.setIfInBounds_toArray, List.set_cons_zero, List.set_cons_succ])
                refine wpAnyH_take (i := 21) (oi := { dst := some 171, op := Go.Op.fieldAddr 29 (Go.Operand.tmp 170) 1, type := 0, pos := "law.go:79", after := #[{ on := 20, ground := Go.Ground.data }, { on := 9, ground := Go.Ground.guard }], guard := some (9, false) }) (v := ?_) rfl (by kernel_rfl) (by kernel_rfl) (by kernel_rfl) (fun _ _ _ h => h) (Or.inl ⟨by rfl, ?_⟩) (by assumption) ?_
                (rotate_left; focus (intro wS hSw; subst hSw; go_simp; (try rw [if_neg (by omega)]); try with_reducible rfl))
                (try simp only [Act.put, List.setIfInBounds_toArray, List.set_cons_zero, List.set_cons_succ])
                refine wpAnyH_take (i := 22) (oi := { dst := some 172, op := Go.Op.load 9 (Go.Operand.tmp 171), type := 9, pos := "law.go:79", after := #[{ on := 21, ground := Go.Ground.data }, { on := 9, ground := Go.Ground.guard }], guard := some (9, false) }) (v := ?_) rfl (by kernel_rfl) (by kernel_rfl) (by kernel_rfl) (fun _ _ _ h => h) (Or.inl ⟨by rfl, ?_⟩) (by assumption) ?_
                (rotate_left; focus (intro wS hSw; subst hSw; go_simp; (try rw [if_neg (by omega)]); try with_reducible rfl))
                (try simp only [Act.put, List.setIfInBounds_toArray, List.set_cons_zero, List.set_cons_succ])
                refine wpAnyH_ready (rs := [16]) (by kernel_rfl) (by simp) ?_
                refine AllReadyH.cons (o := { dst := some 166, op := Go.Op.call { callee := Go.Callee.value (Go.Operand.func 11), args := #[Go.Operand.tmp 160, Go.Operand.tmp 165], argTypes := #[24, 9] }, type := 3, pos := "law.go:79", after := #[{ on := 10, ground := Go.Ground.data }, { on := 15, ground := Go.Ground.data }, { on := 9, ground := Go.Ground.chain }, { on := 9, ground := Go.Ground.guard }], guard := some (9, false) }) rfl (fun K hK => ?_) AllReadyH.nil
                go_simp
                refine (of_any who _ (Qs.drew (w := x5) HQ5.out) hd.1).mono ?_
                rintro e y2 ⟨rfl, hy⟩
                subst hy
                (try go_wp2_with fail)
                refine hK.out _ _ (by (exact rfl)) (fun hHeld => ?_)
                clear hK K
                (try simp only [Act.put, List.setIfInBounds_toArray, List.set_cons_zero, List.set_cons_succ])
                refine wpAnyH_ready (rs := [23]) (by kernel_rfl) (by simp) ?_
                refine AllReadyH.cons (o := { dst := some 173, op := Go.Op.call { callee := Go.Callee.value (Go.Operand.func 7), args := #[Go.Operand.tmp 167, Go.Operand.tmp 172], argTypes := #[22, 9] }, type := 3, pos := "law.go:79", after := #[{ on := 17, ground := Go.Ground.data }, { on := 22, ground := Go.Ground.data }, { on := 16, ground := Go.Ground.chain }, { on := 9, ground := Go.Ground.guard }], guard := some (9, false) }) rfl (fun K hK => ?_) AllReadyH.nil
                go_simp
                refine (law_of dn5 who _ _ _ (Sl.drew2 HSD5.out) (by have := HDL5.out; omega) HDB5.out).mono ?_
                rintro e y3 ⟨rfl, hy⟩
                subst hy
                (try go_wp2_with fail)
                refine hK.out _ _ (by (exact rfl)) (fun hHeld => ?_)
                clear hK K
                (try simp only [Act.put, List.setIfInBounds_toArray, List.set_cons_zero, List.set_cons_succ])
                refine wpAnyH_take (i := 24) (oi := { dst := some 174, op := Go.Op.binOp Go.BinOp.neq 3 (Go.Operand.tmp 166) (Go.Operand.tmp 173) 3, type := 4, pos := "law.go:79", after := #[{ on := 16, ground := Go.Ground.data }, { on := 23, ground := Go.Ground.data }, { on := 9, ground := Go.Ground.guard }], guard := some (9, false) }) (v := ?_) rfl (by kernel_rfl) (by kernel_rfl) (by kernel_rfl) (fun _ _ _ h => h) (Or.inl ⟨by rfl, ?_⟩) (by assumption) ?_
                (rotate_left; focus (intro wS hSw; subst hSw; go_simp; (try rw [if_neg (by omega)]); try with_reducible rfl))
                (try simp only [Act.put, List.setIfInBounds_toArray, List.set_cons_zero, List.set_cons_succ])
                refine wpAnyH_take (i := 25) (oi := { dst := some 175, op := Go.Op.pick (Go.Operand.tmp 159) (Go.Operand.const (Go.Value.bool true)) (Go.Operand.tmp 174), type := 4, pos := "law.go:79", after := #[{ on := 9, ground := Go.Ground.data }, { on := 24, ground := Go.Ground.data }], guard := none }) (v := ?_) rfl (by kernel_rfl) (by kernel_rfl) (by kernel_rfl) (fun _ _ _ h => h) (Or.inl ⟨by rfl, ?_⟩) (by assumption) ?_
                (rotate_left; focus (intro wS hSw; subst hSw; go_simp; (try rw [if_neg (by omega)]); try with_reducible rfl))
                (try simp only [Act.put, List.setIfInBounds_toArray, List.set_cons_zero, List.set_cons_succ])
                refine wpAnyH_done (by kernel_rfl) ?_ _
                go_wp2
                go_roundw
                case rel =>
                  have hpos5 : ∀ s, 0 ≤ ofL dn5 s := by
                    intro s
                    rw [HDN.out, ofL_upd]
                    by_cases h : s = who
                    · subst h; rw [upd_same]; have := HF0.out; simp; omega
                    · rw [upd_other _ _ h]; exact HPOS.out s
                  exact ⟨k + 1, dn5, kk + 1, by omega, by go_num, by rw [← HL5.out], HDL5.out, by omega, HDB5.out, hpos5, by rw [← HL5.out]; omega, HO5.out, by rw [← HL5.out]; exact HQ5.out.drew, HB5.out.drew, by have h1 := HWS.out; have h2 := HS4.out; have h3 := HK5.out.size; simp at h2 ⊢; omega⟩
                case measure => simp [intOf]; omega
            · as_aux_lemma =>
                have d2 : decide ((1 : Int) ≤ n) = true := decide_eq_true hlow
                have d4 : decide (n ≤ L) = false := decide_eq_false hno
                go_wp2_with fail
                refine (law_of done who _ _ _ HSD.out (by have := HDL.out; omega) HDB.out).mono ?_
                rintro e x0 ⟨rfl, hx⟩
                obtain rfl : wr = x0 := hx.symm
                clear hx
                go_wp2_with fail
                have hP0 : wr.drew.cell? ⟨b2, o2 + k * 3 + 1, none⟩ = some (.string who) ∧ wr.drew.cell? ⟨b2, o2 + k * 3 + 2, none⟩ = some (.int .i64 n) := ⟨c1, c2⟩
                refine wp_region_held_drew (S := fun w' => w'.cell? ⟨b2, o2 + k * 3 + 1, none⟩ = some (.string who) ∧ w'.cell? ⟨b2, o2 + k * 3 + 2, none⟩ = some (.int .i64 n)) (by kernel_rfl) (by (first | exact hP0 | exact hP1)) (fun hHeld => ?_)
                refine wpAnyH_take (i := 0) (oi := { dst := some 111, op := Go.Op.move (Go.Operand.tmp 5), type := 24, pos := "law.go:69", after := #[], guard := none }) (v := ?_) rfl (by kernel_rfl) (by kernel_rfl) (by kernel_rfl) (fun _ _ _ h => h) (Or.inl ⟨by rfl, ?_⟩) (by assumption) ?_
                (rotate_left; focus (intro wS hSw; have s1 := hSw.1; have s2 := hSw.2; clear hSw; go_simp; (try rw [if_neg (by omega)]); try with_reducible rfl))
                (try simp only [Act.put, List.setIfInBounds_toArray, List.set_cons_zero, List.set_cons_succ])
                refine wpAnyH_take (i := 1) (oi := { dst := some 112, op := Go.Op.move (Go.Operand.tmp 1), type := 22, pos := "law.go:69", after := #[], guard := none }) (v := ?_) rfl (by kernel_rfl) (by kernel_rfl) (by kernel_rfl) (fun _ _ _ h => h) (Or.inl ⟨by rfl, ?_⟩) (by assumption) ?_
                (rotate_left; focus (intro wS hSw; have s1 := hSw.1; have s2 := hSw.2; clear hSw; go_simp; (try rw [if_neg (by omega)]); try with_reducible rfl))
                (try simp only [Act.put, List.setIfInBounds_toArray, List.set_cons_zero, List.set_cons_succ])
                refine wpAnyH_take (i := 2) (oi := { dst := some 113, op := Go.Op.move (Go.Operand.tmp 9), type := 3, pos := "law.go:69", after := #[], guard := none }) (v := ?_) rfl (by kernel_rfl) (by kernel_rfl) (by kernel_rfl) (fun _ _ _ h => h) (Or.inl ⟨by rfl, ?_⟩) (by assumption) ?_
                (rotate_left; focus (intro wS hSw; have s1 := hSw.1; have s2 := hSw.2; clear hSw; go_simp; (try rw [if_neg (by omega)]); try with_reducible rfl))
                (try simp only [Act.put, List.setIfInBounds_toArray, List.set_cons_zero, List.set_cons_succ])
                refine wpAnyH_take (i := 3) (oi := { dst := some 114, op := Go.Op.indexAddr 22 (Go.Operand.tmp 112) (Go.Operand.tmp 113), type := 0, pos := "law.go:69", after := #[{ on := 1, ground := Go.Ground.data }, { on := 2, ground := Go.Ground.data }], guard := none }) (v := ?_) rfl (by kernel_rfl) (by kernel_rfl) (by kernel_rfl) (fun _ _ _ h => h) (Or.inl ⟨by rfl, ?_⟩) (by assumption) ?_
                (rotate_left; focus (intro wS hSw; have s1 := hSw.1; have s2 := hSw.2; clear hSw; go_simp; (try rw [if_neg (by omega)]); try with_reducible rfl))
                (try simp only [Act.put, List.setIfInBounds_toArray, List.set_cons_zero, List.set_cons_succ])
                refine wpAnyH_take (i := 4) (oi := { dst := some 115, op := Go.Op.fieldAddr 29 (Go.Operand.tmp 114) 1, type := 0, pos := "law.go:69", after := #[{ on := 3, ground := Go.Ground.data }], guard := none }) (v := ?_) rfl (by kernel_rfl) (by kernel_rfl) (by kernel_rfl) (fun _ _ _ h => h) (Or.inl ⟨by rfl, ?_⟩) (by assumption) ?_
                (rotate_left; focus (intro wS hSw; have s1 := hSw.1; have s2 := hSw.2; clear hSw; go_simp; (try rw [if_neg (by omega)]); try with_reducible rfl))
                (try simp only [Act.put, List.setIfInBounds_toArray, List.set_cons_zero, List.set_cons_succ])
                refine wpAnyH_take (i := 5) (oi := { dst := some 116, op := Go.Op.load 9 (Go.Operand.tmp 115), type := 9, pos := "law.go:69", after := #[{ on := 4, ground := Go.Ground.data }], guard := none }) (v := ?_) rfl (by kernel_rfl) (by kernel_rfl) (by kernel_rfl) (fun _ _ _ h => h) (Or.inl ⟨by rfl, ?_⟩) (by assumption) ?_
                (rotate_left; focus (intro wS hSw; have s1 := hSw.1; have s2 := hSw.2; clear hSw; go_simp; (try rw [if_neg (by omega)]); try with_reducible rfl))
                (try simp only [Act.put, List.setIfInBounds_toArray, List.set_cons_zero, List.set_cons_succ])
                refine wpAnyH_take (i := 6) (oi := { dst := some 117, op := Go.Op.move (Go.Operand.tmp 1), type := 22, pos := "law.go:69", after := #[], guard := none }) (v := ?_) rfl (by kernel_rfl) (by kernel_rfl) (by kernel_rfl) (fun _ _ _ h => h) (Or.inl ⟨by rfl, ?_⟩) (by assumption) ?_
                (rotate_left; focus (intro wS hSw; have s1 := hSw.1; have s2 := hSw.2; clear hSw; go_simp; (try rw [if_neg (by omega)]); try with_reducible rfl))
                (try simp only [Act.put, List.setIfInBounds_toArray, List.set_cons_zero, List.set_cons_succ])
                refine wpAnyH_take (i := 7) (oi := { dst := some 118, op := Go.Op.move (Go.Operand.tmp 9), type := 3, pos := "law.go:69", after := #[], guard := none }) (v := ?_) rfl (by kernel_rfl) (by kernel_rfl) (by kernel_rfl) (fun _ _ _ h => h) (Or.inl ⟨by rfl, ?_⟩) (by assumption) ?_
                (rotate_left; focus (intro wS hSw; have s1 := hSw.1; have s2 := hSw.2; clear hSw; go_simp; (try rw [if_neg (by omega)]); try with_reducible rfl))
                (try simp only [Act.put, List.setIfInBounds_toArray, List.set_cons_zero, List.set_cons_succ])
                refine wpAnyH_take (i := 8) (oi := { dst := some 119, op := Go.Op.indexAddr 22 (Go.Operand.tmp 117) (Go.Operand.tmp 118), type := 0, pos := "law.go:69", after := #[{ on := 6, ground := Go.Ground.data }, { on := 7, ground := Go.Ground.data }], guard := none }) (v := ?_) rfl (by kernel_rfl) (by kernel_rfl) (by kernel_rfl) (fun _ _ _ h => h) (Or.inl ⟨by rfl, ?_⟩) (by assumption) ?_
                (rotate_left; focus (intro wS hSw; have s1 := hSw.1; have s2 := hSw.2; clear hSw; go_simp; (try rw [if_neg (by omega)]); try with_reducible rfl))
                (try simp only [Act.put, List.setIfInBounds_toArray, List.set_cons_zero, List.set_cons_succ])
                refine wpAnyH_take (i := 9) (oi := { dst := some 120, op := Go.Op.fieldAddr 29 (Go.Operand.tmp 119) 2, type := 0, pos := "law.go:69", after := #[{ on := 8, ground := Go.Ground.data }], guard := none }) (v := ?_) rfl (by kernel_rfl) (by kernel_rfl) (by kernel_rfl) (fun _ _ _ h => h) (Or.inl ⟨by rfl, ?_⟩) (by assumption) ?_
                (rotate_left; focus (intro wS hSw; have s1 := hSw.1; have s2 := hSw.2; clear hSw; go_simp; (try rw [if_neg (by omega)]); try with_reducible rfl))
                (try simp only [Act.put, List.setIfInBounds_toArray, List.set_cons_zero, List.set_cons_succ])
                refine wpAnyH_take (i := 10) (oi := { dst := some 121, op := Go.Op.load 3 (Go.Operand.tmp 120), type := 3, pos := "law.go:69", after := #[{ on := 9, ground := Go.Ground.data }], guard := none }) (v := ?_) rfl (by kernel_rfl) (by kernel_rfl) (by kernel_rfl) (fun _ _ _ h => h) (Or.inl ⟨by rfl, ?_⟩) (by assumption) ?_
                (rotate_left; focus (intro wS hSw; have s1 := hSw.1; have s2 := hSw.2; clear hSw; go_simp; (try rw [if_neg (by omega)]); try with_reducible rfl))
                (try simp only [Act.put, List.setIfInBounds_toArray, List.set_cons_zero, List.set_cons_succ])
                refine wpAnyH_ready (rs := [11]) (by kernel_rfl) (by simp) ?_
                refine AllReadyH.cons (o := { dst := some 122, op := Go.Op.call { callee := Go.Callee.value (Go.Operand.func 9), args := #[Go.Operand.tmp 111, Go.Operand.tmp 116, Go.Operand.tmp 121], argTypes := #[24, 9, 3] }, type := 4, pos := "law.go:69", after := #[{ on := 0, ground := Go.Ground.data }, { on := 5, ground := Go.Ground.data }, { on := 10, ground := Go.Ground.data }], guard := none }) rfl (fun K hK => ?_) AllReadyH.nil
                go_simp
                refine (take_no who n _ HQ.out.drew (by omega)).mono ?_
                rintro e x4 ⟨rfl, hx⟩
                subst hx
                have hP1 := hP0
                (try go_wp2_with fail)
                refine hK.out _ _ (by (first | exact hP0 | exact hP1)) (fun hHeld => ?_)
                clear hK K
                (try simp only [Act.put, List.setIfInBounds_toArray, List.set_cons_zero, List.set_cons_succ])
                refine wpAnyH_take (i := 12) (oi := { dst := some 12, op := Go.Op.assign (Go.Operand.tmp 122), type := 4, pos := "law.go:69", after := #[{ on := 11, ground := Go.Ground.data }, { on := 11, ground := Go.Ground.chain }, { on := 0, ground := Go.Ground.phase }, { on := 1, ground := Go.Ground.phase }, { on := 2, ground := Go.Ground.phase }, { on := 3, ground := Go.Ground.phase }, { on := 4, ground := Go.Ground.phase }, { on := 5, ground := Go.Ground.phase }, { on := 6, ground := Go.Ground.phase }, { on := 7, ground := Go.Ground.phase }, { on := 8, ground := Go.Ground.phase }, { on := 9, ground := Go.Ground.phase }, { on := 10, ground := Go.Ground.phase }, { on := 11, ground := Go.Ground.phase }], guard := none }) (v := ?_) rfl (by kernel_rfl) (by kernel_rfl) (by kernel_rfl) (fun _ _ _ h => h) (Or.inl ⟨by rfl, ?_⟩) (by assumption) ?_
                (rotate_left; focus (intro wS hSw; have s1 := hSw.1; have s2 := hSw.2; clear hSw; go_simp; (try rw [if_neg (by omega)]); try with_reducible rfl))
                (try simp only [Act.put, List.setIfInBounds_toArray, List.set_cons_zero, List.set_cons_succ])
                refine wpAnyH_done (by kernel_rfl) ?_ _
                clear hP0 hP1
                go_wp2_with fail
                have c1 : wr.drew.drew.cell? ⟨b2, o2 + k * 3 + 1, none⟩ = some (.string who) := c1
                refine wp_region_held_drew (S := fun w' => w' = wr.drew.drew) (by kernel_rfl) (by (exact rfl)) (fun hHeld => ?_)
                refine wpAnyH_take (i := 0) (oi := { dst := some 150, op := Go.Op.move (Go.Operand.tmp 12), type := 4, pos := "law.go:79", after := #[], guard := none }) (v := ?_) rfl (by kernel_rfl) (by kernel_rfl) (by kernel_rfl) (fun _ _ _ h => h) (Or.inl ⟨by rfl, ?_⟩) (by assumption) ?_
                (rotate_left; focus (intro wS hSw; subst hSw; go_simp; (try rw [if_neg (by omega)]); try with_reducible rfl))
                (try simp only [Act.put, List.setIfInBounds_toArray, List.set_cons_zero, List.set_cons_succ])
                refine wpAnyH_take (i := 1) (oi := { dst := some 151, op := Go.Op.move (Go.Operand.tmp 11), type := 4, pos := "law.go:79", after := #[], guard := none }) (v := ?_) rfl (by kernel_rfl) (by kernel_rfl) (by kernel_rfl) (fun _ _ _ h => h) (Or.inl ⟨by rfl, ?_⟩) (by assumption) ?_
                (rotate_left; focus (intro wS hSw; subst hSw; go_simp; (try rw [if_neg (by omega)]); try with_reducible rfl))
                (try simp only [Act.put, List.setIfInBounds_toArray, List.set_cons_zero, List.set_cons_succ])
                refine wpAnyH_take (i := 2) (oi := { dst := some 152, op := Go.Op.binOp Go.BinOp.neq 4 (Go.Operand.tmp 150) (Go.Operand.tmp 151) 4, type := 4, pos := "law.go:79", after := #[{ on := 0, ground := Go.Ground.data }, { on := 1, ground := Go.Ground.data }], guard := none }) (v := ?_) rfl (by kernel_rfl) (by kernel_rfl) (by kernel_rfl) (fun _ _ _ h => h) (Or.inl ⟨by rfl, ?_⟩) (by assumption) ?_
                (rotate_left; focus (intro wS hSw; subst hSw; go_simp; (try rw [if_neg (by omega)]); try with_reducible rfl))
                (try simp only [Act.put, List.setIfInBounds_toArray, List.set_cons_zero, List.set_cons_succ])
                refine wpAnyH_take (i := 3) (oi := { dst := some 153, op := Go.Op.move (Go.Operand.tmp 152), type := 4, pos := "law.go:79", after := #[{ on := 2, ground := Go.Ground.data }], guard := none }) (v := ?_) rfl (by kernel_rfl) (by kernel_rfl) (by kernel_rfl) (fun _ _ _ h => h) (Or.inl ⟨by rfl, ?_⟩) (by assumption) ?_
                (rotate_left; focus (intro wS hSw; subst hSw; go_simp; (try rw [if_neg (by omega)]); try with_reducible rfl))
                (try simp only [Act.put, List.setIfInBounds_toArray, List.set_cons_zero, List.set_cons_succ])
                refine wpAnyH_take (i := 4) (oi := { dst := some 154, op := Go.Op.move (Go.Operand.tmp 5), type := 24, pos := "law.go:79", after := #[{ on := 3, ground := Go.Ground.guard }], guard := some (3, false) }) (v := ?_) rfl (by kernel_rfl) (by kernel_rfl) (by kernel_rfl) (fun _ _ _ h => h) (Or.inl ⟨by rfl, ?_⟩) (by assumption) ?_
                (rotate_left; focus (intro wS hSw; subst hSw; go_simp; (try rw [if_neg (by omega)]); try with_reducible rfl))
                (try simp only [Act.put, List.setIfInBounds_toArray, List.set_cons_zero, List.set_cons_succ])
                refine wpAnyH_take (i := 6) (oi := { dst := some 156, op := Go.Op.move (Go.Operand.tmp 7), type := 3, pos := "law.go:79", after := #[{ on := 3, ground := Go.Ground.guard }], guard := some (3, false) }) (v := ?_) rfl (by kernel_rfl) (by kernel_rfl) (by kernel_rfl) (fun _ _ _ h => h) (Or.inl ⟨by rfl, ?_⟩) (by assumption) ?_
                (rotate_left; focus (intro wS hSw; subst hSw; go_simp; (try rw [if_neg (by omega)]); try with_reducible rfl))
                (try simp only [Act.put, List.setIfInBounds_toArray, List.set_cons_zero, List.set_cons_succ])
                refine wpAnyH_ready (rs := [5]) (by kernel_rfl) (by simp) ?_
                refine AllReadyH.cons (o := { dst := some 155, op := Go.Op.call { callee := Go.Callee.value (Go.Operand.func 10), args := #[Go.Operand.tmp 154], argTypes := #[24] }, type := 3, pos := "law.go:79", after := #[{ on := 4, ground := Go.Ground.data }, { on := 3, ground := Go.Ground.chain }, { on := 3, ground := Go.Ground.guard }], guard := some (3, false) }) rfl (fun K hK => ?_) AllReadyH.nil
                go_simp
                refine (left_any _ (Qs.drew (w := wr.drew) HQ.out)).mono ?_
                rintro e y1 ⟨rfl, hy⟩
                subst hy
                (try go_wp2_with fail)
                refine hK.out _ _ (by (exact rfl)) (fun hHeld => ?_)
                clear hK K
                (try simp only [Act.put, List.setIfInBounds_toArray, List.set_cons_zero, List.set_cons_succ])
                refine wpAnyH_take (i := 7) (oi := { dst := some 157, op := Go.Op.binOp Go.BinOp.neq 3 (Go.Operand.tmp 155) (Go.Operand.tmp 156) 3, type := 4, pos := "law.go:79", after := #[{ on := 5, ground := Go.Ground.data }, { on := 6, ground := Go.Ground.data }, { on := 3, ground := Go.Ground.guard }], guard := some (3, false) }) (v := ?_) rfl (by kernel_rfl) (by kernel_rfl) (by kernel_rfl) (fun _ _ _ h => h) (Or.inl ⟨by rfl, ?_⟩) (by assumption) ?_
                (rotate_left; focus (intro wS hSw; subst hSw; go_simp; (try rw [if_neg (by omega)]); try with_reducible rfl))
                (try simp only [Act.put, List.setIfInBounds_toArray, List.set_cons_zero, List.set_cons_succ])
                refine wpAnyH_take (i := 8) (oi := { dst := some 158, op := Go.Op.pick (Go.Operand.tmp 153) (Go.Operand.const (Go.Value.bool true)) (Go.Operand.tmp 157), type := 4, pos := "law.go:79", after := #[{ on := 3, ground := Go.Ground.data }, { on := 7, ground := Go.Ground.data }], guard := none }) (v := ?_) rfl (by kernel_rfl) (by kernel_rfl) (by kernel_rfl) (fun _ _ _ h => h) (Or.inl ⟨by rfl, ?_⟩) (by assumption) ?_
                (rotate_left; focus (intro wS hSw; subst hSw; go_simp; (try rw [if_neg (by omega)]); try with_reducible rfl))
                (try simp only [Act.put, List.setIfInBounds_toArray, List.set_cons_zero, List.set_cons_succ])
                refine wpAnyH_take (i := 9) (oi := { dst := some 159, op := Go.Op.move (Go.Operand.tmp 158), type := 4, pos := "law.go:79", after := #[{ on := 8, ground := Go.Ground.data }, { on := 5, ground := Go.Ground.chain }], guard := none }) (v := ?_) rfl (by kernel_rfl) (by kernel_rfl) (by kernel_rfl) (fun _ _ _ h => h) (Or.inl ⟨by rfl, ?_⟩) (by assumption) ?_
                (rotate_left; focus (intro wS hSw; subst hSw; go_simp; (try rw [if_neg (by omega)]); try with_reducible rfl))
                (try simp only [Act.put, List.setIfInBounds_toArray, List.set_cons_zero, List.set_cons_succ])
                refine wpAnyH_take (i := 10) (oi := { dst := some 160, op := Go.Op.move (Go.Operand.tmp 5), type := 24, pos := "law.go:79", after := #[{ on := 9, ground := Go.Ground.guard }], guard := some (9, false) }) (v := ?_) rfl (by kernel_rfl) (by kernel_rfl) (by kernel_rfl) (fun _ _ _ h => h) (Or.inl ⟨by rfl, ?_⟩) (by assumption) ?_
                (rotate_left; focus (intro wS hSw; subst hSw; go_simp; (try rw [if_neg (by omega)]); try with_reducible rfl))
                (try simp only [Act.put, List.setIfInBounds_toArray, List.set_cons_zero, List.set_cons_succ])
                refine wpAnyH_take (i := 11) (oi := { dst := some 161, op := Go.Op.move (Go.Operand.tmp 1), type := 22, pos := "law.go:79", after := #[{ on := 9, ground := Go.Ground.guard }], guard := some (9, false) }) (v := ?_) rfl (by kernel_rfl) (by kernel_rfl) (by kernel_rfl) (fun _ _ _ h => h) (Or.inl ⟨by rfl, ?_⟩) (by assumption) ?_
                (rotate_left; focus (intro wS hSw; subst hSw; go_simp; (try rw [if_neg (by omega)]); try with_reducible rfl))
                (try simp only [Act.put, List.setIfInBounds_toArray, List.set_cons_zero, List.set_cons_succ])
                refine wpAnyH_take (i := 12) (oi := { dst := some 162, op := Go.Op.move (Go.Operand.tmp 9), type := 3, pos := "law.go:79", after := #[{ on := 9, ground := Go.Ground.guard }], guard := some (9, false) }) (v := ?_) rfl (by kernel_rfl) (by kernel_rfl) (by kernel_rfl) (fun _ _ _ h => h) (Or.inl ⟨by rfl, ?_⟩) (by assumption) ?_
                (rotate_left; focus (intro wS hSw; subst hSw; go_simp; (try rw [if_neg (by omega)]); try with_reducible rfl))
                (try simp only [Act.put, List.setIfInBounds_toArray, List.set_cons_zero, List.set_cons_succ])
                refine wpAnyH_take (i := 13) (oi := { dst := some 163, op := Go.Op.indexAddr 22 (Go.Operand.tmp 161) (Go.Operand.tmp 162), type := 0, pos := "law.go:79", after := #[{ on := 11, ground := Go.Ground.data }, { on := 12, ground := Go.Ground.data }, { on := 9, ground := Go.Ground.guard }], guard := some (9, false) }) (v := ?_) rfl (by kernel_rfl) (by kernel_rfl) (by kernel_rfl) (fun _ _ _ h => h) (Or.inl ⟨by rfl, ?_⟩) (by assumption) ?_
                (rotate_left; focus (intro wS hSw; subst hSw; go_simp; (try rw [if_neg (by omega)]); try with_reducible rfl))
                (try simp only [Act.put, List.setIfInBounds_toArray, List.set_cons_zero, List.set_cons_succ])
                refine wpAnyH_take (i := 14) (oi := { dst := some 164, op := Go.Op.fieldAddr 29 (Go.Operand.tmp 163) 1, type := 0, pos := "law.go:79", after := #[{ on := 13, ground := Go.Ground.data }, { on := 9, ground := Go.Ground.guard }], guard := some (9, false) }) (v := ?_) rfl (by kernel_rfl) (by kernel_rfl) (by kernel_rfl) (fun _ _ _ h => h) (Or.inl ⟨by rfl, ?_⟩) (by assumption) ?_
                (rotate_left; focus (intro wS hSw; subst hSw; go_simp; (try rw [if_neg (by omega)]); try with_reducible rfl))
                (try simp only [Act.put, List.setIfInBounds_toArray, List.set_cons_zero, List.set_cons_succ])
                refine wpAnyH_take (i := 15) (oi := { dst := some 165, op := Go.Op.load 9 (Go.Operand.tmp 164), type := 9, pos := "law.go:79", after := #[{ on := 14, ground := Go.Ground.data }, { on := 9, ground := Go.Ground.guard }], guard := some (9, false) }) (v := ?_) rfl (by kernel_rfl) (by kernel_rfl) (by kernel_rfl) (fun _ _ _ h => h) (Or.inl ⟨by rfl, ?_⟩) (by assumption) ?_
                (rotate_left; focus (intro wS hSw; subst hSw; go_simp; (try rw [if_neg (by omega)]); try with_reducible rfl))
                (try simp only [Act.put, List.setIfInBounds_toArray, List.set_cons_zero, List.set_cons_succ])
                refine wpAnyH_take (i := 17) (oi := { dst := some 167, op := Go.Op.move (Go.Operand.tmp 8), type := 22, pos := "law.go:79", after := #[{ on := 9, ground := Go.Ground.guard }], guard := some (9, false) }) (v := ?_) rfl (by kernel_rfl) (by kernel_rfl) (by kernel_rfl) (fun _ _ _ h => h) (Or.inl ⟨by rfl, ?_⟩) (by assumption) ?_
                (rotate_left; focus (intro wS hSw; subst hSw; go_simp; (try rw [if_neg (by omega)]); try with_reducible rfl))
                (try simp only [Act.put, List.setIfInBounds_toArray, List.set_cons_zero, List.set_cons_succ])
                refine wpAnyH_take (i := 18) (oi := { dst := some 168, op := Go.Op.move (Go.Operand.tmp 1), type := 22, pos := "law.go:79", after := #[{ on := 9, ground := Go.Ground.guard }], guard := some (9, false) }) (v := ?_) rfl (by kernel_rfl) (by kernel_rfl) (by kernel_rfl) (fun _ _ _ h => h) (Or.inl ⟨by rfl, ?_⟩) (by assumption) ?_
                (rotate_left; focus (intro wS hSw; subst hSw; go_simp; (try rw [if_neg (by omega)]); try with_reducible rfl))
                (try simp only [Act.put, List.setIfInBounds_toArray, List.set_cons_zero, List.set_cons_succ])
                refine wpAnyH_take (i := 19) (oi := { dst := some 169, op := Go.Op.move (Go.Operand.tmp 9), type := 3, pos := "law.go:79", after := #[{ on := 9, ground := Go.Ground.guard }], guard := some (9, false) }) (v := ?_) rfl (by kernel_rfl) (by kernel_rfl) (by kernel_rfl) (fun _ _ _ h => h) (Or.inl ⟨by rfl, ?_⟩) (by assumption) ?_
                (rotate_left; focus (intro wS hSw; subst hSw; go_simp; (try rw [if_neg (by omega)]); try with_reducible rfl))
                (try simp only [Act.put, List.setIfInBounds_toArray, List.set_cons_zero, List.set_cons_succ])
                refine wpAnyH_take (i := 20) (oi := { dst := some 170, op := Go.Op.indexAddr 22 (Go.Operand.tmp 168) (Go.Operand.tmp 169), type := 0, pos := "law.go:79", after := #[{ on := 18, ground := Go.Ground.data }, { on := 19, ground := Go.Ground.data }, { on := 9, ground := Go.Ground.guard }], guard := some (9, false) }) (v := ?_) rfl (by kernel_rfl) (by kernel_rfl) (by kernel_rfl) (fun _ _ _ h => h) (Or.inl ⟨by rfl, ?_⟩) (by assumption) ?_
                (rotate_left; focus (intro wS hSw; subst hSw; go_simp; (try rw [if_neg (by omega)]); try with_reducible rfl))
                (try simp only [Act.put, List.setIfInBounds_toArray, List.set_cons_zero, List.set_cons_succ])
                refine wpAnyH_take (i := 21) (oi := { dst := some 171, op := Go.Op.fieldAddr 29 (Go.Operand.tmp 170) 1, type := 0, pos := "law.go:79", after := #[{ on := 20, ground := Go.Ground.data }, { on := 9, ground := Go.Ground.guard }], guard := some (9, false) }) (v := ?_) rfl (by kernel_rfl) (by kernel_rfl) (by kernel_rfl) (fun _ _ _ h => h) (Or.inl ⟨by rfl, ?_⟩) (by assumption) ?_
                (rotate_left; focus (intro wS hSw; subst hSw; go_simp; (try rw [if_neg (by omega)]); try with_reducible rfl))
                (try simp only [Act.put, List.setIfInBounds_toArray, List.set_cons_zero, List.set_cons_succ])
                refine wpAnyH_take (i := 22) (oi := { dst := some 172, op := Go.Op.load 9 (Go.Operand.tmp 171), type := 9, pos := "law.go:79", after := #[{ on := 21, ground := Go.Ground.data }, { on := 9, ground := Go.Ground.guard }], guard := some (9, false) }) (v := ?_) rfl (by kernel_rfl) (by kernel_rfl) (by kernel_rfl) (fun _ _ _ h => h) (Or.inl ⟨by rfl, ?_⟩) (by assumption) ?_
                (rotate_left; focus (intro wS hSw; subst hSw; go_simp; (try rw [if_neg (by omega)]); try with_reducible rfl))
                (try simp only [Act.put, List.setIfInBounds_toArray, List.set_cons_zero, List.set_cons_succ])
                refine wpAnyH_ready (rs := [16]) (by kernel_rfl) (by simp) ?_
                refine AllReadyH.cons (o := { dst := some 166, op := Go.Op.call { callee := Go.Callee.value (Go.Operand.func 11), args := #[Go.Operand.tmp 160, Go.Operand.tmp 165], argTypes := #[24, 9] }, type := 3, pos := "law.go:79", after := #[{ on := 10, ground := Go.Ground.data }, { on := 15, ground := Go.Ground.data }, { on := 9, ground := Go.Ground.chain }, { on := 9, ground := Go.Ground.guard }], guard := some (9, false) }) rfl (fun K hK => ?_) AllReadyH.nil
                go_simp
                refine (of_any who _ (Qs.drew (w := wr.drew) HQ.out) hd.1).mono ?_
                rintro e y2 ⟨rfl, hy⟩
                subst hy
                (try go_wp2_with fail)
                refine hK.out _ _ (by (exact rfl)) (fun hHeld => ?_)
                clear hK K
                (try simp only [Act.put, List.setIfInBounds_toArray, List.set_cons_zero, List.set_cons_succ])
                refine wpAnyH_ready (rs := [23]) (by kernel_rfl) (by simp) ?_
                refine AllReadyH.cons (o := { dst := some 173, op := Go.Op.call { callee := Go.Callee.value (Go.Operand.func 7), args := #[Go.Operand.tmp 167, Go.Operand.tmp 172], argTypes := #[22, 9] }, type := 3, pos := "law.go:79", after := #[{ on := 17, ground := Go.Ground.data }, { on := 22, ground := Go.Ground.data }, { on := 16, ground := Go.Ground.chain }, { on := 9, ground := Go.Ground.guard }], guard := some (9, false) }) rfl (fun K hK => ?_) AllReadyH.nil
                go_simp
                refine (law_of done who _ _ _ (Sl.drew2 (Sl.drew2 HSD.out)) (by have := HDL.out; omega) HDB.out).mono ?_
                rintro e y3 ⟨rfl, hy⟩
                subst hy
                (try go_wp2_with fail)
                refine hK.out _ _ (by (exact rfl)) (fun hHeld => ?_)
                clear hK K
                (try simp only [Act.put, List.setIfInBounds_toArray, List.set_cons_zero, List.set_cons_succ])
                refine wpAnyH_take (i := 24) (oi := { dst := some 174, op := Go.Op.binOp Go.BinOp.neq 3 (Go.Operand.tmp 166) (Go.Operand.tmp 173) 3, type := 4, pos := "law.go:79", after := #[{ on := 16, ground := Go.Ground.data }, { on := 23, ground := Go.Ground.data }, { on := 9, ground := Go.Ground.guard }], guard := some (9, false) }) (v := ?_) rfl (by kernel_rfl) (by kernel_rfl) (by kernel_rfl) (fun _ _ _ h => h) (Or.inl ⟨by rfl, ?_⟩) (by assumption) ?_
                (rotate_left; focus (intro wS hSw; subst hSw; go_simp; (try rw [if_neg (by omega)]); try with_reducible rfl))
                (try simp only [Act.put, List.setIfInBounds_toArray, List.set_cons_zero, List.set_cons_succ])
                refine wpAnyH_take (i := 25) (oi := { dst := some 175, op := Go.Op.pick (Go.Operand.tmp 159) (Go.Operand.const (Go.Value.bool true)) (Go.Operand.tmp 174), type := 4, pos := "law.go:79", after := #[{ on := 9, ground := Go.Ground.data }, { on := 24, ground := Go.Ground.data }], guard := none }) (v := ?_) rfl (by kernel_rfl) (by kernel_rfl) (by kernel_rfl) (fun _ _ _ h => h) (Or.inl ⟨by rfl, ?_⟩) (by assumption) ?_
                (rotate_left; focus (intro wS hSw; subst hSw; go_simp; (try rw [if_neg (by omega)]); try with_reducible rfl))
                (try simp only [Act.put, List.setIfInBounds_toArray, List.set_cons_zero, List.set_cons_succ])
                refine wpAnyH_done (by kernel_rfl) ?_ _
                go_wp2
                go_roundw
                case rel =>
                  exact ⟨k + 1, done, kk, by omega, by go_num, by rw [HL.out], by have := HDL.out; omega, by omega, HDB.out, HPOS.out, by rw [HL.out]; exact hlf, HO.out, by rw [HL.out]; exact HQ.out, HB.out.drew.drew, HWS.out⟩
                case measure => simp [intOf]; omega
        · cases gv with
          | true =>
            as_aux_lemma =>
              have d2 : decide ((1 : Int) ≤ n) = false := decide_eq_false hlow
              go_wp2_with fail
              refine (law_of done who _ _ _ HSD.out (by have := HDL.out; omega) HDB.out).mono ?_
              rintro e x0 ⟨rfl, hx⟩
              obtain rfl : wr = x0 := hx.symm
              clear hx
              go_wp2_with fail
              have hP0 : wr.drew.cell? ⟨b2, o2 + k * 3 + 1, none⟩ = some (.string who) ∧ wr.drew.cell? ⟨b2, o2 + k * 3 + 2, none⟩ = some (.int .i64 n) := ⟨c1, c2⟩
              refine wp_region_held_drew (S := fun w' => w'.cell? ⟨b2, o2 + k * 3 + 1, none⟩ = some (.string who) ∧ w'.cell? ⟨b2, o2 + k * 3 + 2, none⟩ = some (.int .i64 n)) (by kernel_rfl) (by (first | exact hP0 | exact hP1)) (fun hHeld => ?_)
              refine wpAnyH_take (i := 0) (oi := { dst := some 99, op := Go.Op.move (Go.Operand.tmp 5), type := 24, pos := "law.go:67", after := #[], guard := none }) (v := ?_) rfl (by kernel_rfl) (by kernel_rfl) (by kernel_rfl) (fun _ _ _ h => h) (Or.inl ⟨by rfl, ?_⟩) (by assumption) ?_
              (rotate_left; focus (intro wS hSw; have s1 := hSw.1; have s2 := hSw.2; clear hSw; go_simp; (try rw [if_neg (by omega)]); try with_reducible rfl))
              (try simp only [Act.put, List.setIfInBounds_toArray, List.set_cons_zero, List.set_cons_succ])
              refine wpAnyH_take (i := 1) (oi := { dst := some 100, op := Go.Op.move (Go.Operand.tmp 1), type := 22, pos := "law.go:67", after := #[], guard := none }) (v := ?_) rfl (by kernel_rfl) (by kernel_rfl) (by kernel_rfl) (fun _ _ _ h => h) (Or.inl ⟨by rfl, ?_⟩) (by assumption) ?_
              (rotate_left; focus (intro wS hSw; have s1 := hSw.1; have s2 := hSw.2; clear hSw; go_simp; (try rw [if_neg (by omega)]); try with_reducible rfl))
              (try simp only [Act.put, List.setIfInBounds_toArray, List.set_cons_zero, List.set_cons_succ])
              refine wpAnyH_take (i := 2) (oi := { dst := some 101, op := Go.Op.move (Go.Operand.tmp 9), type := 3, pos := "law.go:67", after := #[], guard := none }) (v := ?_) rfl (by kernel_rfl) (by kernel_rfl) (by kernel_rfl) (fun _ _ _ h => h) (Or.inl ⟨by rfl, ?_⟩) (by assumption) ?_
              (rotate_left; focus (intro wS hSw; have s1 := hSw.1; have s2 := hSw.2; clear hSw; go_simp; (try rw [if_neg (by omega)]); try with_reducible rfl))
              (try simp only [Act.put, List.setIfInBounds_toArray, List.set_cons_zero, List.set_cons_succ])
              refine wpAnyH_take (i := 3) (oi := { dst := some 102, op := Go.Op.indexAddr 22 (Go.Operand.tmp 100) (Go.Operand.tmp 101), type := 0, pos := "law.go:67", after := #[{ on := 1, ground := Go.Ground.data }, { on := 2, ground := Go.Ground.data }], guard := none }) (v := ?_) rfl (by kernel_rfl) (by kernel_rfl) (by kernel_rfl) (fun _ _ _ h => h) (Or.inl ⟨by rfl, ?_⟩) (by assumption) ?_
              (rotate_left; focus (intro wS hSw; have s1 := hSw.1; have s2 := hSw.2; clear hSw; go_simp; (try rw [if_neg (by omega)]); try with_reducible rfl))
              (try simp only [Act.put, List.setIfInBounds_toArray, List.set_cons_zero, List.set_cons_succ])
              refine wpAnyH_take (i := 4) (oi := { dst := some 103, op := Go.Op.fieldAddr 29 (Go.Operand.tmp 102) 1, type := 0, pos := "law.go:67", after := #[{ on := 3, ground := Go.Ground.data }], guard := none }) (v := ?_) rfl (by kernel_rfl) (by kernel_rfl) (by kernel_rfl) (fun _ _ _ h => h) (Or.inl ⟨by rfl, ?_⟩) (by assumption) ?_
              (rotate_left; focus (intro wS hSw; have s1 := hSw.1; have s2 := hSw.2; clear hSw; go_simp; (try rw [if_neg (by omega)]); try with_reducible rfl))
              (try simp only [Act.put, List.setIfInBounds_toArray, List.set_cons_zero, List.set_cons_succ])
              refine wpAnyH_take (i := 5) (oi := { dst := some 104, op := Go.Op.load 9 (Go.Operand.tmp 103), type := 9, pos := "law.go:67", after := #[{ on := 4, ground := Go.Ground.data }], guard := none }) (v := ?_) rfl (by kernel_rfl) (by kernel_rfl) (by kernel_rfl) (fun _ _ _ h => h) (Or.inl ⟨by rfl, ?_⟩) (by assumption) ?_
              (rotate_left; focus (intro wS hSw; have s1 := hSw.1; have s2 := hSw.2; clear hSw; go_simp; (try rw [if_neg (by omega)]); try with_reducible rfl))
              (try simp only [Act.put, List.setIfInBounds_toArray, List.set_cons_zero, List.set_cons_succ])
              refine wpAnyH_take (i := 6) (oi := { dst := some 105, op := Go.Op.move (Go.Operand.tmp 1), type := 22, pos := "law.go:67", after := #[], guard := none }) (v := ?_) rfl (by kernel_rfl) (by kernel_rfl) (by kernel_rfl) (fun _ _ _ h => h) (Or.inl ⟨by rfl, ?_⟩) (by assumption) ?_
              (rotate_left; focus (intro wS hSw; have s1 := hSw.1; have s2 := hSw.2; clear hSw; go_simp; (try rw [if_neg (by omega)]); try with_reducible rfl))
              (try simp only [Act.put, List.setIfInBounds_toArray, List.set_cons_zero, List.set_cons_succ])
              refine wpAnyH_take (i := 7) (oi := { dst := some 106, op := Go.Op.move (Go.Operand.tmp 9), type := 3, pos := "law.go:67", after := #[], guard := none }) (v := ?_) rfl (by kernel_rfl) (by kernel_rfl) (by kernel_rfl) (fun _ _ _ h => h) (Or.inl ⟨by rfl, ?_⟩) (by assumption) ?_
              (rotate_left; focus (intro wS hSw; have s1 := hSw.1; have s2 := hSw.2; clear hSw; go_simp; (try rw [if_neg (by omega)]); try with_reducible rfl))
              (try simp only [Act.put, List.setIfInBounds_toArray, List.set_cons_zero, List.set_cons_succ])
              refine wpAnyH_take (i := 8) (oi := { dst := some 107, op := Go.Op.indexAddr 22 (Go.Operand.tmp 105) (Go.Operand.tmp 106), type := 0, pos := "law.go:67", after := #[{ on := 6, ground := Go.Ground.data }, { on := 7, ground := Go.Ground.data }], guard := none }) (v := ?_) rfl (by kernel_rfl) (by kernel_rfl) (by kernel_rfl) (fun _ _ _ h => h) (Or.inl ⟨by rfl, ?_⟩) (by assumption) ?_
              (rotate_left; focus (intro wS hSw; have s1 := hSw.1; have s2 := hSw.2; clear hSw; go_simp; (try rw [if_neg (by omega)]); try with_reducible rfl))
              (try simp only [Act.put, List.setIfInBounds_toArray, List.set_cons_zero, List.set_cons_succ])
              refine wpAnyH_take (i := 9) (oi := { dst := some 108, op := Go.Op.fieldAddr 29 (Go.Operand.tmp 107) 2, type := 0, pos := "law.go:67", after := #[{ on := 8, ground := Go.Ground.data }], guard := none }) (v := ?_) rfl (by kernel_rfl) (by kernel_rfl) (by kernel_rfl) (fun _ _ _ h => h) (Or.inl ⟨by rfl, ?_⟩) (by assumption) ?_
              (rotate_left; focus (intro wS hSw; have s1 := hSw.1; have s2 := hSw.2; clear hSw; go_simp; (try rw [if_neg (by omega)]); try with_reducible rfl))
              (try simp only [Act.put, List.setIfInBounds_toArray, List.set_cons_zero, List.set_cons_succ])
              refine wpAnyH_take (i := 10) (oi := { dst := some 109, op := Go.Op.load 3 (Go.Operand.tmp 108), type := 3, pos := "law.go:67", after := #[{ on := 9, ground := Go.Ground.data }], guard := none }) (v := ?_) rfl (by kernel_rfl) (by kernel_rfl) (by kernel_rfl) (fun _ _ _ h => h) (Or.inl ⟨by rfl, ?_⟩) (by assumption) ?_
              (rotate_left; focus (intro wS hSw; have s1 := hSw.1; have s2 := hSw.2; clear hSw; go_simp; (try rw [if_neg (by omega)]); try with_reducible rfl))
              (try simp only [Act.put, List.setIfInBounds_toArray, List.set_cons_zero, List.set_cons_succ])
              refine wpAnyH_ready (rs := [11]) (by kernel_rfl) (by simp) ?_
              refine AllReadyH.cons (o := { dst := some 110, op := Go.Op.call { callee := Go.Callee.value (Go.Operand.func 8), args := #[Go.Operand.tmp 99, Go.Operand.tmp 104, Go.Operand.tmp 109], argTypes := #[24, 9, 3] }, type := 4, pos := "law.go:67", after := #[{ on := 0, ground := Go.Ground.data }, { on := 5, ground := Go.Ground.data }, { on := 10, ground := Go.Ground.data }], guard := none }) rfl (fun K hK => ?_) AllReadyH.nil
              go_simp
              refine (give_no who n _ HQ.out.drew hd.1 (by omega)).mono ?_
              rintro e x4 ⟨rfl, hx⟩
              subst hx
              have hP1 := hP0
              (try go_wp2_with fail)
              refine hK.out _ _ (by (first | exact hP0 | exact hP1)) (fun hHeld => ?_)
              clear hK K
              (try simp only [Act.put, List.setIfInBounds_toArray, List.set_cons_zero, List.set_cons_succ])
              refine wpAnyH_take (i := 12) (oi := { dst := some 12, op := Go.Op.assign (Go.Operand.tmp 110), type := 4, pos := "law.go:67", after := #[{ on := 11, ground := Go.Ground.data }, { on := 11, ground := Go.Ground.chain }, { on := 0, ground := Go.Ground.phase }, { on := 1, ground := Go.Ground.phase }, { on := 2, ground := Go.Ground.phase }, { on := 3, ground := Go.Ground.phase }, { on := 4, ground := Go.Ground.phase }, { on := 5, ground := Go.Ground.phase }, { on := 6, ground := Go.Ground.phase }, { on := 7, ground := Go.Ground.phase }, { on := 8, ground := Go.Ground.phase }, { on := 9, ground := Go.Ground.phase }, { on := 10, ground := Go.Ground.phase }, { on := 11, ground := Go.Ground.phase }], guard := none }) (v := ?_) rfl (by kernel_rfl) (by kernel_rfl) (by kernel_rfl) (fun _ _ _ h => h) (Or.inl ⟨by rfl, ?_⟩) (by assumption) ?_
              (rotate_left; focus (intro wS hSw; have s1 := hSw.1; have s2 := hSw.2; clear hSw; go_simp; (try rw [if_neg (by omega)]); try with_reducible rfl))
              (try simp only [Act.put, List.setIfInBounds_toArray, List.set_cons_zero, List.set_cons_succ])
              refine wpAnyH_done (by kernel_rfl) ?_ _
              clear hP0 hP1
              go_wp2_with fail
              have c1 : wr.drew.drew.cell? ⟨b2, o2 + k * 3 + 1, none⟩ = some (.string who) := c1
              refine wp_region_held_drew (S := fun w' => w' = wr.drew.drew) (by kernel_rfl) (by (exact rfl)) (fun hHeld => ?_)
              refine wpAnyH_take (i := 0) (oi := { dst := some 150, op := Go.Op.move (Go.Operand.tmp 12), type := 4, pos := "law.go:79", after := #[], guard := none }) (v := ?_) rfl (by kernel_rfl) (by kernel_rfl) (by kernel_rfl) (fun _ _ _ h => h) (Or.inl ⟨by rfl, ?_⟩) (by assumption) ?_
              (rotate_left; focus (intro wS hSw; subst hSw; go_simp; (try rw [if_neg (by omega)]); try with_reducible rfl))
              (try simp only [Act.put, List.setIfInBounds_toArray, List.set_cons_zero, List.set_cons_succ])
              refine wpAnyH_take (i := 1) (oi := { dst := some 151, op := Go.Op.move (Go.Operand.tmp 11), type := 4, pos := "law.go:79", after := #[], guard := none }) (v := ?_) rfl (by kernel_rfl) (by kernel_rfl) (by kernel_rfl) (fun _ _ _ h => h) (Or.inl ⟨by rfl, ?_⟩) (by assumption) ?_
              (rotate_left; focus (intro wS hSw; subst hSw; go_simp; (try rw [if_neg (by omega)]); try with_reducible rfl))
              (try simp only [Act.put, List.setIfInBounds_toArray, List.set_cons_zero, List.set_cons_succ])
              refine wpAnyH_take (i := 2) (oi := { dst := some 152, op := Go.Op.binOp Go.BinOp.neq 4 (Go.Operand.tmp 150) (Go.Operand.tmp 151) 4, type := 4, pos := "law.go:79", after := #[{ on := 0, ground := Go.Ground.data }, { on := 1, ground := Go.Ground.data }], guard := none }) (v := ?_) rfl (by kernel_rfl) (by kernel_rfl) (by kernel_rfl) (fun _ _ _ h => h) (Or.inl ⟨by rfl, ?_⟩) (by assumption) ?_
              (rotate_left; focus (intro wS hSw; subst hSw; go_simp; (try rw [if_neg (by omega)]); try with_reducible rfl))
              (try simp only [Act.put, List.setIfInBounds_toArray, List.set_cons_zero, List.set_cons_succ])
              refine wpAnyH_take (i := 3) (oi := { dst := some 153, op := Go.Op.move (Go.Operand.tmp 152), type := 4, pos := "law.go:79", after := #[{ on := 2, ground := Go.Ground.data }], guard := none }) (v := ?_) rfl (by kernel_rfl) (by kernel_rfl) (by kernel_rfl) (fun _ _ _ h => h) (Or.inl ⟨by rfl, ?_⟩) (by assumption) ?_
              (rotate_left; focus (intro wS hSw; subst hSw; go_simp; (try rw [if_neg (by omega)]); try with_reducible rfl))
              (try simp only [Act.put, List.setIfInBounds_toArray, List.set_cons_zero, List.set_cons_succ])
              refine wpAnyH_take (i := 4) (oi := { dst := some 154, op := Go.Op.move (Go.Operand.tmp 5), type := 24, pos := "law.go:79", after := #[{ on := 3, ground := Go.Ground.guard }], guard := some (3, false) }) (v := ?_) rfl (by kernel_rfl) (by kernel_rfl) (by kernel_rfl) (fun _ _ _ h => h) (Or.inl ⟨by rfl, ?_⟩) (by assumption) ?_
              (rotate_left; focus (intro wS hSw; subst hSw; go_simp; (try rw [if_neg (by omega)]); try with_reducible rfl))
              (try simp only [Act.put, List.setIfInBounds_toArray, List.set_cons_zero, List.set_cons_succ])
              refine wpAnyH_take (i := 6) (oi := { dst := some 156, op := Go.Op.move (Go.Operand.tmp 7), type := 3, pos := "law.go:79", after := #[{ on := 3, ground := Go.Ground.guard }], guard := some (3, false) }) (v := ?_) rfl (by kernel_rfl) (by kernel_rfl) (by kernel_rfl) (fun _ _ _ h => h) (Or.inl ⟨by rfl, ?_⟩) (by assumption) ?_
              (rotate_left; focus (intro wS hSw; subst hSw; go_simp; (try rw [if_neg (by omega)]); try with_reducible rfl))
              (try simp only [Act.put, List.setIfInBounds_toArray, List.set_cons_zero, List.set_cons_succ])
              refine wpAnyH_ready (rs := [5]) (by kernel_rfl) (by simp) ?_
              refine AllReadyH.cons (o := { dst := some 155, op := Go.Op.call { callee := Go.Callee.value (Go.Operand.func 10), args := #[Go.Operand.tmp 154], argTypes := #[24] }, type := 3, pos := "law.go:79", after := #[{ on := 4, ground := Go.Ground.data }, { on := 3, ground := Go.Ground.chain }, { on := 3, ground := Go.Ground.guard }], guard := some (3, false) }) rfl (fun K hK => ?_) AllReadyH.nil
              go_simp
              refine (left_any _ (Qs.drew (w := wr.drew) HQ.out)).mono ?_
              rintro e y1 ⟨rfl, hy⟩
              subst hy
              (try go_wp2_with fail)
              refine hK.out _ _ (by (exact rfl)) (fun hHeld => ?_)
              clear hK K
              (try simp only [Act.put, List.setIfInBounds_toArray, List.set_cons_zero, List.set_cons_succ])
              refine wpAnyH_take (i := 7) (oi := { dst := some 157, op := Go.Op.binOp Go.BinOp.neq 3 (Go.Operand.tmp 155) (Go.Operand.tmp 156) 3, type := 4, pos := "law.go:79", after := #[{ on := 5, ground := Go.Ground.data }, { on := 6, ground := Go.Ground.data }, { on := 3, ground := Go.Ground.guard }], guard := some (3, false) }) (v := ?_) rfl (by kernel_rfl) (by kernel_rfl) (by kernel_rfl) (fun _ _ _ h => h) (Or.inl ⟨by rfl, ?_⟩) (by assumption) ?_
              (rotate_left; focus (intro wS hSw; subst hSw; go_simp; (try rw [if_neg (by omega)]); try with_reducible rfl))
              (try simp only [Act.put, List.setIfInBounds_toArray, List.set_cons_zero, List.set_cons_succ])
              refine wpAnyH_take (i := 8) (oi := { dst := some 158, op := Go.Op.pick (Go.Operand.tmp 153) (Go.Operand.const (Go.Value.bool true)) (Go.Operand.tmp 157), type := 4, pos := "law.go:79", after := #[{ on := 3, ground := Go.Ground.data }, { on := 7, ground := Go.Ground.data }], guard := none }) (v := ?_) rfl (by kernel_rfl) (by kernel_rfl) (by kernel_rfl) (fun _ _ _ h => h) (Or.inl ⟨by rfl, ?_⟩) (by assumption) ?_
              (rotate_left; focus (intro wS hSw; subst hSw; go_simp; (try rw [if_neg (by omega)]); try with_reducible rfl))
              (try simp only [Act.put, List.setIfInBounds_toArray, List.set_cons_zero, List.set_cons_succ])
              refine wpAnyH_take (i := 9) (oi := { dst := some 159, op := Go.Op.move (Go.Operand.tmp 158), type := 4, pos := "law.go:79", after := #[{ on := 8, ground := Go.Ground.data }, { on := 5, ground := Go.Ground.chain }], guard := none }) (v := ?_) rfl (by kernel_rfl) (by kernel_rfl) (by kernel_rfl) (fun _ _ _ h => h) (Or.inl ⟨by rfl, ?_⟩) (by assumption) ?_
              (rotate_left; focus (intro wS hSw; subst hSw; go_simp; (try rw [if_neg (by omega)]); try with_reducible rfl))
              (try simp only [Act.put, List.setIfInBounds_toArray, List.set_cons_zero, List.set_cons_succ])
              refine wpAnyH_take (i := 10) (oi := { dst := some 160, op := Go.Op.move (Go.Operand.tmp 5), type := 24, pos := "law.go:79", after := #[{ on := 9, ground := Go.Ground.guard }], guard := some (9, false) }) (v := ?_) rfl (by kernel_rfl) (by kernel_rfl) (by kernel_rfl) (fun _ _ _ h => h) (Or.inl ⟨by rfl, ?_⟩) (by assumption) ?_
              (rotate_left; focus (intro wS hSw; subst hSw; go_simp; (try rw [if_neg (by omega)]); try with_reducible rfl))
              (try simp only [Act.put, List.setIfInBounds_toArray, List.set_cons_zero, List.set_cons_succ])
              refine wpAnyH_take (i := 11) (oi := { dst := some 161, op := Go.Op.move (Go.Operand.tmp 1), type := 22, pos := "law.go:79", after := #[{ on := 9, ground := Go.Ground.guard }], guard := some (9, false) }) (v := ?_) rfl (by kernel_rfl) (by kernel_rfl) (by kernel_rfl) (fun _ _ _ h => h) (Or.inl ⟨by rfl, ?_⟩) (by assumption) ?_
              (rotate_left; focus (intro wS hSw; subst hSw; go_simp; (try rw [if_neg (by omega)]); try with_reducible rfl))
              (try simp only [Act.put, List.setIfInBounds_toArray, List.set_cons_zero, List.set_cons_succ])
              refine wpAnyH_take (i := 12) (oi := { dst := some 162, op := Go.Op.move (Go.Operand.tmp 9), type := 3, pos := "law.go:79", after := #[{ on := 9, ground := Go.Ground.guard }], guard := some (9, false) }) (v := ?_) rfl (by kernel_rfl) (by kernel_rfl) (by kernel_rfl) (fun _ _ _ h => h) (Or.inl ⟨by rfl, ?_⟩) (by assumption) ?_
              (rotate_left; focus (intro wS hSw; subst hSw; go_simp; (try rw [if_neg (by omega)]); try with_reducible rfl))
              (try simp only [Act.put, List.setIfInBounds_toArray, List.set_cons_zero, List.set_cons_succ])
              refine wpAnyH_take (i := 13) (oi := { dst := some 163, op := Go.Op.indexAddr 22 (Go.Operand.tmp 161) (Go.Operand.tmp 162), type := 0, pos := "law.go:79", after := #[{ on := 11, ground := Go.Ground.data }, { on := 12, ground := Go.Ground.data }, { on := 9, ground := Go.Ground.guard }], guard := some (9, false) }) (v := ?_) rfl (by kernel_rfl) (by kernel_rfl) (by kernel_rfl) (fun _ _ _ h => h) (Or.inl ⟨by rfl, ?_⟩) (by assumption) ?_
              (rotate_left; focus (intro wS hSw; subst hSw; go_simp; (try rw [if_neg (by omega)]); try with_reducible rfl))
              (try simp only [Act.put, List.setIfInBounds_toArray, List.set_cons_zero, List.set_cons_succ])
              refine wpAnyH_take (i := 14) (oi := { dst := some 164, op := Go.Op.fieldAddr 29 (Go.Operand.tmp 163) 1, type := 0, pos := "law.go:79", after := #[{ on := 13, ground := Go.Ground.data }, { on := 9, ground := Go.Ground.guard }], guard := some (9, false) }) (v := ?_) rfl (by kernel_rfl) (by kernel_rfl) (by kernel_rfl) (fun _ _ _ h => h) (Or.inl ⟨by rfl, ?_⟩) (by assumption) ?_
              (rotate_left; focus (intro wS hSw; subst hSw; go_simp; (try rw [if_neg (by omega)]); try with_reducible rfl))
              (try simp only [Act.put, List.setIfInBounds_toArray, List.set_cons_zero, List.set_cons_succ])
              refine wpAnyH_take (i := 15) (oi := { dst := some 165, op := Go.Op.load 9 (Go.Operand.tmp 164), type := 9, pos := "law.go:79", after := #[{ on := 14, ground := Go.Ground.data }, { on := 9, ground := Go.Ground.guard }], guard := some (9, false) }) (v := ?_) rfl (by kernel_rfl) (by kernel_rfl) (by kernel_rfl) (fun _ _ _ h => h) (Or.inl ⟨by rfl, ?_⟩) (by assumption) ?_
              (rotate_left; focus (intro wS hSw; subst hSw; go_simp; (try rw [if_neg (by omega)]); try with_reducible rfl))
              (try simp only [Act.put, List.setIfInBounds_toArray, List.set_cons_zero, List.set_cons_succ])
              refine wpAnyH_take (i := 17) (oi := { dst := some 167, op := Go.Op.move (Go.Operand.tmp 8), type := 22, pos := "law.go:79", after := #[{ on := 9, ground := Go.Ground.guard }], guard := some (9, false) }) (v := ?_) rfl (by kernel_rfl) (by kernel_rfl) (by kernel_rfl) (fun _ _ _ h => h) (Or.inl ⟨by rfl, ?_⟩) (by assumption) ?_
              (rotate_left; focus (intro wS hSw; subst hSw; go_simp; (try rw [if_neg (by omega)]); try with_reducible rfl))
              (try simp only [Act.put, List.setIfInBounds_toArray, List.set_cons_zero, List.set_cons_succ])
              refine wpAnyH_take (i := 18) (oi := { dst := some 168, op := Go.Op.move (Go.Operand.tmp 1), type := 22, pos := "law.go:79", after := #[{ on := 9, ground := Go.Ground.guard }], guard := some (9, false) }) (v := ?_) rfl (by kernel_rfl) (by kernel_rfl) (by kernel_rfl) (fun _ _ _ h => h) (Or.inl ⟨by rfl, ?_⟩) (by assumption) ?_
              (rotate_left; focus (intro wS hSw; subst hSw; go_simp; (try rw [if_neg (by omega)]); try with_reducible rfl))
              (try simp only [Act.put, List.setIfInBounds_toArray, List.set_cons_zero, List.set_cons_succ])
              refine wpAnyH_take (i := 19) (oi := { dst := some 169, op := Go.Op.move (Go.Operand.tmp 9), type := 3, pos := "law.go:79", after := #[{ on := 9, ground := Go.Ground.guard }], guard := some (9, false) }) (v := ?_) rfl (by kernel_rfl) (by kernel_rfl) (by kernel_rfl) (fun _ _ _ h => h) (Or.inl ⟨by rfl, ?_⟩) (by assumption) ?_
              (rotate_left; focus (intro wS hSw; subst hSw; go_simp; (try rw [if_neg (by omega)]); try with_reducible rfl))
              (try simp only [Act.put, List.setIfInBounds_toArray, List.set_cons_zero, List.set_cons_succ])
              refine wpAnyH_take (i := 20) (oi := { dst := some 170, op := Go.Op.indexAddr 22 (Go.Operand.tmp 168) (Go.Operand.tmp 169), type := 0, pos := "law.go:79", after := #[{ on := 18, ground := Go.Ground.data }, { on := 19, ground := Go.Ground.data }, { on := 9, ground := Go.Ground.guard }], guard := some (9, false) }) (v := ?_) rfl (by kernel_rfl) (by kernel_rfl) (by kernel_rfl) (fun _ _ _ h => h) (Or.inl ⟨by rfl, ?_⟩) (by assumption) ?_
              (rotate_left; focus (intro wS hSw; subst hSw; go_simp; (try rw [if_neg (by omega)]); try with_reducible rfl))
              (try simp only [Act.put, List.setIfInBounds_toArray, List.set_cons_zero, List.set_cons_succ])
              refine wpAnyH_take (i := 21) (oi := { dst := some 171, op := Go.Op.fieldAddr 29 (Go.Operand.tmp 170) 1, type := 0, pos := "law.go:79", after := #[{ on := 20, ground := Go.Ground.data }, { on := 9, ground := Go.Ground.guard }], guard := some (9, false) }) (v := ?_) rfl (by kernel_rfl) (by kernel_rfl) (by kernel_rfl) (fun _ _ _ h => h) (Or.inl ⟨by rfl, ?_⟩) (by assumption) ?_
              (rotate_left; focus (intro wS hSw; subst hSw; go_simp; (try rw [if_neg (by omega)]); try with_reducible rfl))
              (try simp only [Act.put, List.setIfInBounds_toArray, List.set_cons_zero, List.set_cons_succ])
              refine wpAnyH_take (i := 22) (oi := { dst := some 172, op := Go.Op.load 9 (Go.Operand.tmp 171), type := 9, pos := "law.go:79", after := #[{ on := 21, ground := Go.Ground.data }, { on := 9, ground := Go.Ground.guard }], guard := some (9, false) }) (v := ?_) rfl (by kernel_rfl) (by kernel_rfl) (by kernel_rfl) (fun _ _ _ h => h) (Or.inl ⟨by rfl, ?_⟩) (by assumption) ?_
              (rotate_left; focus (intro wS hSw; subst hSw; go_simp; (try rw [if_neg (by omega)]); try with_reducible rfl))
              (try simp only [Act.put, List.setIfInBounds_toArray, List.set_cons_zero, List.set_cons_succ])
              refine wpAnyH_ready (rs := [16]) (by kernel_rfl) (by simp) ?_
              refine AllReadyH.cons (o := { dst := some 166, op := Go.Op.call { callee := Go.Callee.value (Go.Operand.func 11), args := #[Go.Operand.tmp 160, Go.Operand.tmp 165], argTypes := #[24, 9] }, type := 3, pos := "law.go:79", after := #[{ on := 10, ground := Go.Ground.data }, { on := 15, ground := Go.Ground.data }, { on := 9, ground := Go.Ground.chain }, { on := 9, ground := Go.Ground.guard }], guard := some (9, false) }) rfl (fun K hK => ?_) AllReadyH.nil
              go_simp
              refine (of_any who _ (Qs.drew (w := wr.drew) HQ.out) hd.1).mono ?_
              rintro e y2 ⟨rfl, hy⟩
              subst hy
              (try go_wp2_with fail)
              refine hK.out _ _ (by (exact rfl)) (fun hHeld => ?_)
              clear hK K
              (try simp only [Act.put, List.setIfInBounds_toArray, List.set_cons_zero, List.set_cons_succ])
              refine wpAnyH_ready (rs := [23]) (by kernel_rfl) (by simp) ?_
              refine AllReadyH.cons (o := { dst := some 173, op := Go.Op.call { callee := Go.Callee.value (Go.Operand.func 7), args := #[Go.Operand.tmp 167, Go.Operand.tmp 172], argTypes := #[22, 9] }, type := 3, pos := "law.go:79", after := #[{ on := 17, ground := Go.Ground.data }, { on := 22, ground := Go.Ground.data }, { on := 16, ground := Go.Ground.chain }, { on := 9, ground := Go.Ground.guard }], guard := some (9, false) }) rfl (fun K hK => ?_) AllReadyH.nil
              go_simp
              refine (law_of done who _ _ _ (Sl.drew2 (Sl.drew2 HSD.out)) (by have := HDL.out; omega) HDB.out).mono ?_
              rintro e y3 ⟨rfl, hy⟩
              subst hy
              (try go_wp2_with fail)
              refine hK.out _ _ (by (exact rfl)) (fun hHeld => ?_)
              clear hK K
              (try simp only [Act.put, List.setIfInBounds_toArray, List.set_cons_zero, List.set_cons_succ])
              refine wpAnyH_take (i := 24) (oi := { dst := some 174, op := Go.Op.binOp Go.BinOp.neq 3 (Go.Operand.tmp 166) (Go.Operand.tmp 173) 3, type := 4, pos := "law.go:79", after := #[{ on := 16, ground := Go.Ground.data }, { on := 23, ground := Go.Ground.data }, { on := 9, ground := Go.Ground.guard }], guard := some (9, false) }) (v := ?_) rfl (by kernel_rfl) (by kernel_rfl) (by kernel_rfl) (fun _ _ _ h => h) (Or.inl ⟨by rfl, ?_⟩) (by assumption) ?_
              (rotate_left; focus (intro wS hSw; subst hSw; go_simp; (try rw [if_neg (by omega)]); try with_reducible rfl))
              (try simp only [Act.put, List.setIfInBounds_toArray, List.set_cons_zero, List.set_cons_succ])
              refine wpAnyH_take (i := 25) (oi := { dst := some 175, op := Go.Op.pick (Go.Operand.tmp 159) (Go.Operand.const (Go.Value.bool true)) (Go.Operand.tmp 174), type := 4, pos := "law.go:79", after := #[{ on := 9, ground := Go.Ground.data }, { on := 24, ground := Go.Ground.data }], guard := none }) (v := ?_) rfl (by kernel_rfl) (by kernel_rfl) (by kernel_rfl) (fun _ _ _ h => h) (Or.inl ⟨by rfl, ?_⟩) (by assumption) ?_
              (rotate_left; focus (intro wS hSw; subst hSw; go_simp; (try rw [if_neg (by omega)]); try with_reducible rfl))
              (try simp only [Act.put, List.setIfInBounds_toArray, List.set_cons_zero, List.set_cons_succ])
              refine wpAnyH_done (by kernel_rfl) ?_ _
              go_wp2
              go_roundw
              case rel =>
                exact ⟨k + 1, done, kk, by omega, by go_num, by rw [HL.out], by have := HDL.out; omega, by omega, HDB.out, HPOS.out, by rw [HL.out]; exact hlf, HO.out, by rw [HL.out]; exact HQ.out, HB.out.drew.drew, HWS.out⟩
              case measure => simp [intOf]; omega
          | false =>
            as_aux_lemma =>
              have d2 : decide ((1 : Int) ≤ n) = false := decide_eq_false hlow
              go_wp2_with fail
              refine (law_of done who _ _ _ HSD.out (by have := HDL.out; omega) HDB.out).mono ?_
              rintro e x0 ⟨rfl, hx⟩
              obtain rfl : wr = x0 := hx.symm
              clear hx
              go_wp2_with fail
              have hP0 : wr.drew.cell? ⟨b2, o2 + k * 3 + 1, none⟩ = some (.string who) ∧ wr.drew.cell? ⟨b2, o2 + k * 3 + 2, none⟩ = some (.int .i64 n) := ⟨c1, c2⟩
              refine wp_region_held_drew (S := fun w' => w'.cell? ⟨b2, o2 + k * 3 + 1, none⟩ = some (.string who) ∧ w'.cell? ⟨b2, o2 + k * 3 + 2, none⟩ = some (.int .i64 n)) (by kernel_rfl) (by (first | exact hP0 | exact hP1)) (fun hHeld => ?_)
              refine wpAnyH_take (i := 0) (oi := { dst := some 111, op := Go.Op.move (Go.Operand.tmp 5), type := 24, pos := "law.go:69", after := #[], guard := none }) (v := ?_) rfl (by kernel_rfl) (by kernel_rfl) (by kernel_rfl) (fun _ _ _ h => h) (Or.inl ⟨by rfl, ?_⟩) (by assumption) ?_
              (rotate_left; focus (intro wS hSw; have s1 := hSw.1; have s2 := hSw.2; clear hSw; go_simp; (try rw [if_neg (by omega)]); try with_reducible rfl))
              (try simp only [Act.put, List.setIfInBounds_toArray, List.set_cons_zero, List.set_cons_succ])
              refine wpAnyH_take (i := 1) (oi := { dst := some 112, op := Go.Op.move (Go.Operand.tmp 1), type := 22, pos := "law.go:69", after := #[], guard := none }) (v := ?_) rfl (by kernel_rfl) (by kernel_rfl) (by kernel_rfl) (fun _ _ _ h => h) (Or.inl ⟨by rfl, ?_⟩) (by assumption) ?_
              (rotate_left; focus (intro wS hSw; have s1 := hSw.1; have s2 := hSw.2; clear hSw; go_simp; (try rw [if_neg (by omega)]); try with_reducible rfl))
              (try simp only [Act.put, List.setIfInBounds_toArray, List.set_cons_zero, List.set_cons_succ])
              refine wpAnyH_take (i := 2) (oi := { dst := some 113, op := Go.Op.move (Go.Operand.tmp 9), type := 3, pos := "law.go:69", after := #[], guard := none }) (v := ?_) rfl (by kernel_rfl) (by kernel_rfl) (by kernel_rfl) (fun _ _ _ h => h) (Or.inl ⟨by rfl, ?_⟩) (by assumption) ?_
              (rotate_left; focus (intro wS hSw; have s1 := hSw.1; have s2 := hSw.2; clear hSw; go_simp; (try rw [if_neg (by omega)]); try with_reducible rfl))
              (try simp only [Act.put, List.setIfInBounds_toArray, List.set_cons_zero, List.set_cons_succ])
              refine wpAnyH_take (i := 3) (oi := { dst := some 114, op := Go.Op.indexAddr 22 (Go.Operand.tmp 112) (Go.Operand.tmp 113), type := 0, pos := "law.go:69", after := #[{ on := 1, ground := Go.Ground.data }, { on := 2, ground := Go.Ground.data }], guard := none }) (v := ?_) rfl (by kernel_rfl) (by kernel_rfl) (by kernel_rfl) (fun _ _ _ h => h) (Or.inl ⟨by rfl, ?_⟩) (by assumption) ?_
              (rotate_left; focus (intro wS hSw; have s1 := hSw.1; have s2 := hSw.2; clear hSw; go_simp; (try rw [if_neg (by omega)]); try with_reducible rfl))
              (try simp only [Act.put, List.setIfInBounds_toArray, List.set_cons_zero, List.set_cons_succ])
              refine wpAnyH_take (i := 4) (oi := { dst := some 115, op := Go.Op.fieldAddr 29 (Go.Operand.tmp 114) 1, type := 0, pos := "law.go:69", after := #[{ on := 3, ground := Go.Ground.data }], guard := none }) (v := ?_) rfl (by kernel_rfl) (by kernel_rfl) (by kernel_rfl) (fun _ _ _ h => h) (Or.inl ⟨by rfl, ?_⟩) (by assumption) ?_
              (rotate_left; focus (intro wS hSw; have s1 := hSw.1; have s2 := hSw.2; clear hSw; go_simp; (try rw [if_neg (by omega)]); try with_reducible rfl))
              (try simp only [Act.put, List.setIfInBounds_toArray, List.set_cons_zero, List.set_cons_succ])
              refine wpAnyH_take (i := 5) (oi := { dst := some 116, op := Go.Op.load 9 (Go.Operand.tmp 115), type := 9, pos := "law.go:69", after := #[{ on := 4, ground := Go.Ground.data }], guard := none }) (v := ?_) rfl (by kernel_rfl) (by kernel_rfl) (by kernel_rfl) (fun _ _ _ h => h) (Or.inl ⟨by rfl, ?_⟩) (by assumption) ?_
              (rotate_left; focus (intro wS hSw; have s1 := hSw.1; have s2 := hSw.2; clear hSw; go_simp; (try rw [if_neg (by omega)]); try with_reducible rfl))
              (try simp only [Act.put, List.setIfInBounds_toArray, List.set_cons_zero, List.set_cons_succ])
              refine wpAnyH_take (i := 6) (oi := { dst := some 117, op := Go.Op.move (Go.Operand.tmp 1), type := 22, pos := "law.go:69", after := #[], guard := none }) (v := ?_) rfl (by kernel_rfl) (by kernel_rfl) (by kernel_rfl) (fun _ _ _ h => h) (Or.inl ⟨by rfl, ?_⟩) (by assumption) ?_
              (rotate_left; focus (intro wS hSw; have s1 := hSw.1; have s2 := hSw.2; clear hSw; go_simp; (try rw [if_neg (by omega)]); try with_reducible rfl))
              (try simp only [Act.put, List.setIfInBounds_toArray, List.set_cons_zero, List.set_cons_succ])
              refine wpAnyH_take (i := 7) (oi := { dst := some 118, op := Go.Op.move (Go.Operand.tmp 9), type := 3, pos := "law.go:69", after := #[], guard := none }) (v := ?_) rfl (by kernel_rfl) (by kernel_rfl) (by kernel_rfl) (fun _ _ _ h => h) (Or.inl ⟨by rfl, ?_⟩) (by assumption) ?_
              (rotate_left; focus (intro wS hSw; have s1 := hSw.1; have s2 := hSw.2; clear hSw; go_simp; (try rw [if_neg (by omega)]); try with_reducible rfl))
              (try simp only [Act.put, List.setIfInBounds_toArray, List.set_cons_zero, List.set_cons_succ])
              refine wpAnyH_take (i := 8) (oi := { dst := some 119, op := Go.Op.indexAddr 22 (Go.Operand.tmp 117) (Go.Operand.tmp 118), type := 0, pos := "law.go:69", after := #[{ on := 6, ground := Go.Ground.data }, { on := 7, ground := Go.Ground.data }], guard := none }) (v := ?_) rfl (by kernel_rfl) (by kernel_rfl) (by kernel_rfl) (fun _ _ _ h => h) (Or.inl ⟨by rfl, ?_⟩) (by assumption) ?_
              (rotate_left; focus (intro wS hSw; have s1 := hSw.1; have s2 := hSw.2; clear hSw; go_simp; (try rw [if_neg (by omega)]); try with_reducible rfl))
              (try simp only [Act.put, List.setIfInBounds_toArray, List.set_cons_zero, List.set_cons_succ])
              refine wpAnyH_take (i := 9) (oi := { dst := some 120, op := Go.Op.fieldAddr 29 (Go.Operand.tmp 119) 2, type := 0, pos := "law.go:69", after := #[{ on := 8, ground := Go.Ground.data }], guard := none }) (v := ?_) rfl (by kernel_rfl) (by kernel_rfl) (by kernel_rfl) (fun _ _ _ h => h) (Or.inl ⟨by rfl, ?_⟩) (by assumption) ?_
              (rotate_left; focus (intro wS hSw; have s1 := hSw.1; have s2 := hSw.2; clear hSw; go_simp; (try rw [if_neg (by omega)]); try with_reducible rfl))
              (try simp only [Act.put, List.setIfInBounds_toArray, List.set_cons_zero, List.set_cons_succ])
              refine wpAnyH_take (i := 10) (oi := { dst := some 121, op := Go.Op.load 3 (Go.Operand.tmp 120), type := 3, pos := "law.go:69", after := #[{ on := 9, ground := Go.Ground.data }], guard := none }) (v := ?_) rfl (by kernel_rfl) (by kernel_rfl) (by kernel_rfl) (fun _ _ _ h => h) (Or.inl ⟨by rfl, ?_⟩) (by assumption) ?_
              (rotate_left; focus (intro wS hSw; have s1 := hSw.1; have s2 := hSw.2; clear hSw; go_simp; (try rw [if_neg (by omega)]); try with_reducible rfl))
              (try simp only [Act.put, List.setIfInBounds_toArray, List.set_cons_zero, List.set_cons_succ])
              refine wpAnyH_ready (rs := [11]) (by kernel_rfl) (by simp) ?_
              refine AllReadyH.cons (o := { dst := some 122, op := Go.Op.call { callee := Go.Callee.value (Go.Operand.func 9), args := #[Go.Operand.tmp 111, Go.Operand.tmp 116, Go.Operand.tmp 121], argTypes := #[24, 9, 3] }, type := 4, pos := "law.go:69", after := #[{ on := 0, ground := Go.Ground.data }, { on := 5, ground := Go.Ground.data }, { on := 10, ground := Go.Ground.data }], guard := none }) rfl (fun K hK => ?_) AllReadyH.nil
              go_simp
              refine (take_no who n _ HQ.out.drew (by omega)).mono ?_
              rintro e x4 ⟨rfl, hx⟩
              subst hx
              have hP1 := hP0
              (try go_wp2_with fail)
              refine hK.out _ _ (by (first | exact hP0 | exact hP1)) (fun hHeld => ?_)
              clear hK K
              (try simp only [Act.put, List.setIfInBounds_toArray, List.set_cons_zero, List.set_cons_succ])
              refine wpAnyH_take (i := 12) (oi := { dst := some 12, op := Go.Op.assign (Go.Operand.tmp 122), type := 4, pos := "law.go:69", after := #[{ on := 11, ground := Go.Ground.data }, { on := 11, ground := Go.Ground.chain }, { on := 0, ground := Go.Ground.phase }, { on := 1, ground := Go.Ground.phase }, { on := 2, ground := Go.Ground.phase }, { on := 3, ground := Go.Ground.phase }, { on := 4, ground := Go.Ground.phase }, { on := 5, ground := Go.Ground.phase }, { on := 6, ground := Go.Ground.phase }, { on := 7, ground := Go.Ground.phase }, { on := 8, ground := Go.Ground.phase }, { on := 9, ground := Go.Ground.phase }, { on := 10, ground := Go.Ground.phase }, { on := 11, ground := Go.Ground.phase }], guard := none }) (v := ?_) rfl (by kernel_rfl) (by kernel_rfl) (by kernel_rfl) (fun _ _ _ h => h) (Or.inl ⟨by rfl, ?_⟩) (by assumption) ?_
              (rotate_left; focus (intro wS hSw; have s1 := hSw.1; have s2 := hSw.2; clear hSw; go_simp; (try rw [if_neg (by omega)]); try with_reducible rfl))
              (try simp only [Act.put, List.setIfInBounds_toArray, List.set_cons_zero, List.set_cons_succ])
              refine wpAnyH_done (by kernel_rfl) ?_ _
              clear hP0 hP1
              go_wp2_with fail
              have c1 : wr.drew.drew.cell? ⟨b2, o2 + k * 3 + 1, none⟩ = some (.string who) := c1
              refine wp_region_held_drew (S := fun w' => w' = wr.drew.drew) (by kernel_rfl) (by (exact rfl)) (fun hHeld => ?_)
              refine wpAnyH_take (i := 0) (oi := { dst := some 150, op := Go.Op.move (Go.Operand.tmp 12), type := 4, pos := "law.go:79", after := #[], guard := none }) (v := ?_) rfl (by kernel_rfl) (by kernel_rfl) (by kernel_rfl) (fun _ _ _ h => h) (Or.inl ⟨by rfl, ?_⟩) (by assumption) ?_
              (rotate_left; focus (intro wS hSw; subst hSw; go_simp; (try rw [if_neg (by omega)]); try with_reducible rfl))
              (try simp only [Act.put, List.setIfInBounds_toArray, List.set_cons_zero, List.set_cons_succ])
              refine wpAnyH_take (i := 1) (oi := { dst := some 151, op := Go.Op.move (Go.Operand.tmp 11), type := 4, pos := "law.go:79", after := #[], guard := none }) (v := ?_) rfl (by kernel_rfl) (by kernel_rfl) (by kernel_rfl) (fun _ _ _ h => h) (Or.inl ⟨by rfl, ?_⟩) (by assumption) ?_
              (rotate_left; focus (intro wS hSw; subst hSw; go_simp; (try rw [if_neg (by omega)]); try with_reducible rfl))
              (try simp only [Act.put, List.setIfInBounds_toArray, List.set_cons_zero, List.set_cons_succ])
              refine wpAnyH_take (i := 2) (oi := { dst := some 152, op := Go.Op.binOp Go.BinOp.neq 4 (Go.Operand.tmp 150) (Go.Operand.tmp 151) 4, type := 4, pos := "law.go:79", after := #[{ on := 0, ground := Go.Ground.data }, { on := 1, ground := Go.Ground.data }], guard := none }) (v := ?_) rfl (by kernel_rfl) (by kernel_rfl) (by kernel_rfl) (fun _ _ _ h => h) (Or.inl ⟨by rfl, ?_⟩) (by assumption) ?_
              (rotate_left; focus (intro wS hSw; subst hSw; go_simp; (try rw [if_neg (by omega)]); try with_reducible rfl))
              (try simp only [Act.put, List.setIfInBounds_toArray, List.set_cons_zero, List.set_cons_succ])
              refine wpAnyH_take (i := 3) (oi := { dst := some 153, op := Go.Op.move (Go.Operand.tmp 152), type := 4, pos := "law.go:79", after := #[{ on := 2, ground := Go.Ground.data }], guard := none }) (v := ?_) rfl (by kernel_rfl) (by kernel_rfl) (by kernel_rfl) (fun _ _ _ h => h) (Or.inl ⟨by rfl, ?_⟩) (by assumption) ?_
              (rotate_left; focus (intro wS hSw; subst hSw; go_simp; (try rw [if_neg (by omega)]); try with_reducible rfl))
              (try simp only [Act.put, List.setIfInBounds_toArray, List.set_cons_zero, List.set_cons_succ])
              refine wpAnyH_take (i := 4) (oi := { dst := some 154, op := Go.Op.move (Go.Operand.tmp 5), type := 24, pos := "law.go:79", after := #[{ on := 3, ground := Go.Ground.guard }], guard := some (3, false) }) (v := ?_) rfl (by kernel_rfl) (by kernel_rfl) (by kernel_rfl) (fun _ _ _ h => h) (Or.inl ⟨by rfl, ?_⟩) (by assumption) ?_
              (rotate_left; focus (intro wS hSw; subst hSw; go_simp; (try rw [if_neg (by omega)]); try with_reducible rfl))
              (try simp only [Act.put, List.setIfInBounds_toArray, List.set_cons_zero, List.set_cons_succ])
              refine wpAnyH_take (i := 6) (oi := { dst := some 156, op := Go.Op.move (Go.Operand.tmp 7), type := 3, pos := "law.go:79", after := #[{ on := 3, ground := Go.Ground.guard }], guard := some (3, false) }) (v := ?_) rfl (by kernel_rfl) (by kernel_rfl) (by kernel_rfl) (fun _ _ _ h => h) (Or.inl ⟨by rfl, ?_⟩) (by assumption) ?_
              (rotate_left; focus (intro wS hSw; subst hSw; go_simp; (try rw [if_neg (by omega)]); try with_reducible rfl))
              (try simp only [Act.put, List.setIfInBounds_toArray, List.set_cons_zero, List.set_cons_succ])
              refine wpAnyH_ready (rs := [5]) (by kernel_rfl) (by simp) ?_
              refine AllReadyH.cons (o := { dst := some 155, op := Go.Op.call { callee := Go.Callee.value (Go.Operand.func 10), args := #[Go.Operand.tmp 154], argTypes := #[24] }, type := 3, pos := "law.go:79", after := #[{ on := 4, ground := Go.Ground.data }, { on := 3, ground := Go.Ground.chain }, { on := 3, ground := Go.Ground.guard }], guard := some (3, false) }) rfl (fun K hK => ?_) AllReadyH.nil
              go_simp
              refine (left_any _ (Qs.drew (w := wr.drew) HQ.out)).mono ?_
              rintro e y1 ⟨rfl, hy⟩
              subst hy
              (try go_wp2_with fail)
              refine hK.out _ _ (by (exact rfl)) (fun hHeld => ?_)
              clear hK K
              (try simp only [Act.put, List.setIfInBounds_toArray, List.set_cons_zero, List.set_cons_succ])
              refine wpAnyH_take (i := 7) (oi := { dst := some 157, op := Go.Op.binOp Go.BinOp.neq 3 (Go.Operand.tmp 155) (Go.Operand.tmp 156) 3, type := 4, pos := "law.go:79", after := #[{ on := 5, ground := Go.Ground.data }, { on := 6, ground := Go.Ground.data }, { on := 3, ground := Go.Ground.guard }], guard := some (3, false) }) (v := ?_) rfl (by kernel_rfl) (by kernel_rfl) (by kernel_rfl) (fun _ _ _ h => h) (Or.inl ⟨by rfl, ?_⟩) (by assumption) ?_
              (rotate_left; focus (intro wS hSw; subst hSw; go_simp; (try rw [if_neg (by omega)]); try with_reducible rfl))
              (try simp only [Act.put, List.setIfInBounds_toArray, List.set_cons_zero, List.set_cons_succ])
              refine wpAnyH_take (i := 8) (oi := { dst := some 158, op := Go.Op.pick (Go.Operand.tmp 153) (Go.Operand.const (Go.Value.bool true)) (Go.Operand.tmp 157), type := 4, pos := "law.go:79", after := #[{ on := 3, ground := Go.Ground.data }, { on := 7, ground := Go.Ground.data }], guard := none }) (v := ?_) rfl (by kernel_rfl) (by kernel_rfl) (by kernel_rfl) (fun _ _ _ h => h) (Or.inl ⟨by rfl, ?_⟩) (by assumption) ?_
              (rotate_left; focus (intro wS hSw; subst hSw; go_simp; (try rw [if_neg (by omega)]); try with_reducible rfl))
              (try simp only [Act.put, List.setIfInBounds_toArray, List.set_cons_zero, List.set_cons_succ])
              refine wpAnyH_take (i := 9) (oi := { dst := some 159, op := Go.Op.move (Go.Operand.tmp 158), type := 4, pos := "law.go:79", after := #[{ on := 8, ground := Go.Ground.data }, { on := 5, ground := Go.Ground.chain }], guard := none }) (v := ?_) rfl (by kernel_rfl) (by kernel_rfl) (by kernel_rfl) (fun _ _ _ h => h) (Or.inl ⟨by rfl, ?_⟩) (by assumption) ?_
              (rotate_left; focus (intro wS hSw; subst hSw; go_simp; (try rw [if_neg (by omega)]); try with_reducible rfl))
              (try simp only [Act.put, List.setIfInBounds_toArray, List.set_cons_zero, List.set_cons_succ])
              refine wpAnyH_take (i := 10) (oi := { dst := some 160, op := Go.Op.move (Go.Operand.tmp 5), type := 24, pos := "law.go:79", after := #[{ on := 9, ground := Go.Ground.guard }], guard := some (9, false) }) (v := ?_) rfl (by kernel_rfl) (by kernel_rfl) (by kernel_rfl) (fun _ _ _ h => h) (Or.inl ⟨by rfl, ?_⟩) (by assumption) ?_
              (rotate_left; focus (intro wS hSw; subst hSw; go_simp; (try rw [if_neg (by omega)]); try with_reducible rfl))
              (try simp only [Act.put, List.setIfInBounds_toArray, List.set_cons_zero, List.set_cons_succ])
              refine wpAnyH_take (i := 11) (oi := { dst := some 161, op := Go.Op.move (Go.Operand.tmp 1), type := 22, pos := "law.go:79", after := #[{ on := 9, ground := Go.Ground.guard }], guard := some (9, false) }) (v := ?_) rfl (by kernel_rfl) (by kernel_rfl) (by kernel_rfl) (fun _ _ _ h => h) (Or.inl ⟨by rfl, ?_⟩) (by assumption) ?_
              (rotate_left; focus (intro wS hSw; subst hSw; go_simp; (try rw [if_neg (by omega)]); try with_reducible rfl))
              (try simp only [Act.put, List.setIfInBounds_toArray, List.set_cons_zero, List.set_cons_succ])
              refine wpAnyH_take (i := 12) (oi := { dst := some 162, op := Go.Op.move (Go.Operand.tmp 9), type := 3, pos := "law.go:79", after := #[{ on := 9, ground := Go.Ground.guard }], guard := some (9, false) }) (v := ?_) rfl (by kernel_rfl) (by kernel_rfl) (by kernel_rfl) (fun _ _ _ h => h) (Or.inl ⟨by rfl, ?_⟩) (by assumption) ?_
              (rotate_left; focus (intro wS hSw; subst hSw; go_simp; (try rw [if_neg (by omega)]); try with_reducible rfl))
              (try simp only [Act.put, List.setIfInBounds_toArray, List.set_cons_zero, List.set_cons_succ])
              refine wpAnyH_take (i := 13) (oi := { dst := some 163, op := Go.Op.indexAddr 22 (Go.Operand.tmp 161) (Go.Operand.tmp 162), type := 0, pos := "law.go:79", after := #[{ on := 11, ground := Go.Ground.data }, { on := 12, ground := Go.Ground.data }, { on := 9, ground := Go.Ground.guard }], guard := some (9, false) }) (v := ?_) rfl (by kernel_rfl) (by kernel_rfl) (by kernel_rfl) (fun _ _ _ h => h) (Or.inl ⟨by rfl, ?_⟩) (by assumption) ?_
              (rotate_left; focus (intro wS hSw; subst hSw; go_simp; (try rw [if_neg (by omega)]); try with_reducible rfl))
              (try simp only [Act.put, List.setIfInBounds_toArray, List.set_cons_zero, List.set_cons_succ])
              refine wpAnyH_take (i := 14) (oi := { dst := some 164, op := Go.Op.fieldAddr 29 (Go.Operand.tmp 163) 1, type := 0, pos := "law.go:79", after := #[{ on := 13, ground := Go.Ground.data }, { on := 9, ground := Go.Ground.guard }], guard := some (9, false) }) (v := ?_) rfl (by kernel_rfl) (by kernel_rfl) (by kernel_rfl) (fun _ _ _ h => h) (Or.inl ⟨by rfl, ?_⟩) (by assumption) ?_
              (rotate_left; focus (intro wS hSw; subst hSw; go_simp; (try rw [if_neg (by omega)]); try with_reducible rfl))
              (try simp only [Act.put, List.setIfInBounds_toArray, List.set_cons_zero, List.set_cons_succ])
              refine wpAnyH_take (i := 15) (oi := { dst := some 165, op := Go.Op.load 9 (Go.Operand.tmp 164), type := 9, pos := "law.go:79", after := #[{ on := 14, ground := Go.Ground.data }, { on := 9, ground := Go.Ground.guard }], guard := some (9, false) }) (v := ?_) rfl (by kernel_rfl) (by kernel_rfl) (by kernel_rfl) (fun _ _ _ h => h) (Or.inl ⟨by rfl, ?_⟩) (by assumption) ?_
              (rotate_left; focus (intro wS hSw; subst hSw; go_simp; (try rw [if_neg (by omega)]); try with_reducible rfl))
              (try simp only [Act.put, List.setIfInBounds_toArray, List.set_cons_zero, List.set_cons_succ])
              refine wpAnyH_take (i := 17) (oi := { dst := some 167, op := Go.Op.move (Go.Operand.tmp 8), type := 22, pos := "law.go:79", after := #[{ on := 9, ground := Go.Ground.guard }], guard := some (9, false) }) (v := ?_) rfl (by kernel_rfl) (by kernel_rfl) (by kernel_rfl) (fun _ _ _ h => h) (Or.inl ⟨by rfl, ?_⟩) (by assumption) ?_
              (rotate_left; focus (intro wS hSw; subst hSw; go_simp; (try rw [if_neg (by omega)]); try with_reducible rfl))
              (try simp only [Act.put, List.setIfInBounds_toArray, List.set_cons_zero, List.set_cons_succ])
              refine wpAnyH_take (i := 18) (oi := { dst := some 168, op := Go.Op.move (Go.Operand.tmp 1), type := 22, pos := "law.go:79", after := #[{ on := 9, ground := Go.Ground.guard }], guard := some (9, false) }) (v := ?_) rfl (by kernel_rfl) (by kernel_rfl) (by kernel_rfl) (fun _ _ _ h => h) (Or.inl ⟨by rfl, ?_⟩) (by assumption) ?_
              (rotate_left; focus (intro wS hSw; subst hSw; go_simp; (try rw [if_neg (by omega)]); try with_reducible rfl))
              (try simp only [Act.put, List.setIfInBounds_toArray, List.set_cons_zero, List.set_cons_succ])
              refine wpAnyH_take (i := 19) (oi := { dst := some 169, op := Go.Op.move (Go.Operand.tmp 9), type := 3, pos := "law.go:79", after := #[{ on := 9, ground := Go.Ground.guard }], guard := some (9, false) }) (v := ?_) rfl (by kernel_rfl) (by kernel_rfl) (by kernel_rfl) (fun _ _ _ h => h) (Or.inl ⟨by rfl, ?_⟩) (by assumption) ?_
              (rotate_left; focus (intro wS hSw; subst hSw; go_simp; (try rw [if_neg (by omega)]); try with_reducible rfl))
              (try simp only [Act.put, List.setIfInBounds_toArray, List.set_cons_zero, List.set_cons_succ])
              refine wpAnyH_take (i := 20) (oi := { dst := some 170, op := Go.Op.indexAddr 22 (Go.Operand.tmp 168) (Go.Operand.tmp 169), type := 0, pos := "law.go:79", after := #[{ on := 18, ground := Go.Ground.data }, { on := 19, ground := Go.Ground.data }, { on := 9, ground := Go.Ground.guard }], guard := some (9, false) }) (v := ?_) rfl (by kernel_rfl) (by kernel_rfl) (by kernel_rfl) (fun _ _ _ h => h) (Or.inl ⟨by rfl, ?_⟩) (by assumption) ?_
              (rotate_left; focus (intro wS hSw; subst hSw; go_simp; (try rw [if_neg (by omega)]); try with_reducible rfl))
              (try simp only [Act.put, List.setIfInBounds_toArray, List.set_cons_zero, List.set_cons_succ])
              refine wpAnyH_take (i := 21) (oi := { dst := some 171, op := Go.Op.fieldAddr 29 (Go.Operand.tmp 170) 1, type := 0, pos := "law.go:79", after := #[{ on := 20, ground := Go.Ground.data }, { on := 9, ground := Go.Ground.guard }], guard := some (9, false) }) (v := ?_) rfl (by kernel_rfl) (by kernel_rfl) (by kernel_rfl) (fun _ _ _ h => h) (Or.inl ⟨by rfl, ?_⟩) (by assumption) ?_
              (rotate_left; focus (intro wS hSw; subst hSw; go_simp; (try rw [if_neg (by omega)]); try with_reducible rfl))
              (try simp only [Act.put, List.setIfInBounds_toArray, List.set_cons_zero, List.set_cons_succ])
              refine wpAnyH_take (i := 22) (oi := { dst := some 172, op := Go.Op.load 9 (Go.Operand.tmp 171), type := 9, pos := "law.go:79", after := #[{ on := 21, ground := Go.Ground.data }, { on := 9, ground := Go.Ground.guard }], guard := some (9, false) }) (v := ?_) rfl (by kernel_rfl) (by kernel_rfl) (by kernel_rfl) (fun _ _ _ h => h) (Or.inl ⟨by rfl, ?_⟩) (by assumption) ?_
              (rotate_left; focus (intro wS hSw; subst hSw; go_simp; (try rw [if_neg (by omega)]); try with_reducible rfl))
              (try simp only [Act.put, List.setIfInBounds_toArray, List.set_cons_zero, List.set_cons_succ])
              refine wpAnyH_ready (rs := [16]) (by kernel_rfl) (by simp) ?_
              refine AllReadyH.cons (o := { dst := some 166, op := Go.Op.call { callee := Go.Callee.value (Go.Operand.func 11), args := #[Go.Operand.tmp 160, Go.Operand.tmp 165], argTypes := #[24, 9] }, type := 3, pos := "law.go:79", after := #[{ on := 10, ground := Go.Ground.data }, { on := 15, ground := Go.Ground.data }, { on := 9, ground := Go.Ground.chain }, { on := 9, ground := Go.Ground.guard }], guard := some (9, false) }) rfl (fun K hK => ?_) AllReadyH.nil
              go_simp
              refine (of_any who _ (Qs.drew (w := wr.drew) HQ.out) hd.1).mono ?_
              rintro e y2 ⟨rfl, hy⟩
              subst hy
              (try go_wp2_with fail)
              refine hK.out _ _ (by (exact rfl)) (fun hHeld => ?_)
              clear hK K
              (try simp only [Act.put, List.setIfInBounds_toArray, List.set_cons_zero, List.set_cons_succ])
              refine wpAnyH_ready (rs := [23]) (by kernel_rfl) (by simp) ?_
              refine AllReadyH.cons (o := { dst := some 173, op := Go.Op.call { callee := Go.Callee.value (Go.Operand.func 7), args := #[Go.Operand.tmp 167, Go.Operand.tmp 172], argTypes := #[22, 9] }, type := 3, pos := "law.go:79", after := #[{ on := 17, ground := Go.Ground.data }, { on := 22, ground := Go.Ground.data }, { on := 16, ground := Go.Ground.chain }, { on := 9, ground := Go.Ground.guard }], guard := some (9, false) }) rfl (fun K hK => ?_) AllReadyH.nil
              go_simp
              refine (law_of done who _ _ _ (Sl.drew2 (Sl.drew2 HSD.out)) (by have := HDL.out; omega) HDB.out).mono ?_
              rintro e y3 ⟨rfl, hy⟩
              subst hy
              (try go_wp2_with fail)
              refine hK.out _ _ (by (exact rfl)) (fun hHeld => ?_)
              clear hK K
              (try simp only [Act.put, List.setIfInBounds_toArray, List.set_cons_zero, List.set_cons_succ])
              refine wpAnyH_take (i := 24) (oi := { dst := some 174, op := Go.Op.binOp Go.BinOp.neq 3 (Go.Operand.tmp 166) (Go.Operand.tmp 173) 3, type := 4, pos := "law.go:79", after := #[{ on := 16, ground := Go.Ground.data }, { on := 23, ground := Go.Ground.data }, { on := 9, ground := Go.Ground.guard }], guard := some (9, false) }) (v := ?_) rfl (by kernel_rfl) (by kernel_rfl) (by kernel_rfl) (fun _ _ _ h => h) (Or.inl ⟨by rfl, ?_⟩) (by assumption) ?_
              (rotate_left; focus (intro wS hSw; subst hSw; go_simp; (try rw [if_neg (by omega)]); try with_reducible rfl))
              (try simp only [Act.put, List.setIfInBounds_toArray, List.set_cons_zero, List.set_cons_succ])
              refine wpAnyH_take (i := 25) (oi := { dst := some 175, op := Go.Op.pick (Go.Operand.tmp 159) (Go.Operand.const (Go.Value.bool true)) (Go.Operand.tmp 174), type := 4, pos := "law.go:79", after := #[{ on := 9, ground := Go.Ground.data }, { on := 24, ground := Go.Ground.data }], guard := none }) (v := ?_) rfl (by kernel_rfl) (by kernel_rfl) (by kernel_rfl) (fun _ _ _ h => h) (Or.inl ⟨by rfl, ?_⟩) (by assumption) ?_
              (rotate_left; focus (intro wS hSw; subst hSw; go_simp; (try rw [if_neg (by omega)]); try with_reducible rfl))
              (try simp only [Act.put, List.setIfInBounds_toArray, List.set_cons_zero, List.set_cons_succ])
              refine wpAnyH_done (by kernel_rfl) ?_ _
              go_wp2
              go_roundw
              case rel =>
                exact ⟨k + 1, done, kk, by omega, by go_num, by rw [HL.out], by have := HDL.out; omega, by omega, HDB.out, HPOS.out, by rw [HL.out]; exact hlf, HO.out, by rw [HL.out]; exact HQ.out, HB.out.drew.drew, HWS.out⟩
              case measure => simp [intOf]; omega
      · have d1 : decide ((100 : Int) < (who.size : Int)) = true := decide_eq_true (by omega)
        go_wp2
        go_roundw
        case rel => exact ⟨k + 1, done, kk, by omega, by go_num, rfl, by have := HDL.out; omega, by omega, HDB.out, HPOS.out, hlf, HO.out, HQ.out, HB.out, HWS.out⟩
        case measure => simp [intOf]; omega
    · obtain rfl : k = l.length := by omega
      go_wp2_with fail
      refine (awake_any _).mono ?_
      rintro e w3 ⟨rfl, hb3⟩
      have HB3 := Lib.hid (below_step HB.out (Nat.le_refl _) hb3)
      clear hb3
      go_wp2
      go_ret
      exact ⟨rfl, HB3.out⟩
end Go.Proofs.Ytbilnkgicpkdnaa

