/-
  The walk of NetPlays: it returns true, for every input, without condition.
-/
import Derived.Test.YtpplpbpgaaabdaaI
set_option linter.unusedVariables false
set_option linter.unusedSimpArgs false
namespace Go.Proofs.Ytpplpbpgaaabdaa
open Go.RowKit
abbrev Deed := Int × Int × Int × ByteArray
def encD (d : Deed) : List Value := [.int .i64 d.1, .int .i64 d.2.1, .int .i64 d.2.2.1, .string d.2.2.2]
theorem Bk.get {p : Nat} {a b : Value} {w : World} (h : Bk p [a, b] w) : w.cell? ⟨p, 0, none⟩ = some a ∧ w.cell? ⟨p, 1, none⟩ = some b := ⟨(h.2 0 _ rfl).1, (h.2 1 _ rfl).1⟩
set_option maxRecDepth 100000 in
theorem long_walk (most : Int) (a : Option Addr) (n cap : Nat) (w : World) (hl : 60 < n) :
    Calls Try.prog 3 #[.int .i64 most, .slice a n cap] w fun e w' => e = .returned (.bool true) ∧ Below w.heap.size w w' := by
  have g1 : decide ((60 : Int) < (n : Int)) = true := decide_eq_true (by omega)
  go_enter Try.func3, Try.ntmps3
  go_wp2_with fail
  refine (awake_any _).mono ?_
  rintro e w1 ⟨rfl, hb⟩
  go_wp2
  go_ret
  exact ⟨rfl, hb⟩
set_option maxRecDepth 100000 in
theorem bad_walk (most : Int) (a : Option Addr) (n cap : Nat) (w : World) (hl : n ≤ 60) (h : most < 1 ∨ 4096 < most) :
    Calls Try.prog 3 #[.int .i64 most, .slice a n cap] w fun e w' => e = .returned (.bool true) ∧ Below w.heap.size w w' := by
  have g1 : decide ((60 : Int) < (n : Int)) = false := decide_eq_false (by omega)
  by_cases h1 : most < 1
  · have g2 : decide (most < 1) = true := decide_eq_true h1
    go_enter Try.func3, Try.ntmps3
    go_wp2_with fail
    refine (bad_any most _ h).mono ?_
    rintro e w1 ⟨rfl, rfl⟩
    go_wp2_with fail
    refine (awake_any _).mono ?_
    rintro e w2 ⟨rfl, hb⟩
    go_wp2
    go_ret
    exact ⟨rfl, hb⟩
  · have g2 : decide (most < 1) = false := decide_eq_false h1
    have g3 : decide (4096 < most) = true := decide_eq_true (by omega)
    go_enter Try.func3, Try.ntmps3
    go_wp2_with fail
    refine (bad_any most _ h).mono ?_
    rintro e w1 ⟨rfl, rfl⟩
    go_wp2_with fail
    refine (awake_any _).mono ?_
    rintro e w2 ⟨rfl, hb⟩
    go_wp2
    go_ret
    exact ⟨rfl, hb⟩
set_option maxRecDepth 100000 in
set_option maxHeartbeats 16000000 in
theorem plays_walk (room : Int) (a : Option Addr) (l : List Deed) (cap : Nat) (w : World) (hl : l.length ≤ 60) (h0 : 1 ≤ room) (h1 : room ≤ 4096) (hs : Sl encD 4 w a l) (hi : ∀ d ∈ l, -9223372036854775808 ≤ d.2.2.1 ∧ d.2.2.1 ≤ 9223372036854775807) :
    Calls Try.prog 3 #[.int .i64 room, .slice a l.length cap] w fun e w' => e = .returned (.bool true) ∧ Below w.heap.size w w' := by
  have HS := Lib.hid hs; have HI := Lib.hid hi
  clear hs hi
  obtain ⟨i0, hi0, hz0, hz1, hz2⟩ := info_parts info32
  have g1 : decide ((60 : Int) < (l.length : Int)) = false := decide_eq_false (by omega)
  have g2 : decide (room < 1) = false := decide_eq_false (by omega)
  have g3 : decide (4096 < room) = false := decide_eq_false (by omega)
  go_enter Try.func3, Try.ntmps3
  go_wp2_with fail
  refine (new_any room _ h0 h1).mono ?_
  rintro e w1 ⟨rfl, hq, hb⟩
  have hz : w.heap.size + 1 ≤ w1.heap.size := hq.2.2.2
  obtain ⟨p, hpe⟩ : ∃ p, p = w.heap.size := ⟨_, rfl⟩
  rw [← hpe] at hq hz ⊢
  have HQ0 := Lib.hid hq; have HB0 := Lib.hid hb; have HP := Lib.hid hpe; have HZ := Lib.hid hz
  clear hq hb hpe hz
  go_wp2
  clear g2 g3
  go_loopw [7, 8] (fun vx i wr => ∃ (k : Nat) (xs : List Msg) (vn : Value), k ≤ l.length ∧ i = .int .i64 k ∧ xs.length ≤ k ∧ (xs.length : Int) ≤ room ∧ wr.ownsRow w1.heap.size 32 2 vx xs.length (xs.flatMap encM) ∧ Ns wr p (p + 1) vn xs room ∧ (∀ g, vx.ownBlock = some g → vn.ownBlock ≠ some g) ∧ Below w.heap.size w wr ∧ w1.heap.size ≤ wr.heap.size) (fun _ i _ => l.length - (intOf i).toNat)
  case atStart => exact ⟨0, [], .slice none 0 0, by omega, rfl, Nat.le_refl _, by simp; omega, own_nil _ _ _ _, HQ0.out, fun g h => by simp [Value.ownBlock] at h, HB0.out, Nat.le_refl _⟩
  case round =>
    obtain ⟨k, xs, vn, hk, rfl, hxk, hxr, hox, hns, hdj, hbw, hws⟩ := hrel
    by_cases hlt : k < l.length
    · obtain ⟨b2, o2, rfl, _, hc2⟩ := HS.out.keep HB0.out k hlt
      clear hc2
      have HLK : Hid (∀ (wx : World), Below w.heap.size w wx → wx.cell? ⟨b2, o2 + k * 4, none⟩ = some (.int .i64 l[k].1) ∧ wx.cell? ⟨b2, o2 + k * 4 + 1, none⟩ = some (.int .i64 l[k].2.1) ∧ wx.cell? ⟨b2, o2 + k * 4 + 2, none⟩ = some (.int .i64 l[k].2.2.1) ∧ wx.cell? ⟨b2, o2 + k * 4 + 3, none⟩ = some (.string l[k].2.2.2)) := Lib.hid (fun wx hx => by
        obtain ⟨b3, o3, he3, _, hc3⟩ := Sl.keep HS.out (w' := wx) (Kp.below (S := fun i => w.heap.size ≤ i) (Kp.of_below hx (fun _ _ h => h)) (Nat.le_refl _) (fun _ h => h)) k hlt
        obtain ⟨rfl, rfl⟩ : b2 = b3 ∧ o2 = o3 := by simpa using he3
        exact ⟨hc3 0 _ rfl, hc3 1 _ rfl, hc3 2 _ rfl, hc3 3 _ rfl⟩)
      have gi : (k : Int) < (l.length : Int) := by omega
      have hd := HI.out l[k] (List.getElem_mem hlt)
      generalize l[k] = d at *
      obtain ⟨kd, to, i, s⟩ := d
      dsimp only at hd HLK
      have c0 := (HLK.out wr hbw).1; have c1 := (HLK.out wr hbw).2.1; have c2 := (HLK.out wr hbw).2.2.1; have c3 := (HLK.out wr hbw).2.2.2
      have HO := Lib.hid hox; have HN := Lib.hid hns; have HD := Lib.hid hdj; have HB := Lib.hid hbw; have HWS := Lib.hid hws
      clear hox hns hdj hbw hws
      by_cases hsz : s.size ≤ 200
      · have d1 : decide ((200 : Int) < (s.size : Int)) = false := decide_eq_false (by omega)
        obtain ⟨ax, cx, rfl⟩ := own_shape HO.out
        go_wp2_with fail
        refine (ref_both i _ HO.out HWS.out (by omega) hd).mono ?_
        rintro e w2 ⟨vy, rfl, hy, hb2, hyb⟩
        obtain ⟨ay, cy, rfl⟩ := own_shape hy
        obtain ⟨mt, hmt⟩ : ∃ m, m = (getM xs i).1 := ⟨_, rfl⟩
        obtain ⟨mz, hmz⟩ : ∃ m, m = (getM xs i).2 := ⟨_, rfl⟩
        obtain ⟨okv, hok⟩ : ∃ m, m = have1 xs := ⟨_, rfl⟩
        rw [← hmt, ← hmz, ← hok]
        obtain ⟨ys, hys⟩ : ∃ ys, ys = rest xs i := ⟨_, rfl⟩
        rw [← hys] at hy hyb ⊢
        have HM := Lib.hid (And.intro hmt (And.intro hmz (And.intro hok hys)))
        have hylen : ys.length ≤ xs.length := by rw [hys]; exact rest_le xs i
        have HW3 := Lib.hid (below_new w2 (.cells #[.int .i64 mt, .string mz] 32))
        have HA3 := Lib.hid (Bk.new w2 32 #[.int .i64 mt, .string mz])
        have HB3 := Lib.hid (below_step (below_step HB.out (Nat.le_refl _) hb2) (Nat.le_refl _) HW3.out)
        have HN3 := Lib.hid ((HN.out.keep hb2).keep HW3.out)
        have HX3 := Lib.hid (own_kept (own_kept HO.out hb2) HW3.out)
        have HY3 := Lib.hid (own_kept hy HW3.out)
        have hnlt : ∀ g, vn.ownBlock = some g → p < g ∧ g < w2.heap.size := fun g hg => ⟨by have := (HN.out.2.1.lt g hg).1; omega, ((HN.out.keep hb2).2.1.lt g hg).2⟩
        have HNL := Lib.hid hnlt
        have HYD : Hid (∀ g, (Value.slice ay ys.length cy).ownBlock = some g → vn.ownBlock ≠ some g) := Lib.hid (fun g hg e => by
          rcases hyb g hg with h9 | h9
          · exact HD.out g h9 e
          · have := (HN.out.2.1.lt g e).2; omega)
        have HSZ3 : Hid (w1.heap.size ≤ w2.heap.size ∧ p < w2.heap.size) := Lib.hid ⟨Nat.le_trans HWS.out hb2.size, by have := HZ.out; have := HWS.out; have := hb2.size; omega⟩
        have hc3 := HLK.out _ HB3.out
        have c0 := hc3.1; have c1 := hc3.2.1; have c2 := hc3.2.2.1; have c3 := hc3.2.2.2
        clear hc3 hmt hmz hok hys hy hb2 hyb hnlt
        by_cases hk0 : kd = 0
        · have k0 : (kd == 0) = true := by simpa using hk0
          clear hk0
          by_cases hr : (xs.length : Int) < room
          · have r1 : decide ((xs.length : Int) < room) = true := decide_eq_true hr
            as_aux_lemma =>
              go_wp2_with fail
              generalize hW3 : (w2.alloc (.cells #[.int .i64 mt, .string mz] 32)) = W3 at *
              clear hW3
              have hP0 := HB3.out.drew
              have hP1 : Below w.heap.size w (W3.alloc (.cells #[.int .i64 to, .string s] 32)).drew := (HB3.out.alloc HB3.out.size _).drew
              have hws3 : w1.heap.size ≤ W3.heap.size := by have := HSZ3.out; have := HW3.out.size; omega
              refine wp_region_held_drew (S := fun w' => Below w.heap.size w w') (by kernel_rfl) (by (first | exact hP0 | exact hP1 | exact hP2)) (fun hHeld => ?_)
              refine wpAnyH_take (i := 0) (oi := { dst := some 111, op := Go.Op.move (Go.Operand.tmp 7), type := 28, pos := "law.go:51", after := #[], guard := none }) (v := ?_) rfl (by kernel_rfl) (by kernel_rfl) (by kernel_rfl) (fun _ _ _ h => h) (Or.inl ⟨by rfl, ?_⟩) (by assumption) ?_
              (rotate_left; focus (intro wS hSw; have s1 := (HLK.out wS hSw).2.1; have s3 := (HLK.out wS hSw).2.2.2; clear hSw; go_simp; (try rw [if_neg (by omega)]); try with_reducible rfl))
              (try simp only [Act.put, List.setIfInBounds_toArray, List.set_cons_zero, List.set_cons_succ])
              refine wpAnyH_take (i := 1) (oi := { dst := some 112, op := Go.Op.move (Go.Operand.tmp 1), type := 22, pos := "law.go:51", after := #[], guard := none }) (v := ?_) rfl (by kernel_rfl) (by kernel_rfl) (by kernel_rfl) (fun _ _ _ h => h) (Or.inl ⟨by rfl, ?_⟩) (by assumption) ?_
              (rotate_left; focus (intro wS hSw; have s1 := (HLK.out wS hSw).2.1; have s3 := (HLK.out wS hSw).2.2.2; clear hSw; go_simp; (try rw [if_neg (by omega)]); try with_reducible rfl))
              (try simp only [Act.put, List.setIfInBounds_toArray, List.set_cons_zero, List.set_cons_succ])
              refine wpAnyH_take (i := 2) (oi := { dst := some 113, op := Go.Op.move (Go.Operand.tmp 8), type := 3, pos := "law.go:51", after := #[], guard := none }) (v := ?_) rfl (by kernel_rfl) (by kernel_rfl) (by kernel_rfl) (fun _ _ _ h => h) (Or.inl ⟨by rfl, ?_⟩) (by assumption) ?_
              (rotate_left; focus (intro wS hSw; have s1 := (HLK.out wS hSw).2.1; have s3 := (HLK.out wS hSw).2.2.2; clear hSw; go_simp; (try rw [if_neg (by omega)]); try with_reducible rfl))
              (try simp only [Act.put, List.setIfInBounds_toArray, List.set_cons_zero, List.set_cons_succ])
              refine wpAnyH_take (i := 3) (oi := { dst := some 114, op := Go.Op.indexAddr 22 (Go.Operand.tmp 112) (Go.Operand.tmp 113), type := 0, pos := "law.go:51", after := #[{ on := 1, ground := Go.Ground.data }, { on := 2, ground := Go.Ground.data }], guard := none }) (v := ?_) rfl (by kernel_rfl) (by kernel_rfl) (by kernel_rfl) (fun _ _ _ h => h) (Or.inl ⟨by rfl, ?_⟩) (by assumption) ?_
              (rotate_left; focus (intro wS hSw; have s1 := (HLK.out wS hSw).2.1; have s3 := (HLK.out wS hSw).2.2.2; clear hSw; go_simp; (try rw [if_neg (by omega)]); try with_reducible rfl))
              (try simp only [Act.put, List.setIfInBounds_toArray, List.set_cons_zero, List.set_cons_succ])
              refine wpAnyH_take (i := 4) (oi := { dst := some 115, op := Go.Op.fieldAddr 30 (Go.Operand.tmp 114) 1, type := 0, pos := "law.go:51", after := #[{ on := 3, ground := Go.Ground.data }], guard := none }) (v := ?_) rfl (by kernel_rfl) (by kernel_rfl) (by kernel_rfl) (fun _ _ _ h => h) (Or.inl ⟨by rfl, ?_⟩) (by assumption) ?_
              (rotate_left; focus (intro wS hSw; have s1 := (HLK.out wS hSw).2.1; have s3 := (HLK.out wS hSw).2.2.2; clear hSw; go_simp; (try rw [if_neg (by omega)]); try with_reducible rfl))
              (try simp only [Act.put, List.setIfInBounds_toArray, List.set_cons_zero, List.set_cons_succ])
              refine wpAnyH_take (i := 5) (oi := { dst := some 116, op := Go.Op.load 3 (Go.Operand.tmp 115), type := 3, pos := "law.go:51", after := #[{ on := 4, ground := Go.Ground.data }], guard := none }) (v := ?_) rfl (by kernel_rfl) (by kernel_rfl) (by kernel_rfl) (fun _ _ _ h => h) (Or.inl ⟨by rfl, ?_⟩) (by assumption) ?_
              (rotate_left; focus (intro wS hSw; have s1 := (HLK.out wS hSw).2.1; have s3 := (HLK.out wS hSw).2.2.2; clear hSw; go_simp; (try rw [if_neg (by omega)]); try with_reducible rfl))
              (try simp only [Act.put, List.setIfInBounds_toArray, List.set_cons_zero, List.set_cons_succ])
              refine wpAnyH_take (i := 6) (oi := { dst := some 117, op := Go.Op.move (Go.Operand.tmp 1), type := 22, pos := "law.go:51", after := #[], guard := none }) (v := ?_) rfl (by kernel_rfl) (by kernel_rfl) (by kernel_rfl) (fun _ _ _ h => h) (Or.inl ⟨by rfl, ?_⟩) (by assumption) ?_
              (rotate_left; focus (intro wS hSw; have s1 := (HLK.out wS hSw).2.1; have s3 := (HLK.out wS hSw).2.2.2; clear hSw; go_simp; (try rw [if_neg (by omega)]); try with_reducible rfl))
              (try simp only [Act.put, List.setIfInBounds_toArray, List.set_cons_zero, List.set_cons_succ])
              refine wpAnyH_take (i := 7) (oi := { dst := some 118, op := Go.Op.move (Go.Operand.tmp 8), type := 3, pos := "law.go:51", after := #[], guard := none }) (v := ?_) rfl (by kernel_rfl) (by kernel_rfl) (by kernel_rfl) (fun _ _ _ h => h) (Or.inl ⟨by rfl, ?_⟩) (by assumption) ?_
              (rotate_left; focus (intro wS hSw; have s1 := (HLK.out wS hSw).2.1; have s3 := (HLK.out wS hSw).2.2.2; clear hSw; go_simp; (try rw [if_neg (by omega)]); try with_reducible rfl))
              (try simp only [Act.put, List.setIfInBounds_toArray, List.set_cons_zero, List.set_cons_succ])
              refine wpAnyH_take (i := 8) (oi := { dst := some 119, op := Go.Op.indexAddr 22 (Go.Operand.tmp 117) (Go.Operand.tmp 118), type := 0, pos := "law.go:51", after := #[{ on := 6, ground := Go.Ground.data }, { on := 7, ground := Go.Ground.data }], guard := none }) (v := ?_) rfl (by kernel_rfl) (by kernel_rfl) (by kernel_rfl) (fun _ _ _ h => h) (Or.inl ⟨by rfl, ?_⟩) (by assumption) ?_
              (rotate_left; focus (intro wS hSw; have s1 := (HLK.out wS hSw).2.1; have s3 := (HLK.out wS hSw).2.2.2; clear hSw; go_simp; (try rw [if_neg (by omega)]); try with_reducible rfl))
              (try simp only [Act.put, List.setIfInBounds_toArray, List.set_cons_zero, List.set_cons_succ])
              refine wpAnyH_take (i := 9) (oi := { dst := some 120, op := Go.Op.fieldAddr 30 (Go.Operand.tmp 119) 3, type := 0, pos := "law.go:51", after := #[{ on := 8, ground := Go.Ground.data }], guard := none }) (v := ?_) rfl (by kernel_rfl) (by kernel_rfl) (by kernel_rfl) (fun _ _ _ h => h) (Or.inl ⟨by rfl, ?_⟩) (by assumption) ?_
              (rotate_left; focus (intro wS hSw; have s1 := (HLK.out wS hSw).2.1; have s3 := (HLK.out wS hSw).2.2.2; clear hSw; go_simp; (try rw [if_neg (by omega)]); try with_reducible rfl))
              (try simp only [Act.put, List.setIfInBounds_toArray, List.set_cons_zero, List.set_cons_succ])
              refine wpAnyH_take (i := 10) (oi := { dst := some 121, op := Go.Op.load 9 (Go.Operand.tmp 120), type := 9, pos := "law.go:51", after := #[{ on := 9, ground := Go.Ground.data }], guard := none }) (v := ?_) rfl (by kernel_rfl) (by kernel_rfl) (by kernel_rfl) (fun _ _ _ h => h) (Or.inl ⟨by rfl, ?_⟩) (by assumption) ?_
              (rotate_left; focus (intro wS hSw; have s1 := (HLK.out wS hSw).2.1; have s3 := (HLK.out wS hSw).2.2.2; clear hSw; go_simp; (try rw [if_neg (by omega)]); try with_reducible rfl))
              (try simp only [Act.put, List.setIfInBounds_toArray, List.set_cons_zero, List.set_cons_succ])
              refine wpAnyH_take (i := 11) (oi := { dst := some 122, op := Go.Op.build 32 #[(0, Go.Operand.tmp 116), (1, Go.Operand.tmp 121)], type := 32, pos := "law.go:51", after := #[{ on := 5, ground := Go.Ground.data }, { on := 10, ground := Go.Ground.data }], guard := none }) (v := ?_) rfl (by kernel_rfl) (by kernel_rfl) (by kernel_rfl) (fun _ _ _ h => h) (Or.inl ⟨by rfl, ?_⟩) (by assumption) ?_
              (rotate_left; focus (intro wS hSw; have s1 := (HLK.out wS hSw).2.1; have s3 := (HLK.out wS hSw).2.2.2; clear hSw; go_simp; (try rw [if_neg (by omega)]); try with_reducible rfl))
              (try simp only [Act.put, List.setIfInBounds_toArray, List.set_cons_zero, List.set_cons_succ])
              refine wpAnyH_ready (rs := [12]) (by kernel_rfl) (by simp) ?_
              refine AllReadyH.cons (o := { dst := some 123, op := Go.Op.buildSlice 28 1 #[(0, Go.Operand.tmp 122)], type := 28, pos := "law.go:51", after := #[{ on := 11, ground := Go.Ground.data }], guard := none }) rfl (fun K hK => ?_) AllReadyH.nil
              go_simp
              refine hK.out _ _ (by (first | exact hP0 | exact hP1 | exact hP2)) (fun hHeld => ?_)
              clear hK K
              (try simp only [Act.put, List.setIfInBounds_toArray, List.set_cons_zero, List.set_cons_succ])
              refine wpAnyH_ready (rs := [13]) (by kernel_rfl) (by simp) ?_
              refine AllReadyH.cons (o := { dst := some 124, op := Go.Op.call { callee := Go.Callee.builtin Go.Builtin.append, args := #[Go.Operand.tmp 111, Go.Operand.tmp 123], argTypes := #[28, 28] }, type := 28, pos := "law.go:51", after := #[{ on := 0, ground := Go.Ground.data }, { on := 12, ground := Go.Ground.data }], guard := none }) rfl (fun K hK => ?_) AllReadyH.nil
              refine wp_append_own_at _ _ _ 28 rfl w1.heap.size 32 i0 (.agg #[.int .i64 0, .string ByteArray.empty]) 2 24 Try.underlying28 hi0 hz0 hz1 hz2 rfl (by decide) (.slice ax xs.length cx) xs.length (xs.flatMap encM) rfl (HX3.out.alloc _) ⟨W3.heap.size, 0, none⟩ 1 1 [.int .i64 to, .string s] rfl rfl ?a1 ?a2 ?a3 ?a4 ?a5 ?_
              case a1 => intro j u hj; exact new_cells _ _ _ j u hj
              case a2 => intro u hu; simp at hu; rcases hu with rfl | rfl <;> rfl
              case a3 => unfold maxLen; omega
              case a4 => omega
              case a5 => simp; omega
              intro v5 w5 hown5 hg5 hat5
              obtain ⟨xs5, hxs5⟩ : ∃ x, x = xs ++ [(to, s)] := ⟨_, rfl⟩
              have hP2 : Below w.heap.size w w5 := (HB3.out.alloc HB3.out.size _).drew.grown hg5 (by have := HB3.out.size; simp; omega) (fun q hq => Nat.le_trans HB0.out.size (HX3.out.lt q hq).1)
              have hK5 : Kp (fun i => (Value.slice ax xs.length cx).ownBlock = some i) W3 w5 := ((Kp.refl _ W3).alloc (.cells #[.int .i64 to, .string s] 32)).drew.trans (Kp.grown hg5 (fun q hq => hq))
              have HX5 : Hid (w5.ownsRow w1.heap.size 32 2 v5 xs5.length (xs5.flatMap encM)) := Lib.hid (by rw [hxs5, List.length_append, List.flatMap_append]; exact hown5)
              have HN5 := Lib.hid (HN3.out.kp hK5 (fun e => by have := (HX3.out.lt p e).1; have := HZ.out; omega) (fun g hg e => HD.out g e hg))
              have HB5 := Lib.hid hP2
              have HS5 := Lib.hid hK5.size
              have HL5 : Hid (xs5.length = xs.length + 1) := Lib.hid (by rw [hxs5]; simp)
              have HD5 : Hid (∀ g, v5.ownBlock = some g → vn.ownBlock ≠ some g) := Lib.hid (fun g hg e => hat5.elim (fun h9 => HD.out g (by rw [← h9]; exact hg) e) (fun h9 => by rw [h9] at hg; have h8 := (HN3.out.2.1.lt g e).2; simp at hg; omega))
              have HXS := Lib.hid hxs5
              obtain ⟨a5, c5, rfl⟩ := own_shape HX5.out
              clear hown5 hg5 hat5 hK5 hxs5
              refine hK.out _ _ (by (first | exact hP0 | exact hP1 | exact hP2)) (fun hHeld => ?_)
              clear hK K
              (try simp only [Act.put, List.setIfInBounds_toArray, List.set_cons_zero, List.set_cons_succ])
              refine wpAnyH_take (i := 14) (oi := { dst := some 7, op := Go.Op.assign (Go.Operand.tmp 124), type := 28, pos := "law.go:51", after := #[{ on := 13, ground := Go.Ground.data }, { on := 13, ground := Go.Ground.chain }, { on := 0, ground := Go.Ground.phase }, { on := 1, ground := Go.Ground.phase }, { on := 2, ground := Go.Ground.phase }, { on := 3, ground := Go.Ground.phase }, { on := 4, ground := Go.Ground.phase }, { on := 5, ground := Go.Ground.phase }, { on := 6, ground := Go.Ground.phase }, { on := 7, ground := Go.Ground.phase }, { on := 8, ground := Go.Ground.phase }, { on := 9, ground := Go.Ground.phase }, { on := 10, ground := Go.Ground.phase }, { on := 11, ground := Go.Ground.phase }, { on := 12, ground := Go.Ground.phase }, { on := 13, ground := Go.Ground.phase }], guard := none }) (v := ?_) rfl (by kernel_rfl) (by kernel_rfl) (by kernel_rfl) (fun _ _ _ h => h) (Or.inl ⟨by rfl, ?_⟩) (by assumption) ?_
              (rotate_left; focus (intro wS hSw; have s1 := (HLK.out wS hSw).2.1; have s3 := (HLK.out wS hSw).2.2.2; clear hSw; go_simp; (try rw [if_neg (by omega)]); try with_reducible rfl))
              (try simp only [Act.put, List.setIfInBounds_toArray, List.set_cons_zero, List.set_cons_succ])
              refine wpAnyH_done (by kernel_rfl) ?_ _
              clear hP0 hP1
              go_wp2_with fail
              have hP3 := HB5.out.drew
              refine wp_region_held_drew (S := fun w' => Below w.heap.size w w') (by kernel_rfl) (by (first | exact hP3 | exact hP4)) (fun hHeld => ?_)
              refine wpAnyH_take (i := 0) (oi := { dst := some 125, op := Go.Op.move (Go.Operand.tmp 5), type := 24, pos := "law.go:53", after := #[], guard := none }) (v := ?_) rfl (by kernel_rfl) (by kernel_rfl) (by kernel_rfl) (fun _ _ _ h => h) (Or.inl ⟨by rfl, ?_⟩) (by assumption) ?_
              (rotate_left; focus (intro wS hSw; have s1 := (HLK.out wS hSw).2.1; have s3 := (HLK.out wS hSw).2.2.2; clear hSw; go_simp; (try rw [if_neg (by omega)]); try with_reducible rfl))
              (try simp only [Act.put, List.setIfInBounds_toArray, List.set_cons_zero, List.set_cons_succ])
              refine wpAnyH_take (i := 1) (oi := { dst := some 126, op := Go.Op.move (Go.Operand.tmp 1), type := 22, pos := "law.go:53", after := #[], guard := none }) (v := ?_) rfl (by kernel_rfl) (by kernel_rfl) (by kernel_rfl) (fun _ _ _ h => h) (Or.inl ⟨by rfl, ?_⟩) (by assumption) ?_
              (rotate_left; focus (intro wS hSw; have s1 := (HLK.out wS hSw).2.1; have s3 := (HLK.out wS hSw).2.2.2; clear hSw; go_simp; (try rw [if_neg (by omega)]); try with_reducible rfl))
              (try simp only [Act.put, List.setIfInBounds_toArray, List.set_cons_zero, List.set_cons_succ])
              refine wpAnyH_take (i := 2) (oi := { dst := some 127, op := Go.Op.move (Go.Operand.tmp 8), type := 3, pos := "law.go:53", after := #[], guard := none }) (v := ?_) rfl (by kernel_rfl) (by kernel_rfl) (by kernel_rfl) (fun _ _ _ h => h) (Or.inl ⟨by rfl, ?_⟩) (by assumption) ?_
              (rotate_left; focus (intro wS hSw; have s1 := (HLK.out wS hSw).2.1; have s3 := (HLK.out wS hSw).2.2.2; clear hSw; go_simp; (try rw [if_neg (by omega)]); try with_reducible rfl))
              (try simp only [Act.put, List.setIfInBounds_toArray, List.set_cons_zero, List.set_cons_succ])
              refine wpAnyH_take (i := 3) (oi := { dst := some 128, op := Go.Op.indexAddr 22 (Go.Operand.tmp 126) (Go.Operand.tmp 127), type := 0, pos := "law.go:53", after := #[{ on := 1, ground := Go.Ground.data }, { on := 2, ground := Go.Ground.data }], guard := none }) (v := ?_) rfl (by kernel_rfl) (by kernel_rfl) (by kernel_rfl) (fun _ _ _ h => h) (Or.inl ⟨by rfl, ?_⟩) (by assumption) ?_
              (rotate_left; focus (intro wS hSw; have s1 := (HLK.out wS hSw).2.1; have s3 := (HLK.out wS hSw).2.2.2; clear hSw; go_simp; (try rw [if_neg (by omega)]); try with_reducible rfl))
              (try simp only [Act.put, List.setIfInBounds_toArray, List.set_cons_zero, List.set_cons_succ])
              refine wpAnyH_take (i := 4) (oi := { dst := some 129, op := Go.Op.fieldAddr 30 (Go.Operand.tmp 128) 1, type := 0, pos := "law.go:53", after := #[{ on := 3, ground := Go.Ground.data }], guard := none }) (v := ?_) rfl (by kernel_rfl) (by kernel_rfl) (by kernel_rfl) (fun _ _ _ h => h) (Or.inl ⟨by rfl, ?_⟩) (by assumption) ?_
              (rotate_left; focus (intro wS hSw; have s1 := (HLK.out wS hSw).2.1; have s3 := (HLK.out wS hSw).2.2.2; clear hSw; go_simp; (try rw [if_neg (by omega)]); try with_reducible rfl))
              (try simp only [Act.put, List.setIfInBounds_toArray, List.set_cons_zero, List.set_cons_succ])
              refine wpAnyH_take (i := 5) (oi := { dst := some 130, op := Go.Op.load 3 (Go.Operand.tmp 129), type := 3, pos := "law.go:53", after := #[{ on := 4, ground := Go.Ground.data }], guard := none }) (v := ?_) rfl (by kernel_rfl) (by kernel_rfl) (by kernel_rfl) (fun _ _ _ h => h) (Or.inl ⟨by rfl, ?_⟩) (by assumption) ?_
              (rotate_left; focus (intro wS hSw; have s1 := (HLK.out wS hSw).2.1; have s3 := (HLK.out wS hSw).2.2.2; clear hSw; go_simp; (try rw [if_neg (by omega)]); try with_reducible rfl))
              (try simp only [Act.put, List.setIfInBounds_toArray, List.set_cons_zero, List.set_cons_succ])
              refine wpAnyH_take (i := 6) (oi := { dst := some 131, op := Go.Op.move (Go.Operand.tmp 1), type := 22, pos := "law.go:53", after := #[], guard := none }) (v := ?_) rfl (by kernel_rfl) (by kernel_rfl) (by kernel_rfl) (fun _ _ _ h => h) (Or.inl ⟨by rfl, ?_⟩) (by assumption) ?_
              (rotate_left; focus (intro wS hSw; have s1 := (HLK.out wS hSw).2.1; have s3 := (HLK.out wS hSw).2.2.2; clear hSw; go_simp; (try rw [if_neg (by omega)]); try with_reducible rfl))
              (try simp only [Act.put, List.setIfInBounds_toArray, List.set_cons_zero, List.set_cons_succ])
              refine wpAnyH_take (i := 7) (oi := { dst := some 132, op := Go.Op.move (Go.Operand.tmp 8), type := 3, pos := "law.go:53", after := #[], guard := none }) (v := ?_) rfl (by kernel_rfl) (by kernel_rfl) (by kernel_rfl) (fun _ _ _ h => h) (Or.inl ⟨by rfl, ?_⟩) (by assumption) ?_
              (rotate_left; focus (intro wS hSw; have s1 := (HLK.out wS hSw).2.1; have s3 := (HLK.out wS hSw).2.2.2; clear hSw; go_simp; (try rw [if_neg (by omega)]); try with_reducible rfl))
              (try simp only [Act.put, List.setIfInBounds_toArray, List.set_cons_zero, List.set_cons_succ])
              refine wpAnyH_take (i := 8) (oi := { dst := some 133, op := Go.Op.indexAddr 22 (Go.Operand.tmp 131) (Go.Operand.tmp 132), type := 0, pos := "law.go:53", after := #[{ on := 6, ground := Go.Ground.data }, { on := 7, ground := Go.Ground.data }], guard := none }) (v := ?_) rfl (by kernel_rfl) (by kernel_rfl) (by kernel_rfl) (fun _ _ _ h => h) (Or.inl ⟨by rfl, ?_⟩) (by assumption) ?_
              (rotate_left; focus (intro wS hSw; have s1 := (HLK.out wS hSw).2.1; have s3 := (HLK.out wS hSw).2.2.2; clear hSw; go_simp; (try rw [if_neg (by omega)]); try with_reducible rfl))
              (try simp only [Act.put, List.setIfInBounds_toArray, List.set_cons_zero, List.set_cons_succ])
              refine wpAnyH_take (i := 9) (oi := { dst := some 134, op := Go.Op.fieldAddr 30 (Go.Operand.tmp 133) 3, type := 0, pos := "law.go:53", after := #[{ on := 8, ground := Go.Ground.data }], guard := none }) (v := ?_) rfl (by kernel_rfl) (by kernel_rfl) (by kernel_rfl) (fun _ _ _ h => h) (Or.inl ⟨by rfl, ?_⟩) (by assumption) ?_
              (rotate_left; focus (intro wS hSw; have s1 := (HLK.out wS hSw).2.1; have s3 := (HLK.out wS hSw).2.2.2; clear hSw; go_simp; (try rw [if_neg (by omega)]); try with_reducible rfl))
              (try simp only [Act.put, List.setIfInBounds_toArray, List.set_cons_zero, List.set_cons_succ])
              refine wpAnyH_take (i := 10) (oi := { dst := some 135, op := Go.Op.load 9 (Go.Operand.tmp 134), type := 9, pos := "law.go:53", after := #[{ on := 9, ground := Go.Ground.data }], guard := none }) (v := ?_) rfl (by kernel_rfl) (by kernel_rfl) (by kernel_rfl) (fun _ _ _ h => h) (Or.inl ⟨by rfl, ?_⟩) (by assumption) ?_
              (rotate_left; focus (intro wS hSw; have s1 := (HLK.out wS hSw).2.1; have s3 := (HLK.out wS hSw).2.2.2; clear hSw; go_simp; (try rw [if_neg (by omega)]); try with_reducible rfl))
              (try simp only [Act.put, List.setIfInBounds_toArray, List.set_cons_zero, List.set_cons_succ])
              refine wpAnyH_take (i := 12) (oi := { dst := some 137, op := Go.Op.move (Go.Operand.tmp 12), type := 4, pos := "law.go:53", after := #[], guard := none }) (v := ?_) rfl (by kernel_rfl) (by kernel_rfl) (by kernel_rfl) (fun _ _ _ h => h) (Or.inl ⟨by rfl, ?_⟩) (by assumption) ?_
              (rotate_left; focus (intro wS hSw; have s1 := (HLK.out wS hSw).2.1; have s3 := (HLK.out wS hSw).2.2.2; clear hSw; go_simp; (try rw [if_neg (by omega)]); try with_reducible rfl))
              (try simp only [Act.put, List.setIfInBounds_toArray, List.set_cons_zero, List.set_cons_succ])
              refine wpAnyH_ready (rs := [11]) (by kernel_rfl) (by simp) ?_
              refine AllReadyH.cons (o := { dst := some 136, op := Go.Op.call { callee := Go.Callee.value (Go.Operand.func 8), args := #[Go.Operand.tmp 125, Go.Operand.tmp 130, Go.Operand.tmp 135], argTypes := #[24, 3, 9] }, type := 4, pos := "law.go:53", after := #[{ on := 0, ground := Go.Ground.data }, { on := 5, ground := Go.Ground.data }, { on := 10, ground := Go.Ground.data }], guard := none }) rfl (fun K hK => ?_) AllReadyH.nil
              go_simp
              refine (put_any to s _ HN5.out.drew ⟨h0, h1⟩ hxr).mono ?_
              rintro e w6 ⟨rfl, vn6, hn6, hk6, hv6⟩
              rw [r1]
              rw [if_pos (by omega), ← HXS.out] at hn6
              have HB6 := Lib.hid (HB5.out.drew.trans (HN5.out.drew.below hk6 (by rw [HP.out]; exact Nat.le_refl _)))
              have hP4 := HB6.out
              have HN6 := Lib.hid hn6
              have HX6 := Lib.hid (own_kp2 (w := w5.drew) HX5.out hk6 (fun g hg e => e.elim (fun e => by have := (HX5.out.lt g hg).1; have := HZ.out; omega) (fun e => HD5.out g hg e)))
              have HS6 : Hid (w5.heap.size ≤ w6.heap.size) := Lib.hid hk6.size
              have HV6 := Lib.hid hv6
              clear hn6 hk6 hv6
              (try go_wp2_with fail)
              refine hK.out _ _ (by (first | exact hP3 | exact hP4)) (fun hHeld => ?_)
              clear hK K
              (try simp only [Act.put, List.setIfInBounds_toArray, List.set_cons_zero, List.set_cons_succ])
              refine wpAnyH_take (i := 13) (oi := { dst := some 138, op := Go.Op.binOp Go.BinOp.neq 4 (Go.Operand.tmp 136) (Go.Operand.tmp 137) 4, type := 4, pos := "law.go:53", after := #[{ on := 11, ground := Go.Ground.data }, { on := 12, ground := Go.Ground.data }], guard := none }) (v := ?_) rfl (by kernel_rfl) (by kernel_rfl) (by kernel_rfl) (fun _ _ _ h => h) (Or.inl ⟨by rfl, ?_⟩) (by assumption) ?_
              (rotate_left; focus (intro wS hSw; have s1 := (HLK.out wS hSw).2.1; have s3 := (HLK.out wS hSw).2.2.2; clear hSw; go_simp; (try rw [if_neg (by omega)]); try with_reducible rfl))
              (try simp only [Act.put, List.setIfInBounds_toArray, List.set_cons_zero, List.set_cons_succ])
              refine wpAnyH_done (by kernel_rfl) ?_ _
              clear hP3 hP4 c0 c1 c2 c3
              go_wp2_with fail
              refine (len_any _ HN6.out).mono ?_
              rintro e w7 ⟨rfl, hx⟩
              obtain rfl : w6 = w7 := hx.symm
              clear hx
              go_wp2
              go_roundw
              case rel => exact ⟨k + 1, xs5, vn6, by omega, by go_num, by rw [HL5.out]; omega, by rw [HL5.out]; omega, HX6.out, HN6.out, fun g hg e => by
                            rcases HV6.out g e with h9 | h9
                            · exact HD5.out g hg h9
                            · have h8 := (HX5.out.lt g hg).2; have h7 : w5.heap.size ≤ g := h9; omega, HB6.out, by have := HSZ3.out; have := HS5.out; have := HS6.out; omega⟩
              case measure => simp [intOf]; omega
          · have r1 : decide ((xs.length : Int) < room) = false := decide_eq_false hr
            as_aux_lemma =>
              go_wp2_with fail
              generalize hW3 : (w2.alloc (.cells #[.int .i64 mt, .string mz] 32)) = W3 at *
              clear hW3
              have hP0 := HB3.out.drew
              refine wp_region_held_drew (S := fun w' => Below w.heap.size w w') (by kernel_rfl) (by (first | exact hP0 | exact hP1)) (fun hHeld => ?_)
              refine wpAnyH_take (i := 0) (oi := { dst := some 125, op := Go.Op.move (Go.Operand.tmp 5), type := 24, pos := "law.go:53", after := #[], guard := none }) (v := ?_) rfl (by kernel_rfl) (by kernel_rfl) (by kernel_rfl) (fun _ _ _ h => h) (Or.inl ⟨by rfl, ?_⟩) (by assumption) ?_
              (rotate_left; focus (intro wS hSw; have s1 := (HLK.out wS hSw).2.1; have s3 := (HLK.out wS hSw).2.2.2; clear hSw; go_simp; (try rw [if_neg (by omega)]); try with_reducible rfl))
              (try simp only [Act.put, List.setIfInBounds_toArray, List.set_cons_zero, List.set_cons_succ])
              refine wpAnyH_take (i := 1) (oi := { dst := some 126, op := Go.Op.move (Go.Operand.tmp 1), type := 22, pos := "law.go:53", after := #[], guard := none }) (v := ?_) rfl (by kernel_rfl) (by kernel_rfl) (by kernel_rfl) (fun _ _ _ h => h) (Or.inl ⟨by rfl, ?_⟩) (by assumption) ?_
              (rotate_left; focus (intro wS hSw; have s1 := (HLK.out wS hSw).2.1; have s3 := (HLK.out wS hSw).2.2.2; clear hSw; go_simp; (try rw [if_neg (by omega)]); try with_reducible rfl))
              (try simp only [Act.put, List.setIfInBounds_toArray, List.set_cons_zero, List.set_cons_succ])
              refine wpAnyH_take (i := 2) (oi := { dst := some 127, op := Go.Op.move (Go.Operand.tmp 8), type := 3, pos := "law.go:53", after := #[], guard := none }) (v := ?_) rfl (by kernel_rfl) (by kernel_rfl) (by kernel_rfl) (fun _ _ _ h => h) (Or.inl ⟨by rfl, ?_⟩) (by assumption) ?_
              (rotate_left; focus (intro wS hSw; have s1 := (HLK.out wS hSw).2.1; have s3 := (HLK.out wS hSw).2.2.2; clear hSw; go_simp; (try rw [if_neg (by omega)]); try with_reducible rfl))
              (try simp only [Act.put, List.setIfInBounds_toArray, List.set_cons_zero, List.set_cons_succ])
              refine wpAnyH_take (i := 3) (oi := { dst := some 128, op := Go.Op.indexAddr 22 (Go.Operand.tmp 126) (Go.Operand.tmp 127), type := 0, pos := "law.go:53", after := #[{ on := 1, ground := Go.Ground.data }, { on := 2, ground := Go.Ground.data }], guard := none }) (v := ?_) rfl (by kernel_rfl) (by kernel_rfl) (by kernel_rfl) (fun _ _ _ h => h) (Or.inl ⟨by rfl, ?_⟩) (by assumption) ?_
              (rotate_left; focus (intro wS hSw; have s1 := (HLK.out wS hSw).2.1; have s3 := (HLK.out wS hSw).2.2.2; clear hSw; go_simp; (try rw [if_neg (by omega)]); try with_reducible rfl))
              (try simp only [Act.put, List.setIfInBounds_toArray, List.set_cons_zero, List.set_cons_succ])
              refine wpAnyH_take (i := 4) (oi := { dst := some 129, op := Go.Op.fieldAddr 30 (Go.Operand.tmp 128) 1, type := 0, pos := "law.go:53", after := #[{ on := 3, ground := Go.Ground.data }], guard := none }) (v := ?_) rfl (by kernel_rfl) (by kernel_rfl) (by kernel_rfl) (fun _ _ _ h => h) (Or.inl ⟨by rfl, ?_⟩) (by assumption) ?_
              (rotate_left; focus (intro wS hSw; have s1 := (HLK.out wS hSw).2.1; have s3 := (HLK.out wS hSw).2.2.2; clear hSw; go_simp; (try rw [if_neg (by omega)]); try with_reducible rfl))
              (try simp only [Act.put, List.setIfInBounds_toArray, List.set_cons_zero, List.set_cons_succ])
              refine wpAnyH_take (i := 5) (oi := { dst := some 130, op := Go.Op.load 3 (Go.Operand.tmp 129), type := 3, pos := "law.go:53", after := #[{ on := 4, ground := Go.Ground.data }], guard := none }) (v := ?_) rfl (by kernel_rfl) (by kernel_rfl) (by kernel_rfl) (fun _ _ _ h => h) (Or.inl ⟨by rfl, ?_⟩) (by assumption) ?_
              (rotate_left; focus (intro wS hSw; have s1 := (HLK.out wS hSw).2.1; have s3 := (HLK.out wS hSw).2.2.2; clear hSw; go_simp; (try rw [if_neg (by omega)]); try with_reducible rfl))
              (try simp only [Act.put, List.setIfInBounds_toArray, List.set_cons_zero, List.set_cons_succ])
              refine wpAnyH_take (i := 6) (oi := { dst := some 131, op := Go.Op.move (Go.Operand.tmp 1), type := 22, pos := "law.go:53", after := #[], guard := none }) (v := ?_) rfl (by kernel_rfl) (by kernel_rfl) (by kernel_rfl) (fun _ _ _ h => h) (Or.inl ⟨by rfl, ?_⟩) (by assumption) ?_
              (rotate_left; focus (intro wS hSw; have s1 := (HLK.out wS hSw).2.1; have s3 := (HLK.out wS hSw).2.2.2; clear hSw; go_simp; (try rw [if_neg (by omega)]); try with_reducible rfl))
              (try simp only [Act.put, List.setIfInBounds_toArray, List.set_cons_zero, List.set_cons_succ])
              refine wpAnyH_take (i := 7) (oi := { dst := some 132, op := Go.Op.move (Go.Operand.tmp 8), type := 3, pos := "law.go:53", after := #[], guard := none }) (v := ?_) rfl (by kernel_rfl) (by kernel_rfl) (by kernel_rfl) (fun _ _ _ h => h) (Or.inl ⟨by rfl, ?_⟩) (by assumption) ?_
              (rotate_left; focus (intro wS hSw; have s1 := (HLK.out wS hSw).2.1; have s3 := (HLK.out wS hSw).2.2.2; clear hSw; go_simp; (try rw [if_neg (by omega)]); try with_reducible rfl))
              (try simp only [Act.put, List.setIfInBounds_toArray, List.set_cons_zero, List.set_cons_succ])
              refine wpAnyH_take (i := 8) (oi := { dst := some 133, op := Go.Op.indexAddr 22 (Go.Operand.tmp 131) (Go.Operand.tmp 132), type := 0, pos := "law.go:53", after := #[{ on := 6, ground := Go.Ground.data }, { on := 7, ground := Go.Ground.data }], guard := none }) (v := ?_) rfl (by kernel_rfl) (by kernel_rfl) (by kernel_rfl) (fun _ _ _ h => h) (Or.inl ⟨by rfl, ?_⟩) (by assumption) ?_
              (rotate_left; focus (intro wS hSw; have s1 := (HLK.out wS hSw).2.1; have s3 := (HLK.out wS hSw).2.2.2; clear hSw; go_simp; (try rw [if_neg (by omega)]); try with_reducible rfl))
              (try simp only [Act.put, List.setIfInBounds_toArray, List.set_cons_zero, List.set_cons_succ])
              refine wpAnyH_take (i := 9) (oi := { dst := some 134, op := Go.Op.fieldAddr 30 (Go.Operand.tmp 133) 3, type := 0, pos := "law.go:53", after := #[{ on := 8, ground := Go.Ground.data }], guard := none }) (v := ?_) rfl (by kernel_rfl) (by kernel_rfl) (by kernel_rfl) (fun _ _ _ h => h) (Or.inl ⟨by rfl, ?_⟩) (by assumption) ?_
              (rotate_left; focus (intro wS hSw; have s1 := (HLK.out wS hSw).2.1; have s3 := (HLK.out wS hSw).2.2.2; clear hSw; go_simp; (try rw [if_neg (by omega)]); try with_reducible rfl))
              (try simp only [Act.put, List.setIfInBounds_toArray, List.set_cons_zero, List.set_cons_succ])
              refine wpAnyH_take (i := 10) (oi := { dst := some 135, op := Go.Op.load 9 (Go.Operand.tmp 134), type := 9, pos := "law.go:53", after := #[{ on := 9, ground := Go.Ground.data }], guard := none }) (v := ?_) rfl (by kernel_rfl) (by kernel_rfl) (by kernel_rfl) (fun _ _ _ h => h) (Or.inl ⟨by rfl, ?_⟩) (by assumption) ?_
              (rotate_left; focus (intro wS hSw; have s1 := (HLK.out wS hSw).2.1; have s3 := (HLK.out wS hSw).2.2.2; clear hSw; go_simp; (try rw [if_neg (by omega)]); try with_reducible rfl))
              (try simp only [Act.put, List.setIfInBounds_toArray, List.set_cons_zero, List.set_cons_succ])
              refine wpAnyH_take (i := 12) (oi := { dst := some 137, op := Go.Op.move (Go.Operand.tmp 12), type := 4, pos := "law.go:53", after := #[], guard := none }) (v := ?_) rfl (by kernel_rfl) (by kernel_rfl) (by kernel_rfl) (fun _ _ _ h => h) (Or.inl ⟨by rfl, ?_⟩) (by assumption) ?_
              (rotate_left; focus (intro wS hSw; have s1 := (HLK.out wS hSw).2.1; have s3 := (HLK.out wS hSw).2.2.2; clear hSw; go_simp; (try rw [if_neg (by omega)]); try with_reducible rfl))
              (try simp only [Act.put, List.setIfInBounds_toArray, List.set_cons_zero, List.set_cons_succ])
              refine wpAnyH_ready (rs := [11]) (by kernel_rfl) (by simp) ?_
              refine AllReadyH.cons (o := { dst := some 136, op := Go.Op.call { callee := Go.Callee.value (Go.Operand.func 8), args := #[Go.Operand.tmp 125, Go.Operand.tmp 130, Go.Operand.tmp 135], argTypes := #[24, 3, 9] }, type := 4, pos := "law.go:53", after := #[{ on := 0, ground := Go.Ground.data }, { on := 5, ground := Go.Ground.data }, { on := 10, ground := Go.Ground.data }], guard := none }) rfl (fun K hK => ?_) AllReadyH.nil
              go_simp
              refine (put_any to s _ HN3.out.drew ⟨h0, h1⟩ hxr).mono ?_
              rintro e w4 ⟨rfl, vn4, hn4, hk4, hv4⟩
              rw [r1]
              rw [if_neg (by omega)] at hn4
              have HB4 := Lib.hid (HB3.out.drew.trans (HN3.out.drew.below hk4 (by rw [HP.out]; exact Nat.le_refl _)))
              have hP1 := HB4.out
              have HN4 := Lib.hid hn4
              have HX4 := Lib.hid (own_kp2 (w := W3.drew) HX3.out hk4 (fun g hg e => e.elim (fun e => by have := (HX3.out.lt g hg).1; have := HZ.out; omega) (fun e => HD.out g hg e)))
              have HS4 : Hid (w2.heap.size ≤ w4.heap.size) := Lib.hid (Nat.le_trans HW3.out.size hk4.size)
              have HV4 := Lib.hid hv4
              clear hn4 hk4 hv4
              (try go_wp2_with fail)
              refine hK.out _ _ (by (first | exact hP0 | exact hP1)) (fun hHeld => ?_)
              clear hK K
              (try simp only [Act.put, List.setIfInBounds_toArray, List.set_cons_zero, List.set_cons_succ])
              refine wpAnyH_take (i := 13) (oi := { dst := some 138, op := Go.Op.binOp Go.BinOp.neq 4 (Go.Operand.tmp 136) (Go.Operand.tmp 137) 4, type := 4, pos := "law.go:53", after := #[{ on := 11, ground := Go.Ground.data }, { on := 12, ground := Go.Ground.data }], guard := none }) (v := ?_) rfl (by kernel_rfl) (by kernel_rfl) (by kernel_rfl) (fun _ _ _ h => h) (Or.inl ⟨by rfl, ?_⟩) (by assumption) ?_
              (rotate_left; focus (intro wS hSw; have s1 := (HLK.out wS hSw).2.1; have s3 := (HLK.out wS hSw).2.2.2; clear hSw; go_simp; (try rw [if_neg (by omega)]); try with_reducible rfl))
              (try simp only [Act.put, List.setIfInBounds_toArray, List.set_cons_zero, List.set_cons_succ])
              refine wpAnyH_done (by kernel_rfl) ?_ _
              clear hP0 hP1 c0 c1 c2 c3
              go_wp2_with fail
              refine (len_any _ HN4.out).mono ?_
              rintro e w5 ⟨rfl, hx⟩
              obtain rfl : w4 = w5 := hx.symm
              clear hx
              go_wp2
              go_roundw
              case rel => exact ⟨k + 1, xs, vn4, by omega, by go_num, by omega, hxr, HX4.out, HN4.out, fun g hg e => by
                            rcases HV4.out g e with h9 | h9
                            · exact HD.out g hg h9
                            · have h8 := (HX3.out.lt g hg).2; have h7 : W3.heap.size ≤ g := h9; omega, HB4.out, by have := HSZ3.out; have := HS4.out; omega⟩
              case measure => simp [intOf]; omega
        · have k0 : (kd == 0) = false := by simpa using hk0
          by_cases hk1 : kd = 1
          · have k1 : (kd == 1) = true := by simpa using hk1
            clear hk0 hk1
            as_aux_lemma =>
              go_wp2_with fail
              generalize hW3 : (w2.alloc (.cells #[.int .i64 mt, .string mz] 32)) = W3 at *
              clear hW3
              refine (take_both i _ HN3.out (by omega)).mono ?_
              rintro e w4 ⟨rfl, vn4, hn4, hk4, hv4⟩
              rw [← HM.out.1, ← HM.out.2.1, ← HM.out.2.2.1]
              rw [← HM.out.2.2.2] at hn4
              have hA4 := HA3.out.kp hk4 (fun e => by rcases e with e | e; · have := HSZ3.out; omega
                                                      · have := (HNL.out _ e).2; omega)
              have HB4 := Lib.hid (HB3.out.trans (HN3.out.below hk4 (by rw [HP.out]; exact Nat.le_refl _)))
              have HN4 := Lib.hid hn4
              have HY4 := Lib.hid (own_kp2 HY3.out hk4 (fun g hg e => by rcases e with e | e; · have := (HY3.out.lt g hg).1; have := HZ.out; omega
                                                                         · exact HYD.out g hg e))
              have a0 := hA4.get.1
              have a1 := hA4.get.2
              have HS4 := Lib.hid (Nat.le_trans HW3.out.size hk4.size)
              have HV4 := Lib.hid hv4
              clear hn4 hk4 hv4 hA4 c0 c1 c2 c3
              go_wp2_with fail
              refine (len_any _ HN4.out).mono ?_
              rintro e w5 ⟨rfl, hx⟩
              obtain rfl : w4 = w5 := hx.symm
              clear hx
              go_wp2
              go_roundw
              case rel => exact ⟨k + 1, ys, vn4, by omega, by go_num, by omega, by omega, HY4.out, HN4.out, fun g hg => by rw [HV4.out]; exact HYD.out g hg, HB4.out, by have := HSZ3.out; have := HS4.out; omega⟩
              case measure => simp [intOf]; omega
          · have k1 : (kd == 1) = false := by simpa using hk1
            clear hk0 hk1
            as_aux_lemma =>
              go_wp2_with fail
              generalize hW3 : (w2.alloc (.cells #[.int .i64 mt, .string mz] 32)) = W3 at *
              clear hW3
              refine (peek_both i _ HN3.out).mono ?_
              rintro e w4 ⟨rfl, hb4⟩
              rw [← HM.out.1, ← HM.out.2.1, ← HM.out.2.2.1]
              have HB4 := Lib.hid (below_step HB3.out (Nat.le_refl _) hb4)
              have HN4 := Lib.hid (HN3.out.keep hb4)
              have HX4 := Lib.hid (own_kept HX3.out hb4)
              have a0 := (HA3.out.keep hb4).get.1
              have a1 := (HA3.out.keep hb4).get.2
              have HS4 := Lib.hid (Nat.le_trans HW3.out.size hb4.size)
              clear hb4 c0 c1 c2 c3
              go_wp2_with fail
              refine (len_any _ HN4.out).mono ?_
              rintro e w5 ⟨rfl, hx⟩
              obtain rfl : w4 = w5 := hx.symm
              clear hx
              go_wp2
              go_roundw
              case rel => exact ⟨k + 1, xs, vn, by omega, by go_num, by omega, hxr, HX4.out, HN4.out, HD.out, HB4.out, by have := HSZ3.out; have := HS4.out; omega⟩
              case measure => simp [intOf]; omega
      · have d1 : decide ((200 : Int) < (s.size : Int)) = true := decide_eq_true (by omega)
        go_wp2
        go_roundw
        case rel => exact ⟨k + 1, xs, vn, by omega, by go_num, by omega, hxr, HO.out, HN.out, HD.out, HB.out, HWS.out⟩
        case measure => simp [intOf]; omega
    · obtain rfl : k = l.length := by omega
      have HB := Lib.hid hbw
      clear hox hns hdj hbw hws
      go_wp2_with fail
      refine (awake_any _).mono ?_
      rintro e w3 ⟨rfl, hb3⟩
      have HB3 := Lib.hid (below_step HB.out (Nat.le_refl _) hb3)
      clear hb3
      go_wp2
      go_ret
      exact ⟨rfl, HB3.out⟩
end Go.Proofs.Ytpplpbpgaaabdaa

