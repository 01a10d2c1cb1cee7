/-
  The contracts of Sum and of Find.
-/
import Derived.Test.YtknlfifompmhoaaE
set_option linter.unusedVariables false
set_option linter.unusedSimpArgs false
namespace Go.Proofs.Ytknlfifompmhoaa
open Go.RowKit
def clampN (i : Int) (n : Nat) : Nat := min i.toNat n
theorem clamp_eq (i : Int) (n : Nat) : mx 0 (mn i (n : Int)) = ((clampN i n : Nat) : Int) := by rw [mx_eq, mn_eq]; unfold clampN; omega
theorem sum_nil (i : Int) (w : World) : Calls Try.prog 8 #[.pointer none, .int .i64 i] w fun e w' => e = .returned (.int .i64 0) ∧ Below w.heap.size w w' := by
  have HB := Lib.hid (below_new w (.cells #[.pointer none] 24))
  go_enter Try.func8, Try.ntmps8
  go_wp2
  go_ret
  exact ⟨rfl, HB.out⟩
def SumS (b p gl n : Nat) (w : World) : Prop := w.cell? ⟨b, 0, none⟩ = some (.pointer (some ⟨p, 0, none⟩)) ∧ w.cell? ⟨p, 0, none⟩ = some (.slice (some ⟨gl, 0, none⟩) n n)
set_option maxHeartbeats 4000000 in
theorem sum_any (p gl gs : Nat) (l s : List Int) (i : Int) (w : World) (h : Rk p gl gs l s w) : Calls Try.prog 8 #[.pointer (some ⟨p, 0, none⟩), .int .i64 i] w fun e w' => e = .returned (.int .i64 (pre l (clampN i l.length))) ∧ Below w.heap.size w w' := by
  have HB := Lib.hid (below_two w (.cells #[.pointer (some ⟨p, 0, none⟩)] 24) (.cells #[.int .i64 0] 3))
  have hpl := h.tree.1; have hgl := h.nums.1; have hgs := h.rows.1; have hlen2 := h.len2
  have HR := Lib.hid (h.keep HB.out)
  have HX0 := Lib.hid ((Bk.new w 24 #[.pointer (some ⟨p, 0, none⟩)]).keep (below_new _ (.cells #[.int .i64 0] 3)))
  have HX1 : Hid (Bk (w.heap.size + 1) [.int .i64 0] ((w.alloc (.cells #[.pointer (some ⟨p, 0, none⟩)] 24)).alloc (.cells #[.int .i64 0] 3))) := Lib.hid (by
    have := Bk.new (w.alloc (.cells #[.pointer (some ⟨p, 0, none⟩)] 24)) 3 #[.int .i64 0]
    rw [show (w.alloc (.cells #[.pointer (some ⟨p, 0, none⟩)] 24)).heap.size = w.heap.size + 1 by simp] at this
    exact this)
  have hmx := clamp_eq i l.length
  have hcl : clampN i l.length ≤ l.length := by unfold clampN; omega
  have hmin := min2_int; have hmin2 := min_two; have hmax := max2_int; have hmax2 := max_two
  have hmf : ∀ (fn : Fn) (first cap : Array Value) (w : World), (Instr.makeFunc fn first cap).run Try.prog w = .ok (.func fn first cap) w := fun _ _ _ _ => rfl
  have HAL : Hid (∀ (c bt bn : Nat) (W : World), c ≤ l.length → Cad bt bn p gs (l.length + 1) W → Bk bn [.int .i64 0] W → Bk gs (ints s) W → Calls Try.prog 10 #[.pointer (some ⟨p, 0, none⟩), .int .i64 (c : Int), .func (.func 13) #[.pointer (some ⟨p, 0, none⟩)] #[], .func (.func 14) #[] #[.pointer (some ⟨bn, 0, none⟩), .pointer (some ⟨bt, 0, none⟩)]] W
      fun e w' => e = .returned (.tuple #[]) ∧ Bk bn [.int .i64 (pre l c)] w' ∧ Kp (· = bn) W w') := Lib.hid (fun c bt bn W hc q1 q2 q3 => along_sum bt bn p gs c l s W q1 q2 q3 h.fen h.pos h.all h.len2 hc)
  obtain ⟨c, hc⟩ : ∃ c, c = clampN i l.length := ⟨_, rfl⟩
  rw [← hc] at hmx hcl ⊢
  clear h hc
  go_enter Try.func8, Try.ntmps8
  go_wp2
  obtain ⟨W1, hW1⟩ : ∃ W1, W1 = ((w.alloc (.cells #[.pointer (some ⟨p, 0, none⟩)] 24)).alloc (.cells #[.int .i64 0] 3)) := ⟨_, rfl⟩
  rw [← hW1] at HB HR HX0 HX1 ⊢
  have x0 := (HX0.out.2 0 _ rfl).1
  have c0 := (HR.out.tree.2 0 _ rfl).1
  have HCD : Hid (Cad w.heap.size (w.heap.size + 1) p gs (l.length + 1) W1.drew) := Lib.hid ⟨x0, (HR.out.tree.2 1 _ rfl).1, by omega, by omega, HR.out.ne2, by omega, by omega, HX0.out.1, HX1.out.1, HR.out.tree.1⟩
  clear hW1
  have hQ0 : SumS w.heap.size p gl l.length W1.drew := ⟨x0, c0⟩
  refine wp_region_held_drew (S := SumS w.heap.size p gl l.length) (by kernel_rfl) (by (first | exact hQ0 | exact hQ1)) (fun hHeld => ?_)
  refine wpAnyH_take (i := 0) (oi := { dst := some 8, op := Go.Op.load 24 (Go.Operand.tmp 2), type := 24, pos := "rank.go:63", after := #[], guard := none }) (v := ?_) rfl (by kernel_rfl) (by kernel_rfl) (by kernel_rfl) (fun _ _ _ h => h) (Or.inl ⟨by rfl, ?_⟩) (by assumption) ?_
  (rotate_left; focus (intro wS hSw; have s0 := hSw.1; have s1 := hSw.2; clear hSw; go_simp; (try rw [if_neg (by omega)]); try with_reducible rfl))
  (try simp only [Act.put, List.setIfInBounds_toArray, List.set_cons_zero, List.set_cons_succ])
  refine wpAnyH_take (i := 1) (oi := { dst := some 9, op := Go.Op.move (Go.Operand.tmp 1), type := 3, pos := "rank.go:63", after := #[], guard := none }) (v := ?_) rfl (by kernel_rfl) (by kernel_rfl) (by kernel_rfl) (fun _ _ _ h => h) (Or.inl ⟨by rfl, ?_⟩) (by assumption) ?_
  (rotate_left; focus (intro wS hSw; have s0 := hSw.1; have s1 := hSw.2; clear hSw; go_simp; (try rw [if_neg (by omega)]); try with_reducible rfl))
  (try simp only [Act.put, List.setIfInBounds_toArray, List.set_cons_zero, List.set_cons_succ])
  refine wpAnyH_take (i := 2) (oi := { dst := some 10, op := Go.Op.load 24 (Go.Operand.tmp 2), type := 24, pos := "rank.go:63", after := #[], guard := none }) (v := ?_) rfl (by kernel_rfl) (by kernel_rfl) (by kernel_rfl) (fun _ _ _ h => h) (Or.inl ⟨by rfl, ?_⟩) (by assumption) ?_
  (rotate_left; focus (intro wS hSw; have s0 := hSw.1; have s1 := hSw.2; clear hSw; go_simp; (try rw [if_neg (by omega)]); try with_reducible rfl))
  (try simp only [Act.put, List.setIfInBounds_toArray, List.set_cons_zero, List.set_cons_succ])
  refine wpAnyH_take (i := 3) (oi := { dst := some 11, op := Go.Op.nilCheck (Go.Operand.tmp 10), type := 0, pos := "rank.go:63", after := #[{ on := 2, ground := Go.Ground.data }], guard := none }) (v := ?_) rfl (by kernel_rfl) (by kernel_rfl) (by kernel_rfl) (fun _ _ _ h => h) (Or.inl ⟨by rfl, ?_⟩) (by assumption) ?_
  (rotate_left; focus (intro wS hSw; have s0 := hSw.1; have s1 := hSw.2; clear hSw; go_simp; (try rw [if_neg (by omega)]); try with_reducible rfl))
  (try simp only [Act.put, List.setIfInBounds_toArray, List.set_cons_zero, List.set_cons_succ])
  refine wpAnyH_take (i := 4) (oi := { dst := some 12, op := Go.Op.fieldAddr 36 (Go.Operand.tmp 11) 0, type := 0, pos := "rank.go:63", after := #[{ on := 3, ground := Go.Ground.data }], guard := none }) (v := ?_) rfl (by kernel_rfl) (by kernel_rfl) (by kernel_rfl) (fun _ _ _ h => h) (Or.inl ⟨by rfl, ?_⟩) (by assumption) ?_
  (rotate_left; focus (intro wS hSw; have s0 := hSw.1; have s1 := hSw.2; clear hSw; go_simp; (try rw [if_neg (by omega)]); try with_reducible rfl))
  (try simp only [Act.put, List.setIfInBounds_toArray, List.set_cons_zero, List.set_cons_succ])
  refine wpAnyH_take (i := 5) (oi := { dst := some 13, op := Go.Op.load 28 (Go.Operand.tmp 12), type := 28, pos := "rank.go:63", after := #[{ on := 4, ground := Go.Ground.data }], guard := none }) (v := ?_) rfl (by kernel_rfl) (by kernel_rfl) (by kernel_rfl) (fun _ _ _ h => h) (Or.inl ⟨by rfl, ?_⟩) (by assumption) ?_
  (rotate_left; focus (intro wS hSw; have s0 := hSw.1; have s1 := hSw.2; clear hSw; go_simp; (try rw [if_neg (by omega)]); try with_reducible rfl))
  (try simp only [Act.put, List.setIfInBounds_toArray, List.set_cons_zero, List.set_cons_succ])
  refine wpAnyH_take (i := 6) (oi := { dst := some 14, op := Go.Op.call { callee := Go.Callee.builtin Go.Builtin.len, args := #[Go.Operand.tmp 13], argTypes := #[28] }, type := 3, pos := "rank.go:63", after := #[{ on := 5, ground := Go.Ground.data }], guard := none }) (v := ?_) rfl (by kernel_rfl) (by kernel_rfl) (by kernel_rfl) (fun _ _ _ h => h) (Or.inl ⟨by rfl, ?_⟩) (by assumption) ?_
  (rotate_left; focus (intro wS hSw; have s0 := hSw.1; have s1 := hSw.2; clear hSw; go_simp; (try rw [if_neg (by omega)]); try with_reducible rfl))
  (try simp only [Act.put, List.setIfInBounds_toArray, List.set_cons_zero, List.set_cons_succ])
  refine wpAnyH_take (i := 7) (oi := { dst := some 15, op := Go.Op.call { callee := Go.Callee.builtin Go.Builtin.min, args := #[Go.Operand.tmp 9, Go.Operand.tmp 14], argTypes := #[3, 3] }, type := 3, pos := "rank.go:63", after := #[{ on := 1, ground := Go.Ground.data }, { on := 6, ground := Go.Ground.data }], guard := none }) (v := ?_) rfl (by kernel_rfl) (by kernel_rfl) (by kernel_rfl) (fun _ _ _ h => h) (Or.inl ⟨by rfl, ?_⟩) (by assumption) ?_
  (rotate_left; focus (intro wS hSw; have s0 := hSw.1; have s1 := hSw.2; clear hSw; go_simp; (try rw [if_neg (by omega)]); try with_reducible rfl))
  (try simp only [Act.put, List.setIfInBounds_toArray, List.set_cons_zero, List.set_cons_succ])
  refine wpAnyH_take (i := 8) (oi := { dst := some 16, op := Go.Op.call { callee := Go.Callee.builtin Go.Builtin.max, args := #[Go.Operand.const (Go.Value.int Go.IntKind.i64 0), Go.Operand.tmp 15], argTypes := #[3, 3] }, type := 3, pos := "rank.go:63", after := #[{ on := 7, ground := Go.Ground.data }], guard := none }) (v := ?_) rfl (by kernel_rfl) (by kernel_rfl) (by kernel_rfl) (fun _ _ _ h => h) (Or.inl ⟨by rfl, ?_⟩) (by assumption) ?_
  (rotate_left; focus (intro wS hSw; have s0 := hSw.1; have s1 := hSw.2; clear hSw; go_simp; (try rw [if_neg (by omega)]); try with_reducible rfl))
  (try simp only [Act.put, List.setIfInBounds_toArray, List.set_cons_zero, List.set_cons_succ])
  refine wpAnyH_take (i := 9) (oi := { dst := some 17, op := Go.Op.load 24 (Go.Operand.tmp 2), type := 24, pos := "rank.go:63", after := #[], guard := none }) (v := ?_) rfl (by kernel_rfl) (by kernel_rfl) (by kernel_rfl) (fun _ _ _ h => h) (Or.inl ⟨by rfl, ?_⟩) (by assumption) ?_
  (rotate_left; focus (intro wS hSw; have s0 := hSw.1; have s1 := hSw.2; clear hSw; go_simp; (try rw [if_neg (by omega)]); try with_reducible rfl))
  (try simp only [Act.put, List.setIfInBounds_toArray, List.set_cons_zero, List.set_cons_succ])
  refine wpAnyH_take (i := 10) (oi := { dst := some 18, op := Go.Op.makeFunc (Go.Fn.func 13) #[Go.Operand.tmp 17] #[], type := 32, pos := "rank.go:63", after := #[{ on := 9, ground := Go.Ground.data }], guard := none }) (v := ?_) rfl (by kernel_rfl) (by kernel_rfl) (by kernel_rfl) (fun _ _ _ h => h) (Or.inl ⟨by rfl, ?_⟩) (by assumption) ?_
  (rotate_left; focus (intro wS hSw; have s0 := hSw.1; have s1 := hSw.2; clear hSw; go_simp; (try rw [if_neg (by omega)]); try with_reducible rfl))
  (try simp only [Act.put, List.setIfInBounds_toArray, List.set_cons_zero, List.set_cons_succ])
  refine wpAnyH_take (i := 11) (oi := { dst := some 19, op := Go.Op.makeFunc (Go.Fn.func 14) #[] #[Go.Operand.tmp 5, Go.Operand.tmp 2], type := 38, pos := "rank.go:63", after := #[], guard := none }) (v := ?_) rfl (by kernel_rfl) (by kernel_rfl) (by kernel_rfl) (fun _ _ _ h => h) (Or.inl ⟨by rfl, ?_⟩) (by assumption) ?_
  (rotate_left; focus (intro wS hSw; have s0 := hSw.1; have s1 := hSw.2; clear hSw; go_simp; (try rw [if_neg (by omega)]); try with_reducible rfl))
  (try simp only [Act.put, List.setIfInBounds_toArray, List.set_cons_zero, List.set_cons_succ])
  refine wpAnyH_ready (rs := [12]) (by kernel_rfl) (by simp) ?_
  refine AllReadyH.cons (o := { dst := some 20, op := Go.Op.call { callee := Go.Callee.value (Go.Operand.func 10), args := #[Go.Operand.tmp 8, Go.Operand.tmp 16, Go.Operand.tmp 18, Go.Operand.tmp 19], argTypes := #[24, 3, 32, 38] }, type := 0, pos := "rank.go:63", after := #[{ on := 0, ground := Go.Ground.data }, { on := 8, ground := Go.Ground.data }, { on := 10, ground := Go.Ground.data }, { on := 11, ground := Go.Ground.data }], guard := none }) rfl (fun K hK => ?_) AllReadyH.nil
  go_simp
  refine (HAL.out c _ _ _ hcl HCD.out HX1.out.drew HR.out.rows.drew).mono ?_
  rintro e w9 ⟨rfl, hb, hk⟩
  have y0 := (hb.2 0 _ rfl).1
  have hQ1 : SumS w.heap.size p gl l.length w9 := ⟨(hk.cell (p := ⟨w.heap.size, 0, none⟩) HX0.out.1 (by simp)).trans x0, (hk.cell (p := ⟨p, 0, none⟩) HR.out.tree.1 (by simp; omega)).trans c0⟩
  have HB9 := Lib.hid (HB.out.drew.trans (hk.below (B := w.heap.size) (by have := HB.out.size; exact this) (fun j hj => by omega)))
  clear hb hk
  (try go_wp2_with fail)
  refine hK.out _ _ (by (first | exact hQ0 | exact hQ1)) (fun hHeld => ?_)
  clear hK K
  (try simp only [Act.put, List.setIfInBounds_toArray, List.set_cons_zero, List.set_cons_succ])
  refine wpAnyH_done (by kernel_rfl) ?_ _
  all_goals
    go_wp2
    go_ret
    exact ⟨rfl, HB9.out⟩
/-- The first place at which a sum is passed, of so many places. -/
def fndA (l : List Int) (s : Int) (n : Nat) : Nat → Nat
  | 0 => n
  | k + 1 => if fndA l s n k = n ∧ s < pre l (k + 1) then k else fndA l s n k
theorem fndA_le (l : List Int) (s : Int) (n : Nat) : ∀ k, k ≤ n → fndA l s n k ≤ n
  | 0, _ => Nat.le_refl _
  | k + 1, h => by
    have := fndA_le l s n k (by omega)
    unfold fndA; split <;> omega
theorem fndA_stay (l : List Int) (s : Int) (n : Nat) (i : Nat) (hi : i < n) (h : fndA l s n (i + 1) = i) : ∀ d, i + 1 + d ≤ n → fndA l s n (i + 1 + d) = i
  | 0, _ => h
  | d + 1, hd => by
    have := fndA_stay l s n i hi h d (by omega)
    rw [← Nat.add_assoc, fndA, this, if_neg (by omega)]
theorem find_nil (s : Int) (w : World) : Calls Try.prog 9 #[.pointer none, .int .i64 s] w fun e w' => e = .returned (.int .i64 0) ∧ w = w' := by
  go_enter Try.func9, Try.ntmps9
  go_wp2
  go_ret
  exact ⟨rfl, rfl⟩
set_option maxHeartbeats 4000000 in
theorem find_any (p gl gs : Nat) (l s : List Int) (x : Int) (w : World) (h : Rk p gl gs l s w) : Calls Try.prog 9 #[.pointer (some ⟨p, 0, none⟩), .int .i64 x] w fun e w' => e = .returned (.int .i64 (fndA l x l.length l.length : Nat)) ∧ w = w' := by
  have c0 := (h.tree.2 0 _ rfl).1
  have HR := Lib.hid h
  have hlen2 := h.len2
  obtain ⟨V, hV⟩ : ∃ V, V = fndA l x l.length l.length := ⟨_, rfl⟩
  rw [← hV]
  have HV := Lib.hid hV
  clear h hV
  go_enter Try.func9, Try.ntmps9
  go_wp2
  go_loop [5, 15] (fun a i => ∃ k : Nat, i = .int .i64 k ∧ k ≤ l.length ∧ a = .int .i64 (pre l k) ∧ fndA l x l.length k = l.length) (fun _ i => l.length - (intOf i).toNat)
  case atStart => exact ⟨0, rfl, by omega, rfl, rfl⟩
  case round =>
    obtain ⟨k, rfl, hk, rfl, hf⟩ := hrel
    by_cases hlt : k < l.length
    · have hps := pre_succ l k hlt
      have hm1 := pre_mono HR.out.pos l.length (k + 1) hlt (Nat.le_refl _)
      have hm2 := pre_mono HR.out.pos l.length k (by omega) (Nat.le_refl _)
      have hall := HR.out.all
      have cl := (HR.out.nums.2 k _ (ints_get l k hlt)).1
      have hfs : fndA l x l.length (k + 1) = if fndA l x l.length k = l.length ∧ x < pre l (k + 1) then k else fndA l x l.length k := rfl
      obtain ⟨P, hP⟩ : ∃ P, P = pre l k := ⟨_, rfl⟩
      obtain ⟨y, hy⟩ : ∃ y, y = l.getD k 0 := ⟨_, rfl⟩
      obtain ⟨Q, hQ⟩ : ∃ Q, Q = pre l (k + 1) := ⟨_, rfl⟩
      rw [← hP] at hps hm2 ⊢
      rw [← hy] at hps cl
      rw [← hQ] at hps hm1 hfs
      have d1 : (k : Int) < (l.length : Int) := by omega
      have d2 : (0 : Int) ≤ (k : Int) := by omega
      have HQ : Hid (P + y = pre l (k + 1)) := Lib.hid (by rw [← hQ, hps])
      have hPy : -9223372036854775808 ≤ P + y ∧ P + y ≤ 9223372036854775807 := by omega
      have hx9 := hPy.1; have hx8 := hPy.2
      by_cases hgt : x < P + y
      · have HF : Hid (V = k) := Lib.hid (by
          rw [HV.out]
          have e1 : fndA l x l.length (k + 1) = k := by rw [hfs, if_pos ⟨hf, by rw [hps]; exact hgt⟩]
          have := fndA_stay l x l.length k hlt e1 (l.length - (k + 1)) (by omega)
          rw [show k + 1 + (l.length - (k + 1)) = l.length by omega] at this
          exact this)
        clear hP hy hQ hps hm1 hm2 hall hfs hf hPy
        go_wp2
        go_ret
        rw [HF.out]
        exact ⟨rfl, rfl⟩
      · have HF : Hid (fndA l x l.length (k + 1) = l.length) := Lib.hid (by rw [hfs, if_neg (fun e => hgt (by rw [← hps]; exact e.2)), hf])
        clear hP hy hQ hps hm1 hm2 hall hfs hf hPy
        go_wp2
        go_round
        case rel => exact ⟨k + 1, by go_num, by omega, by rw [HQ.out], HF.out⟩
        case measure => simp [intOf]; omega
    · obtain rfl : k = l.length := by omega
      have d1 : ¬ (l.length : Int) < (l.length : Int) := by omega
      have HF : Hid (V = l.length) := Lib.hid (by rw [HV.out, hf])
      clear hf
      go_wp2
      go_ret
      rw [HF.out]
      exact ⟨rfl, rfl⟩
end Go.Proofs.Ytknlfifompmhoaa

