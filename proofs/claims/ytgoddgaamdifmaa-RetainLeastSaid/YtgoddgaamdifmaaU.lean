/-
  The law of RetainLeast.
-/
import Derived.Test.YtgoddgaamdifmaaS
set_option linter.unusedVariables false
set_option linter.unusedSimpArgs false
namespace Go.Proofs.Ytgoddgaamdifmaa
open Go.RowKit Go.WideShapes Go.ChangeShapes Go.ChangeAt Go.Deep
def Byte3Ok (x : Nat × Nat × Nat) (w : World) (v : Value) : Prop := v = .agg #[.int .u8 (x.1 : Int), .int .u8 (x.2.1 : Int), .int .u8 (x.2.2 : Int)] ∧ x.1 ≤ 255 ∧ x.2.1 ≤ 255 ∧ x.2.2 ≤ 255
theorem u8_nat {z : Int} (h : (Lit.int .u8 z).wf = true) : ∃ n : Nat, z = (n : Int) ∧ n ≤ 255 := by
  simp [Lit.wf, IntKind.min, IntKind.max, IntKind.signed, IntKind.bits] at h
  exact ⟨z.toNat, by omega, by omega⟩
theorem open_byte3 {H : Type} {enc : TypeId × Value → H} {w : World} {base base0 : Nat} {spare : Bool} {held : TypeId → Bool} {r : Reach} {v : Value} {d : DataW H} {p : List MemPlace}
    (hv : Value.okWide Try.prog w r base0 39 v) (h : DataW.Trod enc Try.prog w base held spare 39 v d p) : ∃ x, Byte3Ok x w v := by
  obtain ⟨zs, rfl, hl, hg⟩ := open_arr Try.underlying39 Try.underlying5 (by kernel_rfl) (by kernel_rfl) hv h
  obtain ⟨a, b, c, rfl⟩ := list3 hl
  obtain ⟨a, rfl, ha⟩ := u8_nat (hg a (by simp))
  obtain ⟨b, rfl, hb⟩ := u8_nat (hg b (by simp))
  obtain ⟨c, rfl, hc⟩ := u8_nat (hg c (by simp))
  exact ⟨(a, b, c), rfl, ha, hb, hc⟩
set_option maxRecDepth 100000 in
set_option maxHeartbeats 16000000 in
theorem least_long (a : Option Addr) (n cap : Nat) (k0 k1 k2 : Nat) (w : World) (hl : 40 < n) :
    Calls Try.prog 5 #[.slice a n cap, .agg #[.int .u8 (k0 : Int), .int .u8 (k1 : Int), .int .u8 (k2 : Int)]] w fun e w' => e = .returned (.bool true) ∧ Below w.heap.size w w' := by
  have d1 : decide ((40 : Int) < (n : Int)) = true := decide_eq_true (by omega)
  have HB0 := Lib.hid (below_new w (.cells #[.int .u8 (k0 : Int), .int .u8 (k1 : Int), .int .u8 (k2 : Int)] 39))
  go_enter Try.func5, Try.ntmps5
  go_wp2_with fail
  refine (awake_any _).mono ?_
  rintro e w3 ⟨rfl, hb⟩
  have HB3 := Lib.hid (below_cons HB0.out hb)
  clear hb
  go_wp2
  go_ret
  exact ⟨rfl, HB3.out⟩
set_option maxRecDepth 100000 in
set_option maxHeartbeats 16000000 in
theorem least_walk (l : List Int) (a : Option Addr) (cap : Nat) (k0 k1 k2 : Nat) (w : World) (hl : l.length ≤ 40) (hs : Sl intC 1 w a l) (hg : ∀ x ∈ l, goodI x) (b0 : k0 ≤ 255) (b1 : k1 ≤ 255) (b2 : k2 ≤ 255) :
    Calls Try.prog 5 #[.slice a l.length cap, .agg #[.int .u8 (k0 : Int), .int .u8 (k1 : Int), .int .u8 (k2 : Int)]] w fun e w' => e = .returned (.bool true) ∧ Below w.heap.size w w' := by
  have T1 := Lib.hid (fun W (hb : Below w.heap.size w W) => plan_ex l (k0 : Int) (k1 : Int) (k2 : Int) a cap W (hs.keep hb) hg hl)
  have T2 := Lib.hid (fun W (hb : Below w.heap.size w W) => plan_ex l ((k0 : Int) + 1) ((k1 : Int) + 1) ((k2 : Int) + 1) a cap W (hs.keep hb) hg hl)
  have HMONO := Lib.hid (fun i h => stay3_mono (l := l) (k0 := k0) (k1 := k1) (k2 := k2) (i := i) h)
  have HCNT := Lib.hid (stay3_cnt l k0 k1 k2)
  have HLS := Lib.hid (fun j h => least_stay3 (l := l) (j := j) h k0 k1 k2)
  have HS := Lib.hid hs
  obtain ⟨L, hL⟩ : ∃ L, L = l.length := ⟨_, rfl⟩
  have HL := Lib.hid hL
  rw [← hL] at T1 T2 HCNT HLS hl ⊢
  clear hL hs hg
  generalize stay3 l k0 k1 k2 3 = PA at T1 HMONO HCNT HLS
  generalize stay3 l (k0 + 1) (k1 + 1) (k2 + 1) 3 = PB at T2 HMONO
  have d1 : decide ((40 : Int) < (L : Int)) = false := decide_eq_false (by omega)
  have HBX : Hid (Bk (w.heap.size + 1) [.int .i64 (k0 : Int), .int .i64 (k1 : Int), .int .i64 (k2 : Int)] ((w.alloc (.cells #[.int .u8 (k0 : Int), .int .u8 (k1 : Int), .int .u8 (k2 : Int)] 39)).alloc (.cells #[.int .i64 (k0 : Int), .int .i64 (k1 : Int), .int .i64 (k2 : Int)] 35))) := Lib.hid (by
    have := Bk.new (w.alloc (.cells #[.int .u8 (k0 : Int), .int .u8 (k1 : Int), .int .u8 (k2 : Int)] 39)) 35 #[.int .i64 (k0 : Int), .int .i64 (k1 : Int), .int .i64 (k2 : Int)]
    rwa [show (w.alloc (.cells #[.int .u8 (k0 : Int), .int .u8 (k1 : Int), .int .u8 (k2 : Int)] 39)).heap.size = w.heap.size + 1 by simp] at this)
  have HB0 := Lib.hid (below_cons (below_new w (.cells #[.int .u8 (k0 : Int), .int .u8 (k1 : Int), .int .u8 (k2 : Int)] 39)) (below_new _ (.cells #[.int .i64 (k0 : Int), .int .i64 (k1 : Int), .int .i64 (k2 : Int)] 35)))
  have hw0 : IntKind.i64.wrap ((k0 : Int) + 1) = (k0 : Int) + 1 := by rw [IntKind.wrap_i64]; omega
  have hw1 : IntKind.i64.wrap ((k1 : Int) + 1) = (k1 : Int) + 1 := by rw [IntKind.wrap_i64]; omega
  have hw2 : IntKind.i64.wrap ((k2 : Int) + 1) = (k2 : Int) + 1 := by rw [IntKind.wrap_i64]; omega
  go_enter Try.func5, Try.ntmps5
  go_wp2
  have hP0 := And.intro HBX.out.drew HB0.out.drew
  refine wp_region_held_drew (S := fun w' => Bk (w.heap.size + 1) [.int .i64 (k0 : Int), .int .i64 (k1 : Int), .int .i64 (k2 : Int)] w' ∧ Below w.heap.size w w') (by kernel_rfl) (by (first | exact hP2 | exact hP1 | exact hP0)) (fun hHeld => ?_)
  refine wpAnyH_take (i := 0) (oi := { dst := some 25, op := Go.Op.move (Go.Operand.tmp 0), type := 34, pos := "law.go:64", after := #[], guard := none }) (v := ?_) rfl (by kernel_rfl) (by kernel_rfl) (by kernel_rfl) (fun _ _ _ h => h) (Or.inl ⟨by rfl, ?_⟩) (by assumption) ?_
  (rotate_left; focus (intro wS hSw; have s0 := (hSw.1.2 0 _ rfl).1; have s1 := (hSw.1.2 1 _ rfl).1; have s2 := (hSw.1.2 2 _ rfl).1; clear hSw; go_simp; (try rw [if_neg (by omega)]); try with_reducible rfl))
  (try simp only [Act.put, List.setIfInBounds_toArray, List.set_cons_zero, List.set_cons_succ])
  refine wpAnyH_take (i := 1) (oi := { dst := some 26, op := Go.Op.load 35 (Go.Operand.tmp 5), type := 35, pos := "law.go:64", after := #[], guard := none }) (v := ?_) rfl (by kernel_rfl) (by kernel_rfl) (by kernel_rfl) (fun _ _ _ h => h) (Or.inl ⟨by rfl, ?_⟩) (by assumption) ?_
  (rotate_left; focus (intro wS hSw; have s0 := (hSw.1.2 0 _ rfl).1; have s1 := (hSw.1.2 1 _ rfl).1; have s2 := (hSw.1.2 2 _ rfl).1; clear hSw; go_simp; (try rw [if_neg (by omega)]); try with_reducible rfl))
  (try simp only [Act.put, List.setIfInBounds_toArray, List.set_cons_zero, List.set_cons_succ])
  refine wpAnyH_take (i := 3) (oi := { dst := some 28, op := Go.Op.move (Go.Operand.tmp 0), type := 34, pos := "law.go:64", after := #[], guard := none }) (v := ?_) rfl (by kernel_rfl) (by kernel_rfl) (by kernel_rfl) (fun _ _ _ h => h) (Or.inl ⟨by rfl, ?_⟩) (by assumption) ?_
  (rotate_left; focus (intro wS hSw; have s0 := (hSw.1.2 0 _ rfl).1; have s1 := (hSw.1.2 1 _ rfl).1; have s2 := (hSw.1.2 2 _ rfl).1; clear hSw; go_simp; (try rw [if_neg (by omega)]); try with_reducible rfl))
  (try simp only [Act.put, List.setIfInBounds_toArray, List.set_cons_zero, List.set_cons_succ])
  refine wpAnyH_take (i := 4) (oi := { dst := some 29, op := Go.Op.indexAddr 35 (Go.Operand.tmp 5) (Go.Operand.const (Go.Value.int Go.IntKind.i64 0)), type := 0, pos := "law.go:64", after := #[], guard := none }) (v := ?_) rfl (by kernel_rfl) (by kernel_rfl) (by kernel_rfl) (fun _ _ _ h => h) (Or.inl ⟨by rfl, ?_⟩) (by assumption) ?_
  (rotate_left; focus (intro wS hSw; have s0 := (hSw.1.2 0 _ rfl).1; have s1 := (hSw.1.2 1 _ rfl).1; have s2 := (hSw.1.2 2 _ rfl).1; clear hSw; go_simp; (try rw [if_neg (by omega)]); try with_reducible rfl))
  (try simp only [Act.put, List.setIfInBounds_toArray, List.set_cons_zero, List.set_cons_succ])
  refine wpAnyH_take (i := 5) (oi := { dst := some 30, op := Go.Op.load 3 (Go.Operand.tmp 29), type := 3, pos := "law.go:64", after := #[{ on := 4, ground := Go.Ground.data }], guard := none }) (v := ?_) rfl (by kernel_rfl) (by kernel_rfl) (by kernel_rfl) (fun _ _ _ h => h) (Or.inl ⟨by rfl, ?_⟩) (by assumption) ?_
  (rotate_left; focus (intro wS hSw; have s0 := (hSw.1.2 0 _ rfl).1; have s1 := (hSw.1.2 1 _ rfl).1; have s2 := (hSw.1.2 2 _ rfl).1; clear hSw; go_simp; (try rw [if_neg (by omega)]); try with_reducible rfl))
  (try simp only [Act.put, List.setIfInBounds_toArray, List.set_cons_zero, List.set_cons_succ])
  refine wpAnyH_take (i := 6) (oi := { dst := some 31, op := Go.Op.binOp Go.BinOp.add 3 (Go.Operand.tmp 30) (Go.Operand.const (Go.Value.int Go.IntKind.i64 1)) 3, type := 3, pos := "law.go:64", after := #[{ on := 5, ground := Go.Ground.data }], guard := none }) (v := ?_) rfl (by kernel_rfl) (by kernel_rfl) (by kernel_rfl) (fun _ _ _ h => h) (Or.inl ⟨by rfl, ?_⟩) (by assumption) ?_
  (rotate_left; focus (intro wS hSw; have s0 := (hSw.1.2 0 _ rfl).1; have s1 := (hSw.1.2 1 _ rfl).1; have s2 := (hSw.1.2 2 _ rfl).1; clear hSw; go_simp; (try rw [if_neg (by omega)]); try with_reducible rfl))
  (try simp only [Act.put, List.setIfInBounds_toArray, List.set_cons_zero, List.set_cons_succ])
  refine wpAnyH_take (i := 7) (oi := { dst := some 32, op := Go.Op.indexAddr 35 (Go.Operand.tmp 5) (Go.Operand.const (Go.Value.int Go.IntKind.i64 1)), type := 0, pos := "law.go:64", after := #[], guard := none }) (v := ?_) rfl (by kernel_rfl) (by kernel_rfl) (by kernel_rfl) (fun _ _ _ h => h) (Or.inl ⟨by rfl, ?_⟩) (by assumption) ?_
  (rotate_left; focus (intro wS hSw; have s0 := (hSw.1.2 0 _ rfl).1; have s1 := (hSw.1.2 1 _ rfl).1; have s2 := (hSw.1.2 2 _ rfl).1; clear hSw; go_simp; (try rw [if_neg (by omega)]); try with_reducible rfl))
  (try simp only [Act.put, List.setIfInBounds_toArray, List.set_cons_zero, List.set_cons_succ])
  refine wpAnyH_take (i := 8) (oi := { dst := some 33, op := Go.Op.load 3 (Go.Operand.tmp 32), type := 3, pos := "law.go:64", after := #[{ on := 7, ground := Go.Ground.data }], guard := none }) (v := ?_) rfl (by kernel_rfl) (by kernel_rfl) (by kernel_rfl) (fun _ _ _ h => h) (Or.inl ⟨by rfl, ?_⟩) (by assumption) ?_
  (rotate_left; focus (intro wS hSw; have s0 := (hSw.1.2 0 _ rfl).1; have s1 := (hSw.1.2 1 _ rfl).1; have s2 := (hSw.1.2 2 _ rfl).1; clear hSw; go_simp; (try rw [if_neg (by omega)]); try with_reducible rfl))
  (try simp only [Act.put, List.setIfInBounds_toArray, List.set_cons_zero, List.set_cons_succ])
  refine wpAnyH_take (i := 9) (oi := { dst := some 34, op := Go.Op.binOp Go.BinOp.add 3 (Go.Operand.tmp 33) (Go.Operand.const (Go.Value.int Go.IntKind.i64 1)) 3, type := 3, pos := "law.go:64", after := #[{ on := 8, ground := Go.Ground.data }], guard := none }) (v := ?_) rfl (by kernel_rfl) (by kernel_rfl) (by kernel_rfl) (fun _ _ _ h => h) (Or.inl ⟨by rfl, ?_⟩) (by assumption) ?_
  (rotate_left; focus (intro wS hSw; have s0 := (hSw.1.2 0 _ rfl).1; have s1 := (hSw.1.2 1 _ rfl).1; have s2 := (hSw.1.2 2 _ rfl).1; clear hSw; go_simp; (try rw [if_neg (by omega)]); try with_reducible rfl))
  (try simp only [Act.put, List.setIfInBounds_toArray, List.set_cons_zero, List.set_cons_succ])
  refine wpAnyH_take (i := 10) (oi := { dst := some 35, op := Go.Op.indexAddr 35 (Go.Operand.tmp 5) (Go.Operand.const (Go.Value.int Go.IntKind.i64 2)), type := 0, pos := "law.go:64", after := #[], guard := none }) (v := ?_) rfl (by kernel_rfl) (by kernel_rfl) (by kernel_rfl) (fun _ _ _ h => h) (Or.inl ⟨by rfl, ?_⟩) (by assumption) ?_
  (rotate_left; focus (intro wS hSw; have s0 := (hSw.1.2 0 _ rfl).1; have s1 := (hSw.1.2 1 _ rfl).1; have s2 := (hSw.1.2 2 _ rfl).1; clear hSw; go_simp; (try rw [if_neg (by omega)]); try with_reducible rfl))
  (try simp only [Act.put, List.setIfInBounds_toArray, List.set_cons_zero, List.set_cons_succ])
  refine wpAnyH_take (i := 11) (oi := { dst := some 36, op := Go.Op.load 3 (Go.Operand.tmp 35), type := 3, pos := "law.go:64", after := #[{ on := 10, ground := Go.Ground.data }], guard := none }) (v := ?_) rfl (by kernel_rfl) (by kernel_rfl) (by kernel_rfl) (fun _ _ _ h => h) (Or.inl ⟨by rfl, ?_⟩) (by assumption) ?_
  (rotate_left; focus (intro wS hSw; have s0 := (hSw.1.2 0 _ rfl).1; have s1 := (hSw.1.2 1 _ rfl).1; have s2 := (hSw.1.2 2 _ rfl).1; clear hSw; go_simp; (try rw [if_neg (by omega)]); try with_reducible rfl))
  (try simp only [Act.put, List.setIfInBounds_toArray, List.set_cons_zero, List.set_cons_succ])
  refine wpAnyH_take (i := 12) (oi := { dst := some 37, op := Go.Op.binOp Go.BinOp.add 3 (Go.Operand.tmp 36) (Go.Operand.const (Go.Value.int Go.IntKind.i64 1)) 3, type := 3, pos := "law.go:64", after := #[{ on := 11, ground := Go.Ground.data }], guard := none }) (v := ?_) rfl (by kernel_rfl) (by kernel_rfl) (by kernel_rfl) (fun _ _ _ h => h) (Or.inl ⟨by rfl, ?_⟩) (by assumption) ?_
  (rotate_left; focus (intro wS hSw; have s0 := (hSw.1.2 0 _ rfl).1; have s1 := (hSw.1.2 1 _ rfl).1; have s2 := (hSw.1.2 2 _ rfl).1; clear hSw; go_simp; (try rw [if_neg (by omega)]); try with_reducible rfl))
  (try simp only [Act.put, List.setIfInBounds_toArray, List.set_cons_zero, List.set_cons_succ])
  refine wpAnyH_take (i := 13) (oi := { dst := some 38, op := Go.Op.build 35 #[(0, Go.Operand.tmp 31), (1, Go.Operand.tmp 34), (2, Go.Operand.tmp 37)], type := 35, pos := "law.go:64", after := #[{ on := 6, ground := Go.Ground.data }, { on := 9, ground := Go.Ground.data }, { on := 12, ground := Go.Ground.data }], guard := none }) (v := ?_) rfl (by kernel_rfl) (by kernel_rfl) (by kernel_rfl) (fun _ _ _ h => h) (Or.inl ⟨by rfl, ?_⟩) (by assumption) ?_
  (rotate_left; focus (intro wS hSw; have s0 := (hSw.1.2 0 _ rfl).1; have s1 := (hSw.1.2 1 _ rfl).1; have s2 := (hSw.1.2 2 _ rfl).1; clear hSw; go_simp; (try rw [if_neg (by omega)]); try with_reducible rfl))
  (try simp only [Act.put, List.setIfInBounds_toArray, List.set_cons_zero, List.set_cons_succ])
  refine wpAnyH_ready (rs := [2]) (by kernel_rfl) (by simp) ?_
  refine AllReadyH.cons (o := { dst := some 27, op := Go.Op.call { callee := Go.Callee.value (Go.Operand.func 15), args := #[Go.Operand.tmp 25, Go.Operand.tmp 26], argTypes := #[34, 35] }, type := 36, pos := "law.go:64", after := #[{ on := 0, ground := Go.Ground.data }, { on := 1, ground := Go.Ground.data }], guard := none }) rfl (fun K hK => ?_) AllReadyH.nil
  go_simp
  refine (T1.out _ hHeld.2).mono ?_
  rintro e v1 ⟨⟨p, rfl, hbk, _⟩, hv⟩
  have HPL := Lib.hid hbk
  (try have HRP := Lib.hid (HRP.out.keep hv))
  have hP2 := And.intro (hHeld.1.keep hv) (below_step hHeld.2 (Nat.le_refl _) hv)
  clear hv hbk
  (try go_wp2_with fail)
  refine hK.out _ _ (by (first | exact hP2 | exact hP1 | exact hP0)) (fun hHeld => ?_)
  clear hK K
  (try simp only [Act.put, List.setIfInBounds_toArray, List.set_cons_zero, List.set_cons_succ])
  refine wpAnyH_ready (rs := [14]) (by kernel_rfl) (by simp) ?_
  refine AllReadyH.cons (o := { dst := some 39, op := Go.Op.call { callee := Go.Callee.value (Go.Operand.func 15), args := #[Go.Operand.tmp 28, Go.Operand.tmp 38], argTypes := #[34, 35] }, type := 36, pos := "law.go:64", after := #[{ on := 3, ground := Go.Ground.data }, { on := 13, ground := Go.Ground.data }, { on := 2, ground := Go.Ground.chain }], guard := none }) rfl (fun K hK => ?_) AllReadyH.nil
  go_simp
  refine (T2.out _ hHeld.2).mono ?_
  rintro e v1 ⟨⟨q, rfl, hbk, _⟩, hv⟩
  have HRP := Lib.hid hbk
  (try have HPL := Lib.hid (HPL.out.keep hv))
  have hP2 := And.intro (hHeld.1.keep hv) (below_step hHeld.2 (Nat.le_refl _) hv)
  clear hv hbk
  (try go_wp2_with fail)
  refine hK.out _ _ (by (first | exact hP2 | exact hP1 | exact hP0)) (fun hHeld => ?_)
  clear hK K
  (try simp only [Act.put, List.setIfInBounds_toArray, List.set_cons_zero, List.set_cons_succ])
  refine wpAnyH_take (i := 15) (oi := { dst := some 6, op := Go.Op.assign (Go.Operand.tmp 27), type := 36, pos := "law.go:64", after := #[{ on := 2, ground := Go.Ground.data }, { on := 14, ground := Go.Ground.chain }, { on := 0, ground := Go.Ground.phase }, { on := 1, ground := Go.Ground.phase }, { on := 2, ground := Go.Ground.phase }, { on := 3, ground := Go.Ground.textOnly Go.Departure.lateStores }, { on := 4, ground := Go.Ground.textOnly Go.Departure.lateStores }, { on := 5, ground := Go.Ground.textOnly Go.Departure.lateStores }, { on := 6, ground := Go.Ground.textOnly Go.Departure.lateStores }, { on := 7, ground := Go.Ground.textOnly Go.Departure.lateStores }, { on := 8, ground := Go.Ground.textOnly Go.Departure.lateStores }, { on := 9, ground := Go.Ground.textOnly Go.Departure.lateStores }, { on := 10, ground := Go.Ground.textOnly Go.Departure.lateStores }, { on := 11, ground := Go.Ground.textOnly Go.Departure.lateStores }, { on := 12, ground := Go.Ground.textOnly Go.Departure.lateStores }, { on := 13, ground := Go.Ground.textOnly Go.Departure.lateStores }, { on := 14, ground := Go.Ground.textOnly Go.Departure.lateStoresUnsure }], guard := none }) (v := ?_) rfl (by kernel_rfl) (by kernel_rfl) (by kernel_rfl) (fun _ _ _ h => h) (Or.inl ⟨by rfl, ?_⟩) (by assumption) ?_
  (rotate_left; focus (intro wS hSw; have s0 := (hSw.1.2 0 _ rfl).1; have s1 := (hSw.1.2 1 _ rfl).1; have s2 := (hSw.1.2 2 _ rfl).1; clear hSw; go_simp; (try rw [if_neg (by omega)]); try with_reducible rfl))
  (try simp only [Act.put, List.setIfInBounds_toArray, List.set_cons_zero, List.set_cons_succ])
  refine wpAnyH_take (i := 16) (oi := { dst := some 7, op := Go.Op.assign (Go.Operand.tmp 39), type := 36, pos := "law.go:64", after := #[{ on := 14, ground := Go.Ground.data }, { on := 15, ground := Go.Ground.chain }, { on := 0, ground := Go.Ground.phase }, { on := 1, ground := Go.Ground.phase }, { on := 2, ground := Go.Ground.phase }, { on := 3, ground := Go.Ground.phase }, { on := 4, ground := Go.Ground.phase }, { on := 5, ground := Go.Ground.phase }, { on := 6, ground := Go.Ground.phase }, { on := 7, ground := Go.Ground.phase }, { on := 8, ground := Go.Ground.phase }, { on := 9, ground := Go.Ground.phase }, { on := 10, ground := Go.Ground.phase }, { on := 11, ground := Go.Ground.phase }, { on := 12, ground := Go.Ground.phase }, { on := 13, ground := Go.Ground.phase }, { on := 14, ground := Go.Ground.phase }, { on := 15, ground := Go.Ground.phase }], guard := none }) (v := ?_) rfl (by kernel_rfl) (by kernel_rfl) (by kernel_rfl) (fun _ _ _ h => h) (Or.inl ⟨by rfl, ?_⟩) (by assumption) ?_
  (rotate_left; focus (intro wS hSw; have s0 := (hSw.1.2 0 _ rfl).1; have s1 := (hSw.1.2 1 _ rfl).1; have s2 := (hSw.1.2 2 _ rfl).1; clear hSw; go_simp; (try rw [if_neg (by omega)]); try with_reducible rfl))
  (try simp only [Act.put, List.setIfInBounds_toArray, List.set_cons_zero, List.set_cons_succ])
  refine wpAnyH_done (by kernel_rfl) ?_ _
  all_goals
    have HBW := Lib.hid hHeld.2; have HBX2 := Lib.hid hHeld.1
    clear hP0 hP2 hHeld HBX HB0 d1 hw0 hw1 hw2
    have gnn : ((L : Int) != (L : Int)) = false := by simp
    have hmax := max2_int; have hmax2 := max_two
    go_wp2
    clear gnn
    go_loopw [8, 9, 10] (fun nv lv ii wr => ∃ i : Nat, ii = .int .i64 i ∧ i ≤ L ∧ nv = .int .i64 (cntB PA i) ∧ lv = .int .i64 (lstV (yg l 0 i 0)) ∧ ∃ n, wr = v1.drewN n) (fun _ _ ii _ => L - (intOf ii).toNat)
    case atStart => exact ⟨0, rfl, by omega, rfl, rfl, 0, rfl⟩
    case round =>
      obtain ⟨i, rfl, hi, rfl, rfl, n, rfl⟩ := hrel
      by_cases hlt : i < L
      · have g1 : (i : Int) < (L : Int) := by omega
        have g2 : (0 : Int) ≤ (i : Int) := by omega
        have cA := (HPL.out.2 i _ (rowB_get L PA i hlt)).1
        have cB := (HRP.out.2 i _ (rowB_get L PB i hlt)).1
        have hil : i < l.length := by rw [← HL.out]; exact hlt
        obtain ⟨b, o, rfl, hb, hc0⟩ := sl_int HS.out i hil
        have ci := (HBW.out.cell (p := ⟨b, o + i, none⟩) hb).trans hc0
        have hmx := ag_mx l i
        have HCN := Lib.hid (cntB_next PA i)
        have hcl := cntB_le PA i
        have HYN := Lib.hid (yg0_next l i)
        have HMI := Lib.hid (HMONO.out i)
        obtain ⟨A, hA⟩ : ∃ A, A = ag l i := ⟨_, rfl⟩
        rw [← hA] at hmx
        have HA := Lib.hid hA
        obtain ⟨C, hC⟩ : ∃ C, C = cntB PA i := ⟨_, rfl⟩
        rw [← hC] at hcl ⊢
        have HC := Lib.hid hC
        clear hA hC hc0
        generalize l.getD i 0 = x at *
        generalize PA i = Pi at *
        generalize PB i = Qi at *
        have hxa : ∀ (nx : Nat), (nx = cntB PA (i + 1)) → ∃ C2 : Nat, True := fun _ _ => ⟨0, trivial⟩
        clear hxa
        have hstep : (Pi = false ∧ cntB PA (i + 1) = C) ∨ (Pi = true ∧ Qi = true ∧ cntB PA (i + 1) = C + 1) := by
          cases hP : Pi with
          | false => exact Or.inl ⟨rfl, by rw [HCN.out, hP, ← HC.out]; rfl⟩
          | true => exact Or.inr ⟨rfl, HMI.out hP, by rw [HCN.out, hP, ← HC.out]; rfl⟩
        rcases hstep with ⟨rfl, hcn⟩ | ⟨rfl, rfl, hcn⟩
        all_goals
          have HCN2 := Lib.hid hcn
          clear hcn
          cases hy : yg l 0 i 0 with
          | none =>
            have HYN2 : Hid (yg l 0 (i + 1) 0 = some i) := Lib.hid (by rw [HYN.out, hy])
            clear hy
            simp only [lstV]
            go_wp2
            go_quiet (fail)
            go_wp2
            go_roundw
            case rel => exact ⟨i + 1, by go_num, by omega, by rw [HCN2.out]; all_goals (first | rfl | go_num), by rw [HYN2.out]; all_goals rfl, n + nq, by first | rfl | simp only [World.drewN_drewN]⟩
            case measure => simp [intOf]; omega
          | some j =>
            have hj := (yg_some hy).1
            obtain ⟨b2, o2, e2, hb2, hc2⟩ := sl_int HS.out j (by omega)
            simp only [Option.some.injEq, Addr.mk.injEq, and_true] at e2
            obtain ⟨rfl, rfl⟩ := e2
            have cj := (HBW.out.cell (p := ⟨b, o + j, none⟩) hb2).trans hc2
            have hmx2 := ag_mx l j
            obtain ⟨A2, hA2⟩ : ∃ A2, A2 = ag l j := ⟨_, rfl⟩
            rw [← hA2] at hmx2
            have HA2 := Lib.hid hA2
            clear hc2 hA2 hb2
            generalize l.getD j 0 = z at *
            have g3 : (j : Int) < (L : Int) := by omega
            have g4 : (0 : Int) ≤ (j : Int) := by omega
            have g5 : decide ((j : Int) < 0) = false := decide_eq_false (by omega)
            simp only [lstV]
            by_cases hlt2 : A < A2
            · have d1 : decide (A < A2) = true := decide_eq_true hlt2
              have d2 : decide ((A : Int) < (A2 : Int)) = true := decide_eq_true (by omega)
              have HYN2 : Hid (yg l 0 (i + 1) 0 = some i) := Lib.hid (by rw [HYN.out, hy]; exact if_pos (by rw [← HA.out, ← HA2.out]; exact hlt2))
              clear hy hlt2
              go_wp2
              go_quiet (fail)
              go_wp2
              go_roundw
              case rel => exact ⟨i + 1, by go_num, by omega, by rw [HCN2.out]; all_goals (first | rfl | go_num), by rw [HYN2.out]; all_goals rfl, n + nq, by first | rfl | simp only [World.drewN_drewN]⟩
              case measure => simp [intOf]; omega
            · have d1 : decide (A < A2) = false := decide_eq_false hlt2
              have d2 : decide ((A : Int) < (A2 : Int)) = false := decide_eq_false (by omega)
              have HYN2 : Hid (yg l 0 (i + 1) 0 = some j) := Lib.hid (by rw [HYN.out, hy]; exact if_neg (by rw [← HA.out, ← HA2.out]; exact hlt2))
              clear hy hlt2
              go_wp2
              go_quiet (fail)
              go_wp2
              go_roundw
              case rel => exact ⟨i + 1, by go_num, by omega, by rw [HCN2.out]; all_goals (first | rfl | go_num), by rw [HYN2.out]; all_goals rfl, n + nq, by first | rfl | simp only [World.drewN_drewN]⟩
              case measure => simp [intOf]; omega
      · obtain rfl : L = i := by omega
        have hkk : ¬ (L : Int) < (L : Int) := by omega
        have hcnt := HCNT.out
        have HLSJ := HLS
        obtain ⟨C, hC⟩ : ∃ C, C = cntB PA L := ⟨_, rfl⟩
        rw [← hC] at hcnt ⊢
        clear hC
        have hs1 : IntKind.i64.wrap ((k0 : Int) + (k1 : Int)) = (k0 : Int) + (k1 : Int) := by rw [IntKind.wrap_i64]; omega
        have hs2 : IntKind.i64.wrap ((k0 : Int) + (k1 : Int) + (k2 : Int)) = (k0 : Int) + (k1 : Int) + (k2 : Int) := by rw [IntKind.wrap_i64]; omega
        have hle : decide ((C : Int) ≤ (k0 : Int) + (k1 : Int) + (k2 : Int)) = true := decide_eq_true (by omega)
        have hP0 := And.intro HBX2.out.drew (And.intro HPL.out.drew HBW.out.drew)
        have hP0 : Bk (w.heap.size + 1) [.int .i64 (k0 : Int), .int .i64 (k1 : Int), .int .i64 (k2 : Int)] (v1.drewN n).drew ∧ Bk p (rowB L PA) (v1.drewN n).drew ∧ Below w.heap.size w (v1.drewN n).drew := ⟨HBX2.out, HPL.out, (below_drewN HBW.out n).drew⟩
        cases hy : yg l 0 L 0 with
        | none =>
          clear hy
          simp only [lstV]
          go_wp2_with fail
          refine wp_region_held_drew (S := fun w' => Bk (w.heap.size + 1) [.int .i64 (k0 : Int), .int .i64 (k1 : Int), .int .i64 (k2 : Int)] w' ∧ Bk p (rowB L PA) w' ∧ Below w.heap.size w w') (by kernel_rfl) (by (first | exact hP0 | exact hP1)) (fun hHeld => ?_)
          refine wpAnyH_take (i := 0) (oi := { dst := some 91, op := Go.Op.move (Go.Operand.tmp 8), type := 3, pos := "law.go:81", after := #[], guard := none }) (v := ?_) rfl (by kernel_rfl) (by kernel_rfl) (by kernel_rfl) (fun _ _ _ h => h) (Or.inl ⟨by rfl, ?_⟩) (by assumption) ?_
          (rotate_left; focus (intro wS hSw; have s0 := (hSw.1.2 0 _ rfl).1; have s1 := (hSw.1.2 1 _ rfl).1; have s2 := (hSw.1.2 2 _ rfl).1; clear hSw; go_simp; (try rw [if_neg (by omega)]); try with_reducible rfl))
          (try simp only [Act.put, List.setIfInBounds_toArray, List.set_cons_zero, List.set_cons_succ])
          refine wpAnyH_take (i := 1) (oi := { dst := some 92, op := Go.Op.indexAddr 35 (Go.Operand.tmp 5) (Go.Operand.const (Go.Value.int Go.IntKind.i64 0)), type := 0, pos := "law.go:81", after := #[], guard := none }) (v := ?_) rfl (by kernel_rfl) (by kernel_rfl) (by kernel_rfl) (fun _ _ _ h => h) (Or.inl ⟨by rfl, ?_⟩) (by assumption) ?_
          (rotate_left; focus (intro wS hSw; have s0 := (hSw.1.2 0 _ rfl).1; have s1 := (hSw.1.2 1 _ rfl).1; have s2 := (hSw.1.2 2 _ rfl).1; clear hSw; go_simp; (try rw [if_neg (by omega)]); try with_reducible rfl))
          (try simp only [Act.put, List.setIfInBounds_toArray, List.set_cons_zero, List.set_cons_succ])
          refine wpAnyH_take (i := 2) (oi := { dst := some 93, op := Go.Op.load 3 (Go.Operand.tmp 92), type := 3, pos := "law.go:81", after := #[{ on := 1, ground := Go.Ground.data }], guard := none }) (v := ?_) rfl (by kernel_rfl) (by kernel_rfl) (by kernel_rfl) (fun _ _ _ h => h) (Or.inl ⟨by rfl, ?_⟩) (by assumption) ?_
          (rotate_left; focus (intro wS hSw; have s0 := (hSw.1.2 0 _ rfl).1; have s1 := (hSw.1.2 1 _ rfl).1; have s2 := (hSw.1.2 2 _ rfl).1; clear hSw; go_simp; (try rw [if_neg (by omega)]); try with_reducible rfl))
          (try simp only [Act.put, List.setIfInBounds_toArray, List.set_cons_zero, List.set_cons_succ])
          refine wpAnyH_take (i := 3) (oi := { dst := some 94, op := Go.Op.indexAddr 35 (Go.Operand.tmp 5) (Go.Operand.const (Go.Value.int Go.IntKind.i64 1)), type := 0, pos := "law.go:81", after := #[], guard := none }) (v := ?_) rfl (by kernel_rfl) (by kernel_rfl) (by kernel_rfl) (fun _ _ _ h => h) (Or.inl ⟨by rfl, ?_⟩) (by assumption) ?_
          (rotate_left; focus (intro wS hSw; have s0 := (hSw.1.2 0 _ rfl).1; have s1 := (hSw.1.2 1 _ rfl).1; have s2 := (hSw.1.2 2 _ rfl).1; clear hSw; go_simp; (try rw [if_neg (by omega)]); try with_reducible rfl))
          (try simp only [Act.put, List.setIfInBounds_toArray, List.set_cons_zero, List.set_cons_succ])
          refine wpAnyH_take (i := 4) (oi := { dst := some 95, op := Go.Op.load 3 (Go.Operand.tmp 94), type := 3, pos := "law.go:81", after := #[{ on := 3, ground := Go.Ground.data }], guard := none }) (v := ?_) rfl (by kernel_rfl) (by kernel_rfl) (by kernel_rfl) (fun _ _ _ h => h) (Or.inl ⟨by rfl, ?_⟩) (by assumption) ?_
          (rotate_left; focus (intro wS hSw; have s0 := (hSw.1.2 0 _ rfl).1; have s1 := (hSw.1.2 1 _ rfl).1; have s2 := (hSw.1.2 2 _ rfl).1; clear hSw; go_simp; (try rw [if_neg (by omega)]); try with_reducible rfl))
          (try simp only [Act.put, List.setIfInBounds_toArray, List.set_cons_zero, List.set_cons_succ])
          refine wpAnyH_take (i := 5) (oi := { dst := some 96, op := Go.Op.binOp Go.BinOp.add 3 (Go.Operand.tmp 93) (Go.Operand.tmp 95) 3, type := 3, pos := "law.go:81", after := #[{ on := 2, ground := Go.Ground.data }, { on := 4, ground := Go.Ground.data }], guard := none }) (v := ?_) rfl (by kernel_rfl) (by kernel_rfl) (by kernel_rfl) (fun _ _ _ h => h) (Or.inl ⟨by rfl, ?_⟩) (by assumption) ?_
          (rotate_left; focus (intro wS hSw; have s0 := (hSw.1.2 0 _ rfl).1; have s1 := (hSw.1.2 1 _ rfl).1; have s2 := (hSw.1.2 2 _ rfl).1; clear hSw; go_simp; (try rw [if_neg (by omega)]); try with_reducible rfl))
          (try simp only [Act.put, List.setIfInBounds_toArray, List.set_cons_zero, List.set_cons_succ])
          refine wpAnyH_take (i := 6) (oi := { dst := some 97, op := Go.Op.indexAddr 35 (Go.Operand.tmp 5) (Go.Operand.const (Go.Value.int Go.IntKind.i64 2)), type := 0, pos := "law.go:81", after := #[], guard := none }) (v := ?_) rfl (by kernel_rfl) (by kernel_rfl) (by kernel_rfl) (fun _ _ _ h => h) (Or.inl ⟨by rfl, ?_⟩) (by assumption) ?_
          (rotate_left; focus (intro wS hSw; have s0 := (hSw.1.2 0 _ rfl).1; have s1 := (hSw.1.2 1 _ rfl).1; have s2 := (hSw.1.2 2 _ rfl).1; clear hSw; go_simp; (try rw [if_neg (by omega)]); try with_reducible rfl))
          (try simp only [Act.put, List.setIfInBounds_toArray, List.set_cons_zero, List.set_cons_succ])
          refine wpAnyH_take (i := 7) (oi := { dst := some 98, op := Go.Op.load 3 (Go.Operand.tmp 97), type := 3, pos := "law.go:81", after := #[{ on := 6, ground := Go.Ground.data }], guard := none }) (v := ?_) rfl (by kernel_rfl) (by kernel_rfl) (by kernel_rfl) (fun _ _ _ h => h) (Or.inl ⟨by rfl, ?_⟩) (by assumption) ?_
          (rotate_left; focus (intro wS hSw; have s0 := (hSw.1.2 0 _ rfl).1; have s1 := (hSw.1.2 1 _ rfl).1; have s2 := (hSw.1.2 2 _ rfl).1; clear hSw; go_simp; (try rw [if_neg (by omega)]); try with_reducible rfl))
          (try simp only [Act.put, List.setIfInBounds_toArray, List.set_cons_zero, List.set_cons_succ])
          refine wpAnyH_take (i := 8) (oi := { dst := some 99, op := Go.Op.binOp Go.BinOp.add 3 (Go.Operand.tmp 96) (Go.Operand.tmp 98) 3, type := 3, pos := "law.go:81", after := #[{ on := 5, ground := Go.Ground.data }, { on := 7, ground := Go.Ground.data }], guard := none }) (v := ?_) rfl (by kernel_rfl) (by kernel_rfl) (by kernel_rfl) (fun _ _ _ h => h) (Or.inl ⟨by rfl, ?_⟩) (by assumption) ?_
          (rotate_left; focus (intro wS hSw; have s0 := (hSw.1.2 0 _ rfl).1; have s1 := (hSw.1.2 1 _ rfl).1; have s2 := (hSw.1.2 2 _ rfl).1; clear hSw; go_simp; (try rw [if_neg (by omega)]); try with_reducible rfl))
          (try simp only [Act.put, List.setIfInBounds_toArray, List.set_cons_zero, List.set_cons_succ])
          refine wpAnyH_take (i := 9) (oi := { dst := some 100, op := Go.Op.binOp Go.BinOp.leq 3 (Go.Operand.tmp 91) (Go.Operand.tmp 99) 3, type := 4, pos := "law.go:81", after := #[{ on := 0, ground := Go.Ground.data }, { on := 8, ground := Go.Ground.data }], guard := none }) (v := ?_) rfl (by kernel_rfl) (by kernel_rfl) (by kernel_rfl) (fun _ _ _ h => h) (Or.inl ⟨by rfl, ?_⟩) (by assumption) ?_
          (rotate_left; focus (intro wS hSw; have s0 := (hSw.1.2 0 _ rfl).1; have s1 := (hSw.1.2 1 _ rfl).1; have s2 := (hSw.1.2 2 _ rfl).1; clear hSw; go_simp; (try rw [if_neg (by omega)]); try with_reducible rfl))
          (try simp only [Act.put, List.setIfInBounds_toArray, List.set_cons_zero, List.set_cons_succ])
          refine wpAnyH_take (i := 10) (oi := { dst := some 101, op := Go.Op.move (Go.Operand.tmp 100), type := 4, pos := "law.go:81", after := #[{ on := 9, ground := Go.Ground.data }], guard := none }) (v := ?_) rfl (by kernel_rfl) (by kernel_rfl) (by kernel_rfl) (fun _ _ _ h => h) (Or.inl ⟨by rfl, ?_⟩) (by assumption) ?_
          (rotate_left; focus (intro wS hSw; have s0 := (hSw.1.2 0 _ rfl).1; have s1 := (hSw.1.2 1 _ rfl).1; have s2 := (hSw.1.2 2 _ rfl).1; clear hSw; go_simp; (try rw [if_neg (by omega)]); try with_reducible rfl))
          (try simp only [Act.put, List.setIfInBounds_toArray, List.set_cons_zero, List.set_cons_succ])
          refine wpAnyH_take (i := 11) (oi := { dst := some 102, op := Go.Op.move (Go.Operand.tmp 9), type := 3, pos := "law.go:81", after := #[{ on := 10, ground := Go.Ground.guard }], guard := some (10, true) }) (v := ?_) rfl (by kernel_rfl) (by kernel_rfl) (by kernel_rfl) (fun _ _ _ h => h) (Or.inl ⟨by rfl, ?_⟩) (by assumption) ?_
          (rotate_left; focus (intro wS hSw; have s0 := (hSw.1.2 0 _ rfl).1; have s1 := (hSw.1.2 1 _ rfl).1; have s2 := (hSw.1.2 2 _ rfl).1; clear hSw; go_simp; (try rw [if_neg (by omega)]); try with_reducible rfl))
          (try simp only [Act.put, List.setIfInBounds_toArray, List.set_cons_zero, List.set_cons_succ])
          refine wpAnyH_take (i := 12) (oi := { dst := some 103, op := Go.Op.binOp Go.BinOp.lss 3 (Go.Operand.tmp 102) (Go.Operand.const (Go.Value.int Go.IntKind.i64 0)) 3, type := 4, pos := "law.go:81", after := #[{ on := 11, ground := Go.Ground.data }, { on := 10, ground := Go.Ground.guard }], guard := some (10, true) }) (v := ?_) rfl (by kernel_rfl) (by kernel_rfl) (by kernel_rfl) (fun _ _ _ h => h) (Or.inl ⟨by rfl, ?_⟩) (by assumption) ?_
          (rotate_left; focus (intro wS hSw; have s0 := (hSw.1.2 0 _ rfl).1; have s1 := (hSw.1.2 1 _ rfl).1; have s2 := (hSw.1.2 2 _ rfl).1; clear hSw; go_simp; (try rw [if_neg (by omega)]); try with_reducible rfl))
          (try simp only [Act.put, List.setIfInBounds_toArray, List.set_cons_zero, List.set_cons_succ])
          refine wpAnyH_take (i := 13) (oi := { dst := some 104, op := Go.Op.move (Go.Operand.tmp 103), type := 4, pos := "law.go:81", after := #[{ on := 12, ground := Go.Ground.data }, { on := 10, ground := Go.Ground.chain }, { on := 10, ground := Go.Ground.guard }], guard := some (10, true) }) (v := ?_) rfl (by kernel_rfl) (by kernel_rfl) (by kernel_rfl) (fun _ _ _ h => h) (Or.inl ⟨by rfl, ?_⟩) (by assumption) ?_
          (rotate_left; focus (intro wS hSw; have s0 := (hSw.1.2 0 _ rfl).1; have s1 := (hSw.1.2 1 _ rfl).1; have s2 := (hSw.1.2 2 _ rfl).1; clear hSw; go_simp; (try rw [if_neg (by omega)]); try with_reducible rfl))
          (try simp only [Act.put, List.setIfInBounds_toArray, List.set_cons_zero, List.set_cons_succ])
          refine wpAnyH_take (i := 14) (oi := { dst := some 105, op := Go.Op.move (Go.Operand.tmp 6), type := 36, pos := "law.go:81", after := #[{ on := 13, ground := Go.Ground.guard }], guard := some (13, false) }) (v := undef) rfl (by kernel_rfl) (by kernel_rfl) (by kernel_rfl) (fun _ _ _ h => h) (Or.inr ⟨by rfl, rfl⟩) (by assumption) ?_
          (try simp only [Act.put, List.setIfInBounds_toArray, List.set_cons_zero, List.set_cons_succ])
          refine wpAnyH_take (i := 15) (oi := { dst := some 106, op := Go.Op.move (Go.Operand.tmp 9), type := 3, pos := "law.go:81", after := #[{ on := 13, ground := Go.Ground.guard }], guard := some (13, false) }) (v := undef) rfl (by kernel_rfl) (by kernel_rfl) (by kernel_rfl) (fun _ _ _ h => h) (Or.inr ⟨by rfl, rfl⟩) (by assumption) ?_
          (try simp only [Act.put, List.setIfInBounds_toArray, List.set_cons_zero, List.set_cons_succ])
          refine wpAnyH_take (i := 16) (oi := { dst := some 107, op := Go.Op.indexAddr 36 (Go.Operand.tmp 105) (Go.Operand.tmp 106), type := 0, pos := "law.go:81", after := #[{ on := 14, ground := Go.Ground.data }, { on := 15, ground := Go.Ground.data }, { on := 13, ground := Go.Ground.guard }], guard := some (13, false) }) (v := undef) rfl (by kernel_rfl) (by kernel_rfl) (by kernel_rfl) (fun _ _ _ h => h) (Or.inr ⟨by rfl, rfl⟩) (by assumption) ?_
          (try simp only [Act.put, List.setIfInBounds_toArray, List.set_cons_zero, List.set_cons_succ])
          refine wpAnyH_take (i := 17) (oi := { dst := some 108, op := Go.Op.load 4 (Go.Operand.tmp 107), type := 4, pos := "law.go:81", after := #[{ on := 16, ground := Go.Ground.data }, { on := 13, ground := Go.Ground.guard }], guard := some (13, false) }) (v := undef) rfl (by kernel_rfl) (by kernel_rfl) (by kernel_rfl) (fun _ _ _ h => h) (Or.inr ⟨by rfl, rfl⟩) (by assumption) ?_
          (try simp only [Act.put, List.setIfInBounds_toArray, List.set_cons_zero, List.set_cons_succ])
          refine wpAnyH_take (i := 18) (oi := { dst := some 109, op := Go.Op.indexAddr 35 (Go.Operand.tmp 5) (Go.Operand.const (Go.Value.int Go.IntKind.i64 0)), type := 0, pos := "law.go:81", after := #[{ on := 13, ground := Go.Ground.guard }], guard := some (13, false) }) (v := undef) rfl (by kernel_rfl) (by kernel_rfl) (by kernel_rfl) (fun _ _ _ h => h) (Or.inr ⟨by rfl, rfl⟩) (by assumption) ?_
          (try simp only [Act.put, List.setIfInBounds_toArray, List.set_cons_zero, List.set_cons_succ])
          refine wpAnyH_take (i := 19) (oi := { dst := some 110, op := Go.Op.load 3 (Go.Operand.tmp 109), type := 3, pos := "law.go:81", after := #[{ on := 18, ground := Go.Ground.data }, { on := 13, ground := Go.Ground.guard }], guard := some (13, false) }) (v := undef) rfl (by kernel_rfl) (by kernel_rfl) (by kernel_rfl) (fun _ _ _ h => h) (Or.inr ⟨by rfl, rfl⟩) (by assumption) ?_
          (try simp only [Act.put, List.setIfInBounds_toArray, List.set_cons_zero, List.set_cons_succ])
          refine wpAnyH_take (i := 20) (oi := { dst := some 111, op := Go.Op.indexAddr 35 (Go.Operand.tmp 5) (Go.Operand.const (Go.Value.int Go.IntKind.i64 1)), type := 0, pos := "law.go:81", after := #[{ on := 13, ground := Go.Ground.guard }], guard := some (13, false) }) (v := undef) rfl (by kernel_rfl) (by kernel_rfl) (by kernel_rfl) (fun _ _ _ h => h) (Or.inr ⟨by rfl, rfl⟩) (by assumption) ?_
          (try simp only [Act.put, List.setIfInBounds_toArray, List.set_cons_zero, List.set_cons_succ])
          refine wpAnyH_take (i := 21) (oi := { dst := some 112, op := Go.Op.load 3 (Go.Operand.tmp 111), type := 3, pos := "law.go:81", after := #[{ on := 20, ground := Go.Ground.data }, { on := 13, ground := Go.Ground.guard }], guard := some (13, false) }) (v := undef) rfl (by kernel_rfl) (by kernel_rfl) (by kernel_rfl) (fun _ _ _ h => h) (Or.inr ⟨by rfl, rfl⟩) (by assumption) ?_
          (try simp only [Act.put, List.setIfInBounds_toArray, List.set_cons_zero, List.set_cons_succ])
          refine wpAnyH_take (i := 22) (oi := { dst := some 113, op := Go.Op.binOp Go.BinOp.add 3 (Go.Operand.tmp 110) (Go.Operand.tmp 112) 3, type := 3, pos := "law.go:81", after := #[{ on := 19, ground := Go.Ground.data }, { on := 21, ground := Go.Ground.data }, { on := 13, ground := Go.Ground.guard }], guard := some (13, false) }) (v := undef) rfl (by kernel_rfl) (by kernel_rfl) (by kernel_rfl) (fun _ _ _ h => h) (Or.inr ⟨by rfl, rfl⟩) (by assumption) ?_
          (try simp only [Act.put, List.setIfInBounds_toArray, List.set_cons_zero, List.set_cons_succ])
          refine wpAnyH_take (i := 23) (oi := { dst := some 114, op := Go.Op.indexAddr 35 (Go.Operand.tmp 5) (Go.Operand.const (Go.Value.int Go.IntKind.i64 2)), type := 0, pos := "law.go:81", after := #[{ on := 13, ground := Go.Ground.guard }], guard := some (13, false) }) (v := undef) rfl (by kernel_rfl) (by kernel_rfl) (by kernel_rfl) (fun _ _ _ h => h) (Or.inr ⟨by rfl, rfl⟩) (by assumption) ?_
          (try simp only [Act.put, List.setIfInBounds_toArray, List.set_cons_zero, List.set_cons_succ])
          refine wpAnyH_take (i := 24) (oi := { dst := some 115, op := Go.Op.load 3 (Go.Operand.tmp 114), type := 3, pos := "law.go:81", after := #[{ on := 23, ground := Go.Ground.data }, { on := 13, ground := Go.Ground.guard }], guard := some (13, false) }) (v := undef) rfl (by kernel_rfl) (by kernel_rfl) (by kernel_rfl) (fun _ _ _ h => h) (Or.inr ⟨by rfl, rfl⟩) (by assumption) ?_
          (try simp only [Act.put, List.setIfInBounds_toArray, List.set_cons_zero, List.set_cons_succ])
          refine wpAnyH_take (i := 25) (oi := { dst := some 116, op := Go.Op.binOp Go.BinOp.add 3 (Go.Operand.tmp 113) (Go.Operand.tmp 115) 3, type := 3, pos := "law.go:81", after := #[{ on := 22, ground := Go.Ground.data }, { on := 24, ground := Go.Ground.data }, { on := 13, ground := Go.Ground.guard }], guard := some (13, false) }) (v := undef) rfl (by kernel_rfl) (by kernel_rfl) (by kernel_rfl) (fun _ _ _ h => h) (Or.inr ⟨by rfl, rfl⟩) (by assumption) ?_
          (try simp only [Act.put, List.setIfInBounds_toArray, List.set_cons_zero, List.set_cons_succ])
          refine wpAnyH_take (i := 26) (oi := { dst := some 117, op := Go.Op.binOp Go.BinOp.gtr 3 (Go.Operand.tmp 116) (Go.Operand.const (Go.Value.int Go.IntKind.i64 0)) 3, type := 4, pos := "law.go:81", after := #[{ on := 25, ground := Go.Ground.data }, { on := 13, ground := Go.Ground.guard }], guard := some (13, false) }) (v := undef) rfl (by kernel_rfl) (by kernel_rfl) (by kernel_rfl) (fun _ _ _ h => h) (Or.inr ⟨by rfl, rfl⟩) (by assumption) ?_
          (try simp only [Act.put, List.setIfInBounds_toArray, List.set_cons_zero, List.set_cons_succ])
          refine wpAnyH_take (i := 27) (oi := { dst := some 118, op := Go.Op.binOp Go.BinOp.eql 4 (Go.Operand.tmp 108) (Go.Operand.tmp 117) 4, type := 4, pos := "law.go:81", after := #[{ on := 17, ground := Go.Ground.data }, { on := 26, ground := Go.Ground.data }, { on := 13, ground := Go.Ground.guard }], guard := some (13, false) }) (v := undef) rfl (by kernel_rfl) (by kernel_rfl) (by kernel_rfl) (fun _ _ _ h => h) (Or.inr ⟨by rfl, rfl⟩) (by assumption) ?_
          (try simp only [Act.put, List.setIfInBounds_toArray, List.set_cons_zero, List.set_cons_succ])
          refine wpAnyH_take (i := 28) (oi := { dst := some 119, op := Go.Op.pick (Go.Operand.tmp 104) (Go.Operand.const (Go.Value.bool true)) (Go.Operand.tmp 118), type := 4, pos := "law.go:81", after := #[{ on := 13, ground := Go.Ground.data }, { on := 27, ground := Go.Ground.data }, { on := 10, ground := Go.Ground.guard }], guard := some (10, true) }) (v := ?_) rfl (by kernel_rfl) (by kernel_rfl) (by kernel_rfl) (fun _ _ _ h => h) (Or.inl ⟨by rfl, ?_⟩) (by assumption) ?_
          (rotate_left; focus (intro wS hSw; have s0 := (hSw.1.2 0 _ rfl).1; have s1 := (hSw.1.2 1 _ rfl).1; have s2 := (hSw.1.2 2 _ rfl).1; clear hSw; go_simp; (try rw [if_neg (by omega)]); try with_reducible rfl))
          (try simp only [Act.put, List.setIfInBounds_toArray, List.set_cons_zero, List.set_cons_succ])
          refine wpAnyH_take (i := 29) (oi := { dst := some 120, op := Go.Op.pick (Go.Operand.tmp 101) (Go.Operand.tmp 119) (Go.Operand.const (Go.Value.bool false)), type := 4, pos := "law.go:81", after := #[{ on := 10, ground := Go.Ground.data }, { on := 28, ground := Go.Ground.data }], guard := none }) (v := ?_) rfl (by kernel_rfl) (by kernel_rfl) (by kernel_rfl) (fun _ _ _ h => h) (Or.inl ⟨by rfl, ?_⟩) (by assumption) ?_
          (rotate_left; focus (intro wS hSw; have s0 := (hSw.1.2 0 _ rfl).1; have s1 := (hSw.1.2 1 _ rfl).1; have s2 := (hSw.1.2 2 _ rfl).1; clear hSw; go_simp; (try rw [if_neg (by omega)]); try with_reducible rfl))
          (try simp only [Act.put, List.setIfInBounds_toArray, List.set_cons_zero, List.set_cons_succ])
          refine wpAnyH_take (i := 30) (oi := { dst := some 121, op := Go.Op.move (Go.Operand.tmp 120), type := 4, pos := "law.go:81", after := #[{ on := 29, ground := Go.Ground.data }, { on := 13, ground := Go.Ground.chain }], guard := none }) (v := ?_) rfl (by kernel_rfl) (by kernel_rfl) (by kernel_rfl) (fun _ _ _ h => h) (Or.inl ⟨by rfl, ?_⟩) (by assumption) ?_
          (rotate_left; focus (intro wS hSw; have s0 := (hSw.1.2 0 _ rfl).1; have s1 := (hSw.1.2 1 _ rfl).1; have s2 := (hSw.1.2 2 _ rfl).1; clear hSw; go_simp; (try rw [if_neg (by omega)]); try with_reducible rfl))
          (try simp only [Act.put, List.setIfInBounds_toArray, List.set_cons_zero, List.set_cons_succ])
          refine wpAnyH_ready (rs := [31]) (by kernel_rfl) (by simp) ?_
          refine AllReadyH.cons (o := { dst := some 122, op := Go.Op.call { callee := Go.Callee.value (Go.Operand.func 6), args := #[], argTypes := #[] }, type := 4, pos := "law.go:81", after := #[{ on := 30, ground := Go.Ground.chain }, { on := 30, ground := Go.Ground.guard }], guard := some (30, true) }) rfl (fun K hK => ?_) AllReadyH.nil
          go_simp
          refine (awake_any _).mono ?_
          rintro e w7 ⟨rfl, hb7⟩
          have hP1 := And.intro (hHeld.1.keep hb7) (And.intro (hHeld.2.1.keep hb7) (below_step hHeld.2.2 (Nat.le_refl _) hb7))
          clear hb7
          (try go_wp2_with fail)
          refine hK.out _ _ (by (first | exact hP0 | exact hP1)) (fun hHeld => ?_)
          clear hK K
          (try simp only [Act.put, List.setIfInBounds_toArray, List.set_cons_zero, List.set_cons_succ])
          refine wpAnyH_take (i := 32) (oi := { dst := some 123, op := Go.Op.pick (Go.Operand.tmp 121) (Go.Operand.tmp 122) (Go.Operand.const (Go.Value.bool false)), type := 4, pos := "law.go:81", after := #[{ on := 30, ground := Go.Ground.data }, { on := 31, ground := Go.Ground.data }], guard := none }) (v := ?_) rfl (by kernel_rfl) (by kernel_rfl) (by kernel_rfl) (fun _ _ _ h => h) (Or.inl ⟨by rfl, ?_⟩) (by assumption) ?_
          (rotate_left; focus (intro wS hSw; have s0 := (hSw.1.2 0 _ rfl).1; have s1 := (hSw.1.2 1 _ rfl).1; have s2 := (hSw.1.2 2 _ rfl).1; clear hSw; go_simp; (try rw [if_neg (by omega)]); try with_reducible rfl))
          (try simp only [Act.put, List.setIfInBounds_toArray, List.set_cons_zero, List.set_cons_succ])
          refine wpAnyH_take (i := 33) (oi := { dst := some 4, op := Go.Op.assign (Go.Operand.tmp 123), type := 4, pos := "law.go:81", after := #[{ on := 32, ground := Go.Ground.data }, { on := 31, ground := Go.Ground.chain }, { on := 0, ground := Go.Ground.phase }, { on := 1, ground := Go.Ground.phase }, { on := 2, ground := Go.Ground.phase }, { on := 3, ground := Go.Ground.phase }, { on := 4, ground := Go.Ground.phase }, { on := 5, ground := Go.Ground.phase }, { on := 6, ground := Go.Ground.phase }, { on := 7, ground := Go.Ground.phase }, { on := 8, ground := Go.Ground.phase }, { on := 9, ground := Go.Ground.phase }, { on := 10, ground := Go.Ground.phase }, { on := 11, ground := Go.Ground.phase }, { on := 12, ground := Go.Ground.phase }, { on := 13, ground := Go.Ground.phase }, { on := 14, ground := Go.Ground.phase }, { on := 15, ground := Go.Ground.phase }, { on := 16, ground := Go.Ground.phase }, { on := 17, ground := Go.Ground.phase }, { on := 18, ground := Go.Ground.phase }, { on := 19, ground := Go.Ground.phase }, { on := 20, ground := Go.Ground.phase }, { on := 21, ground := Go.Ground.phase }, { on := 22, ground := Go.Ground.phase }, { on := 23, ground := Go.Ground.phase }, { on := 24, ground := Go.Ground.phase }, { on := 25, ground := Go.Ground.phase }, { on := 26, ground := Go.Ground.phase }, { on := 27, ground := Go.Ground.phase }, { on := 28, ground := Go.Ground.phase }, { on := 29, ground := Go.Ground.phase }, { on := 30, ground := Go.Ground.phase }, { on := 31, ground := Go.Ground.phase }, { on := 32, ground := Go.Ground.phase }], guard := none }) (v := ?_) rfl (by kernel_rfl) (by kernel_rfl) (by kernel_rfl) (fun _ _ _ h => h) (Or.inl ⟨by rfl, ?_⟩) (by assumption) ?_
          (rotate_left; focus (intro wS hSw; have s0 := (hSw.1.2 0 _ rfl).1; have s1 := (hSw.1.2 1 _ rfl).1; have s2 := (hSw.1.2 2 _ rfl).1; clear hSw; go_simp; (try rw [if_neg (by omega)]); try with_reducible rfl))
          (try simp only [Act.put, List.setIfInBounds_toArray, List.set_cons_zero, List.set_cons_succ])
          refine wpAnyH_done (by kernel_rfl) ?_ _
          all_goals
            go_wp2
            go_ret
            exact ⟨rfl, hP1.2.2⟩
        | some j =>
          have hj := (yg_some hy).1
          have hpj := HLSJ.out j hy
          simp only [lstV]
          go_wp2_with fail
          refine wp_region_held_drew (S := fun w' => Bk (w.heap.size + 1) [.int .i64 (k0 : Int), .int .i64 (k1 : Int), .int .i64 (k2 : Int)] w' ∧ Bk p (rowB L PA) w' ∧ Below w.heap.size w w') (by kernel_rfl) (by (first | exact hP0 | exact hP1)) (fun hHeld => ?_)
          refine wpAnyH_take (i := 0) (oi := { dst := some 91, op := Go.Op.move (Go.Operand.tmp 8), type := 3, pos := "law.go:81", after := #[], guard := none }) (v := ?_) rfl (by kernel_rfl) (by kernel_rfl) (by kernel_rfl) (fun _ _ _ h => h) (Or.inl ⟨by rfl, ?_⟩) (by assumption) ?_
          (rotate_left; focus (intro wS hSw; have s0 := (hSw.1.2 0 _ rfl).1; have s1 := (hSw.1.2 1 _ rfl).1; have s2 := (hSw.1.2 2 _ rfl).1; have s3 := (hSw.2.1.2 j _ (rowB_get L PA j hj)).1; clear hSw; go_simp; (try rw [if_neg (by omega)]); try with_reducible rfl))
          (try simp only [Act.put, List.setIfInBounds_toArray, List.set_cons_zero, List.set_cons_succ])
          refine wpAnyH_take (i := 1) (oi := { dst := some 92, op := Go.Op.indexAddr 35 (Go.Operand.tmp 5) (Go.Operand.const (Go.Value.int Go.IntKind.i64 0)), type := 0, pos := "law.go:81", after := #[], guard := none }) (v := ?_) rfl (by kernel_rfl) (by kernel_rfl) (by kernel_rfl) (fun _ _ _ h => h) (Or.inl ⟨by rfl, ?_⟩) (by assumption) ?_
          (rotate_left; focus (intro wS hSw; have s0 := (hSw.1.2 0 _ rfl).1; have s1 := (hSw.1.2 1 _ rfl).1; have s2 := (hSw.1.2 2 _ rfl).1; have s3 := (hSw.2.1.2 j _ (rowB_get L PA j hj)).1; clear hSw; go_simp; (try rw [if_neg (by omega)]); try with_reducible rfl))
          (try simp only [Act.put, List.setIfInBounds_toArray, List.set_cons_zero, List.set_cons_succ])
          refine wpAnyH_take (i := 2) (oi := { dst := some 93, op := Go.Op.load 3 (Go.Operand.tmp 92), type := 3, pos := "law.go:81", after := #[{ on := 1, ground := Go.Ground.data }], guard := none }) (v := ?_) rfl (by kernel_rfl) (by kernel_rfl) (by kernel_rfl) (fun _ _ _ h => h) (Or.inl ⟨by rfl, ?_⟩) (by assumption) ?_
          (rotate_left; focus (intro wS hSw; have s0 := (hSw.1.2 0 _ rfl).1; have s1 := (hSw.1.2 1 _ rfl).1; have s2 := (hSw.1.2 2 _ rfl).1; have s3 := (hSw.2.1.2 j _ (rowB_get L PA j hj)).1; clear hSw; go_simp; (try rw [if_neg (by omega)]); try with_reducible rfl))
          (try simp only [Act.put, List.setIfInBounds_toArray, List.set_cons_zero, List.set_cons_succ])
          refine wpAnyH_take (i := 3) (oi := { dst := some 94, op := Go.Op.indexAddr 35 (Go.Operand.tmp 5) (Go.Operand.const (Go.Value.int Go.IntKind.i64 1)), type := 0, pos := "law.go:81", after := #[], guard := none }) (v := ?_) rfl (by kernel_rfl) (by kernel_rfl) (by kernel_rfl) (fun _ _ _ h => h) (Or.inl ⟨by rfl, ?_⟩) (by assumption) ?_
          (rotate_left; focus (intro wS hSw; have s0 := (hSw.1.2 0 _ rfl).1; have s1 := (hSw.1.2 1 _ rfl).1; have s2 := (hSw.1.2 2 _ rfl).1; have s3 := (hSw.2.1.2 j _ (rowB_get L PA j hj)).1; clear hSw; go_simp; (try rw [if_neg (by omega)]); try with_reducible rfl))
          (try simp only [Act.put, List.setIfInBounds_toArray, List.set_cons_zero, List.set_cons_succ])
          refine wpAnyH_take (i := 4) (oi := { dst := some 95, op := Go.Op.load 3 (Go.Operand.tmp 94), type := 3, pos := "law.go:81", after := #[{ on := 3, ground := Go.Ground.data }], guard := none }) (v := ?_) rfl (by kernel_rfl) (by kernel_rfl) (by kernel_rfl) (fun _ _ _ h => h) (Or.inl ⟨by rfl, ?_⟩) (by assumption) ?_
          (rotate_left; focus (intro wS hSw; have s0 := (hSw.1.2 0 _ rfl).1; have s1 := (hSw.1.2 1 _ rfl).1; have s2 := (hSw.1.2 2 _ rfl).1; have s3 := (hSw.2.1.2 j _ (rowB_get L PA j hj)).1; clear hSw; go_simp; (try rw [if_neg (by omega)]); try with_reducible rfl))
          (try simp only [Act.put, List.setIfInBounds_toArray, List.set_cons_zero, List.set_cons_succ])
          refine wpAnyH_take (i := 5) (oi := { dst := some 96, op := Go.Op.binOp Go.BinOp.add 3 (Go.Operand.tmp 93) (Go.Operand.tmp 95) 3, type := 3, pos := "law.go:81", after := #[{ on := 2, ground := Go.Ground.data }, { on := 4, ground := Go.Ground.data }], guard := none }) (v := ?_) rfl (by kernel_rfl) (by kernel_rfl) (by kernel_rfl) (fun _ _ _ h => h) (Or.inl ⟨by rfl, ?_⟩) (by assumption) ?_
          (rotate_left; focus (intro wS hSw; have s0 := (hSw.1.2 0 _ rfl).1; have s1 := (hSw.1.2 1 _ rfl).1; have s2 := (hSw.1.2 2 _ rfl).1; have s3 := (hSw.2.1.2 j _ (rowB_get L PA j hj)).1; clear hSw; go_simp; (try rw [if_neg (by omega)]); try with_reducible rfl))
          (try simp only [Act.put, List.setIfInBounds_toArray, List.set_cons_zero, List.set_cons_succ])
          refine wpAnyH_take (i := 6) (oi := { dst := some 97, op := Go.Op.indexAddr 35 (Go.Operand.tmp 5) (Go.Operand.const (Go.Value.int Go.IntKind.i64 2)), type := 0, pos := "law.go:81", after := #[], guard := none }) (v := ?_) rfl (by kernel_rfl) (by kernel_rfl) (by kernel_rfl) (fun _ _ _ h => h) (Or.inl ⟨by rfl, ?_⟩) (by assumption) ?_
          (rotate_left; focus (intro wS hSw; have s0 := (hSw.1.2 0 _ rfl).1; have s1 := (hSw.1.2 1 _ rfl).1; have s2 := (hSw.1.2 2 _ rfl).1; have s3 := (hSw.2.1.2 j _ (rowB_get L PA j hj)).1; clear hSw; go_simp; (try rw [if_neg (by omega)]); try with_reducible rfl))
          (try simp only [Act.put, List.setIfInBounds_toArray, List.set_cons_zero, List.set_cons_succ])
          refine wpAnyH_take (i := 7) (oi := { dst := some 98, op := Go.Op.load 3 (Go.Operand.tmp 97), type := 3, pos := "law.go:81", after := #[{ on := 6, ground := Go.Ground.data }], guard := none }) (v := ?_) rfl (by kernel_rfl) (by kernel_rfl) (by kernel_rfl) (fun _ _ _ h => h) (Or.inl ⟨by rfl, ?_⟩) (by assumption) ?_
          (rotate_left; focus (intro wS hSw; have s0 := (hSw.1.2 0 _ rfl).1; have s1 := (hSw.1.2 1 _ rfl).1; have s2 := (hSw.1.2 2 _ rfl).1; have s3 := (hSw.2.1.2 j _ (rowB_get L PA j hj)).1; clear hSw; go_simp; (try rw [if_neg (by omega)]); try with_reducible rfl))
          (try simp only [Act.put, List.setIfInBounds_toArray, List.set_cons_zero, List.set_cons_succ])
          refine wpAnyH_take (i := 8) (oi := { dst := some 99, op := Go.Op.binOp Go.BinOp.add 3 (Go.Operand.tmp 96) (Go.Operand.tmp 98) 3, type := 3, pos := "law.go:81", after := #[{ on := 5, ground := Go.Ground.data }, { on := 7, ground := Go.Ground.data }], guard := none }) (v := ?_) rfl (by kernel_rfl) (by kernel_rfl) (by kernel_rfl) (fun _ _ _ h => h) (Or.inl ⟨by rfl, ?_⟩) (by assumption) ?_
          (rotate_left; focus (intro wS hSw; have s0 := (hSw.1.2 0 _ rfl).1; have s1 := (hSw.1.2 1 _ rfl).1; have s2 := (hSw.1.2 2 _ rfl).1; have s3 := (hSw.2.1.2 j _ (rowB_get L PA j hj)).1; clear hSw; go_simp; (try rw [if_neg (by omega)]); try with_reducible rfl))
          (try simp only [Act.put, List.setIfInBounds_toArray, List.set_cons_zero, List.set_cons_succ])
          refine wpAnyH_take (i := 9) (oi := { dst := some 100, op := Go.Op.binOp Go.BinOp.leq 3 (Go.Operand.tmp 91) (Go.Operand.tmp 99) 3, type := 4, pos := "law.go:81", after := #[{ on := 0, ground := Go.Ground.data }, { on := 8, ground := Go.Ground.data }], guard := none }) (v := ?_) rfl (by kernel_rfl) (by kernel_rfl) (by kernel_rfl) (fun _ _ _ h => h) (Or.inl ⟨by rfl, ?_⟩) (by assumption) ?_
          (rotate_left; focus (intro wS hSw; have s0 := (hSw.1.2 0 _ rfl).1; have s1 := (hSw.1.2 1 _ rfl).1; have s2 := (hSw.1.2 2 _ rfl).1; have s3 := (hSw.2.1.2 j _ (rowB_get L PA j hj)).1; clear hSw; go_simp; (try rw [if_neg (by omega)]); try with_reducible rfl))
          (try simp only [Act.put, List.setIfInBounds_toArray, List.set_cons_zero, List.set_cons_succ])
          refine wpAnyH_take (i := 10) (oi := { dst := some 101, op := Go.Op.move (Go.Operand.tmp 100), type := 4, pos := "law.go:81", after := #[{ on := 9, ground := Go.Ground.data }], guard := none }) (v := ?_) rfl (by kernel_rfl) (by kernel_rfl) (by kernel_rfl) (fun _ _ _ h => h) (Or.inl ⟨by rfl, ?_⟩) (by assumption) ?_
          (rotate_left; focus (intro wS hSw; have s0 := (hSw.1.2 0 _ rfl).1; have s1 := (hSw.1.2 1 _ rfl).1; have s2 := (hSw.1.2 2 _ rfl).1; have s3 := (hSw.2.1.2 j _ (rowB_get L PA j hj)).1; clear hSw; go_simp; (try rw [if_neg (by omega)]); try with_reducible rfl))
          (try simp only [Act.put, List.setIfInBounds_toArray, List.set_cons_zero, List.set_cons_succ])
          refine wpAnyH_take (i := 11) (oi := { dst := some 102, op := Go.Op.move (Go.Operand.tmp 9), type := 3, pos := "law.go:81", after := #[{ on := 10, ground := Go.Ground.guard }], guard := some (10, true) }) (v := ?_) rfl (by kernel_rfl) (by kernel_rfl) (by kernel_rfl) (fun _ _ _ h => h) (Or.inl ⟨by rfl, ?_⟩) (by assumption) ?_
          (rotate_left; focus (intro wS hSw; have s0 := (hSw.1.2 0 _ rfl).1; have s1 := (hSw.1.2 1 _ rfl).1; have s2 := (hSw.1.2 2 _ rfl).1; have s3 := (hSw.2.1.2 j _ (rowB_get L PA j hj)).1; clear hSw; go_simp; (try rw [if_neg (by omega)]); try with_reducible rfl))
          (try simp only [Act.put, List.setIfInBounds_toArray, List.set_cons_zero, List.set_cons_succ])
          refine wpAnyH_take (i := 12) (oi := { dst := some 103, op := Go.Op.binOp Go.BinOp.lss 3 (Go.Operand.tmp 102) (Go.Operand.const (Go.Value.int Go.IntKind.i64 0)) 3, type := 4, pos := "law.go:81", after := #[{ on := 11, ground := Go.Ground.data }, { on := 10, ground := Go.Ground.guard }], guard := some (10, true) }) (v := ?_) rfl (by kernel_rfl) (by kernel_rfl) (by kernel_rfl) (fun _ _ _ h => h) (Or.inl ⟨by rfl, ?_⟩) (by assumption) ?_
          (rotate_left; focus (intro wS hSw; have s0 := (hSw.1.2 0 _ rfl).1; have s1 := (hSw.1.2 1 _ rfl).1; have s2 := (hSw.1.2 2 _ rfl).1; have s3 := (hSw.2.1.2 j _ (rowB_get L PA j hj)).1; clear hSw; go_simp; (try rw [if_neg (by omega)]); try with_reducible rfl))
          (try simp only [Act.put, List.setIfInBounds_toArray, List.set_cons_zero, List.set_cons_succ])
          refine wpAnyH_take (i := 13) (oi := { dst := some 104, op := Go.Op.move (Go.Operand.tmp 103), type := 4, pos := "law.go:81", after := #[{ on := 12, ground := Go.Ground.data }, { on := 10, ground := Go.Ground.chain }, { on := 10, ground := Go.Ground.guard }], guard := some (10, true) }) (v := ?_) rfl (by kernel_rfl) (by kernel_rfl) (by kernel_rfl) (fun _ _ _ h => h) (Or.inl ⟨by rfl, ?_⟩) (by assumption) ?_
          (rotate_left; focus (intro wS hSw; have s0 := (hSw.1.2 0 _ rfl).1; have s1 := (hSw.1.2 1 _ rfl).1; have s2 := (hSw.1.2 2 _ rfl).1; have s3 := (hSw.2.1.2 j _ (rowB_get L PA j hj)).1; clear hSw; go_simp; (try rw [if_neg (by omega)]); try with_reducible rfl))
          (try simp only [Act.put, List.setIfInBounds_toArray, List.set_cons_zero, List.set_cons_succ])
          refine wpAnyH_take (i := 14) (oi := { dst := some 105, op := Go.Op.move (Go.Operand.tmp 6), type := 36, pos := "law.go:81", after := #[{ on := 13, ground := Go.Ground.guard }], guard := some (13, false) }) (v := ?_) rfl (by kernel_rfl) (by kernel_rfl) (by kernel_rfl) (fun _ _ _ h => h) (Or.inl ⟨by rfl, ?_⟩) (by assumption) ?_
          (rotate_left; focus (intro wS hSw; have s0 := (hSw.1.2 0 _ rfl).1; have s1 := (hSw.1.2 1 _ rfl).1; have s2 := (hSw.1.2 2 _ rfl).1; have s3 := (hSw.2.1.2 j _ (rowB_get L PA j hj)).1; clear hSw; go_simp; (try rw [if_neg (by omega)]); try with_reducible rfl))
          (try simp only [Act.put, List.setIfInBounds_toArray, List.set_cons_zero, List.set_cons_succ])
          refine wpAnyH_take (i := 15) (oi := { dst := some 106, op := Go.Op.move (Go.Operand.tmp 9), type := 3, pos := "law.go:81", after := #[{ on := 13, ground := Go.Ground.guard }], guard := some (13, false) }) (v := ?_) rfl (by kernel_rfl) (by kernel_rfl) (by kernel_rfl) (fun _ _ _ h => h) (Or.inl ⟨by rfl, ?_⟩) (by assumption) ?_
          (rotate_left; focus (intro wS hSw; have s0 := (hSw.1.2 0 _ rfl).1; have s1 := (hSw.1.2 1 _ rfl).1; have s2 := (hSw.1.2 2 _ rfl).1; have s3 := (hSw.2.1.2 j _ (rowB_get L PA j hj)).1; clear hSw; go_simp; (try rw [if_neg (by omega)]); try with_reducible rfl))
          (try simp only [Act.put, List.setIfInBounds_toArray, List.set_cons_zero, List.set_cons_succ])
          refine wpAnyH_take (i := 16) (oi := { dst := some 107, op := Go.Op.indexAddr 36 (Go.Operand.tmp 105) (Go.Operand.tmp 106), type := 0, pos := "law.go:81", after := #[{ on := 14, ground := Go.Ground.data }, { on := 15, ground := Go.Ground.data }, { on := 13, ground := Go.Ground.guard }], guard := some (13, false) }) (v := ?_) rfl (by kernel_rfl) (by kernel_rfl) (by kernel_rfl) (fun _ _ _ h => h) (Or.inl ⟨by rfl, ?_⟩) (by assumption) ?_
          (rotate_left; focus (intro wS hSw; have s0 := (hSw.1.2 0 _ rfl).1; have s1 := (hSw.1.2 1 _ rfl).1; have s2 := (hSw.1.2 2 _ rfl).1; have s3 := (hSw.2.1.2 j _ (rowB_get L PA j hj)).1; clear hSw; go_simp; (try rw [if_neg (by omega)]); try with_reducible rfl))
          (try simp only [Act.put, List.setIfInBounds_toArray, List.set_cons_zero, List.set_cons_succ])
          refine wpAnyH_take (i := 17) (oi := { dst := some 108, op := Go.Op.load 4 (Go.Operand.tmp 107), type := 4, pos := "law.go:81", after := #[{ on := 16, ground := Go.Ground.data }, { on := 13, ground := Go.Ground.guard }], guard := some (13, false) }) (v := ?_) rfl (by kernel_rfl) (by kernel_rfl) (by kernel_rfl) (fun _ _ _ h => h) (Or.inl ⟨by rfl, ?_⟩) (by assumption) ?_
          (rotate_left; focus (intro wS hSw; have s0 := (hSw.1.2 0 _ rfl).1; have s1 := (hSw.1.2 1 _ rfl).1; have s2 := (hSw.1.2 2 _ rfl).1; have s3 := (hSw.2.1.2 j _ (rowB_get L PA j hj)).1; clear hSw; go_simp; (try rw [if_neg (by omega)]); try with_reducible rfl))
          (try simp only [Act.put, List.setIfInBounds_toArray, List.set_cons_zero, List.set_cons_succ])
          refine wpAnyH_take (i := 18) (oi := { dst := some 109, op := Go.Op.indexAddr 35 (Go.Operand.tmp 5) (Go.Operand.const (Go.Value.int Go.IntKind.i64 0)), type := 0, pos := "law.go:81", after := #[{ on := 13, ground := Go.Ground.guard }], guard := some (13, false) }) (v := ?_) rfl (by kernel_rfl) (by kernel_rfl) (by kernel_rfl) (fun _ _ _ h => h) (Or.inl ⟨by rfl, ?_⟩) (by assumption) ?_
          (rotate_left; focus (intro wS hSw; have s0 := (hSw.1.2 0 _ rfl).1; have s1 := (hSw.1.2 1 _ rfl).1; have s2 := (hSw.1.2 2 _ rfl).1; have s3 := (hSw.2.1.2 j _ (rowB_get L PA j hj)).1; clear hSw; go_simp; (try rw [if_neg (by omega)]); try with_reducible rfl))
          (try simp only [Act.put, List.setIfInBounds_toArray, List.set_cons_zero, List.set_cons_succ])
          refine wpAnyH_take (i := 19) (oi := { dst := some 110, op := Go.Op.load 3 (Go.Operand.tmp 109), type := 3, pos := "law.go:81", after := #[{ on := 18, ground := Go.Ground.data }, { on := 13, ground := Go.Ground.guard }], guard := some (13, false) }) (v := ?_) rfl (by kernel_rfl) (by kernel_rfl) (by kernel_rfl) (fun _ _ _ h => h) (Or.inl ⟨by rfl, ?_⟩) (by assumption) ?_
          (rotate_left; focus (intro wS hSw; have s0 := (hSw.1.2 0 _ rfl).1; have s1 := (hSw.1.2 1 _ rfl).1; have s2 := (hSw.1.2 2 _ rfl).1; have s3 := (hSw.2.1.2 j _ (rowB_get L PA j hj)).1; clear hSw; go_simp; (try rw [if_neg (by omega)]); try with_reducible rfl))
          (try simp only [Act.put, List.setIfInBounds_toArray, List.set_cons_zero, List.set_cons_succ])
          refine wpAnyH_take (i := 20) (oi := { dst := some 111, op := Go.Op.indexAddr 35 (Go.Operand.tmp 5) (Go.Operand.const (Go.Value.int Go.IntKind.i64 1)), type := 0, pos := "law.go:81", after := #[{ on := 13, ground := Go.Ground.guard }], guard := some (13, false) }) (v := ?_) rfl (by kernel_rfl) (by kernel_rfl) (by kernel_rfl) (fun _ _ _ h => h) (Or.inl ⟨by rfl, ?_⟩) (by assumption) ?_
          (rotate_left; focus (intro wS hSw; have s0 := (hSw.1.2 0 _ rfl).1; have s1 := (hSw.1.2 1 _ rfl).1; have s2 := (hSw.1.2 2 _ rfl).1; have s3 := (hSw.2.1.2 j _ (rowB_get L PA j hj)).1; clear hSw; go_simp; (try rw [if_neg (by omega)]); try with_reducible rfl))
          (try simp only [Act.put, List.setIfInBounds_toArray, List.set_cons_zero, List.set_cons_succ])
          refine wpAnyH_take (i := 21) (oi := { dst := some 112, op := Go.Op.load 3 (Go.Operand.tmp 111), type := 3, pos := "law.go:81", after := #[{ on := 20, ground := Go.Ground.data }, { on := 13, ground := Go.Ground.guard }], guard := some (13, false) }) (v := ?_) rfl (by kernel_rfl) (by kernel_rfl) (by kernel_rfl) (fun _ _ _ h => h) (Or.inl ⟨by rfl, ?_⟩) (by assumption) ?_
          (rotate_left; focus (intro wS hSw; have s0 := (hSw.1.2 0 _ rfl).1; have s1 := (hSw.1.2 1 _ rfl).1; have s2 := (hSw.1.2 2 _ rfl).1; have s3 := (hSw.2.1.2 j _ (rowB_get L PA j hj)).1; clear hSw; go_simp; (try rw [if_neg (by omega)]); try with_reducible rfl))
          (try simp only [Act.put, List.setIfInBounds_toArray, List.set_cons_zero, List.set_cons_succ])
          refine wpAnyH_take (i := 22) (oi := { dst := some 113, op := Go.Op.binOp Go.BinOp.add 3 (Go.Operand.tmp 110) (Go.Operand.tmp 112) 3, type := 3, pos := "law.go:81", after := #[{ on := 19, ground := Go.Ground.data }, { on := 21, ground := Go.Ground.data }, { on := 13, ground := Go.Ground.guard }], guard := some (13, false) }) (v := ?_) rfl (by kernel_rfl) (by kernel_rfl) (by kernel_rfl) (fun _ _ _ h => h) (Or.inl ⟨by rfl, ?_⟩) (by assumption) ?_
          (rotate_left; focus (intro wS hSw; have s0 := (hSw.1.2 0 _ rfl).1; have s1 := (hSw.1.2 1 _ rfl).1; have s2 := (hSw.1.2 2 _ rfl).1; have s3 := (hSw.2.1.2 j _ (rowB_get L PA j hj)).1; clear hSw; go_simp; (try rw [if_neg (by omega)]); try with_reducible rfl))
          (try simp only [Act.put, List.setIfInBounds_toArray, List.set_cons_zero, List.set_cons_succ])
          refine wpAnyH_take (i := 23) (oi := { dst := some 114, op := Go.Op.indexAddr 35 (Go.Operand.tmp 5) (Go.Operand.const (Go.Value.int Go.IntKind.i64 2)), type := 0, pos := "law.go:81", after := #[{ on := 13, ground := Go.Ground.guard }], guard := some (13, false) }) (v := ?_) rfl (by kernel_rfl) (by kernel_rfl) (by kernel_rfl) (fun _ _ _ h => h) (Or.inl ⟨by rfl, ?_⟩) (by assumption) ?_
          (rotate_left; focus (intro wS hSw; have s0 := (hSw.1.2 0 _ rfl).1; have s1 := (hSw.1.2 1 _ rfl).1; have s2 := (hSw.1.2 2 _ rfl).1; have s3 := (hSw.2.1.2 j _ (rowB_get L PA j hj)).1; clear hSw; go_simp; (try rw [if_neg (by omega)]); try with_reducible rfl))
          (try simp only [Act.put, List.setIfInBounds_toArray, List.set_cons_zero, List.set_cons_succ])
          refine wpAnyH_take (i := 24) (oi := { dst := some 115, op := Go.Op.load 3 (Go.Operand.tmp 114), type := 3, pos := "law.go:81", after := #[{ on := 23, ground := Go.Ground.data }, { on := 13, ground := Go.Ground.guard }], guard := some (13, false) }) (v := ?_) rfl (by kernel_rfl) (by kernel_rfl) (by kernel_rfl) (fun _ _ _ h => h) (Or.inl ⟨by rfl, ?_⟩) (by assumption) ?_
          (rotate_left; focus (intro wS hSw; have s0 := (hSw.1.2 0 _ rfl).1; have s1 := (hSw.1.2 1 _ rfl).1; have s2 := (hSw.1.2 2 _ rfl).1; have s3 := (hSw.2.1.2 j _ (rowB_get L PA j hj)).1; clear hSw; go_simp; (try rw [if_neg (by omega)]); try with_reducible rfl))
          (try simp only [Act.put, List.setIfInBounds_toArray, List.set_cons_zero, List.set_cons_succ])
          refine wpAnyH_take (i := 25) (oi := { dst := some 116, op := Go.Op.binOp Go.BinOp.add 3 (Go.Operand.tmp 113) (Go.Operand.tmp 115) 3, type := 3, pos := "law.go:81", after := #[{ on := 22, ground := Go.Ground.data }, { on := 24, ground := Go.Ground.data }, { on := 13, ground := Go.Ground.guard }], guard := some (13, false) }) (v := ?_) rfl (by kernel_rfl) (by kernel_rfl) (by kernel_rfl) (fun _ _ _ h => h) (Or.inl ⟨by rfl, ?_⟩) (by assumption) ?_
          (rotate_left; focus (intro wS hSw; have s0 := (hSw.1.2 0 _ rfl).1; have s1 := (hSw.1.2 1 _ rfl).1; have s2 := (hSw.1.2 2 _ rfl).1; have s3 := (hSw.2.1.2 j _ (rowB_get L PA j hj)).1; clear hSw; go_simp; (try rw [if_neg (by omega)]); try with_reducible rfl))
          (try simp only [Act.put, List.setIfInBounds_toArray, List.set_cons_zero, List.set_cons_succ])
          refine wpAnyH_take (i := 26) (oi := { dst := some 117, op := Go.Op.binOp Go.BinOp.gtr 3 (Go.Operand.tmp 116) (Go.Operand.const (Go.Value.int Go.IntKind.i64 0)) 3, type := 4, pos := "law.go:81", after := #[{ on := 25, ground := Go.Ground.data }, { on := 13, ground := Go.Ground.guard }], guard := some (13, false) }) (v := ?_) rfl (by kernel_rfl) (by kernel_rfl) (by kernel_rfl) (fun _ _ _ h => h) (Or.inl ⟨by rfl, ?_⟩) (by assumption) ?_
          (rotate_left; focus (intro wS hSw; have s0 := (hSw.1.2 0 _ rfl).1; have s1 := (hSw.1.2 1 _ rfl).1; have s2 := (hSw.1.2 2 _ rfl).1; have s3 := (hSw.2.1.2 j _ (rowB_get L PA j hj)).1; clear hSw; go_simp; (try rw [if_neg (by omega)]); try with_reducible rfl))
          (try simp only [Act.put, List.setIfInBounds_toArray, List.set_cons_zero, List.set_cons_succ])
          refine wpAnyH_take (i := 27) (oi := { dst := some 118, op := Go.Op.binOp Go.BinOp.eql 4 (Go.Operand.tmp 108) (Go.Operand.tmp 117) 4, type := 4, pos := "law.go:81", after := #[{ on := 17, ground := Go.Ground.data }, { on := 26, ground := Go.Ground.data }, { on := 13, ground := Go.Ground.guard }], guard := some (13, false) }) (v := ?_) rfl (by kernel_rfl) (by kernel_rfl) (by kernel_rfl) (fun _ _ _ h => h) (Or.inl ⟨by rfl, ?_⟩) (by assumption) ?_
          (rotate_left; focus (intro wS hSw; have s0 := (hSw.1.2 0 _ rfl).1; have s1 := (hSw.1.2 1 _ rfl).1; have s2 := (hSw.1.2 2 _ rfl).1; have s3 := (hSw.2.1.2 j _ (rowB_get L PA j hj)).1; clear hSw; go_simp; (try rw [if_neg (by omega)]); try with_reducible rfl))
          (try simp only [Act.put, List.setIfInBounds_toArray, List.set_cons_zero, List.set_cons_succ])
          refine wpAnyH_take (i := 28) (oi := { dst := some 119, op := Go.Op.pick (Go.Operand.tmp 104) (Go.Operand.const (Go.Value.bool true)) (Go.Operand.tmp 118), type := 4, pos := "law.go:81", after := #[{ on := 13, ground := Go.Ground.data }, { on := 27, ground := Go.Ground.data }, { on := 10, ground := Go.Ground.guard }], guard := some (10, true) }) (v := ?_) rfl (by kernel_rfl) (by kernel_rfl) (by kernel_rfl) (fun _ _ _ h => h) (Or.inl ⟨by rfl, ?_⟩) (by assumption) ?_
          (rotate_left; focus (intro wS hSw; have s0 := (hSw.1.2 0 _ rfl).1; have s1 := (hSw.1.2 1 _ rfl).1; have s2 := (hSw.1.2 2 _ rfl).1; have s3 := (hSw.2.1.2 j _ (rowB_get L PA j hj)).1; clear hSw; go_simp; (try rw [if_neg (by omega)]); try with_reducible rfl))
          (try simp only [Act.put, List.setIfInBounds_toArray, List.set_cons_zero, List.set_cons_succ])
          refine wpAnyH_take (i := 29) (oi := { dst := some 120, op := Go.Op.pick (Go.Operand.tmp 101) (Go.Operand.tmp 119) (Go.Operand.const (Go.Value.bool false)), type := 4, pos := "law.go:81", after := #[{ on := 10, ground := Go.Ground.data }, { on := 28, ground := Go.Ground.data }], guard := none }) (v := ?_) rfl (by kernel_rfl) (by kernel_rfl) (by kernel_rfl) (fun _ _ _ h => h) (Or.inl ⟨by rfl, ?_⟩) (by assumption) ?_
          (rotate_left; focus (intro wS hSw; have s0 := (hSw.1.2 0 _ rfl).1; have s1 := (hSw.1.2 1 _ rfl).1; have s2 := (hSw.1.2 2 _ rfl).1; have s3 := (hSw.2.1.2 j _ (rowB_get L PA j hj)).1; clear hSw; go_simp; (try rw [if_neg (by omega)]); try with_reducible rfl))
          (try simp only [Act.put, List.setIfInBounds_toArray, List.set_cons_zero, List.set_cons_succ])
          refine wpAnyH_take (i := 30) (oi := { dst := some 121, op := Go.Op.move (Go.Operand.tmp 120), type := 4, pos := "law.go:81", after := #[{ on := 29, ground := Go.Ground.data }, { on := 13, ground := Go.Ground.chain }], guard := none }) (v := ?_) rfl (by kernel_rfl) (by kernel_rfl) (by kernel_rfl) (fun _ _ _ h => h) (Or.inl ⟨by rfl, ?_⟩) (by assumption) ?_
          (rotate_left; focus (intro wS hSw; have s0 := (hSw.1.2 0 _ rfl).1; have s1 := (hSw.1.2 1 _ rfl).1; have s2 := (hSw.1.2 2 _ rfl).1; have s3 := (hSw.2.1.2 j _ (rowB_get L PA j hj)).1; clear hSw; go_simp; (try rw [if_neg (by omega)]); try with_reducible rfl))
          (try simp only [Act.put, List.setIfInBounds_toArray, List.set_cons_zero, List.set_cons_succ])
          refine wpAnyH_ready (rs := [31]) (by kernel_rfl) (by simp) ?_
          refine AllReadyH.cons (o := { dst := some 122, op := Go.Op.call { callee := Go.Callee.value (Go.Operand.func 6), args := #[], argTypes := #[] }, type := 4, pos := "law.go:81", after := #[{ on := 30, ground := Go.Ground.chain }, { on := 30, ground := Go.Ground.guard }], guard := some (30, true) }) rfl (fun K hK => ?_) AllReadyH.nil
          go_simp
          refine (awake_any _).mono ?_
          rintro e w7 ⟨rfl, hb7⟩
          have hP1 := And.intro (hHeld.1.keep hb7) (And.intro (hHeld.2.1.keep hb7) (below_step hHeld.2.2 (Nat.le_refl _) hb7))
          clear hb7
          (try go_wp2_with fail)
          refine hK.out _ _ (by (first | exact hP0 | exact hP1)) (fun hHeld => ?_)
          clear hK K
          (try simp only [Act.put, List.setIfInBounds_toArray, List.set_cons_zero, List.set_cons_succ])
          refine wpAnyH_take (i := 32) (oi := { dst := some 123, op := Go.Op.pick (Go.Operand.tmp 121) (Go.Operand.tmp 122) (Go.Operand.const (Go.Value.bool false)), type := 4, pos := "law.go:81", after := #[{ on := 30, ground := Go.Ground.data }, { on := 31, ground := Go.Ground.data }], guard := none }) (v := ?_) rfl (by kernel_rfl) (by kernel_rfl) (by kernel_rfl) (fun _ _ _ h => h) (Or.inl ⟨by rfl, ?_⟩) (by assumption) ?_
          (rotate_left; focus (intro wS hSw; have s0 := (hSw.1.2 0 _ rfl).1; have s1 := (hSw.1.2 1 _ rfl).1; have s2 := (hSw.1.2 2 _ rfl).1; have s3 := (hSw.2.1.2 j _ (rowB_get L PA j hj)).1; clear hSw; go_simp; (try rw [if_neg (by omega)]); try with_reducible rfl))
          (try simp only [Act.put, List.setIfInBounds_toArray, List.set_cons_zero, List.set_cons_succ])
          refine wpAnyH_take (i := 33) (oi := { dst := some 4, op := Go.Op.assign (Go.Operand.tmp 123), type := 4, pos := "law.go:81", after := #[{ on := 32, ground := Go.Ground.data }, { on := 31, ground := Go.Ground.chain }, { on := 0, ground := Go.Ground.phase }, { on := 1, ground := Go.Ground.phase }, { on := 2, ground := Go.Ground.phase }, { on := 3, ground := Go.Ground.phase }, { on := 4, ground := Go.Ground.phase }, { on := 5, ground := Go.Ground.phase }, { on := 6, ground := Go.Ground.phase }, { on := 7, ground := Go.Ground.phase }, { on := 8, ground := Go.Ground.phase }, { on := 9, ground := Go.Ground.phase }, { on := 10, ground := Go.Ground.phase }, { on := 11, ground := Go.Ground.phase }, { on := 12, ground := Go.Ground.phase }, { on := 13, ground := Go.Ground.phase }, { on := 14, ground := Go.Ground.phase }, { on := 15, ground := Go.Ground.phase }, { on := 16, ground := Go.Ground.phase }, { on := 17, ground := Go.Ground.phase }, { on := 18, ground := Go.Ground.phase }, { on := 19, ground := Go.Ground.phase }, { on := 20, ground := Go.Ground.phase }, { on := 21, ground := Go.Ground.phase }, { on := 22, ground := Go.Ground.phase }, { on := 23, ground := Go.Ground.phase }, { on := 24, ground := Go.Ground.phase }, { on := 25, ground := Go.Ground.phase }, { on := 26, ground := Go.Ground.phase }, { on := 27, ground := Go.Ground.phase }, { on := 28, ground := Go.Ground.phase }, { on := 29, ground := Go.Ground.phase }, { on := 30, ground := Go.Ground.phase }, { on := 31, ground := Go.Ground.phase }, { on := 32, ground := Go.Ground.phase }], guard := none }) (v := ?_) rfl (by kernel_rfl) (by kernel_rfl) (by kernel_rfl) (fun _ _ _ h => h) (Or.inl ⟨by rfl, ?_⟩) (by assumption) ?_
          (rotate_left; focus (intro wS hSw; have s0 := (hSw.1.2 0 _ rfl).1; have s1 := (hSw.1.2 1 _ rfl).1; have s2 := (hSw.1.2 2 _ rfl).1; have s3 := (hSw.2.1.2 j _ (rowB_get L PA j hj)).1; clear hSw; go_simp; (try rw [if_neg (by omega)]); try with_reducible rfl))
          (try simp only [Act.put, List.setIfInBounds_toArray, List.set_cons_zero, List.set_cons_succ])
          refine wpAnyH_done (by kernel_rfl) ?_ _
          all_goals
            go_wp2
            go_ret
            exact ⟨rfl, hP1.2.2⟩
theorem least_law (v : Value) (l : List Int) (v2 : Value) (x : Nat × Nat × Nat) (w : World) (h : IntsOk l w v) (hx : Byte3Ok x w v2) : Calls Try.prog 5 #[v, v2] w fun e w' => e = .returned (.bool true) ∧ Below w.heap.size w w' := by
  obtain ⟨a, cap, rfl, _, hs, hg⟩ := h
  obtain ⟨k0, k1, k2⟩ := x
  obtain ⟨rfl, h0, h1, h2⟩ := hx
  by_cases hl : l.length ≤ 40
  · exact least_walk l a cap k0 k1 k2 w hl hs hg h0 h1 h2
  · exact least_long a _ cap k0 k1 k2 w (by omega)
end Go.Proofs.Ytgoddgaamdifmaa

