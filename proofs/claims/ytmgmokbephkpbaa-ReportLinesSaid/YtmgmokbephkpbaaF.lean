/-
  The walk of ReportLines: it returns true, for every input, without condition.
-/
import Derived.Test.YtmgmokbephkpbaaE
set_option linter.unusedVariables false
set_option linter.unusedSimpArgs false
namespace Go.Proofs.Ytmgmokbephkpbaa
open Go.RowKit
theorem load_agg {w : World} {p : Nat} {vs : List Value} {t : TypeId} (ht : ∀ w : World, (isAgg t).run Try.prog w = .ok true w) (hz : ∀ w : World, (sizeOf t).run Try.prog w = .ok vs.length w) (h : Blk p vs w) :
    (Instr.loadAt t (.pointer (some ⟨p, 0, none⟩))).run Try.prog w = .ok (.agg vs.toArray) w := by
  have h2 := run_loadCells_list (P := Try.prog) w ⟨p, 0, none⟩ vs (fun j v hv => by
    have := h.2 j v hv
    rw [Addr.add_lit, Nat.zero_add]; exact this)
  have h3 : (Instr.sureAddr (.pointer (some ⟨p, 0, none⟩))).run Try.prog w = Result.ok ⟨p, 0, none⟩ w := rfl
  simp only [Instr.loadAt, loadVar, Sem.run_bind, h3, Result.andThen, ht, hz, h2, if_true, Sem.run_pure]
theorem exec_load {ρ : Operand → Value} {o : Oper} {t : TypeId} {a : Operand} {w : World} {v p : Value} (h : (Instr.loadAt t p).run Try.prog w = .ok v w) (ho : o.op = .load t a) (hp : ρ a = p) :
    (execOp ρ o).run Try.prog w = .ok (.value v) w := by
  subst hp
  unfold execOp
  rw [ho]
  simp only [Sem.run_bind, h, Result.andThen, Sem.run_pure]
theorem load31 {w : World} {p : Nat} {a0 a1 a2 a3 a4 a5 a6 a7 : Value} (h : Blk p [a0, a1, a2, a3, a4, a5, a6, a7] w) :
    (Instr.loadAt 31 (.pointer (some ⟨p, 0, none⟩))).run Try.prog w = .ok (.agg #[a0, a1, a2, a3, a4, a5, a6, a7]) w := load_agg (fun _ => by kernel_rfl) (fun _ => by kernel_rfl) h
theorem load37 {w : World} {p : Nat} {a0 a1 a2 a3 a4 a5 a6 a7 a8 a9 a10 a11 a12 a13 a14 a15 a16 a17 a18 a19 a20 a21 a22 : Value} (h : Blk p [a0, a1, a2, a3, a4, a5, a6, a7, a8, a9, a10, a11, a12, a13, a14, a15, a16, a17, a18, a19, a20, a21, a22] w) :
    (Instr.loadAt 37 (.pointer (some ⟨p, 0, none⟩))).run Try.prog w = .ok (.agg #[a0, a1, a2, a3, a4, a5, a6, a7, a8, a9, a10, a11, a12, a13, a14, a15, a16, a17, a18, a19, a20, a21, a22]) w := load_agg (fun _ => by kernel_rfl) (fun _ => by kernel_rfl) h
theorem down_str : (⟨#[100, 111, 119, 110]⟩ : ByteArray) = str [100, 111, 119, 110] := rfl
theorem up_str : (⟨#[117, 112]⟩ : ByteArray) = str [117, 112] := rfl
theorem blank_str : (⟨#[32]⟩ : ByteArray) = str [32] := rfl
theorem hash_str : (⟨#[32, 35]⟩ : ByteArray) = str [32, 35] := rfl
theorem app_str (a : ByteArray) (l : List UInt8) : a ++ str l = str (a.data.toList ++ l) := by
  apply ByteArray.ext
  simp [str, ByteArray.data_append]
theorem str_app2 (a : ByteArray) (l : List UInt8) : str l ++ a = str (l ++ a.data.toList) := by
  apply ByteArray.ext
  simp [str, ByteArray.data_append]
/-- Numbers in decimal, each behind a blank. -/
def numsOf (ns : List Int) : List UInt8 := ns.flatMap fun n => 32 :: dec n
theorem nums_snoc (l : List Int) (n : Int) : numsOf (l ++ [n]) = numsOf l ++ 32 :: dec n := by simp [numsOf]
theorem nums_line (a : List UInt8) (n : Int) (l : List Int) : a ++ numsOf (n :: l) = a ++ 32 :: lineOf ((n :: l).map dec) := by
  have h : ∀ (r : List Int) (x : List UInt8), x ++ numsOf r = lineOf (x :: r.map dec) := by
    intro r x
    unfold lineOf
    rw [Lib.join_cons]
    congr 1
    induction r with
    | nil => rfl
    | cons m r ih => simp only [numsOf, Lib.joinTail, List.flatMap_cons, List.map_cons, List.flatten_cons] at ih ⊢; rw [ih]; rfl
  have h2 := h l (dec n)
  rw [List.map_cons, ← h2]
  simp [numsOf]
theorem nums_len (l : List Int) (h : ∀ n ∈ l, -9223372036854775808 ≤ n ∧ n ≤ 9223372036854775807) : (numsOf l).length ≤ l.length * 21 := by
  induction l with
  | nil => simp [numsOf]
  | cons n l ih =>
    have h1 := ih (fun x hx => h x (by simp [hx]))
    have h2 := h n (by simp)
    have h3 := dec_len2 h2.1 (by omega)
    have h4 : numsOf (n :: l) = 32 :: dec n ++ numsOf l := by simp [numsOf]
    rw [h4, List.length_append, List.length_cons, List.length_cons]
    omega
set_option maxRecDepth 100000 in
set_option maxHeartbeats 16000000 in
theorem lines_true (nm lb : ByteArray) (sz ch : Int) (ia ta ka da : Option Addr) (il ic tc kl kc dl dc : Nat) (tags : List ByteArray)  (bk bl de bu us : Int) (v0 v1 v2 v3 v4 v5 v6 v7 v8 v9 v10 v11 v12 v13 v14 v15 : Int) (ca : Option Addr) (cl cc : Nat) (w : World) (hnm : nm.size ≤ 100) (hlb : lb.size ≤ 300) (htl : tags.length ≤ 20) (hsz : -4611686018427387904 ≤ sz ∧ sz ≤ 9223372036854775807) (hil : il ≤ 9223372036854775807) (hkl : kl ≤ 9223372036854775807) (hdl : dl ≤ 9223372036854775807) (hcl : cl ≤ 9223372036854775807)
    (hbk : (-9223372036854775808 ≤ bk ∧ bk ≤ 9223372036854775807)) (hbl : (-9223372036854775808 ≤ bl ∧ bl ≤ 9223372036854775807)) (hde : (-9223372036854775808 ≤ de ∧ de ≤ 9223372036854775807)) (hbu : (-9223372036854775808 ≤ bu ∧ bu ≤ 9223372036854775807)) (hus : (-9223372036854775808 ≤ us ∧ us ≤ 9223372036854775807)) (hv : ∀ v ∈ ([v0, v1, v2, v3, v4, v5, v6, v7, v8, v9, v10, v11, v12, v13, v14, v15] : List Int), (-9223372036854775808 ≤ v ∧ v ≤ 9223372036854775807)) (hs : Sl encT 1 w ta tags) :
    Calls Try.prog 4 #[.agg #[.string nm, .int .i64 sz, .int .i64 ch, .slice ia il ic, .string lb, .slice ta tags.length tc, .slice ka kl kc, .slice da dl dc], .agg #[.bool true, .int .i64 bk, .int .i64 v0, .int .i64 v1, .int .i64 v2, .int .i64 v3, .int .i64 v4, .int .i64 v5, .int .i64 v6, .int .i64 v7, .int .i64 v8, .int .i64 v9, .int .i64 v10, .int .i64 v11, .int .i64 v12, .int .i64 v13, .int .i64 v14, .int .i64 v15, .slice ca cl cc, .int .i64 bl, .int .i64 de, .int .i64 bu, .int .i64 us]] w fun e w' => e = .returned (.bool true) ∧ Below w.heap.size w w' := by
  have HS0 := Lib.hid hs; have HV := Lib.hid hv
  have g1 : decide ((100 : Int) < (nm.size : Int)) = false := decide_eq_false (by omega)
  have g2 : decide ((300 : Int) < (lb.size : Int)) = false := decide_eq_false (by omega)
  have g3 : decide ((20 : Int) < (tags.length : Int)) = false := decide_eq_false (by omega)
  have g4 : decide (sz < -4611686018427387904) = false := decide_eq_false (by omega)
  have HA0 := Lib.hid (below_new w (.cells #[.string nm, .int .i64 sz, .int .i64 ch, .slice ia il ic, .string lb, .slice ta tags.length tc, .slice ka kl kc, .slice da dl dc] 31))
  have hE0 := Blk.new w 31 #[.string nm, .int .i64 sz, .int .i64 ch, .slice ia il ic, .string lb, .slice ta tags.length tc, .slice ka kl kc, .slice da dl dc]
  have hB0 : Below w.heap.size w ((w.alloc (.cells #[.string nm, .int .i64 sz, .int .i64 ch, .slice ia il ic, .string lb, .slice ta tags.length tc, .slice ka kl kc, .slice da dl dc] 31)).alloc (.cells #[.bool true, .int .i64 bk, .int .i64 v0, .int .i64 v1, .int .i64 v2, .int .i64 v3, .int .i64 v4, .int .i64 v5, .int .i64 v6, .int .i64 v7, .int .i64 v8, .int .i64 v9, .int .i64 v10, .int .i64 v11, .int .i64 v12, .int .i64 v13, .int .i64 v14, .int .i64 v15, .slice ca cl cc, .int .i64 bl, .int .i64 de, .int .i64 bu, .int .i64 us] 37)) := below_step HA0.out (Nat.le_refl _) (below_new _ _)
  have hE1 : Blk w.heap.size [.string nm, .int .i64 sz, .int .i64 ch, .slice ia il ic, .string lb, .slice ta tags.length tc, .slice ka kl kc, .slice da dl dc] ((w.alloc (.cells #[.string nm, .int .i64 sz, .int .i64 ch, .slice ia il ic, .string lb, .slice ta tags.length tc, .slice ka kl kc, .slice da dl dc] 31)).alloc (.cells #[.bool true, .int .i64 bk, .int .i64 v0, .int .i64 v1, .int .i64 v2, .int .i64 v3, .int .i64 v4, .int .i64 v5, .int .i64 v6, .int .i64 v7, .int .i64 v8, .int .i64 v9, .int .i64 v10, .int .i64 v11, .int .i64 v12, .int .i64 v13, .int .i64 v14, .int .i64 v15, .slice ca cl cc, .int .i64 bl, .int .i64 de, .int .i64 bu, .int .i64 us] 37)) := hE0.keep (below_new _ _)
  have hS1 : Blk (w.heap.size + 1) [.bool true, .int .i64 bk, .int .i64 v0, .int .i64 v1, .int .i64 v2, .int .i64 v3, .int .i64 v4, .int .i64 v5, .int .i64 v6, .int .i64 v7, .int .i64 v8, .int .i64 v9, .int .i64 v10, .int .i64 v11, .int .i64 v12, .int .i64 v13, .int .i64 v14, .int .i64 v15, .slice ca cl cc, .int .i64 bl, .int .i64 de, .int .i64 bu, .int .i64 us] ((w.alloc (.cells #[.string nm, .int .i64 sz, .int .i64 ch, .slice ia il ic, .string lb, .slice ta tags.length tc, .slice ka kl kc, .slice da dl dc] 31)).alloc (.cells #[.bool true, .int .i64 bk, .int .i64 v0, .int .i64 v1, .int .i64 v2, .int .i64 v3, .int .i64 v4, .int .i64 v5, .int .i64 v6, .int .i64 v7, .int .i64 v8, .int .i64 v9, .int .i64 v10, .int .i64 v11, .int .i64 v12, .int .i64 v13, .int .i64 v14, .int .i64 v15, .slice ca cl cc, .int .i64 bl, .int .i64 de, .int .i64 bu, .int .i64 us] 37)) := by have := Blk.new (w.alloc (.cells #[.string nm, .int .i64 sz, .int .i64 ch, .slice ia il ic, .string lb, .slice ta tags.length tc, .slice ka kl kc, .slice da dl dc] 31)) 37 #[.bool true, .int .i64 bk, .int .i64 v0, .int .i64 v1, .int .i64 v2, .int .i64 v3, .int .i64 v4, .int .i64 v5, .int .i64 v6, .int .i64 v7, .int .i64 v8, .int .i64 v9, .int .i64 v10, .int .i64 v11, .int .i64 v12, .int .i64 v13, .int .i64 v14, .int .i64 v15, .slice ca cl cc, .int .i64 bl, .int .i64 de, .int .i64 bu, .int .i64 us]; simpa using this
  clear hs hv hE0
  go_enter Try.func4, Try.ntmps4
  go_wp2_with fail
  generalize (w.alloc (.cells #[.string nm, .int .i64 sz, .int .i64 ch, .slice ia il ic, .string lb, .slice ta tags.length tc, .slice ka kl kc, .slice da dl dc] 31)).alloc (.cells #[.bool true, .int .i64 bk, .int .i64 v0, .int .i64 v1, .int .i64 v2, .int .i64 v3, .int .i64 v4, .int .i64 v5, .int .i64 v6, .int .i64 v7, .int .i64 v8, .int .i64 v9, .int .i64 v10, .int .i64 v11, .int .i64 v12, .int .i64 v13, .int .i64 v14, .int .i64 v15, .slice ca cl cc, .int .i64 bl, .int .i64 de, .int .i64 bu, .int .i64 us] 37) = W0 at hB0 hE1 hS1 ⊢
  have HB0 := Lib.hid hB0
  have hP0 : Blk w.heap.size [.string nm, .int .i64 sz, .int .i64 ch, .slice ia il ic, .string lb, .slice ta tags.length tc, .slice ka kl kc, .slice da dl dc] W0.drew ∧ Blk (w.heap.size + 1) [.bool true, .int .i64 bk, .int .i64 v0, .int .i64 v1, .int .i64 v2, .int .i64 v3, .int .i64 v4, .int .i64 v5, .int .i64 v6, .int .i64 v7, .int .i64 v8, .int .i64 v9, .int .i64 v10, .int .i64 v11, .int .i64 v12, .int .i64 v13, .int .i64 v14, .int .i64 v15, .slice ca cl cc, .int .i64 bl, .int .i64 de, .int .i64 bu, .int .i64 us] W0.drew := ⟨hE1.drew, hS1.drew⟩
  have hs1 : (str (dec sz)).size ≤ 20 := dec_len (by omega) (by omega)
  have hs2 : (str (dec il)).size ≤ 20 := dec_len (by omega) (by omega)
  have e1 : (⟨#[32]⟩ : ByteArray).size = 1 := rfl
  have HH : Hid (nm ++ ⟨#[32]⟩ ++ str (dec sz) ++ ⟨#[32]⟩ ++ str (dec il) ++ ⟨#[32]⟩ ++ lb = str (headOf nm lb sz il)) := Lib.hid (by
    apply ByteArray.ext
    simp [str, headOf, ByteArray.data_append])
  clear hE1 hS1 hB0
  refine wp_region_held_drew (S := fun w' => Blk w.heap.size [.string nm, .int .i64 sz, .int .i64 ch, .slice ia il ic, .string lb, .slice ta tags.length tc, .slice ka kl kc, .slice da dl dc] w' ∧ Blk (w.heap.size + 1) [.bool true, .int .i64 bk, .int .i64 v0, .int .i64 v1, .int .i64 v2, .int .i64 v3, .int .i64 v4, .int .i64 v5, .int .i64 v6, .int .i64 v7, .int .i64 v8, .int .i64 v9, .int .i64 v10, .int .i64 v11, .int .i64 v12, .int .i64 v13, .int .i64 v14, .int .i64 v15, .slice ca cl cc, .int .i64 bl, .int .i64 de, .int .i64 bu, .int .i64 us] w') (by kernel_rfl) (by (first | exact hP0 | exact hP1 | exact hP2)) (fun hHeld => ?_)
  refine wpAnyH_take (i := 0) (oi := { dst := some 35, op := Go.Op.fieldAddr 31 (Go.Operand.tmp 2) 0, type := 0, pos := "law.go:35", after := #[], guard := none }) (v := ?_) rfl (by kernel_rfl) (by kernel_rfl) (by kernel_rfl) (fun _ _ _ h => h) (Or.inl ⟨by rfl, ?_⟩) (by assumption) ?_
  (rotate_left; focus (intro wS hSw; have s0 := hSw.1.2 0 _ rfl; have s1 := hSw.1.2 1 _ rfl; have s3 := hSw.1.2 3 _ rfl; have s4 := hSw.1.2 4 _ rfl; have hSz := hSw.1.1; clear hSw; go_simp; (try rw [if_neg (by omega)]); try with_reducible rfl))
  (try simp only [Act.put, List.setIfInBounds_toArray, List.set_cons_zero, List.set_cons_succ])
  refine wpAnyH_take (i := 1) (oi := { dst := some 36, op := Go.Op.load 9 (Go.Operand.tmp 35), type := 9, pos := "law.go:35", after := #[{ on := 0, ground := Go.Ground.data }], guard := none }) (v := ?_) rfl (by kernel_rfl) (by kernel_rfl) (by kernel_rfl) (fun _ _ _ h => h) (Or.inl ⟨by rfl, ?_⟩) (by assumption) ?_
  (rotate_left; focus (intro wS hSw; have s0 := hSw.1.2 0 _ rfl; have s1 := hSw.1.2 1 _ rfl; have s3 := hSw.1.2 3 _ rfl; have s4 := hSw.1.2 4 _ rfl; have hSz := hSw.1.1; clear hSw; go_simp; (try rw [if_neg (by omega)]); try with_reducible rfl))
  (try simp only [Act.put, List.setIfInBounds_toArray, List.set_cons_zero, List.set_cons_succ])
  refine wpAnyH_take (i := 2) (oi := { dst := some 37, op := Go.Op.binOp Go.BinOp.add 9 (Go.Operand.tmp 36) (Go.Operand.const (Go.Value.string { data := #[32] })) 9, type := 9, pos := "law.go:35", after := #[{ on := 1, ground := Go.Ground.data }], guard := none }) (v := ?_) rfl (by kernel_rfl) (by kernel_rfl) (by kernel_rfl) (fun _ _ _ h => h) (Or.inl ⟨by rfl, ?_⟩) (by assumption) ?_
  (rotate_left; focus (intro wS hSw; have s0 := hSw.1.2 0 _ rfl; have s1 := hSw.1.2 1 _ rfl; have s3 := hSw.1.2 3 _ rfl; have s4 := hSw.1.2 4 _ rfl; have hSz := hSw.1.1; clear hSw; go_simp; (try rw [if_neg (by omega)]); try with_reducible rfl))
  (try simp only [Act.put, List.setIfInBounds_toArray, List.set_cons_zero, List.set_cons_succ])
  refine wpAnyH_take (i := 3) (oi := { dst := some 38, op := Go.Op.fieldAddr 31 (Go.Operand.tmp 2) 1, type := 0, pos := "law.go:35", after := #[], guard := none }) (v := ?_) rfl (by kernel_rfl) (by kernel_rfl) (by kernel_rfl) (fun _ _ _ h => h) (Or.inl ⟨by rfl, ?_⟩) (by assumption) ?_
  (rotate_left; focus (intro wS hSw; have s0 := hSw.1.2 0 _ rfl; have s1 := hSw.1.2 1 _ rfl; have s3 := hSw.1.2 3 _ rfl; have s4 := hSw.1.2 4 _ rfl; have hSz := hSw.1.1; clear hSw; go_simp; (try rw [if_neg (by omega)]); try with_reducible rfl))
  (try simp only [Act.put, List.setIfInBounds_toArray, List.set_cons_zero, List.set_cons_succ])
  refine wpAnyH_take (i := 4) (oi := { dst := some 39, op := Go.Op.fieldAddr 27 (Go.Operand.tmp 38) 0, type := 0, pos := "law.go:35", after := #[{ on := 3, ground := Go.Ground.data }], guard := none }) (v := ?_) rfl (by kernel_rfl) (by kernel_rfl) (by kernel_rfl) (fun _ _ _ h => h) (Or.inl ⟨by rfl, ?_⟩) (by assumption) ?_
  (rotate_left; focus (intro wS hSw; have s0 := hSw.1.2 0 _ rfl; have s1 := hSw.1.2 1 _ rfl; have s3 := hSw.1.2 3 _ rfl; have s4 := hSw.1.2 4 _ rfl; have hSz := hSw.1.1; clear hSw; go_simp; (try rw [if_neg (by omega)]); try with_reducible rfl))
  (try simp only [Act.put, List.setIfInBounds_toArray, List.set_cons_zero, List.set_cons_succ])
  refine wpAnyH_take (i := 5) (oi := { dst := some 40, op := Go.Op.load 3 (Go.Operand.tmp 39), type := 3, pos := "law.go:35", after := #[{ on := 4, ground := Go.Ground.data }], guard := none }) (v := ?_) rfl (by kernel_rfl) (by kernel_rfl) (by kernel_rfl) (fun _ _ _ h => h) (Or.inl ⟨by rfl, ?_⟩) (by assumption) ?_
  (rotate_left; focus (intro wS hSw; have s0 := hSw.1.2 0 _ rfl; have s1 := hSw.1.2 1 _ rfl; have s3 := hSw.1.2 3 _ rfl; have s4 := hSw.1.2 4 _ rfl; have hSz := hSw.1.1; clear hSw; go_simp; (try rw [if_neg (by omega)]); try with_reducible rfl))
  (try simp only [Act.put, List.setIfInBounds_toArray, List.set_cons_zero, List.set_cons_succ])
  refine wpAnyH_take (i := 9) (oi := { dst := some 44, op := Go.Op.fieldAddr 31 (Go.Operand.tmp 2) 1, type := 0, pos := "law.go:35", after := #[], guard := none }) (v := ?_) rfl (by kernel_rfl) (by kernel_rfl) (by kernel_rfl) (fun _ _ _ h => h) (Or.inl ⟨by rfl, ?_⟩) (by assumption) ?_
  (rotate_left; focus (intro wS hSw; have s0 := hSw.1.2 0 _ rfl; have s1 := hSw.1.2 1 _ rfl; have s3 := hSw.1.2 3 _ rfl; have s4 := hSw.1.2 4 _ rfl; have hSz := hSw.1.1; clear hSw; go_simp; (try rw [if_neg (by omega)]); try with_reducible rfl))
  (try simp only [Act.put, List.setIfInBounds_toArray, List.set_cons_zero, List.set_cons_succ])
  refine wpAnyH_take (i := 10) (oi := { dst := some 45, op := Go.Op.fieldAddr 27 (Go.Operand.tmp 44) 2, type := 0, pos := "law.go:35", after := #[{ on := 9, ground := Go.Ground.data }], guard := none }) (v := ?_) rfl (by kernel_rfl) (by kernel_rfl) (by kernel_rfl) (fun _ _ _ h => h) (Or.inl ⟨by rfl, ?_⟩) (by assumption) ?_
  (rotate_left; focus (intro wS hSw; have s0 := hSw.1.2 0 _ rfl; have s1 := hSw.1.2 1 _ rfl; have s3 := hSw.1.2 3 _ rfl; have s4 := hSw.1.2 4 _ rfl; have hSz := hSw.1.1; clear hSw; go_simp; (try rw [if_neg (by omega)]); try with_reducible rfl))
  (try simp only [Act.put, List.setIfInBounds_toArray, List.set_cons_zero, List.set_cons_succ])
  refine wpAnyH_take (i := 11) (oi := { dst := some 46, op := Go.Op.load 25 (Go.Operand.tmp 45), type := 25, pos := "law.go:35", after := #[{ on := 10, ground := Go.Ground.data }], guard := none }) (v := ?_) rfl (by kernel_rfl) (by kernel_rfl) (by kernel_rfl) (fun _ _ _ h => h) (Or.inl ⟨by rfl, ?_⟩) (by assumption) ?_
  (rotate_left; focus (intro wS hSw; have s0 := hSw.1.2 0 _ rfl; have s1 := hSw.1.2 1 _ rfl; have s3 := hSw.1.2 3 _ rfl; have s4 := hSw.1.2 4 _ rfl; have hSz := hSw.1.1; clear hSw; go_simp; (try rw [if_neg (by omega)]); try with_reducible rfl))
  (try simp only [Act.put, List.setIfInBounds_toArray, List.set_cons_zero, List.set_cons_succ])
  refine wpAnyH_take (i := 12) (oi := { dst := some 47, op := Go.Op.call { callee := Go.Callee.builtin Go.Builtin.len, args := #[Go.Operand.tmp 46], argTypes := #[25] }, type := 3, pos := "law.go:35", after := #[{ on := 11, ground := Go.Ground.data }], guard := none }) (v := ?_) rfl (by kernel_rfl) (by kernel_rfl) (by kernel_rfl) (fun _ _ _ h => h) (Or.inl ⟨by rfl, ?_⟩) (by assumption) ?_
  (rotate_left; focus (intro wS hSw; have s0 := hSw.1.2 0 _ rfl; have s1 := hSw.1.2 1 _ rfl; have s3 := hSw.1.2 3 _ rfl; have s4 := hSw.1.2 4 _ rfl; have hSz := hSw.1.1; clear hSw; go_simp; (try rw [if_neg (by omega)]); try with_reducible rfl))
  (try simp only [Act.put, List.setIfInBounds_toArray, List.set_cons_zero, List.set_cons_succ])
  refine wpAnyH_take (i := 16) (oi := { dst := some 51, op := Go.Op.fieldAddr 31 (Go.Operand.tmp 2) 2, type := 0, pos := "law.go:35", after := #[], guard := none }) (v := ?_) rfl (by kernel_rfl) (by kernel_rfl) (by kernel_rfl) (fun _ _ _ h => h) (Or.inl ⟨by rfl, ?_⟩) (by assumption) ?_
  (rotate_left; focus (intro wS hSw; have s0 := hSw.1.2 0 _ rfl; have s1 := hSw.1.2 1 _ rfl; have s3 := hSw.1.2 3 _ rfl; have s4 := hSw.1.2 4 _ rfl; have hSz := hSw.1.1; clear hSw; go_simp; (try rw [if_neg (by omega)]); try with_reducible rfl))
  (try simp only [Act.put, List.setIfInBounds_toArray, List.set_cons_zero, List.set_cons_succ])
  refine wpAnyH_take (i := 17) (oi := { dst := some 52, op := Go.Op.load 9 (Go.Operand.tmp 51), type := 9, pos := "law.go:35", after := #[{ on := 16, ground := Go.Ground.data }], guard := none }) (v := ?_) rfl (by kernel_rfl) (by kernel_rfl) (by kernel_rfl) (fun _ _ _ h => h) (Or.inl ⟨by rfl, ?_⟩) (by assumption) ?_
  (rotate_left; focus (intro wS hSw; have s0 := hSw.1.2 0 _ rfl; have s1 := hSw.1.2 1 _ rfl; have s3 := hSw.1.2 3 _ rfl; have s4 := hSw.1.2 4 _ rfl; have hSz := hSw.1.1; clear hSw; go_simp; (try rw [if_neg (by omega)]); try with_reducible rfl))
  (try simp only [Act.put, List.setIfInBounds_toArray, List.set_cons_zero, List.set_cons_succ])
  refine wpAnyH_ready (rs := [6]) (by kernel_rfl) (by simp) ?_
  refine AllReadyH.cons (o := { dst := some 41, op := Go.Op.call { callee := Go.Callee.value (Go.Operand.func 6), args := #[Go.Operand.tmp 40], argTypes := #[3] }, type := 9, pos := "law.go:35", after := #[{ on := 5, ground := Go.Ground.data }], guard := none }) rfl (fun K hK => ?_) AllReadyH.nil
  go_simp
  refine (digits_any sz (by omega) (by omega) _).mono ?_
  rintro e w1 ⟨rfl, hb1⟩
  have HB1 := Lib.hid (below_step HB0.out.drew (Nat.le_refl _) hb1)
  have hP1 : Blk w.heap.size [.string nm, .int .i64 sz, .int .i64 ch, .slice ia il ic, .string lb, .slice ta tags.length tc, .slice ka kl kc, .slice da dl dc] w1 ∧ Blk (w.heap.size + 1) [.bool true, .int .i64 bk, .int .i64 v0, .int .i64 v1, .int .i64 v2, .int .i64 v3, .int .i64 v4, .int .i64 v5, .int .i64 v6, .int .i64 v7, .int .i64 v8, .int .i64 v9, .int .i64 v10, .int .i64 v11, .int .i64 v12, .int .i64 v13, .int .i64 v14, .int .i64 v15, .slice ca cl cc, .int .i64 bl, .int .i64 de, .int .i64 bu, .int .i64 us] w1 := ⟨hP0.1.keep hb1, hP0.2.keep hb1⟩
  (try go_wp2_with fail)
  refine hK.out _ _ (by (first | exact hP0 | exact hP1 | exact hP2)) (fun hHeld => ?_)
  clear hK K
  (try simp only [Act.put, List.setIfInBounds_toArray, List.set_cons_zero, List.set_cons_succ])
  refine wpAnyH_take (i := 7) (oi := { dst := some 42, op := Go.Op.binOp Go.BinOp.add 9 (Go.Operand.tmp 37) (Go.Operand.tmp 41) 9, type := 9, pos := "law.go:35", after := #[{ on := 2, ground := Go.Ground.data }, { on := 6, ground := Go.Ground.data }], guard := none }) (v := ?_) rfl (by kernel_rfl) (by kernel_rfl) (by kernel_rfl) (fun _ _ _ h => h) (Or.inl ⟨by rfl, ?_⟩) (by assumption) ?_
  (rotate_left; focus (intro wS hSw; have s0 := hSw.1.2 0 _ rfl; have s1 := hSw.1.2 1 _ rfl; have s3 := hSw.1.2 3 _ rfl; have s4 := hSw.1.2 4 _ rfl; have hSz := hSw.1.1; clear hSw; go_simp; (try rw [if_neg (by omega)]); try with_reducible rfl))
  (try simp only [Act.put, List.setIfInBounds_toArray, List.set_cons_zero, List.set_cons_succ])
  refine wpAnyH_take (i := 8) (oi := { dst := some 43, op := Go.Op.binOp Go.BinOp.add 9 (Go.Operand.tmp 42) (Go.Operand.const (Go.Value.string { data := #[32] })) 9, type := 9, pos := "law.go:35", after := #[{ on := 7, ground := Go.Ground.data }], guard := none }) (v := ?_) rfl (by kernel_rfl) (by kernel_rfl) (by kernel_rfl) (fun _ _ _ h => h) (Or.inl ⟨by rfl, ?_⟩) (by assumption) ?_
  (rotate_left; focus (intro wS hSw; have s0 := hSw.1.2 0 _ rfl; have s1 := hSw.1.2 1 _ rfl; have s3 := hSw.1.2 3 _ rfl; have s4 := hSw.1.2 4 _ rfl; have hSz := hSw.1.1; clear hSw; go_simp; (try rw [if_neg (by omega)]); try with_reducible rfl))
  (try simp only [Act.put, List.setIfInBounds_toArray, List.set_cons_zero, List.set_cons_succ])
  refine wpAnyH_ready (rs := [13]) (by kernel_rfl) (by simp) ?_
  refine AllReadyH.cons (o := { dst := some 48, op := Go.Op.call { callee := Go.Callee.value (Go.Operand.func 6), args := #[Go.Operand.tmp 47], argTypes := #[3] }, type := 9, pos := "law.go:35", after := #[{ on := 12, ground := Go.Ground.data }, { on := 6, ground := Go.Ground.chain }], guard := none }) rfl (fun K hK => ?_) AllReadyH.nil
  go_simp
  refine (digits_any il (by omega) (by omega) _).mono ?_
  rintro e w2 ⟨rfl, hb2⟩
  have HB2 := Lib.hid (below_step HB1.out (Nat.le_refl _) hb2)
  have hP2 : Blk w.heap.size [.string nm, .int .i64 sz, .int .i64 ch, .slice ia il ic, .string lb, .slice ta tags.length tc, .slice ka kl kc, .slice da dl dc] w2 ∧ Blk (w.heap.size + 1) [.bool true, .int .i64 bk, .int .i64 v0, .int .i64 v1, .int .i64 v2, .int .i64 v3, .int .i64 v4, .int .i64 v5, .int .i64 v6, .int .i64 v7, .int .i64 v8, .int .i64 v9, .int .i64 v10, .int .i64 v11, .int .i64 v12, .int .i64 v13, .int .i64 v14, .int .i64 v15, .slice ca cl cc, .int .i64 bl, .int .i64 de, .int .i64 bu, .int .i64 us] w2 := ⟨hP1.1.keep hb2, hP1.2.keep hb2⟩
  clear hb1 hb2
  (try go_wp2_with fail)
  refine hK.out _ _ (by (first | exact hP0 | exact hP1 | exact hP2)) (fun hHeld => ?_)
  clear hK K
  (try simp only [Act.put, List.setIfInBounds_toArray, List.set_cons_zero, List.set_cons_succ])
  refine wpAnyH_take (i := 14) (oi := { dst := some 49, op := Go.Op.binOp Go.BinOp.add 9 (Go.Operand.tmp 43) (Go.Operand.tmp 48) 9, type := 9, pos := "law.go:35", after := #[{ on := 8, ground := Go.Ground.data }, { on := 13, ground := Go.Ground.data }], guard := none }) (v := ?_) rfl (by kernel_rfl) (by kernel_rfl) (by kernel_rfl) (fun _ _ _ h => h) (Or.inl ⟨by rfl, ?_⟩) (by assumption) ?_
  (rotate_left; focus (intro wS hSw; have s0 := hSw.1.2 0 _ rfl; have s1 := hSw.1.2 1 _ rfl; have s3 := hSw.1.2 3 _ rfl; have s4 := hSw.1.2 4 _ rfl; have hSz := hSw.1.1; clear hSw; go_simp; (try rw [if_neg (by omega)]); try with_reducible rfl))
  (try simp only [Act.put, List.setIfInBounds_toArray, List.set_cons_zero, List.set_cons_succ])
  refine wpAnyH_take (i := 15) (oi := { dst := some 50, op := Go.Op.binOp Go.BinOp.add 9 (Go.Operand.tmp 49) (Go.Operand.const (Go.Value.string { data := #[32] })) 9, type := 9, pos := "law.go:35", after := #[{ on := 14, ground := Go.Ground.data }], guard := none }) (v := ?_) rfl (by kernel_rfl) (by kernel_rfl) (by kernel_rfl) (fun _ _ _ h => h) (Or.inl ⟨by rfl, ?_⟩) (by assumption) ?_
  (rotate_left; focus (intro wS hSw; have s0 := hSw.1.2 0 _ rfl; have s1 := hSw.1.2 1 _ rfl; have s3 := hSw.1.2 3 _ rfl; have s4 := hSw.1.2 4 _ rfl; have hSz := hSw.1.1; clear hSw; go_simp; (try rw [if_neg (by omega)]); try with_reducible rfl))
  (try simp only [Act.put, List.setIfInBounds_toArray, List.set_cons_zero, List.set_cons_succ])
  refine wpAnyH_take (i := 18) (oi := { dst := some 53, op := Go.Op.binOp Go.BinOp.add 9 (Go.Operand.tmp 50) (Go.Operand.tmp 52) 9, type := 9, pos := "law.go:35", after := #[{ on := 15, ground := Go.Ground.data }, { on := 17, ground := Go.Ground.data }], guard := none }) (v := ?_) rfl (by kernel_rfl) (by kernel_rfl) (by kernel_rfl) (fun _ _ _ h => h) (Or.inl ⟨by rfl, ?_⟩) (by assumption) ?_
  (rotate_left; focus (intro wS hSw; have s0 := hSw.1.2 0 _ rfl; have s1 := hSw.1.2 1 _ rfl; have s3 := hSw.1.2 3 _ rfl; have s4 := hSw.1.2 4 _ rfl; have hSz := hSw.1.1; clear hSw; go_simp; (try rw [if_neg (by omega)]); try with_reducible rfl))
  (try simp only [Act.put, List.setIfInBounds_toArray, List.set_cons_zero, List.set_cons_succ])
  refine wpAnyH_take (i := 19) (oi := { dst := some 5, op := Go.Op.assign (Go.Operand.tmp 53), type := 9, pos := "law.go:35", after := #[{ on := 18, ground := Go.Ground.data }, { on := 13, ground := Go.Ground.chain }, { on := 0, ground := Go.Ground.phase }, { on := 1, ground := Go.Ground.phase }, { on := 2, ground := Go.Ground.phase }, { on := 3, ground := Go.Ground.phase }, { on := 4, ground := Go.Ground.phase }, { on := 5, ground := Go.Ground.phase }, { on := 6, ground := Go.Ground.phase }, { on := 7, ground := Go.Ground.phase }, { on := 8, ground := Go.Ground.phase }, { on := 9, ground := Go.Ground.phase }, { on := 10, ground := Go.Ground.phase }, { on := 11, ground := Go.Ground.phase }, { on := 12, ground := Go.Ground.phase }, { on := 13, ground := Go.Ground.phase }, { on := 14, ground := Go.Ground.phase }, { on := 15, ground := Go.Ground.phase }, { on := 16, ground := Go.Ground.phase }, { on := 17, ground := Go.Ground.phase }, { on := 18, ground := Go.Ground.phase }], guard := none }) (v := ?_) rfl (by kernel_rfl) (by kernel_rfl) (by kernel_rfl) (fun _ _ _ h => h) (Or.inl ⟨by rfl, ?_⟩) (by assumption) ?_
  (rotate_left; focus (intro wS hSw; have s0 := hSw.1.2 0 _ rfl; have s1 := hSw.1.2 1 _ rfl; have s3 := hSw.1.2 3 _ rfl; have s4 := hSw.1.2 4 _ rfl; have hSz := hSw.1.1; clear hSw; go_simp; (try rw [if_neg (by omega)]); try with_reducible rfl))
  (try simp only [Act.put, List.setIfInBounds_toArray, List.set_cons_zero, List.set_cons_succ])
  refine wpAnyH_done (by kernel_rfl) ?_ _
  rw [HH.out]
  clear hP0 hP1
  have HP2 := Lib.hid hP2
  clear hP2
  have HLN : Hid ((headOf nm lb sz il).length ≤ 1000) := Lib.hid (by
    have h3 := dec_len2 (n := sz) (by omega) (by omega)
    have h4 := dec_len2 (n := il) (by omega) (by omega)
    simp only [headOf, List.length_append, List.length_cons, length_data]
    omega)
  have e2 : (⟨#[32, 35]⟩ : ByteArray).size = 2 := rfl
  clear g1 g2 g3 g4 HH
  go_wp2
  go_loopw [5, 6] (fun q i wr => ∃ k : Nat, k ≤ tags.length ∧ i = .int .i64 k ∧ q = .string (str (headOf nm lb sz il ++ tagsOf (tags.take k))) ∧ (∀ t ∈ tags.take k, t.size ≤ 100) ∧ wr = w2) (fun _ i _ => tags.length - (intOf i).toNat)
  case atStart => exact ⟨0, by omega, rfl, by simp [tagsOf], by simp, rfl⟩
  case round =>
    obtain ⟨k, hk, rfl, rfl, ht, rfl⟩ := hrel
    have HTK := Lib.hid ht; clear ht
    have s5 := HP2.out.1.2 5 _ rfl
    have hz5 := HP2.out.1.1
    by_cases hlt : k < tags.length
    · obtain ⟨b2, o2, rfl, _, hc2⟩ := HS0.out.keep HB2.out k hlt
      have c2 : wr.cell? ⟨b2, o2 + k * 1, none⟩ = some (.string tags[k]) := hc2 0 _ rfl
      rw [Nat.mul_one] at c2
      have gi : (k : Int) < (tags.length : Int) := by omega
      clear hc2
      by_cases hts : tags[k].size ≤ 100
      · have gt : decide ((100 : Int) < (tags[k].size : Int)) = false := decide_eq_false (by omega)
        have hsq : (str (headOf nm lb sz il ++ tagsOf (tags.take k))).size ≤ 100000 := by
          have := tags_len (tags.take k) HTK.out
          have h2 := HLN.out
          rw [List.length_take] at this
          rw [size_str, List.length_append]; omega
        go_wp2
        go_roundw
        case rel =>
          refine ⟨k + 1, by omega, by go_num, ?_, ?_, trivial⟩
          · rw [hash_str, str_app, str_app2, List.take_succ_eq_append_getElem hlt, tags_snoc]; simp
          · intro t htm
            rw [List.take_succ_eq_append_getElem hlt] at htm
            rcases List.mem_append.1 htm with h | h
            · exact HTK.out t h
            · rw [List.mem_singleton.1 h]; exact hts
        case measure => simp [intOf]; omega
      · have gt : decide ((100 : Int) < (tags[k].size : Int)) = true := decide_eq_true (by omega)
        go_wp2_with fail
        refine (awake_any _).mono ?_
        rintro e w3 ⟨rfl, hb3⟩
        go_wp2_with fail
        (try rw [Exit.noGoto_ret])
        go_ret
        exact ⟨rfl, below_step HB2.out (Nat.le_refl _) hb3⟩
    · obtain rfl : k = tags.length := by omega
      rw [List.take_length]
      have HTA : Hid (∀ t ∈ tags, t.size ≤ 100) := Lib.hid (by have := HTK.out; rwa [List.take_length] at this)
      have u0 := HP2.out.2.2 0 _ rfl
      have hzu := HP2.out.2.1
      clear HTK hlt
      go_wp2
      clear u0 hzu s5 hz5
      go_loopw [8, 9] (fun q i wq => ∃ k : Nat, k ≤ 16 ∧ i = .int .i64 k ∧ q = .int .i64 (([v0, v1, v2, v3, v4, v5, v6, v7, v8, v9, v10, v11, v12, v13, v14, v15] : List Int).take k).sum ∧ (∀ v ∈ ([v0, v1, v2, v3, v4, v5, v6, v7, v8, v9, v10, v11, v12, v13, v14, v15] : List Int).take k, 0 ≤ v ∧ v ≤ 1099511627776) ∧ wq = wr) (fun _ i _ => 16 - (intOf i).toNat)
      case atStart => exact ⟨0, by omega, rfl, rfl, by simp, rfl⟩
      case round =>
        obtain ⟨k, hk, rfl, rfl, hv, rfl⟩ := hrel
        have HVK := Lib.hid hv; clear hv
        have hzu := HP2.out.2.1
        by_cases hlt : k < 16
        · have gi : (k : Int) < 16 := by omega
          obtain ⟨x, hx, hcx⟩ : ∃ x : Int, ([v0, v1, v2, v3, v4, v5, v6, v7, v8, v9, v10, v11, v12, v13, v14, v15] : List Int)[k]? = some x ∧ ([.bool true, .int .i64 bk, .int .i64 v0, .int .i64 v1, .int .i64 v2, .int .i64 v3, .int .i64 v4, .int .i64 v5, .int .i64 v6, .int .i64 v7, .int .i64 v8, .int .i64 v9, .int .i64 v10, .int .i64 v11, .int .i64 v12, .int .i64 v13, .int .i64 v14, .int .i64 v15, .slice ca cl cc, .int .i64 bl, .int .i64 de, .int .i64 bu, .int .i64 us] : List Value)[2 + k]? = some (.int .i64 x) := by
            obtain rfl | rfl | rfl | rfl | rfl | rfl | rfl | rfl | rfl | rfl | rfl | rfl | rfl | rfl | rfl | rfl := (show k = 0 ∨ k = 1 ∨ k = 2 ∨ k = 3 ∨ k = 4 ∨ k = 5 ∨ k = 6 ∨ k = 7 ∨ k = 8 ∨ k = 9 ∨ k = 10 ∨ k = 11 ∨ k = 12 ∨ k = 13 ∨ k = 14 ∨ k = 15 by omega)
            all_goals exact ⟨_, rfl, rfl⟩
          have c2 := HP2.out.2.2 (2 + k) _ hcx
          have HTS : Hid (([v0, v1, v2, v3, v4, v5, v6, v7, v8, v9, v10, v11, v12, v13, v14, v15] : List Int).take (k + 1) = ([v0, v1, v2, v3, v4, v5, v6, v7, v8, v9, v10, v11, v12, v13, v14, v15] : List Int).take k ++ [x]) := Lib.hid (by rw [List.take_add_one, hx]; rfl)
          have hxb := HV.out x (List.mem_of_getElem? hx)
          have hsm : 0 ≤ (([v0, v1, v2, v3, v4, v5, v6, v7, v8, v9, v10, v11, v12, v13, v14, v15] : List Int).take k).sum ∧ (([v0, v1, v2, v3, v4, v5, v6, v7, v8, v9, v10, v11, v12, v13, v14, v15] : List Int).take k).sum ≤ 20000000000000 := by
            have := small_sum (([v0, v1, v2, v3, v4, v5, v6, v7, v8, v9, v10, v11, v12, v13, v14, v15] : List Int).take k) HVK.out
            rw [List.length_take] at this
            omega
          generalize hQ : (([v0, v1, v2, v3, v4, v5, v6, v7, v8, v9, v10, v11, v12, v13, v14, v15] : List Int).take k).sum = S at hsm ⊢
          have HQ := Lib.hid hQ
          clear hx hcx hQ
          by_cases h1 : x < 0
          · have b1 : decide (x < 0) = true := decide_eq_true h1
            go_wp2_with fail
            refine (awake_any _).mono ?_
            rintro e w3 ⟨rfl, hb3⟩
            go_wp2_with fail
            (try rw [Exit.noGoto_ret])
            go_ret
            exact ⟨rfl, below_step HB2.out (Nat.le_refl _) hb3⟩
          · have b1 : decide (x < 0) = false := decide_eq_false h1
            by_cases h2 : 1099511627776 < x
            · have b2 : decide (1099511627776 < x) = true := decide_eq_true h2
              go_wp2_with fail
              refine (awake_any _).mono ?_
              rintro e w3 ⟨rfl, hb3⟩
              go_wp2_with fail
              (try rw [Exit.noGoto_ret])
              go_ret
              exact ⟨rfl, below_step HB2.out (Nat.le_refl _) hb3⟩
            · have b2 : decide (1099511627776 < x) = false := decide_eq_false h2
              go_wp2
              go_roundw
              case rel =>
                refine ⟨k + 1, by omega, by go_num, ?_, ?_, trivial⟩
                · rw [HTS.out, List.sum_append, HQ.out]; simp
                · intro v hv
                  rw [HTS.out] at hv
                  rcases List.mem_append.1 hv with h | h
                  · exact HVK.out v h
                  · rw [List.mem_singleton.1 h]; omega
              case measure => simp [intOf]; omega
        · obtain rfl : k = 16 := by omega
          obtain ⟨wq, hwq⟩ : ∃ wq, wq = wr := ⟨_, rfl⟩
          subst hwq
          have hu1 := HP2.out.2.2 1 _ rfl
          have hu18 := HP2.out.2.2 18 _ rfl
          have hu19 := HP2.out.2.2 19 _ rfl
          have hu20 := HP2.out.2.2 20 _ rfl
          have hu21 := HP2.out.2.2 21 _ rfl
          have hu22 := HP2.out.2.2 22 _ rfl
          have HVA : Hid (∀ v ∈ ([v0, v1, v2, v3, v4, v5, v6, v7, v8, v9, v10, v11, v12, v13, v14, v15] : List Int), 0 ≤ v ∧ v ≤ 1099511627776) := Lib.hid (by have := HVK.out; rwa [List.take_of_length_le (by simp)] at this)
          have hSb : 0 ≤ ([v0, v1, v2, v3, v4, v5, v6, v7, v8, v9, v10, v11, v12, v13, v14, v15] : List Int).sum ∧ ([v0, v1, v2, v3, v4, v5, v6, v7, v8, v9, v10, v11, v12, v13, v14, v15] : List Int).sum ≤ 20000000000000 := by
            have := small_sum ([v0, v1, v2, v3, v4, v5, v6, v7, v8, v9, v10, v11, v12, v13, v14, v15] : List Int) HVA.out
            simp only [List.length_cons, List.length_nil] at this
            omega
          rw [List.take_of_length_le (show ([v0, v1, v2, v3, v4, v5, v6, v7, v8, v9, v10, v11, v12, v13, v14, v15] : List Int).length ≤ 16 by simp)]
          generalize hQ : ([v0, v1, v2, v3, v4, v5, v6, v7, v8, v9, v10, v11, v12, v13, v14, v15] : List Int).sum = S at hSb ⊢
          have HQ := Lib.hid hQ
          clear hQ HVK hlt
          go_wp2
          clear hu1 hu18 hu19 hu20 hu21 hu22
          obtain ⟨ns, hns⟩ : ∃ ns : List Int, ns = [bk, bl, de, bu, us, S, (cl : Int)] := ⟨_, rfl⟩
          have hsl : Sl encI 1 (wq.alloc (.cells #[.int .i64 bk, .int .i64 bl, .int .i64 de, .int .i64 bu, .int .i64 us, .int .i64 S, .int .i64 cl] 3)) (some ⟨wq.heap.size, 0, none⟩) ns := new_sl encI (Value.int .i64) (fun _ => rfl) wq 3 ns _ (by rw [hns]; rfl)
          have hnl : ns.length = 7 := by rw [hns]; rfl
          have HNB : Hid (∀ n ∈ ns, -9223372036854775808 ≤ n ∧ n ≤ 9223372036854775807) := Lib.hid (by
            intro n hn
            rw [hns] at hn
            simp only [List.mem_cons, List.mem_nil_iff, or_false] at hn
            omega)
          have hE3 := HP2.out.1.keep (below_new wq (.cells #[.int .i64 bk, .int .i64 bl, .int .i64 de, .int .i64 bu, .int .i64 us, .int .i64 S, .int .i64 cl] 3))
          have hS3 := HP2.out.2.keep (below_new wq (.cells #[.int .i64 bk, .int .i64 bl, .int .i64 de, .int .i64 bu, .int .i64 us, .int .i64 S, .int .i64 cl] 3))
          have hB3 := below_step HB2.out (Nat.le_refl _) (below_new wq (.cells #[.int .i64 bk, .int .i64 bl, .int .i64 de, .int .i64 bu, .int .i64 us, .int .i64 S, .int .i64 cl] 3))
          generalize wq.alloc (.cells #[.int .i64 bk, .int .i64 bl, .int .i64 de, .int .i64 bu, .int .i64 us, .int .i64 S, .int .i64 cl] 3) = W3 at hsl hE3 hS3 hB3 ⊢
          have HNS := Lib.hid hns
          have HSL := Lib.hid hsl
          have HE3 := Lib.hid hE3
          have HS3 := Lib.hid hS3
          have HB3 := Lib.hid hB3
          clear hns hsl hE3 hS3 hB3
          go_loopw [7, 11] (fun q i wr => ∃ k : Nat, k ≤ 7 ∧ i = .int .i64 k ∧ q = .string (str (upOf true ++ numsOf (ns.take k))) ∧ (∀ n ∈ ns.take k, -4611686018427387904 ≤ n) ∧ Below W3.heap.size W3 wr) (fun _ i _ => 7 - (intOf i).toNat)
          case atStart => exact ⟨0, by omega, rfl, by simp [numsOf, upOf]; rfl, by simp, Below.refl _ _⟩
          case round =>
            obtain ⟨k, hk, rfl, rfl, hnk, hb⟩ := hrel
            have HNK := Lib.hid hnk; clear hnk
            have HB := Lib.hid hb; clear hb
            by_cases hlt : k < 7
            · obtain ⟨b2, o2, he, _, hc2⟩ := HSL.out.keep HB.out k (by omega)
              obtain ⟨rfl, rfl⟩ : wq.heap.size = b2 ∧ 0 = o2 := by simpa using he
              have c2 : wr.cell? ⟨wq.heap.size, 0 + k * 1, none⟩ = some (.int .i64 (ns[k]'(by omega))) := hc2 0 _ rfl
              rw [Nat.mul_one, Nat.zero_add] at c2
              have gi : (k : Int) < 7 := by omega
              have hnb := HNB.out _ (List.getElem_mem (l := ns) (n := k) (by omega))
              have HTS : Hid (ns.take (k + 1) = ns.take k ++ [ns[k]'(by omega)]) := Lib.hid (List.take_succ_eq_append_getElem (by omega))
              have hsq : (str (upOf true ++ numsOf (ns.take k))).size ≤ 1000 := by
                have h1 := nums_len (ns.take k) (fun n hn => HNB.out n (List.mem_of_mem_take hn))
                have h2 := upOf_len true
                rw [List.length_take] at h1
                rw [size_str, List.length_append]; omega
              have hsd : (str (dec (ns[k]'(by omega)))).size ≤ 20 := dec_len (by omega) (by omega)
              clear hc2 he
              generalize ns[k]'(by omega) = x at *
              by_cases h1 : x < -4611686018427387904
              · have b1 : decide (x < -4611686018427387904) = true := decide_eq_true h1
                go_wp2_with fail
                refine (awake_any _).mono ?_
                rintro e w3 ⟨rfl, hb3⟩
                go_wp2_with fail
                (try rw [Exit.noGoto_ret])
                go_ret
                exact ⟨rfl, below_step (below_step HB3.out (Nat.le_refl _) HB.out) (Nat.le_refl _) hb3⟩
              · have b1 : decide (x < -4611686018427387904) = false := decide_eq_false h1
                go_wp2_with fail
                refine (digits_any x (by omega) (by omega) _).mono ?_
                rintro e w3 ⟨rfl, hb3⟩
                have HB4 := Lib.hid (below_step HB.out (Nat.le_refl _) hb3)
                clear hb3
                go_wp2
                go_roundw
                case rel =>
                  refine ⟨_, _, _, _, _, _, _, _, _, _, _, _, _, _, _, _, _, _, _, _, _, _, _, ⟨k + 1, by omega, by go_num, ?_, ?_, HB4.out⟩, rfl⟩
                  · rw [blank_str, str_app, str_app, HTS.out, nums_snoc]; simp
                  · intro v hv
                    rw [HTS.out] at hv
                    rcases List.mem_append.1 hv with h | h
                    · exact HNK.out v h
                    · rw [List.mem_singleton.1 h]; omega
                case measure => simp [intOf]; omega
            · obtain rfl : k = 7 := by omega
              rw [List.take_of_length_le (show ns.length ≤ 7 by omega)]
              have hB4 := below_step HB3.out (Nat.le_refl _) HB.out
              have hP0 : Blk w.heap.size [.string nm, .int .i64 sz, .int .i64 ch, .slice ia il ic, .string lb, .slice ta tags.length tc, .slice ka kl kc, .slice da dl dc] wr.drew ∧ Blk (w.heap.size + 1) [.bool true, .int .i64 bk, .int .i64 v0, .int .i64 v1, .int .i64 v2, .int .i64 v3, .int .i64 v4, .int .i64 v5, .int .i64 v6, .int .i64 v7, .int .i64 v8, .int .i64 v9, .int .i64 v10, .int .i64 v11, .int .i64 v12, .int .i64 v13, .int .i64 v14, .int .i64 v15, .slice ca cl cc, .int .i64 bl, .int .i64 de, .int .i64 bu, .int .i64 us] wr.drew := ⟨(HE3.out.keep HB.out).drew, (HS3.out.keep HB.out).drew⟩
              have HB5 := Lib.hid hB4
              have hsk : (str (dec kl)).size ≤ 20 := dec_len (by omega) (by omega)
              have hsd : (str (dec dl)).size ≤ 20 := dec_len (by omega) (by omega)
              have hsh : (str (headOf nm lb sz il ++ tagsOf tags)).size ≤ 100000 := by
                have h1 := tags_len tags HTA.out
                have h2 := HLN.out
                rw [size_str, List.length_append]; omega
              have HST : Hid (upOf true ++ numsOf ns = statusOf true [bk, bl, de, bu, us, ([v0, v1, v2, v3, v4, v5, v6, v7, v8, v9, v10, v11, v12, v13, v14, v15] : List Int).sum, cl]) := Lib.hid (by rw [HNS.out, HQ.out, nums_line]; rfl)
              have HSF : Hid (str (headOf nm lb sz il ++ tagsOf tags) ++ ⟨#[32]⟩ ++ str (dec kl) ++ ⟨#[32]⟩ ++ str (dec dl) = str (headOf nm lb sz il ++ (tagsOf tags ++ 32 :: (dec kl ++ 32 :: dec dl)))) := Lib.hid (by
                apply ByteArray.ext
                simp [str, ByteArray.data_append])
              have hq1 : ((str (headOf nm lb sz il ++ (tagsOf tags ++ 32 :: (dec kl ++ 32 :: dec dl)))).toList == (str (headOf nm lb sz il ++ tagsOf tags) ++ ⟨#[32]⟩ ++ str (dec kl) ++ ⟨#[32]⟩ ++ str (dec dl)).toList) = true := by rw [HSF.out]; simp
              clear hB4 hlt HNK
              go_wp2_with fail
              refine wp_region_held_drew (S := fun w' => Blk w.heap.size [.string nm, .int .i64 sz, .int .i64 ch, .slice ia il ic, .string lb, .slice ta tags.length tc, .slice ka kl kc, .slice da dl dc] w' ∧ Blk (w.heap.size + 1) [.bool true, .int .i64 bk, .int .i64 v0, .int .i64 v1, .int .i64 v2, .int .i64 v3, .int .i64 v4, .int .i64 v5, .int .i64 v6, .int .i64 v7, .int .i64 v8, .int .i64 v9, .int .i64 v10, .int .i64 v11, .int .i64 v12, .int .i64 v13, .int .i64 v14, .int .i64 v15, .slice ca cl cc, .int .i64 bl, .int .i64 de, .int .i64 bu, .int .i64 us] w') (by kernel_rfl) (by (first | exact hP0 | exact hP1 | exact hP2 | exact hP3 | exact hP4 | exact hP5)) (fun hHeld => ?_)
              refine wpAnyH_take (i := 0) (oi := { dst := some 141, op := Go.Op.load 31 (Go.Operand.tmp 2), type := 31, pos := "law.go:60", after := #[], guard := none }) (v := ?_) rfl (by kernel_rfl) (by kernel_rfl) (by kernel_rfl) (fun _ _ _ h => h) (Or.inl ⟨by rfl, ?_⟩) (by assumption) ?_
              (rotate_left; focus (intro wS hSw; have l31 := load31 hSw.1; refine (exec_load l31 rfl rfl).trans ?_; with_reducible rfl))
              (try simp only [Act.put, List.setIfInBounds_toArray, List.set_cons_zero, List.set_cons_succ])
              refine wpAnyH_take (i := 2) (oi := { dst := some 143, op := Go.Op.move (Go.Operand.tmp 5), type := 9, pos := "law.go:60", after := #[], guard := none }) (v := ?_) rfl (by kernel_rfl) (by kernel_rfl) (by kernel_rfl) (fun _ _ _ h => h) (Or.inl ⟨by rfl, ?_⟩) (by assumption) ?_
              (rotate_left; focus (intro wS hSw; clear hSw; go_simp; (try rw [if_neg (by omega)]); try with_reducible rfl))
              (try simp only [Act.put, List.setIfInBounds_toArray, List.set_cons_zero, List.set_cons_succ])
              refine wpAnyH_take (i := 3) (oi := { dst := some 144, op := Go.Op.binOp Go.BinOp.add 9 (Go.Operand.tmp 143) (Go.Operand.const (Go.Value.string { data := #[32] })) 9, type := 9, pos := "law.go:60", after := #[{ on := 2, ground := Go.Ground.data }], guard := none }) (v := ?_) rfl (by kernel_rfl) (by kernel_rfl) (by kernel_rfl) (fun _ _ _ h => h) (Or.inl ⟨by rfl, ?_⟩) (by assumption) ?_
              (rotate_left; focus (intro wS hSw; clear hSw; go_simp; (try rw [if_neg (by omega)]); try with_reducible rfl))
              (try simp only [Act.put, List.setIfInBounds_toArray, List.set_cons_zero, List.set_cons_succ])
              refine wpAnyH_take (i := 4) (oi := { dst := some 145, op := Go.Op.fieldAddr 31 (Go.Operand.tmp 2) 4, type := 0, pos := "law.go:60", after := #[], guard := none }) (v := ?_) rfl (by kernel_rfl) (by kernel_rfl) (by kernel_rfl) (fun _ _ _ h => h) (Or.inl ⟨by rfl, ?_⟩) (by assumption) ?_
              (rotate_left; focus (intro wS hSw; clear hSw; go_simp; (try rw [if_neg (by omega)]); try with_reducible rfl))
              (try simp only [Act.put, List.setIfInBounds_toArray, List.set_cons_zero, List.set_cons_succ])
              refine wpAnyH_take (i := 5) (oi := { dst := some 146, op := Go.Op.load 28 (Go.Operand.tmp 145), type := 28, pos := "law.go:60", after := #[{ on := 4, ground := Go.Ground.data }], guard := none }) (v := ?_) rfl (by kernel_rfl) (by kernel_rfl) (by kernel_rfl) (fun _ _ _ h => h) (Or.inl ⟨by rfl, ?_⟩) (by assumption) ?_
              (rotate_left; focus (intro wS hSw; have s0 := hSw.1.2 0 _ rfl; have s5 := hSw.1.2 5 _ rfl; have s6 := hSw.1.2 6 _ rfl; have s7 := hSw.1.2 7 _ rfl; clear hSw; go_simp; (try rw [if_neg (by omega)]); try with_reducible rfl))
              (try simp only [Act.put, List.setIfInBounds_toArray, List.set_cons_zero, List.set_cons_succ])
              refine wpAnyH_take (i := 6) (oi := { dst := some 147, op := Go.Op.call { callee := Go.Callee.builtin Go.Builtin.len, args := #[Go.Operand.tmp 146], argTypes := #[28] }, type := 3, pos := "law.go:60", after := #[{ on := 5, ground := Go.Ground.data }], guard := none }) (v := ?_) rfl (by kernel_rfl) (by kernel_rfl) (by kernel_rfl) (fun _ _ _ h => h) (Or.inl ⟨by rfl, ?_⟩) (by assumption) ?_
              (rotate_left; focus (intro wS hSw; clear hSw; go_simp; (try rw [if_neg (by omega)]); try with_reducible rfl))
              (try simp only [Act.put, List.setIfInBounds_toArray, List.set_cons_zero, List.set_cons_succ])
              refine wpAnyH_take (i := 10) (oi := { dst := some 151, op := Go.Op.fieldAddr 31 (Go.Operand.tmp 2) 5, type := 0, pos := "law.go:60", after := #[], guard := none }) (v := ?_) rfl (by kernel_rfl) (by kernel_rfl) (by kernel_rfl) (fun _ _ _ h => h) (Or.inl ⟨by rfl, ?_⟩) (by assumption) ?_
              (rotate_left; focus (intro wS hSw; clear hSw; go_simp; (try rw [if_neg (by omega)]); try with_reducible rfl))
              (try simp only [Act.put, List.setIfInBounds_toArray, List.set_cons_zero, List.set_cons_succ])
              refine wpAnyH_take (i := 11) (oi := { dst := some 152, op := Go.Op.load 29 (Go.Operand.tmp 151), type := 29, pos := "law.go:60", after := #[{ on := 10, ground := Go.Ground.data }], guard := none }) (v := ?_) rfl (by kernel_rfl) (by kernel_rfl) (by kernel_rfl) (fun _ _ _ h => h) (Or.inl ⟨by rfl, ?_⟩) (by assumption) ?_
              (rotate_left; focus (intro wS hSw; have s0 := hSw.1.2 0 _ rfl; have s5 := hSw.1.2 5 _ rfl; have s6 := hSw.1.2 6 _ rfl; have s7 := hSw.1.2 7 _ rfl; clear hSw; go_simp; (try rw [if_neg (by omega)]); try with_reducible rfl))
              (try simp only [Act.put, List.setIfInBounds_toArray, List.set_cons_zero, List.set_cons_succ])
              refine wpAnyH_take (i := 12) (oi := { dst := some 153, op := Go.Op.call { callee := Go.Callee.builtin Go.Builtin.len, args := #[Go.Operand.tmp 152], argTypes := #[29] }, type := 3, pos := "law.go:60", after := #[{ on := 11, ground := Go.Ground.data }], guard := none }) (v := ?_) rfl (by kernel_rfl) (by kernel_rfl) (by kernel_rfl) (fun _ _ _ h => h) (Or.inl ⟨by rfl, ?_⟩) (by assumption) ?_
              (rotate_left; focus (intro wS hSw; clear hSw; go_simp; (try rw [if_neg (by omega)]); try with_reducible rfl))
              (try simp only [Act.put, List.setIfInBounds_toArray, List.set_cons_zero, List.set_cons_succ])
              refine wpAnyH_ready (rs := [1]) (by kernel_rfl) (by simp) ?_
              refine AllReadyH.cons (o := { dst := some 142, op := Go.Op.call { callee := Go.Callee.value (Go.Operand.func 8), args := #[Go.Operand.tmp 141], argTypes := #[31] }, type := 9, pos := "law.go:60", after := #[{ on := 0, ground := Go.Ground.data }], guard := none }) rfl (fun K hK => ?_) AllReadyH.nil
              go_simp
              refine (entry_any nm lb sz ch ia ta ka da il ic tc kl kc dl dc tags _ hnm hlb htl HTA.out (by omega) hil hkl hdl (HS0.out.keep HB5.out).drew).mono ?_
              rintro e x1 ⟨rfl, hb1⟩
              have HC1 := Lib.hid (below_step HB5.out.drew (Nat.le_refl _) hb1)
              have hP1 : Blk w.heap.size [.string nm, .int .i64 sz, .int .i64 ch, .slice ia il ic, .string lb, .slice ta tags.length tc, .slice ka kl kc, .slice da dl dc] x1 ∧ Blk (w.heap.size + 1) [.bool true, .int .i64 bk, .int .i64 v0, .int .i64 v1, .int .i64 v2, .int .i64 v3, .int .i64 v4, .int .i64 v5, .int .i64 v6, .int .i64 v7, .int .i64 v8, .int .i64 v9, .int .i64 v10, .int .i64 v11, .int .i64 v12, .int .i64 v13, .int .i64 v14, .int .i64 v15, .slice ca cl cc, .int .i64 bl, .int .i64 de, .int .i64 bu, .int .i64 us] x1 := ⟨hP0.1.keep hb1, hP0.2.keep hb1⟩
              (try go_wp2_with fail)
              refine hK.out _ _ (by (first | exact hP0 | exact hP1 | exact hP2 | exact hP3 | exact hP4 | exact hP5)) (fun hHeld => ?_)
              clear hK K
              (try simp only [Act.put, List.setIfInBounds_toArray, List.set_cons_zero, List.set_cons_succ])
              refine wpAnyH_ready (rs := [7]) (by kernel_rfl) (by simp) ?_
              refine AllReadyH.cons (o := { dst := some 148, op := Go.Op.call { callee := Go.Callee.value (Go.Operand.func 6), args := #[Go.Operand.tmp 147], argTypes := #[3] }, type := 9, pos := "law.go:60", after := #[{ on := 6, ground := Go.Ground.data }, { on := 1, ground := Go.Ground.chain }], guard := none }) rfl (fun K hK => ?_) AllReadyH.nil
              go_simp
              refine (digits_any kl (by omega) (by omega) _).mono ?_
              rintro e x2 ⟨rfl, hb2⟩
              have HC2 := Lib.hid (below_step HC1.out (Nat.le_refl _) hb2)
              have hP2 : Blk w.heap.size [.string nm, .int .i64 sz, .int .i64 ch, .slice ia il ic, .string lb, .slice ta tags.length tc, .slice ka kl kc, .slice da dl dc] x2 ∧ Blk (w.heap.size + 1) [.bool true, .int .i64 bk, .int .i64 v0, .int .i64 v1, .int .i64 v2, .int .i64 v3, .int .i64 v4, .int .i64 v5, .int .i64 v6, .int .i64 v7, .int .i64 v8, .int .i64 v9, .int .i64 v10, .int .i64 v11, .int .i64 v12, .int .i64 v13, .int .i64 v14, .int .i64 v15, .slice ca cl cc, .int .i64 bl, .int .i64 de, .int .i64 bu, .int .i64 us] x2 := ⟨hP1.1.keep hb2, hP1.2.keep hb2⟩
              (try go_wp2_with fail)
              refine hK.out _ _ (by (first | exact hP0 | exact hP1 | exact hP2 | exact hP3 | exact hP4 | exact hP5)) (fun hHeld => ?_)
              clear hK K
              (try simp only [Act.put, List.setIfInBounds_toArray, List.set_cons_zero, List.set_cons_succ])
              refine wpAnyH_take (i := 8) (oi := { dst := some 149, op := Go.Op.binOp Go.BinOp.add 9 (Go.Operand.tmp 144) (Go.Operand.tmp 148) 9, type := 9, pos := "law.go:60", after := #[{ on := 3, ground := Go.Ground.data }, { on := 7, ground := Go.Ground.data }], guard := none }) (v := ?_) rfl (by kernel_rfl) (by kernel_rfl) (by kernel_rfl) (fun _ _ _ h => h) (Or.inl ⟨by rfl, ?_⟩) (by assumption) ?_
              (rotate_left; focus (intro wS hSw; clear hSw; go_simp; (try rw [if_neg (by omega)]); try with_reducible rfl))
              (try simp only [Act.put, List.setIfInBounds_toArray, List.set_cons_zero, List.set_cons_succ])
              refine wpAnyH_take (i := 9) (oi := { dst := some 150, op := Go.Op.binOp Go.BinOp.add 9 (Go.Operand.tmp 149) (Go.Operand.const (Go.Value.string { data := #[32] })) 9, type := 9, pos := "law.go:60", after := #[{ on := 8, ground := Go.Ground.data }], guard := none }) (v := ?_) rfl (by kernel_rfl) (by kernel_rfl) (by kernel_rfl) (fun _ _ _ h => h) (Or.inl ⟨by rfl, ?_⟩) (by assumption) ?_
              (rotate_left; focus (intro wS hSw; clear hSw; go_simp; (try rw [if_neg (by omega)]); try with_reducible rfl))
              (try simp only [Act.put, List.setIfInBounds_toArray, List.set_cons_zero, List.set_cons_succ])
              refine wpAnyH_ready (rs := [13]) (by kernel_rfl) (by simp) ?_
              refine AllReadyH.cons (o := { dst := some 154, op := Go.Op.call { callee := Go.Callee.value (Go.Operand.func 6), args := #[Go.Operand.tmp 153], argTypes := #[3] }, type := 9, pos := "law.go:60", after := #[{ on := 12, ground := Go.Ground.data }, { on := 7, ground := Go.Ground.chain }], guard := none }) rfl (fun K hK => ?_) AllReadyH.nil
              go_simp
              refine (digits_any dl (by omega) (by omega) _).mono ?_
              rintro e x3 ⟨rfl, hb3⟩
              have HC3 := Lib.hid (below_step HC2.out (Nat.le_refl _) hb3)
              have hP3 : Blk w.heap.size [.string nm, .int .i64 sz, .int .i64 ch, .slice ia il ic, .string lb, .slice ta tags.length tc, .slice ka kl kc, .slice da dl dc] x3 ∧ Blk (w.heap.size + 1) [.bool true, .int .i64 bk, .int .i64 v0, .int .i64 v1, .int .i64 v2, .int .i64 v3, .int .i64 v4, .int .i64 v5, .int .i64 v6, .int .i64 v7, .int .i64 v8, .int .i64 v9, .int .i64 v10, .int .i64 v11, .int .i64 v12, .int .i64 v13, .int .i64 v14, .int .i64 v15, .slice ca cl cc, .int .i64 bl, .int .i64 de, .int .i64 bu, .int .i64 us] x3 := ⟨hP2.1.keep hb3, hP2.2.keep hb3⟩
              (try go_wp2_with fail)
              refine hK.out _ _ (by (first | exact hP0 | exact hP1 | exact hP2 | exact hP3 | exact hP4 | exact hP5)) (fun hHeld => ?_)
              clear hK K
              (try simp only [Act.put, List.setIfInBounds_toArray, List.set_cons_zero, List.set_cons_succ])
              refine wpAnyH_take (i := 14) (oi := { dst := some 155, op := Go.Op.binOp Go.BinOp.add 9 (Go.Operand.tmp 150) (Go.Operand.tmp 154) 9, type := 9, pos := "law.go:60", after := #[{ on := 9, ground := Go.Ground.data }, { on := 13, ground := Go.Ground.data }], guard := none }) (v := ?_) rfl (by kernel_rfl) (by kernel_rfl) (by kernel_rfl) (fun _ _ _ h => h) (Or.inl ⟨by rfl, ?_⟩) (by assumption) ?_
              (rotate_left; focus (intro wS hSw; clear hSw; go_simp; (try rw [if_neg (by omega)]); try with_reducible rfl))
              (try simp only [Act.put, List.setIfInBounds_toArray, List.set_cons_zero, List.set_cons_succ])
              refine wpAnyH_take (i := 15) (oi := { dst := some 156, op := Go.Op.binOp Go.BinOp.eql 9 (Go.Operand.tmp 142) (Go.Operand.tmp 155) 9, type := 4, pos := "law.go:60", after := #[{ on := 1, ground := Go.Ground.data }, { on := 14, ground := Go.Ground.data }], guard := none }) (v := ?_) rfl (by kernel_rfl) (by kernel_rfl) (by kernel_rfl) (fun _ _ _ h => h) (Or.inl ⟨by rfl, ?_⟩) (by assumption) ?_
              (rotate_left; focus (intro wS hSw; clear hSw; go_simp; (try rw [if_neg (by omega)]); try with_reducible rfl))
              (try simp only [Act.put, List.setIfInBounds_toArray, List.set_cons_zero, List.set_cons_succ])
              refine wpAnyH_take (i := 16) (oi := { dst := some 157, op := Go.Op.move (Go.Operand.tmp 156), type := 4, pos := "law.go:60", after := #[{ on := 15, ground := Go.Ground.data }, { on := 13, ground := Go.Ground.chain }], guard := none }) (v := ?_) rfl (by kernel_rfl) (by kernel_rfl) (by kernel_rfl) (fun _ _ _ h => h) (Or.inl ⟨by rfl, ?_⟩) (by assumption) ?_
              (rotate_left; focus (intro wS hSw; clear hSw; go_simp; (try rw [if_neg (by omega)]); try with_reducible rfl))
              (try simp only [Act.put, List.setIfInBounds_toArray, List.set_cons_zero, List.set_cons_succ])
              refine wpAnyH_take (i := 17) (oi := { dst := some 158, op := Go.Op.load 37 (Go.Operand.tmp 3), type := 37, pos := "law.go:60", after := #[{ on := 16, ground := Go.Ground.guard }], guard := some (16, true) }) (v := ?_) rfl (by kernel_rfl) (by kernel_rfl) (by kernel_rfl) (fun _ _ _ h => h) (Or.inl ⟨by rfl, ?_⟩) (by assumption) ?_
              (rotate_left; focus (intro wS hSw; have l37 := load37 hSw.2; refine (exec_load l37 rfl rfl).trans ?_; with_reducible rfl))
              (try simp only [Act.put, List.setIfInBounds_toArray, List.set_cons_zero, List.set_cons_succ])
              refine wpAnyH_take (i := 19) (oi := { dst := some 160, op := Go.Op.move (Go.Operand.tmp 7), type := 9, pos := "law.go:60", after := #[{ on := 16, ground := Go.Ground.guard }], guard := some (16, true) }) (v := ?_) rfl (by kernel_rfl) (by kernel_rfl) (by kernel_rfl) (fun _ _ _ h => h) (Or.inl ⟨by rfl, ?_⟩) (by assumption) ?_
              (rotate_left; focus (intro wS hSw; clear hSw; go_simp; (try rw [if_neg (by omega)]); try with_reducible rfl))
              (try simp only [Act.put, List.setIfInBounds_toArray, List.set_cons_zero, List.set_cons_succ])
              refine wpAnyH_ready (rs := [18]) (by kernel_rfl) (by simp) ?_
              refine AllReadyH.cons (o := { dst := some 159, op := Go.Op.call { callee := Go.Callee.value (Go.Operand.func 9), args := #[Go.Operand.tmp 158], argTypes := #[37] }, type := 9, pos := "law.go:60", after := #[{ on := 17, ground := Go.Ground.data }, { on := 16, ground := Go.Ground.chain }, { on := 16, ground := Go.Ground.guard }], guard := some (16, true) }) rfl (fun K hK => ?_) AllReadyH.nil
              go_simp
              refine (status_any true bk bl de bu us v0 v1 v2 v3 v4 v5 v6 v7 v8 v9 v10 v11 v12 v13 v14 v15 ca cl cc _ HVA.out hbk hbl hde hbu hus hcl).mono ?_
              rintro e x4 ⟨rfl, hb4⟩
              rw [← HST.out]
              have HC4 := Lib.hid (below_step HC3.out (Nat.le_refl _) hb4)
              have hP4 : Blk w.heap.size [.string nm, .int .i64 sz, .int .i64 ch, .slice ia il ic, .string lb, .slice ta tags.length tc, .slice ka kl kc, .slice da dl dc] x4 ∧ Blk (w.heap.size + 1) [.bool true, .int .i64 bk, .int .i64 v0, .int .i64 v1, .int .i64 v2, .int .i64 v3, .int .i64 v4, .int .i64 v5, .int .i64 v6, .int .i64 v7, .int .i64 v8, .int .i64 v9, .int .i64 v10, .int .i64 v11, .int .i64 v12, .int .i64 v13, .int .i64 v14, .int .i64 v15, .slice ca cl cc, .int .i64 bl, .int .i64 de, .int .i64 bu, .int .i64 us] x4 := ⟨hP3.1.keep hb4, hP3.2.keep hb4⟩
              (try go_wp2_with fail)
              refine hK.out _ _ (by (first | exact hP0 | exact hP1 | exact hP2 | exact hP3 | exact hP4 | exact hP5)) (fun hHeld => ?_)
              clear hK K
              (try simp only [Act.put, List.setIfInBounds_toArray, List.set_cons_zero, List.set_cons_succ])
              refine wpAnyH_take (i := 20) (oi := { dst := some 161, op := Go.Op.binOp Go.BinOp.eql 9 (Go.Operand.tmp 159) (Go.Operand.tmp 160) 9, type := 4, pos := "law.go:60", after := #[{ on := 18, ground := Go.Ground.data }, { on := 19, ground := Go.Ground.data }, { on := 16, ground := Go.Ground.guard }], guard := some (16, true) }) (v := ?_) rfl (by kernel_rfl) (by kernel_rfl) (by kernel_rfl) (fun _ _ _ h => h) (Or.inl ⟨by rfl, ?_⟩) (by assumption) ?_
              (rotate_left; focus (intro wS hSw; clear hSw; go_simp; (try rw [if_neg (by omega)]); try with_reducible rfl))
              (try simp only [Act.put, List.setIfInBounds_toArray, List.set_cons_zero, List.set_cons_succ])
              refine wpAnyH_take (i := 21) (oi := { dst := some 162, op := Go.Op.pick (Go.Operand.tmp 157) (Go.Operand.tmp 161) (Go.Operand.const (Go.Value.bool false)), type := 4, pos := "law.go:60", after := #[{ on := 16, ground := Go.Ground.data }, { on := 20, ground := Go.Ground.data }], guard := none }) (v := ?_) rfl (by kernel_rfl) (by kernel_rfl) (by kernel_rfl) (fun _ _ _ h => h) (Or.inl ⟨by rfl, ?_⟩) (by assumption) ?_
              (rotate_left; focus (intro wS hSw; clear hSw; go_simp; (try rw [if_neg (by omega)]); try with_reducible rfl))
              (try simp only [Act.put, List.setIfInBounds_toArray, List.set_cons_zero, List.set_cons_succ])
              refine wpAnyH_take (i := 22) (oi := { dst := some 163, op := Go.Op.move (Go.Operand.tmp 162), type := 4, pos := "law.go:60", after := #[{ on := 21, ground := Go.Ground.data }, { on := 18, ground := Go.Ground.chain }], guard := none }) (v := ?_) rfl (by kernel_rfl) (by kernel_rfl) (by kernel_rfl) (fun _ _ _ h => h) (Or.inl ⟨by rfl, ?_⟩) (by assumption) ?_
              (rotate_left; focus (intro wS hSw; clear hSw; go_simp; (try rw [if_neg (by omega)]); try with_reducible rfl))
              (try simp only [Act.put, List.setIfInBounds_toArray, List.set_cons_zero, List.set_cons_succ])
              refine wpAnyH_ready (rs := [23]) (by kernel_rfl) (by simp) ?_
              refine AllReadyH.cons (o := { dst := some 164, op := Go.Op.call { callee := Go.Callee.value (Go.Operand.func 7), args := #[], argTypes := #[] }, type := 4, pos := "law.go:60", after := #[{ on := 22, ground := Go.Ground.chain }, { on := 22, ground := Go.Ground.guard }], guard := some (22, true) }) rfl (fun K hK => ?_) AllReadyH.nil
              go_simp
              refine (awake_any _).mono ?_
              rintro e x5 ⟨rfl, hb5⟩
              have HC5 := Lib.hid (below_step HC4.out (Nat.le_refl _) hb5)
              have hP5 : Blk w.heap.size [.string nm, .int .i64 sz, .int .i64 ch, .slice ia il ic, .string lb, .slice ta tags.length tc, .slice ka kl kc, .slice da dl dc] x5 ∧ Blk (w.heap.size + 1) [.bool true, .int .i64 bk, .int .i64 v0, .int .i64 v1, .int .i64 v2, .int .i64 v3, .int .i64 v4, .int .i64 v5, .int .i64 v6, .int .i64 v7, .int .i64 v8, .int .i64 v9, .int .i64 v10, .int .i64 v11, .int .i64 v12, .int .i64 v13, .int .i64 v14, .int .i64 v15, .slice ca cl cc, .int .i64 bl, .int .i64 de, .int .i64 bu, .int .i64 us] x5 := ⟨hP4.1.keep hb5, hP4.2.keep hb5⟩
              (try go_wp2_with fail)
              refine hK.out _ _ (by (first | exact hP0 | exact hP1 | exact hP2 | exact hP3 | exact hP4 | exact hP5)) (fun hHeld => ?_)
              clear hK K
              (try simp only [Act.put, List.setIfInBounds_toArray, List.set_cons_zero, List.set_cons_succ])
              refine wpAnyH_take (i := 24) (oi := { dst := some 165, op := Go.Op.pick (Go.Operand.tmp 163) (Go.Operand.tmp 164) (Go.Operand.const (Go.Value.bool false)), type := 4, pos := "law.go:60", after := #[{ on := 22, ground := Go.Ground.data }, { on := 23, ground := Go.Ground.data }], guard := none }) (v := ?_) rfl (by kernel_rfl) (by kernel_rfl) (by kernel_rfl) (fun _ _ _ h => h) (Or.inl ⟨by rfl, ?_⟩) (by assumption) ?_
              (rotate_left; focus (intro wS hSw; clear hSw; go_simp; (try rw [if_neg (by omega)]); try with_reducible rfl))
              (try simp only [Act.put, List.setIfInBounds_toArray, List.set_cons_zero, List.set_cons_succ])
              refine wpAnyH_take (i := 25) (oi := { dst := some 4, op := Go.Op.assign (Go.Operand.tmp 165), type := 4, pos := "law.go:60", after := #[{ on := 24, ground := Go.Ground.data }, { on := 23, ground := Go.Ground.chain }, { on := 0, ground := Go.Ground.phase }, { on := 1, ground := Go.Ground.phase }, { on := 2, ground := Go.Ground.phase }, { on := 3, ground := Go.Ground.phase }, { on := 4, ground := Go.Ground.phase }, { on := 5, ground := Go.Ground.phase }, { on := 6, ground := Go.Ground.phase }, { on := 7, ground := Go.Ground.phase }, { on := 8, ground := Go.Ground.phase }, { on := 9, ground := Go.Ground.phase }, { on := 10, ground := Go.Ground.phase }, { on := 11, ground := Go.Ground.phase }, { on := 12, ground := Go.Ground.phase }, { on := 13, ground := Go.Ground.phase }, { on := 14, ground := Go.Ground.phase }, { on := 15, ground := Go.Ground.phase }, { on := 16, ground := Go.Ground.phase }, { on := 17, ground := Go.Ground.phase }, { on := 18, ground := Go.Ground.phase }, { on := 19, ground := Go.Ground.phase }, { on := 20, ground := Go.Ground.phase }, { on := 21, ground := Go.Ground.phase }, { on := 22, ground := Go.Ground.phase }, { on := 23, ground := Go.Ground.phase }, { on := 24, ground := Go.Ground.phase }], guard := none }) (v := ?_) rfl (by kernel_rfl) (by kernel_rfl) (by kernel_rfl) (fun _ _ _ h => h) (Or.inl ⟨by rfl, ?_⟩) (by assumption) ?_
              (rotate_left; focus (intro wS hSw; clear hSw; go_simp; (try rw [if_neg (by omega)]); try with_reducible rfl))
              (try simp only [Act.put, List.setIfInBounds_toArray, List.set_cons_zero, List.set_cons_succ])
              refine wpAnyH_done (by kernel_rfl) ?_ _
              go_wp2
              (try rw [Exit.noGoto_ret])
              go_ret
              exact ⟨rfl, HC5.out⟩


end Go.Proofs.Ytmgmokbephkpbaa

