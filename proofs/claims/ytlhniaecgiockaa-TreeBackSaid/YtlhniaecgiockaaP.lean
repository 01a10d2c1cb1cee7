/-
  The walk of TreeBack.
-/
import Derived.Test.YtlhniaecgiockaaL
import Derived.ArgAppend
set_option linter.unusedVariables false
set_option linter.unusedSimpArgs false
namespace Go.Proofs.Ytlhniaecgiockaa
open Go.RowKit
theorem wp_append_grows {P : Program} (w : World) {o : Oper} {a : Act} {K : Act → World → Prop} {Q : Exit → Act → World → Prop} (s x : Operand) (t : TypeId) (hop : o.op = Op.call { callee := Callee.builtin Builtin.append, args := #[s, x], argTypes := #[t, t] })
    (e : TypeId) (i : TypeInfo) (z : Value) (size bytes : Nat) (h1 : P.underlying t = some (.slice e)) (h2 : P.info? e = some i) (h3 : i.zero = some z) (h4 : i.size = size) (h5 : i.bytes = bytes) (h6 : z.cells.size = size) (h7 : 0 < size)
    (ao : Option Addr) (n cap : Nat) (olds : List Value) (hs : a.eval s = .slice ao n cap) (hnone : ao = none → n = 0 ∧ cap = 0) (hlo : olds.length = n * size) (holds : ∀ b, ao = some b → ∀ j u, olds[j]? = some u → w.cell? (b.add j) = some u)
    (ad : Addr) (m c : Nat) (news : List Value) (hx : a.eval x = .slice (some ad) m c) (hn : news.length = m * size) (hc : ∀ j u, news[j]? = some u → w.cell? (ad.add j) = some u) (h1c : ∀ u ∈ news, u.oneCell' = true)
    (hfull : cap < n + m) (b1 : n + m ≤ maxLen) (b2 : (n + m) * bytes ≤ 140737488355328)
    (hK : ∀ v' w', w'.ownsRow w.heap.size e size v' (n + m) (olds ++ news) → w.grownBy w' none → K (a.put o.dst v') w') : o.wp P a w K Q := by
  cases ao with
  | some b =>
    obtain ⟨v', w', hrun, r1, r2⟩ := run_append_arg_grows (P := P) w t o.type e i z size bytes h1 h2 h3 h4 h5 h6 h7 b n cap olds hlo (holds b rfl) ad m c news hn hc hfull b1 b2
    unfold Oper.wp
    simp [execOp, hop, resolve, invoke, builtin, hs, hx, hrun, Result.andThen]
    exact hK v' w' r1 r2
  | none =>
    obtain ⟨rfl, rfl⟩ := hnone rfl
    obtain rfl : olds = [] := List.eq_nil_of_length_eq_zero (by simpa using hlo)
    obtain ⟨v', w', hrun, r1, r2, _⟩ := run_append_own (P := P) w w.heap.size t o.type e i z size bytes h1 h2 h3 h4 h5 h6 h7 (.slice none 0 0) 0 [] (World.ownsRow_nil w _ e size) ad m c news hn hc h1c b1 b2 (Nat.le_refl _)
    unfold Oper.wp
    simp [execOp, hop, resolve, invoke, builtin, hs, hx, hrun, Result.andThen]
    exact hK v' w' r1 r2
theorem flat_len (p : List ByteArray) : (p.flatMap strC).length = p.length * 1 := by
  induction p with
  | nil => rfl
  | cons x p ih => rw [List.flatMap_cons, List.length_append, ih, List.length_cons]; simp [strC]; omega
theorem sl_flat {w : World} {a : Option Addr} {p : List ByteArray} (h : Sl strC 1 w a p) : ∀ b, a = some b → ∀ j u, (p.flatMap strC)[j]? = some u → w.cell? (b.add j) = some u := by
  intro b hb j u hu
  have hj : j < p.length := by have := (List.getElem?_eq_some_iff.1 hu).1; rw [flat_len] at this; omega
  obtain ⟨b1, o1, e, _, hc⟩ := slT_str h j hj
  obtain rfl : b = ⟨b1, o1, none⟩ := by rw [hb] at e; simpa using e
  rw [Addr.add_lit, hc]
  have h2 := flat_get (enc := strC) (size := 1) (fun _ => rfl) p j hj 0 (.string p[j]) rfl
  rw [Nat.mul_one, Nat.add_zero, hu] at h2
  rw [h2]
theorem one_str (x : ByteArray) : ∀ u ∈ [Value.string x], u.oneCell' = true := by
  intro u hu
  rw [List.mem_singleton.1 hu]; rfl
theorem small_snoc {p : List ByteArray} (h : ∀ x ∈ p, x.size ≤ 64) : ∀ x ∈ p ++ [(⟨#[120]⟩ : ByteArray)], x.size ≤ 64 := by
  intro x hx
  rcases List.mem_append.1 hx with hx | hx
  · exact h x hx
  · rw [List.mem_singleton.1 hx]; decide
theorem back_long (l : List ByteArray) (a : Option Addr) (c : Nat) (i : Nat) (w : World) (ha : Sl strC 1 w a l) (hl : l.length ≤ 9223372036854775807) (h : fewB l = false ∨ l.length = 0) :
    Calls Try.prog 5 #[.slice a l.length c, .int .u8 i] w fun e w' => e = .returned (.bool true) ∧ Below w.heap.size w w' := by
  have T1 := Lib.hid (few_any l a c w ha hl)
  have H := Lib.hid h
  clear ha h
  cases hf : fewB l with
  | false =>
    rw [hf] at T1
    clear hf
    go_enter Try.func5, Try.ntmps5
    go_wp2_with fail
    refine T1.out.mono ?_
    rintro e w1 ⟨rfl, rfl⟩
    go_wp2_with fail
    refine (awake_any _).mono ?_
    rintro e w1 ⟨rfl, hb⟩
    go_wp2
    go_ret
    exact ⟨rfl, hb⟩
  | true =>
    rw [hf] at T1
    have d0 : l.length = 0 := by rcases H.out with h | h; · rw [h] at hf; cases hf
                                 · exact h
    have d1 : ((l.length : Int) == 0) = true := by simp; exact List.eq_nil_of_length_eq_zero d0
    have D0 := Lib.hid d0
    clear hf d0
    go_enter Try.func5, Try.ntmps5
    go_wp2_with fail
    refine T1.out.mono ?_
    rintro e w1 ⟨rfl, rfl⟩
    go_wp2_with fail
    refine (awake_any _).mono ?_
    rintro e w1 ⟨rfl, hb⟩
    go_wp2
    go_ret
    exact ⟨rfl, hb⟩
set_option maxHeartbeats 8000000 in
theorem back_walk (l : List ByteArray) (a : Option Addr) (c : Nat) (i : Nat) (w : World) (ha : Sl strC 1 w a l) (hi : i < 256) (hf : fewB l = true) (hl0 : 0 < l.length) :
    Calls Try.prog 5 #[.slice a l.length c, .int .u8 i] w fun e w' => e = .returned (.bool true) ∧ Below w.heap.size w w' := by
  obtain ⟨i0, hi0, hz0, hz1, hz2⟩ := info_parts infoStr
  obtain ⟨hl, hls⟩ := few_yes hf
  have T1 := few_any l a c w ha (by omega)
  rw [hf] at T1
  have HT1 := Lib.hid T1
  have hk : i % l.length < l.length := Nat.mod_lt _ hl0
  have hmod : Int.tmod (i : Int) (l.length : Int) = ((i % l.length : Nat) : Int) := by rw [Int.tmod_eq_emod_of_nonneg (by omega)]; exact (Int.natCast_emod i l.length).symm
  have hmod2 : (i : Int) % (l.length : Int) = ((i % l.length : Nat) : Int) := (Int.natCast_emod i l.length).symm
  obtain ⟨k, hke⟩ : ∃ k, k = i % l.length := ⟨_, rfl⟩
  rw [← hke] at hk hmod hmod2
  have hu8 : (i : Int) % 256 = i := by omega
  have TP := Lib.hid (path_any l a c k w hk hls (by omega) ha)
  have TR : Hid (∀ W, Below w.heap.size w W → Calls Try.prog 10 #[.slice a l.length c] W fun e w' => e = .returned (.string (rootL l)) ∧ Below W.heap.size W w') := Lib.hid (fun W h => root_any l a c W hls (by omega) (ha.keep h))
  obtain ⟨b, o, rfl, hb0, hc0⟩ := slT_str ha k hk
  have hxs := hls _ (List.getElem_mem hk)
  have TC : Hid (∀ (p : List ByteArray) (A : Option Addr) (m : Nat) W, p.length ≤ 100 → (∀ x ∈ p, x.size ≤ 64) → Sl strC 1 W A p → Calls Try.prog 15 #[.string (rootL l), .int .i64 (l.length : Int), .int .i64 (k : Int), .string l[k], .slice A p.length m] W fun e w' => e = .returned (.bool (checkV (rootL l) l.length k l[k] p)) ∧ Below W.heap.size W w') := Lib.hid (fun p A m W hp hps h => check_any (rootL l) l.length k l[k] p A m W (by omega) (fun x hx => by have := hps x hx; omega) (by omega) h)
  have HC1 : Hid (checkV (rootL l) l.length k l[k] (pathL l k) = true) := Lib.hid (checkV_path l k l[k] (List.getElem?_eq_getElem hk) (by omega))
  have HC2 : Hid (∀ p : List ByteArray, p.length ≠ (pathL l k).length → checkV (rootL l) l.length k l[k] p = false) := Lib.hid (fun p hp => checkV_other _ _ _ _ _ (by rw [← path_len]; exact hp))
  have hps := path_sizes l.length l k (Nat.le_refl _)
  have hpn : (pathL l k).length ≤ 24 := by rw [path_len]; have := sides_le l.length l.length k (Nat.le_refl _); omega
  have HKC : Hid (∀ W, Below w.heap.size w W → W.cell? ⟨b, o + k, none⟩ = some (.string l[k])) := Lib.hid (fun W h => (h.cell (p := ⟨b, o + k, none⟩) hb0).trans hc0)
  obtain ⟨X, hX⟩ : ∃ X, X = l[k] := ⟨_, rfl⟩
  obtain ⟨R, hR⟩ : ∃ R, R = rootL l := ⟨_, rfl⟩
  obtain ⟨p, hp⟩ : ∃ p, p = pathL l k := ⟨_, rfl⟩
  rw [← hX] at TC HC1 HC2 HKC
  rw [← hR] at TC HC1 HC2 TR
  rw [← hp] at HC1 HC2 hps hpn
  have HPE := Lib.hid hp; have HPS : Hid (∀ x ∈ p, x.size ≤ 64) := Lib.hid (fun x hx => by have := hps x hx; omega)
  have e1 : ((l.length : Int) == 0) = false := by simp; intro h; rw [h] at hl0; simp at hl0
  have e2 : ¬ (l.length : Int) = 0 := by omega
  have e3 : (0 : Int) ≤ (k : Int) := by omega
  have e4 : (k : Int) < (l.length : Int) := by omega
  clear T1 ha hf hls hX hR hp hps hke hc0
  go_enter Try.func5, Try.ntmps5
  go_wp2_with fail
  refine HT1.out.mono ?_
  rintro e w1 ⟨rfl, rfl⟩
  go_wp2_with fail
  refine TP.out.mono ?_
  rintro e w1 ⟨v1, rfl, ho, hb⟩
  rw [← HPE.out] at ho
  have hno : ∀ n c, v1 = .slice none n c → n = 0 ∧ c = 0 := fun n c e => by
    rcases ho.2 with ⟨h1, _⟩ | ⟨g, cap, cur, h1, _⟩
    · rw [e] at h1; cases h1; exact ⟨rfl, rfl⟩
    · rw [e] at h1; cases h1
  obtain ⟨a1, c1, rfl, hcc, hs1⟩ := own_sl (enc := strC) (size := 1) (fun _ => rfl) (by decide) ho
  have HP := Lib.hid hs1; have HB1 := Lib.hid hb
  have HNO : Hid (a1 = none → p.length = 0) := Lib.hid (fun e => by subst e; exact (hno _ _ rfl).1)
  clear ho hs1 hb hno
  go_wp2_with fail
  refine (TR.out _ HB1.out).mono ?_
  rintro e w2 ⟨rfl, hb⟩
  have HB2 := Lib.hid (below_step HB1.out (Nat.le_refl _) hb); have HP2 := Lib.hid (HP.out.keep hb)
  clear hb
  go_wp2_with fail
  have f1 : (p.length : Int) ≤ (c1 : Int) := by omega
  have f2 : (0 : Int) ≤ (p.length : Int) := by omega
  have hP0 : Below w.heap.size w w2.drew := HB2.out.drew
  have hQ0 : Sl strC 1 w2.drew a1 p := HP2.out
  refine wp_region_held_drew (S := fun w' => Below w.heap.size w w') (by kernel_rfl) (by (first | exact hP0 | exact hP1 | exact hP2 | exact hP3 | exact hP4)) (fun hHeld => ?_)
  refine wpAnyH_take (i := 0) (oi := { dst := some 31, op := Go.Op.move (Go.Operand.tmp 7), type := 25, pos := "law.go:68", after := #[], guard := none }) (v := ?_) rfl (by kernel_rfl) (by kernel_rfl) (by kernel_rfl) (fun _ _ _ h => h) (Or.inl ⟨by rfl, ?_⟩) (by assumption) ?_
  (rotate_left; focus (intro wS hSw; have s1 := HKC.out _ hSw; clear hSw; go_simp; (try rw [if_neg (by omega)]); try with_reducible rfl))
  (try simp only [Act.put, List.setIfInBounds_toArray, List.set_cons_zero, List.set_cons_succ])
  refine wpAnyH_take (i := 1) (oi := { dst := some 32, op := Go.Op.binOp Go.BinOp.neq 25 (Go.Operand.tmp 31) (Go.Operand.const (Go.Value.int Go.IntKind.i64 0)) 25, type := 4, pos := "law.go:68", after := #[{ on := 0, ground := Go.Ground.data }], guard := none }) (v := ?_) rfl (by kernel_rfl) (by kernel_rfl) (by kernel_rfl) (fun _ _ _ h => h) (Or.inl ⟨by rfl, ?_⟩) (by assumption) ?_
  (rotate_left; focus (intro wS hSw; have s1 := HKC.out _ hSw; clear hSw; go_simp; (try rw [if_neg (by omega)]); try with_reducible rfl))
  (try simp only [Act.put, List.setIfInBounds_toArray, List.set_cons_zero, List.set_cons_succ])
  refine wpAnyH_take (i := 2) (oi := { dst := some 33, op := Go.Op.move (Go.Operand.tmp 32), type := 4, pos := "law.go:68", after := #[{ on := 1, ground := Go.Ground.data }], guard := none }) (v := ?_) rfl (by kernel_rfl) (by kernel_rfl) (by kernel_rfl) (fun _ _ _ h => h) (Or.inl ⟨by rfl, ?_⟩) (by assumption) ?_
  (rotate_left; focus (intro wS hSw; have s1 := HKC.out _ hSw; clear hSw; go_simp; (try rw [if_neg (by omega)]); try with_reducible rfl))
  (try simp only [Act.put, List.setIfInBounds_toArray, List.set_cons_zero, List.set_cons_succ])
  refine wpAnyH_take (i := 3) (oi := { dst := some 34, op := Go.Op.move (Go.Operand.tmp 8), type := 9, pos := "law.go:68", after := #[{ on := 2, ground := Go.Ground.guard }], guard := some (2, false) }) (v := ?_) rfl (by kernel_rfl) (by kernel_rfl) (by kernel_rfl) (fun _ _ _ h => h) (Or.inl ⟨by rfl, ?_⟩) (by assumption) ?_
  (rotate_left; focus (intro wS hSw; have s1 := HKC.out _ hSw; clear hSw; go_simp; (try rw [if_neg (by omega)]); try with_reducible rfl))
  (try simp only [Act.put, List.setIfInBounds_toArray, List.set_cons_zero, List.set_cons_succ])
  refine wpAnyH_take (i := 4) (oi := { dst := some 35, op := Go.Op.move (Go.Operand.tmp 0), type := 22, pos := "law.go:68", after := #[{ on := 2, ground := Go.Ground.guard }], guard := some (2, false) }) (v := ?_) rfl (by kernel_rfl) (by kernel_rfl) (by kernel_rfl) (fun _ _ _ h => h) (Or.inl ⟨by rfl, ?_⟩) (by assumption) ?_
  (rotate_left; focus (intro wS hSw; have s1 := HKC.out _ hSw; clear hSw; go_simp; (try rw [if_neg (by omega)]); try with_reducible rfl))
  (try simp only [Act.put, List.setIfInBounds_toArray, List.set_cons_zero, List.set_cons_succ])
  refine wpAnyH_take (i := 5) (oi := { dst := some 36, op := Go.Op.call { callee := Go.Callee.builtin Go.Builtin.len, args := #[Go.Operand.tmp 35], argTypes := #[22] }, type := 3, pos := "law.go:68", after := #[{ on := 4, ground := Go.Ground.data }, { on := 2, ground := Go.Ground.guard }], guard := some (2, false) }) (v := ?_) rfl (by kernel_rfl) (by kernel_rfl) (by kernel_rfl) (fun _ _ _ h => h) (Or.inl ⟨by rfl, ?_⟩) (by assumption) ?_
  (rotate_left; focus (intro wS hSw; have s1 := HKC.out _ hSw; clear hSw; go_simp; (try rw [if_neg (by omega)]); try with_reducible rfl))
  (try simp only [Act.put, List.setIfInBounds_toArray, List.set_cons_zero, List.set_cons_succ])
  refine wpAnyH_take (i := 6) (oi := { dst := some 37, op := Go.Op.move (Go.Operand.tmp 5), type := 3, pos := "law.go:68", after := #[{ on := 2, ground := Go.Ground.guard }], guard := some (2, false) }) (v := ?_) rfl (by kernel_rfl) (by kernel_rfl) (by kernel_rfl) (fun _ _ _ h => h) (Or.inl ⟨by rfl, ?_⟩) (by assumption) ?_
  (rotate_left; focus (intro wS hSw; have s1 := HKC.out _ hSw; clear hSw; go_simp; (try rw [if_neg (by omega)]); try with_reducible rfl))
  (try simp only [Act.put, List.setIfInBounds_toArray, List.set_cons_zero, List.set_cons_succ])
  refine wpAnyH_take (i := 7) (oi := { dst := some 38, op := Go.Op.move (Go.Operand.tmp 0), type := 22, pos := "law.go:68", after := #[{ on := 2, ground := Go.Ground.guard }], guard := some (2, false) }) (v := ?_) rfl (by kernel_rfl) (by kernel_rfl) (by kernel_rfl) (fun _ _ _ h => h) (Or.inl ⟨by rfl, ?_⟩) (by assumption) ?_
  (rotate_left; focus (intro wS hSw; have s1 := HKC.out _ hSw; clear hSw; go_simp; (try rw [if_neg (by omega)]); try with_reducible rfl))
  (try simp only [Act.put, List.setIfInBounds_toArray, List.set_cons_zero, List.set_cons_succ])
  refine wpAnyH_take (i := 8) (oi := { dst := some 39, op := Go.Op.move (Go.Operand.tmp 5), type := 3, pos := "law.go:68", after := #[{ on := 2, ground := Go.Ground.guard }], guard := some (2, false) }) (v := ?_) rfl (by kernel_rfl) (by kernel_rfl) (by kernel_rfl) (fun _ _ _ h => h) (Or.inl ⟨by rfl, ?_⟩) (by assumption) ?_
  (rotate_left; focus (intro wS hSw; have s1 := HKC.out _ hSw; clear hSw; go_simp; (try rw [if_neg (by omega)]); try with_reducible rfl))
  (try simp only [Act.put, List.setIfInBounds_toArray, List.set_cons_zero, List.set_cons_succ])
  refine wpAnyH_take (i := 9) (oi := { dst := some 40, op := Go.Op.indexAddr 22 (Go.Operand.tmp 38) (Go.Operand.tmp 39), type := 0, pos := "law.go:68", after := #[{ on := 7, ground := Go.Ground.data }, { on := 8, ground := Go.Ground.data }, { on := 2, ground := Go.Ground.guard }], guard := some (2, false) }) (v := ?_) rfl (by kernel_rfl) (by kernel_rfl) (by kernel_rfl) (fun _ _ _ h => h) (Or.inl ⟨by rfl, ?_⟩) (by assumption) ?_
  (rotate_left; focus (intro wS hSw; have s1 := HKC.out _ hSw; clear hSw; go_simp; (try rw [if_neg (by omega)]); try with_reducible rfl))
  (try simp only [Act.put, List.setIfInBounds_toArray, List.set_cons_zero, List.set_cons_succ])
  refine wpAnyH_take (i := 10) (oi := { dst := some 41, op := Go.Op.load 9 (Go.Operand.tmp 40), type := 9, pos := "law.go:68", after := #[{ on := 9, ground := Go.Ground.data }, { on := 2, ground := Go.Ground.guard }], guard := some (2, false) }) (v := ?_) rfl (by kernel_rfl) (by kernel_rfl) (by kernel_rfl) (fun _ _ _ h => h) (Or.inl ⟨by rfl, ?_⟩) (by assumption) ?_
  (rotate_left; focus (intro wS hSw; have s1 := HKC.out _ hSw; clear hSw; go_simp; (try rw [if_neg (by omega)]); try with_reducible rfl))
  (try simp only [Act.put, List.setIfInBounds_toArray, List.set_cons_zero, List.set_cons_succ])
  refine wpAnyH_take (i := 11) (oi := { dst := some 42, op := Go.Op.move (Go.Operand.tmp 6), type := 22, pos := "law.go:68", after := #[{ on := 2, ground := Go.Ground.guard }], guard := some (2, false) }) (v := ?_) rfl (by kernel_rfl) (by kernel_rfl) (by kernel_rfl) (fun _ _ _ h => h) (Or.inl ⟨by rfl, ?_⟩) (by assumption) ?_
  (rotate_left; focus (intro wS hSw; have s1 := HKC.out _ hSw; clear hSw; go_simp; (try rw [if_neg (by omega)]); try with_reducible rfl))
  (try simp only [Act.put, List.setIfInBounds_toArray, List.set_cons_zero, List.set_cons_succ])
  refine wpAnyH_ready (rs := [12]) (by kernel_rfl) (by simp) ?_
  refine AllReadyH.cons (o := { dst := some 43, op := Go.Op.call { callee := Go.Callee.value (Go.Operand.func 15), args := #[Go.Operand.tmp 34, Go.Operand.tmp 36, Go.Operand.tmp 37, Go.Operand.tmp 41, Go.Operand.tmp 42], argTypes := #[9, 3, 3, 9, 22] }, type := 4, pos := "law.go:68", after := #[{ on := 3, ground := Go.Ground.data }, { on := 5, ground := Go.Ground.data }, { on := 6, ground := Go.Ground.data }, { on := 10, ground := Go.Ground.data }, { on := 11, ground := Go.Ground.data }, { on := 2, ground := Go.Ground.chain }, { on := 2, ground := Go.Ground.guard }], guard := some (2, false) }) rfl (fun K hK => ?_) AllReadyH.nil
  go_simp
  have T2 := TC.out p a1 c1 _ (by omega) HPS.out hQ0
  rw [HC1.out] at T2
  refine T2.mono ?_
  clear T2
  rintro e w3 ⟨rfl, hb3⟩
  have hP1 : Below w.heap.size w w3 := below_step hP0 (Nat.le_refl _) hb3
  have hQ1 := hQ0.keep hb3
  have hP2 : Below w.heap.size w (w3.alloc (.cells #[.string ⟨#[120]⟩] 9)) := hP1.alloc hP1.size _
  have hQ2 := hQ1.keep (below_new w3 (.cells #[.string ⟨#[120]⟩] 9))
  clear hb3
  (try go_wp2_with fail)
  refine hK.out _ _ (by (first | exact hP0 | exact hP1 | exact hP2 | exact hP3 | exact hP4)) (fun hHeld => ?_)
  clear hK K
  (try simp only [Act.put, List.setIfInBounds_toArray, List.set_cons_zero, List.set_cons_succ])
  refine wpAnyH_take (i := 13) (oi := { dst := some 44, op := Go.Op.unOp Go.UnOp.not 4 (Go.Operand.tmp 43), type := 4, pos := "law.go:68", after := #[{ on := 12, ground := Go.Ground.data }, { on := 2, ground := Go.Ground.guard }], guard := some (2, false) }) (v := ?_) rfl (by kernel_rfl) (by kernel_rfl) (by kernel_rfl) (fun _ _ _ h => h) (Or.inl ⟨by rfl, ?_⟩) (by assumption) ?_
  (rotate_left; focus (intro wS hSw; have s1 := HKC.out _ hSw; clear hSw; go_simp; (try rw [if_neg (by omega)]); try with_reducible rfl))
  (try simp only [Act.put, List.setIfInBounds_toArray, List.set_cons_zero, List.set_cons_succ])
  refine wpAnyH_take (i := 14) (oi := { dst := some 45, op := Go.Op.pick (Go.Operand.tmp 33) (Go.Operand.const (Go.Value.bool true)) (Go.Operand.tmp 44), type := 4, pos := "law.go:68", after := #[{ on := 2, ground := Go.Ground.data }, { on := 13, ground := Go.Ground.data }], guard := none }) (v := ?_) rfl (by kernel_rfl) (by kernel_rfl) (by kernel_rfl) (fun _ _ _ h => h) (Or.inl ⟨by rfl, ?_⟩) (by assumption) ?_
  (rotate_left; focus (intro wS hSw; have s1 := HKC.out _ hSw; clear hSw; go_simp; (try rw [if_neg (by omega)]); try with_reducible rfl))
  (try simp only [Act.put, List.setIfInBounds_toArray, List.set_cons_zero, List.set_cons_succ])
  refine wpAnyH_take (i := 15) (oi := { dst := some 46, op := Go.Op.move (Go.Operand.tmp 45), type := 4, pos := "law.go:68", after := #[{ on := 14, ground := Go.Ground.data }, { on := 12, ground := Go.Ground.chain }], guard := none }) (v := ?_) rfl (by kernel_rfl) (by kernel_rfl) (by kernel_rfl) (fun _ _ _ h => h) (Or.inl ⟨by rfl, ?_⟩) (by assumption) ?_
  (rotate_left; focus (intro wS hSw; have s1 := HKC.out _ hSw; clear hSw; go_simp; (try rw [if_neg (by omega)]); try with_reducible rfl))
  (try simp only [Act.put, List.setIfInBounds_toArray, List.set_cons_zero, List.set_cons_succ])
  refine wpAnyH_take (i := 16) (oi := { dst := some 47, op := Go.Op.move (Go.Operand.tmp 8), type := 9, pos := "law.go:68", after := #[{ on := 15, ground := Go.Ground.guard }], guard := some (15, false) }) (v := ?_) rfl (by kernel_rfl) (by kernel_rfl) (by kernel_rfl) (fun _ _ _ h => h) (Or.inl ⟨by rfl, ?_⟩) (by assumption) ?_
  (rotate_left; focus (intro wS hSw; have s1 := HKC.out _ hSw; clear hSw; go_simp; (try rw [if_neg (by omega)]); try with_reducible rfl))
  (try simp only [Act.put, List.setIfInBounds_toArray, List.set_cons_zero, List.set_cons_succ])
  refine wpAnyH_take (i := 17) (oi := { dst := some 48, op := Go.Op.move (Go.Operand.tmp 0), type := 22, pos := "law.go:68", after := #[{ on := 15, ground := Go.Ground.guard }], guard := some (15, false) }) (v := ?_) rfl (by kernel_rfl) (by kernel_rfl) (by kernel_rfl) (fun _ _ _ h => h) (Or.inl ⟨by rfl, ?_⟩) (by assumption) ?_
  (rotate_left; focus (intro wS hSw; have s1 := HKC.out _ hSw; clear hSw; go_simp; (try rw [if_neg (by omega)]); try with_reducible rfl))
  (try simp only [Act.put, List.setIfInBounds_toArray, List.set_cons_zero, List.set_cons_succ])
  refine wpAnyH_take (i := 18) (oi := { dst := some 49, op := Go.Op.call { callee := Go.Callee.builtin Go.Builtin.len, args := #[Go.Operand.tmp 48], argTypes := #[22] }, type := 3, pos := "law.go:68", after := #[{ on := 17, ground := Go.Ground.data }, { on := 15, ground := Go.Ground.guard }], guard := some (15, false) }) (v := ?_) rfl (by kernel_rfl) (by kernel_rfl) (by kernel_rfl) (fun _ _ _ h => h) (Or.inl ⟨by rfl, ?_⟩) (by assumption) ?_
  (rotate_left; focus (intro wS hSw; have s1 := HKC.out _ hSw; clear hSw; go_simp; (try rw [if_neg (by omega)]); try with_reducible rfl))
  (try simp only [Act.put, List.setIfInBounds_toArray, List.set_cons_zero, List.set_cons_succ])
  refine wpAnyH_take (i := 19) (oi := { dst := some 50, op := Go.Op.move (Go.Operand.tmp 5), type := 3, pos := "law.go:68", after := #[{ on := 15, ground := Go.Ground.guard }], guard := some (15, false) }) (v := ?_) rfl (by kernel_rfl) (by kernel_rfl) (by kernel_rfl) (fun _ _ _ h => h) (Or.inl ⟨by rfl, ?_⟩) (by assumption) ?_
  (rotate_left; focus (intro wS hSw; have s1 := HKC.out _ hSw; clear hSw; go_simp; (try rw [if_neg (by omega)]); try with_reducible rfl))
  (try simp only [Act.put, List.setIfInBounds_toArray, List.set_cons_zero, List.set_cons_succ])
  refine wpAnyH_take (i := 20) (oi := { dst := some 51, op := Go.Op.move (Go.Operand.tmp 0), type := 22, pos := "law.go:68", after := #[{ on := 15, ground := Go.Ground.guard }], guard := some (15, false) }) (v := ?_) rfl (by kernel_rfl) (by kernel_rfl) (by kernel_rfl) (fun _ _ _ h => h) (Or.inl ⟨by rfl, ?_⟩) (by assumption) ?_
  (rotate_left; focus (intro wS hSw; have s1 := HKC.out _ hSw; clear hSw; go_simp; (try rw [if_neg (by omega)]); try with_reducible rfl))
  (try simp only [Act.put, List.setIfInBounds_toArray, List.set_cons_zero, List.set_cons_succ])
  refine wpAnyH_take (i := 21) (oi := { dst := some 52, op := Go.Op.move (Go.Operand.tmp 5), type := 3, pos := "law.go:68", after := #[{ on := 15, ground := Go.Ground.guard }], guard := some (15, false) }) (v := ?_) rfl (by kernel_rfl) (by kernel_rfl) (by kernel_rfl) (fun _ _ _ h => h) (Or.inl ⟨by rfl, ?_⟩) (by assumption) ?_
  (rotate_left; focus (intro wS hSw; have s1 := HKC.out _ hSw; clear hSw; go_simp; (try rw [if_neg (by omega)]); try with_reducible rfl))
  (try simp only [Act.put, List.setIfInBounds_toArray, List.set_cons_zero, List.set_cons_succ])
  refine wpAnyH_take (i := 22) (oi := { dst := some 53, op := Go.Op.indexAddr 22 (Go.Operand.tmp 51) (Go.Operand.tmp 52), type := 0, pos := "law.go:68", after := #[{ on := 20, ground := Go.Ground.data }, { on := 21, ground := Go.Ground.data }, { on := 15, ground := Go.Ground.guard }], guard := some (15, false) }) (v := ?_) rfl (by kernel_rfl) (by kernel_rfl) (by kernel_rfl) (fun _ _ _ h => h) (Or.inl ⟨by rfl, ?_⟩) (by assumption) ?_
  (rotate_left; focus (intro wS hSw; have s1 := HKC.out _ hSw; clear hSw; go_simp; (try rw [if_neg (by omega)]); try with_reducible rfl))
  (try simp only [Act.put, List.setIfInBounds_toArray, List.set_cons_zero, List.set_cons_succ])
  refine wpAnyH_take (i := 23) (oi := { dst := some 54, op := Go.Op.load 9 (Go.Operand.tmp 53), type := 9, pos := "law.go:68", after := #[{ on := 22, ground := Go.Ground.data }, { on := 15, ground := Go.Ground.guard }], guard := some (15, false) }) (v := ?_) rfl (by kernel_rfl) (by kernel_rfl) (by kernel_rfl) (fun _ _ _ h => h) (Or.inl ⟨by rfl, ?_⟩) (by assumption) ?_
  (rotate_left; focus (intro wS hSw; have s1 := HKC.out _ hSw; clear hSw; go_simp; (try rw [if_neg (by omega)]); try with_reducible rfl))
  (try simp only [Act.put, List.setIfInBounds_toArray, List.set_cons_zero, List.set_cons_succ])
  refine wpAnyH_take (i := 24) (oi := { dst := some 55, op := Go.Op.move (Go.Operand.tmp 6), type := 22, pos := "law.go:68", after := #[{ on := 15, ground := Go.Ground.guard }], guard := some (15, false) }) (v := ?_) rfl (by kernel_rfl) (by kernel_rfl) (by kernel_rfl) (fun _ _ _ h => h) (Or.inl ⟨by rfl, ?_⟩) (by assumption) ?_
  (rotate_left; focus (intro wS hSw; have s1 := HKC.out _ hSw; clear hSw; go_simp; (try rw [if_neg (by omega)]); try with_reducible rfl))
  (try simp only [Act.put, List.setIfInBounds_toArray, List.set_cons_zero, List.set_cons_succ])
  refine wpAnyH_take (i := 25) (oi := { dst := some 56, op := Go.Op.move (Go.Operand.tmp 6), type := 22, pos := "law.go:68", after := #[{ on := 15, ground := Go.Ground.guard }], guard := some (15, false) }) (v := ?_) rfl (by kernel_rfl) (by kernel_rfl) (by kernel_rfl) (fun _ _ _ h => h) (Or.inl ⟨by rfl, ?_⟩) (by assumption) ?_
  (rotate_left; focus (intro wS hSw; have s1 := HKC.out _ hSw; clear hSw; go_simp; (try rw [if_neg (by omega)]); try with_reducible rfl))
  (try simp only [Act.put, List.setIfInBounds_toArray, List.set_cons_zero, List.set_cons_succ])
  refine wpAnyH_take (i := 26) (oi := { dst := some 57, op := Go.Op.call { callee := Go.Callee.builtin Go.Builtin.len, args := #[Go.Operand.tmp 56], argTypes := #[22] }, type := 3, pos := "law.go:68", after := #[{ on := 25, ground := Go.Ground.data }, { on := 15, ground := Go.Ground.guard }], guard := some (15, false) }) (v := ?_) rfl (by kernel_rfl) (by kernel_rfl) (by kernel_rfl) (fun _ _ _ h => h) (Or.inl ⟨by rfl, ?_⟩) (by assumption) ?_
  (rotate_left; focus (intro wS hSw; have s1 := HKC.out _ hSw; clear hSw; go_simp; (try rw [if_neg (by omega)]); try with_reducible rfl))
  (try simp only [Act.put, List.setIfInBounds_toArray, List.set_cons_zero, List.set_cons_succ])
  refine wpAnyH_take (i := 27) (oi := { dst := some 58, op := Go.Op.move (Go.Operand.tmp 6), type := 22, pos := "law.go:68", after := #[{ on := 15, ground := Go.Ground.guard }], guard := some (15, false) }) (v := ?_) rfl (by kernel_rfl) (by kernel_rfl) (by kernel_rfl) (fun _ _ _ h => h) (Or.inl ⟨by rfl, ?_⟩) (by assumption) ?_
  (rotate_left; focus (intro wS hSw; have s1 := HKC.out _ hSw; clear hSw; go_simp; (try rw [if_neg (by omega)]); try with_reducible rfl))
  (try simp only [Act.put, List.setIfInBounds_toArray, List.set_cons_zero, List.set_cons_succ])
  refine wpAnyH_take (i := 28) (oi := { dst := some 59, op := Go.Op.call { callee := Go.Callee.builtin Go.Builtin.len, args := #[Go.Operand.tmp 58], argTypes := #[22] }, type := 3, pos := "law.go:68", after := #[{ on := 27, ground := Go.Ground.data }, { on := 15, ground := Go.Ground.guard }], guard := some (15, false) }) (v := ?_) rfl (by kernel_rfl) (by kernel_rfl) (by kernel_rfl) (fun _ _ _ h => h) (Or.inl ⟨by rfl, ?_⟩) (by assumption) ?_
  (rotate_left; focus (intro wS hSw; have s1 := HKC.out _ hSw; clear hSw; go_simp; (try rw [if_neg (by omega)]); try with_reducible rfl))
  (try simp only [Act.put, List.setIfInBounds_toArray, List.set_cons_zero, List.set_cons_succ])
  refine wpAnyH_take (i := 29) (oi := { dst := some 60, op := Go.Op.slice 22 (Go.Operand.tmp 55) none (some (Go.Operand.tmp 57)) (some (Go.Operand.tmp 59)), type := 22, pos := "law.go:68", after := #[{ on := 24, ground := Go.Ground.data }, { on := 26, ground := Go.Ground.data }, { on := 28, ground := Go.Ground.data }, { on := 15, ground := Go.Ground.guard }], guard := some (15, false) }) (v := ?_) rfl (by kernel_rfl) (by kernel_rfl) (by kernel_rfl) (fun _ _ _ h => h) (Or.inl ⟨by rfl, ?_⟩) (by assumption) ?_
  (rotate_left; focus (intro wS hSw; have s1 := HKC.out _ hSw; clear hSw; go_simp; (try rw [if_neg (by omega)]); try with_reducible rfl))
  (try simp only [Act.put, List.setIfInBounds_toArray, List.set_cons_zero, List.set_cons_succ])
  refine wpAnyH_ready (rs := [30]) (by kernel_rfl) (by simp) ?_
  refine AllReadyH.cons (o := { dst := some 61, op := Go.Op.buildSlice 22 1 #[(0, Go.Operand.const (Go.Value.string { data := #[120] }))], type := 22, pos := "law.go:68", after := #[{ on := 15, ground := Go.Ground.guard }], guard := some (15, false) }) rfl (fun K hK => ?_) AllReadyH.nil
  go_simp
  refine hK.out _ _ (by (first | exact hP0 | exact hP1 | exact hP2 | exact hP3 | exact hP4)) (fun hHeld => ?_)
  clear hK K
  (try simp only [Act.put, List.setIfInBounds_toArray, List.set_cons_zero, List.set_cons_succ])
  refine wpAnyH_ready (rs := [31]) (by kernel_rfl) (by simp) ?_
  refine AllReadyH.cons (o := { dst := some 62, op := Go.Op.call { callee := Go.Callee.builtin Go.Builtin.append, args := #[Go.Operand.tmp 60, Go.Operand.tmp 61], argTypes := #[22, 22] }, type := 22, pos := "law.go:68", after := #[{ on := 29, ground := Go.Ground.data }, { on := 30, ground := Go.Ground.data }, { on := 15, ground := Go.Ground.chain }, { on := 15, ground := Go.Ground.guard }], guard := some (15, false) }) rfl (fun K hK => ?_) AllReadyH.nil
  rw [if_pos (by rfl)]
  refine wp_append_grows _ (.tmp 60) (.tmp 61) 22 rfl 9 i0 (.string ⟨#[]⟩) 1 16 Try.underlying22 hi0 hz0 hz1 hz2 rfl (by decide) a1 p.length p.length (p.flatMap strC) rfl (fun e => ⟨HNO.out e, HNO.out e⟩) (flat_len p) (sl_flat hQ2) ⟨w3.heap.size, 0, none⟩ 1 1 [.string ⟨#[120]⟩] rfl rfl (fun j u hj => new_cells _ _ _ j u hj) (one_str _) (by omega) (by unfold maxLen; omega) (by omega) ?_
  intro v5 w5 hown5 hg5
  obtain ⟨P5, hP5⟩ : ∃ P5, P5 = p ++ [(⟨#[120]⟩ : ByteArray)] := ⟨_, rfl⟩
  have hL5 : P5.length = p.length + 1 := by rw [hP5]; simp
  have hF5 : P5.flatMap strC = p.flatMap strC ++ [.string ⟨#[120]⟩] := by rw [hP5]; simp [strC]
  rw [← hF5, ← hL5] at hown5
  obtain ⟨a5, c5, rfl, _, hs5⟩ := own_sl (enc := strC) (size := 1) (fun _ => rfl) (by decide) hown5
  have hP3 : Below w.heap.size w w5 := hP2.grown hg5 hP2.size (fun q hq => by cases hq)
  have hQ3 : Sl strC 1 w5 a1 p := hQ2.keep ((Below.refl _ _).grown hg5 (Nat.le_refl _) (fun q hq => by cases hq))
  have T3 := TC.out P5 a5 c5 w5 (by omega) (by rw [hP5]; exact small_snoc HPS.out) hs5
  rw [HC2.out P5 (by omega)] at T3
  have HT3 := Lib.hid T3
  clear hown5 hg5 hF5 T3 hs5 hL5 hP5
  refine hK.out _ _ (by (first | exact hP0 | exact hP1 | exact hP2 | exact hP3 | exact hP4)) (fun hHeld => ?_)
  clear hK K
  (try simp only [Act.put, List.setIfInBounds_toArray, List.set_cons_zero, List.set_cons_succ])
  refine wpAnyH_ready (rs := [32]) (by kernel_rfl) (by simp) ?_
  refine AllReadyH.cons (o := { dst := some 63, op := Go.Op.call { callee := Go.Callee.value (Go.Operand.func 15), args := #[Go.Operand.tmp 47, Go.Operand.tmp 49, Go.Operand.tmp 50, Go.Operand.tmp 54, Go.Operand.tmp 62], argTypes := #[9, 3, 3, 9, 22] }, type := 4, pos := "law.go:68", after := #[{ on := 16, ground := Go.Ground.data }, { on := 18, ground := Go.Ground.data }, { on := 19, ground := Go.Ground.data }, { on := 23, ground := Go.Ground.data }, { on := 31, ground := Go.Ground.data }, { on := 31, ground := Go.Ground.chain }, { on := 15, ground := Go.Ground.guard }], guard := some (15, false) }) rfl (fun K hK => ?_) AllReadyH.nil
  go_simp
  refine HT3.out.mono ?_
  rintro e w6 ⟨rfl, hb6⟩
  have hP4 : Below w.heap.size w w6 := below_step hP3 (Nat.le_refl _) hb6
  have hQ4 := hQ3.keep hb6
  clear hb6
  (try go_wp2_with fail)
  refine hK.out _ _ (by (first | exact hP0 | exact hP1 | exact hP2 | exact hP3 | exact hP4)) (fun hHeld => ?_)
  clear hK K
  (try simp only [Act.put, List.setIfInBounds_toArray, List.set_cons_zero, List.set_cons_succ])
  refine wpAnyH_take (i := 33) (oi := { dst := some 64, op := Go.Op.pick (Go.Operand.tmp 46) (Go.Operand.const (Go.Value.bool true)) (Go.Operand.tmp 63), type := 4, pos := "law.go:68", after := #[{ on := 15, ground := Go.Ground.data }, { on := 32, ground := Go.Ground.data }], guard := none }) (v := ?_) rfl (by kernel_rfl) (by kernel_rfl) (by kernel_rfl) (fun _ _ _ h => h) (Or.inl ⟨by rfl, ?_⟩) (by assumption) ?_
  (rotate_left; focus (intro wS hSw; have s1 := HKC.out _ hSw; clear hSw; go_simp; (try rw [if_neg (by omega)]); try with_reducible rfl))
  (try simp only [Act.put, List.setIfInBounds_toArray, List.set_cons_zero, List.set_cons_succ])
  refine wpAnyH_done (by kernel_rfl) ?_ _
  have HB6 := Lib.hid hP4; have HP6 := Lib.hid hQ4
  clear hP0 hP1 hP2 hP3 hP4 hQ0 hQ1 hQ2 hQ3 hQ4 HT3
  by_cases h0 : p.length = 0
  · have f3 : ((p.length : Int) == 0) = true := by simp; exact List.eq_nil_of_length_eq_zero h0
    have hL0 := Lib.hid h0
    clear h0
    go_wp2_with fail
    have hP0 : Below w.heap.size w w6.drew := HB6.out.drew
    refine wp_region_held_drew (S := fun _ => True) (by kernel_rfl) (trivial) (fun hHeld => ?_)
    refine wpAnyH_take (i := 0) (oi := { dst := some 65, op := Go.Op.move (Go.Operand.tmp 6), type := 22, pos := "law.go:71", after := #[], guard := none }) (v := ?_) rfl (by kernel_rfl) (by kernel_rfl) (by kernel_rfl) (fun _ _ _ h => h) (Or.inl ⟨by rfl, ?_⟩) (by assumption) ?_
    (rotate_left; focus (intro wS hSw; (try dsimp only at hSw); go_simp; (try rw [if_neg (by omega)]); try with_reducible rfl))
    (try simp only [Act.put, List.setIfInBounds_toArray, List.set_cons_zero, List.set_cons_succ])
    refine wpAnyH_take (i := 1) (oi := { dst := some 66, op := Go.Op.call { callee := Go.Callee.builtin Go.Builtin.len, args := #[Go.Operand.tmp 65], argTypes := #[22] }, type := 3, pos := "law.go:71", after := #[{ on := 0, ground := Go.Ground.data }], guard := none }) (v := ?_) rfl (by kernel_rfl) (by kernel_rfl) (by kernel_rfl) (fun _ _ _ h => h) (Or.inl ⟨by rfl, ?_⟩) (by assumption) ?_
    (rotate_left; focus (intro wS hSw; (try dsimp only at hSw); go_simp; (try rw [if_neg (by omega)]); try with_reducible rfl))
    (try simp only [Act.put, List.setIfInBounds_toArray, List.set_cons_zero, List.set_cons_succ])
    refine wpAnyH_take (i := 2) (oi := { dst := some 67, op := Go.Op.binOp Go.BinOp.eql 3 (Go.Operand.tmp 66) (Go.Operand.const (Go.Value.int Go.IntKind.i64 0)) 3, type := 4, pos := "law.go:71", after := #[{ on := 1, ground := Go.Ground.data }], guard := none }) (v := ?_) rfl (by kernel_rfl) (by kernel_rfl) (by kernel_rfl) (fun _ _ _ h => h) (Or.inl ⟨by rfl, ?_⟩) (by assumption) ?_
    (rotate_left; focus (intro wS hSw; (try dsimp only at hSw); go_simp; (try rw [if_neg (by omega)]); try with_reducible rfl))
    (try simp only [Act.put, List.setIfInBounds_toArray, List.set_cons_zero, List.set_cons_succ])
    refine wpAnyH_take (i := 3) (oi := { dst := some 68, op := Go.Op.move (Go.Operand.tmp 67), type := 4, pos := "law.go:71", after := #[{ on := 2, ground := Go.Ground.data }], guard := none }) (v := ?_) rfl (by kernel_rfl) (by kernel_rfl) (by kernel_rfl) (fun _ _ _ h => h) (Or.inl ⟨by rfl, ?_⟩) (by assumption) ?_
    (rotate_left; focus (intro wS hSw; (try dsimp only at hSw); go_simp; (try rw [if_neg (by omega)]); try with_reducible rfl))
    (try simp only [Act.put, List.setIfInBounds_toArray, List.set_cons_zero, List.set_cons_succ])
    refine wpAnyH_take (i := 4) (oi := { dst := some 69, op := Go.Op.move (Go.Operand.tmp 8), type := 9, pos := "law.go:71", after := #[{ on := 3, ground := Go.Ground.guard }], guard := some (3, false) }) (v := undef) rfl (by kernel_rfl) (by kernel_rfl) (by kernel_rfl) (fun _ _ _ h => h) (Or.inr ⟨by rfl, rfl⟩) (by assumption) ?_
    (try simp only [Act.put, List.setIfInBounds_toArray, List.set_cons_zero, List.set_cons_succ])
    refine wpAnyH_take (i := 5) (oi := { dst := some 70, op := Go.Op.move (Go.Operand.tmp 0), type := 22, pos := "law.go:71", after := #[{ on := 3, ground := Go.Ground.guard }], guard := some (3, false) }) (v := undef) rfl (by kernel_rfl) (by kernel_rfl) (by kernel_rfl) (fun _ _ _ h => h) (Or.inr ⟨by rfl, rfl⟩) (by assumption) ?_
    (try simp only [Act.put, List.setIfInBounds_toArray, List.set_cons_zero, List.set_cons_succ])
    refine wpAnyH_take (i := 6) (oi := { dst := some 71, op := Go.Op.call { callee := Go.Callee.builtin Go.Builtin.len, args := #[Go.Operand.tmp 70], argTypes := #[22] }, type := 3, pos := "law.go:71", after := #[{ on := 5, ground := Go.Ground.data }, { on := 3, ground := Go.Ground.guard }], guard := some (3, false) }) (v := undef) rfl (by kernel_rfl) (by kernel_rfl) (by kernel_rfl) (fun _ _ _ h => h) (Or.inr ⟨by rfl, rfl⟩) (by assumption) ?_
    (try simp only [Act.put, List.setIfInBounds_toArray, List.set_cons_zero, List.set_cons_succ])
    refine wpAnyH_take (i := 7) (oi := { dst := some 72, op := Go.Op.move (Go.Operand.tmp 5), type := 3, pos := "law.go:71", after := #[{ on := 3, ground := Go.Ground.guard }], guard := some (3, false) }) (v := undef) rfl (by kernel_rfl) (by kernel_rfl) (by kernel_rfl) (fun _ _ _ h => h) (Or.inr ⟨by rfl, rfl⟩) (by assumption) ?_
    (try simp only [Act.put, List.setIfInBounds_toArray, List.set_cons_zero, List.set_cons_succ])
    refine wpAnyH_take (i := 8) (oi := { dst := some 73, op := Go.Op.move (Go.Operand.tmp 0), type := 22, pos := "law.go:71", after := #[{ on := 3, ground := Go.Ground.guard }], guard := some (3, false) }) (v := undef) rfl (by kernel_rfl) (by kernel_rfl) (by kernel_rfl) (fun _ _ _ h => h) (Or.inr ⟨by rfl, rfl⟩) (by assumption) ?_
    (try simp only [Act.put, List.setIfInBounds_toArray, List.set_cons_zero, List.set_cons_succ])
    refine wpAnyH_take (i := 9) (oi := { dst := some 74, op := Go.Op.move (Go.Operand.tmp 5), type := 3, pos := "law.go:71", after := #[{ on := 3, ground := Go.Ground.guard }], guard := some (3, false) }) (v := undef) rfl (by kernel_rfl) (by kernel_rfl) (by kernel_rfl) (fun _ _ _ h => h) (Or.inr ⟨by rfl, rfl⟩) (by assumption) ?_
    (try simp only [Act.put, List.setIfInBounds_toArray, List.set_cons_zero, List.set_cons_succ])
    refine wpAnyH_take (i := 10) (oi := { dst := some 75, op := Go.Op.indexAddr 22 (Go.Operand.tmp 73) (Go.Operand.tmp 74), type := 0, pos := "law.go:71", after := #[{ on := 8, ground := Go.Ground.data }, { on := 9, ground := Go.Ground.data }, { on := 3, ground := Go.Ground.guard }], guard := some (3, false) }) (v := undef) rfl (by kernel_rfl) (by kernel_rfl) (by kernel_rfl) (fun _ _ _ h => h) (Or.inr ⟨by rfl, rfl⟩) (by assumption) ?_
    (try simp only [Act.put, List.setIfInBounds_toArray, List.set_cons_zero, List.set_cons_succ])
    refine wpAnyH_take (i := 11) (oi := { dst := some 76, op := Go.Op.load 9 (Go.Operand.tmp 75), type := 9, pos := "law.go:71", after := #[{ on := 10, ground := Go.Ground.data }, { on := 3, ground := Go.Ground.guard }], guard := some (3, false) }) (v := undef) rfl (by kernel_rfl) (by kernel_rfl) (by kernel_rfl) (fun _ _ _ h => h) (Or.inr ⟨by rfl, rfl⟩) (by assumption) ?_
    (try simp only [Act.put, List.setIfInBounds_toArray, List.set_cons_zero, List.set_cons_succ])
    refine wpAnyH_take (i := 12) (oi := { dst := some 77, op := Go.Op.move (Go.Operand.tmp 6), type := 22, pos := "law.go:71", after := #[{ on := 3, ground := Go.Ground.guard }], guard := some (3, false) }) (v := undef) rfl (by kernel_rfl) (by kernel_rfl) (by kernel_rfl) (fun _ _ _ h => h) (Or.inr ⟨by rfl, rfl⟩) (by assumption) ?_
    (try simp only [Act.put, List.setIfInBounds_toArray, List.set_cons_zero, List.set_cons_succ])
    refine wpAnyH_take (i := 13) (oi := { dst := some 78, op := Go.Op.move (Go.Operand.tmp 6), type := 22, pos := "law.go:71", after := #[{ on := 3, ground := Go.Ground.guard }], guard := some (3, false) }) (v := undef) rfl (by kernel_rfl) (by kernel_rfl) (by kernel_rfl) (fun _ _ _ h => h) (Or.inr ⟨by rfl, rfl⟩) (by assumption) ?_
    (try simp only [Act.put, List.setIfInBounds_toArray, List.set_cons_zero, List.set_cons_succ])
    refine wpAnyH_take (i := 14) (oi := { dst := some 79, op := Go.Op.call { callee := Go.Callee.builtin Go.Builtin.len, args := #[Go.Operand.tmp 78], argTypes := #[22] }, type := 3, pos := "law.go:71", after := #[{ on := 13, ground := Go.Ground.data }, { on := 3, ground := Go.Ground.guard }], guard := some (3, false) }) (v := undef) rfl (by kernel_rfl) (by kernel_rfl) (by kernel_rfl) (fun _ _ _ h => h) (Or.inr ⟨by rfl, rfl⟩) (by assumption) ?_
    (try simp only [Act.put, List.setIfInBounds_toArray, List.set_cons_zero, List.set_cons_succ])
    refine wpAnyH_take (i := 15) (oi := { dst := some 80, op := Go.Op.binOp Go.BinOp.sub 3 (Go.Operand.tmp 79) (Go.Operand.const (Go.Value.int Go.IntKind.i64 1)) 3, type := 3, pos := "law.go:71", after := #[{ on := 14, ground := Go.Ground.data }, { on := 3, ground := Go.Ground.guard }], guard := some (3, false) }) (v := undef) rfl (by kernel_rfl) (by kernel_rfl) (by kernel_rfl) (fun _ _ _ h => h) (Or.inr ⟨by rfl, rfl⟩) (by assumption) ?_
    (try simp only [Act.put, List.setIfInBounds_toArray, List.set_cons_zero, List.set_cons_succ])
    refine wpAnyH_take (i := 16) (oi := { dst := some 81, op := Go.Op.slice 22 (Go.Operand.tmp 77) none (some (Go.Operand.tmp 80)) none, type := 22, pos := "law.go:71", after := #[{ on := 12, ground := Go.Ground.data }, { on := 15, ground := Go.Ground.data }, { on := 3, ground := Go.Ground.guard }], guard := some (3, false) }) (v := undef) rfl (by kernel_rfl) (by kernel_rfl) (by kernel_rfl) (fun _ _ _ h => h) (Or.inr ⟨by rfl, rfl⟩) (by assumption) ?_
    (try simp only [Act.put, List.setIfInBounds_toArray, List.set_cons_zero, List.set_cons_succ])
    refine wpAnyH_take (i := 17) (oi := { dst := some 82, op := Go.Op.call { callee := Go.Callee.value (Go.Operand.func 15), args := #[Go.Operand.tmp 69, Go.Operand.tmp 71, Go.Operand.tmp 72, Go.Operand.tmp 76, Go.Operand.tmp 81], argTypes := #[9, 3, 3, 9, 22] }, type := 4, pos := "law.go:71", after := #[{ on := 4, ground := Go.Ground.data }, { on := 6, ground := Go.Ground.data }, { on := 7, ground := Go.Ground.data }, { on := 11, ground := Go.Ground.data }, { on := 16, ground := Go.Ground.data }, { on := 3, ground := Go.Ground.chain }, { on := 3, ground := Go.Ground.guard }], guard := some (3, false) }) (v := undef) rfl (by kernel_rfl) (by kernel_rfl) (by kernel_rfl) (fun _ _ _ h => h) (Or.inr ⟨by rfl, rfl⟩) (by assumption) ?_
    (try simp only [Act.put, List.setIfInBounds_toArray, List.set_cons_zero, List.set_cons_succ])
    refine wpAnyH_take (i := 18) (oi := { dst := some 83, op := Go.Op.unOp Go.UnOp.not 4 (Go.Operand.tmp 82), type := 4, pos := "law.go:71", after := #[{ on := 17, ground := Go.Ground.data }, { on := 3, ground := Go.Ground.guard }], guard := some (3, false) }) (v := undef) rfl (by kernel_rfl) (by kernel_rfl) (by kernel_rfl) (fun _ _ _ h => h) (Or.inr ⟨by rfl, rfl⟩) (by assumption) ?_
    (try simp only [Act.put, List.setIfInBounds_toArray, List.set_cons_zero, List.set_cons_succ])
    refine wpAnyH_take (i := 19) (oi := { dst := some 84, op := Go.Op.pick (Go.Operand.tmp 68) (Go.Operand.const (Go.Value.bool true)) (Go.Operand.tmp 83), type := 4, pos := "law.go:71", after := #[{ on := 3, ground := Go.Ground.data }, { on := 18, ground := Go.Ground.data }], guard := none }) (v := ?_) rfl (by kernel_rfl) (by kernel_rfl) (by kernel_rfl) (fun _ _ _ h => h) (Or.inl ⟨by rfl, ?_⟩) (by assumption) ?_
    (rotate_left; focus (intro wS hSw; (try dsimp only at hSw); go_simp; (try rw [if_neg (by omega)]); try with_reducible rfl))
    (try simp only [Act.put, List.setIfInBounds_toArray, List.set_cons_zero, List.set_cons_succ])
    refine wpAnyH_take (i := 20) (oi := { dst := some 85, op := Go.Op.move (Go.Operand.tmp 84), type := 4, pos := "law.go:71", after := #[{ on := 19, ground := Go.Ground.data }, { on := 17, ground := Go.Ground.chain }], guard := none }) (v := ?_) rfl (by kernel_rfl) (by kernel_rfl) (by kernel_rfl) (fun _ _ _ h => h) (Or.inl ⟨by rfl, ?_⟩) (by assumption) ?_
    (rotate_left; focus (intro wS hSw; (try dsimp only at hSw); go_simp; (try rw [if_neg (by omega)]); try with_reducible rfl))
    (try simp only [Act.put, List.setIfInBounds_toArray, List.set_cons_zero, List.set_cons_succ])
    refine wpAnyH_ready (rs := [21]) (by kernel_rfl) (by simp) ?_
    refine AllReadyH.cons (o := { dst := some 86, op := Go.Op.call { callee := Go.Callee.value (Go.Operand.func 7), args := #[], argTypes := #[] }, type := 4, pos := "law.go:71", after := #[{ on := 20, ground := Go.Ground.chain }, { on := 20, ground := Go.Ground.guard }], guard := some (20, true) }) rfl (fun K hK => ?_) AllReadyH.nil
    go_simp
    refine (awake_any _).mono ?_
    rintro e w7 ⟨rfl, hb7⟩
    have hP1 : Below w.heap.size w w7 := below_step hP0 (Nat.le_refl _) hb7
    clear hb7
    (try go_wp2_with fail)
    refine hK.out _ _ (trivial) (fun hHeld => ?_)
    clear hK K
    (try simp only [Act.put, List.setIfInBounds_toArray, List.set_cons_zero, List.set_cons_succ])
    refine wpAnyH_take (i := 22) (oi := { dst := some 87, op := Go.Op.pick (Go.Operand.tmp 85) (Go.Operand.tmp 86) (Go.Operand.const (Go.Value.bool false)), type := 4, pos := "law.go:71", after := #[{ on := 20, ground := Go.Ground.data }, { on := 21, ground := Go.Ground.data }], guard := none }) (v := ?_) rfl (by kernel_rfl) (by kernel_rfl) (by kernel_rfl) (fun _ _ _ h => h) (Or.inl ⟨by rfl, ?_⟩) (by assumption) ?_
    (rotate_left; focus (intro wS hSw; (try dsimp only at hSw); go_simp; (try rw [if_neg (by omega)]); try with_reducible rfl))
    (try simp only [Act.put, List.setIfInBounds_toArray, List.set_cons_zero, List.set_cons_succ])
    refine wpAnyH_take (i := 23) (oi := { dst := some 4, op := Go.Op.assign (Go.Operand.tmp 87), type := 4, pos := "law.go:71", after := #[{ on := 22, ground := Go.Ground.data }, { on := 21, ground := Go.Ground.chain }, { on := 0, ground := Go.Ground.phase }, { on := 1, ground := Go.Ground.phase }, { on := 2, ground := Go.Ground.phase }, { on := 3, ground := Go.Ground.phase }, { on := 4, ground := Go.Ground.phase }, { on := 5, ground := Go.Ground.phase }, { on := 6, ground := Go.Ground.phase }, { on := 7, ground := Go.Ground.phase }, { on := 8, ground := Go.Ground.phase }, { on := 9, ground := Go.Ground.phase }, { on := 10, ground := Go.Ground.phase }, { on := 11, ground := Go.Ground.phase }, { on := 12, ground := Go.Ground.phase }, { on := 13, ground := Go.Ground.phase }, { on := 14, ground := Go.Ground.phase }, { on := 15, ground := Go.Ground.phase }, { on := 16, ground := Go.Ground.phase }, { on := 17, ground := Go.Ground.phase }, { on := 18, ground := Go.Ground.phase }, { on := 19, ground := Go.Ground.phase }, { on := 20, ground := Go.Ground.phase }, { on := 21, ground := Go.Ground.phase }, { on := 22, ground := Go.Ground.phase }], guard := none }) (v := ?_) rfl (by kernel_rfl) (by kernel_rfl) (by kernel_rfl) (fun _ _ _ h => h) (Or.inl ⟨by rfl, ?_⟩) (by assumption) ?_
    (rotate_left; focus (intro wS hSw; (try dsimp only at hSw); go_simp; (try rw [if_neg (by omega)]); try with_reducible rfl))
    (try simp only [Act.put, List.setIfInBounds_toArray, List.set_cons_zero, List.set_cons_succ])
    refine wpAnyH_done (by kernel_rfl) ?_ _
    all_goals
      go_wp2
      go_ret
      exact ⟨rfl, hP1⟩
  · have f3 : ((p.length : Int) == 0) = false := by simp; intro h; rw [h] at h0; simp at h0
    have f4 : (0 : Int) ≤ (p.length : Int) - 1 := by omega
    have f8 : (1 : Int) ≤ (p.length : Int) := by omega
    have f9 : 1 ≤ p.length := by omega
    have f5 : (p.length : Int) - 1 ≤ (c1 : Int) := by omega
    have f6 : ((p.length : Int) - 1).toNat = p.length - 1 := by omega
    have hlt : (p.take (p.length - 1)).length = p.length - 1 := by rw [List.length_take]; omega
    have T3 : Hid (∀ W, Sl strC 1 W a1 p → Calls Try.prog 15 #[.string R, .int .i64 (l.length : Int), .int .i64 (k : Int), .string X, .slice a1 (p.length - 1) c1] W fun e w' => e = .returned (.bool false) ∧ Below W.heap.size W w') := Lib.hid (fun W h => by
      have := TC.out (p.take (p.length - 1)) a1 c1 W (by omega) (fun x hx => HPS.out x (List.mem_of_mem_take hx)) (sl_take h _)
      rw [hlt, HC2.out _ (by omega)] at this
      exact this)
    clear hlt
    have f7 : IntKind.i64.wrap ((p.length : Int) - 1) = (p.length : Int) - 1 := IntWalk.i64_in _ (by omega)
    go_wp2_with fail
    have hP0 : Below w.heap.size w w6.drew := HB6.out.drew
    have hQ0 : Sl strC 1 w6.drew a1 p := HP6.out
    refine wp_region_held_drew (S := fun w' => Below w.heap.size w w') (by kernel_rfl) (by (first | exact hP0 | exact hP1 | exact hP2)) (fun hHeld => ?_)
    refine wpAnyH_take (i := 0) (oi := { dst := some 65, op := Go.Op.move (Go.Operand.tmp 6), type := 22, pos := "law.go:71", after := #[], guard := none }) (v := ?_) rfl (by kernel_rfl) (by kernel_rfl) (by kernel_rfl) (fun _ _ _ h => h) (Or.inl ⟨by rfl, ?_⟩) (by assumption) ?_
    (rotate_left; focus (intro wS hSw; have s1 := HKC.out _ hSw; clear hSw; go_simp; (try rw [if_neg (by omega)]); try with_reducible rfl))
    (try simp only [Act.put, List.setIfInBounds_toArray, List.set_cons_zero, List.set_cons_succ])
    refine wpAnyH_take (i := 1) (oi := { dst := some 66, op := Go.Op.call { callee := Go.Callee.builtin Go.Builtin.len, args := #[Go.Operand.tmp 65], argTypes := #[22] }, type := 3, pos := "law.go:71", after := #[{ on := 0, ground := Go.Ground.data }], guard := none }) (v := ?_) rfl (by kernel_rfl) (by kernel_rfl) (by kernel_rfl) (fun _ _ _ h => h) (Or.inl ⟨by rfl, ?_⟩) (by assumption) ?_
    (rotate_left; focus (intro wS hSw; have s1 := HKC.out _ hSw; clear hSw; go_simp; (try rw [if_neg (by omega)]); try with_reducible rfl))
    (try simp only [Act.put, List.setIfInBounds_toArray, List.set_cons_zero, List.set_cons_succ])
    refine wpAnyH_take (i := 2) (oi := { dst := some 67, op := Go.Op.binOp Go.BinOp.eql 3 (Go.Operand.tmp 66) (Go.Operand.const (Go.Value.int Go.IntKind.i64 0)) 3, type := 4, pos := "law.go:71", after := #[{ on := 1, ground := Go.Ground.data }], guard := none }) (v := ?_) rfl (by kernel_rfl) (by kernel_rfl) (by kernel_rfl) (fun _ _ _ h => h) (Or.inl ⟨by rfl, ?_⟩) (by assumption) ?_
    (rotate_left; focus (intro wS hSw; have s1 := HKC.out _ hSw; clear hSw; go_simp; (try rw [if_neg (by omega)]); try with_reducible rfl))
    (try simp only [Act.put, List.setIfInBounds_toArray, List.set_cons_zero, List.set_cons_succ])
    refine wpAnyH_take (i := 3) (oi := { dst := some 68, op := Go.Op.move (Go.Operand.tmp 67), type := 4, pos := "law.go:71", after := #[{ on := 2, ground := Go.Ground.data }], guard := none }) (v := ?_) rfl (by kernel_rfl) (by kernel_rfl) (by kernel_rfl) (fun _ _ _ h => h) (Or.inl ⟨by rfl, ?_⟩) (by assumption) ?_
    (rotate_left; focus (intro wS hSw; have s1 := HKC.out _ hSw; clear hSw; go_simp; (try rw [if_neg (by omega)]); try with_reducible rfl))
    (try simp only [Act.put, List.setIfInBounds_toArray, List.set_cons_zero, List.set_cons_succ])
    refine wpAnyH_take (i := 4) (oi := { dst := some 69, op := Go.Op.move (Go.Operand.tmp 8), type := 9, pos := "law.go:71", after := #[{ on := 3, ground := Go.Ground.guard }], guard := some (3, false) }) (v := ?_) rfl (by kernel_rfl) (by kernel_rfl) (by kernel_rfl) (fun _ _ _ h => h) (Or.inl ⟨by rfl, ?_⟩) (by assumption) ?_
    (rotate_left; focus (intro wS hSw; have s1 := HKC.out _ hSw; clear hSw; go_simp; (try rw [if_neg (by omega)]); try with_reducible rfl))
    (try simp only [Act.put, List.setIfInBounds_toArray, List.set_cons_zero, List.set_cons_succ])
    refine wpAnyH_take (i := 5) (oi := { dst := some 70, op := Go.Op.move (Go.Operand.tmp 0), type := 22, pos := "law.go:71", after := #[{ on := 3, ground := Go.Ground.guard }], guard := some (3, false) }) (v := ?_) rfl (by kernel_rfl) (by kernel_rfl) (by kernel_rfl) (fun _ _ _ h => h) (Or.inl ⟨by rfl, ?_⟩) (by assumption) ?_
    (rotate_left; focus (intro wS hSw; have s1 := HKC.out _ hSw; clear hSw; go_simp; (try rw [if_neg (by omega)]); try with_reducible rfl))
    (try simp only [Act.put, List.setIfInBounds_toArray, List.set_cons_zero, List.set_cons_succ])
    refine wpAnyH_take (i := 6) (oi := { dst := some 71, op := Go.Op.call { callee := Go.Callee.builtin Go.Builtin.len, args := #[Go.Operand.tmp 70], argTypes := #[22] }, type := 3, pos := "law.go:71", after := #[{ on := 5, ground := Go.Ground.data }, { on := 3, ground := Go.Ground.guard }], guard := some (3, false) }) (v := ?_) rfl (by kernel_rfl) (by kernel_rfl) (by kernel_rfl) (fun _ _ _ h => h) (Or.inl ⟨by rfl, ?_⟩) (by assumption) ?_
    (rotate_left; focus (intro wS hSw; have s1 := HKC.out _ hSw; clear hSw; go_simp; (try rw [if_neg (by omega)]); try with_reducible rfl))
    (try simp only [Act.put, List.setIfInBounds_toArray, List.set_cons_zero, List.set_cons_succ])
    refine wpAnyH_take (i := 7) (oi := { dst := some 72, op := Go.Op.move (Go.Operand.tmp 5), type := 3, pos := "law.go:71", after := #[{ on := 3, ground := Go.Ground.guard }], guard := some (3, false) }) (v := ?_) rfl (by kernel_rfl) (by kernel_rfl) (by kernel_rfl) (fun _ _ _ h => h) (Or.inl ⟨by rfl, ?_⟩) (by assumption) ?_
    (rotate_left; focus (intro wS hSw; have s1 := HKC.out _ hSw; clear hSw; go_simp; (try rw [if_neg (by omega)]); try with_reducible rfl))
    (try simp only [Act.put, List.setIfInBounds_toArray, List.set_cons_zero, List.set_cons_succ])
    refine wpAnyH_take (i := 8) (oi := { dst := some 73, op := Go.Op.move (Go.Operand.tmp 0), type := 22, pos := "law.go:71", after := #[{ on := 3, ground := Go.Ground.guard }], guard := some (3, false) }) (v := ?_) rfl (by kernel_rfl) (by kernel_rfl) (by kernel_rfl) (fun _ _ _ h => h) (Or.inl ⟨by rfl, ?_⟩) (by assumption) ?_
    (rotate_left; focus (intro wS hSw; have s1 := HKC.out _ hSw; clear hSw; go_simp; (try rw [if_neg (by omega)]); try with_reducible rfl))
    (try simp only [Act.put, List.setIfInBounds_toArray, List.set_cons_zero, List.set_cons_succ])
    refine wpAnyH_take (i := 9) (oi := { dst := some 74, op := Go.Op.move (Go.Operand.tmp 5), type := 3, pos := "law.go:71", after := #[{ on := 3, ground := Go.Ground.guard }], guard := some (3, false) }) (v := ?_) rfl (by kernel_rfl) (by kernel_rfl) (by kernel_rfl) (fun _ _ _ h => h) (Or.inl ⟨by rfl, ?_⟩) (by assumption) ?_
    (rotate_left; focus (intro wS hSw; have s1 := HKC.out _ hSw; clear hSw; go_simp; (try rw [if_neg (by omega)]); try with_reducible rfl))
    (try simp only [Act.put, List.setIfInBounds_toArray, List.set_cons_zero, List.set_cons_succ])
    refine wpAnyH_take (i := 10) (oi := { dst := some 75, op := Go.Op.indexAddr 22 (Go.Operand.tmp 73) (Go.Operand.tmp 74), type := 0, pos := "law.go:71", after := #[{ on := 8, ground := Go.Ground.data }, { on := 9, ground := Go.Ground.data }, { on := 3, ground := Go.Ground.guard }], guard := some (3, false) }) (v := ?_) rfl (by kernel_rfl) (by kernel_rfl) (by kernel_rfl) (fun _ _ _ h => h) (Or.inl ⟨by rfl, ?_⟩) (by assumption) ?_
    (rotate_left; focus (intro wS hSw; have s1 := HKC.out _ hSw; clear hSw; go_simp; (try rw [if_neg (by omega)]); try with_reducible rfl))
    (try simp only [Act.put, List.setIfInBounds_toArray, List.set_cons_zero, List.set_cons_succ])
    refine wpAnyH_take (i := 11) (oi := { dst := some 76, op := Go.Op.load 9 (Go.Operand.tmp 75), type := 9, pos := "law.go:71", after := #[{ on := 10, ground := Go.Ground.data }, { on := 3, ground := Go.Ground.guard }], guard := some (3, false) }) (v := ?_) rfl (by kernel_rfl) (by kernel_rfl) (by kernel_rfl) (fun _ _ _ h => h) (Or.inl ⟨by rfl, ?_⟩) (by assumption) ?_
    (rotate_left; focus (intro wS hSw; have s1 := HKC.out _ hSw; clear hSw; go_simp; (try rw [if_neg (by omega)]); try with_reducible rfl))
    (try simp only [Act.put, List.setIfInBounds_toArray, List.set_cons_zero, List.set_cons_succ])
    refine wpAnyH_take (i := 12) (oi := { dst := some 77, op := Go.Op.move (Go.Operand.tmp 6), type := 22, pos := "law.go:71", after := #[{ on := 3, ground := Go.Ground.guard }], guard := some (3, false) }) (v := ?_) rfl (by kernel_rfl) (by kernel_rfl) (by kernel_rfl) (fun _ _ _ h => h) (Or.inl ⟨by rfl, ?_⟩) (by assumption) ?_
    (rotate_left; focus (intro wS hSw; have s1 := HKC.out _ hSw; clear hSw; go_simp; (try rw [if_neg (by omega)]); try with_reducible rfl))
    (try simp only [Act.put, List.setIfInBounds_toArray, List.set_cons_zero, List.set_cons_succ])
    refine wpAnyH_take (i := 13) (oi := { dst := some 78, op := Go.Op.move (Go.Operand.tmp 6), type := 22, pos := "law.go:71", after := #[{ on := 3, ground := Go.Ground.guard }], guard := some (3, false) }) (v := ?_) rfl (by kernel_rfl) (by kernel_rfl) (by kernel_rfl) (fun _ _ _ h => h) (Or.inl ⟨by rfl, ?_⟩) (by assumption) ?_
    (rotate_left; focus (intro wS hSw; have s1 := HKC.out _ hSw; clear hSw; go_simp; (try rw [if_neg (by omega)]); try with_reducible rfl))
    (try simp only [Act.put, List.setIfInBounds_toArray, List.set_cons_zero, List.set_cons_succ])
    refine wpAnyH_take (i := 14) (oi := { dst := some 79, op := Go.Op.call { callee := Go.Callee.builtin Go.Builtin.len, args := #[Go.Operand.tmp 78], argTypes := #[22] }, type := 3, pos := "law.go:71", after := #[{ on := 13, ground := Go.Ground.data }, { on := 3, ground := Go.Ground.guard }], guard := some (3, false) }) (v := ?_) rfl (by kernel_rfl) (by kernel_rfl) (by kernel_rfl) (fun _ _ _ h => h) (Or.inl ⟨by rfl, ?_⟩) (by assumption) ?_
    (rotate_left; focus (intro wS hSw; have s1 := HKC.out _ hSw; clear hSw; go_simp; (try rw [if_neg (by omega)]); try with_reducible rfl))
    (try simp only [Act.put, List.setIfInBounds_toArray, List.set_cons_zero, List.set_cons_succ])
    refine wpAnyH_take (i := 15) (oi := { dst := some 80, op := Go.Op.binOp Go.BinOp.sub 3 (Go.Operand.tmp 79) (Go.Operand.const (Go.Value.int Go.IntKind.i64 1)) 3, type := 3, pos := "law.go:71", after := #[{ on := 14, ground := Go.Ground.data }, { on := 3, ground := Go.Ground.guard }], guard := some (3, false) }) (v := ?_) rfl (by kernel_rfl) (by kernel_rfl) (by kernel_rfl) (fun _ _ _ h => h) (Or.inl ⟨by rfl, ?_⟩) (by assumption) ?_
    (rotate_left; focus (intro wS hSw; have s1 := HKC.out _ hSw; clear hSw; go_simp; (try rw [if_neg (by omega)]); try with_reducible rfl))
    (try simp only [Act.put, List.setIfInBounds_toArray, List.set_cons_zero, List.set_cons_succ])
    refine wpAnyH_take (i := 16) (oi := { dst := some 81, op := Go.Op.slice 22 (Go.Operand.tmp 77) none (some (Go.Operand.tmp 80)) none, type := 22, pos := "law.go:71", after := #[{ on := 12, ground := Go.Ground.data }, { on := 15, ground := Go.Ground.data }, { on := 3, ground := Go.Ground.guard }], guard := some (3, false) }) (v := ?_) rfl (by kernel_rfl) (by kernel_rfl) (by kernel_rfl) (fun _ _ _ h => h) (Or.inl ⟨by rfl, ?_⟩) (by assumption) ?_
    (rotate_left; focus (intro wS hSw; have s1 := HKC.out _ hSw; clear hSw; go_simp; (try rw [if_neg (by omega)]); try with_reducible rfl))
    (try simp only [Act.put, List.setIfInBounds_toArray, List.set_cons_zero, List.set_cons_succ])
    refine wpAnyH_ready (rs := [17]) (by kernel_rfl) (by simp) ?_
    refine AllReadyH.cons (o := { dst := some 82, op := Go.Op.call { callee := Go.Callee.value (Go.Operand.func 15), args := #[Go.Operand.tmp 69, Go.Operand.tmp 71, Go.Operand.tmp 72, Go.Operand.tmp 76, Go.Operand.tmp 81], argTypes := #[9, 3, 3, 9, 22] }, type := 4, pos := "law.go:71", after := #[{ on := 4, ground := Go.Ground.data }, { on := 6, ground := Go.Ground.data }, { on := 7, ground := Go.Ground.data }, { on := 11, ground := Go.Ground.data }, { on := 16, ground := Go.Ground.data }, { on := 3, ground := Go.Ground.chain }, { on := 3, ground := Go.Ground.guard }], guard := some (3, false) }) rfl (fun K hK => ?_) AllReadyH.nil
    go_simp
    refine (T3.out _ hQ0).mono ?_
    rintro e w7 ⟨rfl, hb7⟩
    have hP1 : Below w.heap.size w w7 := below_step hP0 (Nat.le_refl _) hb7
    clear hb7
    (try go_wp2_with fail)
    refine hK.out _ _ (by (first | exact hP0 | exact hP1 | exact hP2)) (fun hHeld => ?_)
    clear hK K
    (try simp only [Act.put, List.setIfInBounds_toArray, List.set_cons_zero, List.set_cons_succ])
    refine wpAnyH_take (i := 18) (oi := { dst := some 83, op := Go.Op.unOp Go.UnOp.not 4 (Go.Operand.tmp 82), type := 4, pos := "law.go:71", after := #[{ on := 17, ground := Go.Ground.data }, { on := 3, ground := Go.Ground.guard }], guard := some (3, false) }) (v := ?_) rfl (by kernel_rfl) (by kernel_rfl) (by kernel_rfl) (fun _ _ _ h => h) (Or.inl ⟨by rfl, ?_⟩) (by assumption) ?_
    (rotate_left; focus (intro wS hSw; have s1 := HKC.out _ hSw; clear hSw; go_simp; (try rw [if_neg (by omega)]); try with_reducible rfl))
    (try simp only [Act.put, List.setIfInBounds_toArray, List.set_cons_zero, List.set_cons_succ])
    refine wpAnyH_take (i := 19) (oi := { dst := some 84, op := Go.Op.pick (Go.Operand.tmp 68) (Go.Operand.const (Go.Value.bool true)) (Go.Operand.tmp 83), type := 4, pos := "law.go:71", after := #[{ on := 3, ground := Go.Ground.data }, { on := 18, ground := Go.Ground.data }], guard := none }) (v := ?_) rfl (by kernel_rfl) (by kernel_rfl) (by kernel_rfl) (fun _ _ _ h => h) (Or.inl ⟨by rfl, ?_⟩) (by assumption) ?_
    (rotate_left; focus (intro wS hSw; have s1 := HKC.out _ hSw; clear hSw; go_simp; (try rw [if_neg (by omega)]); try with_reducible rfl))
    (try simp only [Act.put, List.setIfInBounds_toArray, List.set_cons_zero, List.set_cons_succ])
    refine wpAnyH_take (i := 20) (oi := { dst := some 85, op := Go.Op.move (Go.Operand.tmp 84), type := 4, pos := "law.go:71", after := #[{ on := 19, ground := Go.Ground.data }, { on := 17, ground := Go.Ground.chain }], guard := none }) (v := ?_) rfl (by kernel_rfl) (by kernel_rfl) (by kernel_rfl) (fun _ _ _ h => h) (Or.inl ⟨by rfl, ?_⟩) (by assumption) ?_
    (rotate_left; focus (intro wS hSw; have s1 := HKC.out _ hSw; clear hSw; go_simp; (try rw [if_neg (by omega)]); try with_reducible rfl))
    (try simp only [Act.put, List.setIfInBounds_toArray, List.set_cons_zero, List.set_cons_succ])
    refine wpAnyH_ready (rs := [21]) (by kernel_rfl) (by simp) ?_
    refine AllReadyH.cons (o := { dst := some 86, op := Go.Op.call { callee := Go.Callee.value (Go.Operand.func 7), args := #[], argTypes := #[] }, type := 4, pos := "law.go:71", after := #[{ on := 20, ground := Go.Ground.chain }, { on := 20, ground := Go.Ground.guard }], guard := some (20, true) }) rfl (fun K hK => ?_) AllReadyH.nil
    go_simp
    refine (awake_any _).mono ?_
    rintro e w8 ⟨rfl, hb8⟩
    have hP2 : Below w.heap.size w w8 := below_step hP1 (Nat.le_refl _) hb8
    clear hb8
    (try go_wp2_with fail)
    refine hK.out _ _ (by (first | exact hP0 | exact hP1 | exact hP2)) (fun hHeld => ?_)
    clear hK K
    (try simp only [Act.put, List.setIfInBounds_toArray, List.set_cons_zero, List.set_cons_succ])
    refine wpAnyH_take (i := 22) (oi := { dst := some 87, op := Go.Op.pick (Go.Operand.tmp 85) (Go.Operand.tmp 86) (Go.Operand.const (Go.Value.bool false)), type := 4, pos := "law.go:71", after := #[{ on := 20, ground := Go.Ground.data }, { on := 21, ground := Go.Ground.data }], guard := none }) (v := ?_) rfl (by kernel_rfl) (by kernel_rfl) (by kernel_rfl) (fun _ _ _ h => h) (Or.inl ⟨by rfl, ?_⟩) (by assumption) ?_
    (rotate_left; focus (intro wS hSw; have s1 := HKC.out _ hSw; clear hSw; go_simp; (try rw [if_neg (by omega)]); try with_reducible rfl))
    (try simp only [Act.put, List.setIfInBounds_toArray, List.set_cons_zero, List.set_cons_succ])
    refine wpAnyH_take (i := 23) (oi := { dst := some 4, op := Go.Op.assign (Go.Operand.tmp 87), type := 4, pos := "law.go:71", after := #[{ on := 22, ground := Go.Ground.data }, { on := 21, ground := Go.Ground.chain }, { on := 0, ground := Go.Ground.phase }, { on := 1, ground := Go.Ground.phase }, { on := 2, ground := Go.Ground.phase }, { on := 3, ground := Go.Ground.phase }, { on := 4, ground := Go.Ground.phase }, { on := 5, ground := Go.Ground.phase }, { on := 6, ground := Go.Ground.phase }, { on := 7, ground := Go.Ground.phase }, { on := 8, ground := Go.Ground.phase }, { on := 9, ground := Go.Ground.phase }, { on := 10, ground := Go.Ground.phase }, { on := 11, ground := Go.Ground.phase }, { on := 12, ground := Go.Ground.phase }, { on := 13, ground := Go.Ground.phase }, { on := 14, ground := Go.Ground.phase }, { on := 15, ground := Go.Ground.phase }, { on := 16, ground := Go.Ground.phase }, { on := 17, ground := Go.Ground.phase }, { on := 18, ground := Go.Ground.phase }, { on := 19, ground := Go.Ground.phase }, { on := 20, ground := Go.Ground.phase }, { on := 21, ground := Go.Ground.phase }, { on := 22, ground := Go.Ground.phase }], guard := none }) (v := ?_) rfl (by kernel_rfl) (by kernel_rfl) (by kernel_rfl) (fun _ _ _ h => h) (Or.inl ⟨by rfl, ?_⟩) (by assumption) ?_
    (rotate_left; focus (intro wS hSw; have s1 := HKC.out _ hSw; clear hSw; go_simp; (try rw [if_neg (by omega)]); try with_reducible rfl))
    (try simp only [Act.put, List.setIfInBounds_toArray, List.set_cons_zero, List.set_cons_succ])
    refine wpAnyH_done (by kernel_rfl) ?_ _
    all_goals
      go_wp2
      go_ret
      exact ⟨rfl, hP2⟩
theorem back_law (u : Value) (l : List ByteArray) (i : Int) (w : World) (h : StrsOk l w u) (hi : (Lit.int .u8 i).wf = true) : Calls Try.prog 5 #[u, .int .u8 i] w fun e w' => e = .returned (.bool true) ∧ Below w.heap.size w w' := by
  obtain ⟨a, c, rfl, hc, hl, hs, _⟩ := h
  unfold maxLen at hl
  have hmin : IntKind.u8.min = 0 := rfl
  have hmax : IntKind.u8.max = 255 := rfl
  simp only [Lit.wf, Bool.and_eq_true, decide_eq_true_eq] at hi
  obtain ⟨n, rfl⟩ : ∃ n : Nat, i = n := ⟨i.toNat, by omega⟩
  by_cases h1 : fewB l = true ∧ 0 < l.length
  · exact back_walk l a c n w hs (by omega) h1.1 h1.2
  · refine back_long l a c n w hs hl ?_
    cases h2 : fewB l with
    | false => exact .inl rfl
    | true => right; apply Classical.byContradiction; intro hc; exact h1 ⟨h2, by omega⟩
end Go.Proofs.Ytlhniaecgiockaa

