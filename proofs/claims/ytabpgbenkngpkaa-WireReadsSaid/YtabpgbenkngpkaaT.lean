/-
  The walk of WireReads.
-/
import Derived.Test.YtabpgbenkngpkaaL
set_option linter.unusedVariables false
set_option linter.unusedSimpArgs false
namespace Go.Proofs.Ytabpgbenkngpkaa
open Go.RowKit Go.WideShapes Go.ChangeShapes Go.ChangeAt Go.Deep
theorem sub_size (s : ByteArray) (i j : Nat) : (s.extract i j).size ≤ s.size := by rw [ByteArray.size_extract]; omega
theorem numO_le (s : ByteArray) (e : Int) : (numO s e).2.1.size ≤ s.size := by
  unfold numO; split
  · split
    · exact sub_size _ _ _
    · exact Nat.le_refl _
  · exact Nat.le_refl _
theorem txtO_le (s : ByteArray) (e : Int) : (txtO s e).2.1.size ≤ s.size := by
  unfold txtO; split
  · split
    · exact sub_size _ _ _
    · exact Nat.le_refl _
  · exact Nat.le_refl _
theorem lstO_le (s : ByteArray) (e : Int) : (lstO s e).2.1.size ≤ s.size := by
  unfold lstO; split
  · split
    · exact sub_size _ _ _
    · exact Nat.le_refl _
  · exact Nat.le_refl _
theorem lstG_len {s : ByteArray} : ∀ (m p : Nat) (out : List ByteArray), (lstG s m p out).1.length ≤ out.length + m
  | 0, p, out => by simp [lstG_zero]
  | m + 1, p, out => by
    rcases txtV_cases (s.extract p s.size) with ⟨t, k, h1, _⟩ | ⟨e, he, h1⟩
    · rw [lstG_ok h1]; have := lstG_len (s := s) m (p + k) (out ++ [t]); simp at this; omega
    · rw [lstG_bad he h1]; simp
theorem lstO_len (s : ByteArray) (e : Int) : (lstO s e).1.length ≤ 4096 := by
  by_cases he : e = 0
  · subst he
    have hV : (lstV s).1.length ≤ 4096 := by
      rcases readV_cases (bys s) with ⟨n, k, h, _⟩ | ⟨e, he, h⟩
      · by_cases hn : 4096 < n
        · rw [lstV_long h hn]; simp
        · rw [lstV_ok h hn]; have := lstG_len (s := s) n k []; simp at this; omega
      · rw [lstV_bad he h]; simp
    rcases lstV_cases s with ⟨l, k, h, _⟩ | ⟨e, he, h⟩
    · rw [lstO_ok h]; rw [h] at hV; exact hV
    · rw [lstO_bad he h]; simp
  · rw [lstO_err he]; simp
/-- The reader at p, the law's own at Q. -/
structure St (w : World) (p Q : Nat) (x : ByteArray) (e : Int) (y : ByteArray) (f : Int) (wr : World) : Prop where
  rd : Rd p x e wr
  q : Bk Q [.string y, .int .i64 f] wr
  lt : p < Q
  le : w.heap.size ≤ p
  below : Below w.heap.size w wr
theorem St.keep {w : World} {p Q : Nat} {x : ByteArray} {e : Int} {y : ByteArray} {f : Int} {wr w2 : World} (h : St w p Q x e y f wr) (hb : Below wr.heap.size wr w2) : St w p Q x e y f w2 :=
  ⟨h.rd.keep hb, h.q.keep hb, h.lt, h.le, below_step h.below (Nat.le_refl _) (hb.mono (Nat.le_refl _))⟩
theorem St.drew {w : World} {p Q : Nat} {x : ByteArray} {e : Int} {y : ByteArray} {f : Int} {wr : World} (h : St w p Q x e y f wr) : St w p Q x e y f wr.drew := h.keep (Below.refl _ _).drew
theorem St.put {w : World} {p Q : Nat} {x : ByteArray} {e : Int} {y : ByteArray} {f : Int} {wr : World} (h : St w p Q x e y f wr) (y' : ByteArray) (f' : Int) : St w p Q x e y' f' ((wr.setCell ⟨Q, 0, none⟩ (.string y')).setCell ⟨Q, 1, none⟩ (.int .i64 f')) :=
  ⟨(Bk.other h.rd (by have := h.lt; simp; omega) _).other (by have := h.lt; simp; omega) _, (h.q.set 0 (by simp) _).set 1 (by simp) _, h.lt, h.le, (h.below.setCell (p := ⟨Q, 0, none⟩) (by have := h.lt; have := h.le; simp; omega) _).setCell (p := ⟨Q, 1, none⟩) (by have := h.lt; have := h.le; simp; omega) _⟩
theorem St.read {w : World} {p Q : Nat} {x x' : ByteArray} {e e' : Int} {y : ByteArray} {f : Int} {wr w2 : World} (h : St w p Q x e y f wr) (hr : Rd p x' e' w2) (hk : Kp (· = p) wr w2) : St w p Q x' e' y f w2 :=
  ⟨hr, h.q.kp hk (fun e => by have := h.lt; omega), h.lt, h.le, h.below.trans (hk.below h.below.size (fun k hk => by subst hk; exact h.le))⟩
def kindC (x : Nat) : List Value := [.int .u8 x]
theorem sl_kind {w : World} {a : Option Addr} {xs : List Nat} (h : Sl kindC 1 w a xs) (i : Nat) (hi : i < xs.length) : ∃ b o, a = some ⟨b, o, none⟩ ∧ b < w.heap.size ∧ w.cell? ⟨b, o + i, none⟩ = some (.int .u8 (xs[i] : Nat)) := by
  obtain ⟨b, o, ha, hb, hc⟩ := h i hi
  refine ⟨b, o, ha, hb, ?_⟩
  have := hc 0 (.int .u8 (xs[i] : Nat)) rfl
  simpa using this
theorem reads_big (s : ByteArray) (a : Option Addr) (len cap : Nat) (w : World) (hb : 3000 < s.size ∨ 60 < len) : Calls Try.prog 4 #[.string s, .slice a len cap] w fun e w' => e = .returned (.bool true) ∧ Below w.heap.size w w' := by
  have hd : (3000 : Int) < (s.size : Int) ∨ (¬ (3000 : Int) < (s.size : Int) ∧ (60 : Int) < (len : Int)) := by omega
  go_enter Try.func4, Try.ntmps4
  rcases hd with hd | ⟨hd, hd2⟩
  all_goals
    go_wp2_with fail
    refine (awake_any _).mono ?_
    rintro e w3 ⟨rfl, hb3⟩
    go_wp2
    go_ret
    exact ⟨rfl, hb3⟩
set_option maxHeartbeats 4000000 in
theorem reads_walk (s : ByteArray) (l : List Nat) (a : Option Addr) (cap : Nat) (w : World) (h1 : s.size ≤ 3000) (h2 : l.length ≤ 60) (hl : ∀ c ∈ l, c < 256) (hs : Sl kindC 1 w a l) : Calls Try.prog 4 #[.string s, .slice a l.length cap] w fun e w' => e = .returned (.bool true) ∧ Below w.heap.size w w' := by
  have HS := Lib.hid hs
  have HL := Lib.hid hl
  clear hs hl
  have hd : ¬ (3000 : Int) < (s.size : Int) := by omega
  have hd2 : ¬ (60 : Int) < (l.length : Int) := by omega
  go_enter Try.func4, Try.ntmps4
  go_wp2_with fail
  refine (new_any s w).mono ?_
  rintro e w1 ⟨rfl, hr1, hb1⟩
  have HT0 : Hid (St w w.heap.size w1.heap.size s 0 s 0 (w1.alloc (.cells #[.string s, .int .i64 0] 38))) := Lib.hid ⟨hr1.keep (below_new _ _), Bk.new _ _ _, hr1.1, Nat.le_refl _, hb1.alloc hb1.size _⟩
  obtain ⟨p, hp⟩ : ∃ p, p = w.heap.size := ⟨_, rfl⟩
  obtain ⟨Q, hQ⟩ : ∃ Q, Q = w1.heap.size := ⟨_, rfl⟩
  rw [← hQ, ← hp] at HT0
  rw [← hp]
  have HQ := Lib.hid hQ
  have HP := Lib.hid hp
  clear hr1 hb1 hp
  go_wp2
  rw [← hQ]
  clear hQ
  go_loopw [7] (fun i wr => ∃ (k : Nat) (x : ByteArray) (e : Int), i = .int .i64 k ∧ k ≤ l.length ∧ x.size ≤ 3000 ∧ St w p Q x e x e wr) (fun i _ => l.length - (intOf i).toNat)
  case atStart => exact ⟨0, s, 0, rfl, by omega, h1, HT0.out⟩
  case round =>
    obtain ⟨k, x, e, rfl, hk, hx, hst⟩ := hrel
    have HST := Lib.hid hst
    by_cases hlt : k < l.length
    · obtain ⟨b, o, rfl, hbl, hc0⟩ := sl_kind HS.out k hlt
      have hc : wr.cell? ⟨b, o + k, none⟩ = some (.int .u8 (l[k] : Nat)) := by rw [hst.below.cell (p := ⟨b, o + k, none⟩) hbl]; exact hc0
      obtain ⟨c, hcc⟩ : ∃ c, c = l[k] := ⟨_, rfl⟩
      rw [← hcc] at hc
      have hc256 : c < 256 := by rw [hcc]; exact HL.out _ (List.getElem_mem hlt)
      obtain ⟨c0, f0⟩ := hst.q.2 0 _ rfl
      obtain ⟨c1, f1⟩ := hst.q.2 1 _ rfl
      have hsz : x.size ≤ 1099511627776 := by omega
      have hrm : Int.tmod (c : Int) 3 = (c : Int) % 3 := by rw [Int.tmod_eq_emod_of_nonneg (by omega)]
      clear hcc hc0 hst
      rcases (show c % 3 = 0 ∨ c % 3 = 1 ∨ c % 3 = 2 by omega) with hm | hm | hm
      · have e0 : ((c : Int) % 3 == 0) = true := by simp; omega
        have hm' : (c : Int) % 3 = 0 := by omega
        clear hm
        obtain ⟨n, x', e', hO⟩ : ∃ n x' e', numO x e = (n, x', e') := ⟨_, _, _, rfl⟩
        have HXL : Hid (x'.size ≤ 3000) := Lib.hid (by have := numO_le x e; rw [hO] at this; dsimp only at this; omega)
        have HR := Lib.hid (show numRR x e = .returned (.tuple #[.agg #[.string x', .int .i64 e'], .int .i64 n]) by unfold numRR; rw [hO])
        have HO := Lib.hid hO
        clear hO
        go_wp2_with fail
        refine (rn_any x e _ hsz).mono ?_
        rintro r w2 ⟨rfl, hb2⟩
        rw [HR.out]
        have h2 := HST.out.keep hb2
        obtain ⟨g0, k0⟩ := h2.q.2 0 _ rfl
        obtain ⟨g1, k1⟩ := h2.q.2 1 _ rfl
        have hq2 : Q < w2.heap.size := h2.q.1
        have HS3 := Lib.hid ((h2.put x' e').keep (below_new _ (.cells #[.string x', .int .i64 e'] 38)))
        clear h2 hb2 c0 c1 f0 f1
        go_wp2_with fail
        refine (rd_num _ _ _ _ hsz HS3.out.rd).mono ?_
        rw [HO.out]
        rintro r w4 ⟨rfl, hr4, hk4⟩
        have HS6 := Lib.hid (HS3.out.read hr4 hk4)
        clear hr4 hk4 g0 g1 k0 k1
        go_wp2
        have hP0 := HS6.out.drew
        refine wp_region_held_drew (S := fun w' => St w p Q x' e' x' e' w') (by kernel_rfl) (by (first | exact hP0 | exact hP1)) (fun hHeld => ?_)
        refine wpAnyH_take (i := 0) (oi := { dst := some 75, op := Go.Op.move (Go.Operand.tmp 8), type := 4, pos := "law.go:70", after := #[], guard := none }) (v := ?_) rfl (by kernel_rfl) (by kernel_rfl) (by kernel_rfl) (fun _ _ _ h => h) (Or.inl ⟨by rfl, ?_⟩) (by assumption) ?_
        (rotate_left; focus (intro wS hSw; have s0 := (hSw.q.2 0 _ rfl).1; have s1 := (hSw.q.2 1 _ rfl).1; clear hSw; go_simp; (try rw [if_neg (by omega)]); try with_reducible rfl))
        (try simp only [Act.put, List.setIfInBounds_toArray, List.set_cons_zero, List.set_cons_succ])
        refine wpAnyH_take (i := 1) (oi := { dst := some 76, op := Go.Op.unOp Go.UnOp.not 4 (Go.Operand.tmp 75), type := 4, pos := "law.go:70", after := #[{ on := 0, ground := Go.Ground.data }], guard := none }) (v := ?_) rfl (by kernel_rfl) (by kernel_rfl) (by kernel_rfl) (fun _ _ _ h => h) (Or.inl ⟨by rfl, ?_⟩) (by assumption) ?_
        (rotate_left; focus (intro wS hSw; have s0 := (hSw.q.2 0 _ rfl).1; have s1 := (hSw.q.2 1 _ rfl).1; clear hSw; go_simp; (try rw [if_neg (by omega)]); try with_reducible rfl))
        (try simp only [Act.put, List.setIfInBounds_toArray, List.set_cons_zero, List.set_cons_succ])
        refine wpAnyH_take (i := 2) (oi := { dst := some 77, op := Go.Op.move (Go.Operand.tmp 76), type := 4, pos := "law.go:70", after := #[{ on := 1, ground := Go.Ground.data }], guard := none }) (v := ?_) rfl (by kernel_rfl) (by kernel_rfl) (by kernel_rfl) (fun _ _ _ h => h) (Or.inl ⟨by rfl, ?_⟩) (by assumption) ?_
        (rotate_left; focus (intro wS hSw; have s0 := (hSw.q.2 0 _ rfl).1; have s1 := (hSw.q.2 1 _ rfl).1; clear hSw; go_simp; (try rw [if_neg (by omega)]); try with_reducible rfl))
        (try simp only [Act.put, List.setIfInBounds_toArray, List.set_cons_zero, List.set_cons_succ])
        refine wpAnyH_take (i := 3) (oi := { dst := some 78, op := Go.Op.move (Go.Operand.tmp 5), type := 35, pos := "law.go:70", after := #[{ on := 2, ground := Go.Ground.guard }], guard := some (2, false) }) (v := ?_) rfl (by kernel_rfl) (by kernel_rfl) (by kernel_rfl) (fun _ _ _ h => h) (Or.inl ⟨by rfl, ?_⟩) (by assumption) ?_
        (rotate_left; focus (intro wS hSw; have s0 := (hSw.q.2 0 _ rfl).1; have s1 := (hSw.q.2 1 _ rfl).1; clear hSw; go_simp; (try rw [if_neg (by omega)]); try with_reducible rfl))
        (try simp only [Act.put, List.setIfInBounds_toArray, List.set_cons_zero, List.set_cons_succ])
        refine wpAnyH_take (i := 5) (oi := { dst := some 80, op := Go.Op.fieldAddr 38 (Go.Operand.tmp 6) 1, type := 0, pos := "law.go:70", after := #[{ on := 2, ground := Go.Ground.guard }], guard := some (2, false) }) (v := ?_) rfl (by kernel_rfl) (by kernel_rfl) (by kernel_rfl) (fun _ _ _ h => h) (Or.inl ⟨by rfl, ?_⟩) (by assumption) ?_
        (rotate_left; focus (intro wS hSw; have s0 := (hSw.q.2 0 _ rfl).1; have s1 := (hSw.q.2 1 _ rfl).1; clear hSw; go_simp; (try rw [if_neg (by omega)]); try with_reducible rfl))
        (try simp only [Act.put, List.setIfInBounds_toArray, List.set_cons_zero, List.set_cons_succ])
        refine wpAnyH_take (i := 6) (oi := { dst := some 81, op := Go.Op.load 3 (Go.Operand.tmp 80), type := 3, pos := "law.go:70", after := #[{ on := 5, ground := Go.Ground.data }, { on := 2, ground := Go.Ground.guard }], guard := some (2, false) }) (v := ?_) rfl (by kernel_rfl) (by kernel_rfl) (by kernel_rfl) (fun _ _ _ h => h) (Or.inl ⟨by rfl, ?_⟩) (by assumption) ?_
        (rotate_left; focus (intro wS hSw; have s0 := (hSw.q.2 0 _ rfl).1; have s1 := (hSw.q.2 1 _ rfl).1; clear hSw; go_simp; (try rw [if_neg (by omega)]); try with_reducible rfl))
        (try simp only [Act.put, List.setIfInBounds_toArray, List.set_cons_zero, List.set_cons_succ])
        refine wpAnyH_ready (rs := [4]) (by kernel_rfl) (by simp) ?_
        refine AllReadyH.cons (o := { dst := some 79, op := Go.Op.call { callee := Go.Callee.value (Go.Operand.func 22), args := #[Go.Operand.tmp 78], argTypes := #[35] }, type := 23, pos := "law.go:70", after := #[{ on := 3, ground := Go.Ground.data }, { on := 2, ground := Go.Ground.chain }, { on := 2, ground := Go.Ground.guard }], guard := some (2, false) }) rfl (fun K hK => ?_) AllReadyH.nil
        go_simp
        refine (err_any _ _ _ _ hHeld.rd).mono ?_
        rintro r v1 ⟨rfl, hx⟩
        obtain rfl := hx.symm
        clear hx
        (try go_wp2_with fail)
        refine hK.out _ _ (by (first | exact hP0 | exact hP1)) (fun hHeld => ?_)
        clear hK K
        (try simp only [Act.put, List.setIfInBounds_toArray, List.set_cons_zero, List.set_cons_succ])
        refine wpAnyH_take (i := 7) (oi := { dst := some 82, op := Go.Op.binOp Go.BinOp.neq 3 (Go.Operand.tmp 79) (Go.Operand.tmp 81) 3, type := 4, pos := "law.go:70", after := #[{ on := 4, ground := Go.Ground.data }, { on := 6, ground := Go.Ground.data }, { on := 2, ground := Go.Ground.guard }], guard := some (2, false) }) (v := ?_) rfl (by kernel_rfl) (by kernel_rfl) (by kernel_rfl) (fun _ _ _ h => h) (Or.inl ⟨by rfl, ?_⟩) (by assumption) ?_
        (rotate_left; focus (intro wS hSw; have s0 := (hSw.q.2 0 _ rfl).1; have s1 := (hSw.q.2 1 _ rfl).1; clear hSw; go_simp; (try rw [if_neg (by omega)]); try with_reducible rfl))
        (try simp only [Act.put, List.setIfInBounds_toArray, List.set_cons_zero, List.set_cons_succ])
        refine wpAnyH_take (i := 8) (oi := { dst := some 83, op := Go.Op.pick (Go.Operand.tmp 77) (Go.Operand.const (Go.Value.bool true)) (Go.Operand.tmp 82), type := 4, pos := "law.go:70", after := #[{ on := 2, ground := Go.Ground.data }, { on := 7, ground := Go.Ground.data }], guard := none }) (v := ?_) rfl (by kernel_rfl) (by kernel_rfl) (by kernel_rfl) (fun _ _ _ h => h) (Or.inl ⟨by rfl, ?_⟩) (by assumption) ?_
        (rotate_left; focus (intro wS hSw; have s0 := (hSw.q.2 0 _ rfl).1; have s1 := (hSw.q.2 1 _ rfl).1; clear hSw; go_simp; (try rw [if_neg (by omega)]); try with_reducible rfl))
        (try simp only [Act.put, List.setIfInBounds_toArray, List.set_cons_zero, List.set_cons_succ])
        refine wpAnyH_take (i := 9) (oi := { dst := some 84, op := Go.Op.move (Go.Operand.tmp 83), type := 4, pos := "law.go:70", after := #[{ on := 8, ground := Go.Ground.data }, { on := 4, ground := Go.Ground.chain }], guard := none }) (v := ?_) rfl (by kernel_rfl) (by kernel_rfl) (by kernel_rfl) (fun _ _ _ h => h) (Or.inl ⟨by rfl, ?_⟩) (by assumption) ?_
        (rotate_left; focus (intro wS hSw; have s0 := (hSw.q.2 0 _ rfl).1; have s1 := (hSw.q.2 1 _ rfl).1; clear hSw; go_simp; (try rw [if_neg (by omega)]); try with_reducible rfl))
        (try simp only [Act.put, List.setIfInBounds_toArray, List.set_cons_zero, List.set_cons_succ])
        refine wpAnyH_take (i := 10) (oi := { dst := some 85, op := Go.Op.move (Go.Operand.tmp 5), type := 35, pos := "law.go:70", after := #[{ on := 9, ground := Go.Ground.guard }], guard := some (9, false) }) (v := ?_) rfl (by kernel_rfl) (by kernel_rfl) (by kernel_rfl) (fun _ _ _ h => h) (Or.inl ⟨by rfl, ?_⟩) (by assumption) ?_
        (rotate_left; focus (intro wS hSw; have s0 := (hSw.q.2 0 _ rfl).1; have s1 := (hSw.q.2 1 _ rfl).1; clear hSw; go_simp; (try rw [if_neg (by omega)]); try with_reducible rfl))
        (try simp only [Act.put, List.setIfInBounds_toArray, List.set_cons_zero, List.set_cons_succ])
        refine wpAnyH_take (i := 12) (oi := { dst := some 87, op := Go.Op.load 38 (Go.Operand.tmp 6), type := 38, pos := "law.go:70", after := #[{ on := 9, ground := Go.Ground.guard }], guard := some (9, false) }) (v := ?_) rfl (by kernel_rfl) (by kernel_rfl) (by kernel_rfl) (fun _ _ _ h => h) (Or.inl ⟨by rfl, ?_⟩) (by assumption) ?_
        (rotate_left; focus (intro wS hSw; have s0 := (hSw.q.2 0 _ rfl).1; have s1 := (hSw.q.2 1 _ rfl).1; clear hSw; go_simp; (try rw [if_neg (by omega)]); try with_reducible rfl))
        (try simp only [Act.put, List.setIfInBounds_toArray, List.set_cons_zero, List.set_cons_succ])
        refine wpAnyH_ready (rs := [11]) (by kernel_rfl) (by simp) ?_
        refine AllReadyH.cons (o := { dst := some 86, op := Go.Op.call { callee := Go.Callee.value (Go.Operand.func 23), args := #[Go.Operand.tmp 85], argTypes := #[35] }, type := 23, pos := "law.go:70", after := #[{ on := 10, ground := Go.Ground.data }, { on := 9, ground := Go.Ground.chain }, { on := 9, ground := Go.Ground.guard }], guard := some (9, false) }) rfl (fun K hK => ?_) AllReadyH.nil
        go_simp
        refine (done_any _ _ _ _ hHeld.rd).mono ?_
        rintro r v1 ⟨rfl, hx⟩
        obtain rfl := hx.symm
        clear hx
        (try go_wp2_with fail)
        refine hK.out _ _ (by (first | exact hP0 | exact hP1)) (fun hHeld => ?_)
        clear hK K
        (try simp only [Act.put, List.setIfInBounds_toArray, List.set_cons_zero, List.set_cons_succ])
        refine wpAnyH_ready (rs := [13]) (by kernel_rfl) (by simp) ?_
        refine AllReadyH.cons (o := { dst := some 88, op := Go.Op.call { callee := Go.Callee.value (Go.Operand.func 24), args := #[Go.Operand.tmp 87], argTypes := #[38] }, type := 3, pos := "law.go:70", after := #[{ on := 12, ground := Go.Ground.data }, { on := 11, ground := Go.Ground.chain }, { on := 9, ground := Go.Ground.guard }], guard := some (9, false) }) rfl (fun K hK => ?_) AllReadyH.nil
        go_simp
        refine (rdone_any _ _ _).mono ?_
        rintro r v1 ⟨rfl, hbv⟩
        have hP1 := hHeld.keep hbv
        clear hbv
        (try go_wp2_with fail)
        refine hK.out _ _ (by (first | exact hP0 | exact hP1)) (fun hHeld => ?_)
        clear hK K
        (try simp only [Act.put, List.setIfInBounds_toArray, List.set_cons_zero, List.set_cons_succ])
        refine wpAnyH_take (i := 14) (oi := { dst := some 89, op := Go.Op.binOp Go.BinOp.neq 3 (Go.Operand.tmp 86) (Go.Operand.tmp 88) 3, type := 4, pos := "law.go:70", after := #[{ on := 11, ground := Go.Ground.data }, { on := 13, ground := Go.Ground.data }, { on := 9, ground := Go.Ground.guard }], guard := some (9, false) }) (v := ?_) rfl (by kernel_rfl) (by kernel_rfl) (by kernel_rfl) (fun _ _ _ h => h) (Or.inl ⟨by rfl, ?_⟩) (by assumption) ?_
        (rotate_left; focus (intro wS hSw; have s0 := (hSw.q.2 0 _ rfl).1; have s1 := (hSw.q.2 1 _ rfl).1; clear hSw; go_simp; (try rw [if_neg (by omega)]); try with_reducible rfl))
        (try simp only [Act.put, List.setIfInBounds_toArray, List.set_cons_zero, List.set_cons_succ])
        refine wpAnyH_take (i := 15) (oi := { dst := some 90, op := Go.Op.pick (Go.Operand.tmp 84) (Go.Operand.const (Go.Value.bool true)) (Go.Operand.tmp 89), type := 4, pos := "law.go:70", after := #[{ on := 9, ground := Go.Ground.data }, { on := 14, ground := Go.Ground.data }], guard := none }) (v := ?_) rfl (by kernel_rfl) (by kernel_rfl) (by kernel_rfl) (fun _ _ _ h => h) (Or.inl ⟨by rfl, ?_⟩) (by assumption) ?_
        (rotate_left; focus (intro wS hSw; have s0 := (hSw.q.2 0 _ rfl).1; have s1 := (hSw.q.2 1 _ rfl).1; clear hSw; go_simp; (try rw [if_neg (by omega)]); try with_reducible rfl))
        (try simp only [Act.put, List.setIfInBounds_toArray, List.set_cons_zero, List.set_cons_succ])
        refine wpAnyH_done (by kernel_rfl) ?_ _
        all_goals
          go_wp2
          exact ⟨⟨k + 1, _, _, vint (by omega), by omega, HXL.out, by assumption⟩, by simp [intOf]; omega⟩
      · have e0 : ((c : Int) % 3 == 0) = false := by simp; omega
        have e1 : ((c : Int) % 3 == 1) = true := by simp; omega
        have hm' : (c : Int) % 3 = 1 := by omega
        clear hm
        obtain ⟨n, x', e', hO⟩ : ∃ n x' e', txtO x e = (n, x', e') := ⟨_, _, _, rfl⟩
        have HXL : Hid (x'.size ≤ 3000) := Lib.hid (by have := txtO_le x e; rw [hO] at this; dsimp only at this; omega)
        have HR := Lib.hid (show txtRR x e = .returned (.tuple #[.agg #[.string x', .int .i64 e'], .string n]) by unfold txtRR; rw [hO])
        have HO := Lib.hid hO
        clear hO
        have e5 := str_eq (X := n) rfl
        go_wp2_with fail
        refine (rt_any x e _ hsz).mono ?_
        rintro r w2 ⟨rfl, hb2⟩
        rw [HR.out]
        have h2 := HST.out.keep hb2
        obtain ⟨g0, k0⟩ := h2.q.2 0 _ rfl
        obtain ⟨g1, k1⟩ := h2.q.2 1 _ rfl
        have hq2 : Q < w2.heap.size := h2.q.1
        have HS3 := Lib.hid ((h2.put x' e').keep (below_new _ (.cells #[.string x', .int .i64 e'] 38)))
        clear h2 hb2 c0 c1 f0 f1
        go_wp2_with fail
        refine (rd_text _ _ _ _ hsz HS3.out.rd).mono ?_
        rw [HO.out]
        rintro r w4 ⟨rfl, hr4, hk4⟩
        have HS6 := Lib.hid (HS3.out.read hr4 hk4)
        clear hr4 hk4 g0 g1 k0 k1
        go_wp2
        have hP0 := HS6.out.drew
        refine wp_region_held_drew (S := fun w' => St w p Q x' e' x' e' w') (by kernel_rfl) (by (first | exact hP0 | exact hP1)) (fun hHeld => ?_)
        refine wpAnyH_take (i := 0) (oi := { dst := some 75, op := Go.Op.move (Go.Operand.tmp 8), type := 4, pos := "law.go:70", after := #[], guard := none }) (v := ?_) rfl (by kernel_rfl) (by kernel_rfl) (by kernel_rfl) (fun _ _ _ h => h) (Or.inl ⟨by rfl, ?_⟩) (by assumption) ?_
        (rotate_left; focus (intro wS hSw; have s0 := (hSw.q.2 0 _ rfl).1; have s1 := (hSw.q.2 1 _ rfl).1; clear hSw; go_simp; (try rw [if_neg (by omega)]); try with_reducible rfl))
        (try simp only [Act.put, List.setIfInBounds_toArray, List.set_cons_zero, List.set_cons_succ])
        refine wpAnyH_take (i := 1) (oi := { dst := some 76, op := Go.Op.unOp Go.UnOp.not 4 (Go.Operand.tmp 75), type := 4, pos := "law.go:70", after := #[{ on := 0, ground := Go.Ground.data }], guard := none }) (v := ?_) rfl (by kernel_rfl) (by kernel_rfl) (by kernel_rfl) (fun _ _ _ h => h) (Or.inl ⟨by rfl, ?_⟩) (by assumption) ?_
        (rotate_left; focus (intro wS hSw; have s0 := (hSw.q.2 0 _ rfl).1; have s1 := (hSw.q.2 1 _ rfl).1; clear hSw; go_simp; (try rw [if_neg (by omega)]); try with_reducible rfl))
        (try simp only [Act.put, List.setIfInBounds_toArray, List.set_cons_zero, List.set_cons_succ])
        refine wpAnyH_take (i := 2) (oi := { dst := some 77, op := Go.Op.move (Go.Operand.tmp 76), type := 4, pos := "law.go:70", after := #[{ on := 1, ground := Go.Ground.data }], guard := none }) (v := ?_) rfl (by kernel_rfl) (by kernel_rfl) (by kernel_rfl) (fun _ _ _ h => h) (Or.inl ⟨by rfl, ?_⟩) (by assumption) ?_
        (rotate_left; focus (intro wS hSw; have s0 := (hSw.q.2 0 _ rfl).1; have s1 := (hSw.q.2 1 _ rfl).1; clear hSw; go_simp; (try rw [if_neg (by omega)]); try with_reducible rfl))
        (try simp only [Act.put, List.setIfInBounds_toArray, List.set_cons_zero, List.set_cons_succ])
        refine wpAnyH_take (i := 3) (oi := { dst := some 78, op := Go.Op.move (Go.Operand.tmp 5), type := 35, pos := "law.go:70", after := #[{ on := 2, ground := Go.Ground.guard }], guard := some (2, false) }) (v := ?_) rfl (by kernel_rfl) (by kernel_rfl) (by kernel_rfl) (fun _ _ _ h => h) (Or.inl ⟨by rfl, ?_⟩) (by assumption) ?_
        (rotate_left; focus (intro wS hSw; have s0 := (hSw.q.2 0 _ rfl).1; have s1 := (hSw.q.2 1 _ rfl).1; clear hSw; go_simp; (try rw [if_neg (by omega)]); try with_reducible rfl))
        (try simp only [Act.put, List.setIfInBounds_toArray, List.set_cons_zero, List.set_cons_succ])
        refine wpAnyH_take (i := 5) (oi := { dst := some 80, op := Go.Op.fieldAddr 38 (Go.Operand.tmp 6) 1, type := 0, pos := "law.go:70", after := #[{ on := 2, ground := Go.Ground.guard }], guard := some (2, false) }) (v := ?_) rfl (by kernel_rfl) (by kernel_rfl) (by kernel_rfl) (fun _ _ _ h => h) (Or.inl ⟨by rfl, ?_⟩) (by assumption) ?_
        (rotate_left; focus (intro wS hSw; have s0 := (hSw.q.2 0 _ rfl).1; have s1 := (hSw.q.2 1 _ rfl).1; clear hSw; go_simp; (try rw [if_neg (by omega)]); try with_reducible rfl))
        (try simp only [Act.put, List.setIfInBounds_toArray, List.set_cons_zero, List.set_cons_succ])
        refine wpAnyH_take (i := 6) (oi := { dst := some 81, op := Go.Op.load 3 (Go.Operand.tmp 80), type := 3, pos := "law.go:70", after := #[{ on := 5, ground := Go.Ground.data }, { on := 2, ground := Go.Ground.guard }], guard := some (2, false) }) (v := ?_) rfl (by kernel_rfl) (by kernel_rfl) (by kernel_rfl) (fun _ _ _ h => h) (Or.inl ⟨by rfl, ?_⟩) (by assumption) ?_
        (rotate_left; focus (intro wS hSw; have s0 := (hSw.q.2 0 _ rfl).1; have s1 := (hSw.q.2 1 _ rfl).1; clear hSw; go_simp; (try rw [if_neg (by omega)]); try with_reducible rfl))
        (try simp only [Act.put, List.setIfInBounds_toArray, List.set_cons_zero, List.set_cons_succ])
        refine wpAnyH_ready (rs := [4]) (by kernel_rfl) (by simp) ?_
        refine AllReadyH.cons (o := { dst := some 79, op := Go.Op.call { callee := Go.Callee.value (Go.Operand.func 22), args := #[Go.Operand.tmp 78], argTypes := #[35] }, type := 23, pos := "law.go:70", after := #[{ on := 3, ground := Go.Ground.data }, { on := 2, ground := Go.Ground.chain }, { on := 2, ground := Go.Ground.guard }], guard := some (2, false) }) rfl (fun K hK => ?_) AllReadyH.nil
        go_simp
        refine (err_any _ _ _ _ hHeld.rd).mono ?_
        rintro r v1 ⟨rfl, hx⟩
        obtain rfl := hx.symm
        clear hx
        (try go_wp2_with fail)
        refine hK.out _ _ (by (first | exact hP0 | exact hP1)) (fun hHeld => ?_)
        clear hK K
        (try simp only [Act.put, List.setIfInBounds_toArray, List.set_cons_zero, List.set_cons_succ])
        refine wpAnyH_take (i := 7) (oi := { dst := some 82, op := Go.Op.binOp Go.BinOp.neq 3 (Go.Operand.tmp 79) (Go.Operand.tmp 81) 3, type := 4, pos := "law.go:70", after := #[{ on := 4, ground := Go.Ground.data }, { on := 6, ground := Go.Ground.data }, { on := 2, ground := Go.Ground.guard }], guard := some (2, false) }) (v := ?_) rfl (by kernel_rfl) (by kernel_rfl) (by kernel_rfl) (fun _ _ _ h => h) (Or.inl ⟨by rfl, ?_⟩) (by assumption) ?_
        (rotate_left; focus (intro wS hSw; have s0 := (hSw.q.2 0 _ rfl).1; have s1 := (hSw.q.2 1 _ rfl).1; clear hSw; go_simp; (try rw [if_neg (by omega)]); try with_reducible rfl))
        (try simp only [Act.put, List.setIfInBounds_toArray, List.set_cons_zero, List.set_cons_succ])
        refine wpAnyH_take (i := 8) (oi := { dst := some 83, op := Go.Op.pick (Go.Operand.tmp 77) (Go.Operand.const (Go.Value.bool true)) (Go.Operand.tmp 82), type := 4, pos := "law.go:70", after := #[{ on := 2, ground := Go.Ground.data }, { on := 7, ground := Go.Ground.data }], guard := none }) (v := ?_) rfl (by kernel_rfl) (by kernel_rfl) (by kernel_rfl) (fun _ _ _ h => h) (Or.inl ⟨by rfl, ?_⟩) (by assumption) ?_
        (rotate_left; focus (intro wS hSw; have s0 := (hSw.q.2 0 _ rfl).1; have s1 := (hSw.q.2 1 _ rfl).1; clear hSw; go_simp; (try rw [if_neg (by omega)]); try with_reducible rfl))
        (try simp only [Act.put, List.setIfInBounds_toArray, List.set_cons_zero, List.set_cons_succ])
        refine wpAnyH_take (i := 9) (oi := { dst := some 84, op := Go.Op.move (Go.Operand.tmp 83), type := 4, pos := "law.go:70", after := #[{ on := 8, ground := Go.Ground.data }, { on := 4, ground := Go.Ground.chain }], guard := none }) (v := ?_) rfl (by kernel_rfl) (by kernel_rfl) (by kernel_rfl) (fun _ _ _ h => h) (Or.inl ⟨by rfl, ?_⟩) (by assumption) ?_
        (rotate_left; focus (intro wS hSw; have s0 := (hSw.q.2 0 _ rfl).1; have s1 := (hSw.q.2 1 _ rfl).1; clear hSw; go_simp; (try rw [if_neg (by omega)]); try with_reducible rfl))
        (try simp only [Act.put, List.setIfInBounds_toArray, List.set_cons_zero, List.set_cons_succ])
        refine wpAnyH_take (i := 10) (oi := { dst := some 85, op := Go.Op.move (Go.Operand.tmp 5), type := 35, pos := "law.go:70", after := #[{ on := 9, ground := Go.Ground.guard }], guard := some (9, false) }) (v := ?_) rfl (by kernel_rfl) (by kernel_rfl) (by kernel_rfl) (fun _ _ _ h => h) (Or.inl ⟨by rfl, ?_⟩) (by assumption) ?_
        (rotate_left; focus (intro wS hSw; have s0 := (hSw.q.2 0 _ rfl).1; have s1 := (hSw.q.2 1 _ rfl).1; clear hSw; go_simp; (try rw [if_neg (by omega)]); try with_reducible rfl))
        (try simp only [Act.put, List.setIfInBounds_toArray, List.set_cons_zero, List.set_cons_succ])
        refine wpAnyH_take (i := 12) (oi := { dst := some 87, op := Go.Op.load 38 (Go.Operand.tmp 6), type := 38, pos := "law.go:70", after := #[{ on := 9, ground := Go.Ground.guard }], guard := some (9, false) }) (v := ?_) rfl (by kernel_rfl) (by kernel_rfl) (by kernel_rfl) (fun _ _ _ h => h) (Or.inl ⟨by rfl, ?_⟩) (by assumption) ?_
        (rotate_left; focus (intro wS hSw; have s0 := (hSw.q.2 0 _ rfl).1; have s1 := (hSw.q.2 1 _ rfl).1; clear hSw; go_simp; (try rw [if_neg (by omega)]); try with_reducible rfl))
        (try simp only [Act.put, List.setIfInBounds_toArray, List.set_cons_zero, List.set_cons_succ])
        refine wpAnyH_ready (rs := [11]) (by kernel_rfl) (by simp) ?_
        refine AllReadyH.cons (o := { dst := some 86, op := Go.Op.call { callee := Go.Callee.value (Go.Operand.func 23), args := #[Go.Operand.tmp 85], argTypes := #[35] }, type := 23, pos := "law.go:70", after := #[{ on := 10, ground := Go.Ground.data }, { on := 9, ground := Go.Ground.chain }, { on := 9, ground := Go.Ground.guard }], guard := some (9, false) }) rfl (fun K hK => ?_) AllReadyH.nil
        go_simp
        refine (done_any _ _ _ _ hHeld.rd).mono ?_
        rintro r v1 ⟨rfl, hx⟩
        obtain rfl := hx.symm
        clear hx
        (try go_wp2_with fail)
        refine hK.out _ _ (by (first | exact hP0 | exact hP1)) (fun hHeld => ?_)
        clear hK K
        (try simp only [Act.put, List.setIfInBounds_toArray, List.set_cons_zero, List.set_cons_succ])
        refine wpAnyH_ready (rs := [13]) (by kernel_rfl) (by simp) ?_
        refine AllReadyH.cons (o := { dst := some 88, op := Go.Op.call { callee := Go.Callee.value (Go.Operand.func 24), args := #[Go.Operand.tmp 87], argTypes := #[38] }, type := 3, pos := "law.go:70", after := #[{ on := 12, ground := Go.Ground.data }, { on := 11, ground := Go.Ground.chain }, { on := 9, ground := Go.Ground.guard }], guard := some (9, false) }) rfl (fun K hK => ?_) AllReadyH.nil
        go_simp
        refine (rdone_any _ _ _).mono ?_
        rintro r v1 ⟨rfl, hbv⟩
        have hP1 := hHeld.keep hbv
        clear hbv
        (try go_wp2_with fail)
        refine hK.out _ _ (by (first | exact hP0 | exact hP1)) (fun hHeld => ?_)
        clear hK K
        (try simp only [Act.put, List.setIfInBounds_toArray, List.set_cons_zero, List.set_cons_succ])
        refine wpAnyH_take (i := 14) (oi := { dst := some 89, op := Go.Op.binOp Go.BinOp.neq 3 (Go.Operand.tmp 86) (Go.Operand.tmp 88) 3, type := 4, pos := "law.go:70", after := #[{ on := 11, ground := Go.Ground.data }, { on := 13, ground := Go.Ground.data }, { on := 9, ground := Go.Ground.guard }], guard := some (9, false) }) (v := ?_) rfl (by kernel_rfl) (by kernel_rfl) (by kernel_rfl) (fun _ _ _ h => h) (Or.inl ⟨by rfl, ?_⟩) (by assumption) ?_
        (rotate_left; focus (intro wS hSw; have s0 := (hSw.q.2 0 _ rfl).1; have s1 := (hSw.q.2 1 _ rfl).1; clear hSw; go_simp; (try rw [if_neg (by omega)]); try with_reducible rfl))
        (try simp only [Act.put, List.setIfInBounds_toArray, List.set_cons_zero, List.set_cons_succ])
        refine wpAnyH_take (i := 15) (oi := { dst := some 90, op := Go.Op.pick (Go.Operand.tmp 84) (Go.Operand.const (Go.Value.bool true)) (Go.Operand.tmp 89), type := 4, pos := "law.go:70", after := #[{ on := 9, ground := Go.Ground.data }, { on := 14, ground := Go.Ground.data }], guard := none }) (v := ?_) rfl (by kernel_rfl) (by kernel_rfl) (by kernel_rfl) (fun _ _ _ h => h) (Or.inl ⟨by rfl, ?_⟩) (by assumption) ?_
        (rotate_left; focus (intro wS hSw; have s0 := (hSw.q.2 0 _ rfl).1; have s1 := (hSw.q.2 1 _ rfl).1; clear hSw; go_simp; (try rw [if_neg (by omega)]); try with_reducible rfl))
        (try simp only [Act.put, List.setIfInBounds_toArray, List.set_cons_zero, List.set_cons_succ])
        refine wpAnyH_done (by kernel_rfl) ?_ _
        all_goals
          go_wp2
          exact ⟨⟨k + 1, _, _, vint (by omega), by omega, HXL.out, by assumption⟩, by simp [intOf]; omega⟩
      · have e0 : ((c : Int) % 3 == 0) = false := by simp; omega
        have e1 : ((c : Int) % 3 == 1) = false := by simp; omega
        have hm' : (c : Int) % 3 = 2 := by omega
        clear hm
        obtain ⟨n, x', e', hO⟩ : ∃ n x' e', lstO x e = (n, x', e') := ⟨_, _, _, rfl⟩
        have HXL : Hid (x'.size ≤ 3000) := Lib.hid (by have := lstO_le x e; rw [hO] at this; dsimp only at this; omega)
        have HNL : Hid (n.length ≤ 4096) := Lib.hid (by have := lstO_len x e; rw [hO] at this; exact this)
        have HO := Lib.hid hO
        clear hO
        go_wp2_with fail
        refine (rl_any x e _ hsz).mono ?_
        unfold rlR
        rw [HO.out]
        rintro r w2 ⟨a2, cap2, rfl, hcap2, hsl2, hnew2, hb2⟩
        have h2 := HST.out.keep hb2
        obtain ⟨g0, k0⟩ := h2.q.2 0 _ rfl
        obtain ⟨g1, k1⟩ := h2.q.2 1 _ rfl
        have hq2 : Q < w2.heap.size := h2.q.1
        have HS3 := Lib.hid ((h2.put x' e').keep (below_new _ (.cells #[.string x', .int .i64 e'] 38)))
        have HSL3 : Hid (Sl strC 1 (((w2.setCell ⟨Q, 0, none⟩ (.string x')).setCell ⟨Q, 1, none⟩ (.int .i64 e')).alloc (.cells #[.string x', .int .i64 e'] 38)) a2 n) := Lib.hid ((sl_kp hsl2 (kp_two Q (.string x') (.int .i64 e') w2) (fun b o hab e => by
          have h1 := hnew2 b o hab
          have h2 := HST.out.q.1
          omega)).keep (below_new _ _))
        have HNW := Lib.hid hnew2
        clear h2 hb2 c0 c1 f0 f1 hnew2 hsl2
        go_wp2_with fail
        refine (rd_list _ _ _ _ hsz HS3.out.rd).mono ?_
        rw [HO.out]
        rintro r w4 ⟨⟨a4, cap4, rfl, hcap4, hsl4, hnew4⟩, hr4, hk4⟩
        have HSL4 := Lib.hid (sl_kp HSL3.out hk4 (fun b o hab e => by
          have h1 := HNW.out b o hab
          have h2 := HST.out.rd.1
          omega))
        have HS4 := Lib.hid (HS3.out.read hr4 hk4)
        have HSL5 := Lib.hid hsl4
        clear hsl4 hnew4 hr4 hk4 g0 g1 k0 k1
        go_wp2_with fail
        refine (texts_any n n a4 a2 cap4 cap2 w4 HSL5.out HSL4.out (by have := HNL.out; omega)).mono ?_
        rintro r w5 ⟨rfl, n5, rfl⟩
        rw [decide_eq_true rfl]
        have HS6 := Lib.hid (HS4.out.keep (below_drewN (Below.refl _ _) n5))
        clear hcap2
        go_wp2
        have hP0 := HS6.out.drew
        refine wp_region_held_drew (S := fun w' => St w p Q x' e' x' e' w') (by kernel_rfl) (by (first | exact hP0 | exact hP1)) (fun hHeld => ?_)
        refine wpAnyH_take (i := 0) (oi := { dst := some 75, op := Go.Op.move (Go.Operand.tmp 8), type := 4, pos := "law.go:70", after := #[], guard := none }) (v := ?_) rfl (by kernel_rfl) (by kernel_rfl) (by kernel_rfl) (fun _ _ _ h => h) (Or.inl ⟨by rfl, ?_⟩) (by assumption) ?_
        (rotate_left; focus (intro wS hSw; have s0 := (hSw.q.2 0 _ rfl).1; have s1 := (hSw.q.2 1 _ rfl).1; clear hSw; go_simp; (try rw [if_neg (by omega)]); try with_reducible rfl))
        (try simp only [Act.put, List.setIfInBounds_toArray, List.set_cons_zero, List.set_cons_succ])
        refine wpAnyH_take (i := 1) (oi := { dst := some 76, op := Go.Op.unOp Go.UnOp.not 4 (Go.Operand.tmp 75), type := 4, pos := "law.go:70", after := #[{ on := 0, ground := Go.Ground.data }], guard := none }) (v := ?_) rfl (by kernel_rfl) (by kernel_rfl) (by kernel_rfl) (fun _ _ _ h => h) (Or.inl ⟨by rfl, ?_⟩) (by assumption) ?_
        (rotate_left; focus (intro wS hSw; have s0 := (hSw.q.2 0 _ rfl).1; have s1 := (hSw.q.2 1 _ rfl).1; clear hSw; go_simp; (try rw [if_neg (by omega)]); try with_reducible rfl))
        (try simp only [Act.put, List.setIfInBounds_toArray, List.set_cons_zero, List.set_cons_succ])
        refine wpAnyH_take (i := 2) (oi := { dst := some 77, op := Go.Op.move (Go.Operand.tmp 76), type := 4, pos := "law.go:70", after := #[{ on := 1, ground := Go.Ground.data }], guard := none }) (v := ?_) rfl (by kernel_rfl) (by kernel_rfl) (by kernel_rfl) (fun _ _ _ h => h) (Or.inl ⟨by rfl, ?_⟩) (by assumption) ?_
        (rotate_left; focus (intro wS hSw; have s0 := (hSw.q.2 0 _ rfl).1; have s1 := (hSw.q.2 1 _ rfl).1; clear hSw; go_simp; (try rw [if_neg (by omega)]); try with_reducible rfl))
        (try simp only [Act.put, List.setIfInBounds_toArray, List.set_cons_zero, List.set_cons_succ])
        refine wpAnyH_take (i := 3) (oi := { dst := some 78, op := Go.Op.move (Go.Operand.tmp 5), type := 35, pos := "law.go:70", after := #[{ on := 2, ground := Go.Ground.guard }], guard := some (2, false) }) (v := ?_) rfl (by kernel_rfl) (by kernel_rfl) (by kernel_rfl) (fun _ _ _ h => h) (Or.inl ⟨by rfl, ?_⟩) (by assumption) ?_
        (rotate_left; focus (intro wS hSw; have s0 := (hSw.q.2 0 _ rfl).1; have s1 := (hSw.q.2 1 _ rfl).1; clear hSw; go_simp; (try rw [if_neg (by omega)]); try with_reducible rfl))
        (try simp only [Act.put, List.setIfInBounds_toArray, List.set_cons_zero, List.set_cons_succ])
        refine wpAnyH_take (i := 5) (oi := { dst := some 80, op := Go.Op.fieldAddr 38 (Go.Operand.tmp 6) 1, type := 0, pos := "law.go:70", after := #[{ on := 2, ground := Go.Ground.guard }], guard := some (2, false) }) (v := ?_) rfl (by kernel_rfl) (by kernel_rfl) (by kernel_rfl) (fun _ _ _ h => h) (Or.inl ⟨by rfl, ?_⟩) (by assumption) ?_
        (rotate_left; focus (intro wS hSw; have s0 := (hSw.q.2 0 _ rfl).1; have s1 := (hSw.q.2 1 _ rfl).1; clear hSw; go_simp; (try rw [if_neg (by omega)]); try with_reducible rfl))
        (try simp only [Act.put, List.setIfInBounds_toArray, List.set_cons_zero, List.set_cons_succ])
        refine wpAnyH_take (i := 6) (oi := { dst := some 81, op := Go.Op.load 3 (Go.Operand.tmp 80), type := 3, pos := "law.go:70", after := #[{ on := 5, ground := Go.Ground.data }, { on := 2, ground := Go.Ground.guard }], guard := some (2, false) }) (v := ?_) rfl (by kernel_rfl) (by kernel_rfl) (by kernel_rfl) (fun _ _ _ h => h) (Or.inl ⟨by rfl, ?_⟩) (by assumption) ?_
        (rotate_left; focus (intro wS hSw; have s0 := (hSw.q.2 0 _ rfl).1; have s1 := (hSw.q.2 1 _ rfl).1; clear hSw; go_simp; (try rw [if_neg (by omega)]); try with_reducible rfl))
        (try simp only [Act.put, List.setIfInBounds_toArray, List.set_cons_zero, List.set_cons_succ])
        refine wpAnyH_ready (rs := [4]) (by kernel_rfl) (by simp) ?_
        refine AllReadyH.cons (o := { dst := some 79, op := Go.Op.call { callee := Go.Callee.value (Go.Operand.func 22), args := #[Go.Operand.tmp 78], argTypes := #[35] }, type := 23, pos := "law.go:70", after := #[{ on := 3, ground := Go.Ground.data }, { on := 2, ground := Go.Ground.chain }, { on := 2, ground := Go.Ground.guard }], guard := some (2, false) }) rfl (fun K hK => ?_) AllReadyH.nil
        go_simp
        refine (err_any _ _ _ _ hHeld.rd).mono ?_
        rintro r v1 ⟨rfl, hx⟩
        obtain rfl := hx.symm
        clear hx
        (try go_wp2_with fail)
        refine hK.out _ _ (by (first | exact hP0 | exact hP1)) (fun hHeld => ?_)
        clear hK K
        (try simp only [Act.put, List.setIfInBounds_toArray, List.set_cons_zero, List.set_cons_succ])
        refine wpAnyH_take (i := 7) (oi := { dst := some 82, op := Go.Op.binOp Go.BinOp.neq 3 (Go.Operand.tmp 79) (Go.Operand.tmp 81) 3, type := 4, pos := "law.go:70", after := #[{ on := 4, ground := Go.Ground.data }, { on := 6, ground := Go.Ground.data }, { on := 2, ground := Go.Ground.guard }], guard := some (2, false) }) (v := ?_) rfl (by kernel_rfl) (by kernel_rfl) (by kernel_rfl) (fun _ _ _ h => h) (Or.inl ⟨by rfl, ?_⟩) (by assumption) ?_
        (rotate_left; focus (intro wS hSw; have s0 := (hSw.q.2 0 _ rfl).1; have s1 := (hSw.q.2 1 _ rfl).1; clear hSw; go_simp; (try rw [if_neg (by omega)]); try with_reducible rfl))
        (try simp only [Act.put, List.setIfInBounds_toArray, List.set_cons_zero, List.set_cons_succ])
        refine wpAnyH_take (i := 8) (oi := { dst := some 83, op := Go.Op.pick (Go.Operand.tmp 77) (Go.Operand.const (Go.Value.bool true)) (Go.Operand.tmp 82), type := 4, pos := "law.go:70", after := #[{ on := 2, ground := Go.Ground.data }, { on := 7, ground := Go.Ground.data }], guard := none }) (v := ?_) rfl (by kernel_rfl) (by kernel_rfl) (by kernel_rfl) (fun _ _ _ h => h) (Or.inl ⟨by rfl, ?_⟩) (by assumption) ?_
        (rotate_left; focus (intro wS hSw; have s0 := (hSw.q.2 0 _ rfl).1; have s1 := (hSw.q.2 1 _ rfl).1; clear hSw; go_simp; (try rw [if_neg (by omega)]); try with_reducible rfl))
        (try simp only [Act.put, List.setIfInBounds_toArray, List.set_cons_zero, List.set_cons_succ])
        refine wpAnyH_take (i := 9) (oi := { dst := some 84, op := Go.Op.move (Go.Operand.tmp 83), type := 4, pos := "law.go:70", after := #[{ on := 8, ground := Go.Ground.data }, { on := 4, ground := Go.Ground.chain }], guard := none }) (v := ?_) rfl (by kernel_rfl) (by kernel_rfl) (by kernel_rfl) (fun _ _ _ h => h) (Or.inl ⟨by rfl, ?_⟩) (by assumption) ?_
        (rotate_left; focus (intro wS hSw; have s0 := (hSw.q.2 0 _ rfl).1; have s1 := (hSw.q.2 1 _ rfl).1; clear hSw; go_simp; (try rw [if_neg (by omega)]); try with_reducible rfl))
        (try simp only [Act.put, List.setIfInBounds_toArray, List.set_cons_zero, List.set_cons_succ])
        refine wpAnyH_take (i := 10) (oi := { dst := some 85, op := Go.Op.move (Go.Operand.tmp 5), type := 35, pos := "law.go:70", after := #[{ on := 9, ground := Go.Ground.guard }], guard := some (9, false) }) (v := ?_) rfl (by kernel_rfl) (by kernel_rfl) (by kernel_rfl) (fun _ _ _ h => h) (Or.inl ⟨by rfl, ?_⟩) (by assumption) ?_
        (rotate_left; focus (intro wS hSw; have s0 := (hSw.q.2 0 _ rfl).1; have s1 := (hSw.q.2 1 _ rfl).1; clear hSw; go_simp; (try rw [if_neg (by omega)]); try with_reducible rfl))
        (try simp only [Act.put, List.setIfInBounds_toArray, List.set_cons_zero, List.set_cons_succ])
        refine wpAnyH_take (i := 12) (oi := { dst := some 87, op := Go.Op.load 38 (Go.Operand.tmp 6), type := 38, pos := "law.go:70", after := #[{ on := 9, ground := Go.Ground.guard }], guard := some (9, false) }) (v := ?_) rfl (by kernel_rfl) (by kernel_rfl) (by kernel_rfl) (fun _ _ _ h => h) (Or.inl ⟨by rfl, ?_⟩) (by assumption) ?_
        (rotate_left; focus (intro wS hSw; have s0 := (hSw.q.2 0 _ rfl).1; have s1 := (hSw.q.2 1 _ rfl).1; clear hSw; go_simp; (try rw [if_neg (by omega)]); try with_reducible rfl))
        (try simp only [Act.put, List.setIfInBounds_toArray, List.set_cons_zero, List.set_cons_succ])
        refine wpAnyH_ready (rs := [11]) (by kernel_rfl) (by simp) ?_
        refine AllReadyH.cons (o := { dst := some 86, op := Go.Op.call { callee := Go.Callee.value (Go.Operand.func 23), args := #[Go.Operand.tmp 85], argTypes := #[35] }, type := 23, pos := "law.go:70", after := #[{ on := 10, ground := Go.Ground.data }, { on := 9, ground := Go.Ground.chain }, { on := 9, ground := Go.Ground.guard }], guard := some (9, false) }) rfl (fun K hK => ?_) AllReadyH.nil
        go_simp
        refine (done_any _ _ _ _ hHeld.rd).mono ?_
        rintro r v1 ⟨rfl, hx⟩
        obtain rfl := hx.symm
        clear hx
        (try go_wp2_with fail)
        refine hK.out _ _ (by (first | exact hP0 | exact hP1)) (fun hHeld => ?_)
        clear hK K
        (try simp only [Act.put, List.setIfInBounds_toArray, List.set_cons_zero, List.set_cons_succ])
        refine wpAnyH_ready (rs := [13]) (by kernel_rfl) (by simp) ?_
        refine AllReadyH.cons (o := { dst := some 88, op := Go.Op.call { callee := Go.Callee.value (Go.Operand.func 24), args := #[Go.Operand.tmp 87], argTypes := #[38] }, type := 3, pos := "law.go:70", after := #[{ on := 12, ground := Go.Ground.data }, { on := 11, ground := Go.Ground.chain }, { on := 9, ground := Go.Ground.guard }], guard := some (9, false) }) rfl (fun K hK => ?_) AllReadyH.nil
        go_simp
        refine (rdone_any _ _ _).mono ?_
        rintro r v1 ⟨rfl, hbv⟩
        have hP1 := hHeld.keep hbv
        clear hbv
        (try go_wp2_with fail)
        refine hK.out _ _ (by (first | exact hP0 | exact hP1)) (fun hHeld => ?_)
        clear hK K
        (try simp only [Act.put, List.setIfInBounds_toArray, List.set_cons_zero, List.set_cons_succ])
        refine wpAnyH_take (i := 14) (oi := { dst := some 89, op := Go.Op.binOp Go.BinOp.neq 3 (Go.Operand.tmp 86) (Go.Operand.tmp 88) 3, type := 4, pos := "law.go:70", after := #[{ on := 11, ground := Go.Ground.data }, { on := 13, ground := Go.Ground.data }, { on := 9, ground := Go.Ground.guard }], guard := some (9, false) }) (v := ?_) rfl (by kernel_rfl) (by kernel_rfl) (by kernel_rfl) (fun _ _ _ h => h) (Or.inl ⟨by rfl, ?_⟩) (by assumption) ?_
        (rotate_left; focus (intro wS hSw; have s0 := (hSw.q.2 0 _ rfl).1; have s1 := (hSw.q.2 1 _ rfl).1; clear hSw; go_simp; (try rw [if_neg (by omega)]); try with_reducible rfl))
        (try simp only [Act.put, List.setIfInBounds_toArray, List.set_cons_zero, List.set_cons_succ])
        refine wpAnyH_take (i := 15) (oi := { dst := some 90, op := Go.Op.pick (Go.Operand.tmp 84) (Go.Operand.const (Go.Value.bool true)) (Go.Operand.tmp 89), type := 4, pos := "law.go:70", after := #[{ on := 9, ground := Go.Ground.data }, { on := 14, ground := Go.Ground.data }], guard := none }) (v := ?_) rfl (by kernel_rfl) (by kernel_rfl) (by kernel_rfl) (fun _ _ _ h => h) (Or.inl ⟨by rfl, ?_⟩) (by assumption) ?_
        (rotate_left; focus (intro wS hSw; have s0 := (hSw.q.2 0 _ rfl).1; have s1 := (hSw.q.2 1 _ rfl).1; clear hSw; go_simp; (try rw [if_neg (by omega)]); try with_reducible rfl))
        (try simp only [Act.put, List.setIfInBounds_toArray, List.set_cons_zero, List.set_cons_succ])
        refine wpAnyH_done (by kernel_rfl) ?_ _
        all_goals
          go_wp2
          exact ⟨⟨k + 1, _, _, vint (by omega), by omega, HXL.out, by assumption⟩, by simp [intOf]; omega⟩
    · obtain rfl : k = l.length := by omega
      have d1 : ¬ ((l.length : Int) < (l.length : Int)) := by omega
      clear hst
      go_wp2_with fail
      refine (awake_any _).mono ?_
      rintro e w3 ⟨rfl, hb3⟩
      go_wp2
      go_ret
      exact ⟨rfl, below_step HST.out.below (Nat.le_refl _) hb3⟩
def KindsOk (l : List Nat) (w : World) (v : Value) : Prop := ∃ a cap, v = .slice a l.length cap ∧ Sl kindC 1 w a l ∧ ∀ c ∈ l, c < 256
theorem open_kinds {H : Type} {enc : TypeId × Value → H} {w : World} {base base0 : Nat} {spare : Bool} {held : TypeId → Bool} {r : Reach} {v : Value} {d : DataW H} {p : List MemPlace}
    (hv : Value.okWide Try.prog w r base0 34 v) (h : DataW.Trod enc Try.prog w base held spare 34 v d p) : ∃ l, KindsOk l w v := by
  obtain ⟨xs, ⟨a, cap, rfl, hcap, hs⟩, hl, hg⟩ := open_sl kindC (fun s => s < 256) 1 Try.underlying34 (by kernel_rfl) (by omega) (fun _ => rfl) (fun n cs y hy => by
    obtain ⟨k, k1, _, hk⟩ := DataW.trod_int Try.underlying5 hy
    obtain ⟨h0, h1⟩ := bounds_u8 hk
    obtain ⟨k, rfl⟩ := Int.eq_ofNat_of_zero_le h0
    exact ⟨k, k1, by omega⟩) hv h
  exact ⟨xs, a, cap, rfl, hs, hg⟩
theorem reads_law (s : ByteArray) (v : Value) (l : List Nat) (w : World) (w0 : s.size ≤ 140737488351232) (h : KindsOk l w v) : Calls Try.prog 4 #[.string s, v] w fun e w' => e = .returned (.bool true) ∧ Below w.heap.size w w' := by
  obtain ⟨a, cap, rfl, hs, hg⟩ := h
  by_cases hb : 3000 < s.size ∨ 60 < l.length
  · exact reads_big s a _ cap w hb
  · exact reads_walk s l a cap w (by omega) (by omega) hg hs
end Go.Proofs.Ytabpgbenkngpkaa

