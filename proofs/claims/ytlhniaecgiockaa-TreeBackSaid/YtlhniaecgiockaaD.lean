/-
  The contracts of what gives a sum of some of the texts, and of Root, the code's and the law's own.
-/
import Derived.Test.YtlhniaecgiockaaC
import Derived.Laws.EntriesVeiled
set_option linter.unusedVariables false
set_option linter.unusedSimpArgs false
namespace Go.Proofs.Ytlhniaecgiockaa
open Go.RowKit
def sumF (p q : Nat) : Value := .func (.func 26) #[] #[.pointer (some ⟨p, 0, none⟩), .pointer (some ⟨q, 0, none⟩)]
/-- What a function that gives sums has captured: the texts, and itself. -/
def Clo (p q : Nat) (a : Option Addr) (n c : Nat) (w : World) : Prop := p < w.heap.size ∧ q < w.heap.size ∧ w.cell? ⟨p, 0, none⟩ = some (.slice a n c) ∧ w.cell? ⟨q, 0, none⟩ = some (sumF p q)
theorem Clo.keep {p q : Nat} {a : Option Addr} {n c : Nat} {w w' : World} (h : Clo p q a n c w) (hb : Below w.heap.size w w') : Clo p q a n c w' :=
  ⟨Nat.lt_of_lt_of_le h.1 hb.size, Nat.lt_of_lt_of_le h.2.1 hb.size, (hb.cell (p := ⟨p, 0, none⟩) h.1).trans h.2.2.1, (hb.cell (p := ⟨q, 0, none⟩) h.2.1).trans h.2.2.2⟩
theorem over_any (a : Option Addr) (n c : Nat) (w : World) : Calls Try.prog 18 #[.slice a n c] w fun e w' => e = .returned (sumF w.heap.size (w.heap.size + 1)) ∧ Clo w.heap.size (w.heap.size + 1) a n c w' ∧ Below w.heap.size w w' := by
  have hmf : ∀ (fn : Fn) (first cap : Array Value) (w : World), (Instr.makeFunc fn first cap).run Try.prog w = .ok (.func fn first cap) w := fun _ _ _ _ => rfl
  go_enter Try.func18, Try.ntmps18
  go_wp2
  go_ret
  refine ⟨rfl, ⟨by simp <;> omega, by simp <;> omega, ?_, ?_⟩, ((Below.refl _ _).alloc (Nat.le_refl _) _).alloc (by simp) _⟩
  · exact (World.cell?_alloc_lt _ _ _ (by simp)).trans (cell_new w _ _ 0)
  · simp [sumF]
set_option maxHeartbeats 4000000 in
theorem clo_any (l : List ByteArray) (a : Option Addr) (c p q : Nat) (hsm : ∀ s ∈ l, s.size ≤ 100) (hlc : l.length ≤ 1000000) : ∀ (m : Nat) (i j : Nat) (w : World), j - i ≤ m → i ≤ j → j ≤ l.length → Clo p q a l.length c w → Sl strC 1 w a l →
    Calls Try.prog 26 #[.int .i64 i, .int .i64 j, .pointer (some ⟨p, 0, none⟩), .pointer (some ⟨q, 0, none⟩)] w fun e w' => e = .returned (.string (rootL ((l.drop i).take (j - i)))) ∧ Below w.heap.size w w' := by
  intro m
  induction m with
  | zero =>
    intro i j w hm hij hjl hC hS
    obtain rfl : i = j := by omega
    rw [Nat.sub_self, List.take_zero, rootL_nil]
    have b1 : ((i : Int) - (i : Int) == 0) = true := by simp
    go_enter Try.func26, Try.ntmps26
    go_wp2_with fail
    refine (id_any ⟨#[]⟩ w (by decide)).mono ?_
    rintro e w1 ⟨rfl, hb⟩
    go_wp2
    go_ret
    exact ⟨rfl, hb⟩
  | succ m ih =>
    intro i j w hm hij hjl hC hS
    by_cases h0 : j - i ≤ m
    · exact ih i j w h0 hij hjl hC hS
    · by_cases h1 : m = 0
      · subst h1
        obtain rfl : j = i + 1 := by omega
        have hil : i < l.length := by omega
        have HR : Hid (rootL ((l.drop i).take (i + 1 - i)) = leafV l[i]) := Lib.hid (by
          rw [show i + 1 - i = 1 by omega, List.drop_eq_getElem_cons hil, List.take_succ_cons, List.take_zero, rootL_one])
        obtain ⟨V, hV⟩ : ∃ V, V = rootL ((l.drop i).take (i + 1 - i)) := ⟨_, rfl⟩
        rw [← hV] at HR ⊢
        clear hV
        obtain ⟨b1, o1, rfl, hb1, hc1⟩ := slT_str hS i hil
        have hx := hsm l[i] (List.getElem_mem hil)
        obtain ⟨X, hX⟩ : ∃ X, X = l[i] := ⟨_, rfl⟩
        rw [← hX] at hc1 hx HR
        have c2 := hC.2.2.1
        have e0 : ((((i + 1 : Nat) : Int) - (i : Int)) == 0) = false := by simp; omega
        have e1 : ((((i + 1 : Nat) : Int) - (i : Int)) == 1) = true := by simp; omega
        have e2 : (0 : Int) ≤ (i : Int) := by omega
        have e3 : (i : Int) < (l.length : Int) := by omega
        have hsz : (⟨#[0]⟩ ++ X : ByteArray).size ≤ 1099511627000 := by rw [ByteArray.size_append, show (⟨#[0]⟩ : ByteArray).size = 1 from rfl]; omega
        have T := Lib.hid (id_any (⟨#[0]⟩ ++ X) w hsz)
        clear hX hsz hC hS ih hsm
        go_enter Try.func26, Try.ntmps26
        go_wp2_with fail
        refine T.out.mono ?_
        rintro e w1 ⟨rfl, hb⟩
        go_wp2
        go_ret
        rw [HR.out]
        exact ⟨rfl, hb⟩
      · have hn2 : 2 ≤ j - i := by omega
        have hh1 := hf_pos (j - i)
        have hh2 := hf_lt hn2
        have hlen : ((l.drop i).take (j - i)).length = j - i := by rw [List.length_take, List.length_drop]; omega
        have HR : Hid (rootL ((l.drop i).take (j - i)) = nodeV (rootL ((l.drop i).take (i + hf (j - i) - i))) (rootL ((l.drop (i + hf (j - i))).take (j - (i + hf (j - i)))))) := Lib.hid (by
          rw [rootL_more (by omega), hlen, List.take_take, Nat.min_eq_left (by omega), List.drop_take, List.drop_drop, show i + hf (j - i) - i = hf (j - i) by omega, show j - (i + hf (j - i)) = j - i - hf (j - i) by omega])
        have TH := Lib.hid (fun w => half_any (j - i) w hn2 (by omega))
        obtain ⟨h, hh⟩ : ∃ h, h = hf (j - i) := ⟨_, rfl⟩
        rw [← hh] at hh1 hh2 HR TH
        have hz1 := rootL_size ((l.drop i).take (i + h - i))
        have hz2 := rootL_size ((l.drop (i + h)).take (j - (i + h)))
        have T1 : Hid (∀ w', Below w.heap.size w w' → Calls Try.prog 26 #[.int .i64 (i : Int), .int .i64 ((i : Int) + (h : Int)), .pointer (some ⟨p, 0, none⟩), .pointer (some ⟨q, 0, none⟩)] w' fun e w'' => e = .returned (.string (rootL ((l.drop i).take (i + h - i)))) ∧ Below w'.heap.size w' w'') := Lib.hid (fun w' hb => by
          have := ih i (i + h) w' (by omega) (by omega) (by omega) (hC.keep hb) (hS.keep hb)
          rw [Int.natCast_add] at this
          exact this)
        have T2 : Hid (∀ w', Below w.heap.size w w' → Calls Try.prog 26 #[.int .i64 ((i : Int) + (h : Int)), .int .i64 (j : Int), .pointer (some ⟨p, 0, none⟩), .pointer (some ⟨q, 0, none⟩)] w' fun e w'' => e = .returned (.string (rootL ((l.drop (i + h)).take (j - (i + h))))) ∧ Below w'.heap.size w' w'') := Lib.hid (fun w' hb => by
          have := ih (i + h) j w' (by omega) (by omega) (by omega) (hC.keep hb) (hS.keep hb)
          rw [Int.natCast_add] at this
          exact this)
        have HK : Hid (∀ w', Below w.heap.size w w' → w'.cell? ⟨q, 0, none⟩ = some (.func (.func 26) #[] #[.pointer (some ⟨p, 0, none⟩), .pointer (some ⟨q, 0, none⟩)])) := Lib.hid (fun w' hb => (hC.keep hb).2.2.2)
        obtain ⟨V, hV⟩ : ∃ V, V = rootL ((l.drop i).take (j - i)) := ⟨_, rfl⟩
        obtain ⟨A, hA⟩ : ∃ A, A = rootL ((l.drop i).take (i + h - i)) := ⟨_, rfl⟩
        obtain ⟨B, hB⟩ : ∃ B, B = rootL ((l.drop (i + h)).take (j - (i + h))) := ⟨_, rfl⟩
        rw [← hV, ← hA, ← hB] at HR
        rw [← hA] at hz1 T1
        rw [← hB] at hz2 T2
        rw [← hV]
        have e0 : ((((j : Nat) : Int) - (i : Int)) == 0) = false := by simp; omega
        have e1 : ((((j : Nat) : Int) - (i : Int)) == 1) = false := by simp; omega
        have e2 : (0 : Int) ≤ (i : Int) := by omega
        have e4 : (j : Int) - (i : Int) = ((j - i : Nat) : Int) := by omega
        have T3 : Hid (∀ w, Calls Try.prog 19 #[.int .i64 ((j : Int) - (i : Int))] w fun e w' => e = .returned (.int .i64 (h : Int)) ∧ w = w') := Lib.hid (fun w => by rw [e4]; exact TH.out w)
        have hsz : (⟨#[1]⟩ ++ A ++ B : ByteArray).size ≤ 1099511627000 := by rw [ByteArray.size_append, ByteArray.size_append, show (⟨#[1]⟩ : ByteArray).size = 1 from rfl]; omega
        have T4 := Lib.hid (fun w => id_any (⟨#[1]⟩ ++ A ++ B) w hsz)
        clear hV hA hB hh hC hS ih hsm hlen e4 TH hsz
        have hcF := HK.out w (Below.refl _ _)
        go_enter Try.func26, Try.ntmps26
        go_wp2_with fail
        refine (T3.out _).mono ?_
        rintro e w1 ⟨rfl, rfl⟩
        go_wp2_with fail
        have hP0 : Below w.heap.size w w.drew := (Below.refl _ _).drew
        refine wp_region_held_drew (S := fun w' => Below w.heap.size w w') (by kernel_rfl) (by (first | exact hP0 | exact hP1 | exact hP2 | exact hP3)) (fun hHeld => ?_)
        refine wpAnyH_take (i := 0) (oi := { dst := some 28, op := Go.Op.load 40 (Go.Operand.tmp 3), type := 40, pos := "tree.go:32", after := #[], guard := none }) (v := ?_) rfl (by kernel_rfl) (by kernel_rfl) (by kernel_rfl) (fun _ _ _ h => h) (Or.inl ⟨by rfl, ?_⟩) (by assumption) ?_
        (rotate_left; focus (intro wS hSw; have s1 := HK.out wS hSw; clear hSw; go_simp; (try rw [if_neg (by omega)]); try with_reducible rfl))
        (try simp only [Act.put, List.setIfInBounds_toArray, List.set_cons_zero, List.set_cons_succ])
        refine wpAnyH_take (i := 1) (oi := { dst := some 29, op := Go.Op.move (Go.Operand.tmp 0), type := 3, pos := "tree.go:32", after := #[], guard := none }) (v := ?_) rfl (by kernel_rfl) (by kernel_rfl) (by kernel_rfl) (fun _ _ _ h => h) (Or.inl ⟨by rfl, ?_⟩) (by assumption) ?_
        (rotate_left; focus (intro wS hSw; have s1 := HK.out wS hSw; clear hSw; go_simp; (try rw [if_neg (by omega)]); try with_reducible rfl))
        (try simp only [Act.put, List.setIfInBounds_toArray, List.set_cons_zero, List.set_cons_succ])
        refine wpAnyH_take (i := 2) (oi := { dst := some 30, op := Go.Op.move (Go.Operand.tmp 7), type := 3, pos := "tree.go:32", after := #[], guard := none }) (v := ?_) rfl (by kernel_rfl) (by kernel_rfl) (by kernel_rfl) (fun _ _ _ h => h) (Or.inl ⟨by rfl, ?_⟩) (by assumption) ?_
        (rotate_left; focus (intro wS hSw; have s1 := HK.out wS hSw; clear hSw; go_simp; (try rw [if_neg (by omega)]); try with_reducible rfl))
        (try simp only [Act.put, List.setIfInBounds_toArray, List.set_cons_zero, List.set_cons_succ])
        refine wpAnyH_take (i := 5) (oi := { dst := some 33, op := Go.Op.load 40 (Go.Operand.tmp 3), type := 40, pos := "tree.go:32", after := #[], guard := none }) (v := ?_) rfl (by kernel_rfl) (by kernel_rfl) (by kernel_rfl) (fun _ _ _ h => h) (Or.inl ⟨by rfl, ?_⟩) (by assumption) ?_
        (rotate_left; focus (intro wS hSw; have s1 := HK.out wS hSw; clear hSw; go_simp; (try rw [if_neg (by omega)]); try with_reducible rfl))
        (try simp only [Act.put, List.setIfInBounds_toArray, List.set_cons_zero, List.set_cons_succ])
        refine wpAnyH_take (i := 6) (oi := { dst := some 34, op := Go.Op.move (Go.Operand.tmp 7), type := 3, pos := "tree.go:32", after := #[], guard := none }) (v := ?_) rfl (by kernel_rfl) (by kernel_rfl) (by kernel_rfl) (fun _ _ _ h => h) (Or.inl ⟨by rfl, ?_⟩) (by assumption) ?_
        (rotate_left; focus (intro wS hSw; have s1 := HK.out wS hSw; clear hSw; go_simp; (try rw [if_neg (by omega)]); try with_reducible rfl))
        (try simp only [Act.put, List.setIfInBounds_toArray, List.set_cons_zero, List.set_cons_succ])
        refine wpAnyH_take (i := 7) (oi := { dst := some 35, op := Go.Op.move (Go.Operand.tmp 1), type := 3, pos := "tree.go:32", after := #[], guard := none }) (v := ?_) rfl (by kernel_rfl) (by kernel_rfl) (by kernel_rfl) (fun _ _ _ h => h) (Or.inl ⟨by rfl, ?_⟩) (by assumption) ?_
        (rotate_left; focus (intro wS hSw; have s1 := HK.out wS hSw; clear hSw; go_simp; (try rw [if_neg (by omega)]); try with_reducible rfl))
        (try simp only [Act.put, List.setIfInBounds_toArray, List.set_cons_zero, List.set_cons_succ])
        refine wpAnyH_ready (rs := [3]) (by kernel_rfl) (by simp) ?_
        refine AllReadyH.cons (o := { dst := some 31, op := Go.Op.call { callee := Go.Callee.value (Go.Operand.tmp 28), args := #[Go.Operand.tmp 29, Go.Operand.tmp 30], argTypes := #[3, 3] }, type := 9, pos := "tree.go:32", after := #[{ on := 0, ground := Go.Ground.data }, { on := 1, ground := Go.Ground.data }, { on := 2, ground := Go.Ground.data }], guard := none }) rfl (fun K hK => ?_) AllReadyH.nil
        go_simp
        refine (T1.out _ hP0).mono ?_
        rintro e w2 ⟨rfl, hb2⟩
        have hP1 : Below w.heap.size w w2 := hP0.trans hb2
        clear hb2
        (try go_wp2_with fail)
        refine hK.out _ _ (by (first | exact hP0 | exact hP1 | exact hP2 | exact hP3)) (fun hHeld => ?_)
        clear hK K
        (try simp only [Act.put, List.setIfInBounds_toArray, List.set_cons_zero, List.set_cons_succ])
        refine wpAnyH_take (i := 4) (oi := { dst := some 32, op := Go.Op.binOp Go.BinOp.add 9 (Go.Operand.const (Go.Value.string { data := #[1] })) (Go.Operand.tmp 31) 9, type := 9, pos := "tree.go:32", after := #[{ on := 3, ground := Go.Ground.data }], guard := none }) (v := ?_) rfl (by kernel_rfl) (by kernel_rfl) (by kernel_rfl) (fun _ _ _ h => h) (Or.inl ⟨by rfl, ?_⟩) (by assumption) ?_
        (rotate_left; focus (intro wS hSw; have s1 := HK.out wS hSw; clear hSw; go_simp; (try rw [if_neg (by omega)]); try with_reducible rfl))
        (try simp only [Act.put, List.setIfInBounds_toArray, List.set_cons_zero, List.set_cons_succ])
        refine wpAnyH_ready (rs := [8]) (by kernel_rfl) (by simp) ?_
        refine AllReadyH.cons (o := { dst := some 36, op := Go.Op.call { callee := Go.Callee.value (Go.Operand.tmp 33), args := #[Go.Operand.tmp 34, Go.Operand.tmp 35], argTypes := #[3, 3] }, type := 9, pos := "tree.go:32", after := #[{ on := 5, ground := Go.Ground.data }, { on := 6, ground := Go.Ground.data }, { on := 7, ground := Go.Ground.data }, { on := 3, ground := Go.Ground.chain }], guard := none }) rfl (fun K hK => ?_) AllReadyH.nil
        go_simp
        refine (T2.out _ hP1).mono ?_
        rintro e w3 ⟨rfl, hb3⟩
        have hP2 : Below w.heap.size w w3 := below_step hP1 (Nat.le_refl _) hb3
        clear hb3
        (try go_wp2_with fail)
        refine hK.out _ _ (by (first | exact hP0 | exact hP1 | exact hP2 | exact hP3)) (fun hHeld => ?_)
        clear hK K
        (try simp only [Act.put, List.setIfInBounds_toArray, List.set_cons_zero, List.set_cons_succ])
        refine wpAnyH_take (i := 9) (oi := { dst := some 37, op := Go.Op.binOp Go.BinOp.add 9 (Go.Operand.tmp 32) (Go.Operand.tmp 36) 9, type := 9, pos := "tree.go:32", after := #[{ on := 4, ground := Go.Ground.data }, { on := 8, ground := Go.Ground.data }], guard := none }) (v := ?_) rfl (by kernel_rfl) (by kernel_rfl) (by kernel_rfl) (fun _ _ _ h => h) (Or.inl ⟨by rfl, ?_⟩) (by assumption) ?_
        (rotate_left; focus (intro wS hSw; have s1 := HK.out wS hSw; clear hSw; go_simp; (try rw [if_neg (by omega)]); try with_reducible rfl))
        (try simp only [Act.put, List.setIfInBounds_toArray, List.set_cons_zero, List.set_cons_succ])
        refine wpAnyH_ready (rs := [10]) (by kernel_rfl) (by simp) ?_
        refine AllReadyH.cons (o := { dst := some 38, op := Go.Op.call { callee := Go.Callee.value (Go.Operand.func 22), args := #[Go.Operand.tmp 37], argTypes := #[9] }, type := 9, pos := "tree.go:32", after := #[{ on := 9, ground := Go.Ground.data }, { on := 8, ground := Go.Ground.chain }], guard := none }) rfl (fun K hK => ?_) AllReadyH.nil
        go_simp
        refine (T4.out _).mono ?_
        rintro e w4 ⟨rfl, hb4⟩
        have hP3 : Below w.heap.size w w4 := below_step hP2 (Nat.le_refl _) hb4
        clear hb4
        (try go_wp2_with fail)
        refine hK.out _ _ (by (first | exact hP0 | exact hP1 | exact hP2 | exact hP3)) (fun hHeld => ?_)
        clear hK K
        (try simp only [Act.put, List.setIfInBounds_toArray, List.set_cons_zero, List.set_cons_succ])
        refine wpAnyH_take (i := 11) (oi := { dst := some 6, op := Go.Op.assign (Go.Operand.tmp 38), type := 9, pos := "tree.go:32", after := #[{ on := 10, ground := Go.Ground.data }, { on := 10, ground := Go.Ground.chain }, { on := 0, ground := Go.Ground.phase }, { on := 1, ground := Go.Ground.phase }, { on := 2, ground := Go.Ground.phase }, { on := 3, ground := Go.Ground.phase }, { on := 4, ground := Go.Ground.phase }, { on := 5, ground := Go.Ground.phase }, { on := 6, ground := Go.Ground.phase }, { on := 7, ground := Go.Ground.phase }, { on := 8, ground := Go.Ground.phase }, { on := 9, ground := Go.Ground.phase }, { on := 10, ground := Go.Ground.phase }], guard := none }) (v := ?_) rfl (by kernel_rfl) (by kernel_rfl) (by kernel_rfl) (fun _ _ _ h => h) (Or.inl ⟨by rfl, ?_⟩) (by assumption) ?_
        (rotate_left; focus (intro wS hSw; have s1 := HK.out wS hSw; clear hSw; go_simp; (try rw [if_neg (by omega)]); try with_reducible rfl))
        (try simp only [Act.put, List.setIfInBounds_toArray, List.set_cons_zero, List.set_cons_succ])
        refine wpAnyH_done (by kernel_rfl) ?_ _
        all_goals
          go_wp2
          go_ret
          rw [HR.out]
          exact ⟨rfl, hP3⟩
end Go.Proofs.Ytlhniaecgiockaa

