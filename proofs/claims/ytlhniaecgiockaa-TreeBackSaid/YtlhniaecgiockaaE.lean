/-
  The contracts of Root, the code's and the law's own.
-/
import Derived.Test.YtlhniaecgiockaaD
set_option linter.unusedVariables false
set_option linter.unusedSimpArgs false
namespace Go.Proofs.Ytlhniaecgiockaa
open Go.RowKit
theorem root_any (l : List ByteArray) (a : Option Addr) (c : Nat) (w : World) (hsm : ∀ s ∈ l, s.size ≤ 100) (hlc : l.length ≤ 1000000) (hS : Sl strC 1 w a l) :
    Calls Try.prog 10 #[.slice a l.length c] w fun e w' => e = .returned (.string (rootL l)) ∧ Below w.heap.size w w' := by
  have HS := Lib.hid hS
  have T : Hid (∀ w', Below w.heap.size w w' → Clo w.heap.size (w.heap.size + 1) a l.length c w' → Calls Try.prog 26 #[.int .i64 0, .int .i64 (l.length : Int), .pointer (some ⟨w.heap.size, 0, none⟩), .pointer (some ⟨w.heap.size + 1, 0, none⟩)] w' fun e w'' => e = .returned (.string (rootL l)) ∧ Below w'.heap.size w' w'') := Lib.hid (fun w' hb hc => by
    have := clo_any l a c _ _ hsm hlc l.length 0 l.length w' (by omega) (by omega) (by omega) hc (hS.keep hb)
    rw [List.drop_zero, Nat.sub_zero, List.take_of_length_le (Nat.le_refl _)] at this
    exact this)
  obtain ⟨V, hV⟩ : ∃ V, V = rootL l := ⟨_, rfl⟩
  rw [← hV] at T ⊢
  clear hV hS hsm
  go_enter Try.func10, Try.ntmps10
  go_wp2_with fail
  refine (over_any a l.length c w).mono ?_
  rintro e w1 ⟨rfl, hc, hb⟩
  have HC := Lib.hid hc; have HB := Lib.hid hb
  clear hc hb
  unfold sumF
  go_wp2_with fail
  refine (T.out w1 HB.out HC.out).mono ?_
  rintro e w2 ⟨rfl, hb⟩
  have HB2 := Lib.hid (below_step HB.out (Nat.le_refl _) hb)
  clear hb
  go_wp2
  go_ret
  exact ⟨rfl, HB2.out⟩
theorem sl_take {w : World} {a : Option Addr} {l : List ByteArray} (h : Sl strC 1 w a l) (k : Nat) : Sl strC 1 w a (l.take k) := by
  intro i hi
  rw [List.length_take] at hi
  obtain ⟨b, o, ha, hb, hc⟩ := h i (by omega)
  refine ⟨b, o, ha, hb, fun j v hv => hc j v ?_⟩
  rw [List.getElem_take] at hv
  exact hv
theorem sl_drop {w : World} {b o : Nat} {l : List ByteArray} (h : Sl strC 1 w (some ⟨b, o, none⟩) l) (k : Nat) : Sl strC 1 w (some ⟨b, o + k, none⟩) (l.drop k) := by
  intro i hi
  rw [List.length_drop] at hi
  obtain ⟨b2, o2, ha, hb, hc⟩ := h (k + i) (by omega)
  obtain ⟨rfl, rfl⟩ : b = b2 ∧ o = o2 := by simpa using ha
  refine ⟨b, o + k, rfl, hb, fun j v hv => ?_⟩
  rw [List.getElem_drop] at hv
  have := hc j v hv
  rw [show o + k + i * 1 + j = o + (k + i) * 1 + j by omega]
  exact this
set_option maxHeartbeats 4000000 in
theorem rroot_any : ∀ (m : Nat) (l : List ByteArray) (a : Option Addr) (c : Nat) (w : World), l.length ≤ m → l.length ≤ c → (∀ s ∈ l, s.size ≤ 100) → l.length ≤ 1000000 → Sl strC 1 w a l →
    Calls Try.prog 11 #[.slice a l.length c] w fun e w' => e = .returned (.string (rootL l)) ∧ Below w.heap.size w w' := by
  intro m
  induction m with
  | zero =>
    intro l a c w hm hlc hsm hl hS
    obtain rfl : l = [] := List.eq_nil_of_length_eq_zero (by omega)
    rw [rootL_nil]
    go_enter Try.func11, Try.ntmps11
    go_wp2_with fail
    refine (rid_any ⟨#[]⟩ w (by decide)).mono ?_
    rintro e w1 ⟨rfl, hb⟩
    go_wp2
    go_ret
    exact ⟨rfl, hb⟩
  | succ m ih =>
    intro l a c w hm hlc hsm hl hS
    by_cases h0 : l.length ≤ m
    · exact ih l a c w h0 hlc hsm hl hS
    · by_cases h1 : m = 0
      · subst h1
        match l, h0, hm, hsm, hS, hlc, hl with
        | [X], _, _, hsm, hS, hlc, hl =>
          obtain ⟨b1, o1, rfl, hb1, hc1⟩ := slT_str hS 0 (by simp)
          have hx := hsm X (by simp)
          have hsz : (⟨#[0]⟩ ++ X : ByteArray).size ≤ 1099511627000 := by rw [ByteArray.size_append, show (⟨#[0]⟩ : ByteArray).size = 1 from rfl]; omega
          have T := Lib.hid (rid_any (⟨#[0]⟩ ++ X) w hsz)
          have HR : Hid (rootL [X] = idV (⟨#[0]⟩ ++ X)) := Lib.hid (rootL_one X)
          simp only [List.getElem_cons_zero, Nat.add_zero] at hc1
          clear hsz hsm hS ih
          go_enter Try.func11, Try.ntmps11
          go_wp2_with fail
          refine T.out.mono ?_
          rintro e w1 ⟨rfl, hb⟩
          go_wp2
          go_ret
          rw [HR.out]
          exact ⟨rfl, hb⟩
      · have hn2 : 2 ≤ l.length := by omega
        have hh1 := hf_pos l.length
        have hh2 := hf_lt hn2
        have HR : Hid (rootL l = nodeV (rootL (l.take (hf l.length))) (rootL (l.drop (hf l.length)))) := Lib.hid (rootL_more hn2)
        have TH := Lib.hid (fun w => rhalf_any l.length w hn2 (by omega))
        obtain ⟨b1, o1, rfl, hb1, hc1⟩ := slT_str hS 0 (by omega)
        clear hc1
        obtain ⟨h, hh⟩ : ∃ h, h = hf l.length := ⟨_, rfl⟩
        rw [← hh] at hh1 hh2 HR TH
        have hz1 := rootL_size (l.take h)
        have hz2 := rootL_size (l.drop h)
        have T1 : Hid (∀ w', Below w.heap.size w w' → Calls Try.prog 11 #[.slice (some ⟨b1, o1, none⟩) h c] w' fun e w'' => e = .returned (.string (rootL (l.take h))) ∧ Below w'.heap.size w' w'') := Lib.hid (fun w' hb => by
          have := ih (l.take h) (some ⟨b1, o1, none⟩) c w' (by rw [List.length_take]; omega) (by rw [List.length_take]; omega) (fun s hs => hsm s (List.mem_of_mem_take hs)) (by rw [List.length_take]; omega) (sl_take (hS.keep hb) h)
          rw [List.length_take, Nat.min_eq_left (by omega)] at this
          exact this)
        have T2 : Hid (∀ w', Below w.heap.size w w' → Calls Try.prog 11 #[.slice (some ⟨b1, o1 + h, none⟩) (l.length - h) (c - h)] w' fun e w'' => e = .returned (.string (rootL (l.drop h))) ∧ Below w'.heap.size w' w'') := Lib.hid (fun w' hb => by
          have := ih (l.drop h) (some ⟨b1, o1 + h, none⟩) (c - h) w' (by rw [List.length_drop]; omega) (by rw [List.length_drop]; omega) (fun s hs => hsm s (List.mem_of_mem_drop hs)) (by rw [List.length_drop]; omega) (sl_drop (hS.keep hb) h)
          rw [List.length_drop] at this
          exact this)
        obtain ⟨V, hV⟩ : ∃ V, V = rootL l := ⟨_, rfl⟩
        obtain ⟨A, hA⟩ : ∃ A, A = rootL (l.take h) := ⟨_, rfl⟩
        obtain ⟨B, hB⟩ : ∃ B, B = rootL (l.drop h) := ⟨_, rfl⟩
        rw [← hV, ← hA, ← hB] at HR
        rw [← hA] at hz1 T1
        rw [← hB] at hz2 T2
        rw [← hV]
        obtain ⟨n, hn⟩ : ∃ n, n = l.length := ⟨_, rfl⟩
        rw [← hn] at hn2 hh2 TH T2 hlc hl ⊢
        have e0 : ((n : Int) == 0) = false := by simp; omega
        have e1 : ((n : Int) == 1) = false := by simp; omega
        have e2 : (0 : Int) ≤ (h : Int) := by omega
        have e3 : (h : Int) ≤ (c : Int) := by omega
        have e4 : (h : Int) ≤ (n : Int) := by omega
        have e5 : (n : Int) ≤ (c : Int) := by omega
        have e6 : ¬ c = h := by omega
        have hsz : (⟨#[1]⟩ ++ A ++ B : ByteArray).size ≤ 1099511627000 := by rw [ByteArray.size_append, ByteArray.size_append, show (⟨#[1]⟩ : ByteArray).size = 1 from rfl]; omega
        have T4 := Lib.hid (fun w => rid_any (⟨#[1]⟩ ++ A ++ B) w hsz)
        clear hV hA hB hh hS ih hsm hsz hn hm h0
        go_enter Try.func11, Try.ntmps11
        go_wp2_with fail
        refine (TH.out _).mono ?_
        rintro e w1 ⟨rfl, rfl⟩
        go_wp2_with fail
        have hP0 : Below w.heap.size w w.drew := (Below.refl _ _).drew
        refine wp_region_held_drew (S := fun _ => True) (by kernel_rfl) (trivial) (fun hHeld => ?_)
        refine wpAnyH_take (i := 0) (oi := { dst := some 19, op := Go.Op.move (Go.Operand.tmp 0), type := 22, pos := "ref.go:27", after := #[], guard := none }) (v := ?_) rfl (by kernel_rfl) (by kernel_rfl) (by kernel_rfl) (fun _ _ _ h => h) (Or.inl ⟨by rfl, ?_⟩) (by assumption) ?_
        (rotate_left; focus (intro wS hSw; (try dsimp only at hSw); go_simp; (try rw [if_neg (by omega)]); try with_reducible rfl))
        (try simp only [Act.put, List.setIfInBounds_toArray, List.set_cons_zero, List.set_cons_succ])
        refine wpAnyH_take (i := 1) (oi := { dst := some 20, op := Go.Op.move (Go.Operand.tmp 3), type := 3, pos := "ref.go:27", after := #[], guard := none }) (v := ?_) rfl (by kernel_rfl) (by kernel_rfl) (by kernel_rfl) (fun _ _ _ h => h) (Or.inl ⟨by rfl, ?_⟩) (by assumption) ?_
        (rotate_left; focus (intro wS hSw; (try dsimp only at hSw); go_simp; (try rw [if_neg (by omega)]); try with_reducible rfl))
        (try simp only [Act.put, List.setIfInBounds_toArray, List.set_cons_zero, List.set_cons_succ])
        refine wpAnyH_take (i := 2) (oi := { dst := some 21, op := Go.Op.slice 22 (Go.Operand.tmp 19) none (some (Go.Operand.tmp 20)) none, type := 22, pos := "ref.go:27", after := #[{ on := 0, ground := Go.Ground.data }, { on := 1, ground := Go.Ground.data }], guard := none }) (v := ?_) rfl (by kernel_rfl) (by kernel_rfl) (by kernel_rfl) (fun _ _ _ h => h) (Or.inl ⟨by rfl, ?_⟩) (by assumption) ?_
        (rotate_left; focus (intro wS hSw; (try dsimp only at hSw); go_simp; (try rw [if_neg (by omega)]); try with_reducible rfl))
        (try simp only [Act.put, List.setIfInBounds_toArray, List.set_cons_zero, List.set_cons_succ])
        refine wpAnyH_take (i := 5) (oi := { dst := some 24, op := Go.Op.move (Go.Operand.tmp 0), type := 22, pos := "ref.go:27", after := #[], guard := none }) (v := ?_) rfl (by kernel_rfl) (by kernel_rfl) (by kernel_rfl) (fun _ _ _ h => h) (Or.inl ⟨by rfl, ?_⟩) (by assumption) ?_
        (rotate_left; focus (intro wS hSw; (try dsimp only at hSw); go_simp; (try rw [if_neg (by omega)]); try with_reducible rfl))
        (try simp only [Act.put, List.setIfInBounds_toArray, List.set_cons_zero, List.set_cons_succ])
        refine wpAnyH_take (i := 6) (oi := { dst := some 25, op := Go.Op.move (Go.Operand.tmp 3), type := 3, pos := "ref.go:27", after := #[], guard := none }) (v := ?_) rfl (by kernel_rfl) (by kernel_rfl) (by kernel_rfl) (fun _ _ _ h => h) (Or.inl ⟨by rfl, ?_⟩) (by assumption) ?_
        (rotate_left; focus (intro wS hSw; (try dsimp only at hSw); go_simp; (try rw [if_neg (by omega)]); try with_reducible rfl))
        (try simp only [Act.put, List.setIfInBounds_toArray, List.set_cons_zero, List.set_cons_succ])
        refine wpAnyH_take (i := 7) (oi := { dst := some 26, op := Go.Op.slice 22 (Go.Operand.tmp 24) (some (Go.Operand.tmp 25)) none none, type := 22, pos := "ref.go:27", after := #[{ on := 5, ground := Go.Ground.data }, { on := 6, ground := Go.Ground.data }], guard := none }) (v := ?_) rfl (by kernel_rfl) (by kernel_rfl) (by kernel_rfl) (fun _ _ _ h => h) (Or.inl ⟨by rfl, ?_⟩) (by assumption) ?_
        (rotate_left; focus (intro wS hSw; (try dsimp only at hSw); go_simp; (try rw [if_neg (by omega)]); try with_reducible rfl))
        (try simp only [Act.put, List.setIfInBounds_toArray, List.set_cons_zero, List.set_cons_succ])
        refine wpAnyH_ready (rs := [3]) (by kernel_rfl) (by simp) ?_
        refine AllReadyH.cons (o := { dst := some 22, op := Go.Op.call { callee := Go.Callee.value (Go.Operand.func 11), args := #[Go.Operand.tmp 21], argTypes := #[22] }, type := 9, pos := "ref.go:27", after := #[{ on := 2, ground := Go.Ground.data }], guard := none }) rfl (fun K hK => ?_) AllReadyH.nil
        go_simp
        refine (T1.out _ hP0).mono ?_
        rintro e w2 ⟨rfl, hb2⟩
        have hP1 : Below w.heap.size w w2 := hP0.trans hb2
        clear hb2
        (try go_wp2_with fail)
        refine hK.out _ _ (trivial) (fun hHeld => ?_)
        clear hK K
        (try simp only [Act.put, List.setIfInBounds_toArray, List.set_cons_zero, List.set_cons_succ])
        refine wpAnyH_take (i := 4) (oi := { dst := some 23, op := Go.Op.binOp Go.BinOp.add 9 (Go.Operand.const (Go.Value.string { data := #[1] })) (Go.Operand.tmp 22) 9, type := 9, pos := "ref.go:27", after := #[{ on := 3, ground := Go.Ground.data }], guard := none }) (v := ?_) rfl (by kernel_rfl) (by kernel_rfl) (by kernel_rfl) (fun _ _ _ h => h) (Or.inl ⟨by rfl, ?_⟩) (by assumption) ?_
        (rotate_left; focus (intro wS hSw; (try dsimp only at hSw); go_simp; (try rw [if_neg (by omega)]); try with_reducible rfl))
        (try simp only [Act.put, List.setIfInBounds_toArray, List.set_cons_zero, List.set_cons_succ])
        refine wpAnyH_ready (rs := [8]) (by kernel_rfl) (by simp) ?_
        refine AllReadyH.cons (o := { dst := some 27, op := Go.Op.call { callee := Go.Callee.value (Go.Operand.func 11), args := #[Go.Operand.tmp 26], argTypes := #[22] }, type := 9, pos := "ref.go:27", after := #[{ on := 7, ground := Go.Ground.data }, { on := 3, ground := Go.Ground.chain }], guard := none }) rfl (fun K hK => ?_) AllReadyH.nil
        go_simp
        refine (T2.out _ hP1).mono ?_
        rintro e w3 ⟨rfl, hb3⟩
        have hP2 : Below w.heap.size w w3 := below_step hP1 (Nat.le_refl _) hb3
        clear hb3
        (try go_wp2_with fail)
        refine hK.out _ _ (trivial) (fun hHeld => ?_)
        clear hK K
        (try simp only [Act.put, List.setIfInBounds_toArray, List.set_cons_zero, List.set_cons_succ])
        refine wpAnyH_take (i := 9) (oi := { dst := some 28, op := Go.Op.binOp Go.BinOp.add 9 (Go.Operand.tmp 23) (Go.Operand.tmp 27) 9, type := 9, pos := "ref.go:27", after := #[{ on := 4, ground := Go.Ground.data }, { on := 8, ground := Go.Ground.data }], guard := none }) (v := ?_) rfl (by kernel_rfl) (by kernel_rfl) (by kernel_rfl) (fun _ _ _ h => h) (Or.inl ⟨by rfl, ?_⟩) (by assumption) ?_
        (rotate_left; focus (intro wS hSw; (try dsimp only at hSw); go_simp; (try rw [if_neg (by omega)]); try with_reducible rfl))
        (try simp only [Act.put, List.setIfInBounds_toArray, List.set_cons_zero, List.set_cons_succ])
        refine wpAnyH_ready (rs := [10]) (by kernel_rfl) (by simp) ?_
        refine AllReadyH.cons (o := { dst := some 29, op := Go.Op.call { callee := Go.Callee.value (Go.Operand.func 17), args := #[Go.Operand.tmp 28], argTypes := #[9] }, type := 9, pos := "ref.go:27", after := #[{ on := 9, ground := Go.Ground.data }, { on := 8, ground := Go.Ground.chain }], guard := none }) rfl (fun K hK => ?_) AllReadyH.nil
        go_simp
        refine (T4.out _).mono ?_
        rintro e w4 ⟨rfl, hb4⟩
        have hP3 : Below w.heap.size w w4 := below_step hP2 (Nat.le_refl _) hb4
        clear hb4
        (try go_wp2_with fail)
        refine hK.out _ _ (trivial) (fun hHeld => ?_)
        clear hK K
        (try simp only [Act.put, List.setIfInBounds_toArray, List.set_cons_zero, List.set_cons_succ])
        refine wpAnyH_take (i := 11) (oi := { dst := some 2, op := Go.Op.assign (Go.Operand.tmp 29), type := 9, pos := "ref.go:27", after := #[{ on := 10, ground := Go.Ground.data }, { on := 10, ground := Go.Ground.chain }, { on := 0, ground := Go.Ground.phase }, { on := 1, ground := Go.Ground.phase }, { on := 2, ground := Go.Ground.phase }, { on := 3, ground := Go.Ground.phase }, { on := 4, ground := Go.Ground.phase }, { on := 5, ground := Go.Ground.phase }, { on := 6, ground := Go.Ground.phase }, { on := 7, ground := Go.Ground.phase }, { on := 8, ground := Go.Ground.phase }, { on := 9, ground := Go.Ground.phase }, { on := 10, ground := Go.Ground.phase }], guard := none }) (v := ?_) rfl (by kernel_rfl) (by kernel_rfl) (by kernel_rfl) (fun _ _ _ h => h) (Or.inl ⟨by rfl, ?_⟩) (by assumption) ?_
        (rotate_left; focus (intro wS hSw; (try dsimp only at hSw); go_simp; (try rw [if_neg (by omega)]); try with_reducible rfl))
        (try simp only [Act.put, List.setIfInBounds_toArray, List.set_cons_zero, List.set_cons_succ])
        refine wpAnyH_done (by kernel_rfl) ?_ _
        all_goals
          go_wp2
          go_ret
          rw [HR.out]
          exact ⟨rfl, hP3⟩
end Go.Proofs.Ytlhniaecgiockaa

