/-
  The law of RetainPlans.
-/
import Derived.Test.YtgoddgaamdifmaaK
import Derived.Test.YtgoddgaamdifmaaOpen
set_option linter.unusedVariables false
set_option linter.unusedSimpArgs false
namespace Go.Proofs.Ytgoddgaamdifmaa
open Go.RowKit Go.WideShapes Go.ChangeShapes Go.ChangeAt Go.Deep
def IntsOk (l : List Int) (w : World) (v : Value) : Prop := ∃ a cap, v = .slice a l.length cap ∧ l.length ≤ maxLen ∧ Sl intC 1 w a l ∧ ∀ x ∈ l, goodI x
theorem open_ints1 {H : Type} {enc : TypeId × Value → H} {w : World} {base base0 : Nat} {spare : Bool} {held : TypeId → Bool} {r : Reach} {v : Value} {d : DataW H} {p : List MemPlace}
    (hv : Value.okWide Try.prog w r base0 34 v) (h : DataW.Trod enc Try.prog w base held spare 34 v d p) : ∃ l, IntsOk l w v := by
  obtain ⟨xs, ⟨a, cap, rfl, hcap, hs⟩, hl, hg⟩ := open_sl intC goodI 1 Try.underlying34 (by kernel_rfl) (by omega) (fun _ => rfl) (fun n cs y hy => by
    obtain ⟨z, hc, _, hw⟩ := DataW.trod_int Try.underlying3 hy
    exact ⟨z, hc, hw⟩) hv h
  exact ⟨xs, a, cap, rfl, hl, hs, hg⟩
def Int3Ok (x : Int × Int × Int) (w : World) (v : Value) : Prop := v = .agg #[.int .i64 x.1, .int .i64 x.2.1, .int .i64 x.2.2]
theorem open_int3 {H : Type} {enc : TypeId × Value → H} {w : World} {base base0 : Nat} {spare : Bool} {held : TypeId → Bool} {r : Reach} {v : Value} {d : DataW H} {p : List MemPlace}
    (hv : Value.okWide Try.prog w r base0 35 v) (h : DataW.Trod enc Try.prog w base held spare 35 v d p) : ∃ x, Int3Ok x w v := by
  obtain ⟨zs, rfl, hl, hg⟩ := open_arr Try.underlying35 Try.underlying3 (by kernel_rfl) (by kernel_rfl) hv h
  obtain ⟨a, b, c, rfl⟩ := list3 hl
  exact ⟨(a, b, c), rfl⟩
def PlanE (n : Nat) (bs : List Value) (m : Nat) (w' : World) (e : Ending) : Prop := ∃ p, e = .returned (.slice (some ⟨p, 0, none⟩) n n) ∧ Bk p bs w' ∧ m ≤ p
theorem plan_ex (l : List Int) (k0 k1 k2 : Int) (a : Option Addr) (cap : Nat) (w : World) (hs : Sl intC 1 w a l) (hg : ∀ x ∈ l, goodI x) (hl : l.length ≤ 40) :
    Calls Try.prog 15 #[.slice a l.length cap, .agg #[.int .i64 k0, .int .i64 k1, .int .i64 k2]] w fun e w' => PlanE l.length (rowB l.length (stay3 l k0 k1 k2 3)) w.heap.size w' e ∧ Below w.heap.size w w' :=
  (plan_any l k0 k1 k2 a cap w hs hg hl).mono fun e w' ⟨h1, h2, h3⟩ => ⟨⟨_, h1, h2, by omega⟩, h3⟩
set_option maxRecDepth 100000 in
set_option maxHeartbeats 16000000 in
theorem plans_long (a : Option Addr) (n cap : Nat) (k0 k1 k2 : Int) (w : World) (hl : 40 < n) :
    Calls Try.prog 4 #[.slice a n cap, .agg #[.int .i64 k0, .int .i64 k1, .int .i64 k2]] w fun e w' => e = .returned (.bool true) ∧ Below w.heap.size w w' := by
  have d1 : decide ((40 : Int) < (n : Int)) = true := decide_eq_true (by omega)
  have HB0 := Lib.hid (below_new w (.cells #[.int .i64 k0, .int .i64 k1, .int .i64 k2] 35))
  go_enter Try.func4, Try.ntmps4
  go_wp2_with fail
  refine (awake_any _).mono ?_
  rintro e w3 ⟨rfl, hb⟩
  have HB3 := Lib.hid (below_cons HB0.out hb)
  clear hb
  go_wp2
  go_ret
  exact ⟨rfl, HB3.out⟩
set_option maxRecDepth 100000 in
set_option maxHeartbeats 16000000 in
theorem plans_walk (l : List Int) (a : Option Addr) (cap : Nat) (k0 k1 k2 : Int) (w : World) (hl : l.length ≤ 40) (hs : Sl intC 1 w a l) (hg : ∀ x ∈ l, goodI x) :
    Calls Try.prog 4 #[.slice a l.length cap, .agg #[.int .i64 k0, .int .i64 k1, .int .i64 k2]] w fun e w' => e = .returned (.bool true) ∧ Below w.heap.size w w' := by
  have T1 := Lib.hid (fun W (hb : Below w.heap.size w W) => plan_ex l k0 k1 k2 a cap W (hs.keep hb) hg hl)
  have T2 := Lib.hid (fun W (hb : Below w.heap.size w W) => rplan_any l k0 k1 k2 a cap W (hs.keep hb) hg hl)
  obtain ⟨L, hL⟩ : ∃ L, L = l.length := ⟨_, rfl⟩
  rw [← hL] at T1 T2 hl ⊢
  clear hL hs hg
  generalize stay3 l k0 k1 k2 3 = PB at T1 T2
  have d1 : decide ((40 : Int) < (L : Int)) = false := decide_eq_false (by omega)
  have HBX : Hid (Bk w.heap.size [.int .i64 k0, .int .i64 k1, .int .i64 k2] (w.alloc (.cells #[.int .i64 k0, .int .i64 k1, .int .i64 k2] 35))) := Lib.hid (Bk.new w _ #[.int .i64 k0, .int .i64 k1, .int .i64 k2])
  have HB0 := Lib.hid (below_new w (.cells #[.int .i64 k0, .int .i64 k1, .int .i64 k2] 35))
  go_enter Try.func4, Try.ntmps4
  go_wp2
  have hP0 := And.intro HBX.out.drew HB0.out.drew
  refine wp_region_held_drew (S := fun w' => Bk w.heap.size [.int .i64 k0, .int .i64 k1, .int .i64 k2] w' ∧ Below w.heap.size w w') (by kernel_rfl) (by (first | exact hP2 | exact hP1 | exact hP0)) (fun hHeld => ?_)
  refine wpAnyH_take (i := 0) (oi := { dst := some 12, op := Go.Op.move (Go.Operand.tmp 0), type := 34, pos := "law.go:46", after := #[], guard := none }) (v := ?_) rfl (by kernel_rfl) (by kernel_rfl) (by kernel_rfl) (fun _ _ _ h => h) (Or.inl ⟨by rfl, ?_⟩) (by assumption) ?_
  (rotate_left; focus (intro wS hSw; have s0 := (hSw.1.2 0 _ rfl).1; have s1 := (hSw.1.2 1 _ rfl).1; have s2 := (hSw.1.2 2 _ rfl).1; clear hSw; go_simp; (try rw [if_neg (by omega)]); try with_reducible rfl))
  (try simp only [Act.put, List.setIfInBounds_toArray, List.set_cons_zero, List.set_cons_succ])
  refine wpAnyH_take (i := 1) (oi := { dst := some 13, op := Go.Op.load 35 (Go.Operand.tmp 3), type := 35, pos := "law.go:46", after := #[], guard := none }) (v := ?_) rfl (by kernel_rfl) (by kernel_rfl) (by kernel_rfl) (fun _ _ _ h => h) (Or.inl ⟨by rfl, ?_⟩) (by assumption) ?_
  (rotate_left; focus (intro wS hSw; have s0 := (hSw.1.2 0 _ rfl).1; have s1 := (hSw.1.2 1 _ rfl).1; have s2 := (hSw.1.2 2 _ rfl).1; clear hSw; go_simp; (try rw [if_neg (by omega)]); try with_reducible rfl))
  (try simp only [Act.put, List.setIfInBounds_toArray, List.set_cons_zero, List.set_cons_succ])
  refine wpAnyH_take (i := 3) (oi := { dst := some 15, op := Go.Op.move (Go.Operand.tmp 0), type := 34, pos := "law.go:46", after := #[], guard := none }) (v := ?_) rfl (by kernel_rfl) (by kernel_rfl) (by kernel_rfl) (fun _ _ _ h => h) (Or.inl ⟨by rfl, ?_⟩) (by assumption) ?_
  (rotate_left; focus (intro wS hSw; have s0 := (hSw.1.2 0 _ rfl).1; have s1 := (hSw.1.2 1 _ rfl).1; have s2 := (hSw.1.2 2 _ rfl).1; clear hSw; go_simp; (try rw [if_neg (by omega)]); try with_reducible rfl))
  (try simp only [Act.put, List.setIfInBounds_toArray, List.set_cons_zero, List.set_cons_succ])
  refine wpAnyH_take (i := 4) (oi := { dst := some 16, op := Go.Op.load 35 (Go.Operand.tmp 3), type := 35, pos := "law.go:46", after := #[], guard := none }) (v := ?_) rfl (by kernel_rfl) (by kernel_rfl) (by kernel_rfl) (fun _ _ _ h => h) (Or.inl ⟨by rfl, ?_⟩) (by assumption) ?_
  (rotate_left; focus (intro wS hSw; have s0 := (hSw.1.2 0 _ rfl).1; have s1 := (hSw.1.2 1 _ rfl).1; have s2 := (hSw.1.2 2 _ rfl).1; clear hSw; go_simp; (try rw [if_neg (by omega)]); try with_reducible rfl))
  (try simp only [Act.put, List.setIfInBounds_toArray, List.set_cons_zero, List.set_cons_succ])
  refine wpAnyH_ready (rs := [2]) (by kernel_rfl) (by simp) ?_
  refine AllReadyH.cons (o := { dst := some 14, op := Go.Op.call { callee := Go.Callee.value (Go.Operand.func 15), args := #[Go.Operand.tmp 12, Go.Operand.tmp 13], argTypes := #[34, 35] }, type := 36, pos := "law.go:46", after := #[{ on := 0, ground := Go.Ground.data }, { on := 1, ground := Go.Ground.data }], guard := none }) rfl (fun K hK => ?_) AllReadyH.nil
  go_simp
  refine (T1.out _ hHeld.2).mono ?_
  rintro e v1 ⟨⟨p, rfl, hbk, _⟩, hv⟩
  have HPL := Lib.hid hbk
  (try have HRP := Lib.hid (HRP.out.keep hv))
  (try have hP1 := And.intro (hP1.1.keep hv) (below_step hP1.2 (Nat.le_refl _) hv))
  have hP2 := And.intro (hHeld.1.keep hv) (below_step hHeld.2 (Nat.le_refl _) hv)
  clear hv hbk
  (try go_wp2_with fail)
  refine hK.out _ _ (by (first | exact hP2 | exact hP1 | exact hP0)) (fun hHeld => ?_)
  clear hK K
  (try simp only [Act.put, List.setIfInBounds_toArray, List.set_cons_zero, List.set_cons_succ])
  refine wpAnyH_ready (rs := [5]) (by kernel_rfl) (by simp) ?_
  refine AllReadyH.cons (o := { dst := some 17, op := Go.Op.call { callee := Go.Callee.value (Go.Operand.func 16), args := #[Go.Operand.tmp 15, Go.Operand.tmp 16], argTypes := #[34, 35] }, type := 36, pos := "law.go:46", after := #[{ on := 3, ground := Go.Ground.data }, { on := 4, ground := Go.Ground.data }, { on := 2, ground := Go.Ground.chain }], guard := none }) rfl (fun K hK => ?_) AllReadyH.nil
  go_simp
  refine (T2.out _ hHeld.2).mono ?_
  rintro e v1 ⟨⟨ra, rc, rfl, hsl⟩, hv⟩
  have HRP := Lib.hid hsl
  (try have HPL := Lib.hid (HPL.out.keep hv))
  have hP2 := And.intro (hHeld.1.keep hv) (below_step hHeld.2 (Nat.le_refl _) hv)
  clear hv hsl
  (try go_wp2_with fail)
  refine hK.out _ _ (by (first | exact hP2 | exact hP1 | exact hP0)) (fun hHeld => ?_)
  clear hK K
  (try simp only [Act.put, List.setIfInBounds_toArray, List.set_cons_zero, List.set_cons_succ])
  refine wpAnyH_take (i := 6) (oi := { dst := some 5, op := Go.Op.assign (Go.Operand.tmp 14), type := 36, pos := "law.go:46", after := #[{ on := 2, ground := Go.Ground.data }, { on := 5, ground := Go.Ground.chain }, { on := 0, ground := Go.Ground.phase }, { on := 1, ground := Go.Ground.phase }, { on := 2, ground := Go.Ground.phase }, { on := 3, ground := Go.Ground.textOnly Go.Departure.lateStores }, { on := 4, ground := Go.Ground.textOnly Go.Departure.lateStores }, { on := 5, ground := Go.Ground.textOnly Go.Departure.lateStoresUnsure }], guard := none }) (v := ?_) rfl (by kernel_rfl) (by kernel_rfl) (by kernel_rfl) (fun _ _ _ h => h) (Or.inl ⟨by rfl, ?_⟩) (by assumption) ?_
  (rotate_left; focus (intro wS hSw; have s0 := (hSw.1.2 0 _ rfl).1; have s1 := (hSw.1.2 1 _ rfl).1; have s2 := (hSw.1.2 2 _ rfl).1; clear hSw; go_simp; (try rw [if_neg (by omega)]); try with_reducible rfl))
  (try simp only [Act.put, List.setIfInBounds_toArray, List.set_cons_zero, List.set_cons_succ])
  refine wpAnyH_take (i := 7) (oi := { dst := some 6, op := Go.Op.assign (Go.Operand.tmp 17), type := 36, pos := "law.go:46", after := #[{ on := 5, ground := Go.Ground.data }, { on := 6, ground := Go.Ground.chain }, { on := 0, ground := Go.Ground.phase }, { on := 1, ground := Go.Ground.phase }, { on := 2, ground := Go.Ground.phase }, { on := 3, ground := Go.Ground.phase }, { on := 4, ground := Go.Ground.phase }, { on := 5, ground := Go.Ground.phase }, { on := 6, ground := Go.Ground.phase }], guard := none }) (v := ?_) rfl (by kernel_rfl) (by kernel_rfl) (by kernel_rfl) (fun _ _ _ h => h) (Or.inl ⟨by rfl, ?_⟩) (by assumption) ?_
  (rotate_left; focus (intro wS hSw; have s0 := (hSw.1.2 0 _ rfl).1; have s1 := (hSw.1.2 1 _ rfl).1; have s2 := (hSw.1.2 2 _ rfl).1; clear hSw; go_simp; (try rw [if_neg (by omega)]); try with_reducible rfl))
  (try simp only [Act.put, List.setIfInBounds_toArray, List.set_cons_zero, List.set_cons_succ])
  refine wpAnyH_done (by kernel_rfl) ?_ _
  all_goals
    have HBW := Lib.hid hHeld.2
    have hlen : (listB PB L).length = L := listB_len PB L
    have HLEN := Lib.hid hlen
    clear hP0 hP2 hHeld HBX HB0 d1 hlen
    have gnn : ((L : Int) != (L : Int)) = false := by simp
    go_wp2
    go_loopw [7] (fun ii wr => ∃ i : Nat, ii = .int .i64 i ∧ i ≤ L ∧ ∃ n, wr = v1.drewN n) (fun ii _ => L - (intOf ii).toNat)
    case atStart => exact ⟨0, rfl, by omega, 0, rfl⟩
    case round =>
      obtain ⟨i, rfl, hi, n, rfl⟩ := hrel
      by_cases hlt : i < L
      · have c1 := (HPL.out.2 i _ (rowB_get L PB i hlt)).1
        obtain ⟨b, o, rfl, hb, hcc⟩ := HRP.out i (by rw [HLEN.out]; exact hlt)
        have c2 := hcc 0 _ rfl
        rw [Nat.mul_one, Nat.add_zero, listB_get] at c2
        have g1 : (0 : Int) ≤ (i : Int) := by omega
        have g2 : (i : Int) < (L : Int) := by omega
        clear hcc hb
        generalize PB i = B at *
        have e1 : (B != B) = false := by simp
        go_wp2
        go_quiet (fail)
        go_wp2
        go_roundw
        case rel => exact ⟨i + 1, by go_num, by omega, n + nq, by first | rfl | simp only [World.drewN_drewN]⟩
        case measure => simp [intOf]; omega
      · obtain rfl : L = i := by omega
        have hkk : ¬ (L : Int) < (L : Int) := by omega
        have HBN := Lib.hid (below_drewN HBW.out n)
        go_wp2_with fail
        refine (awake_any _).mono ?_
        rintro e w9 ⟨rfl, hb⟩
        have HB9 := Lib.hid (below_cons HBN.out hb)
        clear hb
        go_wp2
        go_ret
        exact ⟨rfl, HB9.out⟩
theorem plans_law (v : Value) (l : List Int) (v2 : Value) (x : Int × Int × Int) (w : World) (h : IntsOk l w v) (hx : Int3Ok x w v2) : Calls Try.prog 4 #[v, v2] w fun e w' => e = .returned (.bool true) ∧ Below w.heap.size w w' := by
  obtain ⟨a, cap, rfl, _, hs, hg⟩ := h
  obtain ⟨k0, k1, k2⟩ := x
  obtain rfl := hx
  by_cases hl : l.length ≤ 40
  · exact plans_walk l a cap k0 k1 k2 w hl hs hg
  · exact plans_long a _ cap k0 k1 k2 w (by omega)
end Go.Proofs.Ytgoddgaamdifmaa

