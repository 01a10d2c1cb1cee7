/-
  The law's own Take: a vector out of a reader.
-/
import Derived.Test.YtommogkckooekaaV4
set_option linter.unusedVariables false
set_option linter.unusedSimpArgs false
namespace Go.Proofs.Ytommogkckooekaa
open Go.RowKit
theorem wpList_alloc_vec {ops : Array Oper} {rest : List Oper} {o : Oper} {a : Act} {w : World} {Q : Exit → Act → World → Prop} (hgd : o.guard = none) (ho : o.op = .alloc 23) {IZ : List Value} (hI : IZ = ints (noughts 16))
    (h : ∀ (w' : World) (p : Nat), Bk p IZ w' → p = w.heap.size → Below w.heap.size w w' → wpList Try.prog ops Q rest (a.put o.dst (.pointer (some ⟨p, 0, none⟩))) w') : wpList Try.prog ops Q (o :: rest) a w :=
  wpList_plain hgd fun _ hK => wp_alloc_vec ho hI (fun w' p h1 h2 h3 => hK _ _ (h w' p h1 h2 h3))
theorem wpList_store_vec {ops : Array Oper} {rest : List Oper} {o : Oper} {a : Act} {w : World} {Q : Exit → Act → World → Prop} (hgd : o.guard = none) (x y : Operand) (ho : o.op = .store 23 x y) {p : Nat} {A : Array Value} {V : List Int} {I U : List Value}
    (hx : a.eval x = .pointer (some ⟨p, 0, none⟩)) (hy : a.eval y = .agg A) (hb : Bk p U w) (hU : U.length = 16) (hI : I = ints V) (hA : A = (ints V).toArray) (hV : V.length = 16)
    (h : ∀ w' : World, Bk p I w' → Kp (fun j => j = p) w w' → wpList Try.prog ops Q rest (a.put o.dst undef) w') : wpList Try.prog ops Q (o :: rest) a w :=
  wpList_plain hgd fun _ hK => wp_store_vec x y ho hx hy hb hU hI hA hV (fun w' h1 h2 => hK _ _ (h w' h1 h2))
theorem res_cc {fn : Func} {p q : Tmp} {ty tz : TypeId} {tmps : Array Value} {w : World} {A B : Nat} {x y : Value} (h : fn.results = #[.cell p ty, .cell q tz]) (h1 : tmps.getD p undef = .pointer (some ⟨A, 0, none⟩)) (h2 : tmps.getD q undef = .pointer (some ⟨B, 0, none⟩)) (hl : (loadVar ty ⟨A, 0, none⟩).run Try.prog w = .ok x w) (hm : (loadVar tz ⟨B, 0, none⟩).run Try.prog w = .ok y w) :
    (results fn tmps).run Try.prog w = .ok (.tuple #[x, y]) w := by
  have h3 : ∀ A, (asAddr (.pointer (some ⟨A, 0, none⟩))).run Try.prog w = Result.ok ⟨A, 0, none⟩ w := fun _ => rfl
  simp at h1 h2
  simp only [results, h]
  simp [Sem.run_bind, Result.andThen, h1, h2, h3, hl, hm]
/-- What holds while Take's results are laid down. -/
def tkS (A p2 p4 : Nat) (r : ByteArray) (e : Int) (IV : List Value) (w w' : World) : Prop :=
  (Bk A [.string r, .int .i64 e] w' ∧ Bk p4 IV w') ∧ (∃ x y, Bk (A + 1) [x, y] w') ∧ (∃ U, U.length = 16 ∧ Bk p2 U w') ∧ Below w.heap.size w w'
theorem tk_st1 {A p2 p4 : Nat} {r : ByteArray} {e : Int} {IV : List Value} {w W : World} (h : tkS A p2 p4 r e IV w W) (h2 : A + 1 ≠ p2) (h4 : A + 1 ≠ p4) (hA : w.heap.size ≤ A) :
    tkS A p2 p4 r e IV w ((W.setCell ⟨A + 1, 0, none⟩ (.string r)).setCell ⟨A + 1, 1, none⟩ (.int .i64 e)) ∧ Bk (A + 1) [.string r, .int .i64 e] ((W.setCell ⟨A + 1, 0, none⟩ (.string r)).setCell ⟨A + 1, 1, none⟩ (.int .i64 e)) ∧ (Bk p2 IV W → Bk p2 IV ((W.setCell ⟨A + 1, 0, none⟩ (.string r)).setCell ⟨A + 1, 1, none⟩ (.int .i64 e))) := by
  obtain ⟨⟨ha, h4'⟩, ⟨x, y, h1⟩, ⟨U, hU, h2'⟩, hb⟩ := h
  have K : Kp (fun j => j = A + 1) W ((W.setCell ⟨A + 1, 0, none⟩ (.string r)).setCell ⟨A + 1, 1, none⟩ (.int .i64 e)) := Kp.set (S := fun j => j = A + 1) (Kp.set (S := fun j => j = A + 1) (Kp.refl _ W) (A + 1) 0 _ rfl) (A + 1) 1 _ rfl
  have hn : Bk (A + 1) [.string r, .int .i64 e] ((W.setCell ⟨A + 1, 0, none⟩ (.string r)).setCell ⟨A + 1, 1, none⟩ (.int .i64 e)) := (h1.set 0 (by simp) (.string r)).set 1 (by simp) (.int .i64 e)
  exact ⟨⟨⟨ha.kp K (by omega), h4'.kp K (by omega)⟩, ⟨_, _, hn⟩, ⟨U, hU, h2'.kp K (by omega)⟩, hb.trans (K.below hb.size (fun j hj => by omega))⟩, hn, fun h => h.kp K (by omega)⟩
theorem tk_st2 {A p2 p4 : Nat} {r : ByteArray} {e : Int} {IV : List Value} {w W W5 : World} (h : tkS A p2 p4 r e IV w W) (hv : Bk p2 IV W5) (K : Kp (fun j => j = p2) W W5) (hI : IV.length = 16) (h2 : A + 1 < p2) (h4 : p2 < p4) (hA : w.heap.size ≤ p2) :
    tkS A p2 p4 r e IV w W5 ∧ (Bk (A + 1) [.string r, .int .i64 e] W → Bk (A + 1) [.string r, .int .i64 e] W5) := by
  obtain ⟨⟨ha, h4'⟩, ⟨x, y, h1⟩, _, hb⟩ := h
  exact ⟨⟨⟨ha.kp K (by omega), h4'.kp K (by omega)⟩, ⟨_, _, h1.kp K (by omega)⟩, ⟨IV, hI, hv⟩, hb.trans (K.below hb.size (fun j hj => by omega))⟩, fun h => h.kp K (by omega)⟩
set_option maxHeartbeats 16000000 in
theorem take_any (s : ByteArray) (w : World) (hs : s.size ≤ 1099511627776) : Calls Try.prog 28 #[.agg #[.string s, .int .i64 0]] w fun e w' => e = .returned (.tuple #[.agg #[.string (stK s 16).2.1, .int .i64 (stK s 16).2.2], .agg (ints (stK s 16).1).toArray]) ∧ Below w.heap.size w w' := by
  have HSZ := Lib.hid (stK_size s)
  obtain ⟨IZ, hIZ⟩ : ∃ I, I = ints (noughts 16) := ⟨_, rfl⟩
  have HIZ := Lib.hid hIZ
  have HZL : Hid (IZ.length = 16) := Lib.hid (len2 hIZ rfl)
  clear hIZ
  have b0 : Bk w.heap.size [.string s, .int .i64 0] (w.alloc (.cells #[.string s, .int .i64 0] 53)) := Bk.new w 53 #[.string s, .int .i64 0]
  have b1 : Bk (w.heap.size + 1) [.string ⟨#[]⟩, .int .i64 0] ((w.alloc (.cells #[.string s, .int .i64 0] 53)).alloc (.cells #[.string ⟨#[]⟩, .int .i64 0] 53)) := by
    have := Bk.new (w.alloc (.cells #[.string s, .int .i64 0] 53)) 53 #[.string ⟨#[]⟩, .int .i64 0]
    rw [show (w.alloc (.cells #[.string s, .int .i64 0] 53)).heap.size = w.heap.size + 1 by simp] at this
    exact this
  have H0 := Lib.hid (b0.keep (below_new _ (.cells #[.string ⟨#[]⟩, .int .i64 0] 53)))
  have H1 := Lib.hid b1
  have HB1 := Lib.hid (below_cons (below_new w (.cells #[.string s, .int .i64 0] 53)) (below_new _ (.cells #[.string ⟨#[]⟩, .int .i64 0] 53)))
  clear b0 b1
  go_enter Try.func28, Try.ntmps28
  go_wp2_with (refine wpList_alloc_vec (by rfl) rfl HIZ.out ?_)
  intro w2 p2 hb2 hp2a hw2
  have hp2 : p2 = w.heap.size + 2 := by omega
  clear hp2a
  have hsz : ((w.alloc (.cells #[.string s, .int .i64 0] 53)).alloc (.cells #[.string ⟨#[]⟩, .int .i64 0] 53)).heap.size = w.heap.size + 1 + 1 := by simp
  rw [← hsz] at hw2
  have H02 := Lib.hid (H0.out.keep hw2); have H12 := Lib.hid (H1.out.keep hw2); have H22 := Lib.hid hb2; have HB2 := Lib.hid (below_step HB1.out (Nat.le_refl _) hw2); have HP2 := Lib.hid hp2
  clear hb2 hp2 hw2 hsz H0 H1 HB1
  go_wp2_with (refine wpList_alloc_vec (by rfl) rfl HIZ.out ?_)
  intro w3 p4 hb3 hp4 hw3
  have H03 := Lib.hid (H02.out.keep hw3); have H13 := Lib.hid (H12.out.keep hw3); have H23 := Lib.hid (H22.out.keep hw3); have H43 := Lib.hid hb3; have HB3 := Lib.hid (below_step HB2.out (Nat.le_refl _) hw3)
  have h42 : w.heap.size + 2 < p4 := by have := H22.out.1; have := HP2.out; omega
  have hp2 : p2 = w.heap.size + 2 := HP2.out
  clear hb3 hp4 hw3 H02 H12 H22 HB2 HP2
  obtain ⟨A, hA⟩ : ∃ A, A = w.heap.size := ⟨_, rfl⟩
  rw [← hA] at H03 H13 h42 hp2 ⊢
  have HA := Lib.hid hA
  have h12 : A + 1 < p2 := by omega
  have h24 : p2 < p4 := by omega
  clear hA hp2 h42
  go_wp2
  go_loopw [5] (fun i wr => ∃ k : Nat, i = .int .i64 k ∧ k ≤ 16 ∧ Bk A [.string (stK s k).2.1, .int .i64 (stK s k).2.2] wr ∧ Bk (A + 1) [.string ⟨#[]⟩, .int .i64 0] wr ∧ Bk p2 IZ wr ∧ Bk p4 (ints (stK s k).1) wr ∧ Below w.heap.size w wr) (fun i _ => 16 - (intOf i).toNat)
  case atStart => exact ⟨0, rfl, by omega, H03.out, H13.out, H23.out, by have := H43.out; rw [HIZ.out] at this; exact this, HB3.out⟩
  case round =>
    obtain ⟨k, rfl, hk, h0, h1, h2, h4, hb⟩ := hrel
    have H0 := Lib.hid h0; have H1 := Lib.hid h1; have H2 := Lib.hid h2; have H4 := Lib.hid h4; have HB := Lib.hid hb
    clear h0 h1 h2 h4 hb
    by_cases hkt : k < 16
    · have d1 : (k : Int) < 16 := by omega
      have d2 : (0 : Int) ≤ (k : Int) := by omega
      have HS1 : Hid ((stK s (k + 1)).1 = (stK s k).1.set k (numO (stK s k).2.1 (stK s k).2.2).1) := Lib.hid rfl
      have HS2 : Hid ((stK s (k + 1)).2.1 = (numO (stK s k).2.1 (stK s k).2.2).2.1) := Lib.hid rfl
      have HS3 : Hid ((stK s (k + 1)).2.2 = (numO (stK s k).2.1 (stK s k).2.2).2.2) := Lib.hid rfl
      have T := Lib.hid (fun W => rn_any (stK s k).2.1 (stK s k).2.2 W (by have := HSZ.out k; omega))
      have HVN := Lib.hid (stK_len s k)
      unfold numRR at T
      obtain ⟨V, hV⟩ : ∃ V, V = (stK s k).1 := ⟨_, rfl⟩
      obtain ⟨r, hr⟩ : ∃ r, r = (stK s k).2.1 := ⟨_, rfl⟩
      obtain ⟨e, he⟩ : ∃ e, e = (stK s k).2.2 := ⟨_, rfl⟩
      obtain ⟨n, hn⟩ : ∃ n, n = (numO (stK s k).2.1 (stK s k).2.2).1 := ⟨_, rfl⟩
      obtain ⟨r', hr'⟩ : ∃ r', r' = (numO (stK s k).2.1 (stK s k).2.2).2.1 := ⟨_, rfl⟩
      obtain ⟨e', he'⟩ : ∃ e', e' = (numO (stK s k).2.1 (stK s k).2.2).2.2 := ⟨_, rfl⟩
      rw [← hn] at T HS1
      rw [← hr'] at T HS2
      rw [← he'] at T HS3
      rw [← hV] at H4 HVN HS1
      rw [← hr] at H0 T
      rw [← he] at H0 T
      clear hV hn hr' he' hr he
      have c0 := (H0.out.2 0 _ rfl).1; have c1 := (H0.out.2 1 _ rfl).1
      go_wp2_with fail
      refine (T.out _).mono ?_
      rintro ee w4 ⟨rfl, hb4⟩
      have h0 := H0.out.keep hb4
      have a0 := (h0.2 0 _ rfl).1; have a1 := (h0.2 1 _ rfl).1
      have f0 := (h0.2 0 _ rfl).2; have f1 := (h0.2 1 _ rfl).2
      have h4 := H4.out.keep hb4
      have hAl := H0.out.1
      have h4l := H4.out.1
      have hz4 := hb4.size
      have hA4 : A < w4.heap.size := by omega
      have hp44 : p4 < w4.heap.size := by omega
      have hAp : A ≠ p4 := by omega
      have hAw : A ≠ w4.heap.size := by omega
      have hpw : p4 ≠ w4.heap.size := by omega
      have v0 := (h4.2 k _ (ints_get V k (by rw [HVN.out]; exact hkt))).1
      have fv := (h4.2 k _ (ints_get V k (by rw [HVN.out]; exact hkt))).2
      have H04 := Lib.hid h0; have H14 := Lib.hid (H1.out.keep hb4); have H24 := Lib.hid (H2.out.keep hb4); have H44 := Lib.hid h4; have HB4 := Lib.hid (below_step HB.out (Nat.le_refl _) hb4)
      clear h0 h4 hb4 c0 c1
      go_wp2
      go_roundw
      case rel =>
        have K : Kp (fun j => j = A ∨ j = p4) w4 ((((w4.setCell ⟨A, 0, none⟩ (.string r')).setCell ⟨A, 1, none⟩ (.int .i64 e')).setCell ⟨p4, k, none⟩ (.int .i64 n)).alloc (.cells #[.string r', .int .i64 e'] 53)) :=
          ((((Kp.refl _ w4).set A 0 _ (Or.inl rfl)).set A 1 _ (Or.inl rfl)).set p4 k _ (Or.inr rfl)).alloc _
        refine ⟨k + 1, by go_num, by omega, ?_, H14.out.kp K (by omega), H24.out.kp K (by omega), ?_, HB4.out.trans (K.below HB4.out.size (fun j hj => by have := HA.out; have := HB.out.size; omega))⟩
        · rw [HS2.out, HS3.out]
          exact ((((H04.out.set 0 (by simp) (.string r')).set 1 (by simp) (.int .i64 e')).other (q := ⟨p4, k, none⟩) (by simp; omega) _).keep (below_new _ _))
        · rw [HS1.out, ← ints_set]
          exact (((H44.out.other (q := ⟨A, 0, none⟩) (by simp; omega) _).other (q := ⟨A, 1, none⟩) (by simp; omega) _).set k (by rw [ints_len, HVN.out]; exact hkt) _).keep (below_new _ _)
      case measure => simp [intOf]; omega
    · obtain rfl : k = 16 := by omega
      have HVN := Lib.hid (stK_len s 16)
      obtain ⟨V, hV⟩ : ∃ V, V = (stK s 16).1 := ⟨_, rfl⟩
      obtain ⟨r, hr⟩ : ∃ r, r = (stK s 16).2.1 := ⟨_, rfl⟩
      obtain ⟨e, he⟩ : ∃ e, e = (stK s 16).2.2 := ⟨_, rfl⟩
      rw [← hV] at H4 HVN
      rw [← hr] at H0
      rw [← he] at H0
      have HVE := Lib.hid hV; have HRE := Lib.hid hr; have HEE := Lib.hid he
      clear hV hr he
      obtain ⟨IV, hIV⟩ : ∃ I, I = ints V := ⟨_, rfl⟩
      obtain ⟨AV, hAV⟩ : ∃ I, I = (ints V).toArray := ⟨_, rfl⟩
      rw [← hIV] at H4
      have HIV := Lib.hid hIV; have HAV := Lib.hid hAV
      clear hIV hAV
      have hwA : w.heap.size ≤ A := by rw [HA.out]; exact Nat.le_refl _
      have HP0 : Hid (tkS A p2 p4 r e IV w wr.drew) := Lib.hid ⟨⟨H0.out.drew, H4.out.drew⟩, ⟨_, _, H1.out.drew⟩, ⟨IZ, HZL.out, H2.out.drew⟩, HB.out.drew⟩
      have HST1 : Hid (∀ W, tkS A p2 p4 r e IV w W → tkS A p2 p4 r e IV w ((W.setCell ⟨A + 1, 0, none⟩ (.string r)).setCell ⟨A + 1, 1, none⟩ (.int .i64 e)) ∧ Bk (A + 1) [.string r, .int .i64 e] ((W.setCell ⟨A + 1, 0, none⟩ (.string r)).setCell ⟨A + 1, 1, none⟩ (.int .i64 e)) ∧ (Bk p2 IV W → Bk p2 IV ((W.setCell ⟨A + 1, 0, none⟩ (.string r)).setCell ⟨A + 1, 1, none⟩ (.int .i64 e)))) := Lib.hid (fun W h => tk_st1 h (by omega) (by omega) hwA)
      have HST2 : Hid (∀ W W5, tkS A p2 p4 r e IV w W → Bk p2 IV W5 → Kp (fun j => j = p2) W W5 → tkS A p2 p4 r e IV w W5 ∧ (Bk (A + 1) [.string r, .int .i64 e] W → Bk (A + 1) [.string r, .int .i64 e] W5)) := Lib.hid (fun W W5 h hb hk => tk_st2 h hb hk (by rw [HIV.out, ints_len, HVN.out]) (by omega) (by omega) (by omega))
      have HLV : Hid (∀ W : World, Bk p4 IV W → (Instr.loadAt 23 (.pointer (some ⟨p4, 0, none⟩))).run Try.prog W = .ok (.agg AV) W) := Lib.hid (fun W h => by rw [HAV.out]; exact sl2 h HIV.out HVN.out)
      go_wp2
      have hP0 := HP0.out
      refine wp_region_held_drew (S := fun w' => tkS A p2 p4 r e IV w w') (by kernel_rfl) (by (first | exact hP2 | exact hP1 | exact hP0)) (fun hHeld => ?_)
      refine wpAnyH_take (i := 0) (oi := { dst := some 21, op := Go.Op.load 53 (Go.Operand.tmp 1), type := 53, pos := "ref.go:83", after := #[], guard := none }) (v := ?_) rfl (by kernel_rfl) (by kernel_rfl) (by kernel_rfl) (fun _ _ _ h => h) (Or.inl ⟨by rfl, ?_⟩) (by assumption) ?_
      (rotate_left; focus (intro wS hSw; have s0 := (hSw.1.1.2 0 _ rfl).1; have s1 := (hSw.1.1.2 1 _ rfl).1; clear hSw; go_simp; (try rw [if_neg (by omega)]); try with_reducible rfl))
      (try simp only [Act.put, List.setIfInBounds_toArray, List.set_cons_zero, List.set_cons_succ])
      refine wpAnyH_take (i := 1) (oi := { dst := some 22, op := Go.Op.load 23 (Go.Operand.tmp 4), type := 23, pos := "ref.go:83", after := #[{ on := 2, ground := Go.Ground.gcOnly Go.Departure.lateStores }], guard := none }) (v := ?_) rfl (by kernel_rfl) (by kernel_rfl) (by kernel_rfl) (fun _ _ _ h => h) (Or.inl ⟨by rfl, ?_⟩) (by assumption) ?_
      (rotate_left; focus (intro wS hSw; refine (exec_load (HLV.out _ hSw.1.2) rfl rfl).trans ?_; with_reducible rfl))
      (try simp only [Act.put, List.setIfInBounds_toArray, List.set_cons_zero, List.set_cons_succ])
      refine wpAnyH_ready (rs := [2]) (by kernel_rfl) (by simp) ?_
      refine AllReadyH.cons (o := { dst := none, op := Go.Op.store 53 (Go.Operand.tmp 2) (Go.Operand.tmp 21), type := 0, pos := "ref.go:83", after := #[{ on := 0, ground := Go.Ground.data }, { on := 0, ground := Go.Ground.phase }, { on := 1, ground := Go.Ground.textOnly Go.Departure.lateStores }], guard := none }) rfl (fun K hK => ?_) AllReadyH.nil
      obtain ⟨q0, q1, hq⟩ := hHeld.2.1
      first | (have x0 : wr.cell? ⟨A + 1, 0, none⟩ = some q0 := (hq.2 0 _ rfl).1; have x1 : wr.cell? ⟨A + 1, 1, none⟩ = some q1 := (hq.2 1 _ rfl).1; have y0 : wr.frozen? ⟨A + 1, 0, none⟩ = false := (hq.2 0 _ rfl).2; have y1 : wr.frozen? ⟨A + 1, 1, none⟩ = false := (hq.2 1 _ rfl).2) | (have x0 := (hq.2 0 _ rfl).1; have x1 := (hq.2 1 _ rfl).1; have y0 := (hq.2 0 _ rfl).2; have y1 := (hq.2 1 _ rfl).2)
      have hx := HST1.out _ hHeld
      clear hq
      go_simp
      have hP1 := hx.1
      have hT := hx.2.1
      (try replace hV := hx.2.2 hV)
      clear x0 x1 y0 y1 hx
      refine hK.out _ _ (by (first | exact hP2 | exact hP1 | exact hP0)) (fun hHeld => ?_)
      clear hK K
      (try simp only [Act.put, List.setIfInBounds_toArray, List.set_cons_zero, List.set_cons_succ])
      refine wpAnyH_ready (rs := [3]) (by kernel_rfl) (by simp) ?_
      refine AllReadyH.cons (o := { dst := none, op := Go.Op.store 23 (Go.Operand.tmp 3) (Go.Operand.tmp 22), type := 0, pos := "ref.go:83", after := #[{ on := 1, ground := Go.Ground.data }, { on := 2, ground := Go.Ground.chain }, { on := 0, ground := Go.Ground.phase }, { on := 1, ground := Go.Ground.phase }, { on := 2, ground := Go.Ground.phase }], guard := none }) rfl (fun K hK => ?_) AllReadyH.nil
      obtain ⟨U, hU, hq⟩ := hHeld.2.2.1
      refine wp_store_vec (.tmp 3) (.tmp 22) rfl rfl rfl hq hU HIV.out HAV.out HVN.out ?_
      intro w5 hV hk5
      have hx := HST2.out _ _ hHeld hV hk5
      have hP2 := hx.1
      (try replace hT := hx.2 hT)
      clear hx hq hU hk5
      refine hK.out _ _ (by (first | exact hP2 | exact hP1 | exact hP0)) (fun hHeld => ?_)
      clear hK K
      (try simp only [Act.put, List.setIfInBounds_toArray, List.set_cons_zero, List.set_cons_succ])
      refine wpAnyH_done (by kernel_rfl) ?_ _
      all_goals
        go_wp2
        (try simp only [Exit.inBlock, Exit.then])
        refine bodyPost_ret (res_cc rfl rfl rfl (load_R hT) (by have := hV; rw [HIV.out] at this; exact vec_var this HVN.out)) rfl ?_
        rw [← HVE.out, ← HRE.out, ← HEE.out]
        first | exact ⟨rfl, hP2.2.2.2⟩ | exact ⟨rfl, hP1.2.2.2⟩
end Go.Proofs.Ytommogkckooekaa

