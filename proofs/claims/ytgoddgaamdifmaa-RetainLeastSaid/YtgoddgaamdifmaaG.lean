/-
  The contracts of the reference's stays and Plan.
-/
import Derived.Test.YtgoddgaamdifmaaF
import Derived.Deep.Draws
set_option linter.unusedVariables false
set_option linter.unusedSimpArgs false
namespace Go.Proofs.Ytgoddgaamdifmaa
open Go.RowKit Go.WideMaps Go.Maps
theorem own_drewN {w : World} {B : Nat} {e : TypeId} {size : Nat} {v : Value} {n : Nat} {xs : List Value} (h : w.ownsRow B e size v n xs) (q : Nat) : (w.drewN q).ownsRow B e size v n xs := own_kept h (below_drewN (Below.refl _ _) q)
def freshB (l : List Int) (D p : Nat) (P : Nat) (k j : Nat) : Bool := decide (P < p) && ((lessK l D p k).take j).all (fun x => x != P)
theorem freshB_zero (l : List Int) (D p P k : Nat) : freshB l D p P k 0 = decide (P < p) := by simp [freshB]
theorem freshB_next {l : List Int} {D p P k j : Nat} (h : j < (lessK l D p k).length) : freshB l D p P k (j + 1) = (freshB l D p P k j && ((lessK l D p k)[j] != P)) := by
  unfold freshB
  rw [List.take_succ_eq_append_getElem h, List.all_append, Bool.and_assoc]
  simp
theorem freshB_end {l : List Int} {D p P k j : Nat} (h : (lessK l D p k).length ≤ j) : freshB l D p P k j = true ↔ P < p ∧ P ∉ lessK l D p k := by
  unfold freshB
  rw [List.take_of_length_le h, Bool.and_eq_true, decide_eq_true_iff, List.all_eq_true]
  refine and_congr_right fun _ => ⟨fun h hm => by have := h _ hm; simp at this, fun h x hx => ?_⟩
  rw [bne_iff_ne]
  rintro rfl
  exact h hx
def intsN (l : List Nat) : List Int := l.map Int.ofNat
theorem intsN_len (l : List Nat) : (intsN l).length = l.length := List.length_map _
theorem intsN_get (l : List Nat) (j : Nat) (h : j < l.length) : (intsN l).getD j 0 = (l[j] : Int) := by
  unfold intsN
  rw [List.getD_eq_getElem?_getD, List.getElem?_map, List.getElem?_eq_getElem h]; rfl
theorem lessK_len (l : List Int) (D p : Nat) : ∀ k, (lessK l D p k).length ≤ k
  | 0 => Nat.le_refl _
  | k + 1 => by
    have := lessK_len l D p k
    unfold lessK
    split
    · rw [List.length_append]; simp; omega
    · omega
theorem stay_no {l : List Int} {D : Nat} (keep : Int) {i k : Nat} (hk : k < l.length) (hp : pt l D k = pt l D i) (h : ag l k < ag l i ∨ ag l k = ag l i ∧ k < i) : stayB l D keep i = false := by
  unfold stayB
  have : (yg l D l.length (pt l D i) == some i) = false := by
    rw [beq_eq_false_iff_ne]
    intro e
    have := (yg_some e).2.2 k hk hp
    omega
  rw [this]; rfl
theorem stay_yes {l : List Int} {D : Nat} (keep : Int) {i : Nat} (hi : i < l.length) (h : ∀ k < l.length, pt l D k = pt l D i → ¬ (ag l k < ag l i ∨ ag l k = ag l i ∧ k < i)) : stayB l D keep i = decide (((lessK l D (pt l D i) l.length).length : Int) < keep) := by
  unfold stayB
  have : (yg l D l.length (pt l D i) == some i) = true := by
    rw [beq_iff_eq]
    refine yg_iff.2 ⟨hi, rfl, fun j hj hp => ?_⟩
    have := h j hj hp
    omega
  rw [this]; rfl
theorem wrap_quo {A D P : Nat} (h : P = A / D) (hA : A ≤ 9223372036854775807) : wrap64 ((A : Int) / (D : Int)) = (P : Int) := by
  subst h
  exact (i64_of (Nat.div_le_self A D) hA).2
theorem wrap_tdiv {A D P : Nat} (h : P = A / D) (hA : A ≤ 9223372036854775807) : IntKind.i64.wrap ((A : Int).tdiv (D : Int)) = (P : Int) := by
  rw [show (A : Int).tdiv (D : Int) = ((A / D : Nat) : Int) from rfl, ← h]
  have : P ≤ A := by rw [h]; exact Nat.div_le_self _ _
  clear h
  rw [IntKind.wrap_i64]; omega
theorem nat_bne {a b : Nat} (h : a ≠ b) : ((a : Int) == (b : Int)) = false := by
  rw [beq_eq_false_iff_ne]; exact fun e => h (Int.ofNat.inj e)
theorem nat_beq {a b : Nat} (h : a = b) : ((a : Int) == (b : Int)) = true := by rw [h]; simp
theorem age_le {l : List Int} (hg : ∀ x ∈ l, goodI x) {k : Nat} (hk : k < l.length) : ag l k ≤ 9223372036854775807 := by
  have h2 := (goodI_le (hg l[k] (List.getElem_mem hk))).2
  unfold ag
  rw [List.getD_eq_getElem?_getD, List.getElem?_eq_getElem hk]
  simp only [Option.getD_some]
  omega
set_option maxRecDepth 100000 in
set_option maxHeartbeats 16000000 in
theorem stays_any (l : List Int) (i D : Nat) (keep : Int) (a : Option Addr) (cap : Nat) (w : World) (hs : Sl intC 1 w a l) (hg : ∀ x ∈ l, goodI x) (hl : l.length ≤ 40) (hi : i < l.length) (hD : 0 < D) (hD2 : D ≤ 30) :
    Calls Try.prog 30 #[.slice a l.length cap, .int .i64 i, .int .i64 D, .int .i64 keep] w fun e w' => e = .returned (.bool (stayB l D keep i)) ∧ Below w.heap.size w w' := by
  obtain ⟨i0, hi0, hz0, hz1, hz2⟩ := infoI
  obtain ⟨b, o, rfl, hb1, ci⟩ := sl_int hs i hi
  have hAi := age_le hg hi
  have hmxi := ag_mx l i
  have HS := Lib.hid hs
  have HAG := Lib.hid (fun k hk => age_le hg (k := k) hk)
  have HNO := Lib.hid (fun k hk hp h => stay_no (l := l) (D := D) keep (i := i) (k := k) hk hp h)
  have HYES := Lib.hid (fun h => stay_yes (l := l) (D := D) keep (i := i) hi h)
  obtain ⟨Pi, hPi⟩ : ∃ Pi, Pi = pt l D i := ⟨_, rfl⟩
  obtain ⟨Ai, hAie⟩ : ∃ Ai, Ai = ag l i := ⟨_, rfl⟩
  have hqi : wrap64 ((Ai : Int) / (D : Int)) = (Pi : Int) := wrap_quo (by rw [hPi, hAie]; rfl) (by rw [hAie]; exact hAi)
  rw [← hAie] at hmxi
  have HPI := Lib.hid hPi; have HAI := Lib.hid hAie
  obtain ⟨L, hL⟩ : ∃ L, L = l.length := ⟨_, rfl⟩
  rw [← hL] at hl hi ⊢
  have HL := Lib.hid hL
  clear hs hg hL hPi hAie hAi
  generalize l.getD i 0 = xi at *
  have HCI := Lib.hid ci
  have gi : (i : Int) < (L : Int) := by omega
  have hdn : decide (D = 0) = false := decide_eq_false (by omega)
  have hmax := max2_int; have hmax2 := max_two
  go_enter Try.func30, Try.ntmps30
  go_wp2
  simp only [hqi]
  go_loopw [10, 11] (fun v ki wr => ∃ k : Nat, ki = .int .i64 k ∧ k ≤ L ∧ (∀ j < k, pt l D j = Pi → ¬ (ag l j < Ai ∨ ag l j = Ai ∧ j < i)) ∧ wr.ownsRow w.heap.size 3 1 v (intsN (lessK l D Pi k)).length ((intsN (lessK l D Pi k)).flatMap intC) ∧ Below w.heap.size w wr) (fun _ ki _ => L - (intOf ki).toNat)
  case atStart => exact ⟨0, rfl, by omega, by omega, own_nil _ _ _ _, Below.refl _ _⟩
  case round =>
    obtain ⟨k, rfl, hk, hno, hrow, hbw⟩ := hrel
    have HNOK := Lib.hid hno; have HROW := Lib.hid hrow; have HBW := Lib.hid hbw
    obtain ⟨av, cv, rfl⟩ := own_shape hrow
    clear hno hrow hbw ci
    have hlk := lessK_len l D Pi k
    rw [intsN_len]
    obtain ⟨Q, hQ⟩ : ∃ Q, Q = (lessK l D Pi k).length := ⟨_, rfl⟩
    rw [← hQ] at hlk ⊢
    have HQ := Lib.hid hQ
    clear hQ
    have ci : wr.cell? ⟨b, o + i, none⟩ = some (.int .i64 xi) := (HBW.out.cell (p := ⟨b, o + i, none⟩) hb1).trans HCI.out
    by_cases hlt : k < L
    · have hkl : k < l.length := by rw [← HL.out]; exact hlt
      obtain ⟨b2, o2, e2, hb2, hc1⟩ := sl_int HS.out k hkl
      simp only [Option.some.injEq, Addr.mk.injEq, and_true] at e2
      obtain ⟨rfl, rfl⟩ := e2
      have ck : wr.cell? ⟨b, o + k, none⟩ = some (.int .i64 (l.getD k 0)) := (HBW.out.cell (p := ⟨b, o + k, none⟩) hb1).trans hc1
      have hAk := HAG.out k hkl
      have hmx := ag_mx l k
      obtain ⟨P, hP⟩ : ∃ P, P = pt l D k := ⟨_, rfl⟩
      obtain ⟨A, hA⟩ : ∃ A, A = ag l k := ⟨_, rfl⟩
      have hqk : wrap64 ((A : Int) / (D : Int)) = (P : Int) := wrap_quo (by rw [hP, hA]; rfl) (by rw [hA]; exact hAk)
      have HQ2 : Hid (IntKind.i64.wrap ((A : Int).tdiv (D : Int)) = (P : Int)) := Lib.hid (wrap_tdiv (by rw [hP, hA]; rfl) (by rw [hA]; exact hAk))
      rw [← hA] at hmx
      have HP := Lib.hid hP; have HA := Lib.hid hA
      have gk : (k : Int) < (L : Int) := by omega
      clear hP hA hAk hb2 hc1
      generalize l.getD k 0 = xk at *
      by_cases hbad : P = Pi ∧ (A < Ai ∨ A = Ai ∧ k < i)
      · have HF : Hid (stayB l D keep i = false) := Lib.hid (HNO.out k hkl (by rw [← HP.out, ← HPI.out]; exact hbad.1) (by rw [← HA.out, ← HAI.out]; exact hbad.2))
        obtain ⟨hpp, hab⟩ := hbad
        have e1 : ((P : Int) == (Pi : Int)) = true := nat_beq hpp
        have HPP := Lib.hid hpp
        clear hpp
        rcases hab with hlt2 | ⟨heq, hki⟩
        · have d2 : decide (A < Ai) = true := decide_eq_true hlt2
          go_wp2
          go_ret
          exact ⟨by rw [HF.out]; rfl, HBW.out⟩
        · have d2 : decide (A < Ai) = false := decide_eq_false (by omega)
          have d3 : ((A : Int) == (Ai : Int)) = true := nat_beq heq
          have d4 : decide (k < i) = true := decide_eq_true hki
          have HEQ := Lib.hid heq
          clear heq
          go_wp2
          go_ret
          exact ⟨by rw [HF.out]; rfl, HBW.out⟩
      · have HNOK2 : Hid (∀ j < k + 1, pt l D j = Pi → ¬ (ag l j < Ai ∨ ag l j = Ai ∧ j < i)) := Lib.hid (fun j hj => by
          by_cases e : j < k
          · exact HNOK.out j e
          · obtain rfl : j = k := by omega
            intro h1 h2
            exact hbad ⟨by rw [HP.out]; exact h1, by rw [HA.out]; exact h2⟩)
        have HNEXT : Hid (lessK l D Pi (k + 1) = if P < Pi ∧ P ∉ lessK l D Pi k then lessK l D Pi k ++ [P] else lessK l D Pi k) := Lib.hid (by rw [HP.out]; rfl)
        have HFZ := Lib.hid (freshB_zero l D Pi P k)
        have HFN : Hid (∀ j (h : j < (lessK l D Pi k).length), freshB l D Pi P k (j + 1) = (freshB l D Pi P k j && ((lessK l D Pi k)[j] != P))) := Lib.hid (fun j h => freshB_next h)
        have HFE : Hid (∀ j, (lessK l D Pi k).length ≤ j → (freshB l D Pi P k j = true ↔ P < Pi ∧ P ∉ lessK l D Pi k)) := Lib.hid (fun j h => freshB_end h)
        obtain ⟨lb, hlb⟩ : ∃ lb, lb = decide (P < Pi) := ⟨_, rfl⟩
        rw [← hlb] at HFZ
        have hlt3 : decide (P < Pi) = lb := hlb.symm
        clear hlb
        have hdz : ¬ (D : Int) = 0 := by omega
        have HSL : Hid (Sl intC 1 wr av (intsN (lessK l D Pi k))) := Lib.hid (by
          obtain ⟨a2, c2, e2, _, hsl⟩ := own_sl (enc := intC) (l := intsN (lessK l D Pi k)) (fun _ => rfl) (by decide) HROW.out
          simp only [Value.slice.injEq] at e2
          obtain ⟨rfl, _, rfl⟩ := e2
          exact hsl)
        obtain ⟨wo, rfl⟩ : ∃ wo : World, wo = wr := ⟨_, rfl⟩
        have hcase : (((P : Int) == (Pi : Int)) = true ∧ decide (A < Ai) = false ∧ ((A : Int) == (Ai : Int)) = true ∧ decide (k < i) = false) ∨ (((P : Int) == (Pi : Int)) = true ∧ decide (A < Ai) = false ∧ ((A : Int) == (Ai : Int)) = false ∧ True) ∨ (((P : Int) == (Pi : Int)) = false ∧ True ∧ True ∧ True) := by
          by_cases hpp : P = Pi
          · by_cases heq : A = Ai
            · exact Or.inl ⟨nat_beq hpp, decide_eq_false (fun h => hbad ⟨hpp, Or.inl h⟩), nat_beq heq, decide_eq_false (fun h => hbad ⟨hpp, Or.inr ⟨heq, h⟩⟩)⟩
            · exact Or.inr (Or.inl ⟨nat_beq hpp, decide_eq_false (fun h => hbad ⟨hpp, Or.inl h⟩), nat_bne heq, trivial⟩)
          · exact Or.inr (Or.inr ⟨nat_bne hpp, trivial, trivial, trivial⟩)
        clear hbad
        rcases hcase with ⟨e1, d2, d3, d4⟩ | ⟨e1, d2, d3, d4⟩ | ⟨e1, d2, d3, d4⟩
        all_goals
          go_wp2
          clear e1 d2 d3 d4
          go_loopw [13, 14] (fun fv ji wr => ∃ j : Nat, ji = .int .i64 j ∧ j ≤ Q ∧ fv = .bool (freshB l D Pi P k j) ∧ ∃ n, wr = wo.drewN n) (fun _ ji _ => Q - (intOf ji).toNat)
          case atStart => exact ⟨0, rfl, by omega, by rw [HFZ.out], 0, rfl⟩
          case round =>
            obtain ⟨j, rfl, hj, rfl, n, rfl⟩ := hrel
            by_cases hjq : j < Q
            · have hjl : j < (lessK l D Pi k).length := by rw [← HQ.out]; exact hjq
              have HN1 := Lib.hid (HFN.out j hjl)
              obtain ⟨b3, o3, rfl, hb3, hc3⟩ := sl_int HSL.out j (by rw [intsN_len]; exact hjl)
              rw [intsN_get _ j hjl] at hc3
              generalize (lessK l D Pi k)[j] = X at *
              cases hf : freshB l D Pi P k j with
              | false =>
                have HN2 : Hid (freshB l D Pi P k (j + 1) = false) := Lib.hid (by rw [HN1.out, hf]; rfl)
                clear hf
                go_wp2
                go_quiet (fail)
                go_wp2
                go_roundw
                case rel => exact ⟨j + 1, by go_num, by omega, by rw [HN2.out], n + nq, by first | rfl | simp only [World.drewN_drewN]⟩
                case measure => simp [intOf]; omega
              | true =>
                have g1 : (j : Int) < (Q : Int) := by omega
                have g2 : (0 : Int) ≤ (j : Int) := by omega
                have hq2 := HQ2.out
                by_cases hx : X = P
                · have e1 : ((X : Int) != (P : Int)) = false := by rw [bne, nat_beq hx]; rfl
                  have HN2 : Hid (freshB l D Pi P k (j + 1) = false) := Lib.hid (by rw [HN1.out, hf]; simp [hx])
                  have HX := Lib.hid hx
                  clear hf hx
                  go_wp2
                  go_quiet (fail)
                  go_wp2
                  go_roundw
                  case rel => exact ⟨j + 1, by go_num, by omega, by rw [HN2.out], n + nq, by first | rfl | simp only [World.drewN_drewN]⟩
                  case measure => simp [intOf]; omega
                · have e1 : ((X : Int) != (P : Int)) = true := by rw [bne, nat_bne hx]; rfl
                  have HN2 : Hid (freshB l D Pi P k (j + 1) = true) := Lib.hid (by rw [HN1.out, hf]; simp [hx])
                  have HX := Lib.hid hx
                  clear hf hx
                  go_wp2
                  go_quiet (fail)
                  go_wp2
                  go_roundw
                  case rel => exact ⟨j + 1, by go_num, by omega, by rw [HN2.out], n + nq, by first | rfl | simp only [World.drewN_drewN]⟩
                  case measure => simp [intOf]; omega
            · obtain rfl : Q = j := by omega
              have hkk : ¬ (Q : Int) < (Q : Int) := by omega
              have HEND := Lib.hid (HFE.out Q (by rw [HQ.out]; exact Nat.le_refl _))
              have HBN : Hid (Below w.heap.size w (wo.drewN n)) := Lib.hid (below_drewN HBW.out n)
              have HRN := Lib.hid (own_drewN HROW.out n)
              cases hf : freshB l D Pi P k Q with
              | false =>
                have HLS : Hid (lessK l D Pi (k + 1) = lessK l D Pi k) := Lib.hid (by
                  rw [HNEXT.out, if_neg]
                  intro h
                  have := HEND.out.2 h
                  rw [hf] at this
                  cases this)
                clear hf
                go_wp2
                go_roundw
                case rel => exact ⟨k + 1, by go_num, by omega, HNOK2.out, by rw [HLS.out, intsN_len, ← HQ.out]; have := HRN.out; rw [intsN_len, ← HQ.out] at this; exact this, HBN.out⟩
                case measure => simp [intOf]; omega
              | true =>
                have HLS : Hid (lessK l D Pi (k + 1) = lessK l D Pi k ++ [P]) := Lib.hid (by rw [HNEXT.out, if_pos (HEND.out.1 hf)])
                clear hf
                have HR2 := Lib.hid (own_kept HRN.out (below_new (wo.drewN n) (.cells #[.int .i64 P] 3)))
                rw [intsN_len, ← HQ.out] at HR2
                have HBX := Lib.hid (below_cons HBN.out (below_new (wo.drewN n) (.cells #[.int .i64 P] 3)))
                have hmw : w.heap.size ≤ wo.heap.size := HBW.out.size
                have HA1 : Hid (∀ j u, [Value.int .i64 (P : Int)][j]? = some u → ((wo.drewN n).alloc (.cells #[.int .i64 P] 3)).cell? ((⟨wo.heap.size, 0, none⟩ : Addr).add j) = some u) := Lib.hid (fun j u hj => new_cells _ _ _ j u hj)
                have HA2 : Hid (∀ u ∈ [Value.int .i64 (P : Int)], u.oneCell' = true) := Lib.hid (fun u hu => by simp at hu; rcases hu with rfl; rfl)
                have HA3 : Hid (Q + 1 ≤ maxLen) := Lib.hid (by unfold maxLen; omega)
                have HA4 : Hid ((Q + 1) * 8 ≤ 140737488355328) := Lib.hid (by omega)
                have HA5 : Hid (w.heap.size ≤ ((wo.drewN n).alloc (.cells #[.int .i64 P] 3)).heap.size) := Lib.hid (by simp; omega)
                go_wp2_with (at_builtin; refine wpList_append_own _ rfl _ _ 34 rfl w.heap.size 3 i0 (.int .i64 0) 1 8 Try.underlying34 hi0 hz0 hz1 hz2 rfl (by decide) _ _ _ rfl HR2.out ⟨wo.heap.size, 0, none⟩ 1 1 [.int .i64 P] rfl rfl HA1.out HA2.out HA3.out HA4.out HA5.out ?_)
                intro v5 w5 hown5 hg5 _
                have HO5 : Hid (w5.ownsRow w.heap.size 3 1 v5 (intsN (lessK l D Pi (k + 1))).length ((intsN (lessK l D Pi (k + 1))).flatMap intC)) := Lib.hid (by
                  rw [intsN_len, HLS.out, List.length_append, ← HQ.out]
                  unfold intsN
                  rw [List.map_append, List.flatMap_append]
                  exact hown5)
                have HB5 : Hid (Below w.heap.size w w5) := Lib.hid (HBX.out.trans ((Kp.grown (S := fun q => w.heap.size ≤ q) hg5 (fun q hq => (HR2.out.lt q hq).1)).below (by simp; omega) (fun q hq => hq)))
                obtain ⟨a5, c5, rfl⟩ := own_shape hown5
                clear hown5 hg5
                go_wp2
                go_roundw
                case rel => exact ⟨k + 1, by go_num, by omega, HNOK2.out, HO5.out, HB5.out⟩
                case measure => simp [intOf]; omega
    · obtain rfl : L = k := by omega
      have hkk : ¬ (L : Int) < (L : Int) := by omega
      have HF : Hid (stayB l D keep i = decide ((Q : Int) < keep)) := Lib.hid (by
        rw [HYES.out (fun j hj hp h => HNOK.out j (by rw [HL.out]; exact hj) (by rw [HPI.out]; exact hp) (by rw [HAI.out]; exact h)), ← HPI.out, ← HL.out, HQ.out])
      go_wp2
      go_ret
      exact ⟨by rw [HF.out]; rfl, HBW.out⟩
end Go.Proofs.Ytgoddgaamdifmaa

