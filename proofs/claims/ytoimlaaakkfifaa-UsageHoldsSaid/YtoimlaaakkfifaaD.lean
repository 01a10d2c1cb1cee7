/-
  The contract of usage.Shared.
-/
import Derived.Test.YtoimlaaakkfifaaC
set_option linter.unusedVariables false
set_option linter.unusedSimpArgs false
namespace Go.Proofs.Ytoimlaaakkfifaa
open Go.RowKit
def kb : HKind ByteArray Bool := kindSB 44 9 4 Try.underlying44 Try.underlying9 (fun w => by kernel_rfl)
/-- Block b is a map of at most N marks: g tells which texts are marked. -/
def SM (w : World) (b N : Nat) (g : ByteArray → Bool) : Prop := ∃ ks f, HM kb w b ks f ∧ ks.length ≤ N ∧ ∀ s : ByteArray, s.size ≤ maxLen → f s = g s
theorem SM.made (w : World) : SM (w.alloc (.map #[] 0)) w.heap.size 0 (fun _ => false) := ⟨[], _, HM.made kb w, by simp, fun s _ => rfl⟩
theorem SM.kp {S : Nat → Prop} {w w' : World} {b N : Nat} {g : ByteArray → Bool} (h : SM w b N g) (k : Kp S w w') (hn : ¬ S b) : SM w' b N g := by
  obtain ⟨ks, f, hm, r⟩ := h
  exact ⟨ks, f, hm.kp k hn, r⟩
theorem SM.keep {w w' : World} {b N : Nat} {g : ByteArray → Bool} (h : SM w b N g) (k : Below w.heap.size w w') : SM w' b N g := h.kp (Kp.new (S := fun _ => False) k) (fun h => h)
theorem SM.same {w : World} {b N : Nat} {g g' : ByteArray → Bool} (h : SM w b N g) (he : ∀ s, g s = g' s) : SM w b N g' := by
  obtain ⟨ks, f, hm, hl, hf⟩ := h
  exact ⟨ks, f, hm, hl, fun s hs => (hf s hs).trans (he s)⟩
theorem SM.mono {w : World} {b N N' : Nat} {g : ByteArray → Bool} (h : SM w b N g) (hN : N ≤ N') : SM w b N' g := by
  obtain ⟨ks, f, hm, hl, hf⟩ := h
  exact ⟨ks, f, hm, by omega, hf⟩
theorem SM.lt {w : World} {b N : Nat} {g : ByteArray → Bool} (h : SM w b N g) : b < w.heap.size := by
  obtain ⟨ks, f, hm, _⟩ := h
  exact hm.lt
theorem SM.get {w : World} {b N : Nat} {g : ByteArray → Bool} (h : SM w b N g) {s : ByteArray} (hs : s.size ≤ maxLen) : (Instr.lookup 44 (.map (some b)) (.string s) false).run Try.prog w = .ok (.bool (g s)) w := by
  obtain ⟨ks, f, hm, hl, hf⟩ := h
  rw [← hf s hs]; exact hm.get (M := kb) hs
theorem SM.put {w : World} {b N : Nat} {g : ByteArray → Bool} (h : SM w b N g) (hN : N ≤ 1000000) {s : ByteArray} (hs : s.size ≤ maxLen) :
    ∃ w', (Instr.mapUpdate 44 (.map (some b)) (.string s) (.bool true)).run Try.prog w = .ok () w' ∧ SM w' b (N + 1) (fun t => g t || decide (s = t)) ∧ Kp (fun k => k = b) w w' := by
  obtain ⟨ks, f, hm, hl, hf⟩ := h
  have hml : (maxLen : Nat) = 9223372036854775807 := rfl
  obtain ⟨w4, hu, hm4, hk4, _⟩ := hm.put (M := kb) (by omega) hs true
  refine ⟨w4, hu, ⟨_, _, hm4, ?_, fun t ht => ?_⟩, hk4⟩
  · rw [addK_len]; split <;> omega
  · by_cases e : t = s
    · subst e; rw [sef_same]; simp
    · rw [sef_other _ _ e, hf t ht]
      show g t = (g t || decide (s = t))
      rw [decide_eq_false (fun h => e h.symm), Bool.or_false]
/-- A backup as it lies in memory. -/
structure EntM where
  e : Ent
  a : Option Addr
  c : Nat
  lab : ByteArray
  ta : Option Addr
  tn : Nat
  tc : Nat
  ka : Option Addr
  kn : Nat
  kc : Nat
  da : Option Addr
  dn : Nat
  dc : Nat
def encE (x : EntM) : List Value := [.string x.e.name, .int .i64 x.e.size, .int .i64 x.e.chunk, .slice x.a x.e.ids.length x.c, .string x.lab, .slice x.ta x.tn x.tc, .slice x.ka x.kn x.kc, .slice x.da x.dn x.dc]
def EntM.ok (w : World) (x : EntM) : Prop := Sl strC 1 w x.a x.e.ids ∧ ∀ s ∈ x.e.ids, s.size ≤ maxLen
/-- The backups of a list. -/
def ents (l : List EntM) : List Ent := l.map EntM.e
theorem ents_len (l : List EntM) : (ents l).length = l.length := by simp [ents]
theorem ents_nth (l : List EntM) {i : Nat} (h : i < l.length) : nth (ents l) i = l[i].e := by
  rw [nth_get (by rw [ents_len]; exact h)]; simp [ents]
theorem own_row2 {w : World} {B n : Nat} {v : Value} {l : List (ByteArray × Int)} (hl : l.length = n) (h : w.ownsRow B 47 2 v n (l.flatMap chC)) (k : Nat) (hk : k < n) :
    ∃ a c o, v = .slice (some ⟨a, o, none⟩) n c ∧ a < w.heap.size ∧ w.cell? ⟨a, o + k * 2, none⟩ = some (.string (l[k]'(by omega)).1) ∧ w.cell? ⟨a, o + k * 2 + 1, none⟩ = some (.int .i64 (l[k]'(by omega)).2) := by
  subst hl
  obtain ⟨a, c, rfl, _, hs⟩ := own_sl (enc := chC) (size := 2) (fun _ => rfl) (by decide) h
  obtain ⟨b, o, rfl, hb, hc⟩ := hs k hk
  exact ⟨b, c, o, rfl, hb, hc 0 _ rfl, hc 1 _ rfl⟩
theorem own_shape {w : World} {B : Nat} {e : TypeId} {size : Nat} {v : Value} {n : Nat} {xs : List Value} (h : w.ownsRow B e size v n xs) : ∃ a cap, v = .slice a n cap := by
  obtain ⟨_, ⟨rfl, h0⟩ | ⟨g, cap, cur, rfl, _⟩⟩ := h
  · exact ⟨none, 0, by rw [h0]⟩
  · exact ⟨_, _, rfl⟩
theorem idAt_good {e : Ent} (h : ∀ s ∈ e.ids, s.size ≤ maxLen) {k : Nat} (hk : k < e.ids.length) : (idAt e k).size ≤ maxLen := by
  rw [idAt_get hk]; exact h _ (List.getElem_mem hk)
set_option maxRecDepth 100000 in
set_option maxHeartbeats 16000000 in
theorem shared_any (l : List EntM) (a : Option Addr) (cap : Nat) (w : World) (hs : Sl encE 8 w a l) (hok : ∀ x ∈ l, x.ok w) (hfew : ∀ e ∈ ents l, e.ok) (hl : l.length ≤ 16) :
    Calls Try.prog 9 #[.slice a l.length cap] w fun r w' => r = .returned (.tuple #[.int .i64 (allI (ents l) l.length), .int .i64 (onceI (ents l) l.length)]) ∧ Below w.heap.size w w' := by
  have hmm := @run_makeMap Try.prog
  have HS := Lib.hid hs; have HOK := Lib.hid hok; have HF := Lib.hid hfew
  have HAB := Lib.hid (allI_bound hfew); have HOB := Lib.hid (onceI_bound hfew)
  have HM0 := Lib.hid (SM.made w)
  have HB0 := Lib.hid (below_new w (.map #[] 0))
  have HE0 : Hid (∀ s, earl (ents l) 0 s = false) := Lib.hid (fun s => by simp [earl])
  clear hs hok hfew
  obtain ⟨n, hn⟩ : ∃ n, n = l.length := ⟨_, rfl⟩
  have HN := Lib.hid hn
  rw [← hn] at hl ⊢
  clear hn
  go_enter Try.func9, Try.ntmps9
  go_wp2
  obtain ⟨b, hb⟩ : ∃ b, b = w.heap.size := ⟨_, rfl⟩
  rw [← hb] at HM0 ⊢
  have HBE := Lib.hid hb
  clear hb
  go_loopw [4, 5, 14] (fun al on i wr => ∃ k : Nat, i = .int .i64 k ∧ k ≤ n ∧ al = .int .i64 (allI (ents l) k) ∧ on = .int .i64 (onceI (ents l) k) ∧ SM wr b (20 * k) (earl (ents l) k) ∧ Below w.heap.size w wr) (fun _ _ i _ => n - (intOf i).toNat)
  case atStart => exact ⟨0, rfl, by omega, rfl, rfl, HM0.out.same (fun s => (HE0.out s).symm), HB0.out⟩
  case round =>
    obtain ⟨i, rfl, hi, rfl, rfl, hsm, hbw⟩ := hrel
    have HSM := Lib.hid hsm; have HBW := Lib.hid hbw
    clear hsm hbw
    by_cases hit : i < n
    · as_aux_lemma =>
      have hil : i < l.length := by rw [← HN.out]; exact hit
      obtain ⟨b2, o2, rfl, hb2, hc2⟩ := HS.out i hil
      have hx := HOK.out l[i] (List.getElem_mem hil)
      have HX1 := Lib.hid hx.1; have HX2 := Lib.hid hx.2
      have hxe := ents_nth l hil
      have hfe := nth_ok HF.out i
      rw [hxe] at hfe
      have HFE := Lib.hid hfe
      have HXE := Lib.hid hxe
      have c0 := (HBW.out.cell (p := ⟨b2, o2 + i * 8, none⟩) hb2).trans (hc2 0 _ rfl)
      have c1 := (HBW.out.cell (p := ⟨b2, o2 + i * 8 + 1, none⟩) hb2).trans (hc2 1 _ rfl)
      have c2 := (HBW.out.cell (p := ⟨b2, o2 + i * 8 + 2, none⟩) hb2).trans (hc2 2 _ rfl)
      have c3 := (HBW.out.cell (p := ⟨b2, o2 + i * 8 + 3, none⟩) hb2).trans (hc2 3 _ rfl)
      have c4 := (HBW.out.cell (p := ⟨b2, o2 + i * 8 + 4, none⟩) hb2).trans (hc2 4 _ rfl)
      have c5 := (HBW.out.cell (p := ⟨b2, o2 + i * 8 + 5, none⟩) hb2).trans (hc2 5 _ rfl)
      have c6 := (HBW.out.cell (p := ⟨b2, o2 + i * 8 + 6, none⟩) hb2).trans (hc2 6 _ rfl)
      have c7 := (HBW.out.cell (p := ⟨b2, o2 + i * 8 + 7, none⟩) hb2).trans (hc2 7 _ rfl)
      have HA1 : Hid (allI (ents l) (i + 1) = allI (ents l) i + allE (nth (ents l) i) (nth (ents l) i).ids.length) := Lib.hid rfl
      have HO1 : Hid (onceI (ents l) (i + 1) = onceI (ents l) i + onceE (ents l) i (nth (ents l) i).ids.length) := Lib.hid rfl
      have HEND := Lib.hid (seen_end (ents l) i (by rw [ents_len]; exact hil))
      have HSEEN := Lib.hid (seen_succ (ents l) i)
      have HZERO := Lib.hid (seen_zero (ents l) i)
      have HEB := Lib.hid (fun k => allE_bound hfe k)
      have HOEB := Lib.hid (onceE_bound HF.out i)
      have HLB := Lib.hid (lng_bound hfe)
      have HOE1 : Hid (∀ k, onceE (ents l) i (k + 1) = if seenAt (ents l) i k (idAt (nth (ents l) i) k) then onceE (ents l) i k else onceE (ents l) i k + lng (nth (ents l) i) k) := Lib.hid (fun k => rfl)
      rw [hxe] at HA1 HO1 HEND HSEEN HOEB HOE1
      have hab := HAB.out i; have hob := HOB.out i
      have hid20 := hfe.1
      clear hc2 hx hxe hfe
      generalize l[i] = x at *
      obtain ⟨e, ea, ec, lab, ta, tn, tc, ka, kn, kc, da, dn, dc⟩ := x
      dsimp only at *
      have d1 : (i : Int) < (n : Int) := by omega
      have HCA := Lib.hid (below_new wr (.cells #[.string e.name, .int .i64 e.size, .int .i64 e.chunk, .slice ea e.ids.length ec, .string lab, .slice ta tn tc, .slice ka kn kc, .slice da dn dc] 40))
      have T1 := Lib.hid (chunks_any e ea ec _ ((HX1.out.keep HBW.out).keep HCA.out) HFE.out)
      obtain ⟨m, hm⟩ : ∃ m, m = e.ids.length := ⟨_, rfl⟩
      have HME := Lib.hid hm
      rw [← hm] at HA1 HO1 HEND hid20 c3 HCA T1
      clear hm
      go_wp2_with fail
      refine T1.out.mono ?_
      rintro r w2 ⟨v, rfl, hown, hb2'⟩
      have hwz := HCA.out.size
      have HB2 := Lib.hid (below_step (below_step HBW.out (Nat.le_refl _) HCA.out) (Nat.le_refl _) hb2')
      have HSM2 := Lib.hid ((HSM.out.keep HCA.out).keep hb2')
      have HO2 := Lib.hid hown
      have hbl : b < wr.heap.size := HSM.out.lt
      obtain ⟨av, cv, rfl⟩ := own_shape hown
      obtain ⟨q, hq⟩ : ∃ q, q = (wr.alloc (.cells #[.string e.name, .int .i64 e.size, .int .i64 e.chunk, .slice ea m ec, .string lab, .slice ta tn tc, .slice ka kn kc, .slice da dn dc] 40)).heap.size := ⟨_, rfl⟩
      rw [← hq] at HO2
      have hbq : b < q := by rw [hq]; simp; omega
      have hA0 : allI (ents l) i + allE e 0 = allI (ents l) i := by rw [allE]; omega
      have hO0 : onceI (ents l) i + onceE (ents l) i 0 = onceI (ents l) i := by rw [onceE]; omega
      have HA0 := Lib.hid hA0; have HO0 := Lib.hid hO0
      clear hown hb2' hwz hq hA0 hO0 c0 c1 c2 c3 c4 c5 c6 c7
      go_wp2
      go_loopw [4, 5, 22] (fun al on k wr => ∃ j : Nat, k = .int .i64 j ∧ j ≤ m ∧ al = .int .i64 (allI (ents l) i + allE e j) ∧ on = .int .i64 (onceI (ents l) i + onceE (ents l) i j) ∧ SM wr b (20 * i + j) (seenAt (ents l) i j) ∧ wr.ownsRow q 47 2 (.slice av m cv) m ((chK e m).flatMap chC) ∧ Below w.heap.size w wr) (fun _ _ k _ => m - (intOf k).toNat)
      case atStart => exact ⟨0, rfl, by omega, by rw [HA0.out], by rw [HO0.out], (HSM2.out.same (fun s => (HZERO.out s).symm)).mono (by omega), HO2.out, HB2.out⟩
      case round =>
        obtain ⟨j, rfl, hj, rfl, rfl, hsm, hown, hbw⟩ := hrel
        have HSJ := Lib.hid hsm; have HOJ := Lib.hid hown; have HBJ := Lib.hid hbw
        clear hsm hown hbw
        by_cases hjt : j < m
        · as_aux_lemma =>
          obtain ⟨g, cg, og, hav, hgl, e0, e1⟩ := own_row2 (chK_len e m) HOJ.out j hjt
          simp only [Value.slice.injEq, true_and] at hav
          obtain ⟨rfl, rfl⟩ := hav
          rw [chK_get] at e0 e1
          have hgood := idAt_good HX2.out (k := j) (by rw [← HME.out]; exact hjt)
          have HA2 : Hid (allE e (j + 1) = allE e j + lng e j) := Lib.hid rfl
          have HO2 := Lib.hid (HOE1.out j)
          have HS2 := Lib.hid (HSEEN.out j (by rw [← HME.out]; exact hjt))
          have hID := idAt_get (e := e) (k := j) (by rw [← HME.out]; exact hjt)
          have HS3 : Hid (∀ s, seenAt (ents l) i (j + 1) s = (seenAt (ents l) i j s || decide (idAt e j = s))) := Lib.hid (fun s => by rw [hID]; exact HS2.out s)
          have hb1 := HEB.out j; have hb2 := HOEB.out j; have hb3 := HLB.out j
          clear hID HS2
          dsimp only at e0 e1
          have HBX := Lib.hid (below_new wr (.cells #[.string (idAt e j), .int .i64 (lng e j)] 47))
          have hsm1 := HSJ.out.keep HBX.out
          have hgt := hsm1.get hgood
          obtain ⟨w5, hu, hsm5, hk5⟩ := hsm1.put (by omega) hgood
          have HSM5 : Hid (SM w5 b (20 * i + (j + 1)) (seenAt (ents l) i (j + 1))) := Lib.hid (hsm5.same (fun s => (HS3.out s).symm))
          have HSM1 := Lib.hid hsm1
          have HOX := Lib.hid (own_kept HOJ.out HBX.out)
          have HO5 := Lib.hid (own_kp HOX.out hk5 (fun g hg => by omega))
          have HB1 := Lib.hid (below_step HBJ.out (Nat.le_refl _) HBX.out)
          have HB5 := Lib.hid (HB1.out.trans (hk5.below (B := w.heap.size) HB1.out.size (fun g hg => by have := HBE.out; omega)))
          have hx5 : Bk wr.heap.size [.string (idAt e j), .int .i64 (lng e j)] w5 := (Bk.new wr 47 #[.string (idAt e j), .int .i64 (lng e j)]).kp hk5 (by have := HSJ.out.lt; omega)
          have x0 := (hx5.2 0 _ rfl).1; have x1 := (hx5.2 1 _ rfl).1
          have d2 : (j : Int) < (m : Int) := by omega
          clear hsm1 hsm5 hk5 hx5
          by_cases hsn : seenAt (ents l) i j (idAt e j) = true
          · have HSS : Hid (∀ s, seenAt (ents l) i (j + 1) s = seenAt (ents l) i j s) := Lib.hid (fun s => by
              rw [HS3.out s]
              by_cases es : idAt e j = s
              · rw [← es, hsn]; rfl
              · rw [decide_eq_false es]; simp)
            rw [if_pos hsn] at HO2
            rw [hsn] at hgt
            have HREL : Hid (∀ (al on : Int), al = allI (ents l) i + allE e j + lng e j → on = onceI (ents l) i + onceE (ents l) i j → al = allI (ents l) i + allE e (j + 1) ∧ on = onceI (ents l) i + onceE (ents l) i (j + 1)) := Lib.hid (fun al on h1 h2 => ⟨by rw [HA2.out]; omega, by rw [HO2.out]; omega⟩)
            generalize onceE (ents l) i j = OE at *
            generalize onceI (ents l) i = OI at *
            generalize allE e j = AE at *
            generalize allI (ents l) i = AI at *
            generalize lng e j = N at *
            generalize idAt e j = s at *
            clear hu x0 x1 hsn
            go_wp2
            go_roundw
            case rel => exact ⟨j + 1, by go_num, by omega, vint (HREL.out _ _ rfl rfl).1, vint (HREL.out _ _ rfl rfl).2, (HSM1.out.same (fun s => (HSS.out s).symm)).mono (by omega), HOX.out, HB1.out⟩
            case measure => simp [intOf]; omega
          · have hsf : seenAt (ents l) i j (idAt e j) = false := by simpa using hsn
            rw [if_neg hsn] at HO2
            rw [hsf] at hgt
            have HREL : Hid (∀ (al on : Int), al = allI (ents l) i + allE e j + lng e j → on = onceI (ents l) i + onceE (ents l) i j + lng e j → al = allI (ents l) i + allE e (j + 1) ∧ on = onceI (ents l) i + onceE (ents l) i (j + 1)) := Lib.hid (fun al on h1 h2 => ⟨by rw [HA2.out]; omega, by rw [HO2.out]; omega⟩)
            generalize onceE (ents l) i j = OE at *
            generalize onceI (ents l) i = OI at *
            generalize allE e j = AE at *
            generalize allI (ents l) i = AI at *
            generalize lng e j = N at *
            generalize idAt e j = s at *
            clear hsn hsf
            go_wp2
            go_roundw
            case rel => exact ⟨j + 1, by go_num, by omega, vint (HREL.out _ _ rfl rfl).1, vint (HREL.out _ _ rfl rfl).2, HSM5.out, HO5.out, HB5.out⟩
            case measure => simp [intOf]; omega
        · obtain rfl : j = m := by omega
          as_aux_lemma =>
          go_wp2
          go_roundw
          case rel => exact ⟨i + 1, by go_num, by omega, by rw [HA1.out], by rw [HO1.out], (HSJ.out.same (fun s => HEND.out s)).mono (by omega), HBJ.out⟩
          case measure => simp [intOf]; omega
    · obtain rfl : i = n := by omega
      go_wp2
      go_ret2
      exact ⟨rfl, HBW.out⟩
end Go.Proofs.Ytoimlaaakkfifaa

