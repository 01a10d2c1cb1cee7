/-
  The contract of the law's own Shared.
-/
import Derived.Test.YtoimlaaakkfifaaD
set_option linter.unusedVariables false
set_option linter.unusedSimpArgs false
namespace Go.Proofs.Ytoimlaaakkfifaa
open Go.RowKit
/-- Was a text seen in a backup's first ids, or in the first backups? -/
def sinceK (l : List Ent) (i k j : Nat) (s : ByteArray) : Bool := hasT ((nth l i).ids.take k) s || earl l j s
theorem since_zero (l : List Ent) (i k : Nat) (s : ByteArray) : sinceK l i k 0 s = hasT ((nth l i).ids.take k) s := by simp [sinceK, earl]
theorem since_succ (l : List Ent) (i k j : Nat) (s : ByteArray) (h : j < l.length) : sinceK l i k (j + 1) s = (sinceK l i k j s || hasT (nth l j).ids s) := by
  unfold sinceK
  rw [earl_succ l j h, Bool.or_assoc]
theorem since_end (l : List Ent) (i k : Nat) (s : ByteArray) : sinceK l i k i s = seenAt l i k s := rfl
theorem manifest_at {w wr : World} {l : List EntM} {b o : Nat} (hs : Sl encE 8 w (some ⟨b, o, none⟩) l) (hb : Below w.heap.size w wr) (j : Nat) (hj : j < l.length) :
    wr.cell? ⟨b, o + j * 8 + 1, none⟩ = some (.int .i64 l[j].e.size) ∧ wr.cell? ⟨b, o + j * 8 + 2, none⟩ = some (.int .i64 l[j].e.chunk) ∧ wr.cell? ⟨b, o + j * 8 + 3, none⟩ = some (.slice l[j].a l[j].e.ids.length l[j].c) := by
  obtain ⟨b2, o2, ha, hlt, hc⟩ := hs j hj
  obtain ⟨rfl, rfl⟩ : b = b2 ∧ o = o2 := by simpa using ha
  exact ⟨(hb.cell (p := ⟨b, o + j * 8 + 1, none⟩) hlt).trans (hc 1 _ rfl), (hb.cell (p := ⟨b, o + j * 8 + 2, none⟩) hlt).trans (hc 2 _ rfl), (hb.cell (p := ⟨b, o + j * 8 + 3, none⟩) hlt).trans (hc 3 _ rfl)⟩
set_option maxRecDepth 100000 in
set_option maxHeartbeats 16000000 in
theorem rshared_any (l : List EntM) (a : Option Addr) (cap : Nat) (w : World) (hs : Sl encE 8 w a l) (hok : ∀ x ∈ l, x.ok w) (hfew : ∀ e ∈ ents l, e.ok) (hl : l.length ≤ 16) :
    Calls Try.prog 10 #[.slice a l.length cap] w fun r w' => r = .returned (.tuple #[.int .i64 (allI (ents l) l.length), .int .i64 (onceI (ents l) l.length)]) ∧ Below w.heap.size w w' := by
  have HS := Lib.hid hs; have HOK := Lib.hid hok; have HF := Lib.hid hfew
  have HAB := Lib.hid (allI_bound hfew); have HOB := Lib.hid (onceI_bound hfew)
  clear hs hok hfew
  obtain ⟨n, hn⟩ : ∃ n, n = l.length := ⟨_, rfl⟩
  have HN := Lib.hid hn
  rw [← hn] at hl ⊢
  clear hn
  go_enter Try.func10, Try.ntmps10
  go_wp2
  go_loopw [4, 5, 6] (fun al on i wr => ∃ k : Nat, i = .int .i64 k ∧ k ≤ n ∧ al = .int .i64 (allI (ents l) k) ∧ on = .int .i64 (onceI (ents l) k) ∧ Below w.heap.size w wr) (fun _ _ i _ => n - (intOf i).toNat)
  case atStart => exact ⟨0, rfl, by omega, rfl, rfl, Below.refl _ _⟩
  case round =>
    obtain ⟨i, rfl, hi, rfl, rfl, hbw⟩ := hrel
    have HBW := Lib.hid hbw
    clear hbw
    by_cases hit : i < n
    · as_aux_lemma =>
      have hil : i < l.length := by rw [← HN.out]; exact hit
      obtain ⟨b2, o2, rfl, hb2, hc2⟩ := HS.out i hil
      have hx := HOK.out l[i] (List.getElem_mem hil)
      have HX1 := Lib.hid hx.1
      have hxe := ents_nth l hil
      have hfe := nth_ok HF.out i
      rw [hxe] at hfe
      have HFE := Lib.hid hfe
      obtain ⟨c1, c2, c3⟩ := manifest_at HS.out HBW.out i hil
      have HA1 : Hid (allI (ents l) (i + 1) = allI (ents l) i + allE (nth (ents l) i) (nth (ents l) i).ids.length) := Lib.hid rfl
      have HO1 : Hid (onceI (ents l) (i + 1) = onceI (ents l) i + onceE (ents l) i (nth (ents l) i).ids.length) := Lib.hid rfl
      have HEB := Lib.hid (fun k => allE_bound hfe k)
      have HOEB := Lib.hid (onceE_bound HF.out i)
      have HLB := Lib.hid (lng_bound hfe)
      have HOE1 : Hid (∀ k, onceE (ents l) i (k + 1) = if sinceK (ents l) i k i (idAt (nth (ents l) i) k) then onceE (ents l) i k else onceE (ents l) i k + lng (nth (ents l) i) k) := Lib.hid (fun k => rfl)
      have HSZ : Hid (∀ k s, sinceK (ents l) i k 0 s = hasT ((nth (ents l) i).ids.take k) s) := Lib.hid (fun k s => since_zero _ _ _ _)
      have HSS : Hid (∀ k j s, j < (ents l).length → sinceK (ents l) i k (j + 1) s = (sinceK (ents l) i k j s || hasT (nth (ents l) j).ids s)) := Lib.hid (fun k j s h => since_succ _ _ _ _ _ h)
      rw [hxe] at HA1 HO1 HOEB HOE1 HSZ
      have hab := HAB.out i; have hob := HOB.out i
      have hid20 := hfe.1
      clear hc2 hx hxe hfe
      generalize l[i] = x at *
      obtain ⟨e, ea, ec, lab, ta, tn, tc, ka, kn, kc, da, dn, dc⟩ := x
      dsimp only at *
      have d1 : (i : Int) < (n : Int) := by omega
      obtain ⟨m, hm⟩ : ∃ m, m = e.ids.length := ⟨_, rfl⟩
      have HME := Lib.hid hm
      have hxb := Bk.new wr 36 #[.int .i64 e.size, .int .i64 e.chunk, .slice ea m ec]
      rw [← hm] at HA1 HO1 hid20 c3
      clear hm
      have HXB := Lib.hid hxb
      have HBX := Lib.hid (below_step HBW.out (Nat.le_refl _) (below_new wr (.cells #[.int .i64 e.size, .int .i64 e.chunk, .slice ea m ec] 36)))
      have hA0 : allI (ents l) i + allE e 0 = allI (ents l) i := by rw [allE]; omega
      have hO0 : onceI (ents l) i + onceE (ents l) i 0 = onceI (ents l) i := by rw [onceE]; omega
      have HA0 := Lib.hid hA0; have HO0 := Lib.hid hO0
      obtain ⟨X, hX⟩ : ∃ X, X = wr.heap.size := ⟨_, rfl⟩
      rw [← hX] at HXB
      have hwX : w.heap.size ≤ X := by rw [hX]; exact HBW.out.size
      clear hxb hA0 hO0
      go_wp2
      rw [← hX]
      clear hX c1 c2 c3
      go_loopw [4, 5, 8] (fun al on k wr => ∃ j : Nat, k = .int .i64 j ∧ j ≤ m ∧ al = .int .i64 (allI (ents l) i + allE e j) ∧ on = .int .i64 (onceI (ents l) i + onceE (ents l) i j) ∧ Bk X [.int .i64 e.size, .int .i64 e.chunk, .slice ea m ec] wr ∧ Below w.heap.size w wr) (fun _ _ k _ => m - (intOf k).toNat)
      case atStart => exact ⟨0, rfl, by omega, by rw [HA0.out], by rw [HO0.out], HXB.out, HBX.out⟩
      case round =>
        obtain ⟨k, rfl, hk, rfl, rfl, hbk, hbw⟩ := hrel
        have HBK := Lib.hid hbk; have HBJ := Lib.hid hbw
        have c1 := (hbk.2 0 _ rfl).1; have c2 := (hbk.2 1 _ rfl).1; have c3 := (hbk.2 2 _ rfl).1
        clear hbk hbw
        by_cases hkt : k < m
        · as_aux_lemma =>
          have d2 : (k : Int) < (m : Int) := by omega
          have hkl : k < e.ids.length := by rw [← HME.out]; exact hkt
          have T1 := Lib.hid (fun W => long_any e k ea ec W HFE.out hkl)
          have T2 := Lib.hid (fun (s : ByteArray) W (h : Below w.heap.size w W) => in_any e s k ea ec W (HX1.out.keep h) (by rw [← HME.out]; omega) (by omega))
          rw [← HME.out] at T1 T2
          obtain ⟨b3, o3, rfl, hb3, hc3⟩ := sl_one HX1.out k hkl
          rw [← idAt_get hkl] at hc3
          have HID : Hid (∀ W, Below w.heap.size w W → W.cell? ⟨b3, o3 + k, none⟩ = some (.string (idAt e k))) := Lib.hid (fun W h => (h.cell (p := ⟨b3, o3 + k, none⟩) hb3).trans hc3)
          have HA2 : Hid (allE e (k + 1) = allE e k + lng e k) := Lib.hid rfl
          have HO2 := Lib.hid (HOE1.out k)
          have hb1 := HEB.out k; have hb2 := HOEB.out k; have hb4 := HLB.out k
          have HZ := Lib.hid (HSZ.out k (idAt e k))
          have HSU := Lib.hid (fun j => HSS.out k j (idAt e k))
          obtain ⟨F0, hF0⟩ : ∃ F, F = hasT (e.ids.take k) (idAt e k) := ⟨_, rfl⟩
          have T3 := Lib.hid (fun W h => T2.out (idAt e k) W h)
          rw [← hF0] at T3 HZ
          clear hF0 hc3
          obtain ⟨N, hNN⟩ : ∃ N, N = lng e k := ⟨_, rfl⟩
          rw [← hNN] at T1 HA2 HO2 hb4
          clear hNN
          obtain ⟨s, hss⟩ : ∃ s, s = idAt e k := ⟨_, rfl⟩
          rw [← hss] at HID HO2 HZ HSU T3
          have HSE := Lib.hid hss
          clear hss
          obtain ⟨AI, hAI⟩ : ∃ N, N = allI (ents l) i := ⟨_, rfl⟩
          obtain ⟨AE, hAE⟩ : ∃ N, N = allE e k := ⟨_, rfl⟩
          obtain ⟨OI, hOI⟩ : ∃ N, N = onceI (ents l) i := ⟨_, rfl⟩
          obtain ⟨OE, hOE⟩ : ∃ N, N = onceE (ents l) i k := ⟨_, rfl⟩
          rw [← hAI, ← hOI] at hob
          rw [← hAI] at hab ⊢
          rw [← hAE] at HA2 hb1 hb2 ⊢
          rw [← hOI]
          rw [← hOE] at HO2 hb2 ⊢
          have HAI := Lib.hid hAI; have HOI := Lib.hid hOI
          clear hAI hAE hOI hOE
          go_wp2_with fail
          refine (T1.out _).mono ?_
          rintro r w3 ⟨rfl, hb3'⟩
          have HB3 := Lib.hid (below_step HBJ.out (Nat.le_refl _) hb3')
          have HK3 := Lib.hid (HBK.out.keep hb3')
          clear hb3' c1 c2 c3
          go_wp2_with fail
          have hP0 : Below w.heap.size w w3.drew ∧ Bk X [.int .i64 e.size, .int .i64 e.chunk, .slice (some ⟨b3, o3, none⟩) m ec] w3.drew := ⟨HB3.out.drew, HK3.out.drew⟩
          have d3 : (0 : Int) ≤ (k : Int) := by omega
          refine wp_region_held_drew (S := fun w' => Below w.heap.size w w' ∧ Bk X [.int .i64 e.size, .int .i64 e.chunk, .slice (some ⟨b3, o3, none⟩) m ec] w') (by kernel_rfl) (by (first | exact hP1 | exact hP0)) (fun hHeld => ?_)
          refine wpAnyH_take (i := 0) (oi := { dst := some 36, op := Go.Op.load 36 (Go.Operand.tmp 7), type := 36, pos := "ref.go:63", after := #[], guard := none }) (v := ?_) rfl (by kernel_rfl) (by kernel_rfl) (by kernel_rfl) (fun _ _ _ h => h) (Or.inl ⟨by rfl, ?_⟩) (by assumption) ?_
          (rotate_left; focus (intro wS hSw; have s0 := (hSw.2.2 0 _ rfl).1; have s1 := (hSw.2.2 1 _ rfl).1; have s2 := (hSw.2.2 2 _ rfl).1; have s3 := HID.out wS hSw.1; clear hSw; go_simp; (try rw [if_neg (by omega)]); try with_reducible rfl))
          (try simp only [Act.put, List.setIfInBounds_toArray, List.set_cons_zero, List.set_cons_succ])
          refine wpAnyH_take (i := 1) (oi := { dst := some 37, op := Go.Op.fieldAddr 36 (Go.Operand.tmp 7) 2, type := 0, pos := "ref.go:63", after := #[], guard := none }) (v := ?_) rfl (by kernel_rfl) (by kernel_rfl) (by kernel_rfl) (fun _ _ _ h => h) (Or.inl ⟨by rfl, ?_⟩) (by assumption) ?_
          (rotate_left; focus (intro wS hSw; have s0 := (hSw.2.2 0 _ rfl).1; have s1 := (hSw.2.2 1 _ rfl).1; have s2 := (hSw.2.2 2 _ rfl).1; have s3 := HID.out wS hSw.1; clear hSw; go_simp; (try rw [if_neg (by omega)]); try with_reducible rfl))
          (try simp only [Act.put, List.setIfInBounds_toArray, List.set_cons_zero, List.set_cons_succ])
          refine wpAnyH_take (i := 2) (oi := { dst := some 38, op := Go.Op.load 34 (Go.Operand.tmp 37), type := 34, pos := "ref.go:63", after := #[{ on := 1, ground := Go.Ground.data }], guard := none }) (v := ?_) rfl (by kernel_rfl) (by kernel_rfl) (by kernel_rfl) (fun _ _ _ h => h) (Or.inl ⟨by rfl, ?_⟩) (by assumption) ?_
          (rotate_left; focus (intro wS hSw; have s0 := (hSw.2.2 0 _ rfl).1; have s1 := (hSw.2.2 1 _ rfl).1; have s2 := (hSw.2.2 2 _ rfl).1; have s3 := HID.out wS hSw.1; clear hSw; go_simp; (try rw [if_neg (by omega)]); try with_reducible rfl))
          (try simp only [Act.put, List.setIfInBounds_toArray, List.set_cons_zero, List.set_cons_succ])
          refine wpAnyH_take (i := 3) (oi := { dst := some 39, op := Go.Op.move (Go.Operand.tmp 8), type := 3, pos := "ref.go:63", after := #[], guard := none }) (v := ?_) rfl (by kernel_rfl) (by kernel_rfl) (by kernel_rfl) (fun _ _ _ h => h) (Or.inl ⟨by rfl, ?_⟩) (by assumption) ?_
          (rotate_left; focus (intro wS hSw; have s0 := (hSw.2.2 0 _ rfl).1; have s1 := (hSw.2.2 1 _ rfl).1; have s2 := (hSw.2.2 2 _ rfl).1; have s3 := HID.out wS hSw.1; clear hSw; go_simp; (try rw [if_neg (by omega)]); try with_reducible rfl))
          (try simp only [Act.put, List.setIfInBounds_toArray, List.set_cons_zero, List.set_cons_succ])
          refine wpAnyH_take (i := 4) (oi := { dst := some 40, op := Go.Op.indexAddr 34 (Go.Operand.tmp 38) (Go.Operand.tmp 39), type := 0, pos := "ref.go:63", after := #[{ on := 2, ground := Go.Ground.data }, { on := 3, ground := Go.Ground.data }], guard := none }) (v := ?_) rfl (by kernel_rfl) (by kernel_rfl) (by kernel_rfl) (fun _ _ _ h => h) (Or.inl ⟨by rfl, ?_⟩) (by assumption) ?_
          (rotate_left; focus (intro wS hSw; have s0 := (hSw.2.2 0 _ rfl).1; have s1 := (hSw.2.2 1 _ rfl).1; have s2 := (hSw.2.2 2 _ rfl).1; have s3 := HID.out wS hSw.1; clear hSw; go_simp; (try rw [if_neg (by omega)]); try with_reducible rfl))
          (try simp only [Act.put, List.setIfInBounds_toArray, List.set_cons_zero, List.set_cons_succ])
          refine wpAnyH_take (i := 5) (oi := { dst := some 41, op := Go.Op.load 9 (Go.Operand.tmp 40), type := 9, pos := "ref.go:63", after := #[{ on := 4, ground := Go.Ground.data }], guard := none }) (v := ?_) rfl (by kernel_rfl) (by kernel_rfl) (by kernel_rfl) (fun _ _ _ h => h) (Or.inl ⟨by rfl, ?_⟩) (by assumption) ?_
          (rotate_left; focus (intro wS hSw; have s0 := (hSw.2.2 0 _ rfl).1; have s1 := (hSw.2.2 1 _ rfl).1; have s2 := (hSw.2.2 2 _ rfl).1; have s3 := HID.out wS hSw.1; clear hSw; go_simp; (try rw [if_neg (by omega)]); try with_reducible rfl))
          (try simp only [Act.put, List.setIfInBounds_toArray, List.set_cons_zero, List.set_cons_succ])
          refine wpAnyH_take (i := 6) (oi := { dst := some 42, op := Go.Op.move (Go.Operand.tmp 8), type := 3, pos := "ref.go:63", after := #[], guard := none }) (v := ?_) rfl (by kernel_rfl) (by kernel_rfl) (by kernel_rfl) (fun _ _ _ h => h) (Or.inl ⟨by rfl, ?_⟩) (by assumption) ?_
          (rotate_left; focus (intro wS hSw; have s0 := (hSw.2.2 0 _ rfl).1; have s1 := (hSw.2.2 1 _ rfl).1; have s2 := (hSw.2.2 2 _ rfl).1; have s3 := HID.out wS hSw.1; clear hSw; go_simp; (try rw [if_neg (by omega)]); try with_reducible rfl))
          (try simp only [Act.put, List.setIfInBounds_toArray, List.set_cons_zero, List.set_cons_succ])
          refine wpAnyH_ready (rs := [7]) (by kernel_rfl) (by simp) ?_
          refine AllReadyH.cons (o := { dst := some 43, op := Go.Op.call { callee := Go.Callee.value (Go.Operand.func 15), args := #[Go.Operand.tmp 36, Go.Operand.tmp 41, Go.Operand.tmp 42], argTypes := #[36, 9, 3] }, type := 4, pos := "ref.go:63", after := #[{ on := 0, ground := Go.Ground.data }, { on := 5, ground := Go.Ground.data }, { on := 6, ground := Go.Ground.data }], guard := none }) rfl (fun K hK => ?_) AllReadyH.nil
          go_simp
          refine (T3.out _ hHeld.1).mono ?_
          rintro r w4 ⟨rfl, hb4'⟩
          have hP1 : Below w.heap.size w w4 ∧ Bk X [.int .i64 e.size, .int .i64 e.chunk, .slice (some ⟨b3, o3, none⟩) m ec] w4 := ⟨below_step hHeld.1 (Nat.le_refl _) hb4', hHeld.2.keep hb4'⟩
          clear hb4'
          (try go_wp2_with fail)
          refine hK.out _ _ (by (first | exact hP1 | exact hP0)) (fun hHeld => ?_)
          clear hK K
          (try simp only [Act.put, List.setIfInBounds_toArray, List.set_cons_zero, List.set_cons_succ])
          refine wpAnyH_take (i := 8) (oi := { dst := some 10, op := Go.Op.assign (Go.Operand.tmp 43), type := 4, pos := "ref.go:63", after := #[{ on := 7, ground := Go.Ground.data }, { on := 7, ground := Go.Ground.chain }, { on := 0, ground := Go.Ground.phase }, { on := 1, ground := Go.Ground.phase }, { on := 2, ground := Go.Ground.phase }, { on := 3, ground := Go.Ground.phase }, { on := 4, ground := Go.Ground.phase }, { on := 5, ground := Go.Ground.phase }, { on := 6, ground := Go.Ground.phase }, { on := 7, ground := Go.Ground.phase }], guard := none }) (v := ?_) rfl (by kernel_rfl) (by kernel_rfl) (by kernel_rfl) (fun _ _ _ h => h) (Or.inl ⟨by rfl, ?_⟩) (by assumption) ?_
          (rotate_left; focus (intro wS hSw; have s0 := (hSw.2.2 0 _ rfl).1; have s1 := (hSw.2.2 1 _ rfl).1; have s2 := (hSw.2.2 2 _ rfl).1; have s3 := HID.out wS hSw.1; clear hSw; go_simp; (try rw [if_neg (by omega)]); try with_reducible rfl))
          (try simp only [Act.put, List.setIfInBounds_toArray, List.set_cons_zero, List.set_cons_succ])
          refine wpAnyH_done (by kernel_rfl) ?_ _
          have HP1 := Lib.hid hP1
          clear hP0 hP1
          rw [← HZ.out]
          go_wp2
          go_loopw [10, 11] (fun sn j wr => ∃ q : Nat, j = .int .i64 q ∧ q ≤ i ∧ sn = .bool (sinceK (ents l) i k q s) ∧ Below w.heap.size w wr ∧ Bk X [.int .i64 e.size, .int .i64 e.chunk, .slice (some ⟨b3, o3, none⟩) m ec] wr) (fun _ j _ => i - (intOf j).toNat)
          case atStart => exact ⟨0, rfl, by omega, rfl, HP1.out.1, HP1.out.2⟩
          case round =>
            obtain ⟨q, rfl, hq, rfl, hbw, hbk⟩ := hrel
            have HBQ := Lib.hid hbw; have HKQ := Lib.hid hbk
            clear hbw hbk
            by_cases hqt : q < i
            · as_aux_lemma =>
              have hql : q < l.length := by rw [← HN.out]; omega
              have HSQ := Lib.hid (HSU.out q (by rw [ents_len]; exact hql))
              have hqe := ents_nth l hql
              rw [hqe] at HSQ
              have hok2 := HOK.out l[q] (List.getElem_mem hql)
              have hfe2 := nth_ok HF.out q
              rw [hqe] at hfe2
              have HMF : Hid (∀ W, Below w.heap.size w W → W.cell? ⟨b2, o2 + q * 8 + 1, none⟩ = some (.int .i64 l[q].e.size) ∧ W.cell? ⟨b2, o2 + q * 8 + 2, none⟩ = some (.int .i64 l[q].e.chunk) ∧ W.cell? ⟨b2, o2 + q * 8 + 3, none⟩ = some (.slice l[q].a l[q].e.ids.length l[q].c)) := Lib.hid (fun W h => manifest_at HS.out h q hql)
              have T4 : Hid (∀ W, Below w.heap.size w W → Calls Try.prog 15 #[.agg #[.int .i64 l[q].e.size, .int .i64 l[q].e.chunk, .slice l[q].a l[q].e.ids.length l[q].c], .string s, .int .i64 l[q].e.ids.length] W fun r w' => r = .returned (.bool (hasT l[q].e.ids s)) ∧ Below W.heap.size W w') := Lib.hid (fun W h => by
                have h9 := hfe2.1
                have := in_any l[q].e s l[q].e.ids.length l[q].a l[q].c W (hok2.1.keep h) h9 (by omega)
                rw [List.take_length] at this
                exact this)
              obtain ⟨H, hH⟩ : ∃ H, H = hasT l[q].e.ids s := ⟨_, rfl⟩
              obtain ⟨S0, hS0⟩ : ∃ H, H = sinceK (ents l) i k q s := ⟨_, rfl⟩
              rw [← hH] at HSQ T4
              rw [← hS0] at HSQ ⊢
              clear hH hS0 hqe hok2 hfe2
              have d4 : (q : Int) < (i : Int) := by omega
              have d5 : (0 : Int) ≤ (q : Int) := by omega
              have d6 : (q : Int) < (n : Int) := by omega
              generalize l[q].e.size = sz at *
              generalize l[q].e.chunk = ch at *
              generalize l[q].e.ids.length = il at *
              generalize l[q].a = la at *
              generalize l[q].c = lc at *
              cases S0 with
              | true =>
                go_wp2_with fail
                have hP0 : Below w.heap.size w wr.drew ∧ Bk X [.int .i64 e.size, .int .i64 e.chunk, .slice (some ⟨b3, o3, none⟩) m ec] wr.drew := ⟨HBQ.out.drew, HKQ.out.drew⟩
                refine wp_region_held_drew (S := fun _ => True) (by kernel_rfl) (trivial) (fun hHeld => ?_)
                refine wpAnyH_take (i := 0) (oi := { dst := some 49, op := Go.Op.move (Go.Operand.tmp 10), type := 4, pos := "ref.go:65", after := #[], guard := none }) (v := ?_) rfl (by kernel_rfl) (by kernel_rfl) (by kernel_rfl) (fun _ _ _ h => h) (Or.inl ⟨by rfl, ?_⟩) (by assumption) ?_
                (rotate_left; focus (intro wS hSw; (try dsimp only at hSw); go_simp; (try rw [if_neg (by omega)]); try with_reducible rfl))
                (try simp only [Act.put, List.setIfInBounds_toArray, List.set_cons_zero, List.set_cons_succ])
                refine wpAnyH_take (i := 1) (oi := { dst := some 50, op := Go.Op.move (Go.Operand.tmp 49), type := 4, pos := "ref.go:65", after := #[{ on := 0, ground := Go.Ground.data }], guard := none }) (v := ?_) rfl (by kernel_rfl) (by kernel_rfl) (by kernel_rfl) (fun _ _ _ h => h) (Or.inl ⟨by rfl, ?_⟩) (by assumption) ?_
                (rotate_left; focus (intro wS hSw; (try dsimp only at hSw); go_simp; (try rw [if_neg (by omega)]); try with_reducible rfl))
                (try simp only [Act.put, List.setIfInBounds_toArray, List.set_cons_zero, List.set_cons_succ])
                refine wpAnyH_take (i := 2) (oi := { dst := some 51, op := Go.Op.move (Go.Operand.tmp 0), type := 22, pos := "ref.go:65", after := #[{ on := 1, ground := Go.Ground.guard }], guard := some (1, false) }) (v := undef) rfl (by kernel_rfl) (by kernel_rfl) (by kernel_rfl) (fun _ _ _ h => h) (Or.inr ⟨by rfl, rfl⟩) (by assumption) ?_
                (try simp only [Act.put, List.setIfInBounds_toArray, List.set_cons_zero, List.set_cons_succ])
                refine wpAnyH_take (i := 3) (oi := { dst := some 52, op := Go.Op.move (Go.Operand.tmp 11), type := 3, pos := "ref.go:65", after := #[{ on := 1, ground := Go.Ground.guard }], guard := some (1, false) }) (v := undef) rfl (by kernel_rfl) (by kernel_rfl) (by kernel_rfl) (fun _ _ _ h => h) (Or.inr ⟨by rfl, rfl⟩) (by assumption) ?_
                (try simp only [Act.put, List.setIfInBounds_toArray, List.set_cons_zero, List.set_cons_succ])
                refine wpAnyH_take (i := 4) (oi := { dst := some 53, op := Go.Op.indexAddr 22 (Go.Operand.tmp 51) (Go.Operand.tmp 52), type := 0, pos := "ref.go:65", after := #[{ on := 2, ground := Go.Ground.data }, { on := 3, ground := Go.Ground.data }, { on := 1, ground := Go.Ground.guard }], guard := some (1, false) }) (v := undef) rfl (by kernel_rfl) (by kernel_rfl) (by kernel_rfl) (fun _ _ _ h => h) (Or.inr ⟨by rfl, rfl⟩) (by assumption) ?_
                (try simp only [Act.put, List.setIfInBounds_toArray, List.set_cons_zero, List.set_cons_succ])
                refine wpAnyH_take (i := 5) (oi := { dst := some 54, op := Go.Op.fieldAddr 40 (Go.Operand.tmp 53) 1, type := 0, pos := "ref.go:65", after := #[{ on := 4, ground := Go.Ground.data }, { on := 1, ground := Go.Ground.guard }], guard := some (1, false) }) (v := undef) rfl (by kernel_rfl) (by kernel_rfl) (by kernel_rfl) (fun _ _ _ h => h) (Or.inr ⟨by rfl, rfl⟩) (by assumption) ?_
                (try simp only [Act.put, List.setIfInBounds_toArray, List.set_cons_zero, List.set_cons_succ])
                refine wpAnyH_take (i := 6) (oi := { dst := some 55, op := Go.Op.load 36 (Go.Operand.tmp 54), type := 36, pos := "ref.go:65", after := #[{ on := 5, ground := Go.Ground.data }, { on := 1, ground := Go.Ground.guard }], guard := some (1, false) }) (v := undef) rfl (by kernel_rfl) (by kernel_rfl) (by kernel_rfl) (fun _ _ _ h => h) (Or.inr ⟨by rfl, rfl⟩) (by assumption) ?_
                (try simp only [Act.put, List.setIfInBounds_toArray, List.set_cons_zero, List.set_cons_succ])
                refine wpAnyH_take (i := 7) (oi := { dst := some 56, op := Go.Op.fieldAddr 36 (Go.Operand.tmp 7) 2, type := 0, pos := "ref.go:65", after := #[{ on := 1, ground := Go.Ground.guard }], guard := some (1, false) }) (v := undef) rfl (by kernel_rfl) (by kernel_rfl) (by kernel_rfl) (fun _ _ _ h => h) (Or.inr ⟨by rfl, rfl⟩) (by assumption) ?_
                (try simp only [Act.put, List.setIfInBounds_toArray, List.set_cons_zero, List.set_cons_succ])
                refine wpAnyH_take (i := 8) (oi := { dst := some 57, op := Go.Op.load 34 (Go.Operand.tmp 56), type := 34, pos := "ref.go:65", after := #[{ on := 7, ground := Go.Ground.data }, { on := 1, ground := Go.Ground.guard }], guard := some (1, false) }) (v := undef) rfl (by kernel_rfl) (by kernel_rfl) (by kernel_rfl) (fun _ _ _ h => h) (Or.inr ⟨by rfl, rfl⟩) (by assumption) ?_
                (try simp only [Act.put, List.setIfInBounds_toArray, List.set_cons_zero, List.set_cons_succ])
                refine wpAnyH_take (i := 9) (oi := { dst := some 58, op := Go.Op.move (Go.Operand.tmp 8), type := 3, pos := "ref.go:65", after := #[{ on := 1, ground := Go.Ground.guard }], guard := some (1, false) }) (v := undef) rfl (by kernel_rfl) (by kernel_rfl) (by kernel_rfl) (fun _ _ _ h => h) (Or.inr ⟨by rfl, rfl⟩) (by assumption) ?_
                (try simp only [Act.put, List.setIfInBounds_toArray, List.set_cons_zero, List.set_cons_succ])
                refine wpAnyH_take (i := 10) (oi := { dst := some 59, op := Go.Op.indexAddr 34 (Go.Operand.tmp 57) (Go.Operand.tmp 58), type := 0, pos := "ref.go:65", after := #[{ on := 8, ground := Go.Ground.data }, { on := 9, ground := Go.Ground.data }, { on := 1, ground := Go.Ground.guard }], guard := some (1, false) }) (v := undef) rfl (by kernel_rfl) (by kernel_rfl) (by kernel_rfl) (fun _ _ _ h => h) (Or.inr ⟨by rfl, rfl⟩) (by assumption) ?_
                (try simp only [Act.put, List.setIfInBounds_toArray, List.set_cons_zero, List.set_cons_succ])
                refine wpAnyH_take (i := 11) (oi := { dst := some 60, op := Go.Op.load 9 (Go.Operand.tmp 59), type := 9, pos := "ref.go:65", after := #[{ on := 10, ground := Go.Ground.data }, { on := 1, ground := Go.Ground.guard }], guard := some (1, false) }) (v := undef) rfl (by kernel_rfl) (by kernel_rfl) (by kernel_rfl) (fun _ _ _ h => h) (Or.inr ⟨by rfl, rfl⟩) (by assumption) ?_
                (try simp only [Act.put, List.setIfInBounds_toArray, List.set_cons_zero, List.set_cons_succ])
                refine wpAnyH_take (i := 12) (oi := { dst := some 61, op := Go.Op.move (Go.Operand.tmp 0), type := 22, pos := "ref.go:65", after := #[{ on := 1, ground := Go.Ground.guard }], guard := some (1, false) }) (v := undef) rfl (by kernel_rfl) (by kernel_rfl) (by kernel_rfl) (fun _ _ _ h => h) (Or.inr ⟨by rfl, rfl⟩) (by assumption) ?_
                (try simp only [Act.put, List.setIfInBounds_toArray, List.set_cons_zero, List.set_cons_succ])
                refine wpAnyH_take (i := 13) (oi := { dst := some 62, op := Go.Op.move (Go.Operand.tmp 11), type := 3, pos := "ref.go:65", after := #[{ on := 1, ground := Go.Ground.guard }], guard := some (1, false) }) (v := undef) rfl (by kernel_rfl) (by kernel_rfl) (by kernel_rfl) (fun _ _ _ h => h) (Or.inr ⟨by rfl, rfl⟩) (by assumption) ?_
                (try simp only [Act.put, List.setIfInBounds_toArray, List.set_cons_zero, List.set_cons_succ])
                refine wpAnyH_take (i := 14) (oi := { dst := some 63, op := Go.Op.indexAddr 22 (Go.Operand.tmp 61) (Go.Operand.tmp 62), type := 0, pos := "ref.go:65", after := #[{ on := 12, ground := Go.Ground.data }, { on := 13, ground := Go.Ground.data }, { on := 1, ground := Go.Ground.guard }], guard := some (1, false) }) (v := undef) rfl (by kernel_rfl) (by kernel_rfl) (by kernel_rfl) (fun _ _ _ h => h) (Or.inr ⟨by rfl, rfl⟩) (by assumption) ?_
                (try simp only [Act.put, List.setIfInBounds_toArray, List.set_cons_zero, List.set_cons_succ])
                refine wpAnyH_take (i := 15) (oi := { dst := some 64, op := Go.Op.fieldAddr 40 (Go.Operand.tmp 63) 1, type := 0, pos := "ref.go:65", after := #[{ on := 14, ground := Go.Ground.data }, { on := 1, ground := Go.Ground.guard }], guard := some (1, false) }) (v := undef) rfl (by kernel_rfl) (by kernel_rfl) (by kernel_rfl) (fun _ _ _ h => h) (Or.inr ⟨by rfl, rfl⟩) (by assumption) ?_
                (try simp only [Act.put, List.setIfInBounds_toArray, List.set_cons_zero, List.set_cons_succ])
                refine wpAnyH_take (i := 16) (oi := { dst := some 65, op := Go.Op.fieldAddr 36 (Go.Operand.tmp 64) 2, type := 0, pos := "ref.go:65", after := #[{ on := 15, ground := Go.Ground.data }, { on := 1, ground := Go.Ground.guard }], guard := some (1, false) }) (v := undef) rfl (by kernel_rfl) (by kernel_rfl) (by kernel_rfl) (fun _ _ _ h => h) (Or.inr ⟨by rfl, rfl⟩) (by assumption) ?_
                (try simp only [Act.put, List.setIfInBounds_toArray, List.set_cons_zero, List.set_cons_succ])
                refine wpAnyH_take (i := 17) (oi := { dst := some 66, op := Go.Op.load 34 (Go.Operand.tmp 65), type := 34, pos := "ref.go:65", after := #[{ on := 16, ground := Go.Ground.data }, { on := 1, ground := Go.Ground.guard }], guard := some (1, false) }) (v := undef) rfl (by kernel_rfl) (by kernel_rfl) (by kernel_rfl) (fun _ _ _ h => h) (Or.inr ⟨by rfl, rfl⟩) (by assumption) ?_
                (try simp only [Act.put, List.setIfInBounds_toArray, List.set_cons_zero, List.set_cons_succ])
                refine wpAnyH_take (i := 18) (oi := { dst := some 67, op := Go.Op.call { callee := Go.Callee.builtin Go.Builtin.len, args := #[Go.Operand.tmp 66], argTypes := #[34] }, type := 3, pos := "ref.go:65", after := #[{ on := 17, ground := Go.Ground.data }, { on := 1, ground := Go.Ground.guard }], guard := some (1, false) }) (v := undef) rfl (by kernel_rfl) (by kernel_rfl) (by kernel_rfl) (fun _ _ _ h => h) (Or.inr ⟨by rfl, rfl⟩) (by assumption) ?_
                (try simp only [Act.put, List.setIfInBounds_toArray, List.set_cons_zero, List.set_cons_succ])
                refine wpAnyH_take (i := 19) (oi := { dst := some 68, op := Go.Op.call { callee := Go.Callee.value (Go.Operand.func 15), args := #[Go.Operand.tmp 55, Go.Operand.tmp 60, Go.Operand.tmp 67], argTypes := #[36, 9, 3] }, type := 4, pos := "ref.go:65", after := #[{ on := 6, ground := Go.Ground.data }, { on := 11, ground := Go.Ground.data }, { on := 18, ground := Go.Ground.data }, { on := 1, ground := Go.Ground.chain }, { on := 1, ground := Go.Ground.guard }], guard := some (1, false) }) (v := undef) rfl (by kernel_rfl) (by kernel_rfl) (by kernel_rfl) (fun _ _ _ h => h) (Or.inr ⟨by rfl, rfl⟩) (by assumption) ?_
                (try simp only [Act.put, List.setIfInBounds_toArray, List.set_cons_zero, List.set_cons_succ])
                refine wpAnyH_take (i := 20) (oi := { dst := some 69, op := Go.Op.pick (Go.Operand.tmp 50) (Go.Operand.const (Go.Value.bool true)) (Go.Operand.tmp 68), type := 4, pos := "ref.go:65", after := #[{ on := 1, ground := Go.Ground.data }, { on := 19, ground := Go.Ground.data }], guard := none }) (v := ?_) rfl (by kernel_rfl) (by kernel_rfl) (by kernel_rfl) (fun _ _ _ h => h) (Or.inl ⟨by rfl, ?_⟩) (by assumption) ?_
                (rotate_left; focus (intro wS hSw; (try dsimp only at hSw); go_simp; (try rw [if_neg (by omega)]); try with_reducible rfl))
                (try simp only [Act.put, List.setIfInBounds_toArray, List.set_cons_zero, List.set_cons_succ])
                refine wpAnyH_take (i := 21) (oi := { dst := some 10, op := Go.Op.assign (Go.Operand.tmp 69), type := 4, pos := "ref.go:65", after := #[{ on := 20, ground := Go.Ground.data }, { on := 19, ground := Go.Ground.chain }, { on := 0, ground := Go.Ground.phase }, { on := 1, ground := Go.Ground.phase }, { on := 2, ground := Go.Ground.phase }, { on := 3, ground := Go.Ground.phase }, { on := 4, ground := Go.Ground.phase }, { on := 5, ground := Go.Ground.phase }, { on := 6, ground := Go.Ground.phase }, { on := 7, ground := Go.Ground.phase }, { on := 8, ground := Go.Ground.phase }, { on := 9, ground := Go.Ground.phase }, { on := 10, ground := Go.Ground.phase }, { on := 11, ground := Go.Ground.phase }, { on := 12, ground := Go.Ground.phase }, { on := 13, ground := Go.Ground.phase }, { on := 14, ground := Go.Ground.phase }, { on := 15, ground := Go.Ground.phase }, { on := 16, ground := Go.Ground.phase }, { on := 17, ground := Go.Ground.phase }, { on := 18, ground := Go.Ground.phase }, { on := 19, ground := Go.Ground.phase }, { on := 20, ground := Go.Ground.phase }], guard := none }) (v := ?_) rfl (by kernel_rfl) (by kernel_rfl) (by kernel_rfl) (fun _ _ _ h => h) (Or.inl ⟨by rfl, ?_⟩) (by assumption) ?_
                (rotate_left; focus (intro wS hSw; (try dsimp only at hSw); go_simp; (try rw [if_neg (by omega)]); try with_reducible rfl))
                (try simp only [Act.put, List.setIfInBounds_toArray, List.set_cons_zero, List.set_cons_succ])
                refine wpAnyH_done (by kernel_rfl) ?_ _
                go_wp2
                go_roundw
                case rel => exact ⟨q + 1, by go_num, by omega, by rw [HSQ.out]; rfl, hP0.1, hP0.2⟩
                case measure => simp [intOf]; omega
              | false =>
                go_wp2_with fail
                have hP0 : Below w.heap.size w wr.drew ∧ Bk X [.int .i64 e.size, .int .i64 e.chunk, .slice (some ⟨b3, o3, none⟩) m ec] wr.drew := ⟨HBQ.out.drew, HKQ.out.drew⟩
                refine wp_region_held_drew (S := fun w' => Below w.heap.size w w' ∧ Bk X [.int .i64 e.size, .int .i64 e.chunk, .slice (some ⟨b3, o3, none⟩) m ec] w') (by kernel_rfl) (by (first | exact hP1 | exact hP0)) (fun hHeld => ?_)
                refine wpAnyH_take (i := 0) (oi := { dst := some 49, op := Go.Op.move (Go.Operand.tmp 10), type := 4, pos := "ref.go:65", after := #[], guard := none }) (v := ?_) rfl (by kernel_rfl) (by kernel_rfl) (by kernel_rfl) (fun _ _ _ h => h) (Or.inl ⟨by rfl, ?_⟩) (by assumption) ?_
                (rotate_left; focus (intro wS hSw; have s2 := (hSw.2.2 2 _ rfl).1; have s3 := HID.out wS hSw.1; have s4 := (HMF.out wS hSw.1).1; have s5 := (HMF.out wS hSw.1).2.1; have s6 := (HMF.out wS hSw.1).2.2; clear hSw; go_simp; (try rw [if_neg (by omega)]); try with_reducible rfl))
                (try simp only [Act.put, List.setIfInBounds_toArray, List.set_cons_zero, List.set_cons_succ])
                refine wpAnyH_take (i := 1) (oi := { dst := some 50, op := Go.Op.move (Go.Operand.tmp 49), type := 4, pos := "ref.go:65", after := #[{ on := 0, ground := Go.Ground.data }], guard := none }) (v := ?_) rfl (by kernel_rfl) (by kernel_rfl) (by kernel_rfl) (fun _ _ _ h => h) (Or.inl ⟨by rfl, ?_⟩) (by assumption) ?_
                (rotate_left; focus (intro wS hSw; have s2 := (hSw.2.2 2 _ rfl).1; have s3 := HID.out wS hSw.1; have s4 := (HMF.out wS hSw.1).1; have s5 := (HMF.out wS hSw.1).2.1; have s6 := (HMF.out wS hSw.1).2.2; clear hSw; go_simp; (try rw [if_neg (by omega)]); try with_reducible rfl))
                (try simp only [Act.put, List.setIfInBounds_toArray, List.set_cons_zero, List.set_cons_succ])
                refine wpAnyH_take (i := 2) (oi := { dst := some 51, op := Go.Op.move (Go.Operand.tmp 0), type := 22, pos := "ref.go:65", after := #[{ on := 1, ground := Go.Ground.guard }], guard := some (1, false) }) (v := ?_) rfl (by kernel_rfl) (by kernel_rfl) (by kernel_rfl) (fun _ _ _ h => h) (Or.inl ⟨by rfl, ?_⟩) (by assumption) ?_
                (rotate_left; focus (intro wS hSw; have s2 := (hSw.2.2 2 _ rfl).1; have s3 := HID.out wS hSw.1; have s4 := (HMF.out wS hSw.1).1; have s5 := (HMF.out wS hSw.1).2.1; have s6 := (HMF.out wS hSw.1).2.2; clear hSw; go_simp; (try rw [if_neg (by omega)]); try with_reducible rfl))
                (try simp only [Act.put, List.setIfInBounds_toArray, List.set_cons_zero, List.set_cons_succ])
                refine wpAnyH_take (i := 3) (oi := { dst := some 52, op := Go.Op.move (Go.Operand.tmp 11), type := 3, pos := "ref.go:65", after := #[{ on := 1, ground := Go.Ground.guard }], guard := some (1, false) }) (v := ?_) rfl (by kernel_rfl) (by kernel_rfl) (by kernel_rfl) (fun _ _ _ h => h) (Or.inl ⟨by rfl, ?_⟩) (by assumption) ?_
                (rotate_left; focus (intro wS hSw; have s2 := (hSw.2.2 2 _ rfl).1; have s3 := HID.out wS hSw.1; have s4 := (HMF.out wS hSw.1).1; have s5 := (HMF.out wS hSw.1).2.1; have s6 := (HMF.out wS hSw.1).2.2; clear hSw; go_simp; (try rw [if_neg (by omega)]); try with_reducible rfl))
                (try simp only [Act.put, List.setIfInBounds_toArray, List.set_cons_zero, List.set_cons_succ])
                refine wpAnyH_take (i := 4) (oi := { dst := some 53, op := Go.Op.indexAddr 22 (Go.Operand.tmp 51) (Go.Operand.tmp 52), type := 0, pos := "ref.go:65", after := #[{ on := 2, ground := Go.Ground.data }, { on := 3, ground := Go.Ground.data }, { on := 1, ground := Go.Ground.guard }], guard := some (1, false) }) (v := ?_) rfl (by kernel_rfl) (by kernel_rfl) (by kernel_rfl) (fun _ _ _ h => h) (Or.inl ⟨by rfl, ?_⟩) (by assumption) ?_
                (rotate_left; focus (intro wS hSw; have s2 := (hSw.2.2 2 _ rfl).1; have s3 := HID.out wS hSw.1; have s4 := (HMF.out wS hSw.1).1; have s5 := (HMF.out wS hSw.1).2.1; have s6 := (HMF.out wS hSw.1).2.2; clear hSw; go_simp; (try rw [if_neg (by omega)]); try with_reducible rfl))
                (try simp only [Act.put, List.setIfInBounds_toArray, List.set_cons_zero, List.set_cons_succ])
                refine wpAnyH_take (i := 5) (oi := { dst := some 54, op := Go.Op.fieldAddr 40 (Go.Operand.tmp 53) 1, type := 0, pos := "ref.go:65", after := #[{ on := 4, ground := Go.Ground.data }, { on := 1, ground := Go.Ground.guard }], guard := some (1, false) }) (v := ?_) rfl (by kernel_rfl) (by kernel_rfl) (by kernel_rfl) (fun _ _ _ h => h) (Or.inl ⟨by rfl, ?_⟩) (by assumption) ?_
                (rotate_left; focus (intro wS hSw; have s2 := (hSw.2.2 2 _ rfl).1; have s3 := HID.out wS hSw.1; have s4 := (HMF.out wS hSw.1).1; have s5 := (HMF.out wS hSw.1).2.1; have s6 := (HMF.out wS hSw.1).2.2; clear hSw; go_simp; (try rw [if_neg (by omega)]); try with_reducible rfl))
                (try simp only [Act.put, List.setIfInBounds_toArray, List.set_cons_zero, List.set_cons_succ])
                refine wpAnyH_take (i := 6) (oi := { dst := some 55, op := Go.Op.load 36 (Go.Operand.tmp 54), type := 36, pos := "ref.go:65", after := #[{ on := 5, ground := Go.Ground.data }, { on := 1, ground := Go.Ground.guard }], guard := some (1, false) }) (v := ?_) rfl (by kernel_rfl) (by kernel_rfl) (by kernel_rfl) (fun _ _ _ h => h) (Or.inl ⟨by rfl, ?_⟩) (by assumption) ?_
                (rotate_left; focus (intro wS hSw; have s2 := (hSw.2.2 2 _ rfl).1; have s3 := HID.out wS hSw.1; have s4 := (HMF.out wS hSw.1).1; have s5 := (HMF.out wS hSw.1).2.1; have s6 := (HMF.out wS hSw.1).2.2; clear hSw; go_simp; (try rw [if_neg (by omega)]); try with_reducible rfl))
                (try simp only [Act.put, List.setIfInBounds_toArray, List.set_cons_zero, List.set_cons_succ])
                refine wpAnyH_take (i := 7) (oi := { dst := some 56, op := Go.Op.fieldAddr 36 (Go.Operand.tmp 7) 2, type := 0, pos := "ref.go:65", after := #[{ on := 1, ground := Go.Ground.guard }], guard := some (1, false) }) (v := ?_) rfl (by kernel_rfl) (by kernel_rfl) (by kernel_rfl) (fun _ _ _ h => h) (Or.inl ⟨by rfl, ?_⟩) (by assumption) ?_
                (rotate_left; focus (intro wS hSw; have s2 := (hSw.2.2 2 _ rfl).1; have s3 := HID.out wS hSw.1; have s4 := (HMF.out wS hSw.1).1; have s5 := (HMF.out wS hSw.1).2.1; have s6 := (HMF.out wS hSw.1).2.2; clear hSw; go_simp; (try rw [if_neg (by omega)]); try with_reducible rfl))
                (try simp only [Act.put, List.setIfInBounds_toArray, List.set_cons_zero, List.set_cons_succ])
                refine wpAnyH_take (i := 8) (oi := { dst := some 57, op := Go.Op.load 34 (Go.Operand.tmp 56), type := 34, pos := "ref.go:65", after := #[{ on := 7, ground := Go.Ground.data }, { on := 1, ground := Go.Ground.guard }], guard := some (1, false) }) (v := ?_) rfl (by kernel_rfl) (by kernel_rfl) (by kernel_rfl) (fun _ _ _ h => h) (Or.inl ⟨by rfl, ?_⟩) (by assumption) ?_
                (rotate_left; focus (intro wS hSw; have s2 := (hSw.2.2 2 _ rfl).1; have s3 := HID.out wS hSw.1; have s4 := (HMF.out wS hSw.1).1; have s5 := (HMF.out wS hSw.1).2.1; have s6 := (HMF.out wS hSw.1).2.2; clear hSw; go_simp; (try rw [if_neg (by omega)]); try with_reducible rfl))
                (try simp only [Act.put, List.setIfInBounds_toArray, List.set_cons_zero, List.set_cons_succ])
                refine wpAnyH_take (i := 9) (oi := { dst := some 58, op := Go.Op.move (Go.Operand.tmp 8), type := 3, pos := "ref.go:65", after := #[{ on := 1, ground := Go.Ground.guard }], guard := some (1, false) }) (v := ?_) rfl (by kernel_rfl) (by kernel_rfl) (by kernel_rfl) (fun _ _ _ h => h) (Or.inl ⟨by rfl, ?_⟩) (by assumption) ?_
                (rotate_left; focus (intro wS hSw; have s2 := (hSw.2.2 2 _ rfl).1; have s3 := HID.out wS hSw.1; have s4 := (HMF.out wS hSw.1).1; have s5 := (HMF.out wS hSw.1).2.1; have s6 := (HMF.out wS hSw.1).2.2; clear hSw; go_simp; (try rw [if_neg (by omega)]); try with_reducible rfl))
                (try simp only [Act.put, List.setIfInBounds_toArray, List.set_cons_zero, List.set_cons_succ])
                refine wpAnyH_take (i := 10) (oi := { dst := some 59, op := Go.Op.indexAddr 34 (Go.Operand.tmp 57) (Go.Operand.tmp 58), type := 0, pos := "ref.go:65", after := #[{ on := 8, ground := Go.Ground.data }, { on := 9, ground := Go.Ground.data }, { on := 1, ground := Go.Ground.guard }], guard := some (1, false) }) (v := ?_) rfl (by kernel_rfl) (by kernel_rfl) (by kernel_rfl) (fun _ _ _ h => h) (Or.inl ⟨by rfl, ?_⟩) (by assumption) ?_
                (rotate_left; focus (intro wS hSw; have s2 := (hSw.2.2 2 _ rfl).1; have s3 := HID.out wS hSw.1; have s4 := (HMF.out wS hSw.1).1; have s5 := (HMF.out wS hSw.1).2.1; have s6 := (HMF.out wS hSw.1).2.2; clear hSw; go_simp; (try rw [if_neg (by omega)]); try with_reducible rfl))
                (try simp only [Act.put, List.setIfInBounds_toArray, List.set_cons_zero, List.set_cons_succ])
                refine wpAnyH_take (i := 11) (oi := { dst := some 60, op := Go.Op.load 9 (Go.Operand.tmp 59), type := 9, pos := "ref.go:65", after := #[{ on := 10, ground := Go.Ground.data }, { on := 1, ground := Go.Ground.guard }], guard := some (1, false) }) (v := ?_) rfl (by kernel_rfl) (by kernel_rfl) (by kernel_rfl) (fun _ _ _ h => h) (Or.inl ⟨by rfl, ?_⟩) (by assumption) ?_
                (rotate_left; focus (intro wS hSw; have s2 := (hSw.2.2 2 _ rfl).1; have s3 := HID.out wS hSw.1; have s4 := (HMF.out wS hSw.1).1; have s5 := (HMF.out wS hSw.1).2.1; have s6 := (HMF.out wS hSw.1).2.2; clear hSw; go_simp; (try rw [if_neg (by omega)]); try with_reducible rfl))
                (try simp only [Act.put, List.setIfInBounds_toArray, List.set_cons_zero, List.set_cons_succ])
                refine wpAnyH_take (i := 12) (oi := { dst := some 61, op := Go.Op.move (Go.Operand.tmp 0), type := 22, pos := "ref.go:65", after := #[{ on := 1, ground := Go.Ground.guard }], guard := some (1, false) }) (v := ?_) rfl (by kernel_rfl) (by kernel_rfl) (by kernel_rfl) (fun _ _ _ h => h) (Or.inl ⟨by rfl, ?_⟩) (by assumption) ?_
                (rotate_left; focus (intro wS hSw; have s2 := (hSw.2.2 2 _ rfl).1; have s3 := HID.out wS hSw.1; have s4 := (HMF.out wS hSw.1).1; have s5 := (HMF.out wS hSw.1).2.1; have s6 := (HMF.out wS hSw.1).2.2; clear hSw; go_simp; (try rw [if_neg (by omega)]); try with_reducible rfl))
                (try simp only [Act.put, List.setIfInBounds_toArray, List.set_cons_zero, List.set_cons_succ])
                refine wpAnyH_take (i := 13) (oi := { dst := some 62, op := Go.Op.move (Go.Operand.tmp 11), type := 3, pos := "ref.go:65", after := #[{ on := 1, ground := Go.Ground.guard }], guard := some (1, false) }) (v := ?_) rfl (by kernel_rfl) (by kernel_rfl) (by kernel_rfl) (fun _ _ _ h => h) (Or.inl ⟨by rfl, ?_⟩) (by assumption) ?_
                (rotate_left; focus (intro wS hSw; have s2 := (hSw.2.2 2 _ rfl).1; have s3 := HID.out wS hSw.1; have s4 := (HMF.out wS hSw.1).1; have s5 := (HMF.out wS hSw.1).2.1; have s6 := (HMF.out wS hSw.1).2.2; clear hSw; go_simp; (try rw [if_neg (by omega)]); try with_reducible rfl))
                (try simp only [Act.put, List.setIfInBounds_toArray, List.set_cons_zero, List.set_cons_succ])
                refine wpAnyH_take (i := 14) (oi := { dst := some 63, op := Go.Op.indexAddr 22 (Go.Operand.tmp 61) (Go.Operand.tmp 62), type := 0, pos := "ref.go:65", after := #[{ on := 12, ground := Go.Ground.data }, { on := 13, ground := Go.Ground.data }, { on := 1, ground := Go.Ground.guard }], guard := some (1, false) }) (v := ?_) rfl (by kernel_rfl) (by kernel_rfl) (by kernel_rfl) (fun _ _ _ h => h) (Or.inl ⟨by rfl, ?_⟩) (by assumption) ?_
                (rotate_left; focus (intro wS hSw; have s2 := (hSw.2.2 2 _ rfl).1; have s3 := HID.out wS hSw.1; have s4 := (HMF.out wS hSw.1).1; have s5 := (HMF.out wS hSw.1).2.1; have s6 := (HMF.out wS hSw.1).2.2; clear hSw; go_simp; (try rw [if_neg (by omega)]); try with_reducible rfl))
                (try simp only [Act.put, List.setIfInBounds_toArray, List.set_cons_zero, List.set_cons_succ])
                refine wpAnyH_take (i := 15) (oi := { dst := some 64, op := Go.Op.fieldAddr 40 (Go.Operand.tmp 63) 1, type := 0, pos := "ref.go:65", after := #[{ on := 14, ground := Go.Ground.data }, { on := 1, ground := Go.Ground.guard }], guard := some (1, false) }) (v := ?_) rfl (by kernel_rfl) (by kernel_rfl) (by kernel_rfl) (fun _ _ _ h => h) (Or.inl ⟨by rfl, ?_⟩) (by assumption) ?_
                (rotate_left; focus (intro wS hSw; have s2 := (hSw.2.2 2 _ rfl).1; have s3 := HID.out wS hSw.1; have s4 := (HMF.out wS hSw.1).1; have s5 := (HMF.out wS hSw.1).2.1; have s6 := (HMF.out wS hSw.1).2.2; clear hSw; go_simp; (try rw [if_neg (by omega)]); try with_reducible rfl))
                (try simp only [Act.put, List.setIfInBounds_toArray, List.set_cons_zero, List.set_cons_succ])
                refine wpAnyH_take (i := 16) (oi := { dst := some 65, op := Go.Op.fieldAddr 36 (Go.Operand.tmp 64) 2, type := 0, pos := "ref.go:65", after := #[{ on := 15, ground := Go.Ground.data }, { on := 1, ground := Go.Ground.guard }], guard := some (1, false) }) (v := ?_) rfl (by kernel_rfl) (by kernel_rfl) (by kernel_rfl) (fun _ _ _ h => h) (Or.inl ⟨by rfl, ?_⟩) (by assumption) ?_
                (rotate_left; focus (intro wS hSw; have s2 := (hSw.2.2 2 _ rfl).1; have s3 := HID.out wS hSw.1; have s4 := (HMF.out wS hSw.1).1; have s5 := (HMF.out wS hSw.1).2.1; have s6 := (HMF.out wS hSw.1).2.2; clear hSw; go_simp; (try rw [if_neg (by omega)]); try with_reducible rfl))
                (try simp only [Act.put, List.setIfInBounds_toArray, List.set_cons_zero, List.set_cons_succ])
                refine wpAnyH_take (i := 17) (oi := { dst := some 66, op := Go.Op.load 34 (Go.Operand.tmp 65), type := 34, pos := "ref.go:65", after := #[{ on := 16, ground := Go.Ground.data }, { on := 1, ground := Go.Ground.guard }], guard := some (1, false) }) (v := ?_) rfl (by kernel_rfl) (by kernel_rfl) (by kernel_rfl) (fun _ _ _ h => h) (Or.inl ⟨by rfl, ?_⟩) (by assumption) ?_
                (rotate_left; focus (intro wS hSw; have s2 := (hSw.2.2 2 _ rfl).1; have s3 := HID.out wS hSw.1; have s4 := (HMF.out wS hSw.1).1; have s5 := (HMF.out wS hSw.1).2.1; have s6 := (HMF.out wS hSw.1).2.2; clear hSw; go_simp; (try rw [if_neg (by omega)]); try with_reducible rfl))
                (try simp only [Act.put, List.setIfInBounds_toArray, List.set_cons_zero, List.set_cons_succ])
                refine wpAnyH_take (i := 18) (oi := { dst := some 67, op := Go.Op.call { callee := Go.Callee.builtin Go.Builtin.len, args := #[Go.Operand.tmp 66], argTypes := #[34] }, type := 3, pos := "ref.go:65", after := #[{ on := 17, ground := Go.Ground.data }, { on := 1, ground := Go.Ground.guard }], guard := some (1, false) }) (v := ?_) rfl (by kernel_rfl) (by kernel_rfl) (by kernel_rfl) (fun _ _ _ h => h) (Or.inl ⟨by rfl, ?_⟩) (by assumption) ?_
                (rotate_left; focus (intro wS hSw; have s2 := (hSw.2.2 2 _ rfl).1; have s3 := HID.out wS hSw.1; have s4 := (HMF.out wS hSw.1).1; have s5 := (HMF.out wS hSw.1).2.1; have s6 := (HMF.out wS hSw.1).2.2; clear hSw; go_simp; (try rw [if_neg (by omega)]); try with_reducible rfl))
                (try simp only [Act.put, List.setIfInBounds_toArray, List.set_cons_zero, List.set_cons_succ])
                refine wpAnyH_ready (rs := [19]) (by kernel_rfl) (by simp) ?_
                refine AllReadyH.cons (o := { dst := some 68, op := Go.Op.call { callee := Go.Callee.value (Go.Operand.func 15), args := #[Go.Operand.tmp 55, Go.Operand.tmp 60, Go.Operand.tmp 67], argTypes := #[36, 9, 3] }, type := 4, pos := "ref.go:65", after := #[{ on := 6, ground := Go.Ground.data }, { on := 11, ground := Go.Ground.data }, { on := 18, ground := Go.Ground.data }, { on := 1, ground := Go.Ground.chain }, { on := 1, ground := Go.Ground.guard }], guard := some (1, false) }) rfl (fun K hK => ?_) AllReadyH.nil
                go_simp
                refine (T4.out _ hHeld.1).mono ?_
                rintro r w5 ⟨rfl, hb5'⟩
                have hP1 : Below w.heap.size w w5 ∧ Bk X [.int .i64 e.size, .int .i64 e.chunk, .slice (some ⟨b3, o3, none⟩) m ec] w5 := ⟨below_step hHeld.1 (Nat.le_refl _) hb5', hHeld.2.keep hb5'⟩
                clear hb5'
                (try go_wp2_with fail)
                refine hK.out _ _ (by (first | exact hP1 | exact hP0)) (fun hHeld => ?_)
                clear hK K
                (try simp only [Act.put, List.setIfInBounds_toArray, List.set_cons_zero, List.set_cons_succ])
                refine wpAnyH_take (i := 20) (oi := { dst := some 69, op := Go.Op.pick (Go.Operand.tmp 50) (Go.Operand.const (Go.Value.bool true)) (Go.Operand.tmp 68), type := 4, pos := "ref.go:65", after := #[{ on := 1, ground := Go.Ground.data }, { on := 19, ground := Go.Ground.data }], guard := none }) (v := ?_) rfl (by kernel_rfl) (by kernel_rfl) (by kernel_rfl) (fun _ _ _ h => h) (Or.inl ⟨by rfl, ?_⟩) (by assumption) ?_
                (rotate_left; focus (intro wS hSw; have s2 := (hSw.2.2 2 _ rfl).1; have s3 := HID.out wS hSw.1; have s4 := (HMF.out wS hSw.1).1; have s5 := (HMF.out wS hSw.1).2.1; have s6 := (HMF.out wS hSw.1).2.2; clear hSw; go_simp; (try rw [if_neg (by omega)]); try with_reducible rfl))
                (try simp only [Act.put, List.setIfInBounds_toArray, List.set_cons_zero, List.set_cons_succ])
                refine wpAnyH_take (i := 21) (oi := { dst := some 10, op := Go.Op.assign (Go.Operand.tmp 69), type := 4, pos := "ref.go:65", after := #[{ on := 20, ground := Go.Ground.data }, { on := 19, ground := Go.Ground.chain }, { on := 0, ground := Go.Ground.phase }, { on := 1, ground := Go.Ground.phase }, { on := 2, ground := Go.Ground.phase }, { on := 3, ground := Go.Ground.phase }, { on := 4, ground := Go.Ground.phase }, { on := 5, ground := Go.Ground.phase }, { on := 6, ground := Go.Ground.phase }, { on := 7, ground := Go.Ground.phase }, { on := 8, ground := Go.Ground.phase }, { on := 9, ground := Go.Ground.phase }, { on := 10, ground := Go.Ground.phase }, { on := 11, ground := Go.Ground.phase }, { on := 12, ground := Go.Ground.phase }, { on := 13, ground := Go.Ground.phase }, { on := 14, ground := Go.Ground.phase }, { on := 15, ground := Go.Ground.phase }, { on := 16, ground := Go.Ground.phase }, { on := 17, ground := Go.Ground.phase }, { on := 18, ground := Go.Ground.phase }, { on := 19, ground := Go.Ground.phase }, { on := 20, ground := Go.Ground.phase }], guard := none }) (v := ?_) rfl (by kernel_rfl) (by kernel_rfl) (by kernel_rfl) (fun _ _ _ h => h) (Or.inl ⟨by rfl, ?_⟩) (by assumption) ?_
                (rotate_left; focus (intro wS hSw; have s2 := (hSw.2.2 2 _ rfl).1; have s3 := HID.out wS hSw.1; have s4 := (HMF.out wS hSw.1).1; have s5 := (HMF.out wS hSw.1).2.1; have s6 := (HMF.out wS hSw.1).2.2; clear hSw; go_simp; (try rw [if_neg (by omega)]); try with_reducible rfl))
                (try simp only [Act.put, List.setIfInBounds_toArray, List.set_cons_zero, List.set_cons_succ])
                refine wpAnyH_done (by kernel_rfl) ?_ _
                have HP2 := Lib.hid hP1
                clear hP0 hP1
                go_wp2
                go_roundw
                case rel => exact ⟨q + 1, by go_num, by omega, by rw [HSQ.out]; rfl, HP2.out.1, HP2.out.2⟩
                case measure => simp [intOf]; omega
            · obtain rfl : q = i := by omega
              as_aux_lemma =>
              have hwa : -9223372036854775808 ≤ OI + OE + N ∧ OI + OE + N ≤ 9223372036854775807 := by omega
              by_cases hsn : sinceK (ents l) q k q s = true
              · rw [if_pos hsn] at HO2
                rw [hsn]
                clear hsn
                go_wp2
                go_roundw
                case rel => exact ⟨k + 1, by go_num, by omega, vint (by rw [HA2.out]; omega), vint (by rw [HO2.out]), HKQ.out, HBQ.out⟩
                case measure => simp [intOf]; omega
              · have hsf : sinceK (ents l) q k q s = false := by simpa using hsn
                rw [if_neg hsn] at HO2
                rw [hsf]
                clear hsn hsf
                go_wp2
                go_roundw
                case rel => exact ⟨k + 1, by go_num, by omega, vint (by rw [HA2.out]; omega), vint (by rw [HO2.out]; omega), HKQ.out, HBQ.out⟩
                case measure => simp [intOf]; omega
        · obtain rfl : k = m := by omega
          as_aux_lemma =>
          go_wp2
          go_roundw
          case rel => exact ⟨i + 1, by go_num, by omega, by rw [HA1.out], by rw [HO1.out], HBJ.out⟩
          case measure => simp [intOf]; omega
    · obtain rfl : i = n := by omega
      go_wp2
      go_ret2
      exact ⟨rfl, HBW.out⟩
end Go.Proofs.Ytoimlaaakkfifaa

