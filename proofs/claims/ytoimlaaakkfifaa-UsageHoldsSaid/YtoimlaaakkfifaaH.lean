/-
  The contract of the law's own Own.
-/
import Derived.Test.YtoimlaaakkfifaaG
set_option linter.unusedVariables false
set_option linter.unusedSimpArgs false
namespace Go.Proofs.Ytoimlaaakkfifaa
open Go.RowKit
theorem plc_more (l : List Ent) (nm : ByteArray) {i j : Nat} (h : plc l nm i = some j) : ∀ d, plc l nm (i + d) = some j
  | 0 => h
  | d + 1 => by rw [← Nat.add_assoc, plc, plc_more l nm h d]
theorem name_at {w wr : World} {l : List EntM} {b o : Nat} (hs : Sl encE 8 w (some ⟨b, o, none⟩) l) (hb : Below w.heap.size w wr) (j : Nat) (hj : j < l.length) : wr.cell? ⟨b, o + j * 8, none⟩ = some (.string l[j].e.name) := by
  obtain ⟨b2, o2, ha, hlt, hc⟩ := hs j hj
  obtain ⟨rfl, rfl⟩ : b = b2 ∧ o = o2 := by simpa using ha
  exact (hb.cell (p := ⟨b, o + j * 8, none⟩) hlt).trans (hc 0 _ rfl)
/-- Has a backup a text for itself, as far as the first backups tell? -/
def owq (l : List Ent) (nm : ByteArray) (j k q : Nat) (s : ByteArray) : Bool := !(hasT ((nth l j).ids.take k) s || earlO l nm q s)
theorem owq_zero (l : List Ent) (nm : ByteArray) (j k : Nat) (s : ByteArray) : owq l nm j k 0 s = !hasT ((nth l j).ids.take k) s := by simp [owq, earlO]
theorem owq_succ (l : List Ent) (nm : ByteArray) (j k q : Nat) (s : ByteArray) (h : q < l.length) : owq l nm j k (q + 1) s = (owq l nm j k q s && (decide ((nth l q).name = nm) || !hasT (nth l q).ids s)) := by
  unfold owq
  rw [earlO_succ l nm q h]
  cases hasT ((nth l j).ids.take k) s <;> cases earlO l nm q s <;> cases decide ((nth l q).name = nm) <;> cases hasT (nth l q).ids s <;> rfl
set_option maxRecDepth 100000 in
set_option maxHeartbeats 32000000 in
theorem rown_any (l : List EntM) (nm : ByteArray) (a : Option Addr) (cap : Nat) (w : World) (hs : Sl encE 8 w a l) (hok : ∀ x ∈ l, x.ok w) (hfew : ∀ e ∈ ents l, e.ok) (hl : l.length ≤ 16) :
    Calls Try.prog 8 #[.slice a l.length cap, .string nm] w fun r w' => r = .returned (.tuple #[.int .i64 (ownV (ents l) nm), .int .i64 (ownErr (ents l) nm)]) ∧ Below w.heap.size w w' := by
  have HS := Lib.hid hs; have HOK := Lib.hid hok; have HF := Lib.hid hfew
  clear hs hok hfew
  obtain ⟨n, hn⟩ : ∃ n, n = l.length := ⟨_, rfl⟩
  have HN := Lib.hid hn
  rw [← hn] at hl ⊢
  clear hn
  go_enter Try.func8, Try.ntmps8
  go_wp2
  go_loop [6] (fun i => ∃ k : Nat, i = .int .i64 k ∧ k ≤ n ∧ plc (ents l) nm k = none) (fun i => n - (intOf i).toNat)
  case atStart => exact ⟨0, rfl, by omega, rfl⟩
  case round =>
    obtain ⟨i, rfl, hi, hpn⟩ := hrel
    have HPN := Lib.hid hpn
    clear hpn
    by_cases hit : i < n
    · have hil : i < l.length := by rw [← HN.out]; exact hit
      obtain ⟨b2, o2, rfl, hb2, hc2⟩ := HS.out i hil
      have c0 := hc2 0 _ rfl
      have hxe := ents_nth l hil
      have HPS : Hid (plc (ents l) nm (i + 1) = if l[i].e.name = nm then some i else none) := Lib.hid (by rw [plc, HPN.out, hxe])
      have d1 : (i : Int) < (n : Int) := by omega
      have d1b : decide (i < n) = true := decide_eq_true hit
      rw [Nat.add_zero] at c0
      by_cases hnm : l[i].e.name = nm
      · as_aux_lemma =>
        have hx := HOK.out l[i] (List.getElem_mem hil)
        have HX1 := Lib.hid hx.1
        have hfe := nth_ok HF.out i
        rw [hxe] at hfe
        have HFE := Lib.hid hfe
        obtain ⟨c1, c2, c3⟩ := manifest_at HS.out (Below.refl _ _) i hil
        have HLL : Hid ((ents l).length = n) := Lib.hid (by rw [ents_len]; exact HN.out.symm)
        have HPL : Hid (plc (ents l) nm n = some i) := Lib.hid (by
          rw [if_pos hnm] at HPS
          have := plc_more (ents l) nm HPS.out (n - (i + 1))
          rw [show i + 1 + (n - (i + 1)) = n by omega] at this
          exact this)
        have HV : Hid (ownV (ents l) nm = ownE (ents l) nm i (nth (ents l) i).ids.length ∧ ownErr (ents l) nm = 0) := Lib.hid (by unfold ownV ownErr; rw [HLL.out, HPL.out]; exact ⟨rfl, rfl⟩)
        have HOE : Hid (∀ k, ownE (ents l) nm i (k + 1) = if owq (ents l) nm i k (ents l).length (idAt (nth (ents l) i) k) then ownE (ents l) nm i k + lng (nth (ents l) i) k else ownE (ents l) nm i k) := Lib.hid (fun k => by
          rw [ownE]
          unfold owq
          cases hasT ((nth (ents l) i).ids.take k) (idAt (nth (ents l) i) k) || earlO (ents l) nm (ents l).length (idAt (nth (ents l) i) k) <;> rfl)
        have HOB := Lib.hid (ownE_bound HF.out nm i)
        have HLB := Lib.hid (lng_bound hfe)
        have HZQ : Hid (∀ k s, owq (ents l) nm i k 0 s = !hasT ((nth (ents l) i).ids.take k) s) := Lib.hid (fun k s => owq_zero _ _ _ _ _)
        have HSQ : Hid (∀ k q s, q < (ents l).length → owq (ents l) nm i k (q + 1) s = (owq (ents l) nm i k q s && (decide ((nth (ents l) q).name = nm) || !hasT (nth (ents l) q).ids s))) := Lib.hid (fun k q s h => owq_succ _ _ _ _ _ _ h)
        rw [hxe] at HV HOE HZQ
        have e1 := str_eq hnm
        have e2 : (l[i].e.name.toList != nm.toList) = false := by rw [hnm]; simp
        have d2 : ((i : Int) == (n : Int)) = false := by simp; omega
        have hid20 := hfe.1
        clear hc2 hx hxe hfe hnm HPS
        generalize l[i] = x at *
        obtain ⟨e, ea, ec, lab, ta, tn, tc, ka, kn, kc, da, dn, dc⟩ := x
        dsimp only at *
        obtain ⟨m, hm⟩ : ∃ m, m = e.ids.length := ⟨_, rfl⟩
        have HME := Lib.hid hm
        have hxb := Bk.new w 36 #[.int .i64 e.size, .int .i64 e.chunk, .slice ea m ec]
        rw [← hm] at HV hid20 c3
        clear hm
        have HXB := Lib.hid hxb
        have HBX := Lib.hid (below_new w (.cells #[.int .i64 e.size, .int .i64 e.chunk, .slice ea m ec] 36))
        have HO0 : Hid (ownE (ents l) nm i 0 = 0) := Lib.hid rfl
        obtain ⟨X, hX⟩ : ∃ X, X = w.heap.size := ⟨_, rfl⟩
        rw [← hX] at HXB
        have hwX : w.heap.size ≤ X := by omega
        clear hxb
        go_wp2
        rw [← hX]
        clear hX c1 c2 c3 c0 e1 e2
        go_loopw [8, 9] (fun nn k wr => ∃ j : Nat, k = .int .i64 j ∧ j ≤ m ∧ nn = .int .i64 (ownE (ents l) nm i j) ∧ Bk X [.int .i64 e.size, .int .i64 e.chunk, .slice ea m ec] wr ∧ Below w.heap.size w wr) (fun _ k _ => m - (intOf k).toNat)
        case atStart => exact ⟨0, rfl, by omega, by rw [HO0.out], HXB.out, HBX.out⟩
        case round =>
          obtain ⟨k, rfl, hk, rfl, hbk, hbw⟩ := hrel
          have HBK := Lib.hid hbk; have HBJ := Lib.hid hbw
          have c1 := (hbk.2 0 _ rfl).1; have c2 := (hbk.2 1 _ rfl).1; have c3 := (hbk.2 2 _ rfl).1
          clear hbk hbw
          by_cases hkt : k < m
          · as_aux_lemma =>
            have d3 : (k : Int) < (m : Int) := by omega
            have d4 : (0 : Int) ≤ (k : Int) := by omega
            have hkl : k < e.ids.length := by rw [← HME.out]; exact hkt
            have T1 := Lib.hid (fun W => long_any e k ea ec W HFE.out hkl)
            have T3 := Lib.hid (fun W (h : Below w.heap.size w W) => in_any e (idAt e k) k ea ec W (HX1.out.keep h) (by rw [← HME.out]; omega) (by omega))
            rw [← HME.out] at T1 T3
            obtain ⟨b3, o3, rfl, hb3, hc3⟩ := sl_one HX1.out k hkl
            rw [← idAt_get hkl] at hc3
            have HID : Hid (∀ W, Below w.heap.size w W → W.cell? ⟨b3, o3 + k, none⟩ = some (.string (idAt e k))) := Lib.hid (fun W h => (h.cell (p := ⟨b3, o3 + k, none⟩) hb3).trans hc3)
            have HO2 := Lib.hid (HOE.out k)
            rw [HLL.out] at HO2
            have hob := HOB.out k; have hlb := HLB.out k
            have HZ := Lib.hid (HZQ.out k (idAt e k))
            have HSU := Lib.hid (fun q => HSQ.out k q (idAt e k))
            obtain ⟨F0, hF0⟩ : ∃ F, F = hasT (e.ids.take k) (idAt e k) := ⟨_, rfl⟩
            rw [← hF0] at T3 HZ
            obtain ⟨N, hNN⟩ : ∃ N, N = lng e k := ⟨_, rfl⟩
            rw [← hNN] at T1 HO2 hlb
            obtain ⟨s, hss⟩ : ∃ s, s = idAt e k := ⟨_, rfl⟩
            rw [← hss] at HID HO2 HZ HSU T3
            obtain ⟨OE, hOE⟩ : ∃ N, N = ownE (ents l) nm i k := ⟨_, rfl⟩
            rw [← hOE] at HO2 hob ⊢
            clear hF0 hc3 hNN hss hOE
            go_wp2_with fail
            have hP0 : Below w.heap.size w wr.drew ∧ Bk X [.int .i64 e.size, .int .i64 e.chunk, .slice (some ⟨b3, o3, none⟩) m ec] wr.drew := ⟨HBJ.out.drew, HBK.out.drew⟩
            clear c1 c2 c3
            refine wp_region_held_drew (S := fun w' => Below w.heap.size w w' ∧ Bk X [.int .i64 e.size, .int .i64 e.chunk, .slice (some ⟨b3, o3, none⟩) m ec] w') (by kernel_rfl) (by (first | exact hP1 | exact hP0)) (fun hHeld => ?_)
            refine wpAnyH_take (i := 0) (oi := { dst := some 43, op := Go.Op.load 36 (Go.Operand.tmp 7), type := 36, pos := "ref.go:44", after := #[], guard := none }) (v := ?_) rfl (by kernel_rfl) (by kernel_rfl) (by kernel_rfl) (fun _ _ _ h => h) (Or.inl ⟨by rfl, ?_⟩) (by assumption) ?_
            (rotate_left; focus (intro wS hSw; have s0 := (hSw.2.2 0 _ rfl).1; have s1 := (hSw.2.2 1 _ rfl).1; have s2 := (hSw.2.2 2 _ rfl).1; have s3 := HID.out wS hSw.1; clear hSw; go_simp; (try rw [if_neg (by omega)]); try with_reducible rfl))
            (try simp only [Act.put, List.setIfInBounds_toArray, List.set_cons_zero, List.set_cons_succ])
            refine wpAnyH_take (i := 1) (oi := { dst := some 44, op := Go.Op.fieldAddr 36 (Go.Operand.tmp 7) 2, type := 0, pos := "ref.go:44", after := #[], guard := none }) (v := ?_) rfl (by kernel_rfl) (by kernel_rfl) (by kernel_rfl) (fun _ _ _ h => h) (Or.inl ⟨by rfl, ?_⟩) (by assumption) ?_
            (rotate_left; focus (intro wS hSw; have s0 := (hSw.2.2 0 _ rfl).1; have s1 := (hSw.2.2 1 _ rfl).1; have s2 := (hSw.2.2 2 _ rfl).1; have s3 := HID.out wS hSw.1; clear hSw; go_simp; (try rw [if_neg (by omega)]); try with_reducible rfl))
            (try simp only [Act.put, List.setIfInBounds_toArray, List.set_cons_zero, List.set_cons_succ])
            refine wpAnyH_take (i := 2) (oi := { dst := some 45, op := Go.Op.load 34 (Go.Operand.tmp 44), type := 34, pos := "ref.go:44", after := #[{ on := 1, ground := Go.Ground.data }], guard := none }) (v := ?_) rfl (by kernel_rfl) (by kernel_rfl) (by kernel_rfl) (fun _ _ _ h => h) (Or.inl ⟨by rfl, ?_⟩) (by assumption) ?_
            (rotate_left; focus (intro wS hSw; have s0 := (hSw.2.2 0 _ rfl).1; have s1 := (hSw.2.2 1 _ rfl).1; have s2 := (hSw.2.2 2 _ rfl).1; have s3 := HID.out wS hSw.1; clear hSw; go_simp; (try rw [if_neg (by omega)]); try with_reducible rfl))
            (try simp only [Act.put, List.setIfInBounds_toArray, List.set_cons_zero, List.set_cons_succ])
            refine wpAnyH_take (i := 3) (oi := { dst := some 46, op := Go.Op.move (Go.Operand.tmp 9), type := 3, pos := "ref.go:44", after := #[], guard := none }) (v := ?_) rfl (by kernel_rfl) (by kernel_rfl) (by kernel_rfl) (fun _ _ _ h => h) (Or.inl ⟨by rfl, ?_⟩) (by assumption) ?_
            (rotate_left; focus (intro wS hSw; have s0 := (hSw.2.2 0 _ rfl).1; have s1 := (hSw.2.2 1 _ rfl).1; have s2 := (hSw.2.2 2 _ rfl).1; have s3 := HID.out wS hSw.1; clear hSw; go_simp; (try rw [if_neg (by omega)]); try with_reducible rfl))
            (try simp only [Act.put, List.setIfInBounds_toArray, List.set_cons_zero, List.set_cons_succ])
            refine wpAnyH_take (i := 4) (oi := { dst := some 47, op := Go.Op.indexAddr 34 (Go.Operand.tmp 45) (Go.Operand.tmp 46), type := 0, pos := "ref.go:44", after := #[{ on := 2, ground := Go.Ground.data }, { on := 3, ground := Go.Ground.data }], guard := none }) (v := ?_) rfl (by kernel_rfl) (by kernel_rfl) (by kernel_rfl) (fun _ _ _ h => h) (Or.inl ⟨by rfl, ?_⟩) (by assumption) ?_
            (rotate_left; focus (intro wS hSw; have s0 := (hSw.2.2 0 _ rfl).1; have s1 := (hSw.2.2 1 _ rfl).1; have s2 := (hSw.2.2 2 _ rfl).1; have s3 := HID.out wS hSw.1; clear hSw; go_simp; (try rw [if_neg (by omega)]); try with_reducible rfl))
            (try simp only [Act.put, List.setIfInBounds_toArray, List.set_cons_zero, List.set_cons_succ])
            refine wpAnyH_take (i := 5) (oi := { dst := some 48, op := Go.Op.load 9 (Go.Operand.tmp 47), type := 9, pos := "ref.go:44", after := #[{ on := 4, ground := Go.Ground.data }], guard := none }) (v := ?_) rfl (by kernel_rfl) (by kernel_rfl) (by kernel_rfl) (fun _ _ _ h => h) (Or.inl ⟨by rfl, ?_⟩) (by assumption) ?_
            (rotate_left; focus (intro wS hSw; have s0 := (hSw.2.2 0 _ rfl).1; have s1 := (hSw.2.2 1 _ rfl).1; have s2 := (hSw.2.2 2 _ rfl).1; have s3 := HID.out wS hSw.1; clear hSw; go_simp; (try rw [if_neg (by omega)]); try with_reducible rfl))
            (try simp only [Act.put, List.setIfInBounds_toArray, List.set_cons_zero, List.set_cons_succ])
            refine wpAnyH_take (i := 6) (oi := { dst := some 49, op := Go.Op.move (Go.Operand.tmp 9), type := 3, pos := "ref.go:44", after := #[], guard := none }) (v := ?_) rfl (by kernel_rfl) (by kernel_rfl) (by kernel_rfl) (fun _ _ _ h => h) (Or.inl ⟨by rfl, ?_⟩) (by assumption) ?_
            (rotate_left; focus (intro wS hSw; have s0 := (hSw.2.2 0 _ rfl).1; have s1 := (hSw.2.2 1 _ rfl).1; have s2 := (hSw.2.2 2 _ rfl).1; have s3 := HID.out wS hSw.1; clear hSw; go_simp; (try rw [if_neg (by omega)]); try with_reducible rfl))
            (try simp only [Act.put, List.setIfInBounds_toArray, List.set_cons_zero, List.set_cons_succ])
            refine wpAnyH_ready (rs := [7]) (by kernel_rfl) (by simp) ?_
            refine AllReadyH.cons (o := { dst := some 50, op := Go.Op.call { callee := Go.Callee.value (Go.Operand.func 15), args := #[Go.Operand.tmp 43, Go.Operand.tmp 48, Go.Operand.tmp 49], argTypes := #[36, 9, 3] }, type := 4, pos := "ref.go:44", after := #[{ on := 0, ground := Go.Ground.data }, { on := 5, ground := Go.Ground.data }, { on := 6, ground := Go.Ground.data }], guard := none }) rfl (fun K hK => ?_) AllReadyH.nil
            go_simp
            refine (T3.out _ hHeld.1).mono ?_
            rintro r w4 ⟨rfl, hb4'⟩
            have hP1 : Below w.heap.size w w4 ∧ Bk X [.int .i64 e.size, .int .i64 e.chunk, .slice (some ⟨b3, o3, none⟩) m ec] w4 := ⟨below_step hHeld.1 (Nat.le_refl _) hb4', hHeld.2.keep hb4'⟩
            clear hb4'
            (try go_wp2_with fail)
            refine hK.out _ _ (by (first | exact hP1 | exact hP0)) (fun hHeld => ?_)
            clear hK K
            (try simp only [Act.put, List.setIfInBounds_toArray, List.set_cons_zero, List.set_cons_succ])
            refine wpAnyH_take (i := 8) (oi := { dst := some 51, op := Go.Op.unOp Go.UnOp.not 4 (Go.Operand.tmp 50), type := 4, pos := "ref.go:44", after := #[{ on := 7, ground := Go.Ground.data }], guard := none }) (v := ?_) rfl (by kernel_rfl) (by kernel_rfl) (by kernel_rfl) (fun _ _ _ h => h) (Or.inl ⟨by rfl, ?_⟩) (by assumption) ?_
            (rotate_left; focus (intro wS hSw; have s0 := (hSw.2.2 0 _ rfl).1; have s1 := (hSw.2.2 1 _ rfl).1; have s2 := (hSw.2.2 2 _ rfl).1; have s3 := HID.out wS hSw.1; clear hSw; go_simp; (try rw [if_neg (by omega)]); try with_reducible rfl))
            (try simp only [Act.put, List.setIfInBounds_toArray, List.set_cons_zero, List.set_cons_succ])
            refine wpAnyH_take (i := 9) (oi := { dst := some 10, op := Go.Op.assign (Go.Operand.tmp 51), type := 4, pos := "ref.go:44", after := #[{ on := 8, ground := Go.Ground.data }, { on := 7, ground := Go.Ground.chain }, { on := 0, ground := Go.Ground.phase }, { on := 1, ground := Go.Ground.phase }, { on := 2, ground := Go.Ground.phase }, { on := 3, ground := Go.Ground.phase }, { on := 4, ground := Go.Ground.phase }, { on := 5, ground := Go.Ground.phase }, { on := 6, ground := Go.Ground.phase }, { on := 7, ground := Go.Ground.phase }, { on := 8, ground := Go.Ground.phase }], guard := none }) (v := ?_) rfl (by kernel_rfl) (by kernel_rfl) (by kernel_rfl) (fun _ _ _ h => h) (Or.inl ⟨by rfl, ?_⟩) (by assumption) ?_
            (rotate_left; focus (intro wS hSw; have s0 := (hSw.2.2 0 _ rfl).1; have s1 := (hSw.2.2 1 _ rfl).1; have s2 := (hSw.2.2 2 _ rfl).1; have s3 := HID.out wS hSw.1; clear hSw; go_simp; (try rw [if_neg (by omega)]); try with_reducible rfl))
            (try simp only [Act.put, List.setIfInBounds_toArray, List.set_cons_zero, List.set_cons_succ])
            refine wpAnyH_done (by kernel_rfl) ?_ _
            have HP1 := Lib.hid hP1
            clear hP0 hP1
            rw [← HZ.out]
            go_wp2
            go_loopw [10, 11] (fun sn j wr => ∃ q : Nat, j = .int .i64 q ∧ q ≤ n ∧ sn = .bool (owq (ents l) nm i k q s) ∧ Below w.heap.size w wr ∧ Bk X [.int .i64 e.size, .int .i64 e.chunk, .slice (some ⟨b3, o3, none⟩) m ec] wr) (fun _ j _ => n - (intOf j).toNat)
            case atStart => exact ⟨0, rfl, by omega, rfl, HP1.out.1, HP1.out.2⟩
            case round =>
              obtain ⟨q, rfl, hq, rfl, hbw, hbk⟩ := hrel
              have HBQ := Lib.hid hbw; have HKQ := Lib.hid hbk
              clear hbw hbk
              by_cases hqt : q < n
              · as_aux_lemma =>
                have hql : q < l.length := by rw [← HN.out]; omega
                have HSQ2 := Lib.hid (HSU.out q (by rw [ents_len]; exact hql))
                have hqe := ents_nth l hql
                rw [hqe] at HSQ2
                have hok2 := HOK.out l[q] (List.getElem_mem hql)
                have hfe2 := nth_ok HF.out q
                rw [hqe] at hfe2
                have HMF : Hid (∀ W, Below w.heap.size w W → W.cell? ⟨b2, o2 + q * 8, none⟩ = some (.string l[q].e.name) ∧ W.cell? ⟨b2, o2 + q * 8 + 1, none⟩ = some (.int .i64 l[q].e.size) ∧ W.cell? ⟨b2, o2 + q * 8 + 2, none⟩ = some (.int .i64 l[q].e.chunk) ∧ W.cell? ⟨b2, o2 + q * 8 + 3, none⟩ = some (.slice l[q].a l[q].e.ids.length l[q].c)) := Lib.hid (fun W h => ⟨name_at HS.out h q hql, manifest_at HS.out h q hql⟩)
                have T4 : Hid (∀ W, Below w.heap.size w W → Calls Try.prog 15 #[.agg #[.int .i64 l[q].e.size, .int .i64 l[q].e.chunk, .slice l[q].a l[q].e.ids.length l[q].c], .string s, .int .i64 l[q].e.ids.length] W fun r w' => r = .returned (.bool (hasT l[q].e.ids s)) ∧ Below W.heap.size W w') := Lib.hid (fun W h => by
                  have h9 := hfe2.1
                  have := in_any l[q].e s l[q].e.ids.length l[q].a l[q].c W (hok2.1.keep h) h9 (by omega)
                  rw [List.take_length] at this
                  exact this)
                obtain ⟨H, hH⟩ : ∃ H, H = hasT l[q].e.ids s := ⟨_, rfl⟩
                obtain ⟨S0, hS0⟩ : ∃ H, H = owq (ents l) nm i k q s := ⟨_, rfl⟩
                rw [← hH] at HSQ2 T4
                rw [← hS0] at HSQ2 ⊢
                clear hH hS0 hqe hok2 hfe2
                have d5 : (0 : Int) ≤ (q : Int) := by omega
                have d6 : (q : Int) < (n : Int) := by omega
                generalize l[q].e.name = qn at *
                generalize l[q].e.size = sz at *
                generalize l[q].e.chunk = ch at *
                generalize l[q].e.ids.length = il at *
                generalize l[q].a = la at *
                generalize l[q].c = lc at *
                have hP0 : Below w.heap.size w wr.drew ∧ Bk X [.int .i64 e.size, .int .i64 e.chunk, .slice (some ⟨b3, o3, none⟩) m ec] wr.drew := ⟨HBQ.out.drew, HKQ.out.drew⟩
                have HP0 := Lib.hid hP0
                cases S0 with
                | false =>
                  as_aux_lemma =>
                  go_wp2_with fail
                  refine wp_region_held_drew (S := fun _ => True) (by kernel_rfl) (trivial) (fun hHeld => ?_)
                  refine wpAnyH_take (i := 0) (oi := { dst := some 58, op := Go.Op.move (Go.Operand.tmp 10), type := 4, pos := "ref.go:46", after := #[], guard := none }) (v := ?_) rfl (by kernel_rfl) (by kernel_rfl) (by kernel_rfl) (fun _ _ _ h => h) (Or.inl ⟨by rfl, ?_⟩) (by assumption) ?_
                  (rotate_left; focus (intro wS hSw; (try dsimp only at hSw); go_simp; (try rw [if_neg (by omega)]); try with_reducible rfl))
                  (try simp only [Act.put, List.setIfInBounds_toArray, List.set_cons_zero, List.set_cons_succ])
                  refine wpAnyH_take (i := 1) (oi := { dst := some 59, op := Go.Op.move (Go.Operand.tmp 58), type := 4, pos := "ref.go:46", after := #[{ on := 0, ground := Go.Ground.data }], guard := none }) (v := ?_) rfl (by kernel_rfl) (by kernel_rfl) (by kernel_rfl) (fun _ _ _ h => h) (Or.inl ⟨by rfl, ?_⟩) (by assumption) ?_
                  (rotate_left; focus (intro wS hSw; (try dsimp only at hSw); go_simp; (try rw [if_neg (by omega)]); try with_reducible rfl))
                  (try simp only [Act.put, List.setIfInBounds_toArray, List.set_cons_zero, List.set_cons_succ])
                  refine wpAnyH_take (i := 2) (oi := { dst := some 60, op := Go.Op.move (Go.Operand.tmp 0), type := 22, pos := "ref.go:46", after := #[{ on := 1, ground := Go.Ground.guard }], guard := some (1, true) }) (v := undef) rfl (by kernel_rfl) (by kernel_rfl) (by kernel_rfl) (fun _ _ _ h => h) (Or.inr ⟨by rfl, rfl⟩) (by assumption) ?_
                  (try simp only [Act.put, List.setIfInBounds_toArray, List.set_cons_zero, List.set_cons_succ])
                  refine wpAnyH_take (i := 3) (oi := { dst := some 61, op := Go.Op.move (Go.Operand.tmp 11), type := 3, pos := "ref.go:46", after := #[{ on := 1, ground := Go.Ground.guard }], guard := some (1, true) }) (v := undef) rfl (by kernel_rfl) (by kernel_rfl) (by kernel_rfl) (fun _ _ _ h => h) (Or.inr ⟨by rfl, rfl⟩) (by assumption) ?_
                  (try simp only [Act.put, List.setIfInBounds_toArray, List.set_cons_zero, List.set_cons_succ])
                  refine wpAnyH_take (i := 4) (oi := { dst := some 62, op := Go.Op.indexAddr 22 (Go.Operand.tmp 60) (Go.Operand.tmp 61), type := 0, pos := "ref.go:46", after := #[{ on := 2, ground := Go.Ground.data }, { on := 3, ground := Go.Ground.data }, { on := 1, ground := Go.Ground.guard }], guard := some (1, true) }) (v := undef) rfl (by kernel_rfl) (by kernel_rfl) (by kernel_rfl) (fun _ _ _ h => h) (Or.inr ⟨by rfl, rfl⟩) (by assumption) ?_
                  (try simp only [Act.put, List.setIfInBounds_toArray, List.set_cons_zero, List.set_cons_succ])
                  refine wpAnyH_take (i := 5) (oi := { dst := some 63, op := Go.Op.fieldAddr 40 (Go.Operand.tmp 62) 0, type := 0, pos := "ref.go:46", after := #[{ on := 4, ground := Go.Ground.data }, { on := 1, ground := Go.Ground.guard }], guard := some (1, true) }) (v := undef) rfl (by kernel_rfl) (by kernel_rfl) (by kernel_rfl) (fun _ _ _ h => h) (Or.inr ⟨by rfl, rfl⟩) (by assumption) ?_
                  (try simp only [Act.put, List.setIfInBounds_toArray, List.set_cons_zero, List.set_cons_succ])
                  refine wpAnyH_take (i := 6) (oi := { dst := some 64, op := Go.Op.load 9 (Go.Operand.tmp 63), type := 9, pos := "ref.go:46", after := #[{ on := 5, ground := Go.Ground.data }, { on := 1, ground := Go.Ground.guard }], guard := some (1, true) }) (v := undef) rfl (by kernel_rfl) (by kernel_rfl) (by kernel_rfl) (fun _ _ _ h => h) (Or.inr ⟨by rfl, rfl⟩) (by assumption) ?_
                  (try simp only [Act.put, List.setIfInBounds_toArray, List.set_cons_zero, List.set_cons_succ])
                  refine wpAnyH_take (i := 7) (oi := { dst := some 65, op := Go.Op.move (Go.Operand.tmp 1), type := 9, pos := "ref.go:46", after := #[{ on := 1, ground := Go.Ground.guard }], guard := some (1, true) }) (v := undef) rfl (by kernel_rfl) (by kernel_rfl) (by kernel_rfl) (fun _ _ _ h => h) (Or.inr ⟨by rfl, rfl⟩) (by assumption) ?_
                  (try simp only [Act.put, List.setIfInBounds_toArray, List.set_cons_zero, List.set_cons_succ])
                  refine wpAnyH_take (i := 8) (oi := { dst := some 66, op := Go.Op.binOp Go.BinOp.eql 9 (Go.Operand.tmp 64) (Go.Operand.tmp 65) 9, type := 4, pos := "ref.go:46", after := #[{ on := 6, ground := Go.Ground.data }, { on := 7, ground := Go.Ground.data }, { on := 1, ground := Go.Ground.guard }], guard := some (1, true) }) (v := undef) rfl (by kernel_rfl) (by kernel_rfl) (by kernel_rfl) (fun _ _ _ h => h) (Or.inr ⟨by rfl, rfl⟩) (by assumption) ?_
                  (try simp only [Act.put, List.setIfInBounds_toArray, List.set_cons_zero, List.set_cons_succ])
                  refine wpAnyH_take (i := 9) (oi := { dst := some 67, op := Go.Op.move (Go.Operand.tmp 66), type := 4, pos := "ref.go:46", after := #[{ on := 8, ground := Go.Ground.data }, { on := 1, ground := Go.Ground.chain }, { on := 1, ground := Go.Ground.guard }], guard := some (1, true) }) (v := undef) rfl (by kernel_rfl) (by kernel_rfl) (by kernel_rfl) (fun _ _ _ h => h) (Or.inr ⟨by rfl, rfl⟩) (by assumption) ?_
                  (try simp only [Act.put, List.setIfInBounds_toArray, List.set_cons_zero, List.set_cons_succ])
                  refine wpAnyH_take (i := 10) (oi := { dst := some 68, op := Go.Op.move (Go.Operand.tmp 0), type := 22, pos := "ref.go:46", after := #[{ on := 9, ground := Go.Ground.guard }], guard := some (9, false) }) (v := undef) rfl (by kernel_rfl) (by kernel_rfl) (by kernel_rfl) (fun _ _ _ h => h) (Or.inr ⟨by rfl, rfl⟩) (by assumption) ?_
                  (try simp only [Act.put, List.setIfInBounds_toArray, List.set_cons_zero, List.set_cons_succ])
                  refine wpAnyH_take (i := 11) (oi := { dst := some 69, op := Go.Op.move (Go.Operand.tmp 11), type := 3, pos := "ref.go:46", after := #[{ on := 9, ground := Go.Ground.guard }], guard := some (9, false) }) (v := undef) rfl (by kernel_rfl) (by kernel_rfl) (by kernel_rfl) (fun _ _ _ h => h) (Or.inr ⟨by rfl, rfl⟩) (by assumption) ?_
                  (try simp only [Act.put, List.setIfInBounds_toArray, List.set_cons_zero, List.set_cons_succ])
                  refine wpAnyH_take (i := 12) (oi := { dst := some 70, op := Go.Op.indexAddr 22 (Go.Operand.tmp 68) (Go.Operand.tmp 69), type := 0, pos := "ref.go:46", after := #[{ on := 10, ground := Go.Ground.data }, { on := 11, ground := Go.Ground.data }, { on := 9, ground := Go.Ground.guard }], guard := some (9, false) }) (v := undef) rfl (by kernel_rfl) (by kernel_rfl) (by kernel_rfl) (fun _ _ _ h => h) (Or.inr ⟨by rfl, rfl⟩) (by assumption) ?_
                  (try simp only [Act.put, List.setIfInBounds_toArray, List.set_cons_zero, List.set_cons_succ])
                  refine wpAnyH_take (i := 13) (oi := { dst := some 71, op := Go.Op.fieldAddr 40 (Go.Operand.tmp 70) 1, type := 0, pos := "ref.go:46", after := #[{ on := 12, ground := Go.Ground.data }, { on := 9, ground := Go.Ground.guard }], guard := some (9, false) }) (v := undef) rfl (by kernel_rfl) (by kernel_rfl) (by kernel_rfl) (fun _ _ _ h => h) (Or.inr ⟨by rfl, rfl⟩) (by assumption) ?_
                  (try simp only [Act.put, List.setIfInBounds_toArray, List.set_cons_zero, List.set_cons_succ])
                  refine wpAnyH_take (i := 14) (oi := { dst := some 72, op := Go.Op.load 36 (Go.Operand.tmp 71), type := 36, pos := "ref.go:46", after := #[{ on := 13, ground := Go.Ground.data }, { on := 9, ground := Go.Ground.guard }], guard := some (9, false) }) (v := undef) rfl (by kernel_rfl) (by kernel_rfl) (by kernel_rfl) (fun _ _ _ h => h) (Or.inr ⟨by rfl, rfl⟩) (by assumption) ?_
                  (try simp only [Act.put, List.setIfInBounds_toArray, List.set_cons_zero, List.set_cons_succ])
                  refine wpAnyH_take (i := 15) (oi := { dst := some 73, op := Go.Op.fieldAddr 36 (Go.Operand.tmp 7) 2, type := 0, pos := "ref.go:46", after := #[{ on := 9, ground := Go.Ground.guard }], guard := some (9, false) }) (v := undef) rfl (by kernel_rfl) (by kernel_rfl) (by kernel_rfl) (fun _ _ _ h => h) (Or.inr ⟨by rfl, rfl⟩) (by assumption) ?_
                  (try simp only [Act.put, List.setIfInBounds_toArray, List.set_cons_zero, List.set_cons_succ])
                  refine wpAnyH_take (i := 16) (oi := { dst := some 74, op := Go.Op.load 34 (Go.Operand.tmp 73), type := 34, pos := "ref.go:46", after := #[{ on := 15, ground := Go.Ground.data }, { on := 9, ground := Go.Ground.guard }], guard := some (9, false) }) (v := undef) rfl (by kernel_rfl) (by kernel_rfl) (by kernel_rfl) (fun _ _ _ h => h) (Or.inr ⟨by rfl, rfl⟩) (by assumption) ?_
                  (try simp only [Act.put, List.setIfInBounds_toArray, List.set_cons_zero, List.set_cons_succ])
                  refine wpAnyH_take (i := 17) (oi := { dst := some 75, op := Go.Op.move (Go.Operand.tmp 9), type := 3, pos := "ref.go:46", after := #[{ on := 9, ground := Go.Ground.guard }], guard := some (9, false) }) (v := undef) rfl (by kernel_rfl) (by kernel_rfl) (by kernel_rfl) (fun _ _ _ h => h) (Or.inr ⟨by rfl, rfl⟩) (by assumption) ?_
                  (try simp only [Act.put, List.setIfInBounds_toArray, List.set_cons_zero, List.set_cons_succ])
                  refine wpAnyH_take (i := 18) (oi := { dst := some 76, op := Go.Op.indexAddr 34 (Go.Operand.tmp 74) (Go.Operand.tmp 75), type := 0, pos := "ref.go:46", after := #[{ on := 16, ground := Go.Ground.data }, { on := 17, ground := Go.Ground.data }, { on := 9, ground := Go.Ground.guard }], guard := some (9, false) }) (v := undef) rfl (by kernel_rfl) (by kernel_rfl) (by kernel_rfl) (fun _ _ _ h => h) (Or.inr ⟨by rfl, rfl⟩) (by assumption) ?_
                  (try simp only [Act.put, List.setIfInBounds_toArray, List.set_cons_zero, List.set_cons_succ])
                  refine wpAnyH_take (i := 19) (oi := { dst := some 77, op := Go.Op.load 9 (Go.Operand.tmp 76), type := 9, pos := "ref.go:46", after := #[{ on := 18, ground := Go.Ground.data }, { on := 9, ground := Go.Ground.guard }], guard := some (9, false) }) (v := undef) rfl (by kernel_rfl) (by kernel_rfl) (by kernel_rfl) (fun _ _ _ h => h) (Or.inr ⟨by rfl, rfl⟩) (by assumption) ?_
                  (try simp only [Act.put, List.setIfInBounds_toArray, List.set_cons_zero, List.set_cons_succ])
                  refine wpAnyH_take (i := 20) (oi := { dst := some 78, op := Go.Op.move (Go.Operand.tmp 0), type := 22, pos := "ref.go:46", after := #[{ on := 9, ground := Go.Ground.guard }], guard := some (9, false) }) (v := undef) rfl (by kernel_rfl) (by kernel_rfl) (by kernel_rfl) (fun _ _ _ h => h) (Or.inr ⟨by rfl, rfl⟩) (by assumption) ?_
                  (try simp only [Act.put, List.setIfInBounds_toArray, List.set_cons_zero, List.set_cons_succ])
                  refine wpAnyH_take (i := 21) (oi := { dst := some 79, op := Go.Op.move (Go.Operand.tmp 11), type := 3, pos := "ref.go:46", after := #[{ on := 9, ground := Go.Ground.guard }], guard := some (9, false) }) (v := undef) rfl (by kernel_rfl) (by kernel_rfl) (by kernel_rfl) (fun _ _ _ h => h) (Or.inr ⟨by rfl, rfl⟩) (by assumption) ?_
                  (try simp only [Act.put, List.setIfInBounds_toArray, List.set_cons_zero, List.set_cons_succ])
                  refine wpAnyH_take (i := 22) (oi := { dst := some 80, op := Go.Op.indexAddr 22 (Go.Operand.tmp 78) (Go.Operand.tmp 79), type := 0, pos := "ref.go:46", after := #[{ on := 20, ground := Go.Ground.data }, { on := 21, ground := Go.Ground.data }, { on := 9, ground := Go.Ground.guard }], guard := some (9, false) }) (v := undef) rfl (by kernel_rfl) (by kernel_rfl) (by kernel_rfl) (fun _ _ _ h => h) (Or.inr ⟨by rfl, rfl⟩) (by assumption) ?_
                  (try simp only [Act.put, List.setIfInBounds_toArray, List.set_cons_zero, List.set_cons_succ])
                  refine wpAnyH_take (i := 23) (oi := { dst := some 81, op := Go.Op.fieldAddr 40 (Go.Operand.tmp 80) 1, type := 0, pos := "ref.go:46", after := #[{ on := 22, ground := Go.Ground.data }, { on := 9, ground := Go.Ground.guard }], guard := some (9, false) }) (v := undef) rfl (by kernel_rfl) (by kernel_rfl) (by kernel_rfl) (fun _ _ _ h => h) (Or.inr ⟨by rfl, rfl⟩) (by assumption) ?_
                  (try simp only [Act.put, List.setIfInBounds_toArray, List.set_cons_zero, List.set_cons_succ])
                  refine wpAnyH_take (i := 24) (oi := { dst := some 82, op := Go.Op.fieldAddr 36 (Go.Operand.tmp 81) 2, type := 0, pos := "ref.go:46", after := #[{ on := 23, ground := Go.Ground.data }, { on := 9, ground := Go.Ground.guard }], guard := some (9, false) }) (v := undef) rfl (by kernel_rfl) (by kernel_rfl) (by kernel_rfl) (fun _ _ _ h => h) (Or.inr ⟨by rfl, rfl⟩) (by assumption) ?_
                  (try simp only [Act.put, List.setIfInBounds_toArray, List.set_cons_zero, List.set_cons_succ])
                  refine wpAnyH_take (i := 25) (oi := { dst := some 83, op := Go.Op.load 34 (Go.Operand.tmp 82), type := 34, pos := "ref.go:46", after := #[{ on := 24, ground := Go.Ground.data }, { on := 9, ground := Go.Ground.guard }], guard := some (9, false) }) (v := undef) rfl (by kernel_rfl) (by kernel_rfl) (by kernel_rfl) (fun _ _ _ h => h) (Or.inr ⟨by rfl, rfl⟩) (by assumption) ?_
                  (try simp only [Act.put, List.setIfInBounds_toArray, List.set_cons_zero, List.set_cons_succ])
                  refine wpAnyH_take (i := 26) (oi := { dst := some 84, op := Go.Op.call { callee := Go.Callee.builtin Go.Builtin.len, args := #[Go.Operand.tmp 83], argTypes := #[34] }, type := 3, pos := "ref.go:46", after := #[{ on := 25, ground := Go.Ground.data }, { on := 9, ground := Go.Ground.guard }], guard := some (9, false) }) (v := undef) rfl (by kernel_rfl) (by kernel_rfl) (by kernel_rfl) (fun _ _ _ h => h) (Or.inr ⟨by rfl, rfl⟩) (by assumption) ?_
                  (try simp only [Act.put, List.setIfInBounds_toArray, List.set_cons_zero, List.set_cons_succ])
                  refine wpAnyH_take (i := 27) (oi := { dst := some 85, op := Go.Op.call { callee := Go.Callee.value (Go.Operand.func 15), args := #[Go.Operand.tmp 72, Go.Operand.tmp 77, Go.Operand.tmp 84], argTypes := #[36, 9, 3] }, type := 4, pos := "ref.go:46", after := #[{ on := 14, ground := Go.Ground.data }, { on := 19, ground := Go.Ground.data }, { on := 26, ground := Go.Ground.data }, { on := 9, ground := Go.Ground.chain }, { on := 9, ground := Go.Ground.guard }], guard := some (9, false) }) (v := undef) rfl (by kernel_rfl) (by kernel_rfl) (by kernel_rfl) (fun _ _ _ h => h) (Or.inr ⟨by rfl, rfl⟩) (by assumption) ?_
                  (try simp only [Act.put, List.setIfInBounds_toArray, List.set_cons_zero, List.set_cons_succ])
                  refine wpAnyH_take (i := 28) (oi := { dst := some 86, op := Go.Op.unOp Go.UnOp.not 4 (Go.Operand.tmp 85), type := 4, pos := "ref.go:46", after := #[{ on := 27, ground := Go.Ground.data }, { on := 9, ground := Go.Ground.guard }], guard := some (9, false) }) (v := undef) rfl (by kernel_rfl) (by kernel_rfl) (by kernel_rfl) (fun _ _ _ h => h) (Or.inr ⟨by rfl, rfl⟩) (by assumption) ?_
                  (try simp only [Act.put, List.setIfInBounds_toArray, List.set_cons_zero, List.set_cons_succ])
                  refine wpAnyH_take (i := 29) (oi := { dst := some 87, op := Go.Op.pick (Go.Operand.tmp 67) (Go.Operand.const (Go.Value.bool true)) (Go.Operand.tmp 86), type := 4, pos := "ref.go:46", after := #[{ on := 9, ground := Go.Ground.data }, { on := 28, ground := Go.Ground.data }, { on := 1, ground := Go.Ground.guard }], guard := some (1, true) }) (v := undef) rfl (by kernel_rfl) (by kernel_rfl) (by kernel_rfl) (fun _ _ _ h => h) (Or.inr ⟨by rfl, rfl⟩) (by assumption) ?_
                  (try simp only [Act.put, List.setIfInBounds_toArray, List.set_cons_zero, List.set_cons_succ])
                  refine wpAnyH_take (i := 30) (oi := { dst := some 88, op := Go.Op.pick (Go.Operand.tmp 59) (Go.Operand.tmp 87) (Go.Operand.const (Go.Value.bool false)), type := 4, pos := "ref.go:46", after := #[{ on := 1, ground := Go.Ground.data }, { on := 29, ground := Go.Ground.data }], guard := none }) (v := ?_) rfl (by kernel_rfl) (by kernel_rfl) (by kernel_rfl) (fun _ _ _ h => h) (Or.inl ⟨by rfl, ?_⟩) (by assumption) ?_
                  (rotate_left; focus (intro wS hSw; (try dsimp only at hSw); go_simp; (try rw [if_neg (by omega)]); try with_reducible rfl))
                  (try simp only [Act.put, List.setIfInBounds_toArray, List.set_cons_zero, List.set_cons_succ])
                  refine wpAnyH_take (i := 31) (oi := { dst := some 10, op := Go.Op.assign (Go.Operand.tmp 88), type := 4, pos := "ref.go:46", after := #[{ on := 30, ground := Go.Ground.data }, { on := 27, ground := Go.Ground.chain }, { on := 0, ground := Go.Ground.phase }, { on := 1, ground := Go.Ground.phase }, { on := 2, ground := Go.Ground.phase }, { on := 3, ground := Go.Ground.phase }, { on := 4, ground := Go.Ground.phase }, { on := 5, ground := Go.Ground.phase }, { on := 6, ground := Go.Ground.phase }, { on := 7, ground := Go.Ground.phase }, { on := 8, ground := Go.Ground.phase }, { on := 9, ground := Go.Ground.phase }, { on := 10, ground := Go.Ground.phase }, { on := 11, ground := Go.Ground.phase }, { on := 12, ground := Go.Ground.phase }, { on := 13, ground := Go.Ground.phase }, { on := 14, ground := Go.Ground.phase }, { on := 15, ground := Go.Ground.phase }, { on := 16, ground := Go.Ground.phase }, { on := 17, ground := Go.Ground.phase }, { on := 18, ground := Go.Ground.phase }, { on := 19, ground := Go.Ground.phase }, { on := 20, ground := Go.Ground.phase }, { on := 21, ground := Go.Ground.phase }, { on := 22, ground := Go.Ground.phase }, { on := 23, ground := Go.Ground.phase }, { on := 24, ground := Go.Ground.phase }, { on := 25, ground := Go.Ground.phase }, { on := 26, ground := Go.Ground.phase }, { on := 27, ground := Go.Ground.phase }, { on := 28, ground := Go.Ground.phase }, { on := 29, ground := Go.Ground.phase }, { on := 30, ground := Go.Ground.phase }], guard := none }) (v := ?_) rfl (by kernel_rfl) (by kernel_rfl) (by kernel_rfl) (fun _ _ _ h => h) (Or.inl ⟨by rfl, ?_⟩) (by assumption) ?_
                  (rotate_left; focus (intro wS hSw; (try dsimp only at hSw); go_simp; (try rw [if_neg (by omega)]); try with_reducible rfl))
                  (try simp only [Act.put, List.setIfInBounds_toArray, List.set_cons_zero, List.set_cons_succ])
                  refine wpAnyH_done (by kernel_rfl) ?_ _
                  go_wp2
                  go_roundw
                  case rel => exact ⟨q + 1, by go_num, by omega, by rw [HSQ2.out]; rfl, HP0.out.1, HP0.out.2⟩
                  case measure => simp [intOf]; omega
                | true =>
                  by_cases hqn : qn = nm
                  · as_aux_lemma =>
                    have e3 := str_eq hqn
                    have HSQ3 : Hid (owq (ents l) nm i k (q + 1) s = true) := Lib.hid (by rw [HSQ2.out, decide_eq_true hqn]; rfl)
                    clear hqn
                    go_wp2_with fail
                    refine wp_region_held_drew (S := fun w' => Below w.heap.size w w' ∧ Bk X [.int .i64 e.size, .int .i64 e.chunk, .slice (some ⟨b3, o3, none⟩) m ec] w') (by kernel_rfl) (by (exact hP0)) (fun hHeld => ?_)
                    refine wpAnyH_take (i := 0) (oi := { dst := some 58, op := Go.Op.move (Go.Operand.tmp 10), type := 4, pos := "ref.go:46", after := #[], guard := none }) (v := ?_) rfl (by kernel_rfl) (by kernel_rfl) (by kernel_rfl) (fun _ _ _ h => h) (Or.inl ⟨by rfl, ?_⟩) (by assumption) ?_
                    (rotate_left; focus (intro wS hSw; have s3 := (HMF.out wS hSw.1).1; clear hSw; go_simp; (try rw [if_neg (by omega)]); try with_reducible rfl))
                    (try simp only [Act.put, List.setIfInBounds_toArray, List.set_cons_zero, List.set_cons_succ])
                    refine wpAnyH_take (i := 1) (oi := { dst := some 59, op := Go.Op.move (Go.Operand.tmp 58), type := 4, pos := "ref.go:46", after := #[{ on := 0, ground := Go.Ground.data }], guard := none }) (v := ?_) rfl (by kernel_rfl) (by kernel_rfl) (by kernel_rfl) (fun _ _ _ h => h) (Or.inl ⟨by rfl, ?_⟩) (by assumption) ?_
                    (rotate_left; focus (intro wS hSw; have s3 := (HMF.out wS hSw.1).1; clear hSw; go_simp; (try rw [if_neg (by omega)]); try with_reducible rfl))
                    (try simp only [Act.put, List.setIfInBounds_toArray, List.set_cons_zero, List.set_cons_succ])
                    refine wpAnyH_take (i := 2) (oi := { dst := some 60, op := Go.Op.move (Go.Operand.tmp 0), type := 22, pos := "ref.go:46", after := #[{ on := 1, ground := Go.Ground.guard }], guard := some (1, true) }) (v := ?_) rfl (by kernel_rfl) (by kernel_rfl) (by kernel_rfl) (fun _ _ _ h => h) (Or.inl ⟨by rfl, ?_⟩) (by assumption) ?_
                    (rotate_left; focus (intro wS hSw; have s3 := (HMF.out wS hSw.1).1; clear hSw; go_simp; (try rw [if_neg (by omega)]); try with_reducible rfl))
                    (try simp only [Act.put, List.setIfInBounds_toArray, List.set_cons_zero, List.set_cons_succ])
                    refine wpAnyH_take (i := 3) (oi := { dst := some 61, op := Go.Op.move (Go.Operand.tmp 11), type := 3, pos := "ref.go:46", after := #[{ on := 1, ground := Go.Ground.guard }], guard := some (1, true) }) (v := ?_) rfl (by kernel_rfl) (by kernel_rfl) (by kernel_rfl) (fun _ _ _ h => h) (Or.inl ⟨by rfl, ?_⟩) (by assumption) ?_
                    (rotate_left; focus (intro wS hSw; have s3 := (HMF.out wS hSw.1).1; clear hSw; go_simp; (try rw [if_neg (by omega)]); try with_reducible rfl))
                    (try simp only [Act.put, List.setIfInBounds_toArray, List.set_cons_zero, List.set_cons_succ])
                    refine wpAnyH_take (i := 4) (oi := { dst := some 62, op := Go.Op.indexAddr 22 (Go.Operand.tmp 60) (Go.Operand.tmp 61), type := 0, pos := "ref.go:46", after := #[{ on := 2, ground := Go.Ground.data }, { on := 3, ground := Go.Ground.data }, { on := 1, ground := Go.Ground.guard }], guard := some (1, true) }) (v := ?_) rfl (by kernel_rfl) (by kernel_rfl) (by kernel_rfl) (fun _ _ _ h => h) (Or.inl ⟨by rfl, ?_⟩) (by assumption) ?_
                    (rotate_left; focus (intro wS hSw; have s3 := (HMF.out wS hSw.1).1; clear hSw; go_simp; (try rw [if_neg (by omega)]); try with_reducible rfl))
                    (try simp only [Act.put, List.setIfInBounds_toArray, List.set_cons_zero, List.set_cons_succ])
                    refine wpAnyH_take (i := 5) (oi := { dst := some 63, op := Go.Op.fieldAddr 40 (Go.Operand.tmp 62) 0, type := 0, pos := "ref.go:46", after := #[{ on := 4, ground := Go.Ground.data }, { on := 1, ground := Go.Ground.guard }], guard := some (1, true) }) (v := ?_) rfl (by kernel_rfl) (by kernel_rfl) (by kernel_rfl) (fun _ _ _ h => h) (Or.inl ⟨by rfl, ?_⟩) (by assumption) ?_
                    (rotate_left; focus (intro wS hSw; have s3 := (HMF.out wS hSw.1).1; clear hSw; go_simp; (try rw [if_neg (by omega)]); try with_reducible rfl))
                    (try simp only [Act.put, List.setIfInBounds_toArray, List.set_cons_zero, List.set_cons_succ])
                    refine wpAnyH_take (i := 6) (oi := { dst := some 64, op := Go.Op.load 9 (Go.Operand.tmp 63), type := 9, pos := "ref.go:46", after := #[{ on := 5, ground := Go.Ground.data }, { on := 1, ground := Go.Ground.guard }], guard := some (1, true) }) (v := ?_) rfl (by kernel_rfl) (by kernel_rfl) (by kernel_rfl) (fun _ _ _ h => h) (Or.inl ⟨by rfl, ?_⟩) (by assumption) ?_
                    (rotate_left; focus (intro wS hSw; have s3 := (HMF.out wS hSw.1).1; clear hSw; go_simp; (try rw [if_neg (by omega)]); try with_reducible rfl))
                    (try simp only [Act.put, List.setIfInBounds_toArray, List.set_cons_zero, List.set_cons_succ])
                    refine wpAnyH_take (i := 7) (oi := { dst := some 65, op := Go.Op.move (Go.Operand.tmp 1), type := 9, pos := "ref.go:46", after := #[{ on := 1, ground := Go.Ground.guard }], guard := some (1, true) }) (v := ?_) rfl (by kernel_rfl) (by kernel_rfl) (by kernel_rfl) (fun _ _ _ h => h) (Or.inl ⟨by rfl, ?_⟩) (by assumption) ?_
                    (rotate_left; focus (intro wS hSw; have s3 := (HMF.out wS hSw.1).1; clear hSw; go_simp; (try rw [if_neg (by omega)]); try with_reducible rfl))
                    (try simp only [Act.put, List.setIfInBounds_toArray, List.set_cons_zero, List.set_cons_succ])
                    refine wpAnyH_take (i := 8) (oi := { dst := some 66, op := Go.Op.binOp Go.BinOp.eql 9 (Go.Operand.tmp 64) (Go.Operand.tmp 65) 9, type := 4, pos := "ref.go:46", after := #[{ on := 6, ground := Go.Ground.data }, { on := 7, ground := Go.Ground.data }, { on := 1, ground := Go.Ground.guard }], guard := some (1, true) }) (v := ?_) rfl (by kernel_rfl) (by kernel_rfl) (by kernel_rfl) (fun _ _ _ h => h) (Or.inl ⟨by rfl, ?_⟩) (by assumption) ?_
                    (rotate_left; focus (intro wS hSw; have s3 := (HMF.out wS hSw.1).1; clear hSw; go_simp; (try rw [if_neg (by omega)]); try with_reducible rfl))
                    (try simp only [Act.put, List.setIfInBounds_toArray, List.set_cons_zero, List.set_cons_succ])
                    refine wpAnyH_take (i := 9) (oi := { dst := some 67, op := Go.Op.move (Go.Operand.tmp 66), type := 4, pos := "ref.go:46", after := #[{ on := 8, ground := Go.Ground.data }, { on := 1, ground := Go.Ground.chain }, { on := 1, ground := Go.Ground.guard }], guard := some (1, true) }) (v := ?_) rfl (by kernel_rfl) (by kernel_rfl) (by kernel_rfl) (fun _ _ _ h => h) (Or.inl ⟨by rfl, ?_⟩) (by assumption) ?_
                    (rotate_left; focus (intro wS hSw; have s3 := (HMF.out wS hSw.1).1; clear hSw; go_simp; (try rw [if_neg (by omega)]); try with_reducible rfl))
                    (try simp only [Act.put, List.setIfInBounds_toArray, List.set_cons_zero, List.set_cons_succ])
                    refine wpAnyH_take (i := 10) (oi := { dst := some 68, op := Go.Op.move (Go.Operand.tmp 0), type := 22, pos := "ref.go:46", after := #[{ on := 9, ground := Go.Ground.guard }], guard := some (9, false) }) (v := undef) rfl (by kernel_rfl) (by kernel_rfl) (by kernel_rfl) (fun _ _ _ h => h) (Or.inr ⟨by rfl, rfl⟩) (by assumption) ?_
                    (try simp only [Act.put, List.setIfInBounds_toArray, List.set_cons_zero, List.set_cons_succ])
                    refine wpAnyH_take (i := 11) (oi := { dst := some 69, op := Go.Op.move (Go.Operand.tmp 11), type := 3, pos := "ref.go:46", after := #[{ on := 9, ground := Go.Ground.guard }], guard := some (9, false) }) (v := undef) rfl (by kernel_rfl) (by kernel_rfl) (by kernel_rfl) (fun _ _ _ h => h) (Or.inr ⟨by rfl, rfl⟩) (by assumption) ?_
                    (try simp only [Act.put, List.setIfInBounds_toArray, List.set_cons_zero, List.set_cons_succ])
                    refine wpAnyH_take (i := 12) (oi := { dst := some 70, op := Go.Op.indexAddr 22 (Go.Operand.tmp 68) (Go.Operand.tmp 69), type := 0, pos := "ref.go:46", after := #[{ on := 10, ground := Go.Ground.data }, { on := 11, ground := Go.Ground.data }, { on := 9, ground := Go.Ground.guard }], guard := some (9, false) }) (v := undef) rfl (by kernel_rfl) (by kernel_rfl) (by kernel_rfl) (fun _ _ _ h => h) (Or.inr ⟨by rfl, rfl⟩) (by assumption) ?_
                    (try simp only [Act.put, List.setIfInBounds_toArray, List.set_cons_zero, List.set_cons_succ])
                    refine wpAnyH_take (i := 13) (oi := { dst := some 71, op := Go.Op.fieldAddr 40 (Go.Operand.tmp 70) 1, type := 0, pos := "ref.go:46", after := #[{ on := 12, ground := Go.Ground.data }, { on := 9, ground := Go.Ground.guard }], guard := some (9, false) }) (v := undef) rfl (by kernel_rfl) (by kernel_rfl) (by kernel_rfl) (fun _ _ _ h => h) (Or.inr ⟨by rfl, rfl⟩) (by assumption) ?_
                    (try simp only [Act.put, List.setIfInBounds_toArray, List.set_cons_zero, List.set_cons_succ])
                    refine wpAnyH_take (i := 14) (oi := { dst := some 72, op := Go.Op.load 36 (Go.Operand.tmp 71), type := 36, pos := "ref.go:46", after := #[{ on := 13, ground := Go.Ground.data }, { on := 9, ground := Go.Ground.guard }], guard := some (9, false) }) (v := undef) rfl (by kernel_rfl) (by kernel_rfl) (by kernel_rfl) (fun _ _ _ h => h) (Or.inr ⟨by rfl, rfl⟩) (by assumption) ?_
                    (try simp only [Act.put, List.setIfInBounds_toArray, List.set_cons_zero, List.set_cons_succ])
                    refine wpAnyH_take (i := 15) (oi := { dst := some 73, op := Go.Op.fieldAddr 36 (Go.Operand.tmp 7) 2, type := 0, pos := "ref.go:46", after := #[{ on := 9, ground := Go.Ground.guard }], guard := some (9, false) }) (v := undef) rfl (by kernel_rfl) (by kernel_rfl) (by kernel_rfl) (fun _ _ _ h => h) (Or.inr ⟨by rfl, rfl⟩) (by assumption) ?_
                    (try simp only [Act.put, List.setIfInBounds_toArray, List.set_cons_zero, List.set_cons_succ])
                    refine wpAnyH_take (i := 16) (oi := { dst := some 74, op := Go.Op.load 34 (Go.Operand.tmp 73), type := 34, pos := "ref.go:46", after := #[{ on := 15, ground := Go.Ground.data }, { on := 9, ground := Go.Ground.guard }], guard := some (9, false) }) (v := undef) rfl (by kernel_rfl) (by kernel_rfl) (by kernel_rfl) (fun _ _ _ h => h) (Or.inr ⟨by rfl, rfl⟩) (by assumption) ?_
                    (try simp only [Act.put, List.setIfInBounds_toArray, List.set_cons_zero, List.set_cons_succ])
                    refine wpAnyH_take (i := 17) (oi := { dst := some 75, op := Go.Op.move (Go.Operand.tmp 9), type := 3, pos := "ref.go:46", after := #[{ on := 9, ground := Go.Ground.guard }], guard := some (9, false) }) (v := undef) rfl (by kernel_rfl) (by kernel_rfl) (by kernel_rfl) (fun _ _ _ h => h) (Or.inr ⟨by rfl, rfl⟩) (by assumption) ?_
                    (try simp only [Act.put, List.setIfInBounds_toArray, List.set_cons_zero, List.set_cons_succ])
                    refine wpAnyH_take (i := 18) (oi := { dst := some 76, op := Go.Op.indexAddr 34 (Go.Operand.tmp 74) (Go.Operand.tmp 75), type := 0, pos := "ref.go:46", after := #[{ on := 16, ground := Go.Ground.data }, { on := 17, ground := Go.Ground.data }, { on := 9, ground := Go.Ground.guard }], guard := some (9, false) }) (v := undef) rfl (by kernel_rfl) (by kernel_rfl) (by kernel_rfl) (fun _ _ _ h => h) (Or.inr ⟨by rfl, rfl⟩) (by assumption) ?_
                    (try simp only [Act.put, List.setIfInBounds_toArray, List.set_cons_zero, List.set_cons_succ])
                    refine wpAnyH_take (i := 19) (oi := { dst := some 77, op := Go.Op.load 9 (Go.Operand.tmp 76), type := 9, pos := "ref.go:46", after := #[{ on := 18, ground := Go.Ground.data }, { on := 9, ground := Go.Ground.guard }], guard := some (9, false) }) (v := undef) rfl (by kernel_rfl) (by kernel_rfl) (by kernel_rfl) (fun _ _ _ h => h) (Or.inr ⟨by rfl, rfl⟩) (by assumption) ?_
                    (try simp only [Act.put, List.setIfInBounds_toArray, List.set_cons_zero, List.set_cons_succ])
                    refine wpAnyH_take (i := 20) (oi := { dst := some 78, op := Go.Op.move (Go.Operand.tmp 0), type := 22, pos := "ref.go:46", after := #[{ on := 9, ground := Go.Ground.guard }], guard := some (9, false) }) (v := undef) rfl (by kernel_rfl) (by kernel_rfl) (by kernel_rfl) (fun _ _ _ h => h) (Or.inr ⟨by rfl, rfl⟩) (by assumption) ?_
                    (try simp only [Act.put, List.setIfInBounds_toArray, List.set_cons_zero, List.set_cons_succ])
                    refine wpAnyH_take (i := 21) (oi := { dst := some 79, op := Go.Op.move (Go.Operand.tmp 11), type := 3, pos := "ref.go:46", after := #[{ on := 9, ground := Go.Ground.guard }], guard := some (9, false) }) (v := undef) rfl (by kernel_rfl) (by kernel_rfl) (by kernel_rfl) (fun _ _ _ h => h) (Or.inr ⟨by rfl, rfl⟩) (by assumption) ?_
                    (try simp only [Act.put, List.setIfInBounds_toArray, List.set_cons_zero, List.set_cons_succ])
                    refine wpAnyH_take (i := 22) (oi := { dst := some 80, op := Go.Op.indexAddr 22 (Go.Operand.tmp 78) (Go.Operand.tmp 79), type := 0, pos := "ref.go:46", after := #[{ on := 20, ground := Go.Ground.data }, { on := 21, ground := Go.Ground.data }, { on := 9, ground := Go.Ground.guard }], guard := some (9, false) }) (v := undef) rfl (by kernel_rfl) (by kernel_rfl) (by kernel_rfl) (fun _ _ _ h => h) (Or.inr ⟨by rfl, rfl⟩) (by assumption) ?_
                    (try simp only [Act.put, List.setIfInBounds_toArray, List.set_cons_zero, List.set_cons_succ])
                    refine wpAnyH_take (i := 23) (oi := { dst := some 81, op := Go.Op.fieldAddr 40 (Go.Operand.tmp 80) 1, type := 0, pos := "ref.go:46", after := #[{ on := 22, ground := Go.Ground.data }, { on := 9, ground := Go.Ground.guard }], guard := some (9, false) }) (v := undef) rfl (by kernel_rfl) (by kernel_rfl) (by kernel_rfl) (fun _ _ _ h => h) (Or.inr ⟨by rfl, rfl⟩) (by assumption) ?_
                    (try simp only [Act.put, List.setIfInBounds_toArray, List.set_cons_zero, List.set_cons_succ])
                    refine wpAnyH_take (i := 24) (oi := { dst := some 82, op := Go.Op.fieldAddr 36 (Go.Operand.tmp 81) 2, type := 0, pos := "ref.go:46", after := #[{ on := 23, ground := Go.Ground.data }, { on := 9, ground := Go.Ground.guard }], guard := some (9, false) }) (v := undef) rfl (by kernel_rfl) (by kernel_rfl) (by kernel_rfl) (fun _ _ _ h => h) (Or.inr ⟨by rfl, rfl⟩) (by assumption) ?_
                    (try simp only [Act.put, List.setIfInBounds_toArray, List.set_cons_zero, List.set_cons_succ])
                    refine wpAnyH_take (i := 25) (oi := { dst := some 83, op := Go.Op.load 34 (Go.Operand.tmp 82), type := 34, pos := "ref.go:46", after := #[{ on := 24, ground := Go.Ground.data }, { on := 9, ground := Go.Ground.guard }], guard := some (9, false) }) (v := undef) rfl (by kernel_rfl) (by kernel_rfl) (by kernel_rfl) (fun _ _ _ h => h) (Or.inr ⟨by rfl, rfl⟩) (by assumption) ?_
                    (try simp only [Act.put, List.setIfInBounds_toArray, List.set_cons_zero, List.set_cons_succ])
                    refine wpAnyH_take (i := 26) (oi := { dst := some 84, op := Go.Op.call { callee := Go.Callee.builtin Go.Builtin.len, args := #[Go.Operand.tmp 83], argTypes := #[34] }, type := 3, pos := "ref.go:46", after := #[{ on := 25, ground := Go.Ground.data }, { on := 9, ground := Go.Ground.guard }], guard := some (9, false) }) (v := undef) rfl (by kernel_rfl) (by kernel_rfl) (by kernel_rfl) (fun _ _ _ h => h) (Or.inr ⟨by rfl, rfl⟩) (by assumption) ?_
                    (try simp only [Act.put, List.setIfInBounds_toArray, List.set_cons_zero, List.set_cons_succ])
                    refine wpAnyH_take (i := 27) (oi := { dst := some 85, op := Go.Op.call { callee := Go.Callee.value (Go.Operand.func 15), args := #[Go.Operand.tmp 72, Go.Operand.tmp 77, Go.Operand.tmp 84], argTypes := #[36, 9, 3] }, type := 4, pos := "ref.go:46", after := #[{ on := 14, ground := Go.Ground.data }, { on := 19, ground := Go.Ground.data }, { on := 26, ground := Go.Ground.data }, { on := 9, ground := Go.Ground.chain }, { on := 9, ground := Go.Ground.guard }], guard := some (9, false) }) (v := undef) rfl (by kernel_rfl) (by kernel_rfl) (by kernel_rfl) (fun _ _ _ h => h) (Or.inr ⟨by rfl, rfl⟩) (by assumption) ?_
                    (try simp only [Act.put, List.setIfInBounds_toArray, List.set_cons_zero, List.set_cons_succ])
                    refine wpAnyH_take (i := 28) (oi := { dst := some 86, op := Go.Op.unOp Go.UnOp.not 4 (Go.Operand.tmp 85), type := 4, pos := "ref.go:46", after := #[{ on := 27, ground := Go.Ground.data }, { on := 9, ground := Go.Ground.guard }], guard := some (9, false) }) (v := undef) rfl (by kernel_rfl) (by kernel_rfl) (by kernel_rfl) (fun _ _ _ h => h) (Or.inr ⟨by rfl, rfl⟩) (by assumption) ?_
                    (try simp only [Act.put, List.setIfInBounds_toArray, List.set_cons_zero, List.set_cons_succ])
                    refine wpAnyH_take (i := 29) (oi := { dst := some 87, op := Go.Op.pick (Go.Operand.tmp 67) (Go.Operand.const (Go.Value.bool true)) (Go.Operand.tmp 86), type := 4, pos := "ref.go:46", after := #[{ on := 9, ground := Go.Ground.data }, { on := 28, ground := Go.Ground.data }, { on := 1, ground := Go.Ground.guard }], guard := some (1, true) }) (v := ?_) rfl (by kernel_rfl) (by kernel_rfl) (by kernel_rfl) (fun _ _ _ h => h) (Or.inl ⟨by rfl, ?_⟩) (by assumption) ?_
                    (rotate_left; focus (intro wS hSw; have s3 := (HMF.out wS hSw.1).1; clear hSw; go_simp; (try rw [if_neg (by omega)]); try with_reducible rfl))
                    (try simp only [Act.put, List.setIfInBounds_toArray, List.set_cons_zero, List.set_cons_succ])
                    refine wpAnyH_take (i := 30) (oi := { dst := some 88, op := Go.Op.pick (Go.Operand.tmp 59) (Go.Operand.tmp 87) (Go.Operand.const (Go.Value.bool false)), type := 4, pos := "ref.go:46", after := #[{ on := 1, ground := Go.Ground.data }, { on := 29, ground := Go.Ground.data }], guard := none }) (v := ?_) rfl (by kernel_rfl) (by kernel_rfl) (by kernel_rfl) (fun _ _ _ h => h) (Or.inl ⟨by rfl, ?_⟩) (by assumption) ?_
                    (rotate_left; focus (intro wS hSw; have s3 := (HMF.out wS hSw.1).1; clear hSw; go_simp; (try rw [if_neg (by omega)]); try with_reducible rfl))
                    (try simp only [Act.put, List.setIfInBounds_toArray, List.set_cons_zero, List.set_cons_succ])
                    refine wpAnyH_take (i := 31) (oi := { dst := some 10, op := Go.Op.assign (Go.Operand.tmp 88), type := 4, pos := "ref.go:46", after := #[{ on := 30, ground := Go.Ground.data }, { on := 27, ground := Go.Ground.chain }, { on := 0, ground := Go.Ground.phase }, { on := 1, ground := Go.Ground.phase }, { on := 2, ground := Go.Ground.phase }, { on := 3, ground := Go.Ground.phase }, { on := 4, ground := Go.Ground.phase }, { on := 5, ground := Go.Ground.phase }, { on := 6, ground := Go.Ground.phase }, { on := 7, ground := Go.Ground.phase }, { on := 8, ground := Go.Ground.phase }, { on := 9, ground := Go.Ground.phase }, { on := 10, ground := Go.Ground.phase }, { on := 11, ground := Go.Ground.phase }, { on := 12, ground := Go.Ground.phase }, { on := 13, ground := Go.Ground.phase }, { on := 14, ground := Go.Ground.phase }, { on := 15, ground := Go.Ground.phase }, { on := 16, ground := Go.Ground.phase }, { on := 17, ground := Go.Ground.phase }, { on := 18, ground := Go.Ground.phase }, { on := 19, ground := Go.Ground.phase }, { on := 20, ground := Go.Ground.phase }, { on := 21, ground := Go.Ground.phase }, { on := 22, ground := Go.Ground.phase }, { on := 23, ground := Go.Ground.phase }, { on := 24, ground := Go.Ground.phase }, { on := 25, ground := Go.Ground.phase }, { on := 26, ground := Go.Ground.phase }, { on := 27, ground := Go.Ground.phase }, { on := 28, ground := Go.Ground.phase }, { on := 29, ground := Go.Ground.phase }, { on := 30, ground := Go.Ground.phase }], guard := none }) (v := ?_) rfl (by kernel_rfl) (by kernel_rfl) (by kernel_rfl) (fun _ _ _ h => h) (Or.inl ⟨by rfl, ?_⟩) (by assumption) ?_
                    (rotate_left; focus (intro wS hSw; have s3 := (HMF.out wS hSw.1).1; clear hSw; go_simp; (try rw [if_neg (by omega)]); try with_reducible rfl))
                    (try simp only [Act.put, List.setIfInBounds_toArray, List.set_cons_zero, List.set_cons_succ])
                    refine wpAnyH_done (by kernel_rfl) ?_ _
                    go_wp2
                    go_roundw
                    case rel => exact ⟨q + 1, by go_num, by omega, by rw [HSQ3.out], HP0.out.1, HP0.out.2⟩
                    case measure => simp [intOf]; omega
                  · as_aux_lemma =>
                    have e3 := str_ne hqn
                    have HSQ3 : Hid (owq (ents l) nm i k (q + 1) s = !H) := Lib.hid (by rw [HSQ2.out, decide_eq_false hqn]; rfl)
                    clear hqn
                    go_wp2_with fail
                    refine wp_region_held_drew (S := fun w' => Below w.heap.size w w' ∧ Bk X [.int .i64 e.size, .int .i64 e.chunk, .slice (some ⟨b3, o3, none⟩) m ec] w') (by kernel_rfl) (by (first | exact hP1 | exact hP0)) (fun hHeld => ?_)
                    refine wpAnyH_take (i := 0) (oi := { dst := some 58, op := Go.Op.move (Go.Operand.tmp 10), type := 4, pos := "ref.go:46", after := #[], guard := none }) (v := ?_) rfl (by kernel_rfl) (by kernel_rfl) (by kernel_rfl) (fun _ _ _ h => h) (Or.inl ⟨by rfl, ?_⟩) (by assumption) ?_
                    (rotate_left; focus (intro wS hSw; have s2 := (hSw.2.2 2 _ rfl).1; have s3 := HID.out wS hSw.1; have s4 := (HMF.out wS hSw.1).1; have s5 := (HMF.out wS hSw.1).2.1; have s6 := (HMF.out wS hSw.1).2.2.1; have s7 := (HMF.out wS hSw.1).2.2.2; clear hSw; go_simp; (try rw [if_neg (by omega)]); try with_reducible rfl))
                    (try simp only [Act.put, List.setIfInBounds_toArray, List.set_cons_zero, List.set_cons_succ])
                    refine wpAnyH_take (i := 1) (oi := { dst := some 59, op := Go.Op.move (Go.Operand.tmp 58), type := 4, pos := "ref.go:46", after := #[{ on := 0, ground := Go.Ground.data }], guard := none }) (v := ?_) rfl (by kernel_rfl) (by kernel_rfl) (by kernel_rfl) (fun _ _ _ h => h) (Or.inl ⟨by rfl, ?_⟩) (by assumption) ?_
                    (rotate_left; focus (intro wS hSw; have s2 := (hSw.2.2 2 _ rfl).1; have s3 := HID.out wS hSw.1; have s4 := (HMF.out wS hSw.1).1; have s5 := (HMF.out wS hSw.1).2.1; have s6 := (HMF.out wS hSw.1).2.2.1; have s7 := (HMF.out wS hSw.1).2.2.2; clear hSw; go_simp; (try rw [if_neg (by omega)]); try with_reducible rfl))
                    (try simp only [Act.put, List.setIfInBounds_toArray, List.set_cons_zero, List.set_cons_succ])
                    refine wpAnyH_take (i := 2) (oi := { dst := some 60, op := Go.Op.move (Go.Operand.tmp 0), type := 22, pos := "ref.go:46", after := #[{ on := 1, ground := Go.Ground.guard }], guard := some (1, true) }) (v := ?_) rfl (by kernel_rfl) (by kernel_rfl) (by kernel_rfl) (fun _ _ _ h => h) (Or.inl ⟨by rfl, ?_⟩) (by assumption) ?_
                    (rotate_left; focus (intro wS hSw; have s2 := (hSw.2.2 2 _ rfl).1; have s3 := HID.out wS hSw.1; have s4 := (HMF.out wS hSw.1).1; have s5 := (HMF.out wS hSw.1).2.1; have s6 := (HMF.out wS hSw.1).2.2.1; have s7 := (HMF.out wS hSw.1).2.2.2; clear hSw; go_simp; (try rw [if_neg (by omega)]); try with_reducible rfl))
                    (try simp only [Act.put, List.setIfInBounds_toArray, List.set_cons_zero, List.set_cons_succ])
                    refine wpAnyH_take (i := 3) (oi := { dst := some 61, op := Go.Op.move (Go.Operand.tmp 11), type := 3, pos := "ref.go:46", after := #[{ on := 1, ground := Go.Ground.guard }], guard := some (1, true) }) (v := ?_) rfl (by kernel_rfl) (by kernel_rfl) (by kernel_rfl) (fun _ _ _ h => h) (Or.inl ⟨by rfl, ?_⟩) (by assumption) ?_
                    (rotate_left; focus (intro wS hSw; have s2 := (hSw.2.2 2 _ rfl).1; have s3 := HID.out wS hSw.1; have s4 := (HMF.out wS hSw.1).1; have s5 := (HMF.out wS hSw.1).2.1; have s6 := (HMF.out wS hSw.1).2.2.1; have s7 := (HMF.out wS hSw.1).2.2.2; clear hSw; go_simp; (try rw [if_neg (by omega)]); try with_reducible rfl))
                    (try simp only [Act.put, List.setIfInBounds_toArray, List.set_cons_zero, List.set_cons_succ])
                    refine wpAnyH_take (i := 4) (oi := { dst := some 62, op := Go.Op.indexAddr 22 (Go.Operand.tmp 60) (Go.Operand.tmp 61), type := 0, pos := "ref.go:46", after := #[{ on := 2, ground := Go.Ground.data }, { on := 3, ground := Go.Ground.data }, { on := 1, ground := Go.Ground.guard }], guard := some (1, true) }) (v := ?_) rfl (by kernel_rfl) (by kernel_rfl) (by kernel_rfl) (fun _ _ _ h => h) (Or.inl ⟨by rfl, ?_⟩) (by assumption) ?_
                    (rotate_left; focus (intro wS hSw; have s2 := (hSw.2.2 2 _ rfl).1; have s3 := HID.out wS hSw.1; have s4 := (HMF.out wS hSw.1).1; have s5 := (HMF.out wS hSw.1).2.1; have s6 := (HMF.out wS hSw.1).2.2.1; have s7 := (HMF.out wS hSw.1).2.2.2; clear hSw; go_simp; (try rw [if_neg (by omega)]); try with_reducible rfl))
                    (try simp only [Act.put, List.setIfInBounds_toArray, List.set_cons_zero, List.set_cons_succ])
                    refine wpAnyH_take (i := 5) (oi := { dst := some 63, op := Go.Op.fieldAddr 40 (Go.Operand.tmp 62) 0, type := 0, pos := "ref.go:46", after := #[{ on := 4, ground := Go.Ground.data }, { on := 1, ground := Go.Ground.guard }], guard := some (1, true) }) (v := ?_) rfl (by kernel_rfl) (by kernel_rfl) (by kernel_rfl) (fun _ _ _ h => h) (Or.inl ⟨by rfl, ?_⟩) (by assumption) ?_
                    (rotate_left; focus (intro wS hSw; have s2 := (hSw.2.2 2 _ rfl).1; have s3 := HID.out wS hSw.1; have s4 := (HMF.out wS hSw.1).1; have s5 := (HMF.out wS hSw.1).2.1; have s6 := (HMF.out wS hSw.1).2.2.1; have s7 := (HMF.out wS hSw.1).2.2.2; clear hSw; go_simp; (try rw [if_neg (by omega)]); try with_reducible rfl))
                    (try simp only [Act.put, List.setIfInBounds_toArray, List.set_cons_zero, List.set_cons_succ])
                    refine wpAnyH_take (i := 6) (oi := { dst := some 64, op := Go.Op.load 9 (Go.Operand.tmp 63), type := 9, pos := "ref.go:46", after := #[{ on := 5, ground := Go.Ground.data }, { on := 1, ground := Go.Ground.guard }], guard := some (1, true) }) (v := ?_) rfl (by kernel_rfl) (by kernel_rfl) (by kernel_rfl) (fun _ _ _ h => h) (Or.inl ⟨by rfl, ?_⟩) (by assumption) ?_
                    (rotate_left; focus (intro wS hSw; have s2 := (hSw.2.2 2 _ rfl).1; have s3 := HID.out wS hSw.1; have s4 := (HMF.out wS hSw.1).1; have s5 := (HMF.out wS hSw.1).2.1; have s6 := (HMF.out wS hSw.1).2.2.1; have s7 := (HMF.out wS hSw.1).2.2.2; clear hSw; go_simp; (try rw [if_neg (by omega)]); try with_reducible rfl))
                    (try simp only [Act.put, List.setIfInBounds_toArray, List.set_cons_zero, List.set_cons_succ])
                    refine wpAnyH_take (i := 7) (oi := { dst := some 65, op := Go.Op.move (Go.Operand.tmp 1), type := 9, pos := "ref.go:46", after := #[{ on := 1, ground := Go.Ground.guard }], guard := some (1, true) }) (v := ?_) rfl (by kernel_rfl) (by kernel_rfl) (by kernel_rfl) (fun _ _ _ h => h) (Or.inl ⟨by rfl, ?_⟩) (by assumption) ?_
                    (rotate_left; focus (intro wS hSw; have s2 := (hSw.2.2 2 _ rfl).1; have s3 := HID.out wS hSw.1; have s4 := (HMF.out wS hSw.1).1; have s5 := (HMF.out wS hSw.1).2.1; have s6 := (HMF.out wS hSw.1).2.2.1; have s7 := (HMF.out wS hSw.1).2.2.2; clear hSw; go_simp; (try rw [if_neg (by omega)]); try with_reducible rfl))
                    (try simp only [Act.put, List.setIfInBounds_toArray, List.set_cons_zero, List.set_cons_succ])
                    refine wpAnyH_take (i := 8) (oi := { dst := some 66, op := Go.Op.binOp Go.BinOp.eql 9 (Go.Operand.tmp 64) (Go.Operand.tmp 65) 9, type := 4, pos := "ref.go:46", after := #[{ on := 6, ground := Go.Ground.data }, { on := 7, ground := Go.Ground.data }, { on := 1, ground := Go.Ground.guard }], guard := some (1, true) }) (v := ?_) rfl (by kernel_rfl) (by kernel_rfl) (by kernel_rfl) (fun _ _ _ h => h) (Or.inl ⟨by rfl, ?_⟩) (by assumption) ?_
                    (rotate_left; focus (intro wS hSw; have s2 := (hSw.2.2 2 _ rfl).1; have s3 := HID.out wS hSw.1; have s4 := (HMF.out wS hSw.1).1; have s5 := (HMF.out wS hSw.1).2.1; have s6 := (HMF.out wS hSw.1).2.2.1; have s7 := (HMF.out wS hSw.1).2.2.2; clear hSw; go_simp; (try rw [if_neg (by omega)]); try with_reducible rfl))
                    (try simp only [Act.put, List.setIfInBounds_toArray, List.set_cons_zero, List.set_cons_succ])
                    refine wpAnyH_take (i := 9) (oi := { dst := some 67, op := Go.Op.move (Go.Operand.tmp 66), type := 4, pos := "ref.go:46", after := #[{ on := 8, ground := Go.Ground.data }, { on := 1, ground := Go.Ground.chain }, { on := 1, ground := Go.Ground.guard }], guard := some (1, true) }) (v := ?_) rfl (by kernel_rfl) (by kernel_rfl) (by kernel_rfl) (fun _ _ _ h => h) (Or.inl ⟨by rfl, ?_⟩) (by assumption) ?_
                    (rotate_left; focus (intro wS hSw; have s2 := (hSw.2.2 2 _ rfl).1; have s3 := HID.out wS hSw.1; have s4 := (HMF.out wS hSw.1).1; have s5 := (HMF.out wS hSw.1).2.1; have s6 := (HMF.out wS hSw.1).2.2.1; have s7 := (HMF.out wS hSw.1).2.2.2; clear hSw; go_simp; (try rw [if_neg (by omega)]); try with_reducible rfl))
                    (try simp only [Act.put, List.setIfInBounds_toArray, List.set_cons_zero, List.set_cons_succ])
                    refine wpAnyH_take (i := 10) (oi := { dst := some 68, op := Go.Op.move (Go.Operand.tmp 0), type := 22, pos := "ref.go:46", after := #[{ on := 9, ground := Go.Ground.guard }], guard := some (9, false) }) (v := ?_) rfl (by kernel_rfl) (by kernel_rfl) (by kernel_rfl) (fun _ _ _ h => h) (Or.inl ⟨by rfl, ?_⟩) (by assumption) ?_
                    (rotate_left; focus (intro wS hSw; have s2 := (hSw.2.2 2 _ rfl).1; have s3 := HID.out wS hSw.1; have s4 := (HMF.out wS hSw.1).1; have s5 := (HMF.out wS hSw.1).2.1; have s6 := (HMF.out wS hSw.1).2.2.1; have s7 := (HMF.out wS hSw.1).2.2.2; clear hSw; go_simp; (try rw [if_neg (by omega)]); try with_reducible rfl))
                    (try simp only [Act.put, List.setIfInBounds_toArray, List.set_cons_zero, List.set_cons_succ])
                    refine wpAnyH_take (i := 11) (oi := { dst := some 69, op := Go.Op.move (Go.Operand.tmp 11), type := 3, pos := "ref.go:46", after := #[{ on := 9, ground := Go.Ground.guard }], guard := some (9, false) }) (v := ?_) rfl (by kernel_rfl) (by kernel_rfl) (by kernel_rfl) (fun _ _ _ h => h) (Or.inl ⟨by rfl, ?_⟩) (by assumption) ?_
                    (rotate_left; focus (intro wS hSw; have s2 := (hSw.2.2 2 _ rfl).1; have s3 := HID.out wS hSw.1; have s4 := (HMF.out wS hSw.1).1; have s5 := (HMF.out wS hSw.1).2.1; have s6 := (HMF.out wS hSw.1).2.2.1; have s7 := (HMF.out wS hSw.1).2.2.2; clear hSw; go_simp; (try rw [if_neg (by omega)]); try with_reducible rfl))
                    (try simp only [Act.put, List.setIfInBounds_toArray, List.set_cons_zero, List.set_cons_succ])
                    refine wpAnyH_take (i := 12) (oi := { dst := some 70, op := Go.Op.indexAddr 22 (Go.Operand.tmp 68) (Go.Operand.tmp 69), type := 0, pos := "ref.go:46", after := #[{ on := 10, ground := Go.Ground.data }, { on := 11, ground := Go.Ground.data }, { on := 9, ground := Go.Ground.guard }], guard := some (9, false) }) (v := ?_) rfl (by kernel_rfl) (by kernel_rfl) (by kernel_rfl) (fun _ _ _ h => h) (Or.inl ⟨by rfl, ?_⟩) (by assumption) ?_
                    (rotate_left; focus (intro wS hSw; have s2 := (hSw.2.2 2 _ rfl).1; have s3 := HID.out wS hSw.1; have s4 := (HMF.out wS hSw.1).1; have s5 := (HMF.out wS hSw.1).2.1; have s6 := (HMF.out wS hSw.1).2.2.1; have s7 := (HMF.out wS hSw.1).2.2.2; clear hSw; go_simp; (try rw [if_neg (by omega)]); try with_reducible rfl))
                    (try simp only [Act.put, List.setIfInBounds_toArray, List.set_cons_zero, List.set_cons_succ])
                    refine wpAnyH_take (i := 13) (oi := { dst := some 71, op := Go.Op.fieldAddr 40 (Go.Operand.tmp 70) 1, type := 0, pos := "ref.go:46", after := #[{ on := 12, ground := Go.Ground.data }, { on := 9, ground := Go.Ground.guard }], guard := some (9, false) }) (v := ?_) rfl (by kernel_rfl) (by kernel_rfl) (by kernel_rfl) (fun _ _ _ h => h) (Or.inl ⟨by rfl, ?_⟩) (by assumption) ?_
                    (rotate_left; focus (intro wS hSw; have s2 := (hSw.2.2 2 _ rfl).1; have s3 := HID.out wS hSw.1; have s4 := (HMF.out wS hSw.1).1; have s5 := (HMF.out wS hSw.1).2.1; have s6 := (HMF.out wS hSw.1).2.2.1; have s7 := (HMF.out wS hSw.1).2.2.2; clear hSw; go_simp; (try rw [if_neg (by omega)]); try with_reducible rfl))
                    (try simp only [Act.put, List.setIfInBounds_toArray, List.set_cons_zero, List.set_cons_succ])
                    refine wpAnyH_take (i := 14) (oi := { dst := some 72, op := Go.Op.load 36 (Go.Operand.tmp 71), type := 36, pos := "ref.go:46", after := #[{ on := 13, ground := Go.Ground.data }, { on := 9, ground := Go.Ground.guard }], guard := some (9, false) }) (v := ?_) rfl (by kernel_rfl) (by kernel_rfl) (by kernel_rfl) (fun _ _ _ h => h) (Or.inl ⟨by rfl, ?_⟩) (by assumption) ?_
                    (rotate_left; focus (intro wS hSw; have s2 := (hSw.2.2 2 _ rfl).1; have s3 := HID.out wS hSw.1; have s4 := (HMF.out wS hSw.1).1; have s5 := (HMF.out wS hSw.1).2.1; have s6 := (HMF.out wS hSw.1).2.2.1; have s7 := (HMF.out wS hSw.1).2.2.2; clear hSw; go_simp; (try rw [if_neg (by omega)]); try with_reducible rfl))
                    (try simp only [Act.put, List.setIfInBounds_toArray, List.set_cons_zero, List.set_cons_succ])
                    refine wpAnyH_take (i := 15) (oi := { dst := some 73, op := Go.Op.fieldAddr 36 (Go.Operand.tmp 7) 2, type := 0, pos := "ref.go:46", after := #[{ on := 9, ground := Go.Ground.guard }], guard := some (9, false) }) (v := ?_) rfl (by kernel_rfl) (by kernel_rfl) (by kernel_rfl) (fun _ _ _ h => h) (Or.inl ⟨by rfl, ?_⟩) (by assumption) ?_
                    (rotate_left; focus (intro wS hSw; have s2 := (hSw.2.2 2 _ rfl).1; have s3 := HID.out wS hSw.1; have s4 := (HMF.out wS hSw.1).1; have s5 := (HMF.out wS hSw.1).2.1; have s6 := (HMF.out wS hSw.1).2.2.1; have s7 := (HMF.out wS hSw.1).2.2.2; clear hSw; go_simp; (try rw [if_neg (by omega)]); try with_reducible rfl))
                    (try simp only [Act.put, List.setIfInBounds_toArray, List.set_cons_zero, List.set_cons_succ])
                    refine wpAnyH_take (i := 16) (oi := { dst := some 74, op := Go.Op.load 34 (Go.Operand.tmp 73), type := 34, pos := "ref.go:46", after := #[{ on := 15, ground := Go.Ground.data }, { on := 9, ground := Go.Ground.guard }], guard := some (9, false) }) (v := ?_) rfl (by kernel_rfl) (by kernel_rfl) (by kernel_rfl) (fun _ _ _ h => h) (Or.inl ⟨by rfl, ?_⟩) (by assumption) ?_
                    (rotate_left; focus (intro wS hSw; have s2 := (hSw.2.2 2 _ rfl).1; have s3 := HID.out wS hSw.1; have s4 := (HMF.out wS hSw.1).1; have s5 := (HMF.out wS hSw.1).2.1; have s6 := (HMF.out wS hSw.1).2.2.1; have s7 := (HMF.out wS hSw.1).2.2.2; clear hSw; go_simp; (try rw [if_neg (by omega)]); try with_reducible rfl))
                    (try simp only [Act.put, List.setIfInBounds_toArray, List.set_cons_zero, List.set_cons_succ])
                    refine wpAnyH_take (i := 17) (oi := { dst := some 75, op := Go.Op.move (Go.Operand.tmp 9), type := 3, pos := "ref.go:46", after := #[{ on := 9, ground := Go.Ground.guard }], guard := some (9, false) }) (v := ?_) rfl (by kernel_rfl) (by kernel_rfl) (by kernel_rfl) (fun _ _ _ h => h) (Or.inl ⟨by rfl, ?_⟩) (by assumption) ?_
                    (rotate_left; focus (intro wS hSw; have s2 := (hSw.2.2 2 _ rfl).1; have s3 := HID.out wS hSw.1; have s4 := (HMF.out wS hSw.1).1; have s5 := (HMF.out wS hSw.1).2.1; have s6 := (HMF.out wS hSw.1).2.2.1; have s7 := (HMF.out wS hSw.1).2.2.2; clear hSw; go_simp; (try rw [if_neg (by omega)]); try with_reducible rfl))
                    (try simp only [Act.put, List.setIfInBounds_toArray, List.set_cons_zero, List.set_cons_succ])
                    refine wpAnyH_take (i := 18) (oi := { dst := some 76, op := Go.Op.indexAddr 34 (Go.Operand.tmp 74) (Go.Operand.tmp 75), type := 0, pos := "ref.go:46", after := #[{ on := 16, ground := Go.Ground.data }, { on := 17, ground := Go.Ground.data }, { on := 9, ground := Go.Ground.guard }], guard := some (9, false) }) (v := ?_) rfl (by kernel_rfl) (by kernel_rfl) (by kernel_rfl) (fun _ _ _ h => h) (Or.inl ⟨by rfl, ?_⟩) (by assumption) ?_
                    (rotate_left; focus (intro wS hSw; have s2 := (hSw.2.2 2 _ rfl).1; have s3 := HID.out wS hSw.1; have s4 := (HMF.out wS hSw.1).1; have s5 := (HMF.out wS hSw.1).2.1; have s6 := (HMF.out wS hSw.1).2.2.1; have s7 := (HMF.out wS hSw.1).2.2.2; clear hSw; go_simp; (try rw [if_neg (by omega)]); try with_reducible rfl))
                    (try simp only [Act.put, List.setIfInBounds_toArray, List.set_cons_zero, List.set_cons_succ])
                    refine wpAnyH_take (i := 19) (oi := { dst := some 77, op := Go.Op.load 9 (Go.Operand.tmp 76), type := 9, pos := "ref.go:46", after := #[{ on := 18, ground := Go.Ground.data }, { on := 9, ground := Go.Ground.guard }], guard := some (9, false) }) (v := ?_) rfl (by kernel_rfl) (by kernel_rfl) (by kernel_rfl) (fun _ _ _ h => h) (Or.inl ⟨by rfl, ?_⟩) (by assumption) ?_
                    (rotate_left; focus (intro wS hSw; have s2 := (hSw.2.2 2 _ rfl).1; have s3 := HID.out wS hSw.1; have s4 := (HMF.out wS hSw.1).1; have s5 := (HMF.out wS hSw.1).2.1; have s6 := (HMF.out wS hSw.1).2.2.1; have s7 := (HMF.out wS hSw.1).2.2.2; clear hSw; go_simp; (try rw [if_neg (by omega)]); try with_reducible rfl))
                    (try simp only [Act.put, List.setIfInBounds_toArray, List.set_cons_zero, List.set_cons_succ])
                    refine wpAnyH_take (i := 20) (oi := { dst := some 78, op := Go.Op.move (Go.Operand.tmp 0), type := 22, pos := "ref.go:46", after := #[{ on := 9, ground := Go.Ground.guard }], guard := some (9, false) }) (v := ?_) rfl (by kernel_rfl) (by kernel_rfl) (by kernel_rfl) (fun _ _ _ h => h) (Or.inl ⟨by rfl, ?_⟩) (by assumption) ?_
                    (rotate_left; focus (intro wS hSw; have s2 := (hSw.2.2 2 _ rfl).1; have s3 := HID.out wS hSw.1; have s4 := (HMF.out wS hSw.1).1; have s5 := (HMF.out wS hSw.1).2.1; have s6 := (HMF.out wS hSw.1).2.2.1; have s7 := (HMF.out wS hSw.1).2.2.2; clear hSw; go_simp; (try rw [if_neg (by omega)]); try with_reducible rfl))
                    (try simp only [Act.put, List.setIfInBounds_toArray, List.set_cons_zero, List.set_cons_succ])
                    refine wpAnyH_take (i := 21) (oi := { dst := some 79, op := Go.Op.move (Go.Operand.tmp 11), type := 3, pos := "ref.go:46", after := #[{ on := 9, ground := Go.Ground.guard }], guard := some (9, false) }) (v := ?_) rfl (by kernel_rfl) (by kernel_rfl) (by kernel_rfl) (fun _ _ _ h => h) (Or.inl ⟨by rfl, ?_⟩) (by assumption) ?_
                    (rotate_left; focus (intro wS hSw; have s2 := (hSw.2.2 2 _ rfl).1; have s3 := HID.out wS hSw.1; have s4 := (HMF.out wS hSw.1).1; have s5 := (HMF.out wS hSw.1).2.1; have s6 := (HMF.out wS hSw.1).2.2.1; have s7 := (HMF.out wS hSw.1).2.2.2; clear hSw; go_simp; (try rw [if_neg (by omega)]); try with_reducible rfl))
                    (try simp only [Act.put, List.setIfInBounds_toArray, List.set_cons_zero, List.set_cons_succ])
                    refine wpAnyH_take (i := 22) (oi := { dst := some 80, op := Go.Op.indexAddr 22 (Go.Operand.tmp 78) (Go.Operand.tmp 79), type := 0, pos := "ref.go:46", after := #[{ on := 20, ground := Go.Ground.data }, { on := 21, ground := Go.Ground.data }, { on := 9, ground := Go.Ground.guard }], guard := some (9, false) }) (v := ?_) rfl (by kernel_rfl) (by kernel_rfl) (by kernel_rfl) (fun _ _ _ h => h) (Or.inl ⟨by rfl, ?_⟩) (by assumption) ?_
                    (rotate_left; focus (intro wS hSw; have s2 := (hSw.2.2 2 _ rfl).1; have s3 := HID.out wS hSw.1; have s4 := (HMF.out wS hSw.1).1; have s5 := (HMF.out wS hSw.1).2.1; have s6 := (HMF.out wS hSw.1).2.2.1; have s7 := (HMF.out wS hSw.1).2.2.2; clear hSw; go_simp; (try rw [if_neg (by omega)]); try with_reducible rfl))
                    (try simp only [Act.put, List.setIfInBounds_toArray, List.set_cons_zero, List.set_cons_succ])
                    refine wpAnyH_take (i := 23) (oi := { dst := some 81, op := Go.Op.fieldAddr 40 (Go.Operand.tmp 80) 1, type := 0, pos := "ref.go:46", after := #[{ on := 22, ground := Go.Ground.data }, { on := 9, ground := Go.Ground.guard }], guard := some (9, false) }) (v := ?_) rfl (by kernel_rfl) (by kernel_rfl) (by kernel_rfl) (fun _ _ _ h => h) (Or.inl ⟨by rfl, ?_⟩) (by assumption) ?_
                    (rotate_left; focus (intro wS hSw; have s2 := (hSw.2.2 2 _ rfl).1; have s3 := HID.out wS hSw.1; have s4 := (HMF.out wS hSw.1).1; have s5 := (HMF.out wS hSw.1).2.1; have s6 := (HMF.out wS hSw.1).2.2.1; have s7 := (HMF.out wS hSw.1).2.2.2; clear hSw; go_simp; (try rw [if_neg (by omega)]); try with_reducible rfl))
                    (try simp only [Act.put, List.setIfInBounds_toArray, List.set_cons_zero, List.set_cons_succ])
                    refine wpAnyH_take (i := 24) (oi := { dst := some 82, op := Go.Op.fieldAddr 36 (Go.Operand.tmp 81) 2, type := 0, pos := "ref.go:46", after := #[{ on := 23, ground := Go.Ground.data }, { on := 9, ground := Go.Ground.guard }], guard := some (9, false) }) (v := ?_) rfl (by kernel_rfl) (by kernel_rfl) (by kernel_rfl) (fun _ _ _ h => h) (Or.inl ⟨by rfl, ?_⟩) (by assumption) ?_
                    (rotate_left; focus (intro wS hSw; have s2 := (hSw.2.2 2 _ rfl).1; have s3 := HID.out wS hSw.1; have s4 := (HMF.out wS hSw.1).1; have s5 := (HMF.out wS hSw.1).2.1; have s6 := (HMF.out wS hSw.1).2.2.1; have s7 := (HMF.out wS hSw.1).2.2.2; clear hSw; go_simp; (try rw [if_neg (by omega)]); try with_reducible rfl))
                    (try simp only [Act.put, List.setIfInBounds_toArray, List.set_cons_zero, List.set_cons_succ])
                    refine wpAnyH_take (i := 25) (oi := { dst := some 83, op := Go.Op.load 34 (Go.Operand.tmp 82), type := 34, pos := "ref.go:46", after := #[{ on := 24, ground := Go.Ground.data }, { on := 9, ground := Go.Ground.guard }], guard := some (9, false) }) (v := ?_) rfl (by kernel_rfl) (by kernel_rfl) (by kernel_rfl) (fun _ _ _ h => h) (Or.inl ⟨by rfl, ?_⟩) (by assumption) ?_
                    (rotate_left; focus (intro wS hSw; have s2 := (hSw.2.2 2 _ rfl).1; have s3 := HID.out wS hSw.1; have s4 := (HMF.out wS hSw.1).1; have s5 := (HMF.out wS hSw.1).2.1; have s6 := (HMF.out wS hSw.1).2.2.1; have s7 := (HMF.out wS hSw.1).2.2.2; clear hSw; go_simp; (try rw [if_neg (by omega)]); try with_reducible rfl))
                    (try simp only [Act.put, List.setIfInBounds_toArray, List.set_cons_zero, List.set_cons_succ])
                    refine wpAnyH_take (i := 26) (oi := { dst := some 84, op := Go.Op.call { callee := Go.Callee.builtin Go.Builtin.len, args := #[Go.Operand.tmp 83], argTypes := #[34] }, type := 3, pos := "ref.go:46", after := #[{ on := 25, ground := Go.Ground.data }, { on := 9, ground := Go.Ground.guard }], guard := some (9, false) }) (v := ?_) rfl (by kernel_rfl) (by kernel_rfl) (by kernel_rfl) (fun _ _ _ h => h) (Or.inl ⟨by rfl, ?_⟩) (by assumption) ?_
                    (rotate_left; focus (intro wS hSw; have s2 := (hSw.2.2 2 _ rfl).1; have s3 := HID.out wS hSw.1; have s4 := (HMF.out wS hSw.1).1; have s5 := (HMF.out wS hSw.1).2.1; have s6 := (HMF.out wS hSw.1).2.2.1; have s7 := (HMF.out wS hSw.1).2.2.2; clear hSw; go_simp; (try rw [if_neg (by omega)]); try with_reducible rfl))
                    (try simp only [Act.put, List.setIfInBounds_toArray, List.set_cons_zero, List.set_cons_succ])
                    refine wpAnyH_ready (rs := [27]) (by kernel_rfl) (by simp) ?_
                    refine AllReadyH.cons (o := { dst := some 85, op := Go.Op.call { callee := Go.Callee.value (Go.Operand.func 15), args := #[Go.Operand.tmp 72, Go.Operand.tmp 77, Go.Operand.tmp 84], argTypes := #[36, 9, 3] }, type := 4, pos := "ref.go:46", after := #[{ on := 14, ground := Go.Ground.data }, { on := 19, ground := Go.Ground.data }, { on := 26, ground := Go.Ground.data }, { on := 9, ground := Go.Ground.chain }, { on := 9, ground := Go.Ground.guard }], guard := some (9, false) }) rfl (fun K hK => ?_) AllReadyH.nil
                    go_simp
                    refine (T4.out _ hHeld.1).mono ?_
                    rintro r w5 ⟨rfl, hb5'⟩
                    have hP1 : Below w.heap.size w w5 ∧ Bk X [.int .i64 e.size, .int .i64 e.chunk, .slice (some ⟨b3, o3, none⟩) m ec] w5 := ⟨below_step hHeld.1 (Nat.le_refl _) hb5', hHeld.2.keep hb5'⟩
                    clear hb5'
                    (try go_wp2_with fail)
                    refine hK.out _ _ (by (first | exact hP1 | exact hP0)) (fun hHeld => ?_)
                    clear hK K
                    (try simp only [Act.put, List.setIfInBounds_toArray, List.set_cons_zero, List.set_cons_succ])
                    refine wpAnyH_take (i := 28) (oi := { dst := some 86, op := Go.Op.unOp Go.UnOp.not 4 (Go.Operand.tmp 85), type := 4, pos := "ref.go:46", after := #[{ on := 27, ground := Go.Ground.data }, { on := 9, ground := Go.Ground.guard }], guard := some (9, false) }) (v := ?_) rfl (by kernel_rfl) (by kernel_rfl) (by kernel_rfl) (fun _ _ _ h => h) (Or.inl ⟨by rfl, ?_⟩) (by assumption) ?_
                    (rotate_left; focus (intro wS hSw; have s2 := (hSw.2.2 2 _ rfl).1; have s3 := HID.out wS hSw.1; have s4 := (HMF.out wS hSw.1).1; have s5 := (HMF.out wS hSw.1).2.1; have s6 := (HMF.out wS hSw.1).2.2.1; have s7 := (HMF.out wS hSw.1).2.2.2; clear hSw; go_simp; (try rw [if_neg (by omega)]); try with_reducible rfl))
                    (try simp only [Act.put, List.setIfInBounds_toArray, List.set_cons_zero, List.set_cons_succ])
                    refine wpAnyH_take (i := 29) (oi := { dst := some 87, op := Go.Op.pick (Go.Operand.tmp 67) (Go.Operand.const (Go.Value.bool true)) (Go.Operand.tmp 86), type := 4, pos := "ref.go:46", after := #[{ on := 9, ground := Go.Ground.data }, { on := 28, ground := Go.Ground.data }, { on := 1, ground := Go.Ground.guard }], guard := some (1, true) }) (v := ?_) rfl (by kernel_rfl) (by kernel_rfl) (by kernel_rfl) (fun _ _ _ h => h) (Or.inl ⟨by rfl, ?_⟩) (by assumption) ?_
                    (rotate_left; focus (intro wS hSw; have s2 := (hSw.2.2 2 _ rfl).1; have s3 := HID.out wS hSw.1; have s4 := (HMF.out wS hSw.1).1; have s5 := (HMF.out wS hSw.1).2.1; have s6 := (HMF.out wS hSw.1).2.2.1; have s7 := (HMF.out wS hSw.1).2.2.2; clear hSw; go_simp; (try rw [if_neg (by omega)]); try with_reducible rfl))
                    (try simp only [Act.put, List.setIfInBounds_toArray, List.set_cons_zero, List.set_cons_succ])
                    refine wpAnyH_take (i := 30) (oi := { dst := some 88, op := Go.Op.pick (Go.Operand.tmp 59) (Go.Operand.tmp 87) (Go.Operand.const (Go.Value.bool false)), type := 4, pos := "ref.go:46", after := #[{ on := 1, ground := Go.Ground.data }, { on := 29, ground := Go.Ground.data }], guard := none }) (v := ?_) rfl (by kernel_rfl) (by kernel_rfl) (by kernel_rfl) (fun _ _ _ h => h) (Or.inl ⟨by rfl, ?_⟩) (by assumption) ?_
                    (rotate_left; focus (intro wS hSw; have s2 := (hSw.2.2 2 _ rfl).1; have s3 := HID.out wS hSw.1; have s4 := (HMF.out wS hSw.1).1; have s5 := (HMF.out wS hSw.1).2.1; have s6 := (HMF.out wS hSw.1).2.2.1; have s7 := (HMF.out wS hSw.1).2.2.2; clear hSw; go_simp; (try rw [if_neg (by omega)]); try with_reducible rfl))
                    (try simp only [Act.put, List.setIfInBounds_toArray, List.set_cons_zero, List.set_cons_succ])
                    refine wpAnyH_take (i := 31) (oi := { dst := some 10, op := Go.Op.assign (Go.Operand.tmp 88), type := 4, pos := "ref.go:46", after := #[{ on := 30, ground := Go.Ground.data }, { on := 27, ground := Go.Ground.chain }, { on := 0, ground := Go.Ground.phase }, { on := 1, ground := Go.Ground.phase }, { on := 2, ground := Go.Ground.phase }, { on := 3, ground := Go.Ground.phase }, { on := 4, ground := Go.Ground.phase }, { on := 5, ground := Go.Ground.phase }, { on := 6, ground := Go.Ground.phase }, { on := 7, ground := Go.Ground.phase }, { on := 8, ground := Go.Ground.phase }, { on := 9, ground := Go.Ground.phase }, { on := 10, ground := Go.Ground.phase }, { on := 11, ground := Go.Ground.phase }, { on := 12, ground := Go.Ground.phase }, { on := 13, ground := Go.Ground.phase }, { on := 14, ground := Go.Ground.phase }, { on := 15, ground := Go.Ground.phase }, { on := 16, ground := Go.Ground.phase }, { on := 17, ground := Go.Ground.phase }, { on := 18, ground := Go.Ground.phase }, { on := 19, ground := Go.Ground.phase }, { on := 20, ground := Go.Ground.phase }, { on := 21, ground := Go.Ground.phase }, { on := 22, ground := Go.Ground.phase }, { on := 23, ground := Go.Ground.phase }, { on := 24, ground := Go.Ground.phase }, { on := 25, ground := Go.Ground.phase }, { on := 26, ground := Go.Ground.phase }, { on := 27, ground := Go.Ground.phase }, { on := 28, ground := Go.Ground.phase }, { on := 29, ground := Go.Ground.phase }, { on := 30, ground := Go.Ground.phase }], guard := none }) (v := ?_) rfl (by kernel_rfl) (by kernel_rfl) (by kernel_rfl) (fun _ _ _ h => h) (Or.inl ⟨by rfl, ?_⟩) (by assumption) ?_
                    (rotate_left; focus (intro wS hSw; have s2 := (hSw.2.2 2 _ rfl).1; have s3 := HID.out wS hSw.1; have s4 := (HMF.out wS hSw.1).1; have s5 := (HMF.out wS hSw.1).2.1; have s6 := (HMF.out wS hSw.1).2.2.1; have s7 := (HMF.out wS hSw.1).2.2.2; clear hSw; go_simp; (try rw [if_neg (by omega)]); try with_reducible rfl))
                    (try simp only [Act.put, List.setIfInBounds_toArray, List.set_cons_zero, List.set_cons_succ])
                    refine wpAnyH_done (by kernel_rfl) ?_ _
                    have HP2 := Lib.hid hP1
                    clear hP0 hP1
                    go_wp2
                    go_roundw
                    case rel => exact ⟨q + 1, by go_num, by omega, by rw [HSQ3.out], HP2.out.1, HP2.out.2⟩
                    case measure => simp [intOf]; omega
              · obtain rfl : q = n := by omega
                as_aux_lemma =>
                have c1 := (HKQ.out.2 0 _ rfl).1; have c2 := (HKQ.out.2 1 _ rfl).1; have c3 := (HKQ.out.2 2 _ rfl).1
                by_cases hsn : owq (ents l) nm i k q s = true
                · rw [if_pos hsn] at HO2
                  rw [hsn]
                  clear hsn
                  go_wp2_with fail
                  refine (T1.out _).mono ?_
                  rintro r w6 ⟨rfl, hb6⟩
                  have HB6 := Lib.hid (below_step HBQ.out (Nat.le_refl _) hb6)
                  have HK6 := Lib.hid (HKQ.out.keep hb6)
                  clear hb6
                  go_wp2
                  go_roundw
                  case rel => exact ⟨k + 1, by go_num, by omega, by rw [HO2.out], HK6.out, HB6.out⟩
                  case measure => simp [intOf]; omega
                · have hsf : owq (ents l) nm i k q s = false := by simpa using hsn
                  rw [if_neg hsn] at HO2
                  rw [hsf]
                  clear hsn hsf
                  go_wp2
                  go_roundw
                  case rel => exact ⟨k + 1, by go_num, by omega, by rw [HO2.out], HKQ.out, HBQ.out⟩
                  case measure => simp [intOf]; omega
          · obtain rfl : k = m := by omega
            as_aux_lemma =>
            go_wp2
            go_ret2
            rw [HV.out.1, HV.out.2]
            exact ⟨rfl, HBJ.out⟩
      · have e1 := str_ne hnm
        rw [if_neg hnm] at HPS
        clear hnm hc2 hxe
        generalize l[i].e.name = X at *
        go_wp2
        go_round
        case rel => exact ⟨i + 1, by go_num, by omega, HPS.out⟩
        case measure => simp [intOf]; omega
    · obtain rfl : i = n := by omega
      have HLL : Hid ((ents l).length = i) := Lib.hid (by rw [ents_len]; exact HN.out.symm)
      have HV : Hid (ownV (ents l) nm = 0 ∧ ownErr (ents l) nm = 7) := Lib.hid (by unfold ownV ownErr; rw [HLL.out, HPN.out]; exact ⟨rfl, rfl⟩)
      have d1b : decide (i < i) = false := decide_eq_false (by omega)
      go_wp2
      go_ret2
      rw [HV.out.1, HV.out.2]
      exact ⟨rfl, Below.refl _ _⟩
end Go.Proofs.Ytoimlaaakkfifaa

