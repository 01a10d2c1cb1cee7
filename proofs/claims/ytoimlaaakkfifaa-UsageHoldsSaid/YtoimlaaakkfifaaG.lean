/-
  The contract of usage.Own.
-/
import Derived.Test.YtoimlaaakkfifaaE
set_option linter.unusedVariables false
set_option linter.unusedSimpArgs false
namespace Go.Proofs.Ytoimlaaakkfifaa
open Go.RowKit
/-- What was found so far of a name's first backup. -/
def OW (wr : World) (b : Nat) (l : List Ent) (nm : ByteArray) (i : Nat) (own found : Value) : Prop :=
  (plc l nm i = none ∧ own = .slice none 0 0 ∧ found = .bool false) ∨
  ∃ j q, plc l nm i = some j ∧ found = .bool true ∧ b < q ∧ wr.ownsRow q 47 2 own (nth l j).ids.length ((chK (nth l j) (nth l j).ids.length).flatMap chC)
theorem OW.kp {S : Nat → Prop} {w w' : World} {b : Nat} {l : List Ent} {nm : ByteArray} {i : Nat} {own found : Value} (h : OW w b l nm i own found) (k : Kp S w w') (hS : ∀ g, S g → g ≤ b) : OW w' b l nm i own found := by
  rcases h with h | ⟨j, q, h1, h2, h3, h4⟩
  · exact Or.inl h
  · exact Or.inr ⟨j, q, h1, h2, h3, own_kp h4 k (fun g hg => by have := hS g hg; omega)⟩
theorem OW.keep {w w' : World} {b : Nat} {l : List Ent} {nm : ByteArray} {i : Nat} {own found : Value} (h : OW w b l nm i own found) (k : Below w.heap.size w w') : OW w' b l nm i own found := h.kp (Kp.new (S := fun _ => False) k) (fun g h => h.elim)
theorem OW.other {w : World} {b : Nat} {l : List Ent} {nm : ByteArray} {i : Nat} {own found : Value} (h : OW w b l nm i own found) (hn : (nth l i).name ≠ nm) : OW w b l nm (i + 1) own found := by
  rcases h with ⟨h1, h2, h3⟩ | ⟨j, q, h1, r⟩
  · exact Or.inl ⟨by rw [plc, h1]; simp only; rw [if_neg hn], h2, h3⟩
  · exact Or.inr ⟨j, q, by rw [plc, h1], r⟩
theorem OW.shape {w : World} {b : Nat} {l : List Ent} {nm : ByteArray} {i : Nat} {own found : Value} (h : OW w b l nm i own found) : ∃ f : Bool, found = .bool f ∧ ((f = false ∧ plc l nm i = none ∧ own = .slice none 0 0) ∨ (f = true ∧ ∃ j, plc l nm i = some j)) := by
  rcases h with ⟨h1, h2, h3⟩ | ⟨j, q, h1, h2, r⟩
  · exact ⟨false, h3, Or.inl ⟨rfl, h1, h2⟩⟩
  · exact ⟨true, h2, Or.inr ⟨rfl, j, h1⟩⟩
/-- Was a text seen among other backups' ids, or among the first ids of the next one? -/
def seenO (l : List Ent) (nm : ByteArray) (i k : Nat) (s : ByteArray) : Bool := earlO l nm i s || hasT ((nth l i).ids.take k) s
theorem seenO_zero (l : List Ent) (nm : ByteArray) (i : Nat) (s : ByteArray) : seenO l nm i 0 s = earlO l nm i s := by simp [seenO, hasT]
theorem seenO_succ (l : List Ent) (nm : ByteArray) (i k : Nat) (h : k < (nth l i).ids.length) (s : ByteArray) : seenO l nm i (k + 1) s = (seenO l nm i k s || decide (idAt (nth l i) k = s)) := by
  unfold seenO
  rw [hasT_take _ _ h, idAt_get h, Bool.or_assoc]
theorem seenO_end (l : List Ent) (nm : ByteArray) (i : Nat) (h : i < l.length) (hn : (nth l i).name ≠ nm) (s : ByteArray) : seenO l nm i (nth l i).ids.length s = earlO l nm (i + 1) s := by
  unfold seenO
  rw [List.take_length, earlO_succ l nm i h, decide_eq_false hn]
  simp
theorem earlO_same (l : List Ent) (nm : ByteArray) (i : Nat) (h : i < l.length) (hn : (nth l i).name = nm) (s : ByteArray) : earlO l nm (i + 1) s = earlO l nm i s := by
  rw [earlO_succ l nm i h, decide_eq_true hn]
  simp
/-- Was a text seen among other backups' ids, or among this one's first ids? -/
def seenW (l : List Ent) (nm : ByteArray) (j k : Nat) (s : ByteArray) : Bool := hasT ((nth l j).ids.take k) s || earlO l nm l.length s
theorem seenW_zero (l : List Ent) (nm : ByteArray) (j : Nat) (s : ByteArray) : seenW l nm j 0 s = earlO l nm l.length s := by simp [seenW, hasT]
theorem seenW_succ (l : List Ent) (nm : ByteArray) (j k : Nat) (h : k < (nth l j).ids.length) (s : ByteArray) : seenW l nm j (k + 1) s = (seenW l nm j k s || decide (idAt (nth l j) k = s)) := by
  unfold seenW
  rw [hasT_take _ _ h, idAt_get h]
  cases hasT ((nth l j).ids.take k) s <;> cases decide ((nth l j).ids[k] = s) <;> simp
set_option maxRecDepth 100000 in
set_option maxHeartbeats 16000000 in
theorem own_any (l : List EntM) (nm : ByteArray) (a : Option Addr) (cap : Nat) (w : World) (hs : Sl encE 8 w a l) (hok : ∀ x ∈ l, x.ok w) (hfew : ∀ e ∈ ents l, e.ok) (hl : l.length ≤ 16) :
    Calls Try.prog 7 #[.slice a l.length cap, .string nm] w fun r w' => r = .returned (.tuple #[.int .i64 (ownV (ents l) nm), .int .i64 (ownErr (ents l) nm)]) ∧ Below w.heap.size w w' := by
  have hmm := @run_makeMap Try.prog
  have HS := Lib.hid hs; have HOK := Lib.hid hok; have HF := Lib.hid hfew
  have HM0 := Lib.hid (SM.made w)
  have HB0 := Lib.hid (below_new w (.map #[] 0))
  have HE0 : Hid (∀ s, earlO (ents l) nm 0 s = false) := Lib.hid (fun s => by simp [earlO])
  clear hs hok hfew
  obtain ⟨n, hn⟩ : ∃ n, n = l.length := ⟨_, rfl⟩
  have HN := Lib.hid hn
  rw [← hn] at hl ⊢
  clear hn
  go_enter Try.func7, Try.ntmps7
  go_wp2
  obtain ⟨b, hb⟩ : ∃ b, b = w.heap.size := ⟨_, rfl⟩
  rw [← hb] at HM0 ⊢
  have HBE := Lib.hid hb
  clear hb
  go_loopw [6, 7, 19] (fun ow fd i wr => ∃ k : Nat, i = .int .i64 k ∧ k ≤ n ∧ OW wr b (ents l) nm k ow fd ∧ SM wr b (20 * k) (earlO (ents l) nm k) ∧ Below w.heap.size w wr) (fun _ _ i _ => n - (intOf i).toNat)
  case atStart => exact ⟨0, rfl, by omega, Or.inl ⟨rfl, rfl, rfl⟩, HM0.out.same (fun s => (HE0.out s).symm), HB0.out⟩
  case round =>
    obtain ⟨i, rfl, hi, how, hsm, hbw⟩ := hrel
    have HOW := Lib.hid how; have HSM := Lib.hid hsm; have HBW := Lib.hid hbw
    clear how hsm hbw
    by_cases hit : i < n
    · as_aux_lemma =>
      have hil : i < l.length := by rw [← HN.out]; exact hit
      obtain ⟨b2, o2, rfl, hb2, hc2⟩ := HS.out i hil
      have hx := HOK.out l[i] (List.getElem_mem hil)
      have HX1 := Lib.hid hx.1; have HX2 := Lib.hid hx.2
      have hxe := ents_nth l hil
      have hfe := nth_ok HF.out i
      rw [hxe] at hfe
      have HFE := Lib.hid hfe
      have c0 := (HBW.out.cell (p := ⟨b2, o2 + i * 8, none⟩) hb2).trans (hc2 0 _ rfl)
      have c1 := (HBW.out.cell (p := ⟨b2, o2 + i * 8 + 1, none⟩) hb2).trans (hc2 1 _ rfl)
      have c2 := (HBW.out.cell (p := ⟨b2, o2 + i * 8 + 2, none⟩) hb2).trans (hc2 2 _ rfl)
      have c3 := (HBW.out.cell (p := ⟨b2, o2 + i * 8 + 3, none⟩) hb2).trans (hc2 3 _ rfl)
      have c4 := (HBW.out.cell (p := ⟨b2, o2 + i * 8 + 4, none⟩) hb2).trans (hc2 4 _ rfl)
      have c5 := (HBW.out.cell (p := ⟨b2, o2 + i * 8 + 5, none⟩) hb2).trans (hc2 5 _ rfl)
      have c6 := (HBW.out.cell (p := ⟨b2, o2 + i * 8 + 6, none⟩) hb2).trans (hc2 6 _ rfl)
      have c7 := (HBW.out.cell (p := ⟨b2, o2 + i * 8 + 7, none⟩) hb2).trans (hc2 7 _ rfl)
      have HEND : Hid (l[i].e.name ≠ nm → ∀ s, seenO (ents l) nm i l[i].e.ids.length s = earlO (ents l) nm (i + 1) s) := Lib.hid (fun h s => by
        have := seenO_end (ents l) nm i (by rw [ents_len]; exact hil) (by rw [hxe]; exact h) s
        rw [hxe] at this; exact this)
      have HSUC : Hid (∀ k, k < l[i].e.ids.length → ∀ s, seenO (ents l) nm i (k + 1) s = (seenO (ents l) nm i k s || decide (idAt l[i].e k = s))) := Lib.hid (fun k hk s => by
        have := seenO_succ (ents l) nm i k (by rw [hxe]; exact hk) s
        rw [hxe] at this; exact this)
      have HZERO := Lib.hid (seenO_zero (ents l) nm i)
      have HSAME : Hid (l[i].e.name = nm → ∀ s, earlO (ents l) nm (i + 1) s = earlO (ents l) nm i s) := Lib.hid (fun h s => earlO_same (ents l) nm i (by rw [ents_len]; exact hil) (by rw [hxe]; exact h) s)
      have HOTH : Hid (∀ {wr own found}, OW wr b (ents l) nm i own found → l[i].e.name ≠ nm → OW wr b (ents l) nm (i + 1) own found) := Lib.hid (fun h hn => h.other (by rw [hxe]; exact hn))
      have HPLC : Hid (l[i].e.name = nm → plc (ents l) nm i = none → plc (ents l) nm (i + 1) = some i) := Lib.hid (fun h h0 => by rw [plc, h0]; simp only; rw [if_pos (by rw [hxe]; exact h)])
      have HXE : Hid (nth (ents l) i = l[i].e) := Lib.hid hxe
      have hid20 := hfe.1
      clear hc2 hx hxe hfe
      generalize l[i] = x at *
      obtain ⟨e, ea, ec, lab, ta, tn, tc, ka, kn, kc, da, dn, dc⟩ := x
      dsimp only at *
      have d1 : (i : Int) < (n : Int) := by omega
      obtain ⟨m, hm⟩ : ∃ m, m = e.ids.length := ⟨_, rfl⟩
      have HME := Lib.hid hm
      rw [← hm] at hid20 c3 HEND
      clear hm
      have HCA := Lib.hid (below_new wr (.cells #[.string e.name, .int .i64 e.size, .int .i64 e.chunk, .slice ea m ec, .string lab, .slice ta tn tc, .slice ka kn kc, .slice da dn dc] 40))
      have hbl : b < wr.heap.size := HSM.out.lt
      obtain ⟨fd, rfl, hfd⟩ := HOW.out.shape
      have HFD := Lib.hid hfd
      clear hfd
      by_cases hnm : e.name = nm
      · have e1 := str_eq hnm
        have HSAM := Lib.hid (HSAME.out hnm); have HPL := Lib.hid (HPLC.out hnm)
        have HSM1 := Lib.hid (HSM.out.keep HCA.out)
        have HB1 := Lib.hid (below_step HBW.out (Nat.le_refl _) HCA.out)
        cases fd with
        | true =>
          have HOW1 : Hid (OW (wr.alloc (.cells #[.string e.name, .int .i64 e.size, .int .i64 e.chunk, .slice ea m ec, .string lab, .slice ta tn tc, .slice ka kn kc, .slice da dn dc] 40)) b (ents l) nm (i + 1) u6 (.bool true)) := Lib.hid (by
            rcases HOW.out.keep HCA.out with ⟨_, _, h⟩ | ⟨j, q, h1, r⟩
            · cases h
            · exact Or.inr ⟨j, q, by rw [plc, h1], r⟩)
          clear hnm
          go_wp2
          go_roundw
          case rel => exact ⟨i + 1, by go_num, by omega, HOW1.out, (HSM1.out.same (fun s => (HSAM.out s).symm)).mono (by omega), HB1.out⟩
          case measure => simp [intOf]; omega
        | false =>
          rcases HFD.out with ⟨_, hpn, hu6⟩ | ⟨h, _⟩
          · have HPN := Lib.hid (HPL.out hpn)
            have T1 := Lib.hid (chunks_any e ea ec _ ((HX1.out.keep HBW.out).keep HCA.out) HFE.out)
            rw [← HME.out] at T1
            clear hnm hpn hu6
            go_wp2_with fail
            refine T1.out.mono ?_
            rintro r w2 ⟨v, rfl, hown, hb2'⟩
            have hbz : b < (wr.alloc (.cells #[.string e.name, .int .i64 e.size, .int .i64 e.chunk, .slice ea m ec, .string lab, .slice ta tn tc, .slice ka kn kc, .slice da dn dc] 40)).heap.size := by simp; omega
            have HOW2 : Hid (OW w2 b (ents l) nm (i + 1) v (.bool true)) := Lib.hid (Or.inr ⟨i, _, HPN.out, rfl, hbz, by rw [HXE.out, ← HME.out]; exact hown⟩)
            have HSM2 := Lib.hid (HSM1.out.keep hb2')
            have HB2 := Lib.hid (below_step HB1.out (Nat.le_refl _) hb2')
            clear hown hb2' hbz
            go_wp2
            go_roundw
            case rel => exact ⟨i + 1, by go_num, by omega, HOW2.out, (HSM2.out.same (fun s => (HSAM.out s).symm)).mono (by omega), HB2.out⟩
            case measure => simp [intOf]; omega
          · cases h
      · have e1 := str_ne hnm
        have HEN := Lib.hid (HEND.out hnm)
        have HOW1 := Lib.hid ((HOTH.out HOW.out hnm).keep HCA.out)
        have HSM1 := Lib.hid (HSM.out.keep HCA.out)
        have HB1 := Lib.hid (below_step HBW.out (Nat.le_refl _) HCA.out)
        clear hnm
        go_wp2
        go_loopw [32] (fun k wr => ∃ j : Nat, k = .int .i64 j ∧ j ≤ m ∧ SM wr b (20 * i + j) (seenO (ents l) nm i j) ∧ OW wr b (ents l) nm (i + 1) u6 (.bool fd) ∧ Below w.heap.size w wr) (fun k _ => m - (intOf k).toNat)
        case atStart => exact ⟨0, rfl, by omega, (HSM1.out.same (fun s => (HZERO.out s).symm)).mono (by omega), HOW1.out, HB1.out⟩
        case round =>
          obtain ⟨j, rfl, hj, hsm, how, hbw⟩ := hrel
          have HSJ := Lib.hid hsm; have HOJ := Lib.hid how; have HBJ := Lib.hid hbw
          clear hsm how hbw
          by_cases hjt : j < m
          · as_aux_lemma =>
            have hjl : j < e.ids.length := by rw [← HME.out]; exact hjt
            obtain ⟨b3, o3, rfl, hb3, hc3⟩ := sl_one HX1.out j hjl
            rw [← idAt_get hjl] at hc3
            have x0 := (HBJ.out.cell (p := ⟨b3, o3 + j, none⟩) hb3).trans hc3
            have hgood := idAt_good HX2.out hjl
            obtain ⟨w5, hu, hsm5, hk5⟩ := HSJ.out.put (by omega) hgood
            have HSM5 : Hid (SM w5 b (20 * i + (j + 1)) (seenO (ents l) nm i (j + 1))) := Lib.hid (hsm5.same (fun s => (HSUC.out j hjl s).symm))
            have HO5 := Lib.hid (HOJ.out.kp hk5 (fun g hg => by omega))
            have HB5 := Lib.hid (HBJ.out.trans (hk5.below (B := w.heap.size) HBJ.out.size (fun g hg => by have := HBE.out; omega)))
            have d2 : (j : Int) < (m : Int) := by omega
            clear hc3 hsm5 hk5
            generalize idAt e j = s at *
            go_wp2
            go_roundw
            case rel => exact ⟨j + 1, by go_num, by omega, HSM5.out, HO5.out, HB5.out⟩
            case measure => simp [intOf]; omega
          · obtain rfl : j = m := by omega
            as_aux_lemma =>
            go_wp2
            go_roundw
            case rel => exact ⟨i + 1, by go_num, by omega, HOJ.out, (HSJ.out.same (fun s => HEN.out s)).mono (by omega), HBJ.out⟩
            case measure => simp [intOf]; omega
    · obtain rfl : i = n := by omega
      as_aux_lemma =>
      have HLL : Hid ((ents l).length = i) := Lib.hid (by rw [ents_len]; exact HN.out.symm)
      rcases HOW.out with ⟨h1, rfl, rfl⟩ | ⟨j, q, h1, rfl, hbq, hown⟩
      · have HV : Hid (ownV (ents l) nm = 0 ∧ ownErr (ents l) nm = 7) := Lib.hid (by unfold ownV ownErr; rw [HLL.out, h1]; exact ⟨rfl, rfl⟩)
        clear h1
        go_wp2
        go_ret2
        rw [HV.out.1, HV.out.2]
        exact ⟨rfl, HBW.out⟩
      · have hjp := plc_lt (ents l) nm i j h1
        have hjl : j < l.length := by rw [← HN.out]; exact hjp.1
        have hje := ents_nth l hjl
        have HV : Hid (ownV (ents l) nm = ownE (ents l) nm j (nth (ents l) j).ids.length ∧ ownErr (ents l) nm = 0) := Lib.hid (by unfold ownV ownErr; rw [HLL.out, h1]; exact ⟨rfl, rfl⟩)
        have hok := HOK.out l[j] (List.getElem_mem hjl)
        have HGD : Hid (∀ k, k < (nth (ents l) j).ids.length → (idAt (nth (ents l) j) k).size ≤ maxLen) := Lib.hid (fun k hk => by rw [hje] at hk ⊢; exact idAt_good hok.2 hk)
        have hfe := nth_ok HF.out j
        have HSUW := Lib.hid (seenW_succ (ents l) nm j)
        have HSZW : Hid (∀ s, seenW (ents l) nm j 0 s = earlO (ents l) nm i s) := Lib.hid (fun s => by rw [seenW_zero, HLL.out])
        have HOE : Hid (∀ k, ownE (ents l) nm j (k + 1) = if seenW (ents l) nm j k (idAt (nth (ents l) j) k) then ownE (ents l) nm j k else ownE (ents l) nm j k + lng (nth (ents l) j) k) := Lib.hid (fun k => rfl)
        have HOB := Lib.hid (ownE_bound HF.out nm j)
        have HLB := Lib.hid (lng_bound hfe)
        have hid20 := hfe.1
        have HOWN := Lib.hid hown
        obtain ⟨av, cv, rfl⟩ := own_shape hown
        clear hown hjp hje hok hfe h1
        generalize nth (ents l) j = e at *
        obtain ⟨m, hm⟩ : ∃ m, m = e.ids.length := ⟨_, rfl⟩
        have HME := Lib.hid hm
        rw [← hm] at HV HGD hid20 HOWN ⊢
        clear hm
        go_wp2
        go_loopw [13, 50] (fun nn k wr => ∃ q2 : Nat, k = .int .i64 q2 ∧ q2 ≤ m ∧ nn = .int .i64 (ownE (ents l) nm j q2) ∧ SM wr b (20 * i + q2) (seenW (ents l) nm j q2) ∧ wr.ownsRow q 47 2 (.slice av m cv) m ((chK e m).flatMap chC) ∧ Below w.heap.size w wr) (fun _ k _ => m - (intOf k).toNat)
        case atStart => exact ⟨0, rfl, by omega, rfl, (HSM.out.same (fun s => (HSZW.out s).symm)).mono (by omega), HOWN.out, HBW.out⟩
        case round =>
          obtain ⟨k, rfl, hk, rfl, hsm, hown, hbw⟩ := hrel
          have HSJ := Lib.hid hsm; have HOJ := Lib.hid hown; have HBJ := Lib.hid hbw
          clear hsm hown hbw
          by_cases hkt : k < m
          · as_aux_lemma =>
            obtain ⟨g, cg, og, hav, hgl, e0, e1⟩ := own_row2 (chK_len e m) HOJ.out k hkt
            simp only [Value.slice.injEq, true_and] at hav
            obtain ⟨rfl, rfl⟩ := hav
            rw [chK_get] at e0 e1
            have hgood := HGD.out k hkt
            have HO2 := Lib.hid (HOE.out k)
            have HS3 := Lib.hid (HSUW.out k (by rw [← HME.out]; exact hkt))
            have hb2 := HOB.out k; have hb3 := HLB.out k
            dsimp only at e0 e1
            have HBX := Lib.hid (below_new wr (.cells #[.string (idAt e k), .int .i64 (lng e k)] 47))
            have hsm1 := HSJ.out.keep HBX.out
            have hgt := hsm1.get hgood
            obtain ⟨w5, hu, hsm5, hk5⟩ := hsm1.put (by omega) hgood
            have HSM5 : Hid (SM w5 b (20 * i + (k + 1)) (seenW (ents l) nm j (k + 1))) := Lib.hid (hsm5.same (fun s => (HS3.out s).symm))
            have HSM1 := Lib.hid hsm1
            have HOX := Lib.hid (own_kept HOJ.out HBX.out)
            have HO5 := Lib.hid (own_kp HOX.out hk5 (fun g hg => by omega))
            have HB1 := Lib.hid (below_step HBJ.out (Nat.le_refl _) HBX.out)
            have HB5 := Lib.hid (HB1.out.trans (hk5.below (B := w.heap.size) HB1.out.size (fun g hg => by have := HBE.out; omega)))
            have hx5 : Bk wr.heap.size [.string (idAt e k), .int .i64 (lng e k)] w5 := (Bk.new wr 47 #[.string (idAt e k), .int .i64 (lng e k)]).kp hk5 (by have := HSJ.out.lt; omega)
            have x0 := (hx5.2 0 _ rfl).1; have x1 := (hx5.2 1 _ rfl).1
            have d2 : (k : Int) < (m : Int) := by omega
            clear hsm1 hsm5 hk5 hx5
            by_cases hsn : seenW (ents l) nm j k (idAt e k) = true
            · have HSS : Hid (∀ s, seenW (ents l) nm j (k + 1) s = seenW (ents l) nm j k s) := Lib.hid (fun s => by
                rw [HS3.out s]
                by_cases es : idAt e k = s
                · rw [← es, hsn]; rfl
                · rw [decide_eq_false es]; simp)
              rw [if_pos hsn] at HO2
              rw [hsn] at hgt
              generalize ownE (ents l) nm j k = OE at *
              generalize lng e k = N at *
              generalize idAt e k = s at *
              clear hu x0 x1 hsn
              go_wp2
              go_roundw
              case rel => exact ⟨k + 1, by go_num, by omega, by rw [HO2.out], (HSM1.out.same (fun s => (HSS.out s).symm)).mono (by omega), HOX.out, HB1.out⟩
              case measure => simp [intOf]; omega
            · have hsf : seenW (ents l) nm j k (idAt e k) = false := by simpa using hsn
              rw [if_neg hsn] at HO2
              rw [hsf] at hgt
              generalize ownE (ents l) nm j k = OE at *
              generalize lng e k = N at *
              generalize idAt e k = s at *
              clear hsn hsf
              go_wp2
              go_roundw
              case rel => exact ⟨k + 1, by go_num, by omega, by rw [HO2.out], HSM5.out, HO5.out, HB5.out⟩
              case measure => simp [intOf]; omega
          · obtain rfl : k = m := by omega
            as_aux_lemma =>
            go_wp2
            go_ret2
            rw [HV.out.1, HV.out.2]
            exact ⟨rfl, HBJ.out⟩
end Go.Proofs.Ytoimlaaakkfifaa

