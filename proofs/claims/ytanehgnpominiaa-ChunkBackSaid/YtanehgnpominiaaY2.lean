/-
  What the walks of chunks compute, plain: what is put is read, what is read is put, what is cut is joined. The contract of Same and few; the law's awake. The law's awake.
-/
import Derived.Test.YtanehgnpominiaaX10
import Derived.Test.YtanehgnpominiaaPl
set_option linter.unusedVariables false
set_option linter.unusedSimpArgs false
set_option maxRecDepth 100000
namespace Go.Proofs.Ytanehgnpominiaa
open Go.RowKit
theorem cutV_zero {s : ByteArray} {n : Int} (h : (cutV s n).2 = 0) : ∃ k : Nat, n = k ∧ 1 ≤ k ∧ k ≤ 4096 ∧ s.size ≤ 32768 ∧ manyC s.size k ≤ 4096 ∧ (cutV s n).1 = cuts k s := by
  unfold cutV at h ⊢
  split at h
  · cases h
  · next h1 =>
    split at h
    · cases h
    · next h2 =>
      rw [if_neg h1, if_neg h2]
      exact ⟨n.toNat, by omega, by omega, by omega, by omega, by omega, rfl⟩
theorem check_cuts {s : ByteArray} {k : Nat} (h1 : 1 ≤ k) (h2 : k ≤ 4096) (h3 : s.size ≤ 32768) (h4 : manyC s.size k ≤ 4096) : checkM (s.size : Nat) (k : Nat) ((cuts k s).map idV) = 0 := by
  have hl : ((cuts k s).map idV).length = manyC s.size k := by rw [List.length_map, cuts_many h1 s.size s (Nat.le_refl _)]
  refine ck4 (by omega) hl ?_ (by omega)
  rintro ⟨x, hx, h⟩
  obtain ⟨y, _, rfl⟩ := List.mem_map.1 hx
  exact h (checkX_id y)
theorem join_cuts {s : ByteArray} {k : Nat} (h1 : 1 ≤ k) (h2 : k ≤ 4096) (h3 : s.size ≤ 32768) (h4 : manyC s.size k ≤ 4096) : joinM (s.size : Nat) (k : Nat) ((cuts k s).map idV) (cuts k s) = (s, 0) := by
  have hc := cuts_cat h1 s.size s (Nat.le_refl _)
  rw [joinM5 (check_cuts h1 h2 h3 h4) (by rw [List.length_map]) rfl (by rw [hc]), hc]
theorem read_putB {s k : Nat} {ids : List ByteArray} (h : checkM s k ids = 0) : readM (putB s k ids) = ((s : Int), (k : Int), ids, 0) := by
  obtain ⟨s', k', e1, e2, hk1, hk2, hs, hlm, hll, hall⟩ := check_zero h
  obtain rfl : s = s' := by omega
  obtain rfl : k = k' := by omega
  have ho : okT ids := fun x hx => by have := (checkX_zero (hall x hx)).2; omega
  have r1 : numO (putB s k ids) 0 = ((s : Int), txt (nb k) ++ (txt (nb ids.length) ++ catB ids), 0) := by
    unfold putB; rw [ByteArray.append_assoc]; exact numO_txt (by omega) _
  have r2 : numO (txt (nb k) ++ (txt (nb ids.length) ++ catB ids)) 0 = ((k : Int), txt (nb ids.length) ++ catB ids, 0) := numO_txt (by omega) _
  have r3 : lstO (txt (nb ids.length) ++ catB ids) 0 = (ids, ⟨#[]⟩, 0) := by
    have := lstO_txt hll ho ⟨#[]⟩
    rw [← this]
    congr 1
    apply ByteArray.ext
    simp
  have hraw : rawM (putB s k ids) = ((s : Int), (k : Int), ids, 0) := by
    unfold rawM
    simp only [r1, r2, r3]
    rfl
  unfold readM
  simp only [hraw, if_pos rfl, h, if_true]
theorem txt_take0 (s : ByteArray) (k : Nat) : txt ((bys s).take k) = s.extract 0 k := by
  have := txt_extract (bys s) 0 k
  rw [txt_bys, List.drop_zero] at this
  exact this.symm
theorem txt_take (s : ByteArray) (k : Nat) (hk : k ≤ s.size) : txt ((bys s).take k) ++ s.extract k s.size = s := by
  rw [txt_take0]; exact ext_cat s k hk
theorem txtV_back {x t : ByteArray} {k : Nat} (h : txtV x = (t, (k : Int), 0)) : k ≤ x.size ∧ x.extract 0 k = textB t := by
  rcases readV_cases (bys x) with ⟨n, k0, h3, h4, h5, h6, h7⟩ | ⟨e', he', h3⟩
  · rw [txtV_ok h3] at h
    unfold txtI at h
    split at h
    · simp only [Prod.mk.injEq] at h; omega
    · split at h
      · simp only [Prod.mk.injEq] at h; omega
      · next h8 h9 =>
        simp only [Prod.mk.injEq, and_true] at h
        obtain ⟨h10, h11⟩ := h
        obtain rfl : k = k0 + n := by omega
        obtain ⟨h12, _⟩ := nb_of_read (l := bys x) (bys_lt x) h3 h5
        have hts : t.size = n := by rw [← h10, ByteArray.size_extract]; omega
        refine ⟨by omega, ?_⟩
        unfold textB
        rw [hts, h12, txt_take0, ← h10, ByteArray.extract_append_extract, Nat.min_eq_left (Nat.zero_le _), Nat.max_eq_right (by omega)]
  · rw [txtV_bad he' h3] at h
    simp only [Prod.mk.injEq] at h
    exact absurd h.2.2 he'
theorem ext_split (s : ByteArray) (p q r : Nat) (h1 : p ≤ q) (h2 : q ≤ r) : s.extract p r = s.extract p q ++ s.extract q r := by
  rw [ByteArray.extract_append_extract, Nat.min_eq_left h1, Nat.max_eq_right h2]
theorem lstG_back {s : ByteArray} : ∀ (m p : Nat) (out l : List ByteArray) (q : Nat), lstG s m p out = (l, q, 0) → p ≤ s.size → ∃ l', l = out ++ l' ∧ l'.length = m ∧ p ≤ q ∧ q ≤ s.size ∧ s.extract p q = catB l'
  | 0, p, out, l, q, h, hp => by
    rw [lstG_zero] at h
    simp only [Prod.mk.injEq, and_true] at h
    obtain ⟨rfl, rfl⟩ := h
    exact ⟨[], by simp, rfl, Nat.le_refl _, hp, by simp [catB]⟩
  | m + 1, p, out, l, q, h, hp => by
    rcases txtV_cases (s.extract p s.size) with ⟨t, k, h1, h2, h3, h4⟩ | ⟨e, he, h1⟩
    · rw [lstG_ok h1] at h
      rw [rest_size s hp] at h3
      obtain ⟨l', rfl, hl, hpq, hqs, hex⟩ := lstG_back m (p + k) (out ++ [t]) l q h (by omega)
      have hb := (txtV_back h1).2
      rw [ByteArray.extract_extract, Nat.add_zero, Nat.min_eq_left (by omega)] at hb
      refine ⟨t :: l', by simp, by simp [hl], by omega, hqs, ?_⟩
      rw [ext_split s p (p + k) q (by omega) hpq, hb, hex]; rfl
    · rw [lstG_bad he h1] at h
      simp only [Prod.mk.injEq] at h
      exact absurd h.2.2 he
theorem lstO_back {s s' : ByteArray} {e : Int} {l : List ByteArray} (h : lstO s e = (l, s', 0)) : e = 0 ∧ s = txt (nb l.length) ++ catB l ++ s' := by
  unfold lstO at h
  split at h
  · next he =>
    split at h
    · next h2 =>
      rcases readV_cases (bys s) with ⟨n, k, h3, h4, h5, h6, h7⟩ | ⟨e', he', h3⟩
      · by_cases h8 : 4096 < n
        · rw [lstV_long h3 h8] at h2; cases h2
        · obtain ⟨L, q, er, hL⟩ : ∃ L q er, lstG s n k [] = (L, q, er) := ⟨_, _, _, rfl⟩
          rw [lstV_ok h3 h8, hL] at h2 h
          simp only at h2
          subst h2
          simp only [Prod.mk.injEq, and_true] at h
          obtain ⟨rfl, rfl⟩ := h
          rw [bys_len] at h7
          obtain ⟨l', e1, hl, hpq, hqs, hex⟩ := lstG_back n k [] L q hL h7
          rw [List.nil_append] at e1
          subst e1
          refine ⟨he, ?_⟩
          obtain ⟨h9, _⟩ := nb_of_read (l := bys s) (bys_lt s) h3 h5
          rw [hl, h9, txt_take0, ← hex, ← ext_split s 0 k q (Nat.zero_le _) hpq, ext_cat s q hqs]
      · rw [lstV_bad he' h3] at h2; exact absurd h2 he'
    · next h2 => simp only [Prod.mk.injEq] at h; exact absurd h.2.2 h2
  · next he => simp only [Prod.mk.injEq] at h; exact absurd h.2.2 he
theorem numO_back {s s' : ByteArray} {e v : Int} (h : numO s e = (v, s', 0)) : e = 0 ∧ ∃ n : Nat, v = n ∧ s = txt (nb n) ++ s' := by
  unfold numO at h
  split at h
  · next he =>
    split at h
    · next h2 =>
      rcases readV_cases (bys s) with ⟨n, k, h3, h4, h5, h6, h7⟩ | ⟨e', he', h3⟩
      · rw [h3] at h
        simp only [Prod.mk.injEq, and_true] at h
        refine ⟨he, n, h.1.symm, ?_⟩
        obtain ⟨h8, h9⟩ := nb_of_read (l := bys s) (bys_lt s) h3 h5
        rw [h8, ← h.2]
        exact (txt_take s k (by rw [bys_len] at h9; exact h9)).symm
      · rw [h3] at h2; exact absurd h2 he'
    · next h2 => simp only [Prod.mk.injEq] at h; exact absurd h.2.2 h2
  · next he => simp only [Prod.mk.injEq] at h; exact absurd h.2.2 he
theorem doneV_back {s : ByteArray} {e : Int} (h : doneV s e = 0) (he : e = 0 ∨ e ≠ 0) : e = 0 ∧ s.size = 0 := by
  unfold doneV at h
  split at h
  · next h1 =>
    split at h
    · next h2 => exact ⟨h1, h2⟩
    · cases h
  · next h1 => exact absurd h h1
/-- What is read of bytes is put as these bytes. -/
theorem read_back {t : ByteArray} {S C : Int} {ids : List ByteArray} (h : readM t = (S, C, ids, 0)) : putM S C ids = (t, 0) := by
  unfold readM at h
  obtain ⟨v1, s1, e1, hN1⟩ : ∃ v1 s1 e1, numO t 0 = (v1, s1, e1) := ⟨_, _, _, rfl⟩
  obtain ⟨v2, s2, e2, hN2⟩ : ∃ v2 s2 e2, numO s1 e1 = (v2, s2, e2) := ⟨_, _, _, rfl⟩
  obtain ⟨L, s3, e3, hN3⟩ : ∃ L s3 e3, lstO s2 e2 = (L, s3, e3) := ⟨_, _, _, rfl⟩
  have hraw : rawM t = (v1, v2, L, doneV s3 e3) := by
    unfold rawM
    simp only [hN1, hN2, hN3]
  rw [hraw] at h
  simp only at h
  split at h
  · next hd =>
    split at h
    · next hc =>
      simp only [Prod.mk.injEq, and_true] at h
      obtain ⟨rfl, rfl, rfl⟩ := h
      obtain ⟨he3, hs3⟩ := doneV_back hd (Classical.em _)
      subst he3
      obtain ⟨he2, hs2⟩ := lstO_back hN3
      subst he2
      obtain ⟨he1, n2, rfl, hs1⟩ := numO_back hN2
      subst he1
      obtain ⟨_, n1, rfl, hs0⟩ := numO_back hN1
      unfold putM
      rw [if_pos hc]
      have h3 : s3 = ByteArray.empty := by
        apply ByteArray.ext
        have : s3.data.size = 0 := hs3
        exact Array.eq_empty_of_size_eq_zero this
      rw [hs0, hs1, hs2, h3]
      unfold putB
      simp [ByteArray.append_assoc]
    · next hc => simp only [Prod.mk.injEq] at h; exact absurd h.2.2.2 hc
  · next hd => simp only [Prod.mk.injEq] at h; exact absurd h.2.2.2 hd
end Go.Proofs.Ytanehgnpominiaa
set_option linter.unusedVariables false
set_option linter.unusedSimpArgs false
namespace Go.Proofs.Ytanehgnpominiaa
open Go.RowKit
set_option maxHeartbeats 4000000 in
theorem same_any (S1 C1 S2 C2 : Int) (i1 i2 : List ByteArray) (a1 a2 : Option Addr) (c1 c2 : Nat) (w : World) (h1 : Sl strC 1 w a1 i1) (h2 : Sl strC 1 w a2 i2) (hl : i1.length ≤ 9007199254740992) :
    Calls Try.prog 13 #[mf S1 C1 a1 i1.length c1, mf S2 C2 a2 i2.length c2] w fun e w' => e = .returned (.bool (decide (S1 = S2 ∧ C1 = C2 ∧ i1 = i2))) ∧ Below w.heap.size w w' := by
  unfold mf
  have hA := Bk.new w 31 #[.int .i64 S1, .int .i64 C1, .slice a1 i1.length c1]
  have hb1 := below_new w (.cells #[.int .i64 S1, .int .i64 C1, .slice a1 i1.length c1] 31)
  have hb2 := below_new (w.alloc (.cells #[.int .i64 S1, .int .i64 C1, .slice a1 i1.length c1] 31)) (.cells #[.int .i64 S2, .int .i64 C2, .slice a2 i2.length c2] 31)
  have HB := Lib.hid (below_cons hb1 hb2)
  have T := Lib.hid (texts_eq i1 i2 a1 a2 c1 c2 _ ((h1.keep hb1).keep hb2) ((h2.keep hb1).keep hb2) hl)
  obtain ⟨D, hD⟩ : ∃ D, D = decide (S1 = S2 ∧ C1 = C2 ∧ i1 = i2) := ⟨_, rfl⟩
  rw [← hD]
  have HD := Lib.hid hD
  clear hD hA hb1 hb2 h1 h2
  by_cases e1 : S1 = S2
  · have q1 : (S1 == S2) = true := by simp [e1]
    by_cases e2 : C1 = C2
    · have q2 : (C1 == C2) = true := by simp [e2]
      have HR : Hid (D = decide (i1 = i2)) := Lib.hid (by rw [HD.out]; simp [e1, e2])
      generalize decide (i1 = i2) = DD at *
      clear e1 e2
      go_enter Try.func13, Try.ntmps13
      go_wp2_with fail
      refine T.out.mono ?_
      rintro e w1 ⟨rfl, n, rfl⟩
      have HB2 := Lib.hid (below_drewN HB.out n)
      go_wp2
      go_ret
      exact ⟨rbool HR.out.symm, HB2.out⟩
    · have q2 : (C1 == C2) = false := by simp [e2]
      have HR : Hid (D = false) := Lib.hid (by rw [HD.out]; simp [e2])
      clear e1 e2 T
      go_enter Try.func13, Try.ntmps13
      go_wp2
      go_ret
      exact ⟨rbool HR.out.symm, HB.out⟩
  · have q1 : (S1 == S2) = false := by simp [e1]
    have HR : Hid (D = false) := Lib.hid (by rw [HD.out]; simp [e1])
    clear e1 T
    go_enter Try.func13, Try.ntmps13
    go_wp2
    go_ret
    exact ⟨rbool HR.out.symm, HB.out⟩
def tAE : ByteArray := ⟨#[97, 98, 99, 100, 101]⟩
def tAB : ByteArray := ⟨#[97, 98]⟩
def tCD : ByteArray := ⟨#[99, 100]⟩
def tE : ByteArray := ⟨#[101]⟩
def tF : ByteArray := ⟨#[102]⟩
theorem cutsA : cuts 2 tAE = [tAB, tCD, tE] := by decide +kernel
theorem id_ef : idV tF ≠ idV tE := by decide +kernel
end Go.Proofs.Ytanehgnpominiaa
set_option linter.unusedVariables false
set_option linter.unusedSimpArgs false
namespace Go.Proofs.Ytanehgnpominiaa
open Go.RowKit
theorem sl_new (w : World) (l : List ByteArray) (E : TypeId) : Sl strC 1 (w.alloc (.cells (l.map Value.string).toArray E)) (some ⟨w.heap.size, 0, none⟩) l := by
  intro i hi
  refine ⟨w.heap.size, 0, rfl, by simp, fun j v hv => ?_⟩
  have : j = 0 := by
    cases j with
    | zero => rfl
    | succ j => simp [strC] at hv
  subst this
  simp only [strC, List.getElem?_cons_zero, Option.some.injEq] at hv
  subst hv
  rw [cell_new]
  simp [hi]
theorem below_drewN' {B : Nat} {a b : World} (h : Below B a b) (n : Nat) : Below B a (b.drewN n) := below_drewN h n
theorem cutVA : cutV tAE 2 = ([tAB, tCD, tE], 0) := by
  unfold cutV
  rw [if_neg (by omega), if_neg (by decide +kernel)]
  show (cuts 2 tAE, (0 : Int)) = _
  rw [cutsA]
theorem manVA : manV tAE 2 = (5, 2, [idV tAB, idV tCD, idV tE], 0) := by
  unfold manV
  rw [cutVA]; rfl
theorem checkA : checkM (5 : Nat) (2 : Nat) [idV tAB, idV tCD, idV tE] = 0 := by
  have := check_cuts (s := tAE) (k := 2) (by omega) (by omega) (by decide) (by decide +kernel)
  rw [cutsA] at this
  exact this
theorem joinA : joinM (5 : Nat) (2 : Nat) [idV tAB, idV tCD, idV tE] [tAB, tCD, tE] = (tAE, 0) := by
  have := join_cuts (s := tAE) (k := 2) (by omega) (by omega) (by decide) (by decide +kernel)
  rw [cutsA] at this
  exact this
theorem joinF : joinM (5 : Nat) (2 : Nat) [idV tAB, idV tCD, idV tE] [tAB, tCD, tF] = (⟨#[]⟩, 6) := by
  refine joinM3 checkA rfl (fun h => ?_)
  simp only [List.map_cons, List.map_nil, List.cons.injEq, and_true, true_and] at h
  exact id_ef h
theorem putB_size {s k : Nat} {ids : List ByteArray} (h : checkM s k ids = 0) : (putB s k ids).size ≤ 65544 * ids.length + 24 := by
  obtain ⟨s', k', e1, e2, hk1, hk2, hs, hlm, hll, hall⟩ := check_zero h
  have ho : okT ids := fun x hx => by have := (checkX_zero (hall x hx)).2; omega
  have z1 : (txt (nb s)).size ≤ 8 := by rw [txt_size]; exact nb_len8 (by omega)
  have z2 : (txt (nb k)).size ≤ 8 := by rw [txt_size]; exact nb_len8 (by omega)
  have z3 : (txt (nb ids.length)).size ≤ 8 := by rw [txt_size]; exact nb_len8 (by omega)
  have z4 := catB_size ids ho
  unfold putB
  rw [ByteArray.size_append, ByteArray.size_append, ByteArray.size_append]
  omega
theorem checkN : checkM 0 0 [] = 2 := ck0 (by omega)
theorem checkF : checkM (1 : Nat) (1 : Nat) [] = 5 := ck1 (by omega) (by decide +kernel)
set_option maxHeartbeats 8000000 in
theorem awake_any (w : World) : Calls Try.prog 7 #[] w fun e w' => e = .returned (.bool true) ∧ Below w.heap.size w w' := by
  obtain ⟨I, hI⟩ : ∃ I, I = [idV tAB, idV tCD, idV tE] := ⟨_, rfl⟩
  have hIl : I.length = 3 := by rw [hI]; rfl
  have hIs : ∀ x ∈ I, x.size ≤ 64 := by
    intro x hx
    rw [hI] at hx
    simp only [List.mem_cons, List.mem_nil_iff, or_false] at hx
    rcases hx with rfl | rfl | rfl <;> (rw [idV_size]; exact Nat.le_refl _)
  obtain ⟨PB, hPB⟩ : ∃ PB, PB = putB 5 2 I := ⟨_, rfl⟩
  have hcI : checkM (5 : Nat) (2 : Nat) I = 0 := by rw [hI]; exact checkA
  have hps : PB.size ≤ 1000000 := by rw [hPB]; have := putB_size hcI; omega
  have hrd : readM PB = (5, 2, I, 0) := by rw [hPB]; exact read_putB hcI
  have T1 : Hid (∀ W, Calls Try.prog 8 #[.string ⟨#[97, 98, 99, 100, 101]⟩, .int .i64 2] W fun e w' => ∃ a c, e = .returned (.tuple #[.slice a 3 c, .int .i64 0]) ∧ 3 ≤ c ∧ Sl strC 1 w' a [tAB, tCD, tE] ∧ Below W.heap.size W w') := Lib.hid (fun W => by
    have := ccut_any tAE 2 W
    unfold cutE at this
    rw [cutVA] at this
    exact this)
  have T2 : Hid (∀ W, Calls Try.prog 11 #[.string ⟨#[97, 98, 99, 100, 101]⟩, .int .i64 2] W fun e w' => ∃ a c, e = .returned (.tuple #[.agg #[.int .i64 5, .int .i64 2, .slice a 3 c], .int .i64 0]) ∧ Sl strC 1 w' a I ∧ Below W.heap.size W w') := Lib.hid (fun W => by
    have := man_any tAE 2 W (by decide)
    unfold manE mf at this
    rw [manVA, ← hI] at this
    simp only [hIl] at this
    exact this)
  have T3 : Hid (∀ W a c al cl, Sl strC 1 W a I → Sl strC 1 W al [tAB, tCD, tE] → 3 ≤ cl → Calls Try.prog 19 #[.agg #[.int .i64 5, .int .i64 2, .slice a 3 c], .slice al 3 cl] W fun e w' => e = .returned (.tuple #[.string tAE, .int .i64 0]) ∧ Below W.heap.size W w') := Lib.hid (fun W a c al cl h1 h2 h3 => by
    have := cjoin_any (5 : Nat) (2 : Nat) I a c [tAB, tCD, tE] al cl W h1 (fun x hx => by have := hIs x hx; omega) h2 h3 (by decide) (by decide)
    unfold mf at this
    rw [hI, joinA, ← hI] at this
    simp only [hIl] at this
    exact this)
  have T4 : Hid (∀ W a c, Sl strC 1 W a I → Calls Try.prog 15 #[.agg #[.int .i64 5, .int .i64 2, .slice a 3 c]] W fun e w' => e = .returned (.tuple #[.string PB, .int .i64 0]) ∧ Below W.heap.size W w') := Lib.hid (fun W a c h1 => by
    have := cput_any (5 : Nat) (2 : Nat) I a c W h1 (fun x hx => by have := hIs x hx; omega)
    unfold mf at this
    rw [show putM (5 : Nat) (2 : Nat) I = (PB, 0) by unfold putM; rw [if_pos hcI, hPB]; rfl] at this
    simp only [hIl] at this
    exact this)
  have T5 : Hid (∀ W, Calls Try.prog 17 #[.string PB] W fun e w' => ∃ a c, e = .returned (.tuple #[.agg #[.int .i64 5, .int .i64 2, .slice a 3 c], .int .i64 0]) ∧ Sl strC 1 w' a I ∧ Below W.heap.size W w') := Lib.hid (fun W => by
    have := cread_any PB W (by omega)
    unfold manE mf at this
    rw [hrd] at this
    simp only [hIl] at this
    exact this)
  have T6 : Hid (∀ W a c, Sl strC 1 W a I → Calls Try.prog 19 #[.agg #[.int .i64 5, .int .i64 2, .slice a 3 c], .slice (some ⟨W.heap.size, 0, none⟩) 3 3] (W.alloc (.cells #[.string ⟨#[97, 98]⟩, .string ⟨#[99, 100]⟩, .string ⟨#[102]⟩] 9)) fun e w' => e = .returned (.tuple #[.string ⟨#[]⟩, .int .i64 6]) ∧ Below W.heap.size W w') := Lib.hid (fun W a c h1 => by
    have := cjoin_any (5 : Nat) (2 : Nat) I a c [tAB, tCD, tF] _ 3 _ (h1.keep (below_new W (.cells #[.string ⟨#[97, 98]⟩, .string ⟨#[99, 100]⟩, .string ⟨#[102]⟩] 9))) (fun x hx => by have := hIs x hx; omega) (sl_new W [tAB, tCD, tF] 9) (by decide) (by decide) (by decide)
    unfold mf at this
    rw [hI, joinF, ← hI] at this
    simp only [hIl] at this
    exact this.mono (fun e w' h => ⟨h.1, below_cons (below_new W _) h.2⟩))
  have T8 : Hid (∀ (W : World) (a : Option Addr) (c : Nat), Sl strC 1 W a [tAB, tCD, tE] → Calls Try.prog 10 #[.slice a 3 c, .slice (some ⟨W.heap.size, 0, none⟩) 3 3] (W.alloc (.cells #[.string ⟨#[97, 98]⟩, .string ⟨#[99, 100]⟩, .string ⟨#[101]⟩] 9)) fun e w' => e = .returned (.bool true) ∧ Below W.heap.size W w') := Lib.hid (fun W a c h => by
    refine (texts_eq [tAB, tCD, tE] [tAB, tCD, tE] a _ c 3 _ (h.keep (below_new _ _)) (sl_new W [tAB, tCD, tE] 9) (by decide)).mono ?_
    rintro e w' ⟨rfl, n, rfl⟩
    exact ⟨by rw [decide_eq_true rfl], below_drewN' (below_new _ _) n⟩)
  have T9 : Hid (∀ (W : World) a1 c1 a2 c2, Sl strC 1 W a1 I → Sl strC 1 W a2 I → Calls Try.prog 13 #[.agg #[.int .i64 5, .int .i64 2, .slice a1 3 c1], .agg #[.int .i64 5, .int .i64 2, .slice a2 3 c2]] W fun e w' => e = .returned (.bool true) ∧ Below W.heap.size W w') := Lib.hid (fun W a1 c1 a2 c2 h1 h2 => by
    have := same_any 5 2 5 2 I I a1 a2 c1 c2 W h1 h2 (by omega)
    unfold mf at this
    rw [decide_eq_true ⟨rfl, rfl, rfl⟩] at this
    simp only [hIl] at this
    exact this)
  have T10 : Hid (∀ W, Calls Try.prog 21 #[.agg #[.int .i64 0, .int .i64 0, .slice none 0 0]] W fun e w' => e = .returned (.int .i64 2) ∧ Below W.heap.size W w') := Lib.hid (fun W => by
    have := ck_any 0 0 [] none 0 W (Sl.nil _ _ _ _) (fun x hx => by cases hx)
    rw [checkN] at this; exact this)
  have T11 : Hid (∀ W, Calls Try.prog 21 #[.agg #[.int .i64 1, .int .i64 1, .slice none 0 0]] W fun e w' => e = .returned (.int .i64 5) ∧ Below W.heap.size W w') := Lib.hid (fun W => by
    have := ck_any (1 : Nat) (1 : Nat) [] none 0 W (Sl.nil _ _ _ _) (fun x hx => by cases hx)
    rw [checkF] at this; exact this)
  have htt : tAE.toList = [97, 98, 99, 100, 101] := by decide +kernel
  clear hI hIs hPB hcI hps hrd hIl
  generalize tAE = XA at *
  go_enter Try.func7, Try.ntmps7
  go_wp2_with fail
  refine (T1.out _).mono ?_
  rintro e w1 ⟨a1, c1, rfl, hc1, hs, hb⟩
  have HS := Lib.hid hs; have HB := Lib.hid hb
  clear hs hb
  go_wp2_with fail
  refine (T2.out _).mono ?_
  rintro e w2 ⟨a2, c2, rfl, hs, hb⟩
  have hbn := below_new w2 (.cells #[.int .i64 5, .int .i64 2, .slice a2 3 c2] 31)
  have HM := Lib.hid (Bk.new w2 31 #[.int .i64 5, .int .i64 2, .slice a2 3 c2])
  have HI := Lib.hid (hs.keep hbn); have HS := Lib.hid ((HS.out.keep hb).keep hbn); have HB := Lib.hid (below_cons (below_cons HB.out hb) hbn)
  clear hs hb hbn
  go_wp2_with fail
  generalize (w2.alloc (.cells #[.int .i64 5, .int .i64 2, .slice a2 3 c2] 31)) = W2 at *
  have hlt2 := HM.out.1
  generalize w2.heap.size = p2 at *
  refine (T3.out _ _ _ _ _ HI.out HS.out hc1).mono ?_
  rintro e w3 ⟨rfl, hb⟩
  have HM3 := Lib.hid (HM.out.keep hb); have HI := Lib.hid (HI.out.keep hb); have HS := Lib.hid (HS.out.keep hb); have HB := Lib.hid (below_cons HB.out hb)
  have m0 := (HM3.out.2 0 _ rfl).1; have m1 := (HM3.out.2 1 _ rfl).1; have m2 := (HM3.out.2 2 _ rfl).1
  clear hb
  go_wp2_with fail
  refine (T4.out _ _ _ HI.out).mono ?_
  rintro e w4 ⟨rfl, hb⟩
  have HM4 := Lib.hid (HM3.out.keep hb); have HI := Lib.hid (HI.out.keep hb); have HS := Lib.hid (HS.out.keep hb); have HB := Lib.hid (below_cons HB.out hb)
  clear hb m0 m1 m2
  go_wp2_with fail
  refine (T5.out _).mono ?_
  rintro e w5 ⟨a5, c5, rfl, hs, hb⟩
  have HM5 := Lib.hid (HM4.out.keep hb); have HI := Lib.hid (HI.out.keep hb); have HS := Lib.hid (HS.out.keep hb); have HB := Lib.hid (below_cons HB.out hb)
  have hbn := below_new w5 (.cells #[.int .i64 5, .int .i64 2, .slice a5 3 c5] 31)
  have HN := Lib.hid (Bk.new w5 31 #[.int .i64 5, .int .i64 2, .slice a5 3 c5])
  have m0 := (HM5.out.2 0 _ rfl).1; have m1 := (HM5.out.2 1 _ rfl).1; have m2 := (HM5.out.2 2 _ rfl).1
  have hp5 := HM5.out.1
  have HM5 := Lib.hid (HM5.out.keep hbn); have HI := Lib.hid (HI.out.keep hbn); have HS := Lib.hid (HS.out.keep hbn); have HB := Lib.hid (below_cons HB.out hbn); have HJ := Lib.hid (hs.keep hbn)
  clear hs hb
  obtain ⟨W5, hW5⟩ : ∃ x, x = w5.alloc (.cells #[.int .i64 5, .int .i64 2, .slice a5 3 c5] 31) := ⟨_, rfl⟩
  rw [← hW5] at HM5 HI HS HB HJ HN hbn
  have HW5 := Lib.hid hW5
  clear hW5
  go_wp2_with fail
  rw [← HW5.out]
  have T6' := T6.out W5 a2 c2 HI.out
  have hsz5 : W5.heap.size = w5.heap.size + 1 := by rw [HW5.out]; simp
  rw [hsz5] at T6'
  refine T6'.mono ?_
  rintro e w6 ⟨rfl, hb⟩
  rw [← hsz5] at hb
  have HM := Lib.hid (HM5.out.keep hb); have HN := Lib.hid (HN.out.keep hb); have HI := Lib.hid (HI.out.keep hb); have HS := Lib.hid (HS.out.keep hb); have HJ := Lib.hid (HJ.out.keep hb); have HB := Lib.hid (below_cons HB.out hb)
  clear hb T6' m0 m1 m2 hbn
  generalize w5.heap.size = p5 at *
  go_wp2_with fail
  refine (cut_bad _ 0 _ (by omega)).mono ?_
  rintro e w' ⟨rfl, hw⟩
  obtain rfl : w6 = w' := hw.symm
  clear hw
  go_wp2_with fail
  refine (T8.out _ _ _ HS.out).mono ?_
  rintro e w7 ⟨rfl, hb⟩
  have HM := Lib.hid (HM.out.keep hb); have HN := Lib.hid (HN.out.keep hb); have HI := Lib.hid (HI.out.keep hb); have HJ := Lib.hid (HJ.out.keep hb); have HB := Lib.hid (below_cons HB.out hb)
  have m0 := (HM.out.2 0 _ rfl).1; have m1 := (HM.out.2 1 _ rfl).1; have m2 := (HM.out.2 2 _ rfl).1
  have n0 := (HN.out.2 0 _ rfl).1; have n1 := (HN.out.2 1 _ rfl).1; have n2 := (HN.out.2 2 _ rfl).1
  clear hb
  go_wp2_with fail
  refine (T9.out _ _ _ _ _ HJ.out HI.out).mono ?_
  rintro e w8 ⟨rfl, hb⟩
  have HB := Lib.hid (below_cons HB.out hb)
  clear hb m0 m1 m2 n0 n1 n2
  go_wp2_with fail
  refine (T10.out _).mono ?_
  rintro e w9 ⟨rfl, hb⟩
  have HB := Lib.hid (below_cons HB.out hb)
  clear hb
  go_wp2_with fail
  refine (T11.out _).mono ?_
  rintro e w10 ⟨rfl, hb⟩
  have HB := Lib.hid (below_cons HB.out hb)
  clear hb
  go_wp2
  go_ret
  exact ⟨rfl, HB.out⟩
end Go.Proofs.Ytanehgnpominiaa

