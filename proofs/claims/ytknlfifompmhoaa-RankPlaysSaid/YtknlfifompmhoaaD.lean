/-
  The contracts of along, as Add and as Sum call it.
-/
import Derived.Test.YtknlfifompmhoaaC
set_option linter.unusedVariables false
set_option linter.unusedSimpArgs false
namespace Go.Proofs.Ytknlfifompmhoaa
open Go.RowKit
theorem pre_mono {l : List Int} (h : ∀ x ∈ l, 0 ≤ x) : ∀ (k j : Nat), j ≤ k → k ≤ l.length → 0 ≤ pre l j ∧ pre l j ≤ pre l k
  | 0, j, hj, _ => by obtain rfl : j = 0 := by omega
                      rw [pre_zero]; omega
  | k + 1, j, hj, hk => by
    have e := pre_succ l k (by omega)
    have hx : 0 ≤ l.getD k 0 := by
      rw [List.getD_eq_getElem?_getD, List.getElem?_eq_getElem (by omega)]
      exact h _ (List.getElem_mem _)
    by_cases hjk : j = k + 1
    · subst hjk
      have := pre_mono h k k (Nat.le_refl _) (by omega)
      omega
    · have := pre_mono h k j (by omega) (by omega)
      omega
theorem fen_range {l : List Int} (h : ∀ x ∈ l, 0 ≤ x) (ha : pre l l.length ≤ 9007199254740992) (k : Nat) (hk : k ≤ l.length) : 0 ≤ pre l k - pre l (lo k) ∧ pre l k - pre l (lo k) ≤ 9007199254740992 := by
  have hlo : lo k ≤ k := Nat.sub_le _ _
  have h1 := pre_mono h k (lo k) hlo hk
  have h2 := pre_mono h l.length k hk (Nat.le_refl _)
  omega
set_option maxHeartbeats 4000000 in
theorem along_add (bt bb p gs i : Nat) (by_ : Int) (l sums : List Int) (w : World) (h : Cad bt bb p gs (l.length + 1) w) (hb : Bk bb [.int .i64 by_] w) (hr : Bk gs (ints sums) w) (hf : Fen l sums) (hpos : ∀ x ∈ l, 0 ≤ x) (hall : pre l l.length ≤ 9007199254740992) (hl : l.length ≤ 4096) (hi : i < l.length)
    (hby : -1099511627776 ≤ by_ ∧ by_ ≤ 1099511627776) :
    Calls Try.prog 10 #[.pointer (some ⟨p, 0, none⟩), .int .i64 ((i : Int) + 1), .func (.func 11) #[.pointer (some ⟨p, 0, none⟩)] #[], .func (.func 12) #[] #[.pointer (some ⟨bt, 0, none⟩), .pointer (some ⟨bb, 0, none⟩)]] w
      fun e w' => e = .returned (.tuple #[]) ∧ (∃ sums', Fen (l.set i (l.getD i 0 + by_)) sums' ∧ Bk gs (ints sums') w') ∧ Kp (· = gs) w w' := by
  have HC := Lib.hid h; have HB := Lib.hid hb; have HR := Lib.hid hr; have HF := Lib.hid hf; have HPOS := Lib.hid hpos; have HALL := Lib.hid hall
  obtain ⟨l', hl'⟩ : ∃ l', l' = l.set i (l.getD i 0 + by_) := ⟨_, rfl⟩
  rw [← hl']
  have HL' := Lib.hid hl'
  clear h hb hr hf hpos hall hl'
  go_enter Try.func10, Try.ntmps10
  go_wp2
  go_loopw [1] (fun s wr => ∃ (q : Nat) (ss : List Int), s = .int .i64 q ∧ Mid l ss i by_ q ∧ lo q ≤ i ∧ i < q ∧ q ≤ 8192 ∧ Bk gs (ints ss) wr ∧ Kp (· = gs) w wr) (fun s _ => 8193 - (intOf s).toNat)
  case atStart => exact ⟨i + 1, sums, by go_num, mid_start HF.out i by_, by have := lb_ge (k := i + 1) (by omega); unfold lo; omega, by omega, by omega, HR.out, Kp.refl _ _⟩
  case round =>
    obtain ⟨q, ss, rfl, hmid, hlo, hiq, hq2, hbs, hkp⟩ := hrel
    have HCW := Lib.hid (HC.out.kp hkp (fun j e => .inl e))
    have hc3 := HCW.out.c3
    by_cases hq : q ≤ l.length
    · have hstep := mid_step hmid (by omega) hq hlo hiq
      have hrg := fen_range HPOS.out HALL.out q hq
      have hget := hmid.2 q (by omega) hq
      rw [if_neg (by omega)] at hget
      have hul := lb_le (k := q) (by omega)
      have hug := lb_ge (k := q) (by omega)
      have T := Lib.hid (add1_any bt bb p gs (l.length + 1) q by_ ss wr HCW.out (HB.out.kp hkp (fun e => HC.out.n2 e)) hbs hmid.1 (by omega) (by omega) (by omega))
      have TU := Lib.hid (fun w => up_any q (.pointer (some ⟨p, 0, none⟩)) w (by omega))
      have HST := Lib.hid hstep; have HKP := Lib.hid hkp
      have d1 : (0 : Int) < (q : Int) := by omega
      have d2 : (q : Int) < ((l.length + 1 : Nat) : Int) := by omega
      obtain ⟨L, hL⟩ : ∃ L, L = lb q := ⟨_, rfl⟩
      rw [← hL] at HST TU hul hug
      clear hmid hbs hkp hrg hget hstep hL
      go_wp2_with fail
      refine T.out.mono ?_
      rintro e w1 ⟨rfl, hb1, hk1⟩
      have HB1 := Lib.hid hb1; have HK1 := Lib.hid (HKP.out.trans hk1)
      clear hb1 hk1
      go_wp2_with fail
      refine (TU.out _).mono ?_
      rintro e w2 ⟨rfl, rfl⟩
      go_wp2
      go_roundw
      case rel => exact ⟨q + L, _, by go_num, HST.out.1, HST.out.2.1, HST.out.2.2, by omega, HB1.out, HK1.out⟩
      case measure => simp [intOf]; omega
    · have d1 : (0 : Int) < (q : Int) := by omega
      have d2 : ¬ (q : Int) < ((l.length + 1 : Nat) : Int) := by omega
      have HE : Hid (Fen l' ss) := Lib.hid (by rw [HL'.out]; exact mid_end hmid (by omega) hi)
      have HBS := Lib.hid hbs; have HKP := Lib.hid hkp
      clear hmid hbs hkp
      go_wp2
      go_end0
      exact ⟨rfl, ⟨ss, HE.out, HBS.out⟩, HKP.out⟩
set_option maxHeartbeats 4000000 in
theorem along_sum (bt bn p gs i : Nat) (l sums : List Int) (w : World) (h : Cad bt bn p gs (l.length + 1) w) (hb : Bk bn [.int .i64 0] w) (hr : Bk gs (ints sums) w) (hf : Fen l sums) (hpos : ∀ x ∈ l, 0 ≤ x) (hall : pre l l.length ≤ 9007199254740992) (hl : l.length ≤ 4096) (hi : i ≤ l.length) :
    Calls Try.prog 10 #[.pointer (some ⟨p, 0, none⟩), .int .i64 (i : Int), .func (.func 13) #[.pointer (some ⟨p, 0, none⟩)] #[], .func (.func 14) #[] #[.pointer (some ⟨bn, 0, none⟩), .pointer (some ⟨bt, 0, none⟩)]] w
      fun e w' => e = .returned (.tuple #[]) ∧ Bk bn [.int .i64 (pre l i)] w' ∧ Kp (· = bn) w w' := by
  have HC := Lib.hid h; have HB := Lib.hid hb; have HR := Lib.hid hr; have HF := Lib.hid hf; have HPOS := Lib.hid hpos; have HALL := Lib.hid hall
  clear h hb hr hf hpos hall
  go_enter Try.func10, Try.ntmps10
  go_wp2
  go_loopw [1] (fun s wr => ∃ (q : Nat), s = .int .i64 q ∧ q ≤ i ∧ Bk bn [.int .i64 (pre l i - pre l q)] wr ∧ Kp (· = bn) w wr) (fun s _ => (intOf s).toNat)
  case atStart => exact ⟨i, rfl, Nat.le_refl _, by rw [Int.sub_self]; exact HB.out, Kp.refl _ _⟩
  case round =>
    obtain ⟨q, rfl, hqi, hbn, hkp⟩ := hrel
    have HCW := Lib.hid (HC.out.kp hkp (fun j e => .inr e))
    have hc3 := HCW.out.c3
    by_cases hq : 0 < q
    · have hrg := fen_range HPOS.out HALL.out q (by omega)
      have hm1 := pre_mono HPOS.out i q hqi hi
      have hm2 := pre_mono HPOS.out l.length i hi (Nat.le_refl _)
      have hall := HALL.out
      have hget := HF.out.2 q hq (by omega)
      have hlo : lo q < q := by have := lb_ge hq; have := lb_le hq; unfold lo; omega
      have T := sum1_any bt bn p gs (l.length + 1) q (pre l i - pre l q) sums wr HCW.out hbn (HR.out.kp hkp (fun e => HC.out.n2 e.symm)) HF.out.1 (by omega) (by omega) (by omega)
      rw [hget, show pre l i - pre l q + (pre l q - pre l (lo q)) = pre l i - pre l (lo q) by omega] at T
      have HT := Lib.hid T
      have TD := Lib.hid (fun w => down_any q (.pointer (some ⟨p, 0, none⟩)) w (by omega))
      have HKP := Lib.hid hkp
      have d1 : (0 : Int) < (q : Int) := by omega
      have d2 : (q : Int) < ((l.length + 1 : Nat) : Int) := by omega
      obtain ⟨L, hL⟩ : ∃ L, L = lo q := ⟨_, rfl⟩
      rw [← hL] at HT TD hlo
      clear hbn hkp hrg hget T hm1 hm2 hall hL
      go_wp2_with fail
      refine HT.out.mono ?_
      rintro e w1 ⟨rfl, hb1, hk1⟩
      have HB1 := Lib.hid hb1; have HK1 := Lib.hid (HKP.out.trans hk1)
      clear hb1 hk1
      go_wp2_with fail
      refine (TD.out _).mono ?_
      rintro e w2 ⟨rfl, rfl⟩
      go_wp2
      go_roundw
      case rel => exact ⟨L, rfl, by omega, HB1.out, HK1.out⟩
      case measure => simp [intOf]; omega
    · obtain rfl : q = 0 := by omega
      have HBN : Hid (Bk bn [.int .i64 (pre l i)] wr) := Lib.hid (by rw [pre_zero, Int.sub_zero] at hbn; exact hbn)
      have HKP := Lib.hid hkp
      clear hbn hkp
      go_wp2
      go_end0
      exact ⟨rfl, HBN.out, HKP.out⟩
end Go.Proofs.Ytknlfifompmhoaa

