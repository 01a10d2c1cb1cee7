/-
  The contracts of the law's own up and Check.
-/
import Derived.Test.YtlhniaecgiockaaI
set_option linter.unusedVariables false
set_option linter.unusedSimpArgs false
namespace Go.Proofs.Ytlhniaecgiockaa
open Go.RowKit
def UpPost (n i : Nat) (s : ByteArray) (l : List ByteArray) (w : World) (e : Ending) (w' : World) : Prop :=
  ∃ r : ByteArray, e = .returned (.tuple #[.string r, .bool (decide (l.length = (sidesL n i).length))]) ∧ r.size ≤ 64 ∧ (l.length = (sidesL n i).length → r = foldW (sidesL n i) l (leafV s)) ∧ Below w.heap.size w w'
theorem up_one (i : Nat) (s : ByteArray) (l : List ByteArray) (a : Option Addr) (c : Nat) (w : World) (hs : s.size ≤ 1000000) :
    Calls Try.prog 23 #[.int .i64 1, .int .i64 i, .string s, .slice a l.length c] w (UpPost 1 i s l w) := by
  have hsz : (⟨#[0]⟩ ++ s : ByteArray).size ≤ 1099511627000 := by rw [ByteArray.size_append, show (⟨#[0]⟩ : ByteArray).size = 1 from rfl]; omega
  have T4 := Lib.hid (fun w => rid_any (⟨#[0]⟩ ++ s) w hsz)
  have hz0 : (idV (⟨#[0]⟩ ++ s)).size ≤ 64 := by rw [idV_size]; exact Nat.le_refl _
  have HP : Hid (∀ w1, Below w.heap.size w w1 → UpPost 1 i s l w (.returned (.tuple #[.string (idV (⟨#[0]⟩ ++ s)), .bool ((l.length : Int) == 0)])) w1) := Lib.hid (fun w1 hb => by
    refine ⟨_, ?_, hz0, fun h => ?_, hb⟩
    · rw [sidesL_one i (by omega), List.length_nil]
      congr 4
      cases l with
      | nil => rfl
      | cons x l => simp; omega
    · rw [sidesL_one i (by omega), foldW_nil]; rfl)
  clear hsz hz0
  obtain ⟨X, hX⟩ : ∃ X, X = idV (⟨#[0]⟩ ++ s) := ⟨_, rfl⟩
  rw [← hX] at T4 HP
  clear hX
  go_enter Try.func23, Try.ntmps23
  go_wp2_with fail
  refine (T4.out _).mono ?_
  rintro e w1 ⟨rfl, hb⟩
  have HB := Lib.hid hb
  clear hb
  obtain ⟨n, hn⟩ : ∃ n, n = l.length := ⟨_, rfl⟩
  rw [← hn] at HP ⊢
  clear hn
  by_cases h0 : n = 0
  · have e1 : ((n : Int) == 0) = true := by simp; omega
    rw [e1] at HP
    go_wp2
    go_ret2
    exact HP.out _ HB.out
  · have e1 : ((n : Int) == 0) = false := by simp; omega
    rw [e1] at HP
    go_wp2
    go_ret2
    exact HP.out _ HB.out
theorem up_none (n i : Nat) (s : ByteArray) (a : Option Addr) (c : Nat) (w : World) (hn : 2 ≤ n) :
    Calls Try.prog 23 #[.int .i64 n, .int .i64 i, .string s, .slice a 0 c] w (UpPost n i s [] w) := by
  have HP : Hid (UpPost n i s [] w (.returned (.tuple #[.string ⟨#[]⟩, .bool false])) w) := Lib.hid (by
    have hne : ¬ ([] : List ByteArray).length = (sidesL n i).length := by
      by_cases hk : i < hf n
      · rw [sidesL_left hn hk]; simp
      · rw [sidesL_right hn hk]; simp
    exact ⟨⟨#[]⟩, by rw [decide_eq_false hne], by decide, fun h => absurd h hne, Below.refl _ _⟩)
  have e1 : ((n : Int) == 1) = false := by simp; omega
  go_enter Try.func23, Try.ntmps23
  go_wp2
  go_ret2
  exact HP.out
set_option maxHeartbeats 1600000 in
theorem up_any : ∀ (m n i : Nat) (s : ByteArray) (l : List ByteArray) (a : Option Addr) (c : Nat) (w : World), n ≤ m → 1 ≤ n → n ≤ 1048576 → i < n → s.size ≤ 1000000 → (∀ x ∈ l, x.size ≤ 1000000) → l.length ≤ c → l.length ≤ 9007199254740992 → Sl strC 1 w a l →
    Calls Try.prog 23 #[.int .i64 n, .int .i64 i, .string s, .slice a l.length c] w (UpPost n i s l w) := by
  intro m
  induction m with
  | zero => intro n i s l a c w hm h1; omega
  | succ m ih =>
    intro n i s l a c w hm h1 hn hi hs hsm hc hl hS
    by_cases hn1 : n = 1
    · subst hn1
      exact up_one i s l a c w hs
    · have hn2 : 2 ≤ n := by omega
      match l, hsm, hc, hl, hS with
      | [], _, _, _, _ => exact up_none n i s a c w hn2
      | P :: l, hsm, hc, hl, hS =>
        obtain ⟨b, o, rfl, hb1, hc1⟩ := slT_str hS 0 (by simp)
        simp only [List.getElem_cons_zero, Nat.add_zero] at hc1
        have hp := hsm P (by simp)
        have hh1 := hf_pos n
        have hh2 := hf_lt hn2
        have TH := Lib.hid (fun w => rhalf_any n w hn2 (by omega))
        have HLT : Hid (i < hf n → sidesL n i = false :: sidesL (hf n) i) := Lib.hid (fun h => sidesL_left hn2 h)
        have HRT : Hid (¬ i < hf n → sidesL n i = true :: sidesL (n - hf n) (i - hf n)) := Lib.hid (fun h => sidesL_right hn2 h)
        obtain ⟨h, hh⟩ : ∃ h, h = hf n := ⟨_, rfl⟩
        rw [← hh] at hh1 hh2 TH HLT HRT
        clear hh
        have HC1 : Hid (∀ w', Below w.heap.size w w' → w'.cell? ⟨b, o, none⟩ = some (.string P)) := Lib.hid (fun w' hb => (hb.cell (p := ⟨b, o, none⟩) hb1).trans hc1)
        have T : Hid (∀ (k j : Nat) (A : Option Addr), Sl strC 1 w A l → k < n → 1 ≤ k → j < k → Calls Try.prog 23 #[.int .i64 k, .int .i64 j, .string s, .slice A l.length (c - 1)] w (UpPost k j s l w)) := Lib.hid (fun k j A hA hk h1k hj =>
          ih k j s l A (c - 1) w (by omega) h1k (by omega) hj hs (fun x hx => hsm x (by simp [hx])) (by simp at hc; omega) (by simp at hl; omega) hA)
        have hSd := sl_drop hS 1
        simp only [List.drop_succ_cons, List.drop_zero] at hSd
        have e1 : ((n : Int) == 1) = false := by simp; omega
        simp only [List.length_cons] at hc hl ⊢
        obtain ⟨L, hL⟩ : ∃ L, L = l.length := ⟨_, rfl⟩
        have HL := Lib.hid hL
        rw [← hL] at hc hl T ⊢
        have HT : Hid (∀ (k j : Nat), k < n → 1 ≤ k → j < k → Calls Try.prog 23 #[.int .i64 k, .int .i64 j, .string s, .slice (if c = 1 then some ⟨b, o, none⟩ else some ⟨b, o + 1, none⟩) L (c - 1)] w (UpPost k j s l w)) := Lib.hid (fun k j hk h1k hj => by
          by_cases hc1 : c = 1
          · rw [if_pos hc1]
            have : l = [] := List.eq_nil_of_length_eq_zero (by omega)
            exact T.out k j _ (by rw [this]; exact Sl.nil _ _ _ _) hk h1k hj
          · rw [if_neg hc1]
            exact T.out k j _ hSd hk h1k hj)
        have e2 : (((L + 1 : Nat) : Int) == 0) = false := by simp; omega
        have e3 : (1 : Int) ≤ ((L + 1 : Nat) : Int) := by omega
        have e4 : (1 : Int) ≤ (c : Int) := by omega
        have e5 : ((L + 1 : Nat) : Int) ≤ (c : Int) := by omega
        have e6 : (0 : Int) < ((L + 1 : Nat) : Int) := by omega
        clear T hS hSd hsm hL ih hc1
        by_cases hlt : i < h
        · have d2 : (i : Int) < (h : Int) := by omega
          have HSD := Lib.hid (HLT.out hlt)
          have T2 := HT.out h i (by omega) (by omega) (by omega)
          have HT2 := Lib.hid T2
          clear T2 HT HLT HRT
          by_cases hc1 : c = 1
          all_goals
            first | (subst hc1; obtain rfl : L = 0 := (by omega); simp only [if_true, Nat.sub_self] at HT2) | rw [if_neg hc1] at HT2
            go_enter Try.func23, Try.ntmps23
            go_wp2_with fail
            refine (TH.out _).mono ?_
            rintro e w1 ⟨rfl, rfl⟩
            go_wp2_with fail
            refine HT2.out.mono ?_
            rintro e w2 ⟨R, rfl, hr, hrf, hb⟩
            have HRF := Lib.hid hrf; have HB := Lib.hid hb
            have hcc := HC1.out _ hb
            have z1 : ((⟨#[1]⟩ ++ R ++ P) : ByteArray).size ≤ 1099511627000 := by rw [ByteArray.size_append, ByteArray.size_append, show (⟨#[1]⟩ : ByteArray).size = 1 from rfl]; omega
            have T4 := Lib.hid (fun w => rid_any (⟨#[1]⟩ ++ R ++ P) w z1)
            have HP : Hid (∀ w1, Below w.heap.size w w1 → UpPost n i s (P :: l) w (.returned (.tuple #[.string (idV (⟨#[1]⟩ ++ R ++ P)), .bool (decide (l.length = (sidesL h i).length))])) w1) := Lib.hid (fun w1 hb => by
              refine ⟨idV (⟨#[1]⟩ ++ R ++ P), ?_, by rw [idV_size]; exact Nat.le_refl _, fun hlen => ?_, hb⟩
              · rw [HSD.out, List.length_cons, List.length_cons]
                congr 4
                simp
              · rw [HSD.out, List.length_cons, List.length_cons] at hlen
                rw [HSD.out, foldW_cons, ← HRF.out (by omega)]; rfl)
            obtain ⟨D, hD⟩ : ∃ D, D = decide (l.length = (sidesL h i).length) := ⟨_, rfl⟩
            rw [← hD] at HP ⊢
            obtain ⟨X, hX⟩ : ∃ X, X = idV (⟨#[1]⟩ ++ R ++ P) := ⟨_, rfl⟩
            rw [← hX] at HP T4
            clear hD hX z1 hrf hb
            go_wp2_with fail
            refine (T4.out _).mono ?_
            rintro e w3 ⟨rfl, hb3⟩
            have HB3 := Lib.hid (below_step HB.out (Nat.le_refl _) hb3)
            clear hb3
            go_wp2
            go_ret2
            exact HP.out _ HB3.out
        · have d2 : ¬ (i : Int) < (h : Int) := by omega
          have HSD := Lib.hid (HRT.out hlt)
          have T2 := HT.out (n - h) (i - h) (by omega) (by omega) (by omega)
          rw [Int.ofNat_sub (by omega), Int.ofNat_sub (by omega)] at T2
          have HT2 := Lib.hid T2
          clear T2 HT HLT HRT
          by_cases hc1 : c = 1
          all_goals
            first | (subst hc1; obtain rfl : L = 0 := (by omega); simp only [if_true, Nat.sub_self] at HT2) | rw [if_neg hc1] at HT2
            go_enter Try.func23, Try.ntmps23
            go_wp2_with fail
            refine (TH.out _).mono ?_
            rintro e w1 ⟨rfl, rfl⟩
            go_wp2_with fail
            refine HT2.out.mono ?_
            rintro e w2 ⟨R, rfl, hr, hrf, hb⟩
            have HRF := Lib.hid hrf; have HB := Lib.hid hb
            have hcc := HC1.out _ hb
            have z1 : ((⟨#[1]⟩ ++ P ++ R) : ByteArray).size ≤ 1099511627000 := by rw [ByteArray.size_append, ByteArray.size_append, show (⟨#[1]⟩ : ByteArray).size = 1 from rfl]; omega
            have T4 := Lib.hid (fun w => rid_any (⟨#[1]⟩ ++ P ++ R) w z1)
            have HP : Hid (∀ w1, Below w.heap.size w w1 → UpPost n i s (P :: l) w (.returned (.tuple #[.string (idV (⟨#[1]⟩ ++ P ++ R)), .bool (decide (l.length = (sidesL (n - h) (i - h)).length))])) w1) := Lib.hid (fun w1 hb => by
              refine ⟨idV (⟨#[1]⟩ ++ P ++ R), ?_, by rw [idV_size]; exact Nat.le_refl _, fun hlen => ?_, hb⟩
              · rw [HSD.out, List.length_cons, List.length_cons]
                congr 4
                simp
              · rw [HSD.out, List.length_cons, List.length_cons] at hlen
                rw [HSD.out, foldW_cons, ← HRF.out (by omega)]; rfl)
            obtain ⟨D, hD⟩ : ∃ D, D = decide (l.length = (sidesL (n - h) (i - h)).length) := ⟨_, rfl⟩
            rw [← hD] at HP ⊢
            obtain ⟨X, hX⟩ : ∃ X, X = idV (⟨#[1]⟩ ++ P ++ R) := ⟨_, rfl⟩
            rw [← hX] at HP T4
            clear hD hX z1 hrf hb
            go_wp2_with fail
            refine (T4.out _).mono ?_
            rintro e w3 ⟨rfl, hb3⟩
            have HB3 := Lib.hid (below_step HB.out (Nat.le_refl _) hb3)
            clear hb3
            go_wp2
            go_ret2
            exact HP.out _ HB3.out
theorem rcheck_bad (r : ByteArray) (n i : Int) (s : ByteArray) (l : List ByteArray) (a : Option Addr) (c : Nat) (w : World) (h : i < 0 ∨ n ≤ i ∨ 1048576 < n) :
    Calls Try.prog 16 #[.string r, .int .i64 n, .int .i64 i, .string s, .slice a l.length c] w fun e w' => e = .returned (.bool (checkV r n i s l)) ∧ Below w.heap.size w w' := by
  have HV : Hid (checkV r n i s l = false) := Lib.hid (by unfold checkV; rw [if_pos h])
  have H := Lib.hid h
  obtain ⟨V, hV⟩ : ∃ V, V = checkV r n i s l := ⟨_, rfl⟩
  rw [← hV] at HV ⊢
  clear hV h
  by_cases h0 : i < 0
  · go_enter Try.func16, Try.ntmps16
    go_wp2
    go_ret
    rw [HV.out]
    exact ⟨rfl, Below.refl _ _⟩
  · by_cases h1 : n ≤ i
    · go_enter Try.func16, Try.ntmps16
      go_wp2
      go_ret
      rw [HV.out]
      exact ⟨rfl, Below.refl _ _⟩
    · have h2 : 1048576 < n := by have := H.out; omega
      go_enter Try.func16, Try.ntmps16
      go_wp2
      go_ret
      rw [HV.out]
      exact ⟨rfl, Below.refl _ _⟩
theorem rcheck_any (r : ByteArray) (n i : Int) (s : ByteArray) (l : List ByteArray) (a : Option Addr) (c : Nat) (w : World) (hs : s.size ≤ 1000000) (hsm : ∀ x ∈ l, x.size ≤ 1000000) (hc : l.length ≤ c) (hl : l.length ≤ 9007199254740992) (hS : Sl strC 1 w a l) :
    Calls Try.prog 16 #[.string r, .int .i64 n, .int .i64 i, .string s, .slice a l.length c] w fun e w' => e = .returned (.bool (checkV r n i s l)) ∧ Below w.heap.size w w' := by
  by_cases h : i < 0 ∨ n ≤ i ∨ 1048576 < n
  · exact rcheck_bad r n i s l a c w h
  · obtain ⟨m, rfl⟩ : ∃ m : Nat, n = m := ⟨n.toNat, by omega⟩
    obtain ⟨j, rfl⟩ : ∃ j : Nat, i = j := ⟨i.toNat, by omega⟩
    have TU := Lib.hid (up_any m m j s l a c w (Nat.le_refl _) (by omega) (by omega) (by omega) hs hsm hc hl hS)
    have HV : Hid (checkV r m j s l = (decide (l.length = (sidesL m j).length) && (foldW (sidesL m j) l (leafV s)).toList == r.toList)) := Lib.hid (by
      unfold checkV; rw [if_neg h]; rfl)
    obtain ⟨V, hV⟩ : ∃ V, V = checkV r m j s l := ⟨_, rfl⟩
    rw [← hV] at HV ⊢
    have g1 : ¬ (j : Int) < 0 := by omega
    have g2 : ¬ (m : Int) ≤ (j : Int) := by omega
    have g3 : ¬ (1048576 : Int) < (m : Int) := by omega
    clear hV hS hsm h
    go_enter Try.func16, Try.ntmps16
    go_wp2_with fail
    refine TU.out.mono ?_
    rintro e w1 ⟨R, rfl, hz, hrf, hb⟩
    have HB := Lib.hid hb
    by_cases hlen : l.length = (sidesL m j).length
    · have HV2 : Hid (V = (R.toList == r.toList)) := Lib.hid (by rw [HV.out, decide_eq_true hlen, ← hrf hlen]; rfl)
      rw [decide_eq_true hlen]
      clear hrf hb
      go_wp2
      go_ret
      rw [HV2.out]
      exact ⟨rfl, HB.out⟩
    · have HV2 : Hid (V = false) := Lib.hid (by rw [HV.out, decide_eq_false hlen]; rfl)
      rw [decide_eq_false hlen]
      clear hrf hb
      go_wp2
      go_ret
      rw [HV2.out]
      exact ⟨rfl, HB.out⟩
end Go.Proofs.Ytlhniaecgiockaa

