/-
  The contracts of Put, the code's and the law's own.
-/
import Derived.Test.YtommogkckooekaaA5
set_option linter.unusedVariables false
set_option linter.unusedSimpArgs false
namespace Go.Proofs.Ytommogkckooekaa
open Go.RowKit
def catK (V : List Int) : Nat → ByteArray
  | 0 => ⟨#[]⟩
  | k + 1 => catK V k ++ txt (nb (V.getD k 0).toNat)
theorem chk_two (V : List Int) : chkV V = 0 ∨ chkV V = 2 := by unfold chkV; split <;> simp
theorem chk_up {V : List Int} (h : chkV V = 0) (k : Nat) (hk : k < V.length) : 0 ≤ V.getD k 0 ∧ V.getD k 0 ≤ 1099511627776 := by
  apply Classical.byContradiction
  intro hc
  have := chk_no hk hc
  omega
theorem catK_size {V : List Int} (h : chkV V = 0) : ∀ k, k ≤ V.length → (catK V k).size ≤ 8 * k
  | 0, _ => by rw [catK]; decide
  | k + 1, hk => by
    have h1 := catK_size h k (by omega)
    have h2 := chk_up h k (by omega)
    have h3 := nb_len8 (n := (V.getD k 0).toNat) (by omega)
    rw [catK, ByteArray.size_append, txt_size]; omega
def putR (V : List Int) : Ending := .returned (.tuple #[.string (if chkV V = 0 then catK V 16 else ⟨#[]⟩), .int .i64 (chkV V)])
set_option maxHeartbeats 8000000 in
theorem put_any (V : List Int) (w : World) (hV : V.length = 16) : Calls Try.prog 17 #[.agg (ints V).toArray] w fun e w' => e = putR V ∧ Below w.heap.size w w' := by
  have HB := Lib.hid (below_new w (.cells (ints V).toArray 23))
  have HBK : Hid (Bk w.heap.size (ints V) (w.alloc (.cells (ints V).toArray 23))) := Lib.hid (Bk.new w 23 (ints V).toArray)
  have HLD := Lib.hid (vec_load HBK.out hV)
  have HIX := Lib.hid (fun k hk => vec_index V hV k hk)
  have HVL := Lib.hid hV
  have TC := Lib.hid (fun w => check_any V w hV)
  obtain ⟨A, hA⟩ : ∃ A, A = (ints V).toArray := ⟨_, rfl⟩
  have HAE := Lib.hid hA
  rw [← hA] at HB HBK HLD HIX TC ⊢
  clear hA hV
  rcases chk_two V with hc | hc
  · have HR : Hid (putR V = .returned (.tuple #[.string (catK V 16), .int .i64 0])) := Lib.hid (by unfold putR; rw [hc, if_pos rfl])
    have HC := Lib.hid hc
    rw [hc] at TC
    obtain ⟨R, hR⟩ : ∃ R, R = putR V := ⟨_, rfl⟩
    rw [← hR] at HR ⊢
    clear hc hR
    go_enter Try.func17, Try.ntmps17
    go_wp2_with (refine Go.Proofs.Ytommogkckooekaa.wpList_load_run (by rfl) 23 _ (by rfl) (by rfl) HLD.out ?_)
    refine (TC.out _).mono ?_
    rintro e w2 ⟨rfl, hb2⟩
    have HB2 := Lib.hid (below_step HB.out (Nat.le_refl _) hb2)
    have HBK2 := Lib.hid (HBK.out.keep hb2)
    have HLD2 : Hid ((Instr.loadAt 23 (.pointer (some ⟨w.heap.size, 0, none⟩))).run Try.prog w2 = .ok (.agg A) w2) := Lib.hid (by rw [HAE.out]; exact vec_load HBK2.out HVL.out)
    clear hb2
    go_wp2_with (refine Go.Proofs.Ytommogkckooekaa.wpList_load_run (by rfl) 23 _ (by rfl) (by rfl) HLD2.out ?_)
    go_loopw [5, 16] (fun s i wr => ∃ k : Nat, i = .int .i64 k ∧ k ≤ 16 ∧ s = .string (catK V k) ∧ Below w.heap.size w wr ∧ Bk w.heap.size (ints V) wr) (fun _ i _ => 16 - (intOf i).toNat)
    case atStart => exact ⟨0, rfl, by omega, rfl, HB2.out, HBK2.out⟩
    case round =>
      obtain ⟨k, rfl, hk, rfl, hbw, hbk⟩ := hrel
      have HBW := Lib.hid hbw; have HK := Lib.hid hbk
      clear hbw hbk
      by_cases hkt : k < 16
      · have d1 : (k : Int) < 16 := by omega
        have d2 : (0 : Int) ≤ (k : Int) := by omega
        have hx0 := chk_up HC.out k (by rw [HVL.out]; exact hkt)
        have hz1 := catK_size HC.out k (by rw [HVL.out]; omega)
        have hst : catK V (k + 1) = catK V k ++ txt (nb (V.getD k 0).toNat) := rfl
        have hix := HIX.out k hkt
        obtain ⟨x, hx⟩ : ∃ x, x = V.getD k 0 := ⟨_, rfl⟩
        simp only [← hx] at hix
        rw [← hx] at hx0 hst
        obtain ⟨m, rfl⟩ : ∃ m : Nat, x = m := ⟨x.toNat, by omega⟩
        rw [Int.toNat_natCast] at hst
        have hz2 : (txt (nb m)).size ≤ 8 := by rw [txt_size]; exact nb_len8 (by omega)
        have TN : Hid (∀ w, Calls Try.prog 23 #[.int .i64 (m : Int)] w fun e w' => e = .returned (.tuple #[.string (txt (nb m)), .int .i64 0]) ∧ Below w.heap.size w w') := Lib.hid (fun w => by
          have := num_any (m : Int) w
          unfold numR at this
          rw [numV_ok (by omega)] at this
          exact this)
        obtain ⟨X, hX⟩ : ∃ X, X = txt (nb m) := ⟨_, rfl⟩
        rw [← hX] at hz2 TN hst
        obtain ⟨S, hS⟩ : ∃ S, S = catK V k := ⟨_, rfl⟩
        rw [← hS] at hz1 hst ⊢
        have HST := Lib.hid hst
        clear hst hX hS hx
        go_wp2_with fail
        refine (TN.out _).mono ?_
        rintro e w3 ⟨rfl, hb3⟩
        have HB3 := Lib.hid (below_step HBW.out (Nat.le_refl _) hb3); have HK3 := Lib.hid (HK.out.keep hb3)
        clear hb3
        go_wp2
        go_roundw
        case rel => exact ⟨k + 1, by go_num, by omega, by rw [HST.out], HB3.out, HK3.out⟩
        case measure => simp [intOf]; omega
      · obtain rfl : k = 16 := by omega
        go_wp2
        go_ret2
        rw [HR.out]
        exact ⟨rfl, HBW.out⟩
  · have HR : Hid (putR V = .returned (.tuple #[.string ⟨#[]⟩, .int .i64 2])) := Lib.hid (by unfold putR; rw [hc, if_neg (by omega)])
    rw [hc] at TC
    obtain ⟨R, hR⟩ : ∃ R, R = putR V := ⟨_, rfl⟩
    rw [← hR] at HR ⊢
    clear hc hR
    go_enter Try.func17, Try.ntmps17
    go_wp2_with (refine Go.Proofs.Ytommogkckooekaa.wpList_load_run (by rfl) 23 _ (by rfl) (by rfl) HLD.out ?_)
    refine (TC.out _).mono ?_
    rintro e w2 ⟨rfl, hb2⟩
    have HB2 := Lib.hid (below_step HB.out (Nat.le_refl _) hb2)
    clear hb2
    go_wp2
    go_ret2
    rw [HR.out]
    exact ⟨rfl, HB2.out⟩
set_option maxHeartbeats 8000000 in
theorem rput_any (V : List Int) (w : World) (hV : V.length = 16) : Calls Try.prog 18 #[.agg (ints V).toArray] w fun e w' => e = putR V ∧ Below w.heap.size w w' := by
  have HB := Lib.hid (below_new w (.cells (ints V).toArray 23))
  have HBK : Hid (Bk w.heap.size (ints V) (w.alloc (.cells (ints V).toArray 23))) := Lib.hid (Bk.new w 23 (ints V).toArray)
  have HLD := Lib.hid (vec_load HBK.out hV)
  have HIX := Lib.hid (fun k hk => vec_index V hV k hk)
  have HVL := Lib.hid hV
  have TC := Lib.hid (fun w => rcheck_any V w hV)
  obtain ⟨A, hA⟩ : ∃ A, A = (ints V).toArray := ⟨_, rfl⟩
  have HAE := Lib.hid hA
  rw [← hA] at HB HBK HLD HIX TC ⊢
  clear hA hV
  rcases chk_two V with hc | hc
  · have HR : Hid (putR V = .returned (.tuple #[.string (catK V 16), .int .i64 0])) := Lib.hid (by unfold putR; rw [hc, if_pos rfl])
    have HC := Lib.hid hc
    rw [hc] at TC
    obtain ⟨R, hR⟩ : ∃ R, R = putR V := ⟨_, rfl⟩
    rw [← hR] at HR ⊢
    clear hc hR
    go_enter Try.func18, Try.ntmps18
    go_wp2_with (refine Go.Proofs.Ytommogkckooekaa.wpList_load_run (by rfl) 23 _ (by rfl) (by rfl) HLD.out ?_)
    refine (TC.out _).mono ?_
    rintro e w2 ⟨rfl, hb2⟩
    have HB2 := Lib.hid (below_step HB.out (Nat.le_refl _) hb2)
    have HBK2 := Lib.hid (HBK.out.keep hb2)
    have HLD2 : Hid ((Instr.loadAt 23 (.pointer (some ⟨w.heap.size, 0, none⟩))).run Try.prog w2 = .ok (.agg A) w2) := Lib.hid (by rw [HAE.out]; exact vec_load HBK2.out HVL.out)
    clear hb2
    go_wp2
    go_loopw [5, 6] (fun s i wr => ∃ k : Nat, i = .int .i64 k ∧ k ≤ 16 ∧ s = .string (catK V k) ∧ Below w.heap.size w wr ∧ Bk w.heap.size (ints V) wr) (fun _ i _ => 16 - (intOf i).toNat)
    case atStart => exact ⟨0, rfl, by omega, rfl, HB2.out, HBK2.out⟩
    case round =>
      obtain ⟨k, rfl, hk, rfl, hbw, hbk⟩ := hrel
      have HBW := Lib.hid hbw; have HK := Lib.hid hbk
      clear hbw hbk
      by_cases hkt : k < 16
      · have d1 : (k : Int) < 16 := by omega
        have d2 : (0 : Int) ≤ (k : Int) := by omega
        have hx0 := chk_up HC.out k (by rw [HVL.out]; exact hkt)
        have hz1 := catK_size HC.out k (by rw [HVL.out]; omega)
        have hst : catK V (k + 1) = catK V k ++ txt (nb (V.getD k 0).toNat) := rfl
        have cx := (HK.out.2 k _ (ints_get V k (by rw [HVL.out]; exact hkt))).1
        obtain ⟨x, hx⟩ : ∃ x, x = V.getD k 0 := ⟨_, rfl⟩
        rw [← hx] at cx
        rw [← hx] at hx0 hst
        obtain ⟨m, rfl⟩ : ∃ m : Nat, x = m := ⟨x.toNat, by omega⟩
        rw [Int.toNat_natCast] at hst
        have hz2 : (txt (nb m)).size ≤ 8 := by rw [txt_size]; exact nb_len8 (by omega)
        have TN : Hid (∀ w, Calls Try.prog 24 #[.int .i64 (m : Int)] w fun e w' => e = .returned (.tuple #[.string (txt (nb m)), .int .i64 0]) ∧ Below w.heap.size w w') := Lib.hid (fun w => by
          have := rnum_any (m : Int) w
          unfold numR at this
          rw [numV_ok (by omega)] at this
          exact this)
        obtain ⟨X, hX⟩ : ∃ X, X = txt (nb m) := ⟨_, rfl⟩
        rw [← hX] at hz2 TN hst
        obtain ⟨S, hS⟩ : ∃ S, S = catK V k := ⟨_, rfl⟩
        rw [← hS] at hz1 hst ⊢
        have HST := Lib.hid hst
        clear hst hX hS hx
        go_wp2_with fail
        refine (TN.out _).mono ?_
        rintro e w3 ⟨rfl, hb3⟩
        have HB3 := Lib.hid (below_step HBW.out (Nat.le_refl _) hb3); have HK3 := Lib.hid (HK.out.keep hb3)
        clear hb3
        go_wp2
        go_roundw
        case rel => exact ⟨k + 1, by go_num, by omega, by rw [HST.out], HB3.out, HK3.out⟩
        case measure => simp [intOf]; omega
      · obtain rfl : k = 16 := by omega
        go_wp2
        go_ret2
        rw [HR.out]
        exact ⟨rfl, HBW.out⟩
  · have HR : Hid (putR V = .returned (.tuple #[.string ⟨#[]⟩, .int .i64 2])) := Lib.hid (by unfold putR; rw [hc, if_neg (by omega)])
    rw [hc] at TC
    obtain ⟨R, hR⟩ : ∃ R, R = putR V := ⟨_, rfl⟩
    rw [← hR] at HR ⊢
    clear hc hR
    go_enter Try.func18, Try.ntmps18
    go_wp2_with (refine Go.Proofs.Ytommogkckooekaa.wpList_load_run (by rfl) 23 _ (by rfl) (by rfl) HLD.out ?_)
    refine (TC.out _).mono ?_
    rintro e w2 ⟨rfl, hb2⟩
    have HB2 := Lib.hid (below_step HB.out (Nat.le_refl _) hb2)
    clear hb2
    go_wp2
    go_ret2
    rw [HR.out]
    exact ⟨rfl, HB2.out⟩
end Go.Proofs.Ytommogkckooekaa

