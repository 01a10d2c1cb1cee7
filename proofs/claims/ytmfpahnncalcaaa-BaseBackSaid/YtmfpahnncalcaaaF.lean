/-
  The laws of BasePuts and BaseBack. Conditions: none.
-/
import Derived.Test.YtmfpahnncalcaaaE
set_option linter.unusedVariables false
set_option linter.unusedSimpArgs false
namespace Go.Proofs.Ytmfpahnncalcaaa
open Go.RowKit
theorem bys_txt (bs : List Nat) (h : ∀ c ∈ bs, c < 256) : bys (txt bs) = bs := by
  unfold bys txt
  simp only [List.map_map]
  have : ∀ c ∈ bs, ((fun x : UInt8 => x.toNat) ∘ UInt8.ofNat) c = c := by
    intro c hc
    have := h c hc
    simp [Nat.mod_eq_of_lt this]
  rw [List.map_congr_left this]
  simp
theorem txt_bys (s : ByteArray) : txt (bys s) = s := by
  apply ByteArray.ext
  unfold txt bys
  simp [Function.comp_def]
theorem txt_size (bs : List Nat) : (txt bs).size = bs.length := by
  have : (txt bs).size = (txt bs).data.size := rfl
  rw [this]
  simp [txt]
theorem numN_letN (d : Nat) (hd : d < 32) : numN (letN d) = some d := by
  cases h : numN (letN d) with
  | none => exact absurd rfl (numN_none h d hd)
  | some e =>
    obtain ⟨h1, h2⟩ := numN_some h
    rw [let_inj h1 hd h2]
theorem digs_let (ds : List Nat) (h : ∀ c ∈ ds, c < 32) : digs (ds.map letN) = ds := by
  unfold digs
  rw [List.map_map]
  have : ∀ c ∈ ds, ((fun c => (numN c).getD 0) ∘ letN) c = c := by
    intro c hc
    simp [numN_letN c (h c hc)]
  rw [List.map_congr_left this]
  simp
theorem okL_let (ds : List Nat) (h : ∀ c ∈ ds, c < 32) : okL (ds.map letN) = true := by
  unfold okL
  rw [List.all_eq_true]
  intro c hc
  obtain ⟨d, hd, rfl⟩ := List.mem_map.1 hc
  rw [numN_letN d (h d hd)]
  rfl
theorem let_digs (l : List Nat) (h : okL l = true) : (digs l).map letN = l := by
  unfold digs
  rw [List.map_map]
  have : ∀ c ∈ l, (letN ∘ fun c => (numN c).getD 0) c = c := by
    intro c hc
    have h2 := List.all_eq_true.1 h c hc
    cases h3 : numN c with
    | none => rw [h3] at h2; cases h2
    | some d => simp [h3, (numN_some h3).2]
  rw [List.map_congr_left this]
  simp
/-- The letters of a text. -/
def putT (s : ByteArray) : ByteArray := txt ((dig (bitL (bys s)) (many5 s.size)).map letN)
theorem bys_put (s : ByteArray) : bys (putT s) = (dig (bitL (bys s)) (many5 s.size)).map letN := bys_txt _ (let_lt _ (dig_lt _ (bitL_lt _) _))
theorem read_put (s : ByteArray) : readN (bys (putT s)) = some (bys s) := by
  have hd := dig_lt (bitL (bys s)) (bitL_lt _) (many5 s.size)
  have hdl := dig_len (bitL (bys s)) (many5 s.size)
  have h1 : 5 * (bys (putT s)).length % 8 = 5 * many5 s.size - 8 * s.size := by rw [bys_put, List.length_map, hdl]; unfold many5; omega
  have h2 : 5 * (bys (putT s)).length / 8 = s.size := by rw [bys_put, List.length_map, hdl]; unfold many5; omega
  have hr := back_rest (bys s)
  have hb := back_bytes (bys s) (bys_lt s)
  rw [bys_len] at hr hb
  unfold readN
  rw [h1, h2, bys_put, okL_let _ hd, digs_let _ hd, hb, if_pos]
  exact ⟨rfl, by unfold many5; omega, P_zero _ _ (fun k h1 h2 => hr k h1)⟩
theorem put_read {t : ByteArray} {bs : List Nat} (h : readN (bys t) = some bs) : putT (txt bs) = t ∧ (txt bs).size ≤ t.size := by
  unfold readN at h
  split at h
  · rename_i hc
    obtain ⟨h1, h2, h3⟩ := hc
    simp only [Option.some.injEq] at h
    have hl := bys_len t
    have hbl : bs.length = 5 * t.size / 8 := by rw [← h, byt_len, hl]
    have hbb : bys (txt bs) = bs := bys_txt bs (by rw [← h]; exact byt_lt _ (bitD_lt _) _)
    have hD := digs_len (bys t)
    have hbd := back_digits (digs (bys t)) (digs_lt _) (5 * t.size / 8) (by rw [hD, hl]; omega) (by rw [hD, hl]; rw [hl] at h2; omega) (by
      rw [hl] at h3
      rw [hD, hl, show 5 * t.size - 8 * (5 * t.size / 8) = 5 * t.size % 8 by omega]
      exact h3)
    constructor
    · unfold putT
      rw [hbb, txt_size, hbl]
      rw [← h, hl, hbd, let_digs _ h1, txt_bys]
    · rw [txt_size, hbl]; omega
  · cases h
set_option maxHeartbeats 4000000 in
theorem awake_any (w : World) : Calls Try.prog 5 #[] w fun e w' => e = .returned (.bool true) ∧ Below w.heap.size w w' := by
  have r1 : readV (readN (bys ⟨#[109, 101]⟩)) = .tuple #[.string ⟨#[97]⟩, .int .i64 0] := by rw [show readN (bys ⟨#[109, 101]⟩) = some [97] by decide +kernel]; rfl
  have r2 : readV (readN (bys ⟨#[109]⟩)) = .tuple #[.string ⟨#[]⟩, .int .i64 5] := by rw [show readN (bys ⟨#[109]⟩) = none by decide +kernel]; rfl
  have r3 : readV (readN (bys ⟨#[109, 102]⟩)) = .tuple #[.string ⟨#[]⟩, .int .i64 5] := by rw [show readN (bys ⟨#[109, 102]⟩) = none by decide +kernel]; rfl
  have r4 : readV (readN (bys ⟨#[77, 49]⟩)) = .tuple #[.string ⟨#[]⟩, .int .i64 5] := by rw [show readN (bys ⟨#[77, 49]⟩) = none by decide +kernel]; rfl
  have q1 : txt ((dig (bitL (bys ⟨#[97]⟩)) (many5 (⟨#[97]⟩ : ByteArray).size)).map letN) = ⟨#[109, 101]⟩ := by
    rw [show (dig (bitL (bys ⟨#[97]⟩)) (many5 (⟨#[97]⟩ : ByteArray).size)).map letN = [109, 101] by decide +kernel]; rfl
  have q2 : txt ((dig (bitL (bys ⟨#[]⟩)) (many5 (⟨#[]⟩ : ByteArray).size)).map letN) = ⟨#[]⟩ := rfl
  have R1 := Lib.hid r1; have R2 := Lib.hid r2; have R3 := Lib.hid r3; have R4 := Lib.hid r4; have Q1 := Lib.hid q1; have Q2 := Lib.hid q2
  clear r1 r2 r3 r4 q1 q2
  go_enter Try.func5, Try.ntmps5
  go_wp2_with fail
  refine (read_any ⟨#[109, 101]⟩ _ (by decide)).mono ?_
  rintro e w1 ⟨rfl, h1⟩
  rw [R1.out]
  have H1 := Lib.hid h1
  clear h1
  go_wp2_with fail
  refine (read_any ⟨#[109]⟩ _ (by decide)).mono ?_
  rintro e w2 ⟨rfl, h2⟩
  rw [R2.out]
  have H2 := Lib.hid (below_step H1.out (Nat.le_refl _) h2)
  clear h2
  go_wp2_with fail
  refine (read_any ⟨#[109, 102]⟩ _ (by decide)).mono ?_
  rintro e w3 ⟨rfl, h3⟩
  rw [R3.out]
  have H3 := Lib.hid (below_step H2.out (Nat.le_refl _) h3)
  clear h3
  go_wp2_with fail
  refine (read_any ⟨#[77, 49]⟩ _ (by decide)).mono ?_
  rintro e w4 ⟨rfl, h4⟩
  rw [R4.out]
  have H4 := Lib.hid (below_step H3.out (Nat.le_refl _) h4)
  clear h4
  go_wp2_with fail
  refine (Put_any ⟨#[97]⟩ _ (by decide)).mono ?_
  rintro e w5 ⟨rfl, h5⟩
  rw [Q1.out]
  have H5 := Lib.hid (below_step H4.out (Nat.le_refl _) h5)
  clear h5
  go_wp2_with fail
  refine (Put_any ⟨#[]⟩ _ (by decide)).mono ?_
  rintro e w6 ⟨rfl, h6⟩
  rw [Q2.out]
  have H6 := Lib.hid (below_step H5.out (Nat.le_refl _) h6)
  clear h6
  go_wp2
  go_ret
  exact ⟨rfl, H6.out⟩
theorem puts_law (s : ByteArray) (w : World) (_h : s.size ≤ 140737488351232) : Calls Try.prog 3 #[.string s] w fun e w' => e = .returned (.bool true) ∧ Below w.heap.size w w' := by
  by_cases h : 500 < s.size
  · have g1 : decide ((500 : Int) < (s.size : Int)) = true := decide_eq_true (by omega)
    go_enter Try.func3, Try.ntmps3
    go_wp2_with fail
    refine (awake_any _).mono ?_
    rintro e w1 ⟨rfl, h1⟩
    go_wp2
    go_ret
    exact ⟨rfl, h1⟩
  · have g1 : decide ((500 : Int) < (s.size : Int)) = false := decide_eq_false (by omega)
    go_enter Try.func3, Try.ntmps3
    go_wp2_with fail
    refine (Put_any s _ (by omega)).mono ?_
    rintro e w1 ⟨rfl, h1⟩
    have H1 := Lib.hid h1
    clear h1
    go_wp2_with fail
    refine (put_any s _ (by omega)).mono ?_
    rintro e w2 ⟨rfl, h2⟩
    have H2 := Lib.hid (below_step H1.out (Nat.le_refl _) h2)
    clear h2
    generalize txt ((dig (bitL (bys s)) (many5 s.size)).map letN) = X
    go_wp2_with fail
    refine (awake_any _).mono ?_
    rintro e w3 ⟨rfl, h3⟩
    have H3 := Lib.hid (below_step H2.out (Nat.le_refl _) h3)
    clear h3
    go_wp2
    go_ret
    exact ⟨rfl, H3.out⟩
end Go.Proofs.Ytmfpahnncalcaaa
