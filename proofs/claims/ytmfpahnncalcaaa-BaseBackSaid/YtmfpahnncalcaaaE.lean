/-
  The contract of base.Read.
-/
import Derived.Test.YtmfpahnncalcaaaD
set_option linter.unusedVariables false
set_option linter.unusedSimpArgs false
namespace Go.Proofs.Ytmfpahnncalcaaa
open Go.RowKit
/-- A letter's number. -/
def numN (c : Nat) : Option Nat := (List.range 32).find? fun d => letN d == c
theorem numN_some {c d : Nat} (h : numN c = some d) : d < 32 ∧ letN d = c := by
  have h1 := List.find?_some h
  have h2 := List.mem_of_find?_eq_some h
  exact ⟨by simpa using h2, by simpa using h1⟩
theorem numN_none {c : Nat} (h : numN c = none) : ∀ d, d < 32 → letN d ≠ c := by
  intro d hd e
  have := List.find?_eq_none.1 h d (by simpa using hd)
  simp [e] at this
theorem numN_high {c : Nat} (h : 128 ≤ c) : numN c = none := by
  unfold numN
  rw [List.find?_eq_none]
  intro d hd
  have : d < 32 := by simpa using hd
  simp only [beq_iff_eq]
  unfold letN
  split <;> omega
def digs (l : List Nat) : List Nat := l.map fun c => (numN c).getD 0
theorem digs_len (l : List Nat) : (digs l).length = l.length := by simp [digs]
theorem digs_lt (l : List Nat) : ∀ c ∈ digs l, c < 32 := by
  intro c hc
  simp only [digs, List.mem_map] at hc
  obtain ⟨x, _, rfl⟩ := hc
  cases h : numN x with
  | none => simp
  | some d => exact (numN_some h).1
theorem digs_get (l : List Nat) (j : Nat) (h : j < l.length) : (digs l).getD j 0 = (numN (l.getD j 0)).getD 0 := by
  simp [digs, List.getD_eq_getElem?_getD, h]
def okL (l : List Nat) : Bool := l.all fun c => (numN c).isSome
def readN (l : List Nat) : Option (List Nat) :=
  if okL l = true ∧ 5 * l.length % 8 < 5 ∧ P (bitD (digs l)) (8 * (5 * l.length / 8)) (5 * l.length % 8) = 0 then some (byt (bitD (digs l)) (5 * l.length / 8)) else none
def readV (o : Option (List Nat)) : Value := match o with
  | some bs => .tuple #[.string (txt bs), .int .i64 0]
  | none => .tuple #[.string ⟨#[]⟩, .int .i64 5]
theorem readN_bad {l : List Nat} {j : Nat} (hj : j < l.length) (h : numN (l.getD j 0) = none) : readN l = none := by
  unfold readN
  rw [if_neg]
  rintro ⟨h1, _⟩
  have h2 := List.all_eq_true.1 h1 l[j] (List.getElem_mem hj)
  rw [List.getD_eq_getElem?_getD, List.getElem?_eq_getElem hj] at h
  simp only [Option.getD_some] at h
  rw [h] at h2
  cases h2
theorem iter_kp (w : World) (k : Nat) (s : ByteArray) (pos : Nat) : Kp (fun i => i = k) w (w.iterAt k s pos) := ⟨rfl, rfl, rfl, by rw [Lib.iterAt_size]; exact Nat.le_refl _, fun i hi hn => Lib.iterAt_other w k i s pos hn⟩
set_option maxRecDepth 100000 in
set_option maxHeartbeats 8000000 in
theorem read_any (s : ByteArray) (w : World) (hs : s.size ≤ 100000) : Calls Try.prog 8 #[.string s] w fun e w' => e = .returned (readV (readN (bys s))) ∧ Below w.heap.size w w' := by
  obtain ⟨i0, hi, hz0, hz1, hz2⟩ := info_parts info5
  obtain ⟨D, hDe⟩ : ∃ D, D = digs (bys s) := ⟨_, rfl⟩
  have HDE := Lib.hid hDe
  have HDL : Hid (D.length = s.size ∧ ∀ c ∈ D, c < 32) := Lib.hid (by rw [hDe, digs_len, bys_len]; exact ⟨rfl, digs_lt _⟩)
  clear hDe
  go_enter Try.func8, Try.ntmps8
  go_wp2
  go_loopw [4, 5, 6] (fun v bits mn wr => ∃ pos j m : Nat, pos ≤ s.size ∧ mn = .int .i64 m ∧ 8 * j + m = 5 * pos ∧ m < 8 ∧ bits = .int .i64 (P (bitD D) (8 * j) m) ∧ (∀ i, i < pos → (numN ((bys s).getD i 0)).isSome = true) ∧ wr.ownsRow (w.heap.size + 1) 5 1 v j (rowU (byt (bitD D) j)) ∧ wr.heap[w.heap.size]? = some (.stringIter s pos) ∧ Below w.heap.size w wr) (fun _ _ _ wr => s.size - wr.iterPos w.heap.size)
  case atStart => exact ⟨0, 0, 0, by omega, rfl, rfl, by omega, rfl, fun i h => by omega, own_nil _ _ _ _, World.iter_heap w s 0, below_new _ _⟩
  case round =>
    obtain ⟨pos, j, m, hp, rfl, hjm, hm8, rfl, hok, ho, hit, hb⟩ := hrel
    have hlt0 : w.heap.size < wr.heap.size := (Array.getElem?_eq_some_iff.1 hit).1
    have HO := Lib.hid ho; have HIT := Lib.hid hit; have HB := Lib.hid hb; have HOK := Lib.hid hok
    clear ho hit hb hok
    by_cases hlt : pos < s.size
    · have hnx : ∀ ty, (Instr.next (.pointer (some ⟨w.heap.size, 0, none⟩)) true ty).run Try.prog wr = _ := fun ty => Lib.run_next_any_at wr w.heap.size s pos ty HIT.out hlt
      have HBI := Lib.hid (Lib.below_iterAt HB.out (Nat.le_refl w.heap.size) s (pos + (Utf8.decode s pos).2))
      have hcg := bys_get s pos hlt
      cases hn : numN (s[pos]'hlt).toNat with
      | none =>
        have HRB := Lib.hid (readN_bad (l := bys s) (j := pos) (by rw [bys_len]; exact hlt) (by rw [hcg]; exact hn))
        have hno : ∀ d, d < 32 → letN d ≠ (Utf8.decode s pos).1 := by
          by_cases hc : (s[pos]'hlt).toNat < 128
          · rw [decode_ascii s pos hlt hc]
            exact numN_none hn
          · have := (decode_high s pos hlt (by omega)).1
            intro d hd
            have h3 : letN d < 128 := by unfold letN; split <;> omega
            omega
        clear hn hcg hjm
        go_wp2_with fail
        refine (number_no _ hno _).mono ?_
        rintro e w1 ⟨rfl, hb1⟩
        have HB1 := Lib.hid (below_step HBI.out (Nat.le_refl _) hb1)
        clear hb1
        go_wp2
        go_ret2
        exact ⟨by rw [HRB.out]; rfl, HB1.out⟩
      | some d =>
        obtain ⟨hd, hld⟩ := numN_some hn
        have hc : (s[pos]'hlt).toNat < 128 := by rw [← hld]; unfold letN; split <;> omega
        rw [decode_ascii s pos hlt hc] at hnx HBI
        dsimp only at hnx HBI
        rw [← hld] at hnx
        have hDg : D.getD pos 0 = d := by rw [HDE.out, digs_get _ _ (by rw [bys_len]; exact hlt), hcg, hn]; rfl
        have hX := P_lt (bitD D) (bitD_lt D) (8 * j) m
        have hX2 : P (bitD D) (8 * j) m < 128 := by
          have : 2 ^ m ≤ 2 ^ 7 := Nat.pow_le_pow_right (by omega) (by omega)
          omega
        have HN : Hid (P (bitD D) (8 * j) (m + 5) = 32 * P (bitD D) (8 * j) m + d) := Lib.hid (by
          rw [P_add, show 8 * j + m = 5 * pos from hjm, bitD_digit D HDL.out.2 pos (by rw [HDL.out.1]; exact hlt), hDg]
          omega)
        have HOK2 : Hid (∀ i, i < pos + 1 → (numN ((bys s).getD i 0)).isSome = true) := Lib.hid (fun i hi => by
          by_cases e : i = pos
          · subst e; rw [hcg, hn]; rfl
          · exact HOK.out i (by omega))
        clear hn hcg hDg hld hX hc
        generalize P (bitD D) (8 * j) m = X at hX2 HN ⊢
        have HKI := Lib.hid (iter_kp wr w.heap.size s (pos + 1))
        have HIT2 := Lib.hid (Lib.iterAt_heap wr w.heap.size s pos (pos + 1) HIT.out)
        go_wp2_with fail
        refine (number_yes d hd _).mono ?_
        rintro e w1 ⟨rfl, hb1⟩
        have HO1 := Lib.hid (own_kept (own_kp HO.out HKI.out (fun g hg => by omega)) hb1)
        have HIT3 : Hid (w1.heap[w.heap.size]? = some (.stringIter s (pos + 1))) := Lib.hid (by rw [hb1.block _ (by rw [Lib.iterAt_size]; exact hlt0)]; exact HIT2.out)
        have HB1 := Lib.hid (below_step HBI.out (Nat.le_refl _) hb1)
        have HS1 : Hid (w.heap.size + 1 ≤ w1.heap.size) := Lib.hid (by have h9 := hb1.size; rw [Lib.iterAt_size] at h9; omega)
        clear hb1 hnx
        have w3 := or_five X d (by omega) hd
        rw [← HN.out] at w3
        by_cases h8 : m + 5 < 8
        · have g8 : ¬ (8 : Int) ≤ (m : Int) + 5 := by omega
          have w1' : wrap64 ((X : Int) * 32) = (X : Int) * 32 := wrap64_id (by omega) (by omega)
          go_wp2
          clear w1' w3
          go_roundw
          case rel => exact ⟨pos + 1, j, m + 5, by omega, by refine vint ?_; omega, by omega, by omega, rfl, HOK2.out, HO1.out, HIT3.out, HB1.out⟩
          case measure =>
            have h1 := HIT3.out
            have h2 := HIT.out
            simp only [World.iterPos, h1, h2]
            omega
        · have g8 : (8 : Int) ≤ (m : Int) + 5 := by omega
          obtain ⟨q, hq⟩ : ∃ q : Nat, (m : Int) + 5 - 8 = (q : Int) := ⟨m + 5 - 8, by omega⟩
          have hqm : m + 5 = 8 + q := by omega
          have hq4 : q ≤ 4 := by omega
          have hsp := P_split (bitD D) (bitD_lt D) (8 * j) 8 q
          rw [← hqm] at hsp
          have hY := P_lt (bitD D) (bitD_lt D) (8 * j) (m + 5)
          have hY2 : P (bitD D) (8 * j) (m + 5) < 4096 := by
            have : 2 ^ (m + 5) ≤ 2 ^ 12 := Nat.pow_le_pow_right (by omega) (by omega)
            omega
          have hd8 := P_lt (bitD D) (bitD_lt D) (8 * j) 8
          have w4 := and_mask (P (bitD D) (8 * j) (m + 5)) q (by omega) (by omega)
          rw [hsp.2] at w4
          have w5 := (wrap_pow q (by omega)).1
          have w6 := (wrap_pow q (by omega)).2
          have w7 : wrap64 ((X : Int) * 32) = (X : Int) * 32 := wrap64_id (by omega) (by omega)
          have HBY := Lib.hid (byt_succ (bitD D) j)
          have hsh : ((P (bitD D) (8 * j) (m + 5) : Nat) : Int) / 2 ^ q = ((P (bitD D) (8 * j) 8 : Nat) : Int) := by rw [← hsp.1]; simp
          generalize P (bitD D) (8 * j) (m + 5) = Y at w3 w4 hsh
          generalize P (bitD D) (8 * j) 8 = b at hsh hd8 HBY
          have hb1 : (b : Int) % 256 = (b : Int) := by clear hsh w3 w4 w5 w6 w7; omega
          have HSZ : Hid (j ≤ 1000000) := Lib.hid (by clear hsh w3 w4 w5 w6 w7; omega)
          have HNX : Hid (8 * (j + 1) + q = 5 * (pos + 1)) := Lib.hid (by clear hsh w3 w4 w5 w6 w7; omega)
          clear hsp hY hY2 hqm hjm
          go_wp2_with (at_builtin; refine wpList_append_own _ rfl _ _ 30 rfl (w.heap.size + 1) 5 i0 (.int .u8 0) 1 1 Try.underlying30 hi hz0 hz1 hz2 rfl (by decide) _ _ _ rfl (HO1.out.alloc _) ⟨w1.heap.size, 0, none⟩ 1 1 [.int .u8 b] rfl rfl ?a1 ?a2 ?a3 ?a4 ?a5 ?_)
          case a1 => intro j u hj; exact new_cells _ _ _ j u hj
          case a2 => intro u hu; simp at hu; subst hu; rfl
          case a3 => have := HSZ.out; unfold maxLen; omega
          case a4 => have := HSZ.out; omega
          case a5 => have := HS1.out; simp; omega
          intro v5 wz hown5 hg5 _
          have HB5 : Hid (Below w.heap.size w wz) := Lib.hid ((HB1.out.alloc HB1.out.size _).grown hg5 (by have := HB1.out.size; simp; omega) (fun g hg => by have := (HO1.out.lt g hg).1; omega))
          have HO5 : Hid (wz.ownsRow (w.heap.size + 1) 5 1 v5 (j + 1) (rowU (byt (bitD D) (j + 1)))) := Lib.hid (by rw [HBY.out]; simpa [rowU] using hown5)
          have HIT5 : Hid (wz.heap[w.heap.size]? = some (.stringIter s (pos + 1))) := Lib.hid (by
            rw [hg5.block w.heap.size (by have := HS1.out; simp; omega) (fun e => by have := (HO1.out.lt _ e.symm).1; omega), Below.heap_alloc _ _ _ (by have := HS1.out; omega)]
            exact HIT3.out)
          clear hown5 hg5
          go_wp2
          clear w4 w5 w6 hsh
          go_roundw
          case rel => exact ⟨pos + 1, j + 1, q, by omega, rfl, HNX.out, by omega, by rw [show 8 * (j + 1) = 8 * j + 8 by omega], HOK2.out, HO5.out, HIT5.out, HB5.out⟩
          case measure =>
            have h1 := HIT5.out
            have h2 := HIT.out
            simp only [World.iterPos, h1, h2]
            omega
    · obtain rfl : pos = s.size := by omega
      have hnx : ∀ ty, (Instr.next (.pointer (some ⟨w.heap.size, 0, none⟩)) true ty).run Try.prog wr = _ := fun ty => Lib.run_next_end_at wr w.heap.size s s.size ty HIT.out hlt
      have HRN : Hid (readN (bys s) = if m < 5 ∧ P (bitD D) (8 * j) m = 0 then some (byt (bitD D) j) else none) := Lib.hid (by
        have h1 : okL (bys s) = true := by
          unfold okL
          rw [List.all_eq_true]
          intro c hc
          obtain ⟨i, hi, rfl⟩ := List.getElem_of_mem hc
          have := HOK.out i (by rw [← bys_len]; exact hi)
          rw [List.getD_eq_getElem?_getD, List.getElem?_eq_getElem hi] at this
          exact this
        have h2 : 5 * (bys s).length % 8 = m := by rw [bys_len]; omega
        have h3 : 5 * (bys s).length / 8 = j := by rw [bys_len]; omega
        unfold readN
        rw [h2, h3, h1, ← HDE.out]
        simp)
      by_cases h5 : m < 5
      · have g5 : ¬ (5 : Int) ≤ (m : Int) := by omega
        by_cases hz : P (bitD D) (8 * j) m = 0
        · rw [if_pos ⟨h5, hz⟩] at HRN
          rw [hz]
          have hcv := conv_own HO.out (by rw [byt_len])
          go_wp2
          go_ret2
          exact ⟨by rw [HRN.out]; rfl, HB.out⟩
        · rw [if_neg (fun h => hz h.2)] at HRN
          have b0 : (((P (bitD D) (8 * j) m : Nat) : Int) == 0) = false := by simp only [beq_eq_false_iff_ne, ne_eq]; omega
          generalize P (bitD D) (8 * j) m = X at b0 ⊢
          go_wp2
          go_ret2
          exact ⟨by rw [HRN.out]; rfl, HB.out⟩
      · have g5 : (5 : Int) ≤ (m : Int) := by omega
        rw [if_neg (fun h => h5 h.1)] at HRN
        go_wp2
        go_ret2
        exact ⟨by rw [HRN.out]; rfl, HB.out⟩
end Go.Proofs.Ytmfpahnncalcaaa
