/-
  The contract of sha's Block: the registers behind a block.
-/
import Derived.Test.YtanehgnpominiaaShE
set_option linter.unusedVariables false
set_option linter.unusedSimpArgs false
namespace Go.Proofs.Ytanehgnpominiaa
open Go.RowKit
/-- The registers as a value. -/
def aggS (s : S8) : Value := .agg #[.int .u32 (s.a : Int), .int .u32 (s.b : Int), .int .u32 (s.c : Int), .int .u32 (s.d : Int), .int .u32 (s.e : Int), .int .u32 (s.f : Int), .int .u32 (s.g : Int), .int .u32 (s.h : Int)]
def celS (s : S8) : List Value := [.int .u32 (s.a : Int), .int .u32 (s.b : Int), .int .u32 (s.c : Int), .int .u32 (s.d : Int), .int .u32 (s.e : Int), .int .u32 (s.f : Int), .int .u32 (s.g : Int), .int .u32 (s.h : Int)]
theorem celS_u32 (s : S8) : celS s = u32s s.l := rfl
/-- The blocks of a round: the constants, the words, the registers. -/
structure Rg (K V : List Value) (P5 P6 P7 : Nat) (s : S8) (w0 wr : World) : Prop where
  k : Bk P5 K wr
  v : Bk P6 V wr
  r : Bk P7 (celS s) wr
  n5 : P5 ≠ P7
  n6 : P6 ≠ P7
  kp : Kp (fun k => k = P7) w0 wr
theorem Rg.drew {K V : List Value} {P5 P6 P7 : Nat} {s : S8} {w0 wr : World} (h : Rg K V P5 P6 P7 s w0 wr) : Rg K V P5 P6 P7 s w0 wr.drew := ⟨h.k.drew, h.v.drew, h.r.drew, h.n5, h.n6, h.kp.drew⟩
theorem Rg.put {K V : List Value} {P5 P6 P7 : Nat} {s : S8} {w0 wr : World} (h : Rg K V P5 P6 P7 s w0 wr) (s' : S8) : Rg K V P5 P6 P7 s' w0 (wr.setCells P7 0 (celS s')) := by
  have hk := Kp.setCells (Kp.refl (fun k => k = P7) wr) P7 rfl (celS s') 0
  exact ⟨h.k.kp hk h.n5, h.v.kp hk h.n6, h.r.put rfl, h.n5, h.n6, h.kp.trans hk⟩
theorem rnd_eq (k w : Nat) (s : S8) (O T : Nat) (hO : O = one k w s) (hT : T = two s) : rnd k w s = ⟨(O + T) % 4294967296, s.a, s.b, s.c, (s.d + O) % 4294967296, s.e, s.f, s.g⟩ := by
  rw [hO, hT]; rfl
/-- The first ones of a, the others of h. -/
def mixl (h a : List Nat) (i : Nat) : List Nat := a.take i ++ h.drop i
theorem mixl_len {h a : List Nat} {i : Nat} (hh : h.length = 8) (ha : a.length = 8) (hi : i ≤ 8) : (mixl h a i).length = 8 := by simp [mixl]; omega
theorem mixl_get {h a : List Nat} {i : Nat} (hh : h.length = 8) (ha : a.length = 8) (hi : i < 8) : (mixl h a i).getD i 0 = h.getD i 0 := by
  simp only [mixl, List.getD_eq_getElem?_getD]
  rw [List.getElem?_append_right (by rw [List.length_take]; omega), List.length_take, List.getElem?_drop]
  congr 2; omega
theorem mixl_set {h a : List Nat} {i : Nat} (hh : h.length = 8) (ha : a.length = 8) (hi : i < 8) : (mixl h a i).set i (a.getD i 0) = mixl h a (i + 1) := by
  simp only [mixl]
  rw [List.set_append_right _ _ (by rw [List.length_take]; omega), List.length_take, show i - min i a.length = 0 by omega]
  rw [List.drop_eq_getElem_cons (show i < h.length by omega), List.set_cons_zero, List.take_succ_eq_append_getElem (show i < a.length by omega), List.append_assoc]
  rw [List.getD_eq_getElem?_getD, List.getElem?_eq_getElem (show i < a.length by omega)]
  rfl
theorem addS_get (s r : S8) {i : Nat} (hi : i < 8) : (addS s r).l.getD i 0 = (s.l.getD i 0 + r.l.getD i 0) % 4294967296 := by
  rcases (show i = 0 ∨ i = 1 ∨ i = 2 ∨ i = 3 ∨ i = 4 ∨ i = 5 ∨ i = 6 ∨ i = 7 by omega) with rfl | rfl | rfl | rfl | rfl | rfl | rfl | rfl <;> rfl
theorem S8_get_lt {s : S8} (h : s.ok) (i : Nat) : s.l.getD i 0 < 4294967296 := by
  obtain ⟨h0, h1, h2, h3, h4, h5, h6, h7⟩ := h
  match i with
  | 0 => exact h0
  | 1 => exact h1
  | 2 => exact h2
  | 3 => exact h3
  | 4 => exact h4
  | 5 => exact h5
  | 6 => exact h6
  | 7 => exact h7
  | i + 8 =>
    rw [List.getD_eq_getElem?_getD, List.getElem?_eq_none (by simp [S8.l])]; decide
set_option maxRecDepth 100000 in
set_option maxHeartbeats 8000000 in
theorem block_any (s : S8) (b : ByteArray) (w : World) (hs : s.ok) : Calls Try.prog 62 #[aggS s, .string b] w fun e w' => e = .returned (aggS (blk s (byB b))) ∧ Below w.heap.size w w' := by
  obtain ⟨a0, b0, c0, d0, e0, f0, g0, h0⟩ := s
  obtain ⟨KV, hKV⟩ : ∃ V, V = u32s ksL := ⟨_, rfl⟩
  obtain ⟨WV, hWV⟩ : ∃ V, V = u32s (wds (byB b) 64) := ⟨_, rfl⟩
  have hKl : KV.length = 64 := by rw [hKV]; rfl
  have hWl : WV.length = 64 := by rw [hWV, u32s_len, wds_len]
  have hK1 : ∀ v ∈ KV, v.oneCell' = true := by rw [hKV]; exact u32s_one _
  have hW1 : ∀ v ∈ WV, v.oneCell' = true := by rw [hWV]; exact u32s_one _
  have HKV := Lib.hid hKV
  have HWV := Lib.hid hWV
  clear hKV hWV
  unfold aggS
  go_enter Try.func62, Try.ntmps62
  go_wp2_with fail
  refine (round_any _).mono ?_
  rintro e w1 ⟨rfl, hb1⟩
  rw [← HKV.out]
  have h2 : Bk w.heap.size (celS ⟨a0, b0, c0, d0, e0, f0, g0, h0⟩) w1 := by
    have h9 := (Bk.new w 98 (celS ⟨a0, b0, c0, d0, e0, f0, g0, h0⟩).toArray).keep (below_new _ (.cells #[.int .u32 0, .int .u32 0, .int .u32 0, .int .u32 0, .int .u32 0, .int .u32 0, .int .u32 0, .int .u32 0] 98))
    exact h9.keep hb1
  have h4 : Bk (w.heap.size + 1) [.int .u32 0, .int .u32 0, .int .u32 0, .int .u32 0, .int .u32 0, .int .u32 0, .int .u32 0, .int .u32 0] w1 := by
    have h9 := (Bk.new (w.alloc (.cells (celS ⟨a0, b0, c0, d0, e0, f0, g0, h0⟩).toArray 98)) 98 #[.int .u32 0, .int .u32 0, .int .u32 0, .int .u32 0, .int .u32 0, .int .u32 0, .int .u32 0, .int .u32 0])
    have h8 : (w.alloc (.cells (celS ⟨a0, b0, c0, d0, e0, f0, g0, h0⟩).toArray 98)).heap.size = w.heap.size + 1 := by simp
    rw [h8] at h9
    exact h9.keep hb1
  have hB1 : Below w.heap.size w w1 := ((below_new w _).alloc (by simp) _).trans (hb1.mono (by simp; omega))
  go_wp2_with fail
  refine (sched_any b _).mono ?_
  rintro e w2 ⟨rfl, hb2⟩
  rw [← HWV.out]
  have h2b := h2.keep hb2
  have h4b := h4.keep hb2
  have HB2 := Lib.hid (below_step hB1 (Nat.le_refl _) hb2)
  clear hb1 h2 h4 hB1 hb2
  have HX1 : Hid (∃ X, (Instr.storeAt 114 (.pointer (some ⟨w2.heap.size, 0, none⟩)) (.agg KV.toArray)).run Try.prog ((w2.alloc (.cells #[.int .u32 0, .int .u32 0, .int .u32 0, .int .u32 0, .int .u32 0, .int .u32 0, .int .u32 0, .int .u32 0, .int .u32 0, .int .u32 0, .int .u32 0, .int .u32 0, .int .u32 0, .int .u32 0, .int .u32 0, .int .u32 0, .int .u32 0, .int .u32 0, .int .u32 0, .int .u32 0, .int .u32 0, .int .u32 0, .int .u32 0, .int .u32 0, .int .u32 0, .int .u32 0, .int .u32 0, .int .u32 0, .int .u32 0, .int .u32 0, .int .u32 0, .int .u32 0, .int .u32 0, .int .u32 0, .int .u32 0, .int .u32 0, .int .u32 0, .int .u32 0, .int .u32 0, .int .u32 0, .int .u32 0, .int .u32 0, .int .u32 0, .int .u32 0, .int .u32 0, .int .u32 0, .int .u32 0, .int .u32 0, .int .u32 0, .int .u32 0, .int .u32 0, .int .u32 0, .int .u32 0, .int .u32 0, .int .u32 0, .int .u32 0, .int .u32 0, .int .u32 0, .int .u32 0, .int .u32 0, .int .u32 0, .int .u32 0, .int .u32 0, .int .u32 0] 114)).alloc (.cells #[.int .u32 0, .int .u32 0, .int .u32 0, .int .u32 0, .int .u32 0, .int .u32 0, .int .u32 0, .int .u32 0, .int .u32 0, .int .u32 0, .int .u32 0, .int .u32 0, .int .u32 0, .int .u32 0, .int .u32 0, .int .u32 0, .int .u32 0, .int .u32 0, .int .u32 0, .int .u32 0, .int .u32 0, .int .u32 0, .int .u32 0, .int .u32 0, .int .u32 0, .int .u32 0, .int .u32 0, .int .u32 0, .int .u32 0, .int .u32 0, .int .u32 0, .int .u32 0, .int .u32 0, .int .u32 0, .int .u32 0, .int .u32 0, .int .u32 0, .int .u32 0, .int .u32 0, .int .u32 0, .int .u32 0, .int .u32 0, .int .u32 0, .int .u32 0, .int .u32 0, .int .u32 0, .int .u32 0, .int .u32 0, .int .u32 0, .int .u32 0, .int .u32 0, .int .u32 0, .int .u32 0, .int .u32 0, .int .u32 0, .int .u32 0, .int .u32 0, .int .u32 0, .int .u32 0, .int .u32 0, .int .u32 0, .int .u32 0, .int .u32 0, .int .u32 0] 114)) = .ok () X ∧ ∃ Y, (Instr.storeAt 114 (.pointer (some ⟨w2.heap.size + 1, 0, none⟩)) (.agg WV.toArray)).run Try.prog X = .ok () Y ∧ Bk w2.heap.size KV Y ∧ Bk (w2.heap.size + 1) WV Y ∧ Below w2.heap.size w2 Y) := Lib.hid (by
    have hz : ([.int .u32 0, .int .u32 0, .int .u32 0, .int .u32 0, .int .u32 0, .int .u32 0, .int .u32 0, .int .u32 0, .int .u32 0, .int .u32 0, .int .u32 0, .int .u32 0, .int .u32 0, .int .u32 0, .int .u32 0, .int .u32 0, .int .u32 0, .int .u32 0, .int .u32 0, .int .u32 0, .int .u32 0, .int .u32 0, .int .u32 0, .int .u32 0, .int .u32 0, .int .u32 0, .int .u32 0, .int .u32 0, .int .u32 0, .int .u32 0, .int .u32 0, .int .u32 0, .int .u32 0, .int .u32 0, .int .u32 0, .int .u32 0, .int .u32 0, .int .u32 0, .int .u32 0, .int .u32 0, .int .u32 0, .int .u32 0, .int .u32 0, .int .u32 0, .int .u32 0, .int .u32 0, .int .u32 0, .int .u32 0, .int .u32 0, .int .u32 0, .int .u32 0, .int .u32 0, .int .u32 0, .int .u32 0, .int .u32 0, .int .u32 0, .int .u32 0, .int .u32 0, .int .u32 0, .int .u32 0, .int .u32 0, .int .u32 0, .int .u32 0, .int .u32 0] : List Value).length = 64 := rfl
    have hn1 := Bk.new w2 114 #[.int .u32 0, .int .u32 0, .int .u32 0, .int .u32 0, .int .u32 0, .int .u32 0, .int .u32 0, .int .u32 0, .int .u32 0, .int .u32 0, .int .u32 0, .int .u32 0, .int .u32 0, .int .u32 0, .int .u32 0, .int .u32 0, .int .u32 0, .int .u32 0, .int .u32 0, .int .u32 0, .int .u32 0, .int .u32 0, .int .u32 0, .int .u32 0, .int .u32 0, .int .u32 0, .int .u32 0, .int .u32 0, .int .u32 0, .int .u32 0, .int .u32 0, .int .u32 0, .int .u32 0, .int .u32 0, .int .u32 0, .int .u32 0, .int .u32 0, .int .u32 0, .int .u32 0, .int .u32 0, .int .u32 0, .int .u32 0, .int .u32 0, .int .u32 0, .int .u32 0, .int .u32 0, .int .u32 0, .int .u32 0, .int .u32 0, .int .u32 0, .int .u32 0, .int .u32 0, .int .u32 0, .int .u32 0, .int .u32 0, .int .u32 0, .int .u32 0, .int .u32 0, .int .u32 0, .int .u32 0, .int .u32 0, .int .u32 0, .int .u32 0, .int .u32 0]
    obtain ⟨v1, hv1⟩ : ∃ v1, v1 = w2.alloc (.cells #[.int .u32 0, .int .u32 0, .int .u32 0, .int .u32 0, .int .u32 0, .int .u32 0, .int .u32 0, .int .u32 0, .int .u32 0, .int .u32 0, .int .u32 0, .int .u32 0, .int .u32 0, .int .u32 0, .int .u32 0, .int .u32 0, .int .u32 0, .int .u32 0, .int .u32 0, .int .u32 0, .int .u32 0, .int .u32 0, .int .u32 0, .int .u32 0, .int .u32 0, .int .u32 0, .int .u32 0, .int .u32 0, .int .u32 0, .int .u32 0, .int .u32 0, .int .u32 0, .int .u32 0, .int .u32 0, .int .u32 0, .int .u32 0, .int .u32 0, .int .u32 0, .int .u32 0, .int .u32 0, .int .u32 0, .int .u32 0, .int .u32 0, .int .u32 0, .int .u32 0, .int .u32 0, .int .u32 0, .int .u32 0, .int .u32 0, .int .u32 0, .int .u32 0, .int .u32 0, .int .u32 0, .int .u32 0, .int .u32 0, .int .u32 0, .int .u32 0, .int .u32 0, .int .u32 0, .int .u32 0, .int .u32 0, .int .u32 0, .int .u32 0, .int .u32 0] 114) := ⟨_, rfl⟩
    have hvs : v1.heap.size = w2.heap.size + 1 := by rw [hv1]; simp
    have hvb : Below w2.heap.size w2 v1 := by rw [hv1]; exact below_new _ _
    rw [← hv1] at hn1 ⊢
    have hn2 := Bk.new v1 114 #[.int .u32 0, .int .u32 0, .int .u32 0, .int .u32 0, .int .u32 0, .int .u32 0, .int .u32 0, .int .u32 0, .int .u32 0, .int .u32 0, .int .u32 0, .int .u32 0, .int .u32 0, .int .u32 0, .int .u32 0, .int .u32 0, .int .u32 0, .int .u32 0, .int .u32 0, .int .u32 0, .int .u32 0, .int .u32 0, .int .u32 0, .int .u32 0, .int .u32 0, .int .u32 0, .int .u32 0, .int .u32 0, .int .u32 0, .int .u32 0, .int .u32 0, .int .u32 0, .int .u32 0, .int .u32 0, .int .u32 0, .int .u32 0, .int .u32 0, .int .u32 0, .int .u32 0, .int .u32 0, .int .u32 0, .int .u32 0, .int .u32 0, .int .u32 0, .int .u32 0, .int .u32 0, .int .u32 0, .int .u32 0, .int .u32 0, .int .u32 0, .int .u32 0, .int .u32 0, .int .u32 0, .int .u32 0, .int .u32 0, .int .u32 0, .int .u32 0, .int .u32 0, .int .u32 0, .int .u32 0, .int .u32 0, .int .u32 0, .int .u32 0, .int .u32 0]
    have hn1b := hn1.keep (below_new v1 (.cells #[.int .u32 0, .int .u32 0, .int .u32 0, .int .u32 0, .int .u32 0, .int .u32 0, .int .u32 0, .int .u32 0, .int .u32 0, .int .u32 0, .int .u32 0, .int .u32 0, .int .u32 0, .int .u32 0, .int .u32 0, .int .u32 0, .int .u32 0, .int .u32 0, .int .u32 0, .int .u32 0, .int .u32 0, .int .u32 0, .int .u32 0, .int .u32 0, .int .u32 0, .int .u32 0, .int .u32 0, .int .u32 0, .int .u32 0, .int .u32 0, .int .u32 0, .int .u32 0, .int .u32 0, .int .u32 0, .int .u32 0, .int .u32 0, .int .u32 0, .int .u32 0, .int .u32 0, .int .u32 0, .int .u32 0, .int .u32 0, .int .u32 0, .int .u32 0, .int .u32 0, .int .u32 0, .int .u32 0, .int .u32 0, .int .u32 0, .int .u32 0, .int .u32 0, .int .u32 0, .int .u32 0, .int .u32 0, .int .u32 0, .int .u32 0, .int .u32 0, .int .u32 0, .int .u32 0, .int .u32 0, .int .u32 0, .int .u32 0, .int .u32 0, .int .u32 0] 114))
    obtain ⟨v2, hv2⟩ : ∃ v2, v2 = v1.alloc (.cells #[.int .u32 0, .int .u32 0, .int .u32 0, .int .u32 0, .int .u32 0, .int .u32 0, .int .u32 0, .int .u32 0, .int .u32 0, .int .u32 0, .int .u32 0, .int .u32 0, .int .u32 0, .int .u32 0, .int .u32 0, .int .u32 0, .int .u32 0, .int .u32 0, .int .u32 0, .int .u32 0, .int .u32 0, .int .u32 0, .int .u32 0, .int .u32 0, .int .u32 0, .int .u32 0, .int .u32 0, .int .u32 0, .int .u32 0, .int .u32 0, .int .u32 0, .int .u32 0, .int .u32 0, .int .u32 0, .int .u32 0, .int .u32 0, .int .u32 0, .int .u32 0, .int .u32 0, .int .u32 0, .int .u32 0, .int .u32 0, .int .u32 0, .int .u32 0, .int .u32 0, .int .u32 0, .int .u32 0, .int .u32 0, .int .u32 0, .int .u32 0, .int .u32 0, .int .u32 0, .int .u32 0, .int .u32 0, .int .u32 0, .int .u32 0, .int .u32 0, .int .u32 0, .int .u32 0, .int .u32 0, .int .u32 0, .int .u32 0, .int .u32 0, .int .u32 0] 114) := ⟨_, rfl⟩
    have hvb2 : Below v1.heap.size v1 v2 := by rw [hv2]; exact below_new _ _
    rw [← hv2] at hn2 hn1b ⊢
    rw [hvs] at hn2
    refine ⟨_, run_store_bk hn1b (by rw [hKl]; exact hz.symm) (by rw [hKl]; kernel_rfl) hK1, _, run_store_bk (hn2.kp (Kp.setCells (Kp.refl (fun k => k = w2.heap.size) v2) w2.heap.size rfl KV 0) (by omega)) (by rw [hWl]; exact hz.symm) (by rw [hWl]; kernel_rfl) hW1, ?_, ?_, ?_⟩
    · exact (hn1b.put (by rw [hKl]; exact hz.symm)).kp (Kp.setCells (Kp.refl (fun k => k = w2.heap.size + 1) _) _ rfl WV 0) (by omega)
    · exact (hn2.kp (Kp.setCells (Kp.refl (fun k => k = w2.heap.size) v2) w2.heap.size rfl KV 0) (by omega)).put (by rw [hWl]; exact hz.symm)
    · have hk : Kp (fun k => w2.heap.size ≤ k) v2 ((v2.setCells w2.heap.size 0 KV).setCells (w2.heap.size + 1) 0 WV) := Kp.setCells (Kp.setCells (Kp.refl _ v2) _ (Nat.le_refl _) KV 0) _ (by omega) WV 0
      exact (hvb.trans (hvb2.mono (by omega))).trans (hk.below (by have := hvb.size; have := hvb2.size; omega) (fun k hk => hk)))
  obtain ⟨X, hX1, Y, hX2, hk5, hk6, hbY⟩ := HX1.out
  have HS1 := Lib.hid hX1
  have HS2 := Lib.hid hX2
  have hr2 := h2b.keep hbY
  have hr4 := h4b.keep hbY
  have hsz : w.heap.size + 1 < w2.heap.size := h4b.1
  have HBY := Lib.hid (below_step HB2.out (Nat.le_refl _) hbY)
  obtain ⟨a0', f0'⟩ := hr2.2 0 _ rfl
  obtain ⟨a1', f1'⟩ := hr2.2 1 _ rfl
  obtain ⟨a2', f2'⟩ := hr2.2 2 _ rfl
  obtain ⟨a3', f3'⟩ := hr2.2 3 _ rfl
  obtain ⟨a4', f4'⟩ := hr2.2 4 _ rfl
  obtain ⟨a5', f5'⟩ := hr2.2 5 _ rfl
  obtain ⟨a6', f6'⟩ := hr2.2 6 _ rfl
  obtain ⟨a7', f7'⟩ := hr2.2 7 _ rfl
  have H5 := Lib.hid hk5
  have H6 := Lib.hid hk6
  have H2 := Lib.hid hr2
  have H4 := Lib.hid hr4
  clear hX1 hX2 hk5 hk6 hbY h2b h4b hr2 hr4 HX1
  go_wp2_with (first | (refine wpList_store_run (by rfl) 114 (.tmp 5) _ (by rfl) (by rfl) (by rfl) HS1.out ?_) | (refine wpList_store_run (by rfl) 114 (.tmp 6) _ (by rfl) (by rfl) (by rfl) HS2.out ?_))
  obtain ⟨P5, hP5⟩ : ∃ P, P = w2.heap.size := ⟨_, rfl⟩
  obtain ⟨P7, hP7⟩ : ∃ P, P = Y.heap.size := ⟨_, rfl⟩
  obtain ⟨Y3, hY3⟩ : ∃ Y3, Y3 = Y.alloc (.cells #[.int .u32 (a0 : Int), .int .u32 (b0 : Int), .int .u32 (c0 : Int), .int .u32 (d0 : Int), .int .u32 (e0 : Int), .int .u32 (f0 : Int), .int .u32 (g0 : Int), .int .u32 (h0 : Int)] 99) := ⟨_, rfl⟩
  have hbY3 : Below Y.heap.size Y Y3 := by rw [hY3]; exact below_new _ _
  have HYS : Hid (Y.heap.size < Y3.heap.size) := Lib.hid (by rw [hY3]; simp)
  have hm7 : w2.heap.size + 1 < Y.heap.size := H6.out.1
  have HRG : Hid (Rg KV WV w2.heap.size (w2.heap.size + 1) P7 ⟨a0, b0, c0, d0, e0, f0, g0, h0⟩ Y3 Y3) := Lib.hid ⟨H5.out.keep hbY3, H6.out.keep hbY3, by rw [hP7, hY3]; exact Bk.new Y 99 _, by omega, by omega, Kp.refl _ _⟩
  have H2Y := Lib.hid (H2.out.keep hbY3)
  have H4Y := Lib.hid (H4.out.keep hbY3)
  have HBY3 := Lib.hid (below_step HBY.out (Nat.le_refl _) hbY3)
  have HP7 : Hid (w.heap.size + 1 < P7) := Lib.hid (by omega)
  have HWL : Hid (∀ j, (wds (byB b) 64).getD j 0 < 4294967296) := Lib.hid (fun j => by
    by_cases h : j < (wds (byB b) 64).length
    · rw [List.getD_eq_getElem?_getD, List.getElem?_eq_getElem h]; exact wds_lt (byB_lt b) 64 _ (List.getElem_mem h)
    · rw [List.getD_eq_getElem?_getD, List.getElem?_eq_none (by omega)]; decide)
  have HKL : Hid (∀ j, ksL.getD j 0 < 4294967296) := Lib.hid (fun j => by
    by_cases h : j < ksL.length
    · rw [List.getD_eq_getElem?_getD, List.getElem?_eq_getElem h]; exact ksL_lt _ (List.getElem_mem h)
    · rw [List.getD_eq_getElem?_getD, List.getElem?_eq_none (by omega)]; decide)
  have HKG : Hid (∀ j, j < 64 → KV[j]? = some (.int .u32 (ksL.getD j 0 : Nat))) := Lib.hid (fun j hj => by rw [HKV.out]; exact u32s_get (by rw [ksL_len]; exact hj))
  have HWG : Hid (∀ j, j < 64 → WV[j]? = some (.int .u32 ((wds (byB b) 64).getD j 0 : Nat))) := Lib.hid (fun j hj => by rw [HWV.out]; exact u32s_get (by rw [wds_len]; exact hj))
  obtain ⟨KF, hKF⟩ : ∃ F, F = fun j => ksL.getD j 0 := ⟨_, rfl⟩
  obtain ⟨WF, hWF⟩ : ∃ F, F = fun j => (wds (byB b) 64).getD j 0 := ⟨_, rfl⟩
  obtain ⟨RS, hRS⟩ : ∃ F, F = rnds ksL (wds (byB b) 64) ⟨a0, b0, c0, d0, e0, f0, g0, h0⟩ := ⟨_, rfl⟩
  have HKL : Hid (∀ j, KF j < 4294967296) := Lib.hid (by rw [hKF]; exact HKL.out)
  have HWL : Hid (∀ j, WF j < 4294967296) := Lib.hid (by rw [hWF]; exact HWL.out)
  have HKG : Hid (∀ j, j < 64 → KV[j]? = some (.int .u32 (KF j : Nat))) := Lib.hid (by rw [hKF]; exact HKG.out)
  have HWG : Hid (∀ j, j < 64 → WV[j]? = some (.int .u32 (WF j : Nat))) := Lib.hid (by rw [hWF]; exact HWG.out)
  have HR0 : Hid (RS 0 = ⟨a0, b0, c0, d0, e0, f0, g0, h0⟩) := Lib.hid (by rw [hRS]; rfl)
  have HRN : Hid (∀ t, RS (t + 1) = rnd (KF t) (WF t) (RS t)) := Lib.hid (fun t => by rw [hRS, hKF, hWF]; rfl)
  have HRO : Hid (∀ t, (RS t).ok) := Lib.hid (fun t => by rw [hRS]; exact rnds_ok _ _ hs t)
  have HEND : Hid (blk ⟨a0, b0, c0, d0, e0, f0, g0, h0⟩ (byB b) = addS ⟨a0, b0, c0, d0, e0, f0, g0, h0⟩ (RS 64)) := Lib.hid (by rw [hRS]; rfl)
  rw [← HR0.out] at HRG
  rw [← hY3, ← hP7]
  clear hY3 hKF hWF hRS hbY3 hm7 hK1 hW1 hKl hWl HS1 HS2 a0' f0' a1' f1' a2' f2' a3' f3' a4' f4' a5' f5' a6' f6' a7' f7' hsz
  obtain ⟨P6, hP6⟩ : ∃ P, P = w2.heap.size + 1 := ⟨_, rfl⟩
  rw [← hP6] at HRG ⊢
  rw [← hP5] at HRG ⊢
  clear hP5 hP6 hP7
  go_loopw [20] (fun i wr => ∃ t : Nat, i = .int .i64 t ∧ t ≤ 64 ∧ Rg KV WV P5 P6 P7 (RS t) Y3 wr) (fun i _ => 64 - (intOf i).toNat)
  case atStart => exact ⟨0, rfl, by omega, HRG.out⟩
  case round =>
    obtain ⟨t, rfl, ht, hr⟩ := hrel
    have HRR := Lib.hid hr
    by_cases hlt : t < 64
    · have d1 : (t : Int) < 64 := by omega
      have HN := HRN.out t
      have hok := HRO.out t
      have hkb := HKL.out t
      have hwb := HWL.out t
      have ck := (hr.k.2 t _ (HKG.out t hlt)).1
      have cw := (hr.v.2 t _ (HWG.out t hlt)).1
      obtain ⟨s, hss⟩ : ∃ s, s = RS t := ⟨_, rfl⟩
      obtain ⟨kk, hkk⟩ : ∃ k, k = KF t := ⟨_, rfl⟩
      obtain ⟨ww, hww⟩ : ∃ k, k = WF t := ⟨_, rfl⟩
      rw [← hss] at HRR hr HN hok
      rw [← hkk] at ck hkb HN
      rw [← hww] at cw hwb HN
      have HNN := Lib.hid HN
      clear HN hss hkk hww
      obtain ⟨A, B, C, D, E, F, G, H⟩ := s
      obtain ⟨lA, lB, lC, lD, lE, lF, lG, lH⟩ := hok
      dsimp only at lA lB lC lD lE lF lG lH
      obtain ⟨c0, f0⟩ := hr.r.2 0 _ rfl
      obtain ⟨c1, f1⟩ := hr.r.2 1 _ rfl
      obtain ⟨c2, f2⟩ := hr.r.2 2 _ rfl
      obtain ⟨c3, f3⟩ := hr.r.2 3 _ rfl
      obtain ⟨c4, f4⟩ := hr.r.2 4 _ rfl
      obtain ⟨c5, f5⟩ := hr.r.2 5 _ rfl
      obtain ⟨c6, f6⟩ := hr.r.2 6 _ rfl
      obtain ⟨c7, f7⟩ := hr.r.2 7 _ rfl
      dsimp only at c0 c1 c2 c3 c4 c5 c6 c7
      clear hr
      obtain ⟨x1, hx1⟩ : ∃ x, x = E &&& F := ⟨_, rfl⟩
      obtain ⟨x2, hx2⟩ : ∃ x, x = inv32 E := ⟨_, rfl⟩
      obtain ⟨x3, hx3⟩ : ∃ x, x = x2 &&& G := ⟨_, rfl⟩
      obtain ⟨x4, hx4⟩ : ∃ x, x = x1 ||| x3 := ⟨_, rfl⟩
      have l1 : x1 < 4294967296 := by rw [hx1]; exact and_lt32 lE
      have l2 : x2 < 4294967296 := by rw [hx2]; exact inv32_lt lE
      have l3 : x3 < 4294967296 := by rw [hx3]; exact and_lt32 l2
      have l4 : x4 < 4294967296 := by rw [hx4]; exact or_lt32 l1 l3
      have ex1 : bits .and .u32 (E : Int) (F : Int) = (x1 : Int) := by rw [hx1]; exact u32_and_nat E F lE lF
      have ex2 : bits .xor .u32 IntKind.u32.max (E : Int) = (x2 : Int) := by rw [hx2]; exact u32_xor_nat 4294967295 E (by decide) lE
      have ex3 : bits .and .u32 (x2 : Int) (G : Int) = (x3 : Int) := by rw [hx3]; exact u32_and_nat x2 G l2 lG
      have ex4 : bits .or .u32 (x1 : Int) (x3 : Int) = (x4 : Int) := by rw [hx4]; exact u32_or_nat x1 x3 l1 l3
      have HCH : Hid (ch E F G = x4) := Lib.hid (by rw [hx4, hx3, hx2, hx1]; rfl)
      obtain ⟨y1, hy1⟩ : ∃ x, x = A &&& B := ⟨_, rfl⟩
      obtain ⟨y2, hy2⟩ : ∃ x, x = A ||| B := ⟨_, rfl⟩
      obtain ⟨y3, hy3⟩ : ∃ x, x = C &&& y2 := ⟨_, rfl⟩
      obtain ⟨y4, hy4⟩ : ∃ x, x = y1 ||| y3 := ⟨_, rfl⟩
      have m1 : y1 < 4294967296 := by rw [hy1]; exact and_lt32 lA
      have m2 : y2 < 4294967296 := by rw [hy2]; exact or_lt32 lA lB
      have m3 : y3 < 4294967296 := by rw [hy3]; exact and_lt32 lC
      have m4 : y4 < 4294967296 := by rw [hy4]; exact or_lt32 m1 m3
      have ey1 : bits .and .u32 (A : Int) (B : Int) = (y1 : Int) := by rw [hy1]; exact u32_and_nat A B lA lB
      have ey2 : bits .or .u32 (A : Int) (B : Int) = (y2 : Int) := by rw [hy2]; exact u32_or_nat A B lA lB
      have ey3 : bits .and .u32 (C : Int) (y2 : Int) = (y3 : Int) := by rw [hy3]; exact u32_and_nat C y2 lC m2
      have ey4 : bits .or .u32 (y1 : Int) (y3 : Int) = (y4 : Int) := by rw [hy4]; exact u32_or_nat y1 y3 m1 m3
      have HMJ : Hid (mj A B C = y4) := Lib.hid (by rw [hy4, hy3, hy2, hy1]; rfl)
      clear hx1 hx2 hx3 hx4 hy1 hy2 hy3 hy4
      go_wp2
      refine wp_region_held_drew (S := fun w' => w'.cell? ⟨P7, 0, none⟩ = some (.int .u32 A) ∧ w'.cell? ⟨P7, 4, none⟩ = some (.int .u32 E)) (by kernel_rfl) (by (exact ⟨c0, c4⟩)) (fun hHeld => ?_)
      refine wpAnyH_take (i := 0) (oi := { dst := some 23, op := Go.Op.indexAddr 99 (Go.Operand.tmp 7) (Go.Operand.const (Go.Value.int Go.IntKind.i64 0)), type := 0, pos := "sha.go:65", after := #[], guard := none }) (v := ?_) rfl (by kernel_rfl) (by kernel_rfl) (by kernel_rfl) (fun _ _ _ h => h) (Or.inl ⟨by rfl, ?_⟩) (by assumption) ?_
      (rotate_left; focus (intro wS hSw; obtain ⟨s0', s4'⟩ := hSw; go_simp; (try rw [if_neg (by omega)]); try with_reducible rfl))
      (try simp only [Act.put, List.setIfInBounds_toArray, List.set_cons_zero, List.set_cons_succ])
      refine wpAnyH_take (i := 1) (oi := { dst := some 24, op := Go.Op.load 97 (Go.Operand.tmp 23), type := 97, pos := "sha.go:65", after := #[{ on := 0, ground := Go.Ground.data }], guard := none }) (v := ?_) rfl (by kernel_rfl) (by kernel_rfl) (by kernel_rfl) (fun _ _ _ h => h) (Or.inl ⟨by rfl, ?_⟩) (by assumption) ?_
      (rotate_left; focus (intro wS hSw; obtain ⟨s0', s4'⟩ := hSw; go_simp; (try rw [if_neg (by omega)]); try with_reducible rfl))
      (try simp only [Act.put, List.setIfInBounds_toArray, List.set_cons_zero, List.set_cons_succ])
      refine wpAnyH_take (i := 2) (oi := { dst := some 25, op := Go.Op.indexAddr 99 (Go.Operand.tmp 7) (Go.Operand.const (Go.Value.int Go.IntKind.i64 4)), type := 0, pos := "sha.go:65", after := #[{ on := 4, ground := Go.Ground.gcOnly Go.Departure.lateStores }], guard := none }) (v := ?_) rfl (by kernel_rfl) (by kernel_rfl) (by kernel_rfl) (fun _ _ _ h => h) (Or.inl ⟨by rfl, ?_⟩) (by assumption) ?_
      (rotate_left; focus (intro wS hSw; obtain ⟨s0', s4'⟩ := hSw; go_simp; (try rw [if_neg (by omega)]); try with_reducible rfl))
      (try simp only [Act.put, List.setIfInBounds_toArray, List.set_cons_zero, List.set_cons_succ])
      refine wpAnyH_take (i := 3) (oi := { dst := some 26, op := Go.Op.load 97 (Go.Operand.tmp 25), type := 97, pos := "sha.go:65", after := #[{ on := 2, ground := Go.Ground.data }, { on := 4, ground := Go.Ground.gcOnly Go.Departure.lateStores }], guard := none }) (v := ?_) rfl (by kernel_rfl) (by kernel_rfl) (by kernel_rfl) (fun _ _ _ h => h) (Or.inl ⟨by rfl, ?_⟩) (by assumption) ?_
      (rotate_left; focus (intro wS hSw; obtain ⟨s0', s4'⟩ := hSw; go_simp; (try rw [if_neg (by omega)]); try with_reducible rfl))
      (try simp only [Act.put, List.setIfInBounds_toArray, List.set_cons_zero, List.set_cons_succ])
      refine wpAnyH_take (i := 4) (oi := { dst := some 9, op := Go.Op.assign (Go.Operand.tmp 24), type := 97, pos := "sha.go:65", after := #[{ on := 1, ground := Go.Ground.data }, { on := 0, ground := Go.Ground.phase }, { on := 1, ground := Go.Ground.phase }, { on := 2, ground := Go.Ground.textOnly Go.Departure.lateStores }, { on := 3, ground := Go.Ground.textOnly Go.Departure.lateStores }], guard := none }) (v := ?_) rfl (by kernel_rfl) (by kernel_rfl) (by kernel_rfl) (fun _ _ _ h => h) (Or.inl ⟨by rfl, ?_⟩) (by assumption) ?_
      (rotate_left; focus (intro wS hSw; obtain ⟨s0', s4'⟩ := hSw; go_simp; (try rw [if_neg (by omega)]); try with_reducible rfl))
      (try simp only [Act.put, List.setIfInBounds_toArray, List.set_cons_zero, List.set_cons_succ])
      refine wpAnyH_take (i := 5) (oi := { dst := some 10, op := Go.Op.assign (Go.Operand.tmp 26), type := 97, pos := "sha.go:65", after := #[{ on := 3, ground := Go.Ground.data }, { on := 4, ground := Go.Ground.chain }, { on := 0, ground := Go.Ground.phase }, { on := 1, ground := Go.Ground.phase }, { on := 2, ground := Go.Ground.phase }, { on := 3, ground := Go.Ground.phase }, { on := 4, ground := Go.Ground.phase }], guard := none }) (v := ?_) rfl (by kernel_rfl) (by kernel_rfl) (by kernel_rfl) (fun _ _ _ h => h) (Or.inl ⟨by rfl, ?_⟩) (by assumption) ?_
      (rotate_left; focus (intro wS hSw; obtain ⟨s0', s4'⟩ := hSw; go_simp; (try rw [if_neg (by omega)]); try with_reducible rfl))
      (try simp only [Act.put, List.setIfInBounds_toArray, List.set_cons_zero, List.set_cons_succ])
      refine wpAnyH_done (by kernel_rfl) ?_ _
      go_wp2
      refine wp_region_still_tail 15 (by kernel_rfl) (by kernel_rfl) ?_
      simp only [List.take_succ_cons, List.take_zero, List.drop_succ_cons, List.drop_zero]
      change wpStill _ _ (wr.drew.drew) _ _ _
      repeat still_step
      still_call ((mix_6 E _ lE).mono fun e w' ⟨he, hw⟩ => ⟨he, hw.symm⟩)
      repeat still_step
      refine wpStill_nil ?_
      change wpList _ _ _ _ _ (wr.drew.drew)
      obtain ⟨Z1, hZ1⟩ : ∃ Z, Z = sg 6 11 25 E := ⟨_, rfl⟩
      have lz1 : Z1 < 4294967296 := by rw [hZ1]; exact sg_lt lE
      obtain ⟨O, hO⟩ : ∃ O, O = (H + Z1 + x4 + kk + ww) % 4294967296 := ⟨_, rfl⟩
      have lO : O < 4294967296 := by rw [hO]; exact Nat.mod_lt _ (by decide)
      have HO1 : Hid (O = one kk ww ⟨A, B, C, D, E, F, G, H⟩) := Lib.hid (by rw [hO, hZ1, ← HCH.out]; rfl)
      rw [← hZ1]
      have eO : IntKind.u32.wrap (IntKind.u32.wrap (IntKind.u32.wrap (IntKind.u32.wrap ((H : Int) + (Z1 : Int)) + (x4 : Int)) + (kk : Int)) + (ww : Int)) = (O : Int) := by simp only [IntKind.wrap_u32']; omega
      have HEO := Lib.hid eO
      clear hZ1 hO eO ck cw
      go_wp2_with fail
      rw [HEO.out]
      refine (mix_2 A _ lA).mono ?_
      rintro e v1 ⟨rfl, rfl⟩
      obtain ⟨Z2, hZ2⟩ : ∃ Z, Z = sg 2 13 22 A := ⟨_, rfl⟩
      have lz2 : Z2 < 4294967296 := by rw [hZ2]; exact sg_lt lA
      obtain ⟨T, hT⟩ : ∃ T, T = (Z2 + y4) % 4294967296 := ⟨_, rfl⟩
      have HT1 : Hid (T = two ⟨A, B, C, D, E, F, G, H⟩) := Lib.hid (by rw [hT, hZ2, ← HMJ.out]; rfl)
      have HTT := Lib.hid hT
      rw [← hZ2]
      clear hZ2 hT
      go_wp2
      have e1 : ((O : Int) + ((Z2 : Int) + (y4 : Int))) % 4294967296 = (((O + T) % 4294967296 : Nat) : Int) := by have := HTT.out; omega
      have e2 : ((D : Int) + (O : Int)) % 4294967296 = (((D + O) % 4294967296 : Nat) : Int) := by omega
      refine ⟨⟨t + 1, vint (by omega), by omega, ?_⟩, by simp [intOf]; omega⟩
      rw [e1, e2, HNN.out, rnd_eq kk ww _ O T HO1.out HT1.out]
      exact (HRR.out.put _).drew.drew
    · obtain rfl : t = 64 := by omega
      rw [show ((64 : Nat) : Int) = 64 from rfl]
      obtain ⟨wo, rfl⟩ : ∃ wo : World, wo = wr := ⟨_, rfl⟩
      obtain ⟨st, hst⟩ : ∃ s : S8, s = ⟨a0, b0, c0, d0, e0, f0, g0, h0⟩ := ⟨_, rfl⟩
      have hhl : st.l.length = 8 := rfl
      have hal : (addS st (RS 64)).l.length = 8 := rfl
      have HST0 := Lib.hid hst
      have HHL := Lib.hid hhl
      have HAL := Lib.hid hal
      obtain ⟨al, hal2⟩ : ∃ a, a = (addS st (RS 64)).l := ⟨_, rfl⟩
      obtain ⟨hl, hhl2⟩ : ∃ a, a = st.l := ⟨_, rfl⟩
      obtain ⟨rl, hrl2⟩ : ∃ a, a = (RS 64).l := ⟨_, rfl⟩
      have HGET : Hid (∀ i, i < 8 → al.getD i 0 = (hl.getD i 0 + rl.getD i 0) % 4294967296) := Lib.hid (fun i hi => by rw [hal2, hhl2, hrl2]; exact addS_get _ _ hi)
      have HLH : Hid (∀ i, hl.getD i 0 < 4294967296) := Lib.hid (fun i => by rw [hhl2, hst]; exact S8_get_lt hs i)
      have HLR : Hid (∀ i, rl.getD i 0 < 4294967296) := Lib.hid (fun i => by rw [hrl2]; exact S8_get_lt (HRO.out 64) i)
      have HRB : Hid (Bk P7 (u32s rl) wo) := Lib.hid (by rw [hrl2, ← celS_u32]; exact hr.r)
      have HRL : Hid (rl.length = 8) := Lib.hid (by rw [hrl2]; rfl)
      rw [← hal2] at HAL
      rw [← hhl2] at HHL
      have HAL2 := Lib.hid hal2
      have HB0 : Hid (Bk w.heap.size (u32s (mixl hl al 0)) wo) := Lib.hid (by
        have e : mixl hl al 0 = hl := by simp [mixl]
        rw [e, hhl2, hst]
        exact H2Y.out.kp hr.kp (by have := HP7.out; omega))
      have HR4 : Hid (Bk (w.heap.size + 1) [.int .u32 0, .int .u32 0, .int .u32 0, .int .u32 0, .int .u32 0, .int .u32 0, .int .u32 0, .int .u32 0] wo) := Lib.hid (H4Y.out.kp hr.kp (by have := HP7.out; omega))
      have HBW : Hid (Below w.heap.size w wo) := Lib.hid (HBY3.out.trans (hr.kp.below HBY3.out.size (fun k hk => by have := HP7.out; omega)))
      have HLT7 : Hid (w.heap.size + 1 < P7) := HP7
      clear hr hst hhl hal hal2 hhl2 hrl2
      go_wp2
      go_loopw [87] (fun i wx => ∃ k : Nat, i = .int .i64 k ∧ k ≤ 8 ∧ Bk w.heap.size (u32s (mixl hl al k)) wx ∧ Kp (fun k => k = w.heap.size) wo wx) (fun i _ => 8 - (intOf i).toNat)
      case atStart => exact ⟨0, rfl, by omega, HB0.out, Kp.refl _ _⟩
      case round =>
        obtain ⟨k, rfl, hk, hbk, hkp⟩ := hrel
        by_cases hlt3 : k < 8
        · have d3 : (k : Int) < 8 := by omega
          have hml := mixl_len HHL.out HAL.out (i := k) (by omega)
          obtain ⟨c0, f0⟩ := hbk.2 k _ (u32s_get (by rw [hml]; exact hlt3))
          rw [mixl_get HHL.out HAL.out hlt3] at c0
          obtain ⟨c1, f1⟩ := (HRB.out.kp hkp (by have := HLT7.out; omega)).2 k _ (u32s_get (by rw [HRL.out]; exact hlt3))
          have lh := HLH.out k
          have lr := HLR.out k
          have hset := hbk.set k (by rw [u32s_len, hml]; exact hlt3) (.int .u32 (al.getD k 0 : Nat))
          rw [u32s_set, mixl_set HHL.out HAL.out hlt3] at hset
          have hg := HGET.out k hlt3
          obtain ⟨x, hx⟩ : ∃ x, x = hl.getD k 0 := ⟨_, rfl⟩
          obtain ⟨y, hy⟩ : ∃ x, x = rl.getD k 0 := ⟨_, rfl⟩
          obtain ⟨z, hz⟩ : ∃ x, x = al.getD k 0 := ⟨_, rfl⟩
          rw [← hx] at c0 lh hg
          rw [← hy] at c1 lr hg
          rw [← hz] at hset hg
          have eZ : ((x : Int) + (y : Int)) % 4294967296 = (z : Int) := by omega
          have HEZ := Lib.hid eZ
          have HSET := Lib.hid hset.drew
          have HKP := Lib.hid ((hkp.set w.heap.size k (.int .u32 (z : Int)) rfl).drew)
          clear hset hg eZ hml hx hy hz hbk
          go_wp2
          refine wp_region_still_tail 8 (by kernel_rfl) (by kernel_rfl) ?_
          simp only [List.take_succ_cons, List.take_zero, List.drop_succ_cons, List.drop_zero]
          change wpStill _ _ (wr.drew) _ _ _
          repeat still_step
          refine wpStill_nil ?_
          change wpList _ _ _ _ _ (wr.drew)
          go_wp2
          rw [HEZ.out]
          go_roundw
          case rel => exact ⟨k + 1, vint (by omega), by omega, HSET.out, HKP.out⟩
          case measure => simp [intOf]; omega
        · obtain rfl : k = 8 := by omega
          rw [show ((8 : Nat) : Int) = 8 from rfl]
          have e8 : mixl hl al 8 = al := by
            simp only [mixl]
            rw [List.drop_of_length_le (by rw [HHL.out]; exact Nat.le_refl _), List.append_nil, List.take_of_length_le (by rw [HAL.out]; exact Nat.le_refl _)]
          rw [e8] at hbk
          obtain ⟨V, hV⟩ : ∃ V, V = u32s al := ⟨_, rfl⟩
          have hVl : V.length = 8 := by rw [hV, u32s_len]; exact HAL.out
          rw [← hV] at hbk
          have hV1 : ∀ v ∈ V, v.oneCell' = true := by rw [hV]; exact u32s_one _
          have hR0 := HR4.out.kp hkp (by omega)
          have hbx : Below w.heap.size w wr := HBW.out.trans (hkp.below HBW.out.size (fun k hk => by omega))
          have HLD : Hid ((Instr.loadAt 98 (.pointer (some ⟨w.heap.size, 0, none⟩))).run Try.prog wr = .ok (.agg V.toArray) wr) := Lib.hid (load_agg (t := 98) (fun _ => by kernel_rfl) (fun _ => by rw [hVl]; kernel_rfl) hbk)
          have HST : Hid ((Instr.storeAt 98 (.pointer (some ⟨w.heap.size + 1, 0, none⟩)) (.agg V.toArray)).run Try.prog wr = .ok () (wr.setCells (w.heap.size + 1) 0 V)) := Lib.hid (run_store_bk hR0 (by rw [hVl]; rfl) (by rw [hVl]; kernel_rfl) hV1)
          have HRES : Hid ((loadVar 98 ⟨w.heap.size + 1, 0, none⟩).run Try.prog (wr.setCells (w.heap.size + 1) 0 V) = .ok (.agg V.toArray) (wr.setCells (w.heap.size + 1) 0 V)) := Lib.hid (load_var (t := 98) (fun _ => by kernel_rfl) (fun _ => by rw [hVl]; kernel_rfl) (hR0.put (by rw [hVl]; rfl)))
          have HBF : Hid (Below w.heap.size w (wr.setCells (w.heap.size + 1) 0 V)) := Lib.hid (hbx.trans ((Kp.setCells (Kp.refl (fun k => k = w.heap.size + 1) wr) _ rfl V 0).below hbx.size (fun k hk => by omega)))
          have HFIN : Hid (Value.agg V.toArray = aggS (blk ⟨a0, b0, c0, d0, e0, f0, g0, h0⟩ (byB b))) := Lib.hid (by
            rw [hV, HAL2.out, HEND.out, HST0.out]; rfl)
          clear hbk hkp hR0 hbx hV1 hVl hV e8
          go_wp2_with (first | (refine wpList_load_run (by rfl) 98 _ (by rfl) (by rfl) HLD.out ?_) | (refine wpList_store_run (by rfl) 98 _ _ (by rfl) (by rfl) (by rfl) HST.out ?_))
          (try simp only [Exit.inBlock, Exit.then])
          refine bodyPost_ret (res_one rfl rfl HRES.out) rfl ?_
          refine ⟨?_, HBF.out⟩
          rw [HFIN.out]; rfl
end Go.Proofs.Ytanehgnpominiaa

