/-
  The contracts of chunk.Manifest and of the document's. The contract of the document's Manifest.
-/
import Derived.Test.YtanehgnpominiaaX3
import Derived.Test.YtanehgnpominiaaHeldt
set_option linter.unusedVariables false
set_option linter.unusedSimpArgs false
set_option maxRecDepth 100000
namespace Go.Proofs.Ytanehgnpominiaa
open Go.RowKit
/-- What Manifest gives: how long the bytes are, and the chunks; their ids; the error's number. -/
def manV (s : ByteArray) (n : Int) : Int × Int × List ByteArray × Int :=
  if (cutV s n).2 = 0 then ((s.size : Int), n, (cutV s n).1.map idV, 0) else (0, 0, [], (cutV s n).2)
def mf (S C : Int) (a : Option Addr) (n c : Nat) : Value := .agg #[.int .i64 S, .int .i64 C, .slice a n c]
def manE (x : Int × Int × List ByteArray × Int) (w w' : World) (e : Ending) : Prop := ∃ a c, e = .returned (.tuple #[mf x.1 x.2.1 a x.2.2.1.length c, .int .i64 x.2.2.2]) ∧ Sl strC 1 w' a x.2.2.1 ∧ Below w.heap.size w w'
theorem cutV_small (s : ByteArray) (n : Int) (h : (cutV s n).2 = 0) : ∀ x ∈ (cutV s n).1, x.size ≤ 4096 := by
  unfold cutV at h ⊢
  intro x hx
  split at hx
  · cases hx
  · next h1 =>
    split at hx
    · cases hx
    · obtain ⟨j, hj, rfl⟩ := List.getElem_of_mem hx
      have := cuts_sizes (n := n.toNat) (by omega) j s hj
      show (cuts n.toNat s)[j].size ≤ 4096
      omega
theorem cutV_len (s : ByteArray) (n : Int) : (cutV s n).1.length ≤ 4096 := by
  unfold cutV
  split
  · simp
  · split
    · simp
    · next h1 h2 => rw [cuts_many (by omega) s.size s (Nat.le_refl _)]; omega
theorem map_next (l : List ByteArray) (j : Nat) (hj : j < l.length) : (l.take (j + 1)).map idV = (l.take j).map idV ++ [idV l[j]] := by
  rw [takeT_next l j hj, List.map_append]; rfl
theorem sl_kpS {α : Type} {enc : α → List Value} {size : Nat} {S : Nat → Prop} {w w2 : World} {a : Option Addr} {xs : List α} (h : Sl enc size w a xs) (k : Kp S w w2) (hS : ∀ b, b < w.heap.size → ¬ S b) : Sl enc size w2 a xs := by
  intro i hi
  obtain ⟨b, o, ha, hlt, hc⟩ := h i hi
  refine ⟨b, o, ha, Nat.lt_of_lt_of_le hlt k.size, fun j v hv => ?_⟩
  rw [k.cell (p := ⟨b, o + i * size + j, none⟩) hlt (hS b hlt)]
  exact hc j v hv
theorem Kp.trans' {S : Nat → Prop} {a b c : World} (h : Kp S a b) (k : Kp (fun i => a.heap.size ≤ i) b c) : Kp S a c :=
  ⟨k.os.trans h.os, k.tape.trans h.tape, k.output.trans h.output, Nat.le_trans h.size k.size, fun i hi hn => (k.block i (Nat.lt_of_lt_of_le hi h.size) (by omega)).trans (h.block i hi hn)⟩
theorem own_some1 {w : World} {B : Nat} {e : TypeId} {size n : Nat} {v : Value} {xs : List Value} (h : w.ownsRow B e size v (n + 1) xs) : ∃ g cap, v = .slice (some ⟨g, 0, none⟩) (n + 1) cap := ownsRow_succ h
set_option maxHeartbeats 8000000 in
theorem man_any (s : ByteArray) (n : Int) (w : World) (hs : s.size ≤ 140737488355328) : Calls Try.prog 11 #[.string s, .int .i64 n] w fun e w' => manE (manV s n) w w' e := by
  obtain ⟨i0, hi0, hz0, hz1, hz2⟩ := info_parts infoStr
  have hA := Bk.new w 31 #[.int .i64 0, .int .i64 0, .slice none 0 0]
  have HB0 := Lib.hid (below_new w (.cells #[.int .i64 0, .int .i64 0, .slice none 0 0] 31))
  have HA0 := Lib.hid hA
  have HZ0 : Hid ((w.alloc (.cells #[.int .i64 0, .int .i64 0, .slice none 0 0] 31)).heap.size = w.heap.size + 1) := Lib.hid (by simp)
  have T := Lib.hid (ccut_any s n (w.alloc (.cells #[.int .i64 0, .int .i64 0, .slice none 0 0] 31)))
  clear hA
  unfold cutE at T
  have HSM := Lib.hid (cutV_small s n)
  have hlen := cutV_len s n
  have HMV : Hid (manV s n = if (cutV s n).2 = 0 then ((s.size : Int), n, (cutV s n).1.map idV, 0) else (0, 0, [], (cutV s n).2)) := Lib.hid rfl
  generalize manV s n = MV at *
  generalize cutV s n = CV at *
  obtain ⟨L, er⟩ := CV
  dsimp only at *
  unfold manE mf
  go_enter Try.func11, Try.ntmps11
  go_wp2_with fail
  refine T.out.mono ?_
  rintro e w1 ⟨al, cl, rfl, hlc, hsl, hb⟩
  have HSL := Lib.hid hsl; have HA1 := Lib.hid (HA0.out.keep hb); have HB1 := Lib.hid (below_cons HB0.out hb); have HZ1 := Lib.hid (show w.heap.size < w1.heap.size by have := hb.size; have := HZ0.out; omega)
  clear hsl hb T HA0 HB0
  by_cases he : er = 0
  · subst he
    have HMV2 := Lib.hid (HMV.out.trans (if_pos rfl))
    have hbn := below_new w1 (.cells #[.int .i64 s.size, .int .i64 n, .slice none 0 0] 31)
    have hM := Bk.new w1 31 #[.int .i64 s.size, .int .i64 n, .slice none 0 0]
    have HM0 := Lib.hid hM; have HB2 := Lib.hid (below_cons HB1.out hbn); have HA2 := Lib.hid (HA1.out.keep hbn); have HSL2 := Lib.hid (HSL.out.keep hbn)
    have HZ2 : Hid ((w1.alloc (.cells #[.int .i64 s.size, .int .i64 n, .slice none 0 0] 31)).heap.size = w1.heap.size + 1) := Lib.hid (by simp)
    obtain ⟨NL, hNL⟩ : ∃ x, x = L.length := ⟨_, rfl⟩
    have HNL := Lib.hid hNL
    rw [← hNL] at hlen hlc ⊢
    clear hM hbn hNL HMV
    go_wp2
    have HKN := Lib.hid (Kp.new (S := fun k => k = w1.heap.size) (below_new w1 (.cells #[.int .i64 s.size, .int .i64 n, .slice none 0 0] 31)))
    generalize (w1.alloc (.cells #[.int .i64 s.size, .int .i64 n, .slice none 0 0] 31)) = W2 at *
    have HSX := Lib.hid (fun wr (h : Kp (fun k => k = w1.heap.size) W2 wr) => sl_kpS HSL.out (HKN.out.trans h) (fun b hb e => by omega))
    have HAX := Lib.hid (fun wr (h : Kp (fun k => k = w1.heap.size) W2 wr) => HA1.out.kp (HKN.out.trans h) (fun e => by have h := HZ1.out; rw [e] at h; exact absurd h (Nat.lt_irrefl _)))
    have HBX := Lib.hid (fun wr (h : Kp (fun k => k = w1.heap.size) W2 wr) => HB1.out.trans ((HKN.out.trans h).below HB1.out.size (fun j hj => by have := HZ1.out; omega)))
    obtain ⟨A, hA⟩ : ∃ x, x = w1.heap.size := ⟨_, rfl⟩
    rw [← hA] at HM0 HSX HAX HBX HZ2 ⊢
    have HAE := Lib.hid hA
    clear hA HKN
    go_loopw [27] (fun i wr => ∃ (j : Nat) (vi : Value), i = .int .i64 j ∧ j ≤ NL ∧ Bk A [.int .i64 s.size, .int .i64 n, vi] wr ∧ wr.ownsRow W2.heap.size 9 1 vi ((L.take j).map idV).length (((L.take j).map idV).flatMap strC) ∧ Kp (fun k => k = A) W2 wr) (fun i _ => NL - (intOf i).toNat)
    case atStart => exact ⟨0, .slice none 0 0, rfl, by omega, HM0.out, own_nil _ _ _ _, Kp.refl _ _⟩
    case round =>
      obtain ⟨j, vi, rfl, hj, hbk, hown, hkp⟩ := hrel
      have HO := Lib.hid hown; have HK := Lib.hid hkp
      have hnl : ((L.take j).map idV).length ≤ 4096 := by rw [List.length_map]; have := List.length_take_le j L; have := HNL.out; omega
      obtain ⟨ai, ci, rfl⟩ : ∃ a c, vi = .slice a ((L.take j).map idV).length c := by
        obtain ⟨a, c, h, _⟩ := own_sl (enc := strC) (size := 1) (fun _ => rfl) (by decide) hown
        exact ⟨a, c, h⟩
      by_cases hlt : j < NL
      · have hjl : j < L.length := by rw [← HNL.out]; exact hlt
        obtain ⟨b2, o2, rfl, hb2, c0⟩ := slT_str (HSX.out wr hkp) j hjl
        have HMN := Lib.hid (map_next L j hjl)
        have hsz := HSM.out trivial L[j] (List.getElem_mem hjl)
        have HT := Lib.hid (fun W => id_any L[j] W (by omega))
        generalize (L.take j).map idV = ids at *
        generalize L[j] = x at *
        generalize idV x = ix at *
        have hP0 : Bk A [.int .i64 s.size, .int .i64 n, .slice ai ids.length ci] wr.drew := hbk
        clear hbk hown hkp
        go_wp2_with fail
        refine wp_region_T (S := fun w' => Bk A [.int .i64 s.size, .int .i64 n, .slice ai ids.length ci] w') 7 (by kernel_rfl) (by (first | exact hP0 | exact hP1 | exact hP2 | exact hP3)) (fun hHeld => ?_)
        refine wpAnyT_take (i := 0) (oi := { dst := some 31, op := Go.Op.fieldAddr 31 (Go.Operand.tmp 8) 2, type := 0, pos := "chunk.go:52", after := #[], guard := none }) (v := ?_) rfl (by kernel_rfl) (by kernel_rfl) (by kernel_rfl) (by kernel_rfl) (fun _ _ _ h => h) (Or.inl ⟨by rfl, ?_⟩) (by assumption) ?_
        (rotate_left; focus (intro wS hSw; have s2 := (hSw.2 2 _ rfl).1; clear hSw; go_simp; (try rw [if_neg (by omega)]); try with_reducible rfl))
        (try simp only [Act.put, List.setIfInBounds_toArray, List.set_cons_zero, List.set_cons_succ])
        refine wpAnyT_take (i := 1) (oi := { dst := some 32, op := Go.Op.load 23 (Go.Operand.tmp 31), type := 23, pos := "chunk.go:52", after := #[{ on := 0, ground := Go.Ground.data }], guard := none }) (v := ?_) rfl (by kernel_rfl) (by kernel_rfl) (by kernel_rfl) (by kernel_rfl) (fun _ _ _ h => h) (Or.inl ⟨by rfl, ?_⟩) (by assumption) ?_
        (rotate_left; focus (intro wS hSw; have s2 := (hSw.2 2 _ rfl).1; clear hSw; go_simp; (try rw [if_neg (by omega)]); try with_reducible rfl))
        (try simp only [Act.put, List.setIfInBounds_toArray, List.set_cons_zero, List.set_cons_succ])
        refine wpAnyT_take (i := 2) (oi := { dst := some 33, op := Go.Op.move (Go.Operand.tmp 10), type := 9, pos := "chunk.go:52", after := #[], guard := none }) (v := ?_) rfl (by kernel_rfl) (by kernel_rfl) (by kernel_rfl) (by kernel_rfl) (fun _ _ _ h => h) (Or.inl ⟨by rfl, ?_⟩) (by assumption) ?_
        (rotate_left; focus (intro wS hSw; have s2 := (hSw.2 2 _ rfl).1; clear hSw; go_simp; (try rw [if_neg (by omega)]); try with_reducible rfl))
        (try simp only [Act.put, List.setIfInBounds_toArray, List.set_cons_zero, List.set_cons_succ])
        refine wpAnyT_ready (rs := [3]) (by kernel_rfl) (by simp) ?_
        refine AllReadyT.cons (o := { dst := some 34, op := Go.Op.call { callee := Go.Callee.value (Go.Operand.func 26), args := #[Go.Operand.tmp 33], argTypes := #[9] }, type := 9, pos := "chunk.go:52", after := #[{ on := 2, ground := Go.Ground.data }], guard := none }) rfl (fun K hK => ?_) AllReadyT.nil
        go_simp
        refine (HT.out _).mono ?_
        rintro e w3 ⟨rfl, hb⟩
        have hP1 := hP0.keep hb
        have HO3 := Lib.hid (own_kept HO.out.drew hb); have HK3 := Lib.hid (HK.out.drew.trans (Kp.new hb))
        clear hb
        (try go_wp2_with fail)
        refine hK.out _ _ (by (first | exact hP0 | exact hP1 | exact hP2 | exact hP3)) (fun hHeld => ?_)
        clear hK K
        (try simp only [Act.put, List.setIfInBounds_toArray, List.set_cons_zero, List.set_cons_succ])
        refine wpAnyT_ready (rs := [4]) (by kernel_rfl) (by simp) ?_
        refine AllReadyT.cons (o := { dst := some 35, op := Go.Op.buildSlice 23 1 #[(0, Go.Operand.tmp 34)], type := 23, pos := "chunk.go:52", after := #[{ on := 3, ground := Go.Ground.data }], guard := none }) rfl (fun K hK => ?_) AllReadyT.nil
        go_simp
        have hP2 := hP1.keep (below_new w3 (.cells #[.string ix] 9))
        refine hK.out _ _ (by (first | exact hP0 | exact hP1 | exact hP2 | exact hP3)) (fun hHeld => ?_)
        clear hK K
        (try simp only [Act.put, List.setIfInBounds_toArray, List.set_cons_zero, List.set_cons_succ])
        refine wpAnyT_ready (rs := [5]) (by kernel_rfl) (by simp) ?_
        refine AllReadyT.cons (o := { dst := some 36, op := Go.Op.call { callee := Go.Callee.builtin Go.Builtin.append, args := #[Go.Operand.tmp 32, Go.Operand.tmp 35], argTypes := #[23, 23] }, type := 23, pos := "chunk.go:52", after := #[{ on := 1, ground := Go.Ground.data }, { on := 4, ground := Go.Ground.data }, { on := 3, ground := Go.Ground.chain }], guard := none }) rfl (fun K hK => ?_) AllReadyT.nil
        refine wp_append_own_at _ _ _ 23 rfl W2.heap.size 9 i0 (.string ByteArray.empty) 1 16 Try.underlying23 hi0 hz0 hz1 hz2 rfl (by decide) (.slice ai ids.length ci) ids.length (ids.flatMap strC) rfl (HO3.out.alloc _) ⟨w3.heap.size, 0, none⟩ 1 1 [.string ix] rfl rfl ?a1 ?a2 ?a3 ?a4 ?a5 ?_
        case a1 => intro q u hq; exact new_cells w3 _ _ q u hq
        case a2 => intro u hu; simp at hu; rcases hu with rfl; rfl
        case a3 => unfold maxLen; omega
        case a4 => omega
        case a5 => have := HK3.out.size; simp; omega
        intro v5 w5 hown5 hg5 hat5
        have hneA : A < W2.heap.size := by rw [HZ2.out]; omega
        have hk5 : Kp (fun k => W2.heap.size ≤ k) w3 w5 := ((Kp.refl _ w3).alloc (.cells #[.string ix] 9)).trans (Kp.grown hg5 (fun q hq => (HO3.out.lt q hq).1))
        have hP3 := hP1.kp hk5 (by omega)
        have hk6 : Kp (fun k => k = A) W2 w5 := HK3.out.trans' hk5
        have f2 := (hP3.2 2 _ rfl).2
        have c2 := (hP3.2 2 _ rfl).1
        obtain ⟨g5, c5, rfl⟩ := own_some1 hown5
        have HB6 := Lib.hid (hP3.set 2 (by simp) (.slice (some ⟨g5, 0, none⟩) (ids.length + 1) c5))
        have HK6 := Lib.hid (hk6.set A 2 (.slice (some ⟨g5, 0, none⟩) (ids.length + 1) c5) rfl)
        have HO6 : Hid ((w5.setCell ⟨A, 2, none⟩ (.slice (some ⟨g5, 0, none⟩) (ids.length + 1) c5)).ownsRow W2.heap.size 9 1 (.slice (some ⟨g5, 0, none⟩) (ids.length + 1) c5) (ids ++ [ix]).length ((ids ++ [ix]).flatMap strC)) := Lib.hid (by
        rw [List.length_append, List.flatMap_append]
        exact own_kp2 hown5 (Kp.set (S := fun k => k = A) (Kp.refl _ w5) A 2 _ rfl) (fun g hg e => by have := (hown5.lt g hg).1; omega))
        clear hown5 hg5 hat5 hk5 hk6
        refine hK.out _ _ (by (first | exact hP0 | exact hP1 | exact hP2 | exact hP3)) (fun hHeld => ?_)
        clear hK K
        (try simp only [Act.put, List.setIfInBounds_toArray, List.set_cons_zero, List.set_cons_succ])
        refine wpAnyT_take (i := 6) (oi := { dst := some 37, op := Go.Op.fieldAddr 31 (Go.Operand.tmp 8) 2, type := 0, pos := "chunk.go:52", after := #[{ on := 0, ground := Go.Ground.phase }, { on := 1, ground := Go.Ground.phase }, { on := 2, ground := Go.Ground.phase }, { on := 3, ground := Go.Ground.phase }, { on := 4, ground := Go.Ground.phase }, { on := 5, ground := Go.Ground.phase }], guard := none }) (v := ?_) rfl (by kernel_rfl) (by kernel_rfl) (by kernel_rfl) (by kernel_rfl) (fun _ _ _ h => h) (Or.inl ⟨by rfl, ?_⟩) (by assumption) ?_
        (rotate_left; focus (intro wS hSw; have s2 := (hSw.2 2 _ rfl).1; clear hSw; go_simp; (try rw [if_neg (by omega)]); try with_reducible rfl))
        (try simp only [Act.put, List.setIfInBounds_toArray, List.set_cons_zero, List.set_cons_succ])
        refine wpAnyT_ready (rs := [7]) (by kernel_rfl) (by simp) ?_
        refine AllReadyT.last (o := { dst := none, op := Go.Op.store 23 (Go.Operand.tmp 37) (Go.Operand.tmp 36), type := 0, pos := "chunk.go:52", after := #[{ on := 6, ground := Go.Ground.data }, { on := 5, ground := Go.Ground.data }, { on := 5, ground := Go.Ground.chain }, { on := 0, ground := Go.Ground.phase }, { on := 1, ground := Go.Ground.phase }, { on := 2, ground := Go.Ground.phase }, { on := 3, ground := Go.Ground.phase }, { on := 4, ground := Go.Ground.phase }, { on := 5, ground := Go.Ground.phase }], guard := none }) rfl (fun K hK => ?_)
        go_simp
        refine hK.out _ _ ?_
        clear hK K
        (try simp only [Act.put, List.setIfInBounds_toArray, List.set_cons_zero, List.set_cons_succ])
        refine wpAnyT_done (by kernel_rfl) ?_ _
        clear hP0 hP1 hP2 hP3 c2 f2 c0
        go_wp2
        go_roundw
        case rel => exact ⟨j + 1, .slice (some ⟨g5, 0, none⟩) (ids.length + 1) c5, by go_num, by omega, HB6.out, by rw [HMN.out]; exact HO6.out, HK6.out⟩
        case measure => simp [intOf]; omega
      · obtain rfl : j = NL := by omega
        have HIE : Hid ((L.take j).map idV = L.map idV) := Lib.hid (by rw [List.take_of_length_le (by rw [← HNL.out]; exact Nat.le_refl _)])
        generalize (L.take j).map idV = ids at *
        have m0 := (hbk.2 0 _ rfl).1; have m1 := (hbk.2 1 _ rfl).1; have m2 := (hbk.2 2 _ rfl).1
        have ha := HAX.out wr hkp
        have a0 := (ha.2 0 _ rfl).1; have a1 := (ha.2 1 _ rfl).1; have a2 := (ha.2 2 _ rfl).1; have b0 := (ha.2 0 _ rfl).2; have b1 := (ha.2 1 _ rfl).2; have b2 := (ha.2 2 _ rfl).2
        have hx4 := ((ha.set 0 (by simp) (.int .i64 s.size)).set 1 (by simp) (.int .i64 n)).set 2 (by simp) (.slice ai ids.length ci)
        have hk4 := (((Kp.refl (fun k => k = w.heap.size) wr).set w.heap.size 0 (.int .i64 s.size) rfl).set w.heap.size 1 (.int .i64 n) rfl).set w.heap.size 2 (.slice ai ids.length ci) rfl
        have HL4 := Lib.hid (load_var (t := 31) (fun _ => by kernel_rfl) (fun _ => by kernel_rfl) hx4)
        have HB4 := Lib.hid ((HBX.out wr hkp).trans (hk4.below (HBX.out wr hkp).size (fun k hk => by omega)))
        have HO4 := Lib.hid (own_kp2 HO.out hk4 (fun g hg e => by have := (HO.out.lt g hg).1; have := HZ2.out; have := HZ1.out; have := HAE.out; omega))
        clear ha hx4 hk4 hbk hkp hown
        go_wp2
        (try simp only [Exit.inBlock, Exit.then])
        refine bodyPost_ret (res_cell rfl rfl rfl HL4.out) rfl ?_
        rw [HMV2.out]
        have e0 := HIE.out
        subst e0
        obtain ⟨a', c', e', _, hs'⟩ := own_sl (enc := strC) (size := 1) (fun _ => rfl) (by decide) HO4.out
        simp only [Value.slice.injEq, true_and] at e'
        obtain ⟨rfl, rfl⟩ := e'
        exact ⟨ai, ci, rfl, hs', HB4.out⟩
  · have HMV2 := Lib.hid (HMV.out.trans (if_neg he))
    have he2 : (er == 0) = false := by simp [he]
    have ha := HA1.out
    have a0 := (ha.2 0 _ rfl).1; have a1 := (ha.2 1 _ rfl).1; have a2 := (ha.2 2 _ rfl).1; have b0 := (ha.2 0 _ rfl).2; have b1 := (ha.2 1 _ rfl).2; have b2 := (ha.2 2 _ rfl).2
    have hx4 := ((ha.set 0 (by simp) (.int .i64 0)).set 1 (by simp) (.int .i64 0)).set 2 (by simp) (.slice none 0 0)
    have hk4 := (((Kp.refl (fun k => k = w.heap.size) w1).set w.heap.size 0 (.int .i64 0) rfl).set w.heap.size 1 (.int .i64 0) rfl).set w.heap.size 2 (.slice none 0 0) rfl
    have HL4 := Lib.hid (load_var (t := 31) (fun _ => by kernel_rfl) (fun _ => by kernel_rfl) hx4)
    have HB4 := Lib.hid (HB1.out.trans (hk4.below HB1.out.size (fun k hk => by omega)))
    clear ha hx4 hk4 HMV HSM
    go_wp2
    (try simp only [Exit.inBlock, Exit.then])
    refine bodyPost_ret (res_cell rfl rfl rfl HL4.out) rfl ?_
    rw [HMV2.out]
    exact ⟨none, 0, rfl, Sl.nil _ _ _ _, HB4.out⟩
end Go.Proofs.Ytanehgnpominiaa
set_option linter.unusedVariables false
set_option linter.unusedSimpArgs false
namespace Go.Proofs.Ytanehgnpominiaa
open Go.RowKit
set_option maxHeartbeats 8000000 in
theorem rman_any (s : ByteArray) (n : Int) (w : World) (hs : s.size ≤ 140737488355328) : Calls Try.prog 12 #[.string s, .int .i64 n] w fun e w' => manE (manV s n) w w' e := by
  obtain ⟨i0, hi0, hz0, hz1, hz2⟩ := info_parts infoStr
  have hA := Bk.new w 31 #[.int .i64 0, .int .i64 0, .slice none 0 0]
  have HB0 := Lib.hid (below_new w (.cells #[.int .i64 0, .int .i64 0, .slice none 0 0] 31))
  have HA0 := Lib.hid hA
  have HZ0 : Hid ((w.alloc (.cells #[.int .i64 0, .int .i64 0, .slice none 0 0] 31)).heap.size = w.heap.size + 1) := Lib.hid (by simp)
  have T := Lib.hid (rcut_any s n (w.alloc (.cells #[.int .i64 0, .int .i64 0, .slice none 0 0] 31)))
  clear hA
  unfold cutE at T
  have HSM := Lib.hid (cutV_small s n)
  have hlen := cutV_len s n
  have HMV : Hid (manV s n = if (cutV s n).2 = 0 then ((s.size : Int), n, (cutV s n).1.map idV, 0) else (0, 0, [], (cutV s n).2)) := Lib.hid rfl
  generalize manV s n = MV at *
  generalize cutV s n = CV at *
  obtain ⟨L, er⟩ := CV
  dsimp only at *
  unfold manE mf
  go_enter Try.func12, Try.ntmps12
  go_wp2_with fail
  refine T.out.mono ?_
  rintro e w1 ⟨al, cl, rfl, hlc, hsl, hb⟩
  have HSL := Lib.hid hsl; have HA1 := Lib.hid (HA0.out.keep hb); have HB1 := Lib.hid (below_cons HB0.out hb); have HZ1 := Lib.hid (show w.heap.size < w1.heap.size by have := hb.size; have := HZ0.out; omega)
  clear hsl hb T HA0 HB0
  by_cases he : er = 0
  · subst he
    have HMV2 := Lib.hid (HMV.out.trans (if_pos rfl))
    have hbn := below_new w1 (.cells #[.int .i64 s.size, .int .i64 n, .slice none 0 0] 31)
    have hM := Bk.new w1 31 #[.int .i64 s.size, .int .i64 n, .slice none 0 0]
    have HM0 := Lib.hid hM; have HB2 := Lib.hid (below_cons HB1.out hbn); have HA2 := Lib.hid (HA1.out.keep hbn); have HSL2 := Lib.hid (HSL.out.keep hbn)
    have HZ2 : Hid ((w1.alloc (.cells #[.int .i64 s.size, .int .i64 n, .slice none 0 0] 31)).heap.size = w1.heap.size + 1) := Lib.hid (by simp)
    obtain ⟨NL, hNL⟩ : ∃ x, x = L.length := ⟨_, rfl⟩
    have HNL := Lib.hid hNL
    rw [← hNL] at hlen hlc ⊢
    clear hM hbn hNL HMV
    go_wp2
    have HKN := Lib.hid (Kp.new (S := fun k => k = w1.heap.size) (below_new w1 (.cells #[.int .i64 s.size, .int .i64 n, .slice none 0 0] 31)))
    generalize (w1.alloc (.cells #[.int .i64 s.size, .int .i64 n, .slice none 0 0] 31)) = W2 at *
    have HSX := Lib.hid (fun wr (h : Kp (fun k => k = w1.heap.size) W2 wr) => sl_kpS HSL.out (HKN.out.trans h) (fun b hb e => by omega))
    have HAX := Lib.hid (fun wr (h : Kp (fun k => k = w1.heap.size) W2 wr) => HA1.out.kp (HKN.out.trans h) (fun e => by have h := HZ1.out; rw [e] at h; exact absurd h (Nat.lt_irrefl _)))
    have HBX := Lib.hid (fun wr (h : Kp (fun k => k = w1.heap.size) W2 wr) => HB1.out.trans ((HKN.out.trans h).below HB1.out.size (fun j hj => by have := HZ1.out; omega)))
    obtain ⟨A, hA⟩ : ∃ x, x = w1.heap.size := ⟨_, rfl⟩
    rw [← hA] at HM0 HSX HAX HBX HZ2 ⊢
    have HAE := Lib.hid hA
    have HBA : Hid (∀ j (hj : j < L.length) b o, al = some ⟨b, o, none⟩ → b < A) := Lib.hid (fun j hj b o e => by
      obtain ⟨b', o', e', hb', _⟩ := HSL.out j hj
      rw [e'] at e
      simp only [Option.some.injEq, Addr.mk.injEq, and_true] at e
      rw [← e.1, hA]; exact hb')
    clear hA HKN
    go_loopw [9] (fun i wr => ∃ (j : Nat) (vi : Value), i = .int .i64 j ∧ j ≤ NL ∧ Bk A [.int .i64 s.size, .int .i64 n, vi] wr ∧ wr.ownsRow W2.heap.size 9 1 vi ((L.take j).map idV).length (((L.take j).map idV).flatMap strC) ∧ Kp (fun k => k = A) W2 wr) (fun i _ => NL - (intOf i).toNat)
    case atStart => exact ⟨0, .slice none 0 0, rfl, by omega, HM0.out, own_nil _ _ _ _, Kp.refl _ _⟩
    case round =>
      obtain ⟨j, vi, rfl, hj, hbk, hown, hkp⟩ := hrel
      have HO := Lib.hid hown; have HK := Lib.hid hkp
      have hnl : ((L.take j).map idV).length ≤ 4096 := by rw [List.length_map]; have := List.length_take_le j L; have := HNL.out; omega
      obtain ⟨ai, ci, rfl⟩ : ∃ a c, vi = .slice a ((L.take j).map idV).length c := by
        obtain ⟨a, c, h, _⟩ := own_sl (enc := strC) (size := 1) (fun _ => rfl) (by decide) hown
        exact ⟨a, c, h⟩
      by_cases hlt : j < NL
      · have hjl : j < L.length := by rw [← HNL.out]; exact hlt
        obtain ⟨b2, o2, rfl, hb2, c0⟩ := slT_str (HSX.out wr hkp) j hjl
        have HMN := Lib.hid (map_next L j hjl)
        have hsz := HSM.out trivial L[j] (List.getElem_mem hjl)
        have HT := Lib.hid (fun W => rid_any L[j] W (by omega))
        generalize (L.take j).map idV = ids at *
        generalize L[j] = x at *
        generalize idV x = ix at *
        have hP0 : Bk A [.int .i64 s.size, .int .i64 n, .slice ai ids.length ci] wr.drew ∧ wr.drew.cell? ⟨b2, o2 + j, none⟩ = some (.string x) := ⟨hbk, c0⟩
        have hjN : (j : Int) < (NL : Int) := by omega
        have hb2A : b2 < wr.drew.heap.size ∧ b2 < A := ⟨hb2, HBA.out j hjl _ _ rfl⟩
        clear hbk hown hkp
        go_wp2_with fail
        refine wp_region_T (S := fun w' => Bk A [.int .i64 s.size, .int .i64 n, .slice ai ids.length ci] w' ∧ w'.cell? ⟨b2, o2 + j, none⟩ = some (.string x)) 10 (by kernel_rfl) (by (first | exact hP0 | exact hP1 | exact hP2 | exact hP3)) (fun hHeld => ?_)
        refine wpAnyT_take (i := 0) (oi := { dst := some 30, op := Go.Op.fieldAddr 31 (Go.Operand.tmp 8) 2, type := 0, pos := "ref.go:50", after := #[], guard := none }) (v := ?_) rfl (by kernel_rfl) (by kernel_rfl) (by kernel_rfl) (by kernel_rfl) (fun _ _ _ h => h) (Or.inl ⟨by rfl, ?_⟩) (by assumption) ?_
        (rotate_left; focus (intro wS hSw; have s2 := (hSw.1.2 2 _ rfl).1; have s3 := hSw.2; clear hSw; go_simp; (try rw [if_neg (by omega)]); try with_reducible rfl))
        (try simp only [Act.put, List.setIfInBounds_toArray, List.set_cons_zero, List.set_cons_succ])
        refine wpAnyT_take (i := 1) (oi := { dst := some 31, op := Go.Op.load 23 (Go.Operand.tmp 30), type := 23, pos := "ref.go:50", after := #[{ on := 0, ground := Go.Ground.data }], guard := none }) (v := ?_) rfl (by kernel_rfl) (by kernel_rfl) (by kernel_rfl) (by kernel_rfl) (fun _ _ _ h => h) (Or.inl ⟨by rfl, ?_⟩) (by assumption) ?_
        (rotate_left; focus (intro wS hSw; have s2 := (hSw.1.2 2 _ rfl).1; have s3 := hSw.2; clear hSw; go_simp; (try rw [if_neg (by omega)]); try with_reducible rfl))
        (try simp only [Act.put, List.setIfInBounds_toArray, List.set_cons_zero, List.set_cons_succ])
        refine wpAnyT_take (i := 2) (oi := { dst := some 32, op := Go.Op.move (Go.Operand.tmp 6), type := 23, pos := "ref.go:50", after := #[], guard := none }) (v := ?_) rfl (by kernel_rfl) (by kernel_rfl) (by kernel_rfl) (by kernel_rfl) (fun _ _ _ h => h) (Or.inl ⟨by rfl, ?_⟩) (by assumption) ?_
        (rotate_left; focus (intro wS hSw; have s2 := (hSw.1.2 2 _ rfl).1; have s3 := hSw.2; clear hSw; go_simp; (try rw [if_neg (by omega)]); try with_reducible rfl))
        (try simp only [Act.put, List.setIfInBounds_toArray, List.set_cons_zero, List.set_cons_succ])
        refine wpAnyT_take (i := 3) (oi := { dst := some 33, op := Go.Op.move (Go.Operand.tmp 9), type := 3, pos := "ref.go:50", after := #[], guard := none }) (v := ?_) rfl (by kernel_rfl) (by kernel_rfl) (by kernel_rfl) (by kernel_rfl) (fun _ _ _ h => h) (Or.inl ⟨by rfl, ?_⟩) (by assumption) ?_
        (rotate_left; focus (intro wS hSw; have s2 := (hSw.1.2 2 _ rfl).1; have s3 := hSw.2; clear hSw; go_simp; (try rw [if_neg (by omega)]); try with_reducible rfl))
        (try simp only [Act.put, List.setIfInBounds_toArray, List.set_cons_zero, List.set_cons_succ])
        refine wpAnyT_take (i := 4) (oi := { dst := some 34, op := Go.Op.indexAddr 23 (Go.Operand.tmp 32) (Go.Operand.tmp 33), type := 0, pos := "ref.go:50", after := #[{ on := 2, ground := Go.Ground.data }, { on := 3, ground := Go.Ground.data }], guard := none }) (v := ?_) rfl (by kernel_rfl) (by kernel_rfl) (by kernel_rfl) (by kernel_rfl) (fun _ _ _ h => h) (Or.inl ⟨by rfl, ?_⟩) (by assumption) ?_
        (rotate_left; focus (intro wS hSw; have s2 := (hSw.1.2 2 _ rfl).1; have s3 := hSw.2; clear hSw; go_simp; (try rw [if_neg (by omega)]); try with_reducible rfl))
        (try simp only [Act.put, List.setIfInBounds_toArray, List.set_cons_zero, List.set_cons_succ])
        refine wpAnyT_take (i := 5) (oi := { dst := some 35, op := Go.Op.load 9 (Go.Operand.tmp 34), type := 9, pos := "ref.go:50", after := #[{ on := 4, ground := Go.Ground.data }], guard := none }) (v := ?_) rfl (by kernel_rfl) (by kernel_rfl) (by kernel_rfl) (by kernel_rfl) (fun _ _ _ h => h) (Or.inl ⟨by rfl, ?_⟩) (by assumption) ?_
        (rotate_left; focus (intro wS hSw; have s2 := (hSw.1.2 2 _ rfl).1; have s3 := hSw.2; clear hSw; go_simp; (try rw [if_neg (by omega)]); try with_reducible rfl))
        (try simp only [Act.put, List.setIfInBounds_toArray, List.set_cons_zero, List.set_cons_succ])
        refine wpAnyT_ready (rs := [6]) (by kernel_rfl) (by simp) ?_
        refine AllReadyT.cons (o := { dst := some 36, op := Go.Op.call { callee := Go.Callee.value (Go.Operand.func 27), args := #[Go.Operand.tmp 35], argTypes := #[9] }, type := 9, pos := "ref.go:50", after := #[{ on := 5, ground := Go.Ground.data }], guard := none }) rfl (fun K hK => ?_) AllReadyT.nil
        go_simp
        refine (HT.out _).mono ?_
        rintro e w3 ⟨rfl, hb⟩
        have hP1 : Bk A [.int .i64 s.size, .int .i64 n, .slice ai ids.length ci] w3 ∧ w3.cell? ⟨b2, o2 + j, none⟩ = some (.string x) := ⟨hP0.1.keep hb, (hb.cell (p := ⟨b2, o2 + j, none⟩) hb2A.1).trans hP0.2⟩
        have hb3 : b2 < w3.heap.size := Nat.lt_of_lt_of_le hb2A.1 hb.size
        have HO3 := Lib.hid (own_kept HO.out.drew hb); have HK3 := Lib.hid (HK.out.drew.trans (Kp.new hb))
        clear hb
        (try go_wp2_with fail)
        refine hK.out _ _ (by (first | exact hP0 | exact hP1 | exact hP2 | exact hP3)) (fun hHeld => ?_)
        clear hK K
        (try simp only [Act.put, List.setIfInBounds_toArray, List.set_cons_zero, List.set_cons_succ])
        refine wpAnyT_ready (rs := [7]) (by kernel_rfl) (by simp) ?_
        refine AllReadyT.cons (o := { dst := some 37, op := Go.Op.buildSlice 23 1 #[(0, Go.Operand.tmp 36)], type := 23, pos := "ref.go:50", after := #[{ on := 6, ground := Go.Ground.data }], guard := none }) rfl (fun K hK => ?_) AllReadyT.nil
        go_simp
        have hP2 : Bk A [.int .i64 s.size, .int .i64 n, .slice ai ids.length ci] (w3.alloc (.cells #[.string ix] 9)) ∧ (w3.alloc (.cells #[.string ix] 9)).cell? ⟨b2, o2 + j, none⟩ = some (.string x) := ⟨hP1.1.keep (below_new w3 (.cells #[.string ix] 9)), ((below_new w3 (.cells #[.string ix] 9)).cell (p := ⟨b2, o2 + j, none⟩) hb3).trans hP1.2⟩
        refine hK.out _ _ (by (first | exact hP0 | exact hP1 | exact hP2 | exact hP3)) (fun hHeld => ?_)
        clear hK K
        (try simp only [Act.put, List.setIfInBounds_toArray, List.set_cons_zero, List.set_cons_succ])
        refine wpAnyT_ready (rs := [8]) (by kernel_rfl) (by simp) ?_
        refine AllReadyT.cons (o := { dst := some 38, op := Go.Op.call { callee := Go.Callee.builtin Go.Builtin.append, args := #[Go.Operand.tmp 31, Go.Operand.tmp 37], argTypes := #[23, 23] }, type := 23, pos := "ref.go:50", after := #[{ on := 1, ground := Go.Ground.data }, { on := 7, ground := Go.Ground.data }, { on := 6, ground := Go.Ground.chain }], guard := none }) rfl (fun K hK => ?_) AllReadyT.nil
        refine wp_append_own_at _ _ _ 23 rfl W2.heap.size 9 i0 (.string ByteArray.empty) 1 16 Try.underlying23 hi0 hz0 hz1 hz2 rfl (by decide) (.slice ai ids.length ci) ids.length (ids.flatMap strC) rfl (HO3.out.alloc _) ⟨w3.heap.size, 0, none⟩ 1 1 [.string ix] rfl rfl ?a1 ?a2 ?a3 ?a4 ?a5 ?_
        case a1 => intro q u hq; exact new_cells w3 _ _ q u hq
        case a2 => intro u hu; simp at hu; rcases hu with rfl; rfl
        case a3 => unfold maxLen; omega
        case a4 => omega
        case a5 => have := HK3.out.size; simp; omega
        intro v5 w5 hown5 hg5 hat5
        have hneA : A < W2.heap.size := by rw [HZ2.out]; omega
        have hk5 : Kp (fun k => W2.heap.size ≤ k) w3 w5 := ((Kp.refl _ w3).alloc (.cells #[.string ix] 9)).trans (Kp.grown hg5 (fun q hq => (HO3.out.lt q hq).1))
        have hP3 : Bk A [.int .i64 s.size, .int .i64 n, .slice ai ids.length ci] w5 ∧ w5.cell? ⟨b2, o2 + j, none⟩ = some (.string x) := ⟨hP1.1.kp hk5 (by omega), (hk5.cell (p := ⟨b2, o2 + j, none⟩) hb3 (by have := hb2A.2; show ¬ W2.heap.size ≤ b2; omega)).trans hP1.2⟩
        have hk6 : Kp (fun k => k = A) W2 w5 := HK3.out.trans' hk5
        have f2 := (hP3.1.2 2 _ rfl).2
        have c2 := (hP3.1.2 2 _ rfl).1
        obtain ⟨g5, c5, rfl⟩ := own_some1 hown5
        have HB6 := Lib.hid (hP3.1.set 2 (by simp) (.slice (some ⟨g5, 0, none⟩) (ids.length + 1) c5))
        have HK6 := Lib.hid (hk6.set A 2 (.slice (some ⟨g5, 0, none⟩) (ids.length + 1) c5) rfl)
        have HO6 : Hid ((w5.setCell ⟨A, 2, none⟩ (.slice (some ⟨g5, 0, none⟩) (ids.length + 1) c5)).ownsRow W2.heap.size 9 1 (.slice (some ⟨g5, 0, none⟩) (ids.length + 1) c5) (ids ++ [ix]).length ((ids ++ [ix]).flatMap strC)) := Lib.hid (by
        rw [List.length_append, List.flatMap_append]
        exact own_kp2 hown5 (Kp.set (S := fun k => k = A) (Kp.refl _ w5) A 2 _ rfl) (fun g hg e => by have := (hown5.lt g hg).1; omega))
        clear hown5 hg5 hat5 hk5 hk6
        refine hK.out _ _ (by (first | exact hP0 | exact hP1 | exact hP2 | exact hP3)) (fun hHeld => ?_)
        clear hK K
        (try simp only [Act.put, List.setIfInBounds_toArray, List.set_cons_zero, List.set_cons_succ])
        refine wpAnyT_take (i := 9) (oi := { dst := some 39, op := Go.Op.fieldAddr 31 (Go.Operand.tmp 8) 2, type := 0, pos := "ref.go:50", after := #[{ on := 0, ground := Go.Ground.phase }, { on := 1, ground := Go.Ground.phase }, { on := 2, ground := Go.Ground.phase }, { on := 3, ground := Go.Ground.phase }, { on := 4, ground := Go.Ground.phase }, { on := 5, ground := Go.Ground.phase }, { on := 6, ground := Go.Ground.phase }, { on := 7, ground := Go.Ground.phase }, { on := 8, ground := Go.Ground.phase }], guard := none }) (v := ?_) rfl (by kernel_rfl) (by kernel_rfl) (by kernel_rfl) (by kernel_rfl) (fun _ _ _ h => h) (Or.inl ⟨by rfl, ?_⟩) (by assumption) ?_
        (rotate_left; focus (intro wS hSw; have s2 := (hSw.1.2 2 _ rfl).1; have s3 := hSw.2; clear hSw; go_simp; (try rw [if_neg (by omega)]); try with_reducible rfl))
        (try simp only [Act.put, List.setIfInBounds_toArray, List.set_cons_zero, List.set_cons_succ])
        refine wpAnyT_ready (rs := [10]) (by kernel_rfl) (by simp) ?_
        refine AllReadyT.last (o := { dst := none, op := Go.Op.store 23 (Go.Operand.tmp 39) (Go.Operand.tmp 38), type := 0, pos := "ref.go:50", after := #[{ on := 9, ground := Go.Ground.data }, { on := 8, ground := Go.Ground.data }, { on := 8, ground := Go.Ground.chain }, { on := 0, ground := Go.Ground.phase }, { on := 1, ground := Go.Ground.phase }, { on := 2, ground := Go.Ground.phase }, { on := 3, ground := Go.Ground.phase }, { on := 4, ground := Go.Ground.phase }, { on := 5, ground := Go.Ground.phase }, { on := 6, ground := Go.Ground.phase }, { on := 7, ground := Go.Ground.phase }, { on := 8, ground := Go.Ground.phase }], guard := none }) rfl (fun K hK => ?_)
        go_simp
        refine hK.out _ _ ?_
        clear hK K
        (try simp only [Act.put, List.setIfInBounds_toArray, List.set_cons_zero, List.set_cons_succ])
        refine wpAnyT_done (by kernel_rfl) ?_ _
        clear hP0 hP1 hP2 hP3 c2 f2 c0
        go_wp2
        go_roundw
        case rel => exact ⟨j + 1, .slice (some ⟨g5, 0, none⟩) (ids.length + 1) c5, by go_num, by omega, HB6.out, by rw [HMN.out]; exact HO6.out, HK6.out⟩
        case measure => simp [intOf]; omega
      · obtain rfl : j = NL := by omega
        have HIE : Hid ((L.take j).map idV = L.map idV) := Lib.hid (by rw [List.take_of_length_le (by rw [← HNL.out]; exact Nat.le_refl _)])
        generalize (L.take j).map idV = ids at *
        have m0 := (hbk.2 0 _ rfl).1; have m1 := (hbk.2 1 _ rfl).1; have m2 := (hbk.2 2 _ rfl).1
        have ha := HAX.out wr hkp
        have a0 := (ha.2 0 _ rfl).1; have a1 := (ha.2 1 _ rfl).1; have a2 := (ha.2 2 _ rfl).1; have b0 := (ha.2 0 _ rfl).2; have b1 := (ha.2 1 _ rfl).2; have b2 := (ha.2 2 _ rfl).2
        have hx4 := ((ha.set 0 (by simp) (.int .i64 s.size)).set 1 (by simp) (.int .i64 n)).set 2 (by simp) (.slice ai ids.length ci)
        have hk4 := (((Kp.refl (fun k => k = w.heap.size) wr).set w.heap.size 0 (.int .i64 s.size) rfl).set w.heap.size 1 (.int .i64 n) rfl).set w.heap.size 2 (.slice ai ids.length ci) rfl
        have HL4 := Lib.hid (load_var (t := 31) (fun _ => by kernel_rfl) (fun _ => by kernel_rfl) hx4)
        have HB4 := Lib.hid ((HBX.out wr hkp).trans (hk4.below (HBX.out wr hkp).size (fun k hk => by omega)))
        have HO4 := Lib.hid (own_kp2 HO.out hk4 (fun g hg e => by have := (HO.out.lt g hg).1; have := HZ2.out; have := HZ1.out; have := HAE.out; omega))
        clear ha hx4 hk4 hbk hkp hown
        go_wp2
        (try simp only [Exit.inBlock, Exit.then])
        refine bodyPost_ret (res_cell rfl rfl rfl HL4.out) rfl ?_
        rw [HMV2.out]
        have e0 := HIE.out
        subst e0
        obtain ⟨a', c', e', _, hs'⟩ := own_sl (enc := strC) (size := 1) (fun _ => rfl) (by decide) HO4.out
        simp only [Value.slice.injEq, true_and] at e'
        obtain ⟨rfl, rfl⟩ := e'
        exact ⟨ai, ci, rfl, hs', HB4.out⟩
  · have HMV2 := Lib.hid (HMV.out.trans (if_neg he))
    have he2 : (er == 0) = false := by simp [he]
    have ha := HA1.out
    have a0 := (ha.2 0 _ rfl).1; have a1 := (ha.2 1 _ rfl).1; have a2 := (ha.2 2 _ rfl).1; have b0 := (ha.2 0 _ rfl).2; have b1 := (ha.2 1 _ rfl).2; have b2 := (ha.2 2 _ rfl).2
    have hx4 := ((ha.set 0 (by simp) (.int .i64 0)).set 1 (by simp) (.int .i64 0)).set 2 (by simp) (.slice none 0 0)
    have hk4 := (((Kp.refl (fun k => k = w.heap.size) w1).set w.heap.size 0 (.int .i64 0) rfl).set w.heap.size 1 (.int .i64 0) rfl).set w.heap.size 2 (.slice none 0 0) rfl
    have HL4 := Lib.hid (load_var (t := 31) (fun _ => by kernel_rfl) (fun _ => by kernel_rfl) hx4)
    have HB4 := Lib.hid (HB1.out.trans (hk4.below HB1.out.size (fun k hk => by omega)))
    clear ha hx4 hk4 HMV HSM
    go_wp2
    (try simp only [Exit.inBlock, Exit.then])
    refine bodyPost_ret (res_cell rfl rfl rfl HL4.out) rfl ?_
    rw [HMV2.out]
    exact ⟨none, 0, rfl, Sl.nil _ _ _ _, HB4.out⟩
end Go.Proofs.Ytanehgnpominiaa

