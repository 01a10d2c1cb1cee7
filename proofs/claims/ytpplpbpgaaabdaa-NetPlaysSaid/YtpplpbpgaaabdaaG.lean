/-
  The contract of the document's Take.
-/
import Derived.Test.YtpplpbpgaaabdaaF
set_option linter.unusedVariables false
set_option linter.unusedSimpArgs false
namespace Go.Proofs.Ytpplpbpgaaabdaa
open Go.RowKit
theorem res_cell3 {fn : Func} {p u u2 : Tmp} {ty : TypeId} {tmps : Array Value} {w : World} {A : Nat} {x v v2 : Value} (h : fn.results = #[.cell p ty, .tmp u, .tmp u2]) (h1 : tmps.getD p undef = .pointer (some ⟨A, 0, none⟩)) (h2 : tmps.getD u undef = v) (h4 : tmps.getD u2 undef = v2) (hl : (loadVar ty ⟨A, 0, none⟩).run Try.prog w = .ok x w) :
    (results fn tmps).run Try.prog w = .ok (.tuple #[x, v, v2]) w := by
  have h3 : (asAddr (.pointer (some ⟨A, 0, none⟩))).run Try.prog w = Result.ok ⟨A, 0, none⟩ w := rfl
  simp at h1 h2 h4
  simp only [results, h]
  simp [Sem.run_bind, Result.andThen, h1, h2, h4, h3, hl]
theorem info32 : (Try.prog.info? 32).map (fun i => (i.zero, i.size, i.bytes)) = some (some (.agg #[.int .i64 0, .string ByteArray.empty]), 2, 24) := by kernel_rfl
set_option maxHeartbeats 4000000 in
theorem ref_none (v : Value) (cap : Nat) (a : Option Addr) (i : Int) (w : World) : Calls Try.prog 7 #[.slice a 0 cap, .int .i64 i] w fun e w' => e = .returned (.tuple #[.agg #[.int .i64 0, .string ⟨#[]⟩], .slice a 0 cap, .bool false]) ∧ Below w.heap.size w w' := by
  have hA := Bk.new w 32 #[.int .i64 0, .string ⟨#[]⟩]
  have HB := Lib.hid (below_new w (.cells #[.int .i64 0, .string ⟨#[]⟩] 32))
  have HL := Lib.hid (load_var (t := 32) (fun _ => by kernel_rfl) (fun _ => by kernel_rfl) hA)
  clear hA
  go_enter Try.func7, Try.ntmps7
  go_wp2
  (try simp only [Exit.inBlock, Exit.then])
  refine bodyPost_ret (res_cell3 rfl rfl rfl rfl HL.out) rfl ?_
  exact ⟨rfl, HB.out⟩
theorem own_cells32 {w : World} {B g cap n : Nat} {xs : List Msg} (h : w.ownsRow B 32 2 (.slice (some ⟨g, 0, none⟩) n cap) n (xs.flatMap encM)) : ∀ o j u, (xs.flatMap encM)[o + j]? = some u → w.cell? ((⟨g, o, none⟩ : Addr).add j) = some u := by
  intro o j u hj
  have := h.cells (g := g) rfl (o + j) u hj
  rw [Addr.add_lit, Nat.zero_add] at this
  rw [Addr.add_lit]
  exact this
theorem one_cell (l : List Msg) : ∀ u ∈ l.flatMap encM, u.oneCell' = true := by
  intro u hu
  obtain ⟨m, _, hm⟩ := List.mem_flatMap.1 hu
  simp only [encM, List.mem_cons, List.mem_nil_iff, or_false] at hm
  rcases hm with rfl | rfl <;> rfl
theorem row_cells32 {w : World} {B : Nat} {g cap : Nat} {ms : List Msg} (h : w.ownsRow B 32 2 (.slice (some ⟨g, 0, none⟩) ms.length cap) ms.length (ms.flatMap encM)) (k : Nat) (hk : k < ms.length) :
    w.cell? ⟨g, k * 2, none⟩ = some (.int .i64 ms[k].1) ∧ w.cell? ⟨g, k * 2 + 1, none⟩ = some (.string ms[k].2) := by
  have h0 := own_cells32 h (k * 2) 0 (.int .i64 ms[k].1) (by rw [Nat.add_zero]; exact flat_get (size := 2) (fun _ => rfl) ms k hk 0 _ rfl)
  have h1 := own_cells32 h (k * 2) 1 (.string ms[k].2) (flat_get (size := 2) (fun _ => rfl) ms k hk 1 _ rfl)
  rw [Addr.add_lit] at h0 h1
  exact ⟨h0, h1⟩
set_option maxRecDepth 100000 in
set_option maxHeartbeats 4000000 in
theorem ref_any {B : Nat} {v : Value} {xs : List Msg} (i : Int) (w : World) (h : w.ownsRow B 32 2 v xs.length (xs.flatMap encM)) (hn : 0 < xs.length) (hsm : xs.length ≤ 5000) (hi : -9223372036854775808 ≤ i ∧ i ≤ 9223372036854775807) :
    Calls Try.prog 7 #[v, .int .i64 i] w fun e w' => ∃ vo, e = .returned (.tuple #[.agg #[.int .i64 (xs[place i xs.length]'(place_lt i hn)).1, .string (xs[place i xs.length]'(place_lt i hn)).2], vo, .bool true]) ∧
      w'.ownsRow w.heap.size 32 2 vo (xs.eraseIdx (place i xs.length)).length ((xs.eraseIdx (place i xs.length)).flatMap encM) ∧ Below w.heap.size w w' := by
  obtain ⟨i0, hi0, hz0, hz1, hz2⟩ := info_parts info32
  obtain ⟨g, cap, rfl⟩ := own_some h hn
  have hk := place_lt i hn
  have hat := fun w => at_any i xs.length w hn hi
  have hcap : xs.length ≤ cap := by
    obtain ⟨_, ⟨he, _⟩ | ⟨g', cap', cur, he, hb, hg, hn, _⟩⟩ := h
    · simp at he
    · simp only [Value.slice.injEq, true_and] at he
      obtain ⟨_, rfl⟩ := he
      exact hn
  have HFL : Hid ((xs.eraseIdx (place i xs.length)).flatMap encM = (xs.take (place i xs.length)).flatMap encM ++ (xs.drop (place i xs.length + 1)).flatMap encM) := Lib.hid (erase_flat _ _)
  have HLN : Hid ((xs.eraseIdx (place i xs.length)).length = place i xs.length + (xs.length - (place i xs.length + 1))) := Lib.hid (by rw [List.length_eraseIdx_of_lt hk]; omega)
  have HM : Hid (∀ wx, Below w.heap.size w wx → wx.cell? ⟨g, place i xs.length * 2, none⟩ = some (.int .i64 (xs[place i xs.length]'hk).1) ∧ wx.cell? ⟨g, place i xs.length * 2 + 1, none⟩ = some (.string (xs[place i xs.length]'hk).2)) := Lib.hid (fun wx hx => row_cells32 (own_kept h hx) _ hk)
  generalize hmm : (xs[place i xs.length]'hk) = m at HM ⊢
  clear hmm
  generalize place i xs.length = k at *
  generalize hlen : xs.length = n at *
  have HLEN := Lib.hid hlen
  clear hlen
  have e0 : ((n : Int) == 0) = false := by simp; omega
  have hA := Bk.new w 32 #[.int .i64 0, .string ⟨#[]⟩]
  have hB1 := below_new w (.cells #[.int .i64 0, .string ⟨#[]⟩] 32)
  have hz : (w.alloc (.cells #[.int .i64 0, .string ⟨#[]⟩] 32)).heap.size = w.heap.size + 1 := by simp
  have hO1 := own_kept h hB1
  have HA := Lib.hid hA; have HB1 := Lib.hid hB1; have HZ := Lib.hid hz; have HO1 := Lib.hid hO1; have H := Lib.hid h
  clear hA hB1 hz hO1 h
  go_enter Try.func7, Try.ntmps7
  go_wp2_with fail
  generalize (w.alloc (.cells #[.int .i64 0, .string ⟨#[]⟩] 32)) = W1 at HA HB1 HZ HO1 ⊢
  refine (hat _).mono ?_
  rintro e w1 ⟨rfl, rfl⟩
  have hkc : k ≤ cap := by omega
  have hkn : k ≤ n := by omega
  clear hat
  go_wp2_with (at_builtin; refine wpList_append_own _ rfl _ _ 28 rfl (w.heap.size + 1) 32 i0 (.agg #[.int .i64 0, .string ByteArray.empty]) 2 24 Try.underlying28 hi0 hz0 hz1 hz2 rfl (by decide) _ _ _ rfl (own_nil _ _ _ _) ⟨g, 0, none⟩ k cap ((xs.take k).flatMap encM) rfl ?b0 ?b1 ?b2 ?b3 ?b4 ?b5 ?_)
  case b0 => rw [flat_len, List.length_take, HLEN.out]; omega
  case b1 =>
    intro j u hj
    refine own_cells32 HO1.out 0 j u ?_
    rw [Nat.zero_add]
    rw [← flat_take, List.getElem?_take] at hj
    split at hj
    · exact hj
    · cases hj
  case b2 => exact one_cell _
  case b3 => unfold maxLen; omega
  case b4 => omega
  case b5 => have := HZ.out; omega
  intro v1 w2 ho1 hg1 _
  have hK1 : Kp (fun _ => False) w1 w2 := Kp.grown hg1 (fun q hq => by simp [Value.ownBlock] at hq)
  have HA2 := Lib.hid (HA.out.kp hK1 (fun h => h))
  have HS2 := Lib.hid hK1.size
  have HO2 := Lib.hid (own_kp2 HO1.out hK1 (fun _ _ h => h))
  have HB2 := Lib.hid (HB1.out.trans (hK1.below HB1.out.size (fun _ h => h.elim)))
  have HV1 : Hid (w2.ownsRow (w.heap.size + 1) 32 2 v1 k ((xs.take k).flatMap encM)) := Lib.hid (by simpa using ho1)
  obtain ⟨av, cv, rfl⟩ := own_shape ho1
  clear ho1 hg1 hK1
  have hi3 : (0 : Int) ≤ (k : Int) + 1 := by omega
  have hi4 : (k : Int) + 1 ≤ (n : Int) := by omega
  have hi5 : (n : Int) ≤ (cap : Int) := by omega
  have hk1c : k + 1 ≤ cap := by omega
  have hk1n : k + 1 ≤ n := by omega
  by_cases hc : cap = k + 1
  · subst hc
    obtain rfl : n = k + 1 := by omega
    go_wp2_with (at_builtin; refine wpList_append_own _ rfl _ _ 28 rfl (w.heap.size + 1) 32 i0 (.agg #[.int .i64 0, .string ByteArray.empty]) 2 24 Try.underlying28 hi0 hz0 hz1 hz2 rfl (by decide) _ _ _ rfl HV1.out ⟨g, 0, none⟩ 0 0 ((xs.drop (k + 1)).flatMap encM) rfl ?b0 ?b1 ?b2 ?b3 ?b4 ?b5 ?_)
    case b0 => have := HLEN.out; rw [flat_len, List.length_drop]; omega
    case b1 => intro j u hj; rw [List.drop_of_length_le (by rw [HLEN.out]; omega)] at hj; simp at hj
    case b2 => exact one_cell _
    case b3 => unfold maxLen; omega
    case b4 => omega
    case b5 => have := HZ.out; have := HS2.out; omega
    intro v2 w3 ho2 hg2 _
    have hK2 : Kp (fun j => w.heap.size + 1 ≤ j) w2 w3 := Kp.grown hg2 (fun q hq => (HV1.out.lt q hq).1)
    have hA3 := HA2.out.kp hK2 (by omega)
    have hB3 : Below w.heap.size w w3 := HB2.out.trans (hK2.below HB2.out.size (fun j hj => by omega))
    have c0 := (HM.out w3 hB3).1
    have c1 := (HM.out w3 hB3).2
    have a0 := (hA3.2 0 _ rfl).1; have a1 := (hA3.2 1 _ rfl).1; have f0 := (hA3.2 0 _ rfl).2; have f1 := (hA3.2 1 _ rfl).2
    have HO3 : Hid (w3.ownsRow (w.heap.size + 1) 32 2 v2 (xs.eraseIdx k).length ((xs.eraseIdx k).flatMap encM)) := Lib.hid (by rw [HFL.out, HLN.out]; simpa using ho2)
    have hA4 : Bk w.heap.size [.int .i64 m.1, .string m.2] ((w3.setCell ⟨w.heap.size, 0, none⟩ (.int .i64 m.1)).setCell ⟨w.heap.size, 1, none⟩ (.string m.2)) := (hA3.set 0 (by simp) (.int .i64 m.1)).set 1 (by simp) (.string m.2)
    have hK4 : Kp (fun j => j = w.heap.size) w3 ((w3.setCell ⟨w.heap.size, 0, none⟩ (.int .i64 m.1)).setCell ⟨w.heap.size, 1, none⟩ (.string m.2)) := ((Kp.refl (fun j => j = w.heap.size) w3).set w.heap.size 0 _ rfl).set w.heap.size 1 _ rfl
    have HL4 := Lib.hid (load_var (t := 32) (fun _ => by kernel_rfl) (fun _ => by kernel_rfl) hA4)
    have HB4 := Lib.hid (hB3.trans (hK4.below hB3.size (fun j hj => by omega)))
    have HO4 := Lib.hid (own_base (own_kp HO3.out hK4 (fun j hj => by omega)) (Nat.le_succ _))
    have HKC : Hid (True) := Lib.hid trivial
    clear ho2 hg2 hA3 hA4 hK4 hB3 hK2
    go_wp2
    (try simp only [Exit.inBlock, Exit.then])
    refine bodyPost_ret (res_cell3 rfl rfl rfl rfl HL4.out) rfl ?_
    exact ⟨v2, rfl, HO4.out, HB4.out⟩
  · skip
    go_wp2_with (at_builtin; refine wpList_append_own _ rfl _ _ 28 rfl (w.heap.size + 1) 32 i0 (.agg #[.int .i64 0, .string ByteArray.empty]) 2 24 Try.underlying28 hi0 hz0 hz1 hz2 rfl (by decide) _ _ _ rfl HV1.out ⟨g, (k + 1) * 2, none⟩ (n - (k + 1)) (cap - (k + 1)) ((xs.drop (k + 1)).flatMap encM) rfl ?b0 ?b1 ?b2 ?b3 ?b4 ?b5 ?_)
    case b0 => have := HLEN.out; rw [flat_len, List.length_drop]; omega
    case b1 => intro j u hj; rw [← flat_drop, List.getElem?_drop] at hj; exact own_cells32 HO2.out _ j u hj
    case b2 => exact one_cell _
    case b3 => unfold maxLen; omega
    case b4 => omega
    case b5 => have := HZ.out; have := HS2.out; omega
    intro v2 w3 ho2 hg2 _
    have hK2 : Kp (fun j => w.heap.size + 1 ≤ j) w2 w3 := Kp.grown hg2 (fun q hq => (HV1.out.lt q hq).1)
    have hA3 := HA2.out.kp hK2 (by omega)
    have hB3 : Below w.heap.size w w3 := HB2.out.trans (hK2.below HB2.out.size (fun j hj => by omega))
    have c0 := (HM.out w3 hB3).1
    have c1 := (HM.out w3 hB3).2
    have a0 := (hA3.2 0 _ rfl).1; have a1 := (hA3.2 1 _ rfl).1; have f0 := (hA3.2 0 _ rfl).2; have f1 := (hA3.2 1 _ rfl).2
    have HO3 : Hid (w3.ownsRow (w.heap.size + 1) 32 2 v2 (xs.eraseIdx k).length ((xs.eraseIdx k).flatMap encM)) := Lib.hid (by rw [HFL.out, HLN.out]; simpa using ho2)
    have hA4 : Bk w.heap.size [.int .i64 m.1, .string m.2] ((w3.setCell ⟨w.heap.size, 0, none⟩ (.int .i64 m.1)).setCell ⟨w.heap.size, 1, none⟩ (.string m.2)) := (hA3.set 0 (by simp) (.int .i64 m.1)).set 1 (by simp) (.string m.2)
    have hK4 : Kp (fun j => j = w.heap.size) w3 ((w3.setCell ⟨w.heap.size, 0, none⟩ (.int .i64 m.1)).setCell ⟨w.heap.size, 1, none⟩ (.string m.2)) := ((Kp.refl (fun j => j = w.heap.size) w3).set w.heap.size 0 _ rfl).set w.heap.size 1 _ rfl
    have HL4 := Lib.hid (load_var (t := 32) (fun _ => by kernel_rfl) (fun _ => by kernel_rfl) hA4)
    have HB4 := Lib.hid (hB3.trans (hK4.below hB3.size (fun j hj => by omega)))
    have HO4 := Lib.hid (own_base (own_kp HO3.out hK4 (fun j hj => by omega)) (Nat.le_succ _))
    have HKC : Hid (True) := Lib.hid trivial
    clear ho2 hg2 hA3 hA4 hK4 hB3 hK2
    go_wp2
    (try simp only [Exit.inBlock, Exit.then])
    refine bodyPost_ret (res_cell3 rfl rfl rfl rfl HL4.out) rfl ?_
    exact ⟨v2, rfl, HO4.out, HB4.out⟩
end Go.Proofs.Ytpplpbpgaaabdaa

