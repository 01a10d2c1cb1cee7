/-
  The contracts of chunk.Join and of the document's.
-/
import Derived.Test.YtanehgnpominiaaX9
import Derived.Test.YtanehgnpominiaaJ2
set_option linter.unusedVariables false
set_option linter.unusedSimpArgs false
set_option maxRecDepth 100000
namespace Go.Proofs.Ytanehgnpominiaa
open Go.RowKit
theorem join_flat : ∀ (l : List ByteArray), (Lib.join (l.map (·.data.toList)) []) = (catK l).data.toList
  | [] => rfl
  | x :: l => by
    rw [List.map_cons, Lib.join_cons]
    have : ∀ (l : List ByteArray), Lib.joinTail [] (l.map (·.data.toList)) = (catK l).data.toList := by
      intro l
      induction l with
      | nil => rfl
      | cons y l ih =>
        show Lib.joinTail [] (y.data.toList :: l.map (·.data.toList)) = (y ++ catK l).data.toList
        rw [show Lib.joinTail [] (y.data.toList :: l.map (·.data.toList)) = [] ++ y.data.toList ++ Lib.joinTail [] (l.map (·.data.toList)) by simp [Lib.joinTail], ih]
        simp [ByteArray.data_append]
    rw [this l]
    show _ = (x ++ catK l).data.toList
    simp [ByteArray.data_append]
theorem join_cat (l : List ByteArray) : (⟨(Lib.join (l.map (·.data.toList)) (⟨#[]⟩ : ByteArray).data.toList).toArray⟩ : ByteArray) = catK l := by
  show (⟨(Lib.join (l.map (·.data.toList)) []).toArray⟩ : ByteArray) = catK l
  rw [join_flat l]
theorem sjoin_any (l : List ByteArray) (a : Option Addr) (c : Nat) (w : World) (h : Sl strC 1 w a l) (hc : l.length ≤ c) (hn : l.length ≤ 1000000) (hs : (catK l).size ≤ 1099511627776) :
    Calls Try.prog 39 #[.slice a l.length c, .string ⟨#[]⟩] w fun e w' => e = .returned (.string (catK l)) ∧ Below w.heap.size w w' := by
  cases l with
  | nil => exact (join_none _ c ⟨#[]⟩ w).mono fun e w' ⟨he, hw⟩ => ⟨he, hw ▸ Below.refl _ _⟩
  | cons x l =>
    obtain ⟨b, o, rfl, hb, _⟩ := slT_str h 0 (by simp)
    have T := join_any b o c (x :: l) ⟨#[]⟩ w (fun j y hj => by
      obtain ⟨hj', hy⟩ := List.getElem?_eq_some_iff.1 hj
      obtain ⟨b2, o2, e, _, hc2⟩ := slT_str h j hj'
      simp only [Option.some.injEq, Addr.mk.injEq, and_true] at e
      obtain ⟨rfl, rfl⟩ := e
      rw [hc2, hy]) hb (by omega) hc (by rw [show (⟨#[]⟩ : ByteArray).data.toList = [] from rfl, join_flat]; have : (catK (x :: l)).data.toList.length = (catK (x :: l)).size := by rw [Array.length_toList]; rfl
                                         omega)
    rw [join_cat] at T
    exact T
/-- What Join gives. -/
def joinM (S C : Int) (ids l : List ByteArray) : ByteArray × Int :=
  if checkM S C ids ≠ 0 then (⟨#[]⟩, checkM S C ids) else if l.length ≠ ids.length then (⟨#[]⟩, 5) else if l.map idV ≠ ids then (⟨#[]⟩, 6) else if ((catK l).size : Int) ≠ S then (⟨#[]⟩, 5) else (catK l, 0)
theorem joinM1 {S C : Int} {ids l : List ByteArray} (h : checkM S C ids ≠ 0) : joinM S C ids l = (⟨#[]⟩, checkM S C ids) := if_pos h
theorem joinM2 {S C : Int} {ids l : List ByteArray} (h : checkM S C ids = 0) (h2 : l.length ≠ ids.length) : joinM S C ids l = (⟨#[]⟩, 5) := by
  unfold joinM; rw [if_neg (by simpa using h), if_pos h2]
theorem joinM3 {S C : Int} {ids l : List ByteArray} (h : checkM S C ids = 0) (h2 : l.length = ids.length) (h3 : l.map idV ≠ ids) : joinM S C ids l = (⟨#[]⟩, 6) := by
  unfold joinM; rw [if_neg (by simpa using h), if_neg (by simpa using h2), if_pos h3]
theorem joinM4 {S C : Int} {ids l : List ByteArray} (h : checkM S C ids = 0) (h2 : l.length = ids.length) (h3 : l.map idV = ids) (h4 : ((catK l).size : Int) ≠ S) : joinM S C ids l = (⟨#[]⟩, 5) := by
  unfold joinM; rw [if_neg (by simpa using h), if_neg (by simpa using h2), if_neg (by simpa using h3), if_pos h4]
theorem joinM5 {S C : Int} {ids l : List ByteArray} (h : checkM S C ids = 0) (h2 : l.length = ids.length) (h3 : l.map idV = ids) (h4 : ((catK l).size : Int) = S) : joinM S C ids l = (catK l, 0) := by
  unfold joinM; rw [if_neg (by simpa using h), if_neg (by simpa using h2), if_neg (by simpa using h3), if_neg (by simpa using h4)]
theorem map_of_all {l ids : List ByteArray} (hl : l.length = ids.length) (h : ∀ q (h1 : q < l.length) (h2 : q < ids.length), idV l[q] = ids[q]) : l.map idV = ids := by
  apply List.ext_getElem (by simpa using hl)
  intro i h1 h2
  rw [List.getElem_map]
  exact h i (by simpa using h1) h2
theorem catK_snoc (l : List ByteArray) (x : ByteArray) : catK (l ++ [x]) = catK l ++ x := by
  unfold catK
  induction l with
  | nil =>
    show x ++ ByteArray.empty = ByteArray.empty ++ x
    rw [ByteArray.append_empty, ByteArray.empty_append]
  | cons y l ih =>
    simp only [List.cons_append, List.foldr_cons]
    rw [ih, ByteArray.append_assoc]
theorem catK_take_size (l : List ByteArray) : ∀ (K : Nat), (catK (l.take K)).size ≤ (catK l).size := by
  induction l with
  | nil => intro K; simp
  | cons x l ih =>
    intro K
    cases K with
    | zero => exact Nat.zero_le _
    | succ K =>
      rw [List.take_succ_cons]
      show (x ++ catK (l.take K)).size ≤ (x ++ catK l).size
      rw [ByteArray.size_append, ByteArray.size_append]
      have := ih K
      omega
set_option maxHeartbeats 8000000 in
theorem cjoin_any (S C : Int) (ids : List ByteArray) (a : Option Addr) (c : Nat) (l : List ByteArray) (al : Option Addr) (cl : Nat) (w : World) (h : Sl strC 1 w a ids) (hsz : ∀ x ∈ ids, x.size ≤ 1099511627)
    (hl : Sl strC 1 w al l) (hcl : l.length ≤ cl) (hlsz : ∀ x ∈ l, x.size ≤ 1099511627) (hcat : (catK l).size ≤ 1099511627776) :
    Calls Try.prog 19 #[mf S C a ids.length c, .slice al l.length cl] w fun e w' => e = .returned (.tuple #[.string (joinM S C ids l).1, .int .i64 (joinM S C ids l).2]) ∧ Below w.heap.size w w' := by
  have T := fun W (hs : Sl strC 1 W a ids) => ck_any S C ids a c W hs hsz
  unfold mf at *
  have hA := Bk.new w 31 #[.int .i64 S, .int .i64 C, .slice a ids.length c]
  have hB0 := below_new w (.cells #[.int .i64 S, .int .i64 C, .slice a ids.length c] 31)
  have HB0 := Lib.hid hB0
  have HS0 := Lib.hid (h.keep hB0)
  have HL0 := Lib.hid (hl.keep hB0)
  have HA0 := Lib.hid hA
  have m0 := (hA.2 0 _ rfl).1; have m1 := (hA.2 1 _ rfl).1; have m2 := (hA.2 2 _ rfl).1
  have HT := Lib.hid T
  have HSZ := Lib.hid hlsz
  have HCAT := Lib.hid hcat
  clear hA hB0 h T hsz hl hlsz hcat
  by_cases hc : checkM S C ids = 0
  · have HC := Lib.hid hc
    rw [hc] at HT
    have hll : ids.length ≤ 4096 := by obtain ⟨s, k, _, _, _, _, _, _, h, _⟩ := check_zero hc; exact h
    clear hc
    obtain ⟨R, hRe⟩ : ∃ R, R = joinM S C ids l := ⟨_, rfl⟩
    rw [← hRe]
    have HR := Lib.hid hRe
    clear hRe
    obtain ⟨NI, hNI⟩ : ∃ x, x = ids.length := ⟨_, rfl⟩
    obtain ⟨NL, hNL⟩ : ∃ x, x = l.length := ⟨_, rfl⟩
    have HNI := Lib.hid hNI; have HNL := Lib.hid hNL
    rw [← hNI] at HB0 HS0 HL0 HA0 m2 HT hll ⊢
    rw [← hNL] at hcl ⊢
    clear hNI hNL
    go_enter Try.func19, Try.ntmps19
    go_wp2_with fail
    refine (HT.out _ HS0.out).mono ?_
    rintro e w1 ⟨rfl, hb⟩
    have HB1 := Lib.hid (below_cons HB0.out hb); have HS1 := Lib.hid (HS0.out.keep hb); have HL1 := Lib.hid (HL0.out.keep hb)
    have HA1 := Lib.hid (HA0.out.keep hb)
    have m0 := (HA1.out.2 0 _ rfl).1; have m1 := (HA1.out.2 1 _ rfl).1; have m2 := (HA1.out.2 2 _ rfl).1
    clear hb HT
    by_cases hll2 : NL = NI
    · subst hll2
      have HLL := Lib.hid (show l.length = ids.length by rw [← HNL.out, ← HNI.out])
      have hnn : ((NL : Int) != (NL : Int)) = false := by simp
      go_wp2
      go_loopw [23] (fun i wr => ∃ j : Nat, i = .int .i64 j ∧ j ≤ NL ∧ (∀ q (h1 : q < l.length) (h2 : q < ids.length), q < j → idV l[q] = ids[q]) ∧ Below w1.heap.size w1 wr) (fun i _ => NL - (intOf i).toNat)
      case atStart => exact ⟨0, rfl, by omega, fun q h1 h2 h => by omega, Below.refl _ _⟩
      case round =>
        obtain ⟨j, rfl, hj, hall, hbw⟩ := hrel
        have HALL := Lib.hid hall; have HBW := Lib.hid hbw
        clear hall hbw
        by_cases hlt : j < NL
        · have hjl : j < l.length := by rw [← HNL.out]; exact hlt
          have hji : j < ids.length := by rw [← HNI.out]; exact hlt
          obtain ⟨b2, o2, rfl, hb2, hc2⟩ := slT_str HL1.out j hjl
          obtain ⟨b3, o3, rfl, hb3, hc3⟩ := slT_str HS1.out j hji
          have HCL : Hid (∀ W, Below w1.heap.size w1 W → W.cell? ⟨b2, o2 + j, none⟩ = some (.string l[j]) ∧ W.cell? ⟨b3, o3 + j, none⟩ = some (.string ids[j]) ∧ W.cell? ⟨w.heap.size, 2, none⟩ = some (.slice (some ⟨b3, o3, none⟩) NL c)) := Lib.hid (fun W h => ⟨(h.cell (p := ⟨b2, o2 + j, none⟩) hb2).trans hc2, (h.cell (p := ⟨b3, o3 + j, none⟩) hb3).trans hc3, ((HA1.out.keep h).2 2 _ rfl).1⟩)
          have c2 := (HCL.out wr HBW.out).1
          have HSZJ := HSZ.out l[j] (List.getElem_mem hjl)
          have HTI := Lib.hid (fun W => id_any l[j] W (by omega))
          have HNEQ : Hid (idV l[j] ≠ ids[j] → l.map idV ≠ ids) := Lib.hid (fun h e => h (by
            have : (l.map idV)[j]'(by simpa using hjl) = ids[j] := by simp only [e]
            rwa [List.getElem_map] at this))
          have HEQ : Hid (idV l[j] = ids[j] → ∀ q (h1 : q < l.length) (h2 : q < ids.length), q < j + 1 → idV l[q] = ids[q]) := Lib.hid (fun h q h1 h2 h3 => by
            by_cases e : q = j
            · subst e; exact h
            · exact HALL.out q h1 h2 (by omega))

          have hjN : (j : Int) < (NL : Int) := by omega
          clear hc2 hc3
          generalize idV l[j] = ix at *
          generalize l[j] = x at *
          generalize ids[j] = iy at *

          have hP0 : Below w1.heap.size w1 wr.drew := HBW.out.drew
          go_wp2_with fail
          by_cases e : ix = iy
          · have e1 := str_eq e
            have HNX := Lib.hid (HEQ.out e)
            clear e
            refine wp_region_held_drew (S := fun w' => Below w1.heap.size w1 w') (by kernel_rfl) (by (first | exact hP0 | exact hP1)) (fun hHeld => ?_)
            refine wpAnyH_take (i := 0) (oi := { dst := some 28, op := Go.Op.move (Go.Operand.tmp 8), type := 9, pos := "chunk.go:110", after := #[], guard := none }) (v := ?_) rfl (by kernel_rfl) (by kernel_rfl) (by kernel_rfl) (fun _ _ _ h => h) (Or.inl ⟨by rfl, ?_⟩) (by assumption) ?_
            (rotate_left; focus (intro wS hSw; have s0 := (HCL.out wS hSw).1; have s1 := (HCL.out wS hSw).2.1; have s2 := (HCL.out wS hSw).2.2; clear hSw; go_simp; (try rw [if_neg (by omega)]); try with_reducible rfl))
            (try simp only [Act.put, List.setIfInBounds_toArray, List.set_cons_zero, List.set_cons_succ])
            refine wpAnyH_take (i := 2) (oi := { dst := some 30, op := Go.Op.fieldAddr 31 (Go.Operand.tmp 2) 2, type := 0, pos := "chunk.go:110", after := #[], guard := none }) (v := ?_) rfl (by kernel_rfl) (by kernel_rfl) (by kernel_rfl) (fun _ _ _ h => h) (Or.inl ⟨by rfl, ?_⟩) (by assumption) ?_
            (rotate_left; focus (intro wS hSw; have s0 := (HCL.out wS hSw).1; have s1 := (HCL.out wS hSw).2.1; have s2 := (HCL.out wS hSw).2.2; clear hSw; go_simp; (try rw [if_neg (by omega)]); try with_reducible rfl))
            (try simp only [Act.put, List.setIfInBounds_toArray, List.set_cons_zero, List.set_cons_succ])
            refine wpAnyH_take (i := 3) (oi := { dst := some 31, op := Go.Op.load 23 (Go.Operand.tmp 30), type := 23, pos := "chunk.go:110", after := #[{ on := 2, ground := Go.Ground.data }], guard := none }) (v := ?_) rfl (by kernel_rfl) (by kernel_rfl) (by kernel_rfl) (fun _ _ _ h => h) (Or.inl ⟨by rfl, ?_⟩) (by assumption) ?_
            (rotate_left; focus (intro wS hSw; have s0 := (HCL.out wS hSw).1; have s1 := (HCL.out wS hSw).2.1; have s2 := (HCL.out wS hSw).2.2; clear hSw; go_simp; (try rw [if_neg (by omega)]); try with_reducible rfl))
            (try simp only [Act.put, List.setIfInBounds_toArray, List.set_cons_zero, List.set_cons_succ])
            refine wpAnyH_take (i := 4) (oi := { dst := some 32, op := Go.Op.move (Go.Operand.tmp 7), type := 3, pos := "chunk.go:110", after := #[], guard := none }) (v := ?_) rfl (by kernel_rfl) (by kernel_rfl) (by kernel_rfl) (fun _ _ _ h => h) (Or.inl ⟨by rfl, ?_⟩) (by assumption) ?_
            (rotate_left; focus (intro wS hSw; have s0 := (HCL.out wS hSw).1; have s1 := (HCL.out wS hSw).2.1; have s2 := (HCL.out wS hSw).2.2; clear hSw; go_simp; (try rw [if_neg (by omega)]); try with_reducible rfl))
            (try simp only [Act.put, List.setIfInBounds_toArray, List.set_cons_zero, List.set_cons_succ])
            refine wpAnyH_take (i := 5) (oi := { dst := some 33, op := Go.Op.indexAddr 23 (Go.Operand.tmp 31) (Go.Operand.tmp 32), type := 0, pos := "chunk.go:110", after := #[{ on := 3, ground := Go.Ground.data }, { on := 4, ground := Go.Ground.data }], guard := none }) (v := ?_) rfl (by kernel_rfl) (by kernel_rfl) (by kernel_rfl) (fun _ _ _ h => h) (Or.inl ⟨by rfl, ?_⟩) (by assumption) ?_
            (rotate_left; focus (intro wS hSw; have s0 := (HCL.out wS hSw).1; have s1 := (HCL.out wS hSw).2.1; have s2 := (HCL.out wS hSw).2.2; clear hSw; go_simp; (try rw [if_neg (by omega)]); try with_reducible rfl))
            (try simp only [Act.put, List.setIfInBounds_toArray, List.set_cons_zero, List.set_cons_succ])
            refine wpAnyH_take (i := 6) (oi := { dst := some 34, op := Go.Op.load 9 (Go.Operand.tmp 33), type := 9, pos := "chunk.go:110", after := #[{ on := 5, ground := Go.Ground.data }], guard := none }) (v := ?_) rfl (by kernel_rfl) (by kernel_rfl) (by kernel_rfl) (fun _ _ _ h => h) (Or.inl ⟨by rfl, ?_⟩) (by assumption) ?_
            (rotate_left; focus (intro wS hSw; have s0 := (HCL.out wS hSw).1; have s1 := (HCL.out wS hSw).2.1; have s2 := (HCL.out wS hSw).2.2; clear hSw; go_simp; (try rw [if_neg (by omega)]); try with_reducible rfl))
            (try simp only [Act.put, List.setIfInBounds_toArray, List.set_cons_zero, List.set_cons_succ])
            refine wpAnyH_ready (rs := [1]) (by kernel_rfl) (by simp) ?_
            refine AllReadyH.cons (o := { dst := some 29, op := Go.Op.call { callee := Go.Callee.value (Go.Operand.func 26), args := #[Go.Operand.tmp 28], argTypes := #[9] }, type := 9, pos := "chunk.go:110", after := #[{ on := 0, ground := Go.Ground.data }], guard := none }) rfl (fun K hK => ?_) AllReadyH.nil
            go_simp
            refine (HTI.out _).mono ?_
            rintro e w3 ⟨rfl, hb⟩
            have hP1 : Below w1.heap.size w1 w3 := hP0.trans (hb.mono hP0.size)
            have HB3 := Lib.hid hP1
            clear hb
            (try go_wp2_with fail)
            refine hK.out _ _ (by (first | exact hP0 | exact hP1)) (fun hHeld => ?_)
            clear hK K
            (try simp only [Act.put, List.setIfInBounds_toArray, List.set_cons_zero, List.set_cons_succ])
            refine wpAnyH_take (i := 7) (oi := { dst := some 35, op := Go.Op.binOp Go.BinOp.neq 9 (Go.Operand.tmp 29) (Go.Operand.tmp 34) 9, type := 4, pos := "chunk.go:110", after := #[{ on := 1, ground := Go.Ground.data }, { on := 6, ground := Go.Ground.data }], guard := none }) (v := ?_) rfl (by kernel_rfl) (by kernel_rfl) (by kernel_rfl) (fun _ _ _ h => h) (Or.inl ⟨by rfl, ?_⟩) (by assumption) ?_
            (rotate_left; focus (intro wS hSw; have s0 := (HCL.out wS hSw).1; have s1 := (HCL.out wS hSw).2.1; have s2 := (HCL.out wS hSw).2.2; clear hSw; go_simp; (try rw [if_neg (by omega)]); try with_reducible rfl))
            (try simp only [Act.put, List.setIfInBounds_toArray, List.set_cons_zero, List.set_cons_succ])
            refine wpAnyH_done (by kernel_rfl) ?_ _
            clear hP0 hP1 c2
            go_wp2
            go_roundw
            case rel => exact ⟨j + 1, by go_num, by omega, HNX.out, HB3.out⟩
            case measure => simp [intOf]; omega
          · have e1 := str_ne e
            have HNX := Lib.hid (HR.out.trans (joinM3 HC.out HLL.out (HNEQ.out e)))
            clear e
            refine wp_region_held_drew (S := fun w' => Below w1.heap.size w1 w') (by kernel_rfl) (by (first | exact hP0 | exact hP1)) (fun hHeld => ?_)
            refine wpAnyH_take (i := 0) (oi := { dst := some 28, op := Go.Op.move (Go.Operand.tmp 8), type := 9, pos := "chunk.go:110", after := #[], guard := none }) (v := ?_) rfl (by kernel_rfl) (by kernel_rfl) (by kernel_rfl) (fun _ _ _ h => h) (Or.inl ⟨by rfl, ?_⟩) (by assumption) ?_
            (rotate_left; focus (intro wS hSw; have s0 := (HCL.out wS hSw).1; have s1 := (HCL.out wS hSw).2.1; have s2 := (HCL.out wS hSw).2.2; clear hSw; go_simp; (try rw [if_neg (by omega)]); try with_reducible rfl))
            (try simp only [Act.put, List.setIfInBounds_toArray, List.set_cons_zero, List.set_cons_succ])
            refine wpAnyH_take (i := 2) (oi := { dst := some 30, op := Go.Op.fieldAddr 31 (Go.Operand.tmp 2) 2, type := 0, pos := "chunk.go:110", after := #[], guard := none }) (v := ?_) rfl (by kernel_rfl) (by kernel_rfl) (by kernel_rfl) (fun _ _ _ h => h) (Or.inl ⟨by rfl, ?_⟩) (by assumption) ?_
            (rotate_left; focus (intro wS hSw; have s0 := (HCL.out wS hSw).1; have s1 := (HCL.out wS hSw).2.1; have s2 := (HCL.out wS hSw).2.2; clear hSw; go_simp; (try rw [if_neg (by omega)]); try with_reducible rfl))
            (try simp only [Act.put, List.setIfInBounds_toArray, List.set_cons_zero, List.set_cons_succ])
            refine wpAnyH_take (i := 3) (oi := { dst := some 31, op := Go.Op.load 23 (Go.Operand.tmp 30), type := 23, pos := "chunk.go:110", after := #[{ on := 2, ground := Go.Ground.data }], guard := none }) (v := ?_) rfl (by kernel_rfl) (by kernel_rfl) (by kernel_rfl) (fun _ _ _ h => h) (Or.inl ⟨by rfl, ?_⟩) (by assumption) ?_
            (rotate_left; focus (intro wS hSw; have s0 := (HCL.out wS hSw).1; have s1 := (HCL.out wS hSw).2.1; have s2 := (HCL.out wS hSw).2.2; clear hSw; go_simp; (try rw [if_neg (by omega)]); try with_reducible rfl))
            (try simp only [Act.put, List.setIfInBounds_toArray, List.set_cons_zero, List.set_cons_succ])
            refine wpAnyH_take (i := 4) (oi := { dst := some 32, op := Go.Op.move (Go.Operand.tmp 7), type := 3, pos := "chunk.go:110", after := #[], guard := none }) (v := ?_) rfl (by kernel_rfl) (by kernel_rfl) (by kernel_rfl) (fun _ _ _ h => h) (Or.inl ⟨by rfl, ?_⟩) (by assumption) ?_
            (rotate_left; focus (intro wS hSw; have s0 := (HCL.out wS hSw).1; have s1 := (HCL.out wS hSw).2.1; have s2 := (HCL.out wS hSw).2.2; clear hSw; go_simp; (try rw [if_neg (by omega)]); try with_reducible rfl))
            (try simp only [Act.put, List.setIfInBounds_toArray, List.set_cons_zero, List.set_cons_succ])
            refine wpAnyH_take (i := 5) (oi := { dst := some 33, op := Go.Op.indexAddr 23 (Go.Operand.tmp 31) (Go.Operand.tmp 32), type := 0, pos := "chunk.go:110", after := #[{ on := 3, ground := Go.Ground.data }, { on := 4, ground := Go.Ground.data }], guard := none }) (v := ?_) rfl (by kernel_rfl) (by kernel_rfl) (by kernel_rfl) (fun _ _ _ h => h) (Or.inl ⟨by rfl, ?_⟩) (by assumption) ?_
            (rotate_left; focus (intro wS hSw; have s0 := (HCL.out wS hSw).1; have s1 := (HCL.out wS hSw).2.1; have s2 := (HCL.out wS hSw).2.2; clear hSw; go_simp; (try rw [if_neg (by omega)]); try with_reducible rfl))
            (try simp only [Act.put, List.setIfInBounds_toArray, List.set_cons_zero, List.set_cons_succ])
            refine wpAnyH_take (i := 6) (oi := { dst := some 34, op := Go.Op.load 9 (Go.Operand.tmp 33), type := 9, pos := "chunk.go:110", after := #[{ on := 5, ground := Go.Ground.data }], guard := none }) (v := ?_) rfl (by kernel_rfl) (by kernel_rfl) (by kernel_rfl) (fun _ _ _ h => h) (Or.inl ⟨by rfl, ?_⟩) (by assumption) ?_
            (rotate_left; focus (intro wS hSw; have s0 := (HCL.out wS hSw).1; have s1 := (HCL.out wS hSw).2.1; have s2 := (HCL.out wS hSw).2.2; clear hSw; go_simp; (try rw [if_neg (by omega)]); try with_reducible rfl))
            (try simp only [Act.put, List.setIfInBounds_toArray, List.set_cons_zero, List.set_cons_succ])
            refine wpAnyH_ready (rs := [1]) (by kernel_rfl) (by simp) ?_
            refine AllReadyH.cons (o := { dst := some 29, op := Go.Op.call { callee := Go.Callee.value (Go.Operand.func 26), args := #[Go.Operand.tmp 28], argTypes := #[9] }, type := 9, pos := "chunk.go:110", after := #[{ on := 0, ground := Go.Ground.data }], guard := none }) rfl (fun K hK => ?_) AllReadyH.nil
            go_simp
            refine (HTI.out _).mono ?_
            rintro e w3 ⟨rfl, hb⟩
            have hP1 : Below w1.heap.size w1 w3 := hP0.trans (hb.mono hP0.size)
            have HB3 := Lib.hid hP1
            clear hb
            (try go_wp2_with fail)
            refine hK.out _ _ (by (first | exact hP0 | exact hP1)) (fun hHeld => ?_)
            clear hK K
            (try simp only [Act.put, List.setIfInBounds_toArray, List.set_cons_zero, List.set_cons_succ])
            refine wpAnyH_take (i := 7) (oi := { dst := some 35, op := Go.Op.binOp Go.BinOp.neq 9 (Go.Operand.tmp 29) (Go.Operand.tmp 34) 9, type := 4, pos := "chunk.go:110", after := #[{ on := 1, ground := Go.Ground.data }, { on := 6, ground := Go.Ground.data }], guard := none }) (v := ?_) rfl (by kernel_rfl) (by kernel_rfl) (by kernel_rfl) (fun _ _ _ h => h) (Or.inl ⟨by rfl, ?_⟩) (by assumption) ?_
            (rotate_left; focus (intro wS hSw; have s0 := (HCL.out wS hSw).1; have s1 := (HCL.out wS hSw).2.1; have s2 := (HCL.out wS hSw).2.2; clear hSw; go_simp; (try rw [if_neg (by omega)]); try with_reducible rfl))
            (try simp only [Act.put, List.setIfInBounds_toArray, List.set_cons_zero, List.set_cons_succ])
            refine wpAnyH_done (by kernel_rfl) ?_ _
            clear hP0 hP1 c2
            go_wp2
            go_ret2
            rw [HNX.out]
            exact ⟨rfl, HB1.out.trans (HB3.out.mono HB1.out.size)⟩
        · obtain rfl : j = NL := by omega
          have HMAP := Lib.hid (map_of_all HLL.out (fun q h1 h2 => HALL.out q h1 h2 (by rw [HNL.out]; exact h1)))
          have HBR := Lib.hid (HB1.out.trans (HBW.out.mono HB1.out.size))
          have hjj : ¬ (j : Int) < (j : Int) := by omega
          have ha := HA1.out.keep HBW.out
          have m0 := (ha.2 0 _ rfl).1
          have HJ4 := Lib.hid (joinM4 (S := S) HC.out HLL.out HMAP.out); have HJ5 := Lib.hid (joinM5 (S := S) HC.out HLL.out HMAP.out)
          have T := sjoin_any l al cl wr (HL1.out.keep HBW.out) (by rw [← HNL.out]; exact hcl) (by rw [← HNL.out]; omega) HCAT.out
          rw [← HNL.out] at T
          have HTJ := Lib.hid T
          clear T ha m0
          go_wp2_with fail
          refine HTJ.out.mono ?_
          rintro e w3 ⟨rfl, hb⟩
          have HBJ := Lib.hid (HBR.out.trans (hb.mono HBR.out.size))
          have m0 := ((HA1.out.keep (HBW.out.trans (hb.mono HBW.out.size))).2 0 _ rfl).1
          clear hb HTJ
          generalize catK l = CL at *
          by_cases h9 : (CL.size : Int) = S
          · have HR5 := Lib.hid (HR.out.trans (HJ5.out h9))
            have h9b : ((CL.size : Int) == S) = true := by simp [h9]
            have h9c : ((CL.size : Int) != S) = false := by simp [h9]
            clear h9
            go_wp2
            go_ret2
            rw [HR5.out]
            exact ⟨rfl, HBJ.out⟩
          · have HR5 := Lib.hid (HR.out.trans (HJ4.out h9))
            have h9b : ((CL.size : Int) == S) = false := by simp [h9]
            have h9c : ((CL.size : Int) != S) = true := by simp [h9]
            clear h9
            go_wp2
            go_ret2
            rw [HR5.out]
            exact ⟨rfl, HBJ.out⟩
    · have HR2 := Lib.hid (HR.out.trans (joinM2 HC.out (by rw [← HNL.out, ← HNI.out]; exact hll2)))
      have hnn : ((NL : Int) != (NI : Int)) = true := by simp; omega
      have hnn2 : ((NL : Int) == (NI : Int)) = false := by simp; omega
      go_wp2
      go_ret2
      rw [HR2.out]
      exact ⟨rfl, HB1.out⟩
  · have HP := Lib.hid (joinM1 (l := l) hc)
    generalize checkM S C ids = R at *
    have hc2 : (R == 0) = false := by simp [hc]
    have hc3 : (R != 0) = true := by simp [hc]
    go_enter Try.func19, Try.ntmps19
    go_wp2_with fail
    refine (HT.out _ HS0.out).mono ?_
    rintro e w1 ⟨rfl, hb⟩
    have HB1 := Lib.hid (below_cons HB0.out hb)
    clear hb m0 m1 m2
    go_wp2
    go_ret2
    rw [HP.out]
    exact ⟨rfl, HB1.out⟩
set_option maxHeartbeats 8000000 in
theorem rcjoin_any (S C : Int) (ids : List ByteArray) (a : Option Addr) (c : Nat) (l : List ByteArray) (al : Option Addr) (cl : Nat) (w : World) (h : Sl strC 1 w a ids) (hsz : ∀ x ∈ ids, x.size ≤ 1099511627)
    (hl : Sl strC 1 w al l) (hcl : l.length ≤ cl) (hlsz : ∀ x ∈ l, x.size ≤ 1099511627) (hcat : (catK l).size ≤ 1099511627776) :
    Calls Try.prog 20 #[mf S C a ids.length c, .slice al l.length cl] w fun e w' => e = .returned (.tuple #[.string (joinM S C ids l).1, .int .i64 (joinM S C ids l).2]) ∧ Below w.heap.size w w' := by
  have T := fun W (hs : Sl strC 1 W a ids) => rck_any S C ids a c W hs hsz
  unfold mf at *
  have hA := Bk.new w 31 #[.int .i64 S, .int .i64 C, .slice a ids.length c]
  have hB0 := below_new w (.cells #[.int .i64 S, .int .i64 C, .slice a ids.length c] 31)
  have HB0 := Lib.hid hB0
  have HS0 := Lib.hid (h.keep hB0)
  have HL0 := Lib.hid (hl.keep hB0)
  have HA0 := Lib.hid hA
  have m0 := (hA.2 0 _ rfl).1; have m1 := (hA.2 1 _ rfl).1; have m2 := (hA.2 2 _ rfl).1
  have HT := Lib.hid T
  have HSZ := Lib.hid hlsz
  have HCAT := Lib.hid hcat
  clear hA hB0 h T hsz hl hlsz hcat
  by_cases hc : checkM S C ids = 0
  · have HC := Lib.hid hc
    rw [hc] at HT
    have hll : ids.length ≤ 4096 := by obtain ⟨s, k, _, _, _, _, _, _, h, _⟩ := check_zero hc; exact h
    clear hc
    obtain ⟨R, hRe⟩ : ∃ R, R = joinM S C ids l := ⟨_, rfl⟩
    rw [← hRe]
    have HR := Lib.hid hRe
    clear hRe
    obtain ⟨NI, hNI⟩ : ∃ x, x = ids.length := ⟨_, rfl⟩
    obtain ⟨NL, hNL⟩ : ∃ x, x = l.length := ⟨_, rfl⟩
    have HNI := Lib.hid hNI; have HNL := Lib.hid hNL
    rw [← hNI] at HB0 HS0 HL0 HA0 m2 HT hll ⊢
    rw [← hNL] at hcl ⊢
    clear hNI hNL
    go_enter Try.func20, Try.ntmps20
    go_wp2_with fail
    refine (HT.out _ HS0.out).mono ?_
    rintro e w1 ⟨rfl, hb⟩
    have HB1 := Lib.hid (below_cons HB0.out hb); have HS1 := Lib.hid (HS0.out.keep hb); have HL1 := Lib.hid (HL0.out.keep hb)
    have HA1 := Lib.hid (HA0.out.keep hb)
    have m0 := (HA1.out.2 0 _ rfl).1; have m1 := (HA1.out.2 1 _ rfl).1; have m2 := (HA1.out.2 2 _ rfl).1
    clear hb HT
    by_cases hll2 : NL = NI
    · subst hll2
      have HLL := Lib.hid (show l.length = ids.length by rw [← HNL.out, ← HNI.out])
      have hnn : ((NL : Int) != (NL : Int)) = false := by simp
      go_wp2
      go_loopw [7, 8] (fun sm i wr => ∃ j : Nat, i = .int .i64 j ∧ j ≤ NL ∧ sm = .string (catK (l.take j)) ∧ (∀ q (h1 : q < l.length) (h2 : q < ids.length), q < j → idV l[q] = ids[q]) ∧ Below w1.heap.size w1 wr) (fun _ i _ => NL - (intOf i).toNat)
      case atStart => exact ⟨0, rfl, by omega, rfl, fun q h1 h2 h => by omega, Below.refl _ _⟩
      case round =>
        obtain ⟨j, rfl, hj, rfl, hall, hbw⟩ := hrel
        have HALL := Lib.hid hall; have HBW := Lib.hid hbw
        clear hall hbw
        by_cases hlt : j < NL
        · have hjl : j < l.length := by rw [← HNL.out]; exact hlt
          have hji : j < ids.length := by rw [← HNI.out]; exact hlt
          obtain ⟨b2, o2, rfl, hb2, hc2⟩ := slT_str HL1.out j hjl
          obtain ⟨b3, o3, rfl, hb3, hc3⟩ := slT_str HS1.out j hji
          have HCL : Hid (∀ W, Below w1.heap.size w1 W → W.cell? ⟨b2, o2 + j, none⟩ = some (.string l[j]) ∧ W.cell? ⟨b3, o3 + j, none⟩ = some (.string ids[j]) ∧ W.cell? ⟨w.heap.size, 2, none⟩ = some (.slice (some ⟨b3, o3, none⟩) NL c)) := Lib.hid (fun W h => ⟨(h.cell (p := ⟨b2, o2 + j, none⟩) hb2).trans hc2, (h.cell (p := ⟨b3, o3 + j, none⟩) hb3).trans hc3, ((HA1.out.keep h).2 2 _ rfl).1⟩)
          have c2 := (HCL.out wr HBW.out).1
          have HSZJ := HSZ.out l[j] (List.getElem_mem hjl)
          have HTI := Lib.hid (fun W => rid_any l[j] W (by omega))
          have HNEQ : Hid (idV l[j] ≠ ids[j] → l.map idV ≠ ids) := Lib.hid (fun h e => h (by
            have : (l.map idV)[j]'(by simpa using hjl) = ids[j] := by simp only [e]
            rwa [List.getElem_map] at this))
          have HEQ : Hid (idV l[j] = ids[j] → ∀ q (h1 : q < l.length) (h2 : q < ids.length), q < j + 1 → idV l[q] = ids[q]) := Lib.hid (fun h q h1 h2 h3 => by
            by_cases e : q = j
            · subst e; exact h
            · exact HALL.out q h1 h2 (by omega))
          have HSUM : Hid (catK (l.take (j + 1)) = catK (l.take j) ++ l[j]) := Lib.hid (by rw [takeT_next l j hjl, catK_snoc])
          have hcs := Nat.le_trans (catK_take_size l (j + 1)) HCAT.out
          rw [HSUM.out, ByteArray.size_append] at hcs
          have hjN : (j : Int) < (NL : Int) := by omega
          clear hc2 hc3
          generalize idV l[j] = ix at *
          generalize l[j] = x at *
          generalize ids[j] = iy at *
          generalize catK (l.take j) = CJ at *
          have hadd : CJ.size + x.size ≤ 9223372036854775807 := by omega
          have hP0 : Below w1.heap.size w1 wr.drew := HBW.out.drew
          go_wp2_with fail
          by_cases e : ix = iy
          · have e1 := str_eq e
            have HNX := Lib.hid (HEQ.out e)
            clear e
            refine wp_region_held_drew (S := fun w' => Below w1.heap.size w1 w') (by kernel_rfl) (by (first | exact hP0 | exact hP1)) (fun hHeld => ?_)
            refine wpAnyH_take (i := 0) (oi := { dst := some 26, op := Go.Op.move (Go.Operand.tmp 1), type := 23, pos := "ref.go:111", after := #[], guard := none }) (v := ?_) rfl (by kernel_rfl) (by kernel_rfl) (by kernel_rfl) (fun _ _ _ h => h) (Or.inl ⟨by rfl, ?_⟩) (by assumption) ?_
            (rotate_left; focus (intro wS hSw; have s0 := (HCL.out wS hSw).1; have s1 := (HCL.out wS hSw).2.1; have s2 := (HCL.out wS hSw).2.2; clear hSw; go_simp; (try rw [if_neg (by omega)]); try with_reducible rfl))
            (try simp only [Act.put, List.setIfInBounds_toArray, List.set_cons_zero, List.set_cons_succ])
            refine wpAnyH_take (i := 1) (oi := { dst := some 27, op := Go.Op.move (Go.Operand.tmp 8), type := 3, pos := "ref.go:111", after := #[], guard := none }) (v := ?_) rfl (by kernel_rfl) (by kernel_rfl) (by kernel_rfl) (fun _ _ _ h => h) (Or.inl ⟨by rfl, ?_⟩) (by assumption) ?_
            (rotate_left; focus (intro wS hSw; have s0 := (HCL.out wS hSw).1; have s1 := (HCL.out wS hSw).2.1; have s2 := (HCL.out wS hSw).2.2; clear hSw; go_simp; (try rw [if_neg (by omega)]); try with_reducible rfl))
            (try simp only [Act.put, List.setIfInBounds_toArray, List.set_cons_zero, List.set_cons_succ])
            refine wpAnyH_take (i := 2) (oi := { dst := some 28, op := Go.Op.indexAddr 23 (Go.Operand.tmp 26) (Go.Operand.tmp 27), type := 0, pos := "ref.go:111", after := #[{ on := 0, ground := Go.Ground.data }, { on := 1, ground := Go.Ground.data }], guard := none }) (v := ?_) rfl (by kernel_rfl) (by kernel_rfl) (by kernel_rfl) (fun _ _ _ h => h) (Or.inl ⟨by rfl, ?_⟩) (by assumption) ?_
            (rotate_left; focus (intro wS hSw; have s0 := (HCL.out wS hSw).1; have s1 := (HCL.out wS hSw).2.1; have s2 := (HCL.out wS hSw).2.2; clear hSw; go_simp; (try rw [if_neg (by omega)]); try with_reducible rfl))
            (try simp only [Act.put, List.setIfInBounds_toArray, List.set_cons_zero, List.set_cons_succ])
            refine wpAnyH_take (i := 3) (oi := { dst := some 29, op := Go.Op.load 9 (Go.Operand.tmp 28), type := 9, pos := "ref.go:111", after := #[{ on := 2, ground := Go.Ground.data }], guard := none }) (v := ?_) rfl (by kernel_rfl) (by kernel_rfl) (by kernel_rfl) (fun _ _ _ h => h) (Or.inl ⟨by rfl, ?_⟩) (by assumption) ?_
            (rotate_left; focus (intro wS hSw; have s0 := (HCL.out wS hSw).1; have s1 := (HCL.out wS hSw).2.1; have s2 := (HCL.out wS hSw).2.2; clear hSw; go_simp; (try rw [if_neg (by omega)]); try with_reducible rfl))
            (try simp only [Act.put, List.setIfInBounds_toArray, List.set_cons_zero, List.set_cons_succ])
            refine wpAnyH_take (i := 5) (oi := { dst := some 31, op := Go.Op.fieldAddr 31 (Go.Operand.tmp 2) 2, type := 0, pos := "ref.go:111", after := #[], guard := none }) (v := ?_) rfl (by kernel_rfl) (by kernel_rfl) (by kernel_rfl) (fun _ _ _ h => h) (Or.inl ⟨by rfl, ?_⟩) (by assumption) ?_
            (rotate_left; focus (intro wS hSw; have s0 := (HCL.out wS hSw).1; have s1 := (HCL.out wS hSw).2.1; have s2 := (HCL.out wS hSw).2.2; clear hSw; go_simp; (try rw [if_neg (by omega)]); try with_reducible rfl))
            (try simp only [Act.put, List.setIfInBounds_toArray, List.set_cons_zero, List.set_cons_succ])
            refine wpAnyH_take (i := 6) (oi := { dst := some 32, op := Go.Op.load 23 (Go.Operand.tmp 31), type := 23, pos := "ref.go:111", after := #[{ on := 5, ground := Go.Ground.data }], guard := none }) (v := ?_) rfl (by kernel_rfl) (by kernel_rfl) (by kernel_rfl) (fun _ _ _ h => h) (Or.inl ⟨by rfl, ?_⟩) (by assumption) ?_
            (rotate_left; focus (intro wS hSw; have s0 := (HCL.out wS hSw).1; have s1 := (HCL.out wS hSw).2.1; have s2 := (HCL.out wS hSw).2.2; clear hSw; go_simp; (try rw [if_neg (by omega)]); try with_reducible rfl))
            (try simp only [Act.put, List.setIfInBounds_toArray, List.set_cons_zero, List.set_cons_succ])
            refine wpAnyH_take (i := 7) (oi := { dst := some 33, op := Go.Op.move (Go.Operand.tmp 8), type := 3, pos := "ref.go:111", after := #[], guard := none }) (v := ?_) rfl (by kernel_rfl) (by kernel_rfl) (by kernel_rfl) (fun _ _ _ h => h) (Or.inl ⟨by rfl, ?_⟩) (by assumption) ?_
            (rotate_left; focus (intro wS hSw; have s0 := (HCL.out wS hSw).1; have s1 := (HCL.out wS hSw).2.1; have s2 := (HCL.out wS hSw).2.2; clear hSw; go_simp; (try rw [if_neg (by omega)]); try with_reducible rfl))
            (try simp only [Act.put, List.setIfInBounds_toArray, List.set_cons_zero, List.set_cons_succ])
            refine wpAnyH_take (i := 8) (oi := { dst := some 34, op := Go.Op.indexAddr 23 (Go.Operand.tmp 32) (Go.Operand.tmp 33), type := 0, pos := "ref.go:111", after := #[{ on := 6, ground := Go.Ground.data }, { on := 7, ground := Go.Ground.data }], guard := none }) (v := ?_) rfl (by kernel_rfl) (by kernel_rfl) (by kernel_rfl) (fun _ _ _ h => h) (Or.inl ⟨by rfl, ?_⟩) (by assumption) ?_
            (rotate_left; focus (intro wS hSw; have s0 := (HCL.out wS hSw).1; have s1 := (HCL.out wS hSw).2.1; have s2 := (HCL.out wS hSw).2.2; clear hSw; go_simp; (try rw [if_neg (by omega)]); try with_reducible rfl))
            (try simp only [Act.put, List.setIfInBounds_toArray, List.set_cons_zero, List.set_cons_succ])
            refine wpAnyH_take (i := 9) (oi := { dst := some 35, op := Go.Op.load 9 (Go.Operand.tmp 34), type := 9, pos := "ref.go:111", after := #[{ on := 8, ground := Go.Ground.data }], guard := none }) (v := ?_) rfl (by kernel_rfl) (by kernel_rfl) (by kernel_rfl) (fun _ _ _ h => h) (Or.inl ⟨by rfl, ?_⟩) (by assumption) ?_
            (rotate_left; focus (intro wS hSw; have s0 := (HCL.out wS hSw).1; have s1 := (HCL.out wS hSw).2.1; have s2 := (HCL.out wS hSw).2.2; clear hSw; go_simp; (try rw [if_neg (by omega)]); try with_reducible rfl))
            (try simp only [Act.put, List.setIfInBounds_toArray, List.set_cons_zero, List.set_cons_succ])
            refine wpAnyH_ready (rs := [4]) (by kernel_rfl) (by simp) ?_
            refine AllReadyH.cons (o := { dst := some 30, op := Go.Op.call { callee := Go.Callee.value (Go.Operand.func 27), args := #[Go.Operand.tmp 29], argTypes := #[9] }, type := 9, pos := "ref.go:111", after := #[{ on := 3, ground := Go.Ground.data }], guard := none }) rfl (fun K hK => ?_) AllReadyH.nil
            go_simp
            refine (HTI.out _).mono ?_
            rintro e w3 ⟨rfl, hb⟩
            have hP1 : Below w1.heap.size w1 w3 := hP0.trans (hb.mono hP0.size)
            have HB3 := Lib.hid hP1
            clear hb
            (try go_wp2_with fail)
            refine hK.out _ _ (by (first | exact hP0 | exact hP1)) (fun hHeld => ?_)
            clear hK K
            (try simp only [Act.put, List.setIfInBounds_toArray, List.set_cons_zero, List.set_cons_succ])
            refine wpAnyH_take (i := 10) (oi := { dst := some 36, op := Go.Op.binOp Go.BinOp.neq 9 (Go.Operand.tmp 30) (Go.Operand.tmp 35) 9, type := 4, pos := "ref.go:111", after := #[{ on := 4, ground := Go.Ground.data }, { on := 9, ground := Go.Ground.data }], guard := none }) (v := ?_) rfl (by kernel_rfl) (by kernel_rfl) (by kernel_rfl) (fun _ _ _ h => h) (Or.inl ⟨by rfl, ?_⟩) (by assumption) ?_
            (rotate_left; focus (intro wS hSw; have s0 := (HCL.out wS hSw).1; have s1 := (HCL.out wS hSw).2.1; have s2 := (HCL.out wS hSw).2.2; clear hSw; go_simp; (try rw [if_neg (by omega)]); try with_reducible rfl))
            (try simp only [Act.put, List.setIfInBounds_toArray, List.set_cons_zero, List.set_cons_succ])
            refine wpAnyH_done (by kernel_rfl) ?_ _
            clear hP0 hP1 c2
            have c2 := (HCL.out w3 HB3.out).1
            go_wp2
            go_roundw
            case rel => exact ⟨j + 1, by go_num, by omega, by rw [HSUM.out], HNX.out, HB3.out⟩
            case measure => simp [intOf]; omega
          · have e1 := str_ne e
            have HNX := Lib.hid (HR.out.trans (joinM3 HC.out HLL.out (HNEQ.out e)))
            clear e
            refine wp_region_held_drew (S := fun w' => Below w1.heap.size w1 w') (by kernel_rfl) (by (first | exact hP0 | exact hP1)) (fun hHeld => ?_)
            refine wpAnyH_take (i := 0) (oi := { dst := some 26, op := Go.Op.move (Go.Operand.tmp 1), type := 23, pos := "ref.go:111", after := #[], guard := none }) (v := ?_) rfl (by kernel_rfl) (by kernel_rfl) (by kernel_rfl) (fun _ _ _ h => h) (Or.inl ⟨by rfl, ?_⟩) (by assumption) ?_
            (rotate_left; focus (intro wS hSw; have s0 := (HCL.out wS hSw).1; have s1 := (HCL.out wS hSw).2.1; have s2 := (HCL.out wS hSw).2.2; clear hSw; go_simp; (try rw [if_neg (by omega)]); try with_reducible rfl))
            (try simp only [Act.put, List.setIfInBounds_toArray, List.set_cons_zero, List.set_cons_succ])
            refine wpAnyH_take (i := 1) (oi := { dst := some 27, op := Go.Op.move (Go.Operand.tmp 8), type := 3, pos := "ref.go:111", after := #[], guard := none }) (v := ?_) rfl (by kernel_rfl) (by kernel_rfl) (by kernel_rfl) (fun _ _ _ h => h) (Or.inl ⟨by rfl, ?_⟩) (by assumption) ?_
            (rotate_left; focus (intro wS hSw; have s0 := (HCL.out wS hSw).1; have s1 := (HCL.out wS hSw).2.1; have s2 := (HCL.out wS hSw).2.2; clear hSw; go_simp; (try rw [if_neg (by omega)]); try with_reducible rfl))
            (try simp only [Act.put, List.setIfInBounds_toArray, List.set_cons_zero, List.set_cons_succ])
            refine wpAnyH_take (i := 2) (oi := { dst := some 28, op := Go.Op.indexAddr 23 (Go.Operand.tmp 26) (Go.Operand.tmp 27), type := 0, pos := "ref.go:111", after := #[{ on := 0, ground := Go.Ground.data }, { on := 1, ground := Go.Ground.data }], guard := none }) (v := ?_) rfl (by kernel_rfl) (by kernel_rfl) (by kernel_rfl) (fun _ _ _ h => h) (Or.inl ⟨by rfl, ?_⟩) (by assumption) ?_
            (rotate_left; focus (intro wS hSw; have s0 := (HCL.out wS hSw).1; have s1 := (HCL.out wS hSw).2.1; have s2 := (HCL.out wS hSw).2.2; clear hSw; go_simp; (try rw [if_neg (by omega)]); try with_reducible rfl))
            (try simp only [Act.put, List.setIfInBounds_toArray, List.set_cons_zero, List.set_cons_succ])
            refine wpAnyH_take (i := 3) (oi := { dst := some 29, op := Go.Op.load 9 (Go.Operand.tmp 28), type := 9, pos := "ref.go:111", after := #[{ on := 2, ground := Go.Ground.data }], guard := none }) (v := ?_) rfl (by kernel_rfl) (by kernel_rfl) (by kernel_rfl) (fun _ _ _ h => h) (Or.inl ⟨by rfl, ?_⟩) (by assumption) ?_
            (rotate_left; focus (intro wS hSw; have s0 := (HCL.out wS hSw).1; have s1 := (HCL.out wS hSw).2.1; have s2 := (HCL.out wS hSw).2.2; clear hSw; go_simp; (try rw [if_neg (by omega)]); try with_reducible rfl))
            (try simp only [Act.put, List.setIfInBounds_toArray, List.set_cons_zero, List.set_cons_succ])
            refine wpAnyH_take (i := 5) (oi := { dst := some 31, op := Go.Op.fieldAddr 31 (Go.Operand.tmp 2) 2, type := 0, pos := "ref.go:111", after := #[], guard := none }) (v := ?_) rfl (by kernel_rfl) (by kernel_rfl) (by kernel_rfl) (fun _ _ _ h => h) (Or.inl ⟨by rfl, ?_⟩) (by assumption) ?_
            (rotate_left; focus (intro wS hSw; have s0 := (HCL.out wS hSw).1; have s1 := (HCL.out wS hSw).2.1; have s2 := (HCL.out wS hSw).2.2; clear hSw; go_simp; (try rw [if_neg (by omega)]); try with_reducible rfl))
            (try simp only [Act.put, List.setIfInBounds_toArray, List.set_cons_zero, List.set_cons_succ])
            refine wpAnyH_take (i := 6) (oi := { dst := some 32, op := Go.Op.load 23 (Go.Operand.tmp 31), type := 23, pos := "ref.go:111", after := #[{ on := 5, ground := Go.Ground.data }], guard := none }) (v := ?_) rfl (by kernel_rfl) (by kernel_rfl) (by kernel_rfl) (fun _ _ _ h => h) (Or.inl ⟨by rfl, ?_⟩) (by assumption) ?_
            (rotate_left; focus (intro wS hSw; have s0 := (HCL.out wS hSw).1; have s1 := (HCL.out wS hSw).2.1; have s2 := (HCL.out wS hSw).2.2; clear hSw; go_simp; (try rw [if_neg (by omega)]); try with_reducible rfl))
            (try simp only [Act.put, List.setIfInBounds_toArray, List.set_cons_zero, List.set_cons_succ])
            refine wpAnyH_take (i := 7) (oi := { dst := some 33, op := Go.Op.move (Go.Operand.tmp 8), type := 3, pos := "ref.go:111", after := #[], guard := none }) (v := ?_) rfl (by kernel_rfl) (by kernel_rfl) (by kernel_rfl) (fun _ _ _ h => h) (Or.inl ⟨by rfl, ?_⟩) (by assumption) ?_
            (rotate_left; focus (intro wS hSw; have s0 := (HCL.out wS hSw).1; have s1 := (HCL.out wS hSw).2.1; have s2 := (HCL.out wS hSw).2.2; clear hSw; go_simp; (try rw [if_neg (by omega)]); try with_reducible rfl))
            (try simp only [Act.put, List.setIfInBounds_toArray, List.set_cons_zero, List.set_cons_succ])
            refine wpAnyH_take (i := 8) (oi := { dst := some 34, op := Go.Op.indexAddr 23 (Go.Operand.tmp 32) (Go.Operand.tmp 33), type := 0, pos := "ref.go:111", after := #[{ on := 6, ground := Go.Ground.data }, { on := 7, ground := Go.Ground.data }], guard := none }) (v := ?_) rfl (by kernel_rfl) (by kernel_rfl) (by kernel_rfl) (fun _ _ _ h => h) (Or.inl ⟨by rfl, ?_⟩) (by assumption) ?_
            (rotate_left; focus (intro wS hSw; have s0 := (HCL.out wS hSw).1; have s1 := (HCL.out wS hSw).2.1; have s2 := (HCL.out wS hSw).2.2; clear hSw; go_simp; (try rw [if_neg (by omega)]); try with_reducible rfl))
            (try simp only [Act.put, List.setIfInBounds_toArray, List.set_cons_zero, List.set_cons_succ])
            refine wpAnyH_take (i := 9) (oi := { dst := some 35, op := Go.Op.load 9 (Go.Operand.tmp 34), type := 9, pos := "ref.go:111", after := #[{ on := 8, ground := Go.Ground.data }], guard := none }) (v := ?_) rfl (by kernel_rfl) (by kernel_rfl) (by kernel_rfl) (fun _ _ _ h => h) (Or.inl ⟨by rfl, ?_⟩) (by assumption) ?_
            (rotate_left; focus (intro wS hSw; have s0 := (HCL.out wS hSw).1; have s1 := (HCL.out wS hSw).2.1; have s2 := (HCL.out wS hSw).2.2; clear hSw; go_simp; (try rw [if_neg (by omega)]); try with_reducible rfl))
            (try simp only [Act.put, List.setIfInBounds_toArray, List.set_cons_zero, List.set_cons_succ])
            refine wpAnyH_ready (rs := [4]) (by kernel_rfl) (by simp) ?_
            refine AllReadyH.cons (o := { dst := some 30, op := Go.Op.call { callee := Go.Callee.value (Go.Operand.func 27), args := #[Go.Operand.tmp 29], argTypes := #[9] }, type := 9, pos := "ref.go:111", after := #[{ on := 3, ground := Go.Ground.data }], guard := none }) rfl (fun K hK => ?_) AllReadyH.nil
            go_simp
            refine (HTI.out _).mono ?_
            rintro e w3 ⟨rfl, hb⟩
            have hP1 : Below w1.heap.size w1 w3 := hP0.trans (hb.mono hP0.size)
            have HB3 := Lib.hid hP1
            clear hb
            (try go_wp2_with fail)
            refine hK.out _ _ (by (first | exact hP0 | exact hP1)) (fun hHeld => ?_)
            clear hK K
            (try simp only [Act.put, List.setIfInBounds_toArray, List.set_cons_zero, List.set_cons_succ])
            refine wpAnyH_take (i := 10) (oi := { dst := some 36, op := Go.Op.binOp Go.BinOp.neq 9 (Go.Operand.tmp 30) (Go.Operand.tmp 35) 9, type := 4, pos := "ref.go:111", after := #[{ on := 4, ground := Go.Ground.data }, { on := 9, ground := Go.Ground.data }], guard := none }) (v := ?_) rfl (by kernel_rfl) (by kernel_rfl) (by kernel_rfl) (fun _ _ _ h => h) (Or.inl ⟨by rfl, ?_⟩) (by assumption) ?_
            (rotate_left; focus (intro wS hSw; have s0 := (HCL.out wS hSw).1; have s1 := (HCL.out wS hSw).2.1; have s2 := (HCL.out wS hSw).2.2; clear hSw; go_simp; (try rw [if_neg (by omega)]); try with_reducible rfl))
            (try simp only [Act.put, List.setIfInBounds_toArray, List.set_cons_zero, List.set_cons_succ])
            refine wpAnyH_done (by kernel_rfl) ?_ _
            clear hP0 hP1 c2
            go_wp2
            go_ret2
            rw [HNX.out]
            exact ⟨rfl, HB1.out.trans (HB3.out.mono HB1.out.size)⟩
        · obtain rfl : j = NL := by omega
          have HMAP := Lib.hid (map_of_all HLL.out (fun q h1 h2 => HALL.out q h1 h2 (by rw [HNL.out]; exact h1)))
          have HBR := Lib.hid (HB1.out.trans (HBW.out.mono HB1.out.size))
          have hjj : ¬ (j : Int) < (j : Int) := by omega
          have ha := HA1.out.keep HBW.out
          have m0 := (ha.2 0 _ rfl).1
          have HJ4 := Lib.hid (joinM4 (S := S) HC.out HLL.out HMAP.out); have HJ5 := Lib.hid (joinM5 (S := S) HC.out HLL.out HMAP.out)
          have HTE : Hid (catK (l.take j) = catK l) := Lib.hid (by rw [List.take_of_length_le (by rw [← HNL.out]; exact Nat.le_refl _)])
          rw [HTE.out]
          have HBJ := Lib.hid HBR.out
          clear ha
          generalize catK l = CL at *
          by_cases h9 : (CL.size : Int) = S
          · have HR5 := Lib.hid (HR.out.trans (HJ5.out h9))
            have h9b : ((CL.size : Int) == S) = true := by simp [h9]
            have h9c : ((CL.size : Int) != S) = false := by simp [h9]
            clear h9
            go_wp2
            go_ret2
            rw [HR5.out]
            exact ⟨rfl, HBJ.out⟩
          · have HR5 := Lib.hid (HR.out.trans (HJ4.out h9))
            have h9b : ((CL.size : Int) == S) = false := by simp [h9]
            have h9c : ((CL.size : Int) != S) = true := by simp [h9]
            clear h9
            go_wp2
            go_ret2
            rw [HR5.out]
            exact ⟨rfl, HBJ.out⟩
    · have HR2 := Lib.hid (HR.out.trans (joinM2 HC.out (by rw [← HNL.out, ← HNI.out]; exact hll2)))
      have hnn : ((NL : Int) != (NI : Int)) = true := by simp; omega
      have hnn2 : ((NL : Int) == (NI : Int)) = false := by simp; omega
      go_wp2
      go_ret2
      rw [HR2.out]
      exact ⟨rfl, HB1.out⟩
  · have HP := Lib.hid (joinM1 (l := l) hc)
    generalize checkM S C ids = R at *
    have hc2 : (R == 0) = false := by simp [hc]
    have hc3 : (R != 0) = true := by simp [hc]
    go_enter Try.func20, Try.ntmps20
    go_wp2_with fail
    refine (HT.out _ HS0.out).mono ?_
    rintro e w1 ⟨rfl, hb⟩
    have HB1 := Lib.hid (below_cons HB0.out hb)
    clear hb m0 m1 m2
    go_wp2
    go_ret2
    rw [HP.out]
    exact ⟨rfl, HB1.out⟩
end Go.Proofs.Ytanehgnpominiaa

