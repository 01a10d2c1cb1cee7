/-
  The contract of report.Entry.
-/
import Derived.Test.YtmgmokbephkpbaaB
import Derived.BigQuiet
set_option linter.unusedVariables false
set_option linter.unusedSimpArgs false
namespace Go.Proofs.Ytmgmokbephkpbaa
open Go.RowKit
theorem new_sl {α : Type} (enc : α → List Value) (f : α → Value) (he : ∀ x, enc x = [f x]) (w : World) (E : TypeId) (l : List α) (cs : Array Value) (h : cs = (l.map f).toArray) : Sl enc 1 (w.alloc (.cells cs E)) (some ⟨w.heap.size, 0, none⟩) l := by
  subst h
  refine fun i hi => ⟨w.heap.size, 0, rfl, by simp, fun j u hj => ?_⟩
  rw [he] at hj
  have hj2 : j < 1 := (List.getElem?_eq_some_iff.1 hj).1
  obtain rfl : j = 0 := by omega
  rw [cell_new]
  have : some (f l[i]) = some u := hj
  simp [hi, this]
/-- Some values lie in a block, from its first cell on. -/
def Blk (p : Nat) (vs : List Value) (w : World) : Prop := p < w.heap.size ∧ ∀ i v, vs[i]? = some v → w.cell? ⟨p, i, none⟩ = some v
theorem Blk.keep {p : Nat} {vs : List Value} {w1 w2 : World} (h : Blk p vs w1) (hb : Below w1.heap.size w1 w2) : Blk p vs w2 :=
  ⟨Nat.lt_of_lt_of_le h.1 hb.size, fun i v hv => (hb.cell (p := ⟨p, i, none⟩) h.1).trans (h.2 i v hv)⟩
theorem Blk.new (w : World) (E : TypeId) (cs : Array Value) : Blk w.heap.size cs.toList (w.alloc (.cells cs E)) := by
  refine ⟨by simp, fun i v hv => ?_⟩
  rw [cell_new]; simpa using hv
theorem Blk.drew {p : Nat} {vs : List Value} {w : World} (h : Blk p vs w) : Blk p vs w.drew := h
theorem Sl.drew {α : Type} {enc : α → List Value} {n : Nat} {w : World} {a : Option Addr} {xs : List α} (h : Sl enc n w a xs) : Sl enc n w.drew a xs := h
theorem line2 (a b : List UInt8) : lineOf [a, b] = a ++ 32 :: b := by simp [lineOf, Lib.join, List.intercalate, List.intersperse]
theorem line3 (a b c : List UInt8) : lineOf [a, b, c] = a ++ 32 :: (b ++ 32 :: c) := by simp [lineOf, Lib.join, List.intercalate, List.intersperse]
def tagsOf (tags : List ByteArray) : List UInt8 := tags.flatMap fun t => 32 :: 35 :: t.data.toList
theorem tags_snoc (l : List ByteArray) (t : ByteArray) : tagsOf (l ++ [t]) = tagsOf l ++ 32 :: 35 :: t.data.toList := by simp [tagsOf]
theorem tags_len (l : List ByteArray) (h : ∀ t ∈ l, t.size ≤ 100) : (tagsOf l).length ≤ l.length * 102 := by
  induction l with
  | nil => simp [tagsOf]
  | cons t l ih =>
    have h1 := ih (fun x hx => h x (by simp [hx]))
    have h2 := h t (by simp)
    have h3 : tagsOf (t :: l) = 32 :: 35 :: t.data.toList ++ tagsOf l := by simp [tagsOf]
    rw [h3, List.length_append, List.length_cons, List.length_cons, length_data, List.length_cons]
    omega
/-- A backup's line, ahead of its tags. -/
def headOf (nm lb : ByteArray) (sz il : Int) : List UInt8 := nm.data.toList ++ 32 :: (dec sz ++ 32 :: (dec il ++ 32 :: lb.data.toList))
theorem head_line (nm lb : ByteArray) (sz il : Int) : lineOf [nm.data.toList, lineOf [dec sz, dec il], lb.data.toList] = headOf nm lb sz il := by
  rw [line3, line2]; simp [headOf]
set_option maxRecDepth 100000 in
set_option maxHeartbeats 4000000 in
theorem entry_any (nm lb : ByteArray) (sz ch : Int) (ia ta ka da : Option Addr) (il ic tc kl kc dl dc : Nat) (tags : List ByteArray) (w : World)
    (hnm : nm.size ≤ 100) (hlb : lb.size ≤ 300) (htl : tags.length ≤ 20) (htg : ∀ t ∈ tags, t.size ≤ 100) (hsz : -9223372036854775808 ≤ sz ∧ sz ≤ 9223372036854775807) (hil : il ≤ 9223372036854775807) (hkl : kl ≤ 9223372036854775807) (hdl : dl ≤ 9223372036854775807) (hs : Sl encT 1 w ta tags) :
    Calls Try.prog 8 #[.agg #[.string nm, .int .i64 sz, .int .i64 ch, .slice ia il ic, .string lb, .slice ta tags.length tc, .slice ka kl kc, .slice da dl dc]] w fun e w' => e = .returned (.string (str (headOf nm lb sz il ++ (tagsOf tags ++ 32 :: (dec kl ++ 32 :: dec dl))))) ∧ Below w.heap.size w w' := by
  have HS0 := Lib.hid hs; have HTG := Lib.hid htg
  have HB0 : Below w.heap.size w (w.alloc (.cells #[.string nm, .int .i64 sz, .int .i64 ch, .slice ia il ic, .string lb, .slice ta tags.length tc, .slice ka kl kc, .slice da dl dc] 31)) := below_new w _
  have hP0 : Blk w.heap.size [.string nm, .int .i64 sz, .int .i64 ch, .slice ia il ic, .string lb, .slice ta tags.length tc, .slice ka kl kc, .slice da dl dc] (w.alloc (.cells #[.string nm, .int .i64 sz, .int .i64 ch, .slice ia il ic, .string lb, .slice ta tags.length tc, .slice ka kl kc, .slice da dl dc] 31)) := Blk.new w 31 _
  have HL2 : Hid (lineOf ([nm, str (lineOf [dec sz, dec il]), lb].map (·.data.toList)) = headOf nm lb sz il) := Lib.hid (head_line nm lb sz il)
  have HLN : Hid ((headOf nm lb sz il).length ≤ 1000) := Lib.hid (by
    have h3 := dec_len2 (n := sz) (by omega) (by omega)
    have h4 := dec_len2 (n := il) (by omega) (by omega)
    simp only [headOf, List.length_append, List.length_cons, length_data]
    omega)
  have HL1 : Hid ((lineOf ([nm, str (lineOf [dec sz, dec il]), lb].map (·.data.toList))).length ≤ 140737488355328) := Lib.hid (by rw [HL2.out]; have := HLN.out; omega)
  clear hs htg
  go_enter Try.func8, Try.ntmps8
  go_wp2_with fail
  generalize w.alloc (.cells #[.string nm, .int .i64 sz, .int .i64 ch, .slice ia il ic, .string lb, .slice ta tags.length tc, .slice ka kl kc, .slice da dl dc] 31) = W0 at HB0 hP0 ⊢
  replace HB0 := Lib.hid HB0
  have hP0 := hP0.drew
  refine wp_region_held_drew (S := fun w' => Blk w.heap.size [.string nm, .int .i64 sz, .int .i64 ch, .slice ia il ic, .string lb, .slice ta tags.length tc, .slice ka kl kc, .slice da dl dc] w') (by kernel_rfl) (by (first | exact hP0 | exact hP1 | exact hP2 | exact hP3 | exact hP4)) (fun hHeld => ?_)
  refine wpAnyH_take (i := 0) (oi := { dst := some 6, op := Go.Op.fieldAddr 31 (Go.Operand.tmp 1) 0, type := 0, pos := "report.go:40", after := #[], guard := none }) (v := ?_) rfl (by kernel_rfl) (by kernel_rfl) (by kernel_rfl) (fun _ _ _ h => h) (Or.inl ⟨by rfl, ?_⟩) (by assumption) ?_
  (rotate_left; focus (intro wS hSw; have s0 := hSw.2 0 _ rfl; have s1 := hSw.2 1 _ rfl; have s2 := hSw.2 2 _ rfl; have s3 := hSw.2 3 _ rfl; have s4 := hSw.2 4 _ rfl; have s5 := hSw.2 5 _ rfl; have hSz := hSw.1; clear hSw; go_simp; try with_reducible rfl))
  (try simp only [Act.put, List.setIfInBounds_toArray, List.set_cons_zero, List.set_cons_succ])
  refine wpAnyH_take (i := 1) (oi := { dst := some 7, op := Go.Op.load 9 (Go.Operand.tmp 6), type := 9, pos := "report.go:40", after := #[{ on := 0, ground := Go.Ground.data }], guard := none }) (v := ?_) rfl (by kernel_rfl) (by kernel_rfl) (by kernel_rfl) (fun _ _ _ h => h) (Or.inl ⟨by rfl, ?_⟩) (by assumption) ?_
  (rotate_left; focus (intro wS hSw; have s0 := hSw.2 0 _ rfl; have s1 := hSw.2 1 _ rfl; have s2 := hSw.2 2 _ rfl; have s3 := hSw.2 3 _ rfl; have s4 := hSw.2 4 _ rfl; have s5 := hSw.2 5 _ rfl; have hSz := hSw.1; clear hSw; go_simp; try with_reducible rfl))
  (try simp only [Act.put, List.setIfInBounds_toArray, List.set_cons_zero, List.set_cons_succ])
  refine wpAnyH_take (i := 2) (oi := { dst := some 8, op := Go.Op.fieldAddr 31 (Go.Operand.tmp 1) 1, type := 0, pos := "report.go:40", after := #[], guard := none }) (v := ?_) rfl (by kernel_rfl) (by kernel_rfl) (by kernel_rfl) (fun _ _ _ h => h) (Or.inl ⟨by rfl, ?_⟩) (by assumption) ?_
  (rotate_left; focus (intro wS hSw; have s0 := hSw.2 0 _ rfl; have s1 := hSw.2 1 _ rfl; have s2 := hSw.2 2 _ rfl; have s3 := hSw.2 3 _ rfl; have s4 := hSw.2 4 _ rfl; have s5 := hSw.2 5 _ rfl; have hSz := hSw.1; clear hSw; go_simp; try with_reducible rfl))
  (try simp only [Act.put, List.setIfInBounds_toArray, List.set_cons_zero, List.set_cons_succ])
  refine wpAnyH_take (i := 3) (oi := { dst := some 9, op := Go.Op.fieldAddr 27 (Go.Operand.tmp 8) 0, type := 0, pos := "report.go:40", after := #[{ on := 2, ground := Go.Ground.data }], guard := none }) (v := ?_) rfl (by kernel_rfl) (by kernel_rfl) (by kernel_rfl) (fun _ _ _ h => h) (Or.inl ⟨by rfl, ?_⟩) (by assumption) ?_
  (rotate_left; focus (intro wS hSw; have s0 := hSw.2 0 _ rfl; have s1 := hSw.2 1 _ rfl; have s2 := hSw.2 2 _ rfl; have s3 := hSw.2 3 _ rfl; have s4 := hSw.2 4 _ rfl; have s5 := hSw.2 5 _ rfl; have hSz := hSw.1; clear hSw; go_simp; try with_reducible rfl))
  (try simp only [Act.put, List.setIfInBounds_toArray, List.set_cons_zero, List.set_cons_succ])
  refine wpAnyH_take (i := 4) (oi := { dst := some 10, op := Go.Op.load 3 (Go.Operand.tmp 9), type := 3, pos := "report.go:40", after := #[{ on := 3, ground := Go.Ground.data }], guard := none }) (v := ?_) rfl (by kernel_rfl) (by kernel_rfl) (by kernel_rfl) (fun _ _ _ h => h) (Or.inl ⟨by rfl, ?_⟩) (by assumption) ?_
  (rotate_left; focus (intro wS hSw; have s0 := hSw.2 0 _ rfl; have s1 := hSw.2 1 _ rfl; have s2 := hSw.2 2 _ rfl; have s3 := hSw.2 3 _ rfl; have s4 := hSw.2 4 _ rfl; have s5 := hSw.2 5 _ rfl; have hSz := hSw.1; clear hSw; go_simp; try with_reducible rfl))
  (try simp only [Act.put, List.setIfInBounds_toArray, List.set_cons_zero, List.set_cons_succ])
  refine wpAnyH_take (i := 5) (oi := { dst := some 11, op := Go.Op.fieldAddr 31 (Go.Operand.tmp 1) 1, type := 0, pos := "report.go:40", after := #[], guard := none }) (v := ?_) rfl (by kernel_rfl) (by kernel_rfl) (by kernel_rfl) (fun _ _ _ h => h) (Or.inl ⟨by rfl, ?_⟩) (by assumption) ?_
  (rotate_left; focus (intro wS hSw; have s0 := hSw.2 0 _ rfl; have s1 := hSw.2 1 _ rfl; have s2 := hSw.2 2 _ rfl; have s3 := hSw.2 3 _ rfl; have s4 := hSw.2 4 _ rfl; have s5 := hSw.2 5 _ rfl; have hSz := hSw.1; clear hSw; go_simp; try with_reducible rfl))
  (try simp only [Act.put, List.setIfInBounds_toArray, List.set_cons_zero, List.set_cons_succ])
  refine wpAnyH_take (i := 6) (oi := { dst := some 12, op := Go.Op.fieldAddr 27 (Go.Operand.tmp 11) 2, type := 0, pos := "report.go:40", after := #[{ on := 5, ground := Go.Ground.data }], guard := none }) (v := ?_) rfl (by kernel_rfl) (by kernel_rfl) (by kernel_rfl) (fun _ _ _ h => h) (Or.inl ⟨by rfl, ?_⟩) (by assumption) ?_
  (rotate_left; focus (intro wS hSw; have s0 := hSw.2 0 _ rfl; have s1 := hSw.2 1 _ rfl; have s2 := hSw.2 2 _ rfl; have s3 := hSw.2 3 _ rfl; have s4 := hSw.2 4 _ rfl; have s5 := hSw.2 5 _ rfl; have hSz := hSw.1; clear hSw; go_simp; try with_reducible rfl))
  (try simp only [Act.put, List.setIfInBounds_toArray, List.set_cons_zero, List.set_cons_succ])
  refine wpAnyH_take (i := 7) (oi := { dst := some 13, op := Go.Op.load 25 (Go.Operand.tmp 12), type := 25, pos := "report.go:40", after := #[{ on := 6, ground := Go.Ground.data }], guard := none }) (v := ?_) rfl (by kernel_rfl) (by kernel_rfl) (by kernel_rfl) (fun _ _ _ h => h) (Or.inl ⟨by rfl, ?_⟩) (by assumption) ?_
  (rotate_left; focus (intro wS hSw; have s0 := hSw.2 0 _ rfl; have s1 := hSw.2 1 _ rfl; have s2 := hSw.2 2 _ rfl; have s3 := hSw.2 3 _ rfl; have s4 := hSw.2 4 _ rfl; have s5 := hSw.2 5 _ rfl; have hSz := hSw.1; clear hSw; go_simp; try with_reducible rfl))
  (try simp only [Act.put, List.setIfInBounds_toArray, List.set_cons_zero, List.set_cons_succ])
  refine wpAnyH_take (i := 8) (oi := { dst := some 14, op := Go.Op.call { callee := Go.Callee.builtin Go.Builtin.len, args := #[Go.Operand.tmp 13], argTypes := #[25] }, type := 3, pos := "report.go:40", after := #[{ on := 7, ground := Go.Ground.data }], guard := none }) (v := ?_) rfl (by kernel_rfl) (by kernel_rfl) (by kernel_rfl) (fun _ _ _ h => h) (Or.inl ⟨by rfl, ?_⟩) (by assumption) ?_
  (rotate_left; focus (intro wS hSw; have s0 := hSw.2 0 _ rfl; have s1 := hSw.2 1 _ rfl; have s2 := hSw.2 2 _ rfl; have s3 := hSw.2 3 _ rfl; have s4 := hSw.2 4 _ rfl; have s5 := hSw.2 5 _ rfl; have hSz := hSw.1; clear hSw; go_simp; try with_reducible rfl))
  (try simp only [Act.put, List.setIfInBounds_toArray, List.set_cons_zero, List.set_cons_succ])
  refine wpAnyH_take (i := 11) (oi := { dst := some 17, op := Go.Op.fieldAddr 31 (Go.Operand.tmp 1) 2, type := 0, pos := "report.go:40", after := #[], guard := none }) (v := ?_) rfl (by kernel_rfl) (by kernel_rfl) (by kernel_rfl) (fun _ _ _ h => h) (Or.inl ⟨by rfl, ?_⟩) (by assumption) ?_
  (rotate_left; focus (intro wS hSw; have s0 := hSw.2 0 _ rfl; have s1 := hSw.2 1 _ rfl; have s2 := hSw.2 2 _ rfl; have s3 := hSw.2 3 _ rfl; have s4 := hSw.2 4 _ rfl; have s5 := hSw.2 5 _ rfl; have hSz := hSw.1; clear hSw; go_simp; try with_reducible rfl))
  (try simp only [Act.put, List.setIfInBounds_toArray, List.set_cons_zero, List.set_cons_succ])
  refine wpAnyH_take (i := 12) (oi := { dst := some 18, op := Go.Op.load 9 (Go.Operand.tmp 17), type := 9, pos := "report.go:40", after := #[{ on := 11, ground := Go.Ground.data }], guard := none }) (v := ?_) rfl (by kernel_rfl) (by kernel_rfl) (by kernel_rfl) (fun _ _ _ h => h) (Or.inl ⟨by rfl, ?_⟩) (by assumption) ?_
  (rotate_left; focus (intro wS hSw; have s0 := hSw.2 0 _ rfl; have s1 := hSw.2 1 _ rfl; have s2 := hSw.2 2 _ rfl; have s3 := hSw.2 3 _ rfl; have s4 := hSw.2 4 _ rfl; have s5 := hSw.2 5 _ rfl; have hSz := hSw.1; clear hSw; go_simp; try with_reducible rfl))
  (try simp only [Act.put, List.setIfInBounds_toArray, List.set_cons_zero, List.set_cons_succ])
  refine wpAnyH_ready (rs := [9]) (by kernel_rfl) (by simp) ?_
  refine AllReadyH.cons (o := { dst := some 15, op := Go.Op.buildSlice 38 2 #[(0, Go.Operand.tmp 10), (1, Go.Operand.tmp 14)], type := 38, pos := "report.go:40", after := #[{ on := 4, ground := Go.Ground.data }, { on := 8, ground := Go.Ground.data }], guard := none }) rfl (fun K hK => ?_) AllReadyH.nil
  go_simp
  have hP1 : Blk w.heap.size [.string nm, .int .i64 sz, .int .i64 ch, .slice ia il ic, .string lb, .slice ta tags.length tc, .slice ka kl kc, .slice da dl dc] (W0.alloc (.cells #[.int .i64 sz, .int .i64 il] 3)).drew := (Blk.keep (w1 := W0) hP0 (below_new W0 _)).drew
  refine hK.out _ _ (by (first | exact hP0 | exact hP1 | exact hP2 | exact hP3 | exact hP4)) (fun hHeld => ?_)
  clear hK K
  (try simp only [Act.put, List.setIfInBounds_toArray, List.set_cons_zero, List.set_cons_succ])
  refine wpAnyH_ready (rs := [10]) (by kernel_rfl) (by simp) ?_
  refine AllReadyH.cons (o := { dst := some 16, op := Go.Op.call { callee := Go.Callee.value (Go.Operand.func 11), args := #[Go.Operand.tmp 15], argTypes := #[38] }, type := 9, pos := "report.go:40", after := #[{ on := 9, ground := Go.Ground.data }], guard := none }) rfl (fun K hK => ?_) AllReadyH.nil
  go_simp
  refine (numbers_any (some ⟨W0.heap.size, 0, none⟩) [sz, il] 2 _ (new_sl encI (Value.int .i64) (fun _ => rfl) W0 3 _ _ rfl).drew (by simp) (by simp; omega)).mono ?_
  rintro e w1 ⟨rfl, hb1⟩
  have HB1 : Hid (Below w.heap.size w w1) := Lib.hid (below_step (below_step HB0.out (Nat.le_refl _) (below_new W0 _).drew) (Nat.le_refl _) hb1)
  have hP2 : Blk w.heap.size [.string nm, .int .i64 sz, .int .i64 ch, .slice ia il ic, .string lb, .slice ta tags.length tc, .slice ka kl kc, .slice da dl dc] w1 := hP1.keep hb1
  (try go_wp2_with fail)
  refine hK.out _ _ (by (first | exact hP0 | exact hP1 | exact hP2 | exact hP3 | exact hP4)) (fun hHeld => ?_)
  clear hK K
  (try simp only [Act.put, List.setIfInBounds_toArray, List.set_cons_zero, List.set_cons_succ])
  refine wpAnyH_ready (rs := [13]) (by kernel_rfl) (by simp) ?_
  refine AllReadyH.cons (o := { dst := some 19, op := Go.Op.buildSlice 25 3 #[(0, Go.Operand.tmp 7), (1, Go.Operand.tmp 16), (2, Go.Operand.tmp 18)], type := 25, pos := "report.go:40", after := #[{ on := 1, ground := Go.Ground.data }, { on := 10, ground := Go.Ground.data }, { on := 12, ground := Go.Ground.data }], guard := none }) rfl (fun K hK => ?_) AllReadyH.nil
  go_simp
  have hP3 : Blk w.heap.size [.string nm, .int .i64 sz, .int .i64 ch, .slice ia il ic, .string lb, .slice ta tags.length tc, .slice ka kl kc, .slice da dl dc] (w1.alloc (.cells #[.string nm, .string (str (lineOf [dec sz, dec il])), .string lb] 9)) := hP2.keep (below_new w1 _)
  refine hK.out _ _ (by (first | exact hP0 | exact hP1 | exact hP2 | exact hP3 | exact hP4)) (fun hHeld => ?_)
  clear hK K
  (try simp only [Act.put, List.setIfInBounds_toArray, List.set_cons_zero, List.set_cons_succ])
  refine wpAnyH_ready (rs := [14]) (by kernel_rfl) (by simp) ?_
  refine AllReadyH.cons (o := { dst := some 20, op := Go.Op.call { callee := Go.Callee.value (Go.Operand.func 10), args := #[Go.Operand.tmp 19], argTypes := #[25] }, type := 9, pos := "report.go:40", after := #[{ on := 13, ground := Go.Ground.data }, { on := 10, ground := Go.Ground.chain }], guard := none }) rfl (fun K hK => ?_) AllReadyH.nil
  go_simp
  refine (line_any (some ⟨w1.heap.size, 0, none⟩) [nm, str (lineOf [dec sz, dec il]), lb] 3 _ (new_sl encT Value.string (fun _ => rfl) w1 9 _ _ rfl) (by simp) (by simp) HL1.out).mono ?_
  rintro e w2 ⟨rfl, hb2⟩
  rw [HL2.out]
  have HB2 : Hid (Below w.heap.size w w2) := Lib.hid (below_step (below_step HB1.out (Nat.le_refl _) (below_new w1 _)) (Nat.le_refl _) hb2)
  have hP4 : Blk w.heap.size [.string nm, .int .i64 sz, .int .i64 ch, .slice ia il ic, .string lb, .slice ta tags.length tc, .slice ka kl kc, .slice da dl dc] w2 := hP3.keep hb2
  clear hb1 hb2
  (try go_wp2_with fail)
  refine hK.out _ _ (by (first | exact hP0 | exact hP1 | exact hP2 | exact hP3 | exact hP4)) (fun hHeld => ?_)
  clear hK K
  (try simp only [Act.put, List.setIfInBounds_toArray, List.set_cons_zero, List.set_cons_succ])
  refine wpAnyH_take (i := 15) (oi := { dst := some 3, op := Go.Op.assign (Go.Operand.tmp 20), type := 9, pos := "report.go:40", after := #[{ on := 14, ground := Go.Ground.data }, { on := 14, ground := Go.Ground.chain }, { on := 0, ground := Go.Ground.phase }, { on := 1, ground := Go.Ground.phase }, { on := 2, ground := Go.Ground.phase }, { on := 3, ground := Go.Ground.phase }, { on := 4, ground := Go.Ground.phase }, { on := 5, ground := Go.Ground.phase }, { on := 6, ground := Go.Ground.phase }, { on := 7, ground := Go.Ground.phase }, { on := 8, ground := Go.Ground.phase }, { on := 9, ground := Go.Ground.phase }, { on := 10, ground := Go.Ground.phase }, { on := 11, ground := Go.Ground.phase }, { on := 12, ground := Go.Ground.phase }, { on := 13, ground := Go.Ground.phase }, { on := 14, ground := Go.Ground.phase }], guard := none }) (v := ?_) rfl (by kernel_rfl) (by kernel_rfl) (by kernel_rfl) (fun _ _ _ h => h) (Or.inl ⟨by rfl, ?_⟩) (by assumption) ?_
  (rotate_left; focus (intro wS hSw; have s0 := hSw.2 0 _ rfl; have s1 := hSw.2 1 _ rfl; have s2 := hSw.2 2 _ rfl; have s3 := hSw.2 3 _ rfl; have s4 := hSw.2 4 _ rfl; have s5 := hSw.2 5 _ rfl; have hSz := hSw.1; clear hSw; go_simp; try with_reducible rfl))
  (try simp only [Act.put, List.setIfInBounds_toArray, List.set_cons_zero, List.set_cons_succ])
  refine wpAnyH_done (by kernel_rfl) ?_ _
  clear hP0 hP1 hP2 hP3
  have HP4 := Lib.hid hP4
  have s5 := hP4.2 5 _ rfl
  have hz4 := hP4.1
  clear hP4
  go_wp2
  clear s5 hz4
  go_loopw [3, 24] (fun o i wr => ∃ k : Nat, k ≤ tags.length ∧ i = .int .i64 k ∧ o = .string (str (headOf nm lb sz il ++ tagsOf (tags.take k))) ∧ Below w.heap.size w wr ∧ Blk w.heap.size [.string nm, .int .i64 sz, .int .i64 ch, .slice ia il ic, .string lb, .slice ta tags.length tc, .slice ka kl kc, .slice da dl dc] wr) (fun _ i _ => tags.length - (intOf i).toNat)
  case atStart => exact ⟨0, by omega, rfl, by simp [tagsOf], HB2.out, HP4.out⟩
  case round =>
    obtain ⟨k, hk, rfl, rfl, hb, hP⟩ := hrel
    have HP := Lib.hid hP
    by_cases hlt : k < tags.length
    · obtain ⟨b2, o2, rfl, _, hc2⟩ := HS0.out.keep hb k hlt
      have c2 : wr.cell? ⟨b2, o2 + k * 1, none⟩ = some (.string tags[k]) := hc2 0 _ rfl
      rw [Nat.mul_one] at c2
      have gi : (k : Int) < (tags.length : Int) := by omega
      have ht : tags[k].size ≤ 100 := HTG.out _ (List.getElem_mem hlt)
      have e1 : (⟨#[35]⟩ : ByteArray).size = 1 := rfl
      have HB := Lib.hid hb
      have HT : Hid (lineOf ([str (headOf nm lb sz il ++ tagsOf (tags.take k)), ⟨#[35]⟩ ++ tags[k]].map (·.data.toList)) = headOf nm lb sz il ++ tagsOf (tags.take (k + 1))) := Lib.hid (by
        rw [List.take_succ_eq_append_getElem hlt, tags_snoc, List.map_cons, List.map_cons, List.map_nil, line2, str_data, List.append_assoc]
        simp [ByteArray.data_append])
      have HTL : Hid ((headOf nm lb sz il ++ tagsOf (tags.take (k + 1))).length ≤ 140737488355328) := Lib.hid (by
        have := tags_len (tags.take (k + 1)) (fun t ht => HTG.out t (List.mem_of_mem_take ht))
        have h2 := HLN.out
        rw [List.length_take] at this
        rw [List.length_append]; omega)
      clear hb hc2 hP
      go_wp2_with fail
      refine (line_any (some ⟨wr.heap.size, 0, none⟩) [str (headOf nm lb sz il ++ tagsOf (tags.take k)), ⟨#[35]⟩ ++ tags[k]] 2 _ (new_sl encT Value.string (fun _ => rfl) wr 9 _ _ rfl) (by simp) (by simp) (by rw [HT.out]; exact HTL.out)).mono ?_
      rintro e w3 ⟨rfl, hb3⟩
      rw [HT.out]
      have HB3 : Hid (Below w.heap.size w w3) := Lib.hid (below_step (below_step HB.out (Nat.le_refl _) (below_new wr _)) (Nat.le_refl _) hb3)
      have HP3 : Hid (Blk w.heap.size [.string nm, .int .i64 sz, .int .i64 ch, .slice ia il ic, .string lb, .slice (some ⟨b2, o2, none⟩) tags.length tc, .slice ka kl kc, .slice da dl dc] w3) := Lib.hid ((HP.out.keep (below_new wr _)).keep hb3)
      clear hb3
      go_wp2
      go_roundw
      case rel => exact ⟨k + 1, by omega, by go_num, rfl, HB3.out, HP3.out⟩
      case measure => simp [intOf]; omega
    · obtain rfl : k = tags.length := by omega
      rw [List.take_length]
      have HB := Lib.hid hb
      have s6 := hP.2 6 _ rfl
      have s7 := hP.2 7 _ rfl
      have hz4 := hP.1
      have HTL : Hid ((headOf nm lb sz il ++ tagsOf tags).length ≤ 140737488300000) := Lib.hid (by
        have := tags_len tags HTG.out
        have h2 := HLN.out
        rw [List.length_append]; omega)
      clear hb hP
      go_wp2_with fail
      refine (numbers_any (some ⟨wr.heap.size, 0, none⟩) [kl, dl] 2 _ (new_sl encI (Value.int .i64) (fun _ => rfl) wr 3 _ _ rfl) (by simp) (by simp; omega)).mono ?_
      rintro e w3 ⟨rfl, hb3⟩
      have HB3 : Hid (Below w.heap.size w w3) := Lib.hid (below_step (below_step HB.out (Nat.le_refl _) (below_new wr _)) (Nat.le_refl _) hb3)
      clear hb3 s6 s7 hz4
      have HT : Hid (lineOf ([str (headOf nm lb sz il ++ tagsOf tags), str (lineOf [dec kl, dec dl])].map (·.data.toList)) = headOf nm lb sz il ++ (tagsOf tags ++ 32 :: (dec kl ++ 32 :: dec dl))) := Lib.hid (by
        rw [List.map_cons, List.map_cons, List.map_nil, line2, str_data, str_data, line2, List.append_assoc])
      have HTL2 : Hid ((headOf nm lb sz il ++ (tagsOf tags ++ 32 :: (dec kl ++ 32 :: dec dl))).length ≤ 140737488355328) := Lib.hid (by
        have h2 := HTL.out
        have h3 := dec_len2 (n := kl) (by omega) (by omega)
        have h4 := dec_len2 (n := dl) (by omega) (by omega)
        simp only [List.length_append, List.length_cons] at h2 ⊢
        omega)
      go_wp2_with fail
      refine (line_any (some ⟨w3.heap.size, 0, none⟩) [str (headOf nm lb sz il ++ tagsOf tags), str (lineOf [dec kl, dec dl])] 2 _ (new_sl encT Value.string (fun _ => rfl) w3 9 _ _ rfl) (by simp) (by simp) (by rw [HT.out]; exact HTL2.out)).mono ?_
      rintro e w4 ⟨rfl, hb4⟩
      rw [HT.out]
      have HB4 : Hid (Below w.heap.size w w4) := Lib.hid (below_step (below_step HB3.out (Nat.le_refl _) (below_new w3 _)) (Nat.le_refl _) hb4)
      clear hb4
      go_wp2
      go_ret
      exact ⟨rfl, HB4.out⟩
end Go.Proofs.Ytmgmokbephkpbaa

