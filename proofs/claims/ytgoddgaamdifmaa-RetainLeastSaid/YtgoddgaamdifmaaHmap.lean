/-
  A map of any kind of keys and elements, as a list of its keys and a function: made, read, written, struck, gone over.
-/
import Derived.Test.YtgoddgaamdifmaaKp
import Derived.Test.YtgoddgaamdifmaaProg
import Derived.Maps.RangeWalk
set_option linter.unusedVariables false
set_option linter.unusedSimpArgs false
namespace Go.Proofs.Ytgoddgaamdifmaa
open Go.RowKit Go.WideShapes Go.WideMaps Go.Maps
theorem Kp.over {S T : Nat → Prop} {a b c : World} (h : Kp S a b) (k : Kp T b c) (hT : ∀ i, i < a.heap.size → T i → S i) : Kp S a c :=
  ⟨k.os.trans h.os, k.tape.trans h.tape, k.output.trans h.output, Nat.le_trans h.size k.size, fun i hi hn => (k.block i (Nat.lt_of_lt_of_le hi h.size) (fun ht => hn (hT i hi ht))).trans (h.block i hi hn)⟩
def sef {κ α : Type} [DecidableEq κ] (f : κ → α) (s : κ) (v : α) : κ → α := fun t => if t = s then v else f t
theorem sef_same {κ α : Type} [DecidableEq κ] (f : κ → α) (s : κ) (v : α) : sef f s v s = v := by simp [sef]
theorem sef_other {κ α : Type} [DecidableEq κ] (f : κ → α) {s t : κ} (v : α) (h : t ≠ s) : sef f s v t = f t := by simp [sef, h]
def addK {κ : Type} [DecidableEq κ] (ks : List κ) (s : κ) : List κ := if s ∈ ks then ks else ks ++ [s]
theorem mem_addK {κ : Type} [DecidableEq κ] (ks : List κ) (s t : κ) : t ∈ addK ks s ↔ t ∈ ks ∨ t = s := by
  unfold addK
  split
  · next h => constructor
              · exact Or.inl
              · rintro (h1 | rfl)
                · exact h1
                · exact h
  · simp
theorem addK_nodup {κ : Type} [DecidableEq κ] {ks : List κ} (h : ks.Nodup) (s : κ) : (addK ks s).Nodup := by
  unfold addK
  split
  · exact h
  · next hn =>
    rw [List.nodup_append]
    refine ⟨h, by simp, fun a ha b hb e => ?_⟩
    rw [List.mem_singleton] at hb
    subst hb e
    exact hn ha
theorem addK_len {κ : Type} [DecidableEq κ] (ks : List κ) (s : κ) : (addK ks s).length = if s ∈ ks then ks.length else ks.length + 1 := by
  unfold addK; split <;> simp
def delK {κ : Type} [DecidableEq κ] (ks : List κ) (s : κ) : List κ := ks.erase s
theorem mem_delK {κ : Type} [DecidableEq κ] {ks : List κ} (h : ks.Nodup) (s t : κ) : t ∈ delK ks s ↔ t ≠ s ∧ t ∈ ks := h.mem_erase_iff
theorem delK_nodup {κ : Type} [DecidableEq κ] {ks : List κ} (h : ks.Nodup) (s : κ) : (delK ks s).Nodup := h.erase s
theorem delK_mem {κ : Type} [DecidableEq κ] {ks : List κ} {s t : κ} (h : t ∈ delK ks s) : t ∈ ks := List.mem_of_mem_erase h
theorem delK_len {κ : Type} [DecidableEq κ] (ks : List κ) (s : κ) : (delK ks s).length = if s ∈ ks then ks.length - 1 else ks.length := by
  unfold delK
  rw [List.length_erase]
/-- A map's types, and how its keys and elements lie and read. -/
structure HKind (κ α : Type) where
  T : TypeId
  K : TypeId
  E : TypeId
  ht : Try.prog.underlying T = some (.map K E)
  keyed : Keyed Try.prog K
  kv : κ → Value
  kl : κ → Lit
  good : κ → Prop
  key : ∀ x, good x → keyOf Try.prog K (kv x) = some (kl x)
  kinv : ∀ v l, keyOf Try.prog K v = some l → ∃ x, good x ∧ v = kv x ∧ l = kl x
  kinj : ∀ x y, kl x = kl y → x = y
  isk : ∀ x, WideAt.IsKeyLit (kl x)
  enc : α → Value
  rep : α → DataW Unit
  rd : Value → Option (DataW Unit × List MemPlace)
  z : α
  hz : ∀ w, (zeroValue E).run Try.prog w = .ok (enc z) w
  rd_enc : ∀ x, rd (enc x) = some (rep x, [])
  rd_inv : ∀ v y, rd v = some y → ∃ a, v = enc a ∧ y = (rep a, [])
  rinj : ∀ x y, rep x = rep y → x = y
section
variable {κ α : Type} [DecidableEq κ] {M : HKind κ α}
/-- A datum is the map of these keys; f tells what is read at any key. -/
structure Told (M : HKind κ α) (D : DataW Unit) (ks : List κ) (f : κ → α) : Prop where
  tidy : Tidy D
  nodup : ks.Nodup
  size : Maps.size D = ks.length
  good : ∀ x ∈ ks, M.good x
  has : ∀ x, M.good x → Maps.has D (M.kl x) = decide (x ∈ ks)
  at_ : ∀ x, M.good x → D.atKey (M.kl x) (M.rep M.z) = M.rep (f x)
theorem Told.put {D : DataW Unit} {ks : List κ} {f : κ → α} (h : Told M D ks f) {x : κ} (hx : M.good x) (v : α) : Told M (D.put (M.kl x) (M.rep v)) (addK ks x) (sef f x v) := by
  refine ⟨h.tidy.put (M.isk x) _, addK_nodup h.nodup x, ?_, fun y hy => ?_, fun y hy => ?_, fun y hy => ?_⟩
  · rw [size_put h.tidy, h.has x hx, addK_len, h.size]
    simp only [decide_eq_true_eq]
  · rcases (mem_addK _ _ _).1 hy with h1 | rfl
    · exact h.good y h1
    · exact hx
  · by_cases e : y = x
    · subst e
      rw [has_put_same h.tidy.isMap (M.isk y)]
      exact (decide_eq_true ((mem_addK _ _ _).2 (Or.inr rfl))).symm
    · rw [has_put_other (fun h2 => e (M.kinj _ _ h2)), h.has y hy]
      exact decide_eq_decide.2 (by rw [mem_addK]; simp [e])
  · by_cases e : y = x
    · subst e
      rw [sef_same, atKey_put_same h.tidy.isMap (M.isk y)]
    · rw [sef_other _ _ e, atKey_put_other (fun h2 => e (M.kinj _ _ h2)), h.at_ y hy]
theorem Told.del {D : DataW Unit} {ks : List κ} {f : κ → α} (h : Told M D ks f) {x : κ} (hx : M.good x) : Told M (D.del (M.kl x)) (delK ks x) (sef f x M.z) := by
  refine ⟨h.tidy.del _, delK_nodup h.nodup x, ?_, fun y hy => h.good y (delK_mem hy), fun y hy => ?_, fun y hy => ?_⟩
  · have h1 := size_del (k := M.kl x) h.tidy
    rw [h.has x hx, h.size] at h1
    rw [delK_len]
    by_cases e : x ∈ ks
    · simp only [e, decide_true, if_true] at h1
      rw [if_pos e]
      omega
    · simp only [e, decide_false, Bool.false_eq_true, if_false] at h1
      rw [if_neg e]
      omega
  · by_cases e : y = x
    · subst e
      rw [has_del_same]
      exact (decide_eq_false (fun h2 => ((mem_delK h.nodup _ _).1 h2).1 rfl)).symm
    · rw [has_del_other (fun h2 => e (M.kinj _ _ h2)), h.has y hy]
      exact decide_eq_decide.2 (by rw [mem_delK h.nodup]; simp [e])
  · by_cases e : y = x
    · subst e
      rw [sef_same, atKey_del_same]
    · rw [sef_other _ _ e, atKey_del_other (fun h2 => e (M.kinj _ _ h2)), h.at_ y hy]
theorem Told.none {D : DataW Unit} {ks : List κ} {f : κ → α} (h : Told M D ks f) {x : κ} (hx : M.good x) (hn : x ∉ ks) : f x = M.z := by
  have h1 := h.has x hx
  rw [decide_eq_false hn] at h1
  have h2 := h.at_ x hx
  rw [atKey_of_not_has h1] at h2
  exact (M.rinj _ _ h2).symm
/-- Block b is the map of these keys. -/
def HM (M : HKind κ α) (w : World) (b : Nat) (ks : List κ) (f : κ → α) : Prop := ∃ D : DataW Unit, w.ownsMap Try.prog M.K M.rd b ks.length D ∧ Told M D ks f
theorem own_tight {P : Program} {k : TypeId} {R : Value → Option (DataW Unit × List MemPlace)} {w : World} {b n : Nat} {D : DataW Unit} (h : w.ownsMap P k R b n D) : w.ownsMap P k R b (Maps.size D) D := by
  obtain ⟨es, clock, hb, F, hs, rfl⟩ := h
  exact ⟨es, clock, hb, F, by simp [Maps.size, length_sorted], rfl⟩
theorem HM.made (M : HKind κ α) (w : World) : HM M (w.alloc (.map #[] 0)) w.heap.size [] (fun _ => M.z) :=
  ⟨.map [], World.ownsMap_made _ _ _ _, ⟨tidy_empty, List.nodup_nil, rfl, by simp, fun x _ => rfl, fun x _ => rfl⟩⟩
theorem HM.lt {w : World} {b : Nat} {ks : List κ} {f : κ → α} (h : HM M w b ks f) : b < w.heap.size := by
  obtain ⟨D, h, _⟩ := h
  exact h.lt
theorem HM.good {w : World} {b : Nat} {ks : List κ} {f : κ → α} (h : HM M w b ks f) : ∀ x ∈ ks, M.good x := by
  obtain ⟨D, _, h⟩ := h
  exact h.good
theorem HM.nodup {w : World} {b : Nat} {ks : List κ} {f : κ → α} (h : HM M w b ks f) : ks.Nodup := by
  obtain ⟨D, _, h⟩ := h
  exact h.nodup
theorem HM.none {w : World} {b : Nat} {ks : List κ} {f : κ → α} (h : HM M w b ks f) {x : κ} (hx : M.good x) (hn : x ∉ ks) : f x = M.z := by
  obtain ⟨D, _, h⟩ := h
  exact h.none hx hn
theorem HM.kp {S : Nat → Prop} {w w' : World} {b : Nat} {ks : List κ} {f : κ → α} (h : HM M w b ks f) (k : Kp S w w') (hn : ¬ S b) : HM M w' b ks f := by
  have hlt := h.lt
  obtain ⟨D, ⟨es, clock, hb, F, hs, hD⟩, hf⟩ := h
  exact ⟨D, ⟨es, clock, (k.block b hlt hn).trans hb, F, hs, hD⟩, hf⟩
theorem HM.keep {w w' : World} {b : Nat} {ks : List κ} {f : κ → α} (h : HM M w b ks f) (k : Below w.heap.size w w') : HM M w' b ks f := h.kp (Kp.new (S := fun _ => False) k) (fun h => h)
theorem HM.drew {w : World} {b : Nat} {ks : List κ} {f : κ → α} (h : HM M w b ks f) : HM M w.drew b ks f := h
theorem HM.get {w : World} {b : Nat} {ks : List κ} {f : κ → α} (h : HM M w b ks f) {x : κ} (hx : M.good x) :
    (Instr.lookup M.T (.map (some b)) (M.kv x) false).run Try.prog w = .ok (M.enc (f x)) w := by
  obtain ⟨D, h, hf⟩ := h
  obtain ⟨v, ps, hrun, hv⟩ := h.lookup M.keyed M.ht (M.hz _) (M.rd_enc _) (M.key x hx)
  rw [hf.at_ x hx] at hv
  obtain ⟨a, rfl, e⟩ := M.rd_inv _ _ hv
  simp only [Prod.mk.injEq] at e
  rw [hrun, M.rinj _ _ e.1]
theorem HM.get_ok {w : World} {b : Nat} {ks : List κ} {f : κ → α} (h : HM M w b ks f) {x : κ} (hx : M.good x) :
    (Instr.lookup M.T (.map (some b)) (M.kv x) true).run Try.prog w = .ok (.tuple #[M.enc (f x), .bool (decide (x ∈ ks))]) w := by
  obtain ⟨D, h, hf⟩ := h
  obtain ⟨v, ps, hrun, hv⟩ := h.look_ok M.keyed M.ht (M.hz _) (M.rd_enc _) (M.key x hx)
  rw [hf.at_ x hx] at hv
  obtain ⟨a, rfl, e⟩ := M.rd_inv _ _ hv
  simp only [Prod.mk.injEq] at e
  rw [hrun, M.rinj _ _ e.1, hf.has x hx]
theorem HM.len {w : World} {b : Nat} {ks : List κ} {f : κ → α} (h : HM M w b ks f) (ty : TypeId) : (Builtin.len_ #[M.T] ty #[.map (some b)]).run Try.prog w = .ok (.int .i64 ks.length) w := by
  obtain ⟨D, h, hf⟩ := h
  rw [h.len M.ht ty, hf.size]
theorem HM.put {w : World} {b : Nat} {ks : List κ} {f : κ → α} (h : HM M w b ks f) (hn : ks.length < maxLen) {x : κ} (hx : M.good x) (v : α) :
    ∃ w', (Instr.mapUpdate M.T (.map (some b)) (M.kv x) (M.enc v)).run Try.prog w = .ok () w' ∧ HM M w' b (addK ks x) (sef f x v) ∧ Kp (fun k => k = b) w w' ∧ w'.heap.size = w.heap.size := by
  obtain ⟨D, h, hf⟩ := h
  obtain ⟨w', hrun, ho, hg⟩ := h.store M.keyed M.ht hn (M.key x hx) (M.rd_enc v)
  have ht := hf.put hx v
  refine ⟨w', hrun, ⟨_, by rw [← ht.size]; exact own_tight ho, ht⟩, Kp.grown hg.grown (fun k e => by simpa using e.symm), ?_⟩
  obtain ⟨_, _, _, _, _, rfl⟩ := hg
  simp [ChangeMaps.setBlock]
theorem HM.del {w : World} {b : Nat} {ks : List κ} {f : κ → α} (h : HM M w b ks f) {x : κ} (hx : M.good x) (ty : TypeId) :
    ∃ w', (Builtin.delete_ #[M.T, M.K] ty #[.map (some b), M.kv x]).run Try.prog w = .ok (.tuple #[]) w' ∧ HM M w' b (delK ks x) (sef f x M.z) ∧ Kp (fun k => k = b) w w' ∧ w'.heap.size = w.heap.size := by
  obtain ⟨D, h, hf⟩ := h
  obtain ⟨w', hrun, ho, hg⟩ := h.drop M.keyed M.ht (M.key x hx) ty
  have ht := hf.del hx
  refine ⟨w', hrun, ⟨_, by rw [← ht.size]; exact own_tight ho, ht⟩, Kp.grown hg.grown (fun k e => by simpa using e.symm), ?_⟩
  obtain ⟨_, _, _, _, _, rfl⟩ := hg
  simp [ChangeMaps.setBlock]
/-- The map is being gone over: block r is the way; these keys are still to come. -/
def HR (M : HKind κ α) (w : World) (b r : Nat) (ks : List κ) (f : κ → α) (left : List κ) : Prop :=
  ∃ (n : Nat) (D : DataW Unit) (lf : Lit → Bool) (cnt : Nat), w.ranges Try.prog M.K M.rd b r n D lf cnt ∧ Told M D ks f ∧ (∀ x, M.good x → lf (M.kl x) = decide (x ∈ left)) ∧ left.Nodup ∧ ∀ x ∈ left, x ∈ ks
theorem HR.hm {w : World} {b r : Nat} {ks : List κ} {f : κ → α} {left : List κ} (h : HR M w b r ks f left) : HM M w b ks f := by
  obtain ⟨n, D, lf, cnt, h, ht, _⟩ := h
  exact ⟨D, by rw [← ht.size]; exact own_tight h.owns, ht⟩
theorem HR.ne {w : World} {b r : Nat} {ks : List κ} {f : κ → α} {left : List κ} (h : HR M w b r ks f left) : r ≠ b := by
  obtain ⟨n, D, lf, cnt, h, _⟩ := h
  exact h.ne
theorem HR.lt {w : World} {b r : Nat} {ks : List κ} {f : κ → α} {left : List κ} (h : HR M w b r ks f left) : r < w.heap.size := by
  obtain ⟨n, D, lf, cnt, h, _⟩ := h
  exact h.lt
theorem HR.left_nodup {w : World} {b r : Nat} {ks : List κ} {f : κ → α} {left : List κ} (h : HR M w b r ks f left) : left.Nodup := by
  obtain ⟨n, D, lf, cnt, _, _, _, h, _⟩ := h
  exact h
theorem HR.left_mem {w : World} {b r : Nat} {ks : List κ} {f : κ → α} {left : List κ} (h : HR M w b r ks f left) : ∀ x ∈ left, x ∈ ks := by
  obtain ⟨n, D, lf, cnt, _, _, _, _, h⟩ := h
  exact h
theorem HR.kp {S : Nat → Prop} {w w' : World} {b r : Nat} {ks : List κ} {f : κ → α} {left : List κ} (h : HR M w b r ks f left) (k : Kp S w w') (hb : ¬ S b) (hr : ¬ S r) : HR M w' b r ks f left ∧ w'.rangeLeft b r = w.rangeLeft b r := by
  obtain ⟨n, D, lf, cnt, h, ht⟩ := h
  have h1 := h.owns.lt
  have h2 := h.lt
  have hl := h.left_eq
  obtain ⟨es, clock, since, seen, c0, hb', F, hs, hD, hr', rest⟩ := h
  have h3 : w'.ranges Try.prog M.K M.rd b r n D lf cnt := ⟨es, clock, since, seen, c0, (k.block b h1 hb).trans hb', F, hs, hD, (k.block r h2 hr).trans hr', rest⟩
  exact ⟨⟨n, D, lf, cnt, h3, ht⟩, by rw [hl, h3.left_eq]⟩
theorem HR.keep {w w' : World} {b r : Nat} {ks : List κ} {f : κ → α} {left : List κ} (h : HR M w b r ks f left) (k : Below w.heap.size w w') : HR M w' b r ks f left ∧ w'.rangeLeft b r = w.rangeLeft b r := h.kp (Kp.new (S := fun _ => False) k) (fun h => h) (fun h => h)
variable {ops : Array Oper} {rest : List Oper} {o : Oper} {a : Act} {Q : Exit → Act → World → Prop}
theorem wpList_range_h {w : World} {b : Nat} {ks : List κ} {f : κ → α} (h : HM M w b ks f) (hg : o.guard = none) (m : Operand) (t : TypeId) (hop : o.op = Op.range t m) (htt : t = M.T) (hm : a.eval m = .map (some b))
    (hK : ∀ w', HR M w' b w.heap.size ks f ks → Below w.heap.size w w' → w'.heap.size = w.heap.size + 1 → wpList Try.prog ops Q rest (a.put o.dst (.pointer (some ⟨w.heap.size, 0, none⟩))) w') :
    wpList Try.prog ops Q (o :: rest) a w := by
  subst htt
  obtain ⟨D, h, ht⟩ := h
  refine wpList_range_own w hg m M.T hop M.K M.E M.keyed M.ht M.rd b ks.length D hm h (fun w' h1 h2 h3 => ?_)
  exact hK w' ⟨_, D, _, _, h1, ht, ht.has, ht.nodup, fun _ hx => hx⟩ ⟨h2.os, h2.tape, h2.output, h2.size, fun i hi => h2.block i hi (by simp)⟩ h3
theorem wpList_next_h {w : World} {b r : Nat} {ks : List κ} {f : κ → α} {left : List κ} (mkK : κ → Value) (hkv : ∀ x, M.kv x = mkK x) (mkV : α → Value) (hvv : ∀ x, M.enc x = mkV x) (h : HR M w b r ks f left) (hg : o.guard = none) (it : Operand) (hop : o.op = Op.next it false) (hit : a.eval it = .pointer (some ⟨r, 0, none⟩))
    (hDone : left = [] → wpList Try.prog ops Q rest (a.put o.dst (.tuple #[.bool false])) w)
    (hMore : ∀ (x : κ) (w' : World), x ∈ left → M.good x → HR M w' b r ks f (delK left x) → w'.rangeLeft b r < w.rangeLeft b r → Kp (fun i => i = r) w w' → w'.heap.size = w.heap.size →
      (Instr.entry (.pointer (some ⟨r, 0, none⟩))).run Try.prog w' = .ok (.tuple #[mkK x, mkV (f x)]) w' → wpList Try.prog ops Q rest (a.put o.dst (.tuple #[.bool true, mkK x, mkV (f x)])) w') :
    wpList Try.prog ops Q (o :: rest) a w := by
  obtain ⟨n, D, lf, cnt, h, ht, hl, hnd, hsub⟩ := h
  refine wpList_next_ranges w hg it hop M.K M.keyed M.rd M.kv M.enc (fun key kl hk => ?_) (fun v y hv => ?_) b r n D lf cnt hit h (fun h0 h1 => ?_) (fun x c kl y w' cnt' hk hlk hy hat hrg hlt hgr hsz hen => ?_)
  · obtain ⟨x, _, h1, _⟩ := M.kinv key kl hk; exact ⟨x, h1⟩
  · obtain ⟨c, h1, _⟩ := M.rd_inv v y hv; exact ⟨c, h1⟩
  · refine hDone ?_
    cases left with
    | nil => rfl
    | cons x l =>
      have := hl x (ht.good x (hsub x (by simp)))
      rw [h1] at this
      simp at this
  · obtain ⟨x', hgx, hkx, rfl⟩ := M.kinv _ _ hk
    rw [hkx] at hen ⊢
    have hx : x' ∈ left := by
      have := hl x' hgx
      rw [hlk] at this
      simpa using this.symm
    obtain ⟨c', hc, rfl⟩ := M.rd_inv _ _ hy
    have e1 := (ht.at_ x' hgx).symm.trans (hat (M.rep M.z))
    have e2 : f x' = c' := M.rinj _ _ e1
    rw [hc, ← e2, hkv, hvv] at hen ⊢
    refine hMore x' w' hx hgx ⟨n, D, _, cnt', hrg, ht, fun z hz => ?_, delK_nodup hnd _, fun z hz => hsub z (delK_mem hz)⟩ (by rw [hrg.left_eq, h.left_eq]; exact hlt) (Kp.grown hgr (fun k e => by simpa using e.symm)) hsz hen
    rw [hl z hz]
    by_cases e : z = x'
    · subst e
      rw [WideAt.sameKey_self (M.isk _)]
      simp only [Bool.not_true, Bool.and_false]
      exact (decide_eq_false (fun h2 => ((mem_delK hnd _ _).1 h2).1 rfl)).symm
    · rw [sameKey_ne (fun h2 => e (M.kinj _ _ h2))]
      simp only [Bool.not_false, Bool.and_true]
      exact decide_eq_decide.2 (by rw [mem_delK hnd]; simp [e])
end
theorem string_kinv {K : TypeId} (hk : Try.prog.underlying K = some .string) (v : Value) (l : Lit) (h : keyOf Try.prog K v = some l) : ∃ s : ByteArray, s.size ≤ maxLen ∧ v = .string s ∧ l = .string s.data.toList := by
  cases v <;> simp [keyOf, hk, mapKey] at h
  obtain ⟨h1, rfl⟩ := h
  exact ⟨_, h1, rfl, rfl⟩
theorem string_kinj (x y : ByteArray) (h : Lit.string x.data.toList = Lit.string y.data.toList) : x = y := by
  simp only [Lit.string.injEq] at h
  exact ByteArray.ext (Array.toList_inj.1 h)
def rdI : Value → Option (DataW Unit × List MemPlace)
  | .int .i64 a => some (.lit (.int .i64 a), [])
  | _ => none
theorem rdI_inv (v : Value) (y : DataW Unit × List MemPlace) (h : rdI v = some y) : ∃ a : Int, v = .int .i64 a ∧ y = (.lit (.int .i64 a), []) := by
  unfold rdI at h
  split at h
  · exact ⟨_, rfl, by simpa using h.symm⟩
  · cases h
def rdB : Value → Option (DataW Unit × List MemPlace)
  | .bool a => some (.lit (.bool a), [])
  | _ => none
theorem rdB_inv (v : Value) (y : DataW Unit × List MemPlace) (h : rdB v = some y) : ∃ a : Bool, v = .bool a ∧ y = (.lit (.bool a), []) := by
  unfold rdB at h
  split at h
  · exact ⟨_, rfl, by simpa using h.symm⟩
  · cases h
/-- Keys that are texts, elements that are whole numbers. -/
def kindSI (T K E : TypeId) (ht : Try.prog.underlying T = some (.map K E)) (hk : Try.prog.underlying K = some .string) (hz : ∀ w, (zeroValue E).run Try.prog w = .ok (.int .i64 0) w) : HKind ByteArray Int where
  T := T
  K := K
  E := E
  ht := ht
  keyed := string_keyed hk
  kv := Value.string
  kl := fun s => .string s.data.toList
  good := fun s => s.size ≤ maxLen
  key := fun x hx => keyOf_string_mk hk hx
  kinv := string_kinv hk
  kinj := string_kinj
  isk := fun _ => trivial
  enc := Value.int .i64
  rep := fun a => .lit (.int .i64 a)
  rd := rdI
  z := 0
  hz := hz
  rd_enc := fun _ => rfl
  rd_inv := rdI_inv
  rinj := fun x y h => by simpa using h
/-- Keys that are texts, elements that are marks. -/
def kindSB (T K E : TypeId) (ht : Try.prog.underlying T = some (.map K E)) (hk : Try.prog.underlying K = some .string) (hz : ∀ w, (zeroValue E).run Try.prog w = .ok (.bool false) w) : HKind ByteArray Bool where
  T := T
  K := K
  E := E
  ht := ht
  keyed := string_keyed hk
  kv := Value.string
  kl := fun s => .string s.data.toList
  good := fun s => s.size ≤ maxLen
  key := fun x hx => keyOf_string_mk hk hx
  kinv := string_kinv hk
  kinj := string_kinj
  isk := fun _ => trivial
  enc := Value.bool
  rep := fun a => .lit (.bool a)
  rd := rdB
  z := false
  hz := hz
  rd_enc := fun _ => rfl
  rd_inv := rdB_inv
  rinj := fun x y h => by simpa using h
end Go.Proofs.Ytgoddgaamdifmaa

