/-
  The chunks of bytes: how many; the program's Cut and the document's. The contract of chunk.Cut, and of the document's. The contract of the document's Cut.
-/
import Derived.Test.YtanehgnpominiaaRf
import Derived.Test.YtanehgnpominiaaK
import Derived.Test.YtanehgnpominiaaHxF
import Derived.Test.YtanehgnpominiaaTexts
set_option linter.unusedVariables false
set_option linter.unusedSimpArgs false
set_option maxRecDepth 100000
namespace Go.Proofs.Ytanehgnpominiaa
open Go.RowKit Go.Shelf
def manyC (n c : Nat) : Nat := (n + c - 1) / c
theorem many_ref (n c : Nat) (hc : 1 ≤ c) : manyC n c = if 0 < n % c then n / c + 1 else n / c := by
  unfold manyC
  have h := Nat.div_add_mod n c
  have h2 := Nat.mod_lt n (show 0 < c by omega)
  obtain ⟨q, hq⟩ : ∃ q, q = n / c := ⟨_, rfl⟩
  obtain ⟨r, hr⟩ : ∃ r, r = n % c := ⟨_, rfl⟩
  rw [← hq, ← hr] at h
  rw [← hr] at h2
  rw [← hq, ← hr]
  split
  · rw [show n + c - 1 = (r - 1) + c * (q + 1) by rw [Nat.mul_add]; omega, Nat.add_mul_div_left _ _ (by omega), Nat.div_eq_of_lt (by omega)]; omega
  · rw [show n + c - 1 = (c - 1) + c * q by omega, Nat.add_mul_div_left _ _ (by omega), Nat.div_eq_of_lt (by omega)]; omega
set_option maxHeartbeats 2000000 in
theorem many_any (n c : Nat) (w : World) (hn : n ≤ 100000) (hc : 1 ≤ c) (hc2 : c ≤ 4096) : Calls Try.prog 23 #[.int .i64 n, .int .i64 c] w fun e w' => e = .returned (.int .i64 (manyC n c : Nat)) ∧ w' = w := by
  have h1 : ((n : Int) + (c : Int) - 1).tdiv (c : Int) = ((manyC n c : Nat) : Int) := by
    rw [show (n : Int) + (c : Int) - 1 = ((n + c - 1 : Nat) : Int) by omega]; rfl
  have h2 : manyC n c ≤ n + c := by unfold manyC; exact Nat.le_trans (Nat.div_le_self _ _) (by omega)
  have h3 : ¬ (c : Int) = 0 := by omega
  have h4 : ((c : Int) == 0) = false := by simp; omega
  generalize manyC n c = R at *
  go_enter Try.func23, Try.ntmps23
  go_wp2
  go_ret
  exact ⟨rfl, rfl⟩
set_option maxHeartbeats 2000000 in
theorem rmany_any (n c : Nat) (w : World) (hn : n ≤ 100000) (hc : 1 ≤ c) (hc2 : c ≤ 4096) : Calls Try.prog 25 #[.int .i64 n, .int .i64 c] w fun e w' => e = .returned (.int .i64 (manyC n c : Nat)) ∧ w' = w := by
  have h1 : (n : Int).tmod (c : Int) = ((n % c : Nat) : Int) := rfl
  have h2 : (n : Int).tdiv (c : Int) = ((n / c : Nat) : Int) := rfl
  have hm := many_ref n c hc
  have hq : n / c ≤ n := Nat.div_le_self _ _
  have h3 : ¬ (c : Int) = 0 := by omega
  have h4 : ((c : Int) == 0) = false := by simp; omega
  have HM := Lib.hid hm
  clear hm
  generalize n % c = r at *
  generalize n / c = q at *
  generalize manyC n c = R at *
  by_cases h : 0 < r
  · have HR : Hid (R = q + 1) := Lib.hid (by rw [HM.out, if_pos h])
    go_enter Try.func25, Try.ntmps25
    go_wp2
    go_ret
    exact ⟨rint (by rw [HR.out]; omega), rfl⟩
  · have HR : Hid (R = q) := Lib.hid (by rw [HM.out, if_neg h])
    go_enter Try.func25, Try.ntmps25
    go_wp2
    go_ret
    exact ⟨rint (by rw [HR.out]), rfl⟩
def cutF (n : Nat) : Nat → ByteArray → List ByteArray
  | 0, _ => []
  | k + 1, s => if s.size = 0 then [] else s.extract 0 (min n s.size) :: cutF n k (s.extract (min n s.size) s.size)
def cuts (n : Nat) (s : ByteArray) : List ByteArray := cutF n s.size s
theorem rest_size (s : ByteArray) {n : Nat} (hn : n ≤ s.size) : (s.extract n s.size).size = s.size - n := by rw [ByteArray.size_extract]; omega
theorem head_size (s : ByteArray) {n : Nat} (hn : n ≤ s.size) : (s.extract 0 n).size = n := by rw [ByteArray.size_extract]; omega
theorem cutF_more {n : Nat} (hn : 1 ≤ n) : ∀ (k j : Nat) (s : ByteArray), s.size ≤ k → s.size ≤ j → cutF n k s = cutF n j s
  | 0, 0, s, _, _ => rfl
  | 0, j + 1, s, h, _ => by
    unfold cutF; rw [if_pos (by omega)]
  | k + 1, 0, s, _, h => by
    conv => lhs; unfold cutF
    rw [if_pos (by omega)]; rfl
  | k + 1, j + 1, s, h1, h2 => by
    unfold cutF
    by_cases h : s.size = 0
    · rw [if_pos h, if_pos h]
    · rw [if_neg h, if_neg h]
      have q : min n s.size ≤ s.size := Nat.min_le_right _ _
      rw [cutF_more hn k j _ (by rw [rest_size s q]; omega) (by rw [rest_size s q]; omega)]
theorem cuts_nil (n : Nat) (s : ByteArray) (h : s.size = 0) : cuts n s = [] := by unfold cuts; rw [h]; rfl
theorem cuts_cons {n : Nat} (hn : 1 ≤ n) (s : ByteArray) (h : s.size ≠ 0) : cuts n s = s.extract 0 (min n s.size) :: cuts n (s.extract (min n s.size) s.size) := by
  have q : min n s.size ≤ s.size := Nat.min_le_right _ _
  unfold cuts
  conv => lhs; rw [show s.size = (s.size - 1) + 1 by omega]; unfold cutF
  rw [if_neg h, cutF_more hn (s.size - 1) (s.extract (min n s.size) s.size).size _ (by rw [rest_size s q]; omega) (Nat.le_refl _)]
theorem cuts_many {n : Nat} (hn : 1 ≤ n) : ∀ (k : Nat) (s : ByteArray), s.size ≤ k → (cuts n s).length = manyC s.size n
  | k, s, hk => by
    by_cases h : s.size = 0
    · rw [cuts_nil n s h, h]
      unfold manyC
      rw [Nat.div_eq_of_lt (by omega)]; rfl
    · rw [cuts_cons hn s h]
      have q : min n s.size ≤ s.size := Nat.min_le_right _ _
      match k, hk with
      | 0, hk => omega
      | k + 1, hk =>
        have ih := cuts_many hn k (s.extract (min n s.size) s.size) (by rw [rest_size s q]; omega)
        rw [List.length_cons, ih, rest_size s q]
        unfold manyC
        by_cases hb : n ≤ s.size
        · rw [Nat.min_eq_left hb, show s.size + n - 1 = (s.size - n + n - 1) + n by omega, Nat.add_div_right _ (by omega)]
        · rw [Nat.min_eq_right (by omega), Nat.sub_self, Nat.div_eq_of_lt (show 0 + n - 1 < n by omega), show s.size + n - 1 = (s.size - 1) + n by omega, Nat.add_div_right _ (by omega), Nat.div_eq_of_lt (by omega)]
theorem manyC_le (n c : Nat) (hc : 1 ≤ c) : manyC n c ≤ n := by
  unfold manyC
  rcases Nat.eq_zero_or_pos n with h | h
  · subst h; rw [Nat.div_eq_of_lt (by omega)]; omega
  · refine Nat.le_trans (Nat.div_le_of_le_mul (m := n + c - 1) (k := c) (n := n) ?_) (Nat.le_refl _)
    have : n * c ≥ n + c - 1 := by
      obtain ⟨a, rfl⟩ : ∃ a, n = a + 1 := ⟨n - 1, by omega⟩
      obtain ⟨b, rfl⟩ : ∃ b, c = b + 1 := ⟨c - 1, by omega⟩
      rw [Nat.add_mul, Nat.mul_add]; omega
    rw [Nat.mul_comm]; exact this
def catK (l : List ByteArray) : ByteArray := l.foldr (· ++ ·) ByteArray.empty
theorem ext_zero (s : ByteArray) : s.extract 0 s.size = s := by
  apply ByteArray.ext
  rw [ByteArray.data_extract]
  exact Array.extract_size
theorem ext_cat (s : ByteArray) (n : Nat) (hn : n ≤ s.size) : s.extract 0 n ++ s.extract n s.size = s := by
  rw [ByteArray.extract_append_extract, Nat.min_eq_left (Nat.zero_le _), Nat.max_eq_right hn, ext_zero]
theorem cuts_cat {n : Nat} (hn : 1 ≤ n) : ∀ (k : Nat) (s : ByteArray), s.size ≤ k → catK (cuts n s) = s
  | k, s, hk => by
    by_cases h : s.size = 0
    · rw [cuts_nil n s h]
      apply ByteArray.ext
      have : s.data.size = 0 := h
      exact (Array.eq_empty_of_size_eq_zero this).symm
    · rw [cuts_cons hn s h]
      have q : min n s.size ≤ s.size := Nat.min_le_right _ _
      match k, hk with
      | 0, hk => omega
      | k + 1, hk =>
        have := cuts_cat hn k (s.extract (min n s.size) s.size) (by rw [rest_size s q]; omega)
        show s.extract 0 (min n s.size) ++ catK _ = s
        rw [this, ext_cat s _ q]
theorem cuts_sizes {n : Nat} (hn : 1 ≤ n) : ∀ (j : Nat) (s : ByteArray) (hj : j < (cuts n s).length), 1 ≤ (cuts n s)[j].size ∧ (cuts n s)[j].size ≤ n ∧ (j + 1 < (cuts n s).length → n ≤ (cuts n s)[j].size)
  | j, s, hj => by
    by_cases h : s.size = 0
    · rw [List.length_eq_zero_iff.2 (cuts_nil n s h)] at hj; cases hj
    · have q : min n s.size ≤ s.size := Nat.min_le_right _ _
      have e := cuts_cons hn s h
      obtain ⟨L, hL⟩ : ∃ L, L = cuts n s := ⟨_, rfl⟩
      simp only [← hL] at hj ⊢
      rw [← hL] at e
      subst e
      cases j with
      | zero =>
        show 1 ≤ (s.extract 0 (min n s.size)).size ∧ (s.extract 0 (min n s.size)).size ≤ n ∧ (_ → n ≤ (s.extract 0 (min n s.size)).size)
        rw [head_size s q]
        refine ⟨by omega, by omega, fun h2 => ?_⟩
        have h3 : cuts n (s.extract (min n s.size) s.size) ≠ [] := by
          intro e; rw [e] at h2; simp at h2
        have h4 : (s.extract (min n s.size) s.size).size ≠ 0 := fun e => h3 (cuts_nil n _ e)
        rw [rest_size s q] at h4
        omega
      | succ j =>
        have := cuts_sizes hn j (s.extract (min n s.size) s.size) (by simpa using hj)
        simpa using this
end Go.Proofs.Ytanehgnpominiaa
set_option linter.unusedVariables false
set_option linter.unusedSimpArgs false
namespace Go.Proofs.Ytanehgnpominiaa
open Go.RowKit Go.Shelf
attribute [local go_sem] Oper.semAt_some
theorem box_other {W : World} {B : Nat} {t : TypeId} {v : Value} (h : Boxed W B t v) (c : Nat) (hc : B ≠ c) (u : Value) : Boxed (W.setCell ⟨c, 0, none⟩ u) B t v := (Below.heap_setCell W ⟨c, 0, none⟩ u B hc).trans h
def boxSize (w : World) (b : Nat) : Nat := match w.cell? ⟨b, 0, none⟩ with
  | some (.string s) => s.size
  | _ => 0
set_option maxHeartbeats 4000000 in
theorem chunks_seq (b : Nat) (s : ByteArray) (n : Nat) (w : World) (hn : 1 ≤ n) (hn2 : n ≤ 4096) (hs : s.size ≤ 100000)
    (q0 : Boxed w b 9 (.string s)) (q1 : Boxed w (b + 1) 3 (.int .i64 n)) :
    SeqC Try.prog 42 #[.pointer (some ⟨b, 0, none⟩), .pointer (some ⟨b + 1, 0, none⟩)] Value.string b 2 (cuts n s) w := by
  intro l J W hW c1 c2 hY hJ0
  have Q0 := Lib.hid (show Boxed W b 9 (.string s) from (hW.block _ q0.lt).trans q0)
  have Q1 := Lib.hid (show Boxed W (b + 1) 3 (.int .i64 n) from (hW.block _ q1.lt).trans q1)
  have C1 := Lib.hid c1; have C2 := Lib.hid c2; have HY := Lib.hid hY
  clear c1 c2 hY q0 q1 hW
  refine callsIn_of_wp Try.func42 rfl trivial ?_ rfl
  simp only [Try.ntmps42, List.size_toArray, List.length_cons, List.length_nil, Nat.reduceAdd, Nat.reduceSub, Array.replicate_succ, Array.replicate_zero, List.push_toArray, List.append_toArray, List.nil_append, List.cons_append]
  gi_wp2
  gi_loopw [4] (fun v wr => ∃ (pre : List ByteArray) (r : ByteArray), cuts n s = pre ++ cuts n r ∧ r.size ≤ 100000 ∧ Boxed wr b 9 (.string r) ∧ Boxed wr (b + 1) 3 (.int .i64 n) ∧ J pre wr) (fun v wr => boxSize wr b)
  case atStart => exact ⟨[], s, rfl, hs, Q0.out, Q1.out, hJ0⟩
  case round =>
    clear Q0 Q1 hJ0
    obtain ⟨pre, r, hcut, hr, q0, q1, hj⟩ := hrel
    have k0 := q0.cell; have k1 := q1.cell
    have hbs : Hid (boxSize wr b = r.size) := Lib.hid (by unfold boxSize; rw [k0])
    by_cases h0 : r.size = 0
    · have hem := empty_of_zero h0
      have HJ : Hid (J (cuts n s) wr) := Lib.hid (by rw [hcut, cuts_nil n r h0, List.append_nil]; exact hj)
      clear q0 q1 hj hcut
      gi_wp2
      go_end0
      exact ⟨⟨_, rfl⟩, HJ.out⟩
    · have hne := nonempty_of_pos (b := r) (by omega)
      have hmin := min2_int; have hmin2 := min_two
      obtain ⟨j, hjd⟩ : ∃ e, e = min n r.size := ⟨_, rfl⟩
      have he1 : mn (n : Int) (r.size : Int) = (j : Int) := by rw [mn_eq]; omega
      have hpre : (pre ++ [r.extract 0 j]) <+: cuts n s := by rw [hcut, cuts_cons hn r h0, ← hjd]; exact ⟨cuts n (r.extract j r.size), by simp⟩
      have hcut2 : cuts n s = (pre ++ [r.extract 0 j]) ++ cuts n (r.extract j r.size) := by rw [hcut, cuts_cons hn r h0, ← hjd]; simp
      have hjr : j ≤ r.size := by omega
      have hj1 : 1 ≤ j := by omega
      have hje2 : (j : Int) ≤ (r.size : Int) := by omega
      obtain ⟨fn, tmps, assign, body, hy, hRo⟩ := HY.out pre (r.extract 0 j) _ hj hpre
      have HC2 := Lib.hid hcut2
      have hrs := rest_size r hjr
      have HJD := Lib.hid hjd
      clear hpre hj hcut2 hcut hjd
      gi_wp2
      refine hRo.mono ?_
      clear hRo hy k0 k1
      rintro ex W3 ⟨rfl, hJ3, hk3⟩
      have z0 : Boxed W3 b 9 (.string r) := (hk3 _ (by omega) (by omega)).trans q0
      have z1 : Boxed W3 (b + 1) 3 (.int .i64 n) := (hk3 _ (by omega) (by omega)).trans q1
      have k0 := z0.cell; have f0 := z0.frozen
      have HJ3 := Lib.hid (C2.out _ _ (.string (r.extract j r.size)) hJ3)
      have Z0 := Lib.hid (z0.set (.string (r.extract j r.size)))
      have Z1 := Lib.hid (box_other z1 b (by omega) (.string (r.extract j r.size)))
      clear hk3 hJ3 z1
      gi_wp2
      go_roundw
      case rel => exact ⟨pre ++ [r.extract 0 j], r.extract j r.size, HC2.out, by omega, Z0.out, Z1.out, HJ3.out⟩
      case measure =>
        rw [hbs.out]
        have e2 := Z0.out.cell
        unfold boxSize
        rw [e2]
        show (r.extract j r.size).size < r.size
        omega
def boxes (w : World) (s : ByteArray) (n : Nat) : World := (w.alloc (.cells #[.string s] 9)).alloc (.cells #[.int .i64 n] 3)
theorem chunks_any (s : ByteArray) (n : Nat) (w : World) : Calls Try.prog 24 #[.string s, .int .i64 n] w fun e w' =>
    e = .returned (.func (.func 42) #[] #[.pointer (some ⟨w.heap.size, 0, none⟩), .pointer (some ⟨w.heap.size + 1, 0, none⟩)]) ∧ w' = boxes w s n := by
  go_enter Try.func24, Try.ntmps24
  go_wp2
  go_ret
  exact ⟨rfl, rfl⟩
theorem boxes_at (w : World) (s : ByteArray) (n : Nat) : Boxed (boxes w s n) w.heap.size 9 (.string s) ∧ Boxed (boxes w s n) (w.heap.size + 1) 3 (.int .i64 n) ∧
    (boxes w s n).heap.size = w.heap.size + 2 ∧ Below w.heap.size w (boxes w s n) := by
  unfold boxes
  have b0 := Boxed.new w 9 (.string s)
  have b1 := Boxed.new (w.alloc (.cells #[.string s] 9)) 3 (.int .i64 n)
  simp only [World.size_alloc] at b1
  exact ⟨b0.alloc _, b1, by simp only [World.size_alloc], (below_new _ _).alloc (by simp) _⟩
/-- What the loop of Cut keeps. -/
def CutI (w : World) (pre : List ByteArray) (W : World) : Prop :=
  (∃ v, Boxed W w.heap.size 23 v ∧ W.ownsRow (w.heap.size + 3) 9 1 v pre.length (pre.flatMap strC)) ∧ Below w.heap.size w W ∧ w.heap.size + 3 ≤ W.heap.size
theorem CutI.keep {w A A' : World} {pre : List ByteArray} (h : CutI w pre A) (k : Below A.heap.size A A') : CutI w pre A' := by
  obtain ⟨⟨v, h1, h2⟩, h3, h4⟩ := h
  exact ⟨⟨v, (k.block _ h1.lt).trans h1, own_kept h2 k⟩, below_cons h3 k, Nat.le_trans h4 k.size⟩
theorem CutI.set {w A : World} {pre : List ByteArray} (h : CutI w pre A) (v : Value) : CutI w pre (A.setCell ⟨w.heap.size + 1, 0, none⟩ v) := by
  obtain ⟨⟨u, h1, h2⟩, h3, h4⟩ := h
  have hk : Kp (fun j => j = w.heap.size + 1) A (A.setCell ⟨w.heap.size + 1, 0, none⟩ v) := (Kp.refl (fun j => j = w.heap.size + 1) A).set (w.heap.size + 1) 0 v rfl
  exact ⟨⟨u, box_other h1 _ (by omega) v, own_kp2 h2 hk (fun g hg e => by have := (h2.lt g hg).1; omega)⟩, h3.trans (hk.below h3.size (fun j hj => by omega)), by simpa using h4⟩
theorem CutI.put {w A : World} {pre : List ByteArray} {r : Nat} {o : Obj} (o' : Obj) (h : CutI w pre A) (hr : w.heap.size + 3 ≤ r) (hl : A.heap[r]? = some o) (ho : o.isCells = false) : CutI w pre (A.putObj r o') := by
  obtain ⟨⟨u, h1, h2⟩, h3, h4⟩ := h
  exact ⟨⟨u, (World.putObj_heap_other (by omega)).trans h1, ownsRow_putObj h2 o' hl ho⟩, h3.trans ((Below.refl _ A).grown (grownBy_putObj' A r o') h3.size (fun k e => by cases e; omega)), by simpa using h4⟩
theorem cut_bad (s : ByteArray) (n : Int) (w : World) (h : n < 1 ∨ 4096 < n) : Calls Try.prog 8 #[.string s, .int .i64 n] w fun e w' => e = .returned (.tuple #[.slice none 0 0, .int .i64 1]) ∧ w' = w := by
  by_cases h1 : n < 1
  · go_enter Try.func8, Try.ntmps8
    go_wp2
    go_ret2
    exact ⟨rfl, rfl⟩
  · have h3 : 4096 < n := by omega
    go_enter Try.func8, Try.ntmps8
    go_wp2
    go_ret2
    exact ⟨rfl, rfl⟩
theorem cut_long (s : ByteArray) (n : Nat) (w : World) (hn : 1 ≤ n) (hn2 : n ≤ 4096) (hs : 32768 < s.size ∨ 4096 < manyC s.size n) : Calls Try.prog 8 #[.string s, .int .i64 n] w fun e w' => e = .returned (.tuple #[.slice none 0 0, .int .i64 3]) ∧ w' = w := by
  have h1 : ¬ (n : Int) < 1 := by omega
  have h3 : ¬ 4096 < (n : Int) := by omega
  by_cases h5 : 32768 < s.size
  · have h4 : (32768 : Int) < (s.size : Int) := by omega
    go_enter Try.func8, Try.ntmps8
    go_wp2
    go_ret2
    exact ⟨rfl, rfl⟩
  · have h4 : ¬ (32768 : Int) < (s.size : Int) := by omega
    have h6 : (4096 : Int) < ((manyC s.size n : Nat) : Int) := by omega
    have T := Lib.hid (fun W => many_any s.size n W (by omega) hn hn2)
    clear hs
    generalize manyC s.size n = M at *
    go_enter Try.func8, Try.ntmps8
    go_wp2_with fail
    refine (T.out _).mono ?_
    rintro e w1 ⟨rfl, rfl⟩
    go_wp2
    go_ret2
    exact ⟨rfl, rfl⟩
set_option maxHeartbeats 4000000 in
theorem cut_any2 (s : ByteArray) (n : Nat) (w : World) (hn : 1 ≤ n) (hn2 : n ≤ 4096) (hs : s.size ≤ 32768) (hmy : manyC s.size n ≤ 4096) :
    Calls Try.prog 8 #[.string s, .int .i64 n] w fun e w' => ∃ a c, e = .returned (.tuple #[.slice a (cuts n s).length c, .int .i64 0]) ∧ (cuts n s).length ≤ c ∧ Sl strC 1 w' a (cuts n s) ∧ Below w.heap.size w w' := by
  obtain ⟨i0, hi0, hz0, hz1, hz2⟩ := info_parts infoStr
  have g1 : ¬ (n : Int) < 1 := by omega
  have g3 : ¬ (4096 : Int) < (n : Int) := by omega
  have g4 : ¬ (32768 : Int) < (s.size : Int) := by omega
  have g5 : ¬ (4096 : Int) < ((manyC s.size n : Nat) : Int) := by omega
  have HM := Lib.hid (fun W => many_any s.size n W (by omega) hn hn2)
  have HC := Lib.hid (fun W => chunks_any s n W)
  have hb0 := below_new w (.cells #[.slice none 0 0] 23)
  have hO := Boxed.new w 23 (.slice none 0 0)
  obtain ⟨p0, p1, p4, p5⟩ := boxes_at (w.alloc (.cells #[.slice none 0 0] 23)) s n
  have HQ := Lib.hid (chunks_seq (w.heap.size + 1) s n _ hn hn2 (by omega) (by simpa only [World.size_alloc] using p0) (by simpa only [World.size_alloc] using p1))
  have hI0 : CutI w [] (boxes (w.alloc (.cells #[.slice none 0 0] 23)) s n) := ⟨⟨.slice none 0 0, (p5.block _ hO.lt).trans hO, own_nil _ _ _ _⟩, below_step hb0 (Nat.le_refl _) p5, by rw [p4]; simp⟩
  have HI0 := Lib.hid hI0
  have HSZ : Hid ((boxes (w.alloc (.cells #[.slice none 0 0] 23)) s n).heap.size = w.heap.size + 3) := Lib.hid (by rw [p4]; simp)
  have HL : Hid ((cuts n s).length ≤ 4096) := Lib.hid (by rw [cuts_many hn s.size s (Nat.le_refl _)]; exact hmy)
  clear p0 p1 p4 p5 hb0 hO hI0 hmy
  generalize manyC s.size n = M at *
  have d5 : decide ((4096 : Int) < (M : Int)) = false := decide_eq_false g5
  refine (callsIn_wide (n := 3)).1 ?_
  refine callsIn_of_wp_marks Try.func8 rfl trivial ?_ rfl
  simp only [Try.ntmps8, List.size_toArray, List.length_cons, List.length_nil, Nat.reduceAdd, Nat.reduceSub, Array.replicate_succ, Array.replicate_zero, List.push_toArray, List.append_toArray, List.nil_append, List.cons_append]
  gi_wp2
  refine ⟨trivial, (callsIn_wide.2 (HM.out _)).mono ?_⟩
  rintro e w' ⟨rfl, hw⟩
  obtain rfl : w = w' := hw.symm
  clear hw
  gi_wp2
  refine ⟨trivial, (callsIn_wide.2 (HC.out _)).mono ?_⟩
  rintro e w' ⟨rfl, rfl⟩
  generalize boxes (w.alloc (.cells #[.slice none 0 0] 23)) s n = WB at *
  clear g1 g3 g4 HC
  gi_wp2
  refine range_own (gf := 42) (lb := #[.pointer (some ⟨w.heap.size + 1, 0, none⟩), .pointer (some ⟨w.heap.size + 1 + 1, 0, none⟩)]) (b := w.heap.size + 1) (m := 2) (xs := cuts n s) (enc := Value.string) rfl (enters_of Try.func42 (by kernel_rfl) rfl) HQ.out
    (by rw [HSZ.out]; omega) (by omega) (CutI w) (fun _ _ _ h k => h.keep k) (fun _ _ v h => h.set v) (fun _ _ _ _ o' h hr hl ho => h.put o' (by rw [HSZ.out] at hr; omega) hl ho) HI0.out
    (fun x => { tmps := #[.string s, .int .i64 n, undef, undef, .slice none 0 0, .int .i64 0, .pointer (some ⟨w.heap.size, 0, none⟩), .string x, .bool false, .int .i64 n, .bool false, .bool false, .int .i64 n, .bool false, .bool false, .bool false, .string s, .int .i64 s.size, .bool false, .bool false, .string s, .int .i64 s.size, .int .i64 n, .int .i64 M, .bool false, .bool false, .string s, .int .i64 n,
      .func (.func 42) #[] #[.pointer (some ⟨w.heap.size + 1, 0, none⟩), .pointer (some ⟨w.heap.size + 1 + 1, 0, none⟩)], .string x, undef, undef, undef, undef, undef], defers := [] }) ?assign ?body ?done
  case assign =>
    intro l x W K hK
    gi_wp2
    exact hK
  case body =>
    rintro l pre x W ⟨⟨v, hv, hrow⟩, hB, hsz⟩ hpre
    have hpl : pre.length < 100000 := by
      have := hpre.length_le
      have := HL.out
      simp at *
      omega
    have hc := hv.cell
    gi_wp2_with (gi_at_builtin; refine wpListIn_append_own _ rfl _ _ 23 rfl (w.heap.size + 3) 9 i0 (.string ByteArray.empty) 1 16 Try.underlying23 hi0 hz0 hz1 hz2 rfl (by decide) _ _ _ rfl (hrow.alloc _) ⟨W.heap.size, 0, none⟩ 1 1 [.string x] rfl rfl (cell_one_new _ _ _) (by simp [Value.oneCell']) (by unfold maxLen; omega) (by omega) (by simp; omega) ?_)
    intro v' w1 hown' hgrow _
    have hne : some w.heap.size ≠ v.ownBlock := fun e => by have := (hrow.lt _ e.symm).1; omega
    have hv1 : Boxed w1 w.heap.size 23 v := (hv.alloc _).kept hgrow hne
    obtain ⟨_, k2, k3, k4, k5⟩ := hv.appended (n₀ := w.heap.size) (by decide) (own_base hrow (by omega)) hB.size (Nat.le_refl _) (own_base hown' (by omega)) hgrow
    have k6 : KpB (w.heap.size + 1) 2 W (w1.setCell ⟨w.heap.size, 0, none⟩ v') := fun k hk1 hk2 => by
      refine (Below.heap_setCell w1 ⟨w.heap.size, 0, none⟩ v' k (by show k ≠ w.heap.size; omega)).trans ?_
      refine (hgrow.block k (by simp; omega) (fun e => by have := (hrow.lt _ e.symm).1; omega)).trans ?_
      exact Below.heap_alloc _ _ _ (by omega)
    have k7 := hown'.kept (grownBy_setCell' w1 w.heap.size v') (.inr (fun e => by have := (hown'.lt _ e).1; omega))
    obtain ⟨g', cap', rfl⟩ := ownsRow_succ hown'
    have hc1 := hv1.cell; have hf1 := hv1.frozen
    have K4 := Lib.hid k4; have K6 := Lib.hid k6; have K7 := Lib.hid k7; have K2 := Lib.hid k2; have K5 := Lib.hid (hB.trans k5); have KS := Lib.hid (Nat.le_trans hsz k5.size)
    clear k2 k3 k4 k5 k6 k7 hc hown' hgrow hne hv1
    gi_wp2
    exact ⟨K4.out.from _, K6.out, ⟨⟨_, K2.out, by simpa [List.flatMap_append, strC] using K7.out⟩, K5.out, KS.out⟩⟩
  case done =>
    rintro D W hD ⟨⟨v, hv, hrow⟩, hB, hsz⟩ hK
    have hc := hv.cell
    gi_wp2
    refine ⟨by simp, .inl ⟨_, _, rfl, run_takeDeferred hK, ?_⟩⟩
    obtain ⟨a, cap, rfl, hcp, hsl⟩ := own_sl (enc := strC) (size := 1) (fun _ => rfl) (by decide) (ownsRow_putObj hrow (.deferred none) hK rfl)
    exact ⟨_, results_tmp2 rfl _ _ _, a, cap, rfl, hcp, hsl, hB.trans ((Below.refl _ W).grown (grownBy_putObj' W D _) hB.size (fun k e => by cases e; rw [HSZ.out] at hD; omega))⟩
/-- What Cut gives: the chunks, and the error's number. -/
def cutV (s : ByteArray) (n : Int) : List ByteArray × Int :=
  if n < 1 ∨ 4096 < n then ([], 1) else if 32768 < s.size ∨ 4096 < manyC s.size n.toNat then ([], 3) else (cuts n.toNat s, 0)
def cutE (s : ByteArray) (n : Int) (w w' : World) (e : Ending) : Prop := ∃ a c, e = .returned (.tuple #[.slice a (cutV s n).1.length c, .int .i64 (cutV s n).2]) ∧ (cutV s n).1.length ≤ c ∧ Sl strC 1 w' a (cutV s n).1 ∧ Below w.heap.size w w'
theorem ccut_any (s : ByteArray) (n : Int) (w : World) : Calls Try.prog 8 #[.string s, .int .i64 n] w fun e w' => cutE s n w w' e := by
  unfold cutE cutV
  by_cases h1 : n < 1 ∨ 4096 < n
  · rw [if_pos h1]
    refine (cut_bad s n w h1).mono ?_
    rintro e w' ⟨rfl, rfl⟩
    exact ⟨none, 0, rfl, Nat.le_refl _, Sl.nil _ _ _ _, Below.refl _ _⟩
  · rw [if_neg h1]
    obtain ⟨m, rfl⟩ : ∃ m : Nat, n = m := ⟨n.toNat, by omega⟩
    rw [Int.toNat_natCast]
    by_cases h2 : 32768 < s.size ∨ 4096 < manyC s.size m
    · rw [if_pos h2]
      refine (cut_long s m w (by omega) (by omega) h2).mono ?_
      rintro e w' ⟨rfl, rfl⟩
      exact ⟨none, 0, rfl, Nat.le_refl _, Sl.nil _ _ _ _, Below.refl _ _⟩
    · rw [if_neg h2]
      exact cut_any2 s m w (by omega) (by omega) (by omega) (by omega)
end Go.Proofs.Ytanehgnpominiaa
set_option linter.unusedVariables false
set_option linter.unusedSimpArgs false
namespace Go.Proofs.Ytanehgnpominiaa
open Go.RowKit
theorem cuts_at {n : Nat} (hn : 1 ≤ n) (s : ByteArray) (j : Nat) (hj : j < s.size) : cuts n (s.extract j s.size) = s.extract j (min s.size (j + n)) :: cuts n (s.extract (min (j + n) s.size) s.size) := by
  have h1 := rest_size s (Nat.le_of_lt hj)
  rw [cuts_cons hn _ (by rw [h1]; omega), h1, ByteArray.extract_extract, ByteArray.extract_extract, Nat.add_zero,
    show min (j + min n (s.size - j)) s.size = min s.size (j + n) by omega, show j + min n (s.size - j) = min (j + n) s.size by omega, show min (j + (s.size - j)) s.size = s.size by omega]
theorem rcut_bad (s : ByteArray) (n : Int) (w : World) (h : n < 1 ∨ 4096 < n) : Calls Try.prog 9 #[.string s, .int .i64 n] w fun e w' => e = .returned (.tuple #[.slice none 0 0, .int .i64 1]) ∧ w' = w := by
  by_cases h1 : n < 1
  · go_enter Try.func9, Try.ntmps9
    go_wp2
    go_ret2
    exact ⟨rfl, rfl⟩
  · have h3 : 4096 < n := by omega
    go_enter Try.func9, Try.ntmps9
    go_wp2
    go_ret2
    exact ⟨rfl, rfl⟩
theorem rcut_long (s : ByteArray) (n : Nat) (w : World) (hn : 1 ≤ n) (hn2 : n ≤ 4096) (hs : 32768 < s.size ∨ 4096 < manyC s.size n) : Calls Try.prog 9 #[.string s, .int .i64 n] w fun e w' => e = .returned (.tuple #[.slice none 0 0, .int .i64 3]) ∧ w' = w := by
  have h1 : ¬ (n : Int) < 1 := by omega
  have h3 : ¬ 4096 < (n : Int) := by omega
  by_cases h5 : 32768 < s.size
  · have h4 : (32768 : Int) < (s.size : Int) := by omega
    go_enter Try.func9, Try.ntmps9
    go_wp2
    go_ret2
    exact ⟨rfl, rfl⟩
  · have h4 : ¬ (32768 : Int) < (s.size : Int) := by omega
    have h6 : (4096 : Int) < ((manyC s.size n : Nat) : Int) := by omega
    have T := Lib.hid (fun W => rmany_any s.size n W (by omega) hn hn2)
    clear hs
    generalize manyC s.size n = M at *
    go_enter Try.func9, Try.ntmps9
    go_wp2_with fail
    refine (T.out _).mono ?_
    rintro e w1 ⟨rfl, rfl⟩
    go_wp2
    go_ret2
    exact ⟨rfl, rfl⟩
set_option maxHeartbeats 4000000 in
theorem rcut_main (s : ByteArray) (n : Nat) (w : World) (hn : 1 ≤ n) (hn2 : n ≤ 4096) (hs : s.size ≤ 32768) (hmy : manyC s.size n ≤ 4096) :
    Calls Try.prog 9 #[.string s, .int .i64 n] w fun e w' => ∃ a c, e = .returned (.tuple #[.slice a (cuts n s).length c, .int .i64 0]) ∧ (cuts n s).length ≤ c ∧ Sl strC 1 w' a (cuts n s) ∧ Below w.heap.size w w' := by
  obtain ⟨i0, hi0, hz0, hz1, hz2⟩ := info_parts infoStr
  have g1 : ¬ (n : Int) < 1 := by omega
  have g3 : ¬ (4096 : Int) < (n : Int) := by omega
  have g4 : ¬ (32768 : Int) < (s.size : Int) := by omega
  have HM := Lib.hid (fun W => rmany_any s.size n W (by omega) hn hn2)
  have g5 : ¬ (4096 : Int) < ((manyC s.size n : Nat) : Int) := by omega
  have hll : (cuts n s).length ≤ 4096 := by rw [cuts_many hn s.size s (Nat.le_refl _)]; exact hmy
  clear hmy
  generalize manyC s.size n = M at *
  have d5 : decide ((4096 : Int) < (M : Int)) = false := decide_eq_false g5
  go_enter Try.func9, Try.ntmps9
  go_wp2_with fail
  refine (HM.out _).mono ?_
  rintro e w1 ⟨rfl, hw⟩
  obtain rfl : w = w1 := hw.symm
  clear hw
  go_wp2
  go_loopw [6, 7] (fun v i wr => ∃ (pre : List ByteArray) (j : Nat), i = .int .i64 j ∧ j ≤ 40000 ∧ cuts n s = pre ++ cuts n (s.extract (min j s.size) s.size) ∧ wr.ownsRow w.heap.size 9 1 v pre.length (pre.flatMap strC) ∧ Below w.heap.size w wr) (fun _ i _ => s.size - (intOf i).toNat)
  case atStart => exact ⟨[], 0, rfl, by omega, by rw [Nat.zero_min, ext_zero]; rfl, own_nil _ _ _ _, Below.refl _ _⟩
  case round =>
    obtain ⟨pre, j, rfl, hj, hcut, hown, hbw⟩ := hrel
    have HO := Lib.hid hown; have HBW := Lib.hid hbw
    have hpl : pre.length ≤ 4096 := by
      have := congrArg List.length hcut
      rw [List.length_append] at this
      omega
    clear hown hbw
    by_cases hlt : j < s.size
    · have hmin := min2_int; have hmin2 := min_two
      obtain ⟨E, hE⟩ : ∃ E, E = min s.size (j + n) := ⟨_, rfl⟩
      have hm1 : mn (s.size : Int) ((j : Int) + (n : Int)) = (E : Int) := by rw [mn_eq]; omega
      have HN : Hid (cuts n s = (pre ++ [s.extract j E]) ++ cuts n (s.extract (min (j + n) s.size) s.size)) := Lib.hid (by
        rw [hcut, Nat.min_eq_left (Nat.le_of_lt hlt), cuts_at hn s j hlt, ← hE]; simp)
      have hEs : E ≤ s.size := by omega
      have hjE : j ≤ E := by omega
      have hjE2 : (j : Int) ≤ (E : Int) := by omega
      have hEs2 : (E : Int) ≤ (s.size : Int) := by omega
      have HE := Lib.hid hE
      clear hcut hE
      go_wp2_with (at_builtin; refine wpList_append_own _ rfl _ _ 23 rfl w.heap.size 9 i0 (.string ByteArray.empty) 1 16 Try.underlying23 hi0 hz0 hz1 hz2 rfl (by decide) _ _ _ rfl (HO.out.alloc _) ⟨wr.heap.size, 0, none⟩ 1 1 [.string (s.extract j E)] rfl rfl ?a1 ?a2 ?a3 ?a4 ?a5 ?_)
      case a1 => exact cell_one_new _ _ _
      case a2 => intro u hu; simp at hu; rcases hu with rfl; rfl
      case a3 => unfold maxLen; omega
      case a4 => omega
      case a5 => have h1 := HBW.out.size; simp; omega
      intro v5 w5 hown5 hg5 _
      have HB5 : Hid (Below w.heap.size w w5) := Lib.hid ((HBW.out.alloc HBW.out.size _).grown hg5 (by have := HBW.out.size; simp; omega) (fun q hq => (HO.out.lt q hq).1))
      have HO5 : Hid (w5.ownsRow w.heap.size 9 1 v5 (pre ++ [s.extract j E]).length ((pre ++ [s.extract j E]).flatMap strC)) := Lib.hid (by rw [List.length_append, List.flatMap_append]; exact hown5)
      obtain ⟨g5', c5, rfl⟩ := ownsRow_succ hown5
      clear hown5 hg5
      go_wp2
      go_roundw
      case rel => exact ⟨pre ++ [s.extract j E], j + n, by go_num, by omega, HN.out, HO5.out, HB5.out⟩
      case measure => simp [intOf]; omega
    · have hlt2 : ¬ (j : Int) < (s.size : Int) := by omega
      have HE : Hid (cuts n s = pre) := Lib.hid (by rw [hcut, Nat.min_eq_right (by omega), cuts_nil n _ (by rw [rest_size s (Nat.le_refl _), Nat.sub_self]), List.append_nil])
      obtain ⟨av, cv, rfl, hcv, hsv⟩ := own_sl (enc := strC) (size := 1) (fun _ => rfl) (by decide) HO.out
      have HSV := Lib.hid hsv
      clear hcut hsv
      go_wp2
      go_ret2
      rw [HE.out]
      exact ⟨av, cv, rfl, hcv, HSV.out, HBW.out⟩
theorem rcut_any (s : ByteArray) (n : Int) (w : World) : Calls Try.prog 9 #[.string s, .int .i64 n] w fun e w' => cutE s n w w' e := by
  unfold cutE cutV
  by_cases h1 : n < 1 ∨ 4096 < n
  · rw [if_pos h1]
    refine (rcut_bad s n w h1).mono ?_
    rintro e w' ⟨rfl, rfl⟩
    exact ⟨none, 0, rfl, Nat.le_refl _, Sl.nil _ _ _ _, Below.refl _ _⟩
  · rw [if_neg h1]
    obtain ⟨m, rfl⟩ : ∃ m : Nat, n = m := ⟨n.toNat, by omega⟩
    rw [Int.toNat_natCast]
    by_cases h2 : 32768 < s.size ∨ 4096 < manyC s.size m
    · rw [if_pos h2]
      refine (rcut_long s m w (by omega) (by omega) h2).mono ?_
      rintro e w' ⟨rfl, rfl⟩
      exact ⟨none, 0, rfl, Nat.le_refl _, Sl.nil _ _ _ _, Below.refl _ _⟩
    · rw [if_neg h2]
      exact rcut_main s m w (by omega) (by omega) (by omega) (by omega)
end Go.Proofs.Ytanehgnpominiaa

