/-
  The plain law of runs: what is put is read, what is read was put so, and how long it is.
-/
import Derived.Test.YtholjhblpfkbcaaPl
set_option linter.unusedVariables false
set_option linter.unusedSimpArgs false
namespace Go.Proofs.Ytholjhblpfkbcaa
open Go.RowKit
theorem readV_sort (l : List Nat) : (∃ n k : Nat, readV l = ((n : Int), (k : Int), 0) ∧ 1 ≤ k ∧ n ≤ 9007199254740992) ∨ (∃ e : Int, e ≠ 0 ∧ readV l = (0, 0, e)) := by
  unfold readV
  cases hl : low l with
  | none => exact .inr ⟨4, by decide, rfl⟩
  | some i =>
    dsimp only
    unfold readI
    by_cases h1 : 8 ≤ i
    · rw [if_pos h1]; exact .inr ⟨2, by decide, rfl⟩
    · rw [if_neg h1]
      by_cases h2 : 0 < i ∧ l.getD i 0 = 0
      · rw [if_pos h2]; exact .inr ⟨5, by decide, rfl⟩
      · rw [if_neg h2]
        by_cases h3 : 9007199254740992 < val (l.take (i + 1))
        · rw [if_pos h3]; exact .inr ⟨2, by decide, rfl⟩
        · rw [if_neg h3]; exact .inl ⟨_, i + 1, rfl, by omega, by omega⟩
def runL (l : List Nat) : Nat × Nat × Nat × Int :=
  if (readV l).2.2 = 0 then
    (if (nb (readV l).1.toNat).length = l.length then (0, 0, 0, 4) else ((readV l).1.toNat, l.getD (nb (readV l).1.toNat).length 0, (nb (readV l).1.toNat).length + 1, 0))
  else (0, 0, 0, (readV l).2.2)
theorem run_put {n : Nat} (h : n ≤ 9007199254740992) (c : Nat) (r : List Nat) : runL (nb n ++ c :: r) = (n, c, (nb n).length + 1, 0) := by
  unfold runL
  rw [readV_nb h]
  dsimp only
  rw [if_pos rfl, Int.toNat_natCast, if_neg (by simp), List.getD_eq_getElem?_getD, List.getElem?_append_right (Nat.le_refl _)]
  simp
theorem run_ok {l : List Nat} {n c k : Nat} (hb : ∀ c ∈ l, c < 256) (h : runL l = (n, c, k, 0)) : l.take k = nb n ++ [c] ∧ k ≤ l.length ∧ 1 ≤ k ∧ n ≤ 9007199254740992 := by
  unfold runL at h
  rcases readV_sort l with ⟨m, j, hr, hj, hm⟩ | ⟨e, he, hr⟩
  · obtain ⟨h1, h2⟩ := nb_of_read hb hr hj
    rw [hr] at h
    dsimp only at h
    rw [if_pos rfl, Int.toNat_natCast] at h
    have hlen : (nb m).length = j := by rw [h1, List.length_take]; omega
    rw [hlen] at h
    by_cases hq : j = l.length
    · rw [if_pos hq] at h; simp at h
    · rw [if_neg hq] at h
      simp only [Prod.mk.injEq, and_true] at h
      obtain ⟨rfl, rfl, rfl⟩ := h
      refine ⟨?_, by omega, by omega, hm⟩
      rw [List.take_succ_eq_append_getElem (by omega), h1]
      congr 2
      rw [List.getD_eq_getElem?_getD, List.getElem?_eq_getElem (by omega)]; rfl
  · rw [hr] at h
    dsimp only at h
    rw [if_neg he] at h
    simp at h
    exact absurd h.2.2.2 he
def rdP : Nat → List Nat → List Nat → List Nat × Int
  | 0, _, out => (out, 0)
  | f + 1, l, out => if l = [] then (out, 0) else
    if (runL l).2.2.2 ≠ 0 then ([], (runL l).2.2.2) else
    if (runL l).1 = 0 ∨ out.getLast? = some (runL l).2.1 then ([], 5) else
    if 65536 < (runL l).1 + out.length then ([], 3) else rdP f (l.drop (runL l).2.2.1) (out ++ List.replicate (runL l).1 (runL l).2.1)
theorem rdP_nil (f : Nat) (out : List Nat) : rdP f [] out = (out, 0) := by cases f <;> simp [rdP]
theorem rdP_bad {f : Nat} {l out : List Nat} {n c k : Nat} {e : Int} (h0 : l ≠ []) (h : runL l = (n, c, k, e)) (he : e ≠ 0) : rdP (f + 1) l out = ([], e) := by
  rw [rdP, if_neg h0, h]; simp only; rw [if_pos he]
theorem rdP_form {f : Nat} {l out : List Nat} {n c k : Nat} (h0 : l ≠ []) (h : runL l = (n, c, k, 0)) (he : n = 0 ∨ out.getLast? = some c) : rdP (f + 1) l out = ([], 5) := by
  rw [rdP, if_neg h0, h]; simp only; rw [if_neg (by simp), if_pos he]
theorem rdP_long {f : Nat} {l out : List Nat} {n c k : Nat} (h0 : l ≠ []) (h : runL l = (n, c, k, 0)) (he : ¬ (n = 0 ∨ out.getLast? = some c)) (h3 : 65536 < n + out.length) : rdP (f + 1) l out = ([], 3) := by
  rw [rdP, if_neg h0, h]; simp only; rw [if_neg (by simp), if_neg he, if_pos h3]
theorem rdP_step {f : Nat} {l out : List Nat} {n c k : Nat} (h0 : l ≠ []) (h : runL l = (n, c, k, 0)) (he : ¬ (n = 0 ∨ out.getLast? = some c)) (h3 : ¬ 65536 < n + out.length) : rdP (f + 1) l out = rdP f (l.drop k) (out ++ List.replicate n c) := by
  rw [rdP, if_neg h0, h]; simp only; rw [if_neg (by simp), if_neg he, if_neg h3]
def cnt (c : Nat) : List Nat → Nat
  | [] => 0
  | d :: l => if d = c then cnt c l + 1 else 0
theorem cnt_le (c : Nat) : ∀ l : List Nat, cnt c l ≤ l.length
  | [] => Nat.le_refl _
  | d :: l => by have := cnt_le c l; unfold cnt; split <;> simp <;> omega
theorem cnt_split (c : Nat) : ∀ l : List Nat, l = List.replicate (cnt c l) c ++ l.drop (cnt c l)
  | [] => rfl
  | d :: l => by
    unfold cnt
    split
    · rename_i h
      subst h
      simp only [List.replicate_succ, List.drop_succ_cons, List.cons_append]
      exact congrArg _ (cnt_split d l)
    · rfl
theorem cnt_head (c : Nat) : ∀ l : List Nat, (l.drop (cnt c l)).head? ≠ some c
  | [] => by simp
  | d :: l => by
    unfold cnt
    split
    · simp only [List.drop_succ_cons]; exact cnt_head c l
    · rename_i h; simpa using h
theorem cnt_rep (c : Nat) (m : List Nat) (h : m.head? ≠ some c) : ∀ n, cnt c (List.replicate n c ++ m) = n
  | 0 => by
    cases m with
    | nil => rfl
    | cons d m => simp only [List.head?_cons, ne_eq, Option.some.injEq] at h; simp [cnt, h]
  | n + 1 => by simp only [List.replicate_succ, List.cons_append, cnt, if_true, cnt_rep c m h n]
def ptP : Nat → List Nat → List Nat
  | 0, _ => []
  | _ + 1, [] => []
  | f + 1, c :: l => nb (cnt c l + 1) ++ c :: ptP f (l.drop (cnt c l))
theorem ptP_nil (f : Nat) : ptP f [] = [] := by cases f <;> rfl
theorem nb_short : ∀ n, 1 ≤ n → (nb n).length ≤ n := by
  intro n
  induction n using nb.induct with
  | case1 n h => intro h1; rw [nb_lt h]; simpa using h1
  | case2 n h ih => intro h1; rw [nb_ge (by omega), List.length_cons]; have := ih (by omega); omega
theorem ptP_len : ∀ (f : Nat) (l : List Nat), (ptP f l).length ≤ 2 * l.length
  | 0, l => by simp [ptP]
  | f + 1, [] => by simp [ptP]
  | f + 1, c :: l => by
    have h1 := ptP_len f (l.drop (cnt c l))
    have h2 := nb_short (cnt c l + 1) (by omega)
    have h3 := cnt_le c l
    rw [List.length_drop] at h1
    simp only [ptP, List.length_append, List.length_cons]
    omega
theorem ptP_read : ∀ (f : Nat) (l out : List Nat) (F : Nat), l.length ≤ f → (ptP f l).length ≤ F → out.length + l.length ≤ 65536 → (∀ c, out.getLast? = some c → l.head? ≠ some c) → rdP F (ptP f l) out = (out ++ l, 0) := by
  intro f
  induction f with
  | zero =>
    intro l out F hl _ _ _
    obtain rfl : l = [] := List.eq_nil_of_length_eq_zero (by omega)
    rw [ptP_nil, rdP_nil, List.append_nil]
  | succ f ih =>
    intro l out F hl hF ho hh
    cases l with
    | nil => rw [ptP_nil, rdP_nil, List.append_nil]
    | cons c l =>
      have h3 := cnt_le c l
      simp only [List.length_cons] at hl ho
      simp only [ptP, List.length_append, List.length_cons] at hF
      cases F with
      | zero => omega
      | succ F =>
        have hr := run_put (n := cnt c l + 1) (by omega) c (ptP f (l.drop (cnt c l)))
        rw [ptP, rdP_step (by simp) hr (by
          intro h
          rcases h with h | h
          · omega
          · exact hh c h rfl) (by omega)]
        have hd : (nb (cnt c l + 1) ++ c :: ptP f (l.drop (cnt c l))).drop ((nb (cnt c l + 1)).length + 1) = ptP f (l.drop (cnt c l)) := by
          rw [List.drop_append, List.drop_eq_nil_of_le (by omega)]; simp
        rw [hd, ih _ _ F (by rw [List.length_drop]; omega) (by omega) (by simp; omega) (by
          intro d hd1
          rw [List.getLast?_append, List.getLast?_replicate, if_neg (by omega)] at hd1
          simp at hd1
          subst hd1
          exact cnt_head c l)]
        rw [List.append_assoc, List.replicate_succ, List.cons_append, ← cnt_split]
theorem rdP_put : ∀ (F : Nat) (l out r : List Nat), l.length ≤ F → rdP F l out = (r, 0) → (∀ c ∈ l, c < 256) → out.length ≤ 65536 → ∃ m, r = out ++ m ∧ r.length ≤ 65536 ∧ (∀ c, out.getLast? = some c → m.head? ≠ some c) ∧ (∀ c ∈ m, c < 256) ∧ ∀ f, m.length ≤ f → ptP f m = l := by
  intro F
  induction F with
  | zero =>
    intro l out r hl h _ ho
    obtain rfl : l = [] := List.eq_nil_of_length_eq_zero (by omega)
    rw [rdP_nil] at h
    cases h
    exact ⟨[], by simp, ho, by simp, by simp, fun f _ => ptP_nil f⟩
  | succ F ih =>
    intro l out r hl h hb ho
    by_cases h0 : l = []
    · subst h0
      rw [rdP_nil] at h
      cases h
      exact ⟨[], by simp, ho, by simp, by simp, fun f _ => ptP_nil f⟩
    · obtain ⟨n, c, k, e, hr⟩ : ∃ n c k e, runL l = (n, c, k, e) := ⟨_, _, _, _, rfl⟩
      by_cases he : e = 0
      · subst he
        by_cases h5 : n = 0 ∨ out.getLast? = some c
        · rw [rdP_form h0 hr h5] at h; simp at h
        · by_cases h3 : 65536 < n + out.length
          · rw [rdP_long h0 hr h5 h3] at h; simp at h
          · rw [rdP_step h0 hr h5 h3] at h
            obtain ⟨q1, q2, q3, q4⟩ := run_ok hb hr
            obtain ⟨m, p1, p2, p3, p4, p5⟩ := ih (l.drop k) (out ++ List.replicate n c) r (by rw [List.length_drop]; omega) h (fun c hc => hb c (List.mem_of_mem_drop hc)) (by simp; omega)
            have hn : n ≠ 0 := fun e => h5 (.inl e)
            obtain ⟨n, rfl⟩ : ∃ j, n = j + 1 := ⟨n - 1, by omega⟩
            have hmh : m.head? ≠ some c := p3 c (by rw [List.getLast?_append, List.getLast?_replicate, if_neg hn]; rfl)
            have hcb : c < 256 := hb c (by
              have : c ∈ l.take k := by rw [q1]; simp
              exact List.mem_of_mem_take this)
            refine ⟨List.replicate (n + 1) c ++ m, by rw [p1, List.append_assoc], p2, ?_, ?_, ?_⟩
            · intro d hd e
              rw [List.replicate_succ, List.cons_append, List.head?_cons] at e
              injection e with e
              subst e
              exact h5 (.inr hd)
            · intro d hd
              rcases List.mem_append.1 hd with hd | hd
              · rw [(List.mem_replicate.1 hd).2]; exact hcb
              · exact p4 d hd
            · intro f hf
              rw [List.length_append, List.length_replicate] at hf
              cases f with
              | zero => omega
              | succ f =>
                rw [List.replicate_succ, List.cons_append, ptP, cnt_rep c m hmh n]
                have hd : (List.replicate n c ++ m).drop n = m := by
                  rw [List.drop_append, List.drop_eq_nil_of_le (by simp)]; simp
                rw [hd, p5 f (by omega)]
                have := List.take_append_drop k l
                rw [q1, List.append_assoc] at this
                exact this
      · rw [rdP_bad h0 hr he] at h
        simp at h
        exact absurd h.2 he
end Go.Proofs.Ytholjhblpfkbcaa

