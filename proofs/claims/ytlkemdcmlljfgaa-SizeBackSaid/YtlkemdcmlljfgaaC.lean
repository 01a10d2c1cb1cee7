/-
  The contract of size.whole.
-/
import Derived.Test.YtlkemdcmlljfgaaB
set_option linter.unusedVariables false
set_option linter.unusedSimpArgs false
namespace Go.Proofs.Ytlkemdcmlljfgaa
open Go.RowKit
def val (l : List UInt8) : Nat := l.foldl (fun a c => 10 * a + (c.toNat - 48)) 0
theorem val_snoc (l : List UInt8) (c : UInt8) : val (l ++ [c]) = 10 * val l + (c.toNat - 48) := by simp [val]
theorem nat_dig (n : Nat) : ∀ c ∈ natDec n, 48 ≤ c.toNat ∧ c.toNat ≤ 57 := by
  induction n using Nat.strongRecOn with
  | _ n ih =>
    by_cases h : n < 10
    · rw [natDec_small h]
      intro c hc
      rw [List.mem_singleton.1 hc]
      have : (UInt8.ofNat (48 + n)).toNat = 48 + n := by simp; omega
      omega
    · rw [natDec_big h]
      intro c hc
      rcases List.mem_append.1 hc with hc | hc
      · exact ih (n / 10) (by omega) c hc
      · rw [List.mem_singleton.1 hc]
        have : (UInt8.ofNat (48 + n % 10)).toNat = 48 + n % 10 := by simp; omega
        omega
theorem nat_val (n : Nat) : val (natDec n) = n := by
  induction n using Nat.strongRecOn with
  | _ n ih =>
    by_cases h : n < 10
    · rw [natDec_small h]
      have : (UInt8.ofNat (48 + n)).toNat = 48 + n := by simp; omega
      simp only [val, List.foldl_cons, List.foldl_nil, this]
      omega
    · rw [natDec_big h, val_snoc, ih (n / 10) (by omega)]
      have : (UInt8.ofNat (48 + n % 10)).toNat = 48 + n % 10 := by simp; omega
      rw [this]; omega
theorem nat_pos (n : Nat) : 0 < (natDec n).length := by
  by_cases h : n < 10
  · rw [natDec_small h]; simp
  · rw [natDec_big h]; simp
theorem nat_head (n : Nat) (hn : 1 ≤ n) : ∀ c, (natDec n)[0]? = some c → c.toNat ≠ 48 := by
  induction n using Nat.strongRecOn with
  | _ n ih =>
    by_cases h : n < 10
    · rw [natDec_small h]
      intro c hc
      simp at hc
      have : (UInt8.ofNat (48 + n)).toNat = 48 + n := by simp; omega
      rw [← hc]
      have h2 : (48 + UInt8.ofNat n).toNat = 48 + n := by
        have h3 : (48 + UInt8.ofNat n) = UInt8.ofNat (48 + n) := by simp
        rw [h3, this]
      first | omega | (simp at *; omega)
    · rw [natDec_big h]
      intro c hc
      rw [List.getElem?_append_left (nat_pos _)] at hc
      exact ih (n / 10) (by omega) (by omega) c hc
theorem val_lt : ∀ (k : Nat) (l : List UInt8), l.length = k → (∀ c ∈ l, c.toNat ≤ 57) → val l < 10 ^ k
  | 0, l, hl, _ => by
    obtain rfl : l = [] := List.eq_nil_of_length_eq_zero hl
    simp [val]
  | k + 1, l, hl, h => by
    have hne : l ≠ [] := by intro e; rw [e] at hl; simp at hl
    have e := List.dropLast_concat_getLast hne
    have h1 := val_lt k l.dropLast (by simp [hl]) (fun c hc => h c (List.dropLast_subset l hc))
    have h2 := h (l.getLast hne) (List.getLast_mem hne)
    rw [← e, val_snoc, Nat.pow_succ]
    omega
set_option maxHeartbeats 4000000 in
theorem whole_yes (n : Nat) (hn : n ≤ 9007199254740992) (w : World) : Calls Try.prog 9 #[.string (str (natDec n))] w fun e w' => e = .returned (.tuple #[.int .i64 n, .bool true]) ∧ Below w.heap.size w w' := by
  obtain ⟨l, hl⟩ : ∃ l, l = natDec n := ⟨_, rfl⟩
  have hdg : ∀ c ∈ l, 48 ≤ c.toNat ∧ c.toNat ≤ 57 := by rw [hl]; exact nat_dig n
  have hvl : val l = n := by rw [hl]; exact nat_val n
  have hlp : 0 < l.length := by rw [hl]; exact nat_pos n
  have hll : l.length ≤ 16 := by rw [hl]; exact natDec_len 16 n (by omega) (by omega)
  have hhd : 1 < l.length → ∀ c, l[0]? = some c → c.toNat ≠ 48 := by
    intro h1
    rw [hl] at h1 ⊢
    refine nat_head n ?_
    apply Classical.byContradiction
    intro h
    obtain rfl : n = 0 := by omega
    rw [natDec_small (by omega)] at h1
    simp at h1
  rw [← hl]
  clear hl
  obtain ⟨s, hs⟩ : ∃ s, s = str l := ⟨_, rfl⟩
  have hsz : s.size = l.length := by rw [hs, size_str]
  have hget : ∀ k (h : k < s.size), s[k] = l[k]'(by omega) := by intro k h; subst hs; rfl
  rw [← hs]
  have hne := nonempty_of_pos (b := s) (by omega)
  obtain ⟨cap, w2, hcv, hcc, hcb⟩ := bytes_conv (P := Try.prog) w 9 34 5 s Try.underlying9 Try.underlying34 Try.underlying5
  have HCC := Lib.hid hcc; have HCB := Lib.hid hcb; have HG := Lib.hid hget; have HD := Lib.hid hdg; have HV := Lib.hid hvl
  have d1 : decide ((16 : Int) < (s.size : Int)) = false := decide_eq_false (by omega)
  have d0 : (0 : Nat) < s.size := by omega
  have h0 : s[0] = l[0]'(by omega) := hget 0 d0
  have HREST : Hid (val (l.take s.size) = n) := Lib.hid (by rw [hsz, List.take_length]; exact hvl)
  clear hcc hcb hget hdg hs hvl
  by_cases h1 : 1 < s.size
  · have d2 : decide ((1 : Int) < (s.size : Int)) = true := decide_eq_true (by omega)
    have d3 : (((s[0].toNat : Nat) : Int) == 48) = false := by
      rw [h0]
      simp only [beq_eq_false_iff_ne, ne_eq]
      have := hhd (by omega) (l[0]'(by omega)) (by rw [List.getElem?_eq_getElem (by omega)])
      omega
    clear hhd h0
    go_enter Try.func9, Try.ntmps9
    go_wp2
    go_loopw [4, 27] (fun nv i wr => ∃ k : Nat, k ≤ s.size ∧ i = .int .i64 k ∧ nv = .int .i64 (val (l.take k)) ∧ wr = w2) (fun _ i _ => s.size - (intOf i).toNat)
    case atStart => exact ⟨0, by omega, rfl, rfl, rfl⟩
    case round =>
      obtain ⟨k, hk, rfl, rfl, rfl⟩ := hrel
      by_cases hlt : k < s.size
      · have c1 := HCC.out k hlt
        have hc := HD.out (l[k]'(by omega)) (List.getElem_mem _)
        rw [HG.out k hlt] at c1
        have hV := val_lt k (l.take k) (by rw [List.length_take]; omega) (fun c hc => (HD.out c (List.mem_of_mem_take hc)).2)
        have hV2 : val (l.take k) < 10 ^ 16 := Nat.lt_of_lt_of_le hV (Nat.pow_le_pow_right (by omega) (by omega))
        have HT : Hid (val (l.take (k + 1)) = 10 * val (l.take k) + ((l[k]'(by omega)).toNat - 48)) := Lib.hid (by rw [List.take_succ_eq_append_getElem (by omega), val_snoc])
        generalize (l[k]'(by omega)).toNat = c at c1 hc HT
        generalize val (l.take k) = V at hV2 HT ⊢
        have e1 : decide ((c : Int) < 48) = false := decide_eq_false (by omega)
        have e2 : decide ((57 : Int) < (c : Int)) = false := decide_eq_false (by omega)
        have gi : (k : Int) < (s.size : Int) := by omega
        clear hV
        go_wp2
        go_roundw
        case rel => exact ⟨k + 1, by omega, by go_num, by rw [HT.out]; refine vint ?_; omega, trivial⟩
        case measure => simp [intOf]; omega
      · obtain rfl : k = s.size := by omega
        rw [HREST.out]
        go_wp2
        go_ret2
        exact ⟨rfl, HCB.out⟩
  · have d2 : decide ((1 : Int) < (s.size : Int)) = false := decide_eq_false (by omega)
    clear hhd h0
    go_enter Try.func9, Try.ntmps9
    go_wp2
    go_loopw [4, 27] (fun nv i wr => ∃ k : Nat, k ≤ s.size ∧ i = .int .i64 k ∧ nv = .int .i64 (val (l.take k)) ∧ wr = w2) (fun _ i _ => s.size - (intOf i).toNat)
    case atStart => exact ⟨0, by omega, rfl, rfl, rfl⟩
    case round =>
      obtain ⟨k, hk, rfl, rfl, rfl⟩ := hrel
      by_cases hlt : k < s.size
      · have c1 := HCC.out k hlt
        have hc := HD.out (l[k]'(by omega)) (List.getElem_mem _)
        rw [HG.out k hlt] at c1
        have hV := val_lt k (l.take k) (by rw [List.length_take]; omega) (fun c hc => (HD.out c (List.mem_of_mem_take hc)).2)
        have hV2 : val (l.take k) < 10 ^ 16 := Nat.lt_of_lt_of_le hV (Nat.pow_le_pow_right (by omega) (by omega))
        have HT : Hid (val (l.take (k + 1)) = 10 * val (l.take k) + ((l[k]'(by omega)).toNat - 48)) := Lib.hid (by rw [List.take_succ_eq_append_getElem (by omega), val_snoc])
        generalize (l[k]'(by omega)).toNat = c at c1 hc HT
        generalize val (l.take k) = V at hV2 HT ⊢
        have e1 : decide ((c : Int) < 48) = false := decide_eq_false (by omega)
        have e2 : decide ((57 : Int) < (c : Int)) = false := decide_eq_false (by omega)
        have gi : (k : Int) < (s.size : Int) := by omega
        clear hV
        go_wp2
        go_roundw
        case rel => exact ⟨k + 1, by omega, by go_num, by rw [HT.out]; refine vint ?_; omega, trivial⟩
        case measure => simp [intOf]; omega
      · obtain rfl : k = s.size := by omega
        rw [HREST.out]
        go_wp2
        go_ret2
        exact ⟨rfl, HCB.out⟩
theorem whole_02 (w : World) : Calls Try.prog 9 #[.string ⟨#[48, 50]⟩] w fun e w' => e = .returned (.tuple #[.int .i64 0, .bool false]) ∧ w' = w := by
  go_enter Try.func9, Try.ntmps9
  go_wp2
  go_ret2
  exact ⟨rfl, rfl⟩
end Go.Proofs.Ytlkemdcmlljfgaa
