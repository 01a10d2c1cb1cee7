/-
  The plain model of numbers as bytes, and of texts as rows of bytes.
-/
import Derived.Test.YthkbeeebdkccdaaBase2
set_option linter.unusedVariables false
set_option linter.unusedSimpArgs false
namespace Go.Proofs.Ythkbeeebdkccdaa
open Go.RowKit
/-- A text's bytes as numbers; numbers as a text. -/
def bys (s : ByteArray) : List Nat := s.data.toList.map (·.toNat)
def txt (bs : List Nat) : ByteArray := ⟨(bs.map UInt8.ofNat).toArray⟩
theorem bys_len (s : ByteArray) : (bys s).length = s.size := by rw [bys, List.length_map, length_data]
theorem bys_lt (s : ByteArray) : ∀ c ∈ bys s, c < 256 := by
  intro c hc
  simp only [bys, List.mem_map] at hc
  obtain ⟨x, _, rfl⟩ := hc
  exact x.toNat_lt
theorem bys_get (s : ByteArray) (j : Nat) (h : j < s.size) : (bys s).getD j 0 = (s[j]'h).toNat := by
  simp [bys, List.getD_eq_getElem?_getD, h]
  rfl
theorem bys_txt {l : List Nat} (h : ∀ c ∈ l, c < 256) : bys (txt l) = l := by
  simp only [bys, txt, List.map_map]
  conv => rhs; rw [← List.map_id l]
  apply List.map_congr_left
  intro c hc
  have := h c hc
  simp only [Function.comp_apply, id]
  rw [UInt8.toNat_ofNat']
  omega
theorem txt_bys (s : ByteArray) : txt (bys s) = s := by
  apply ByteArray.ext
  simp only [bys, txt, List.map_map]
  have : (UInt8.ofNat ∘ fun x => x.toNat) = (id : UInt8 → UInt8) := by funext x; simp
  rw [this, List.map_id]
theorem txt_size (l : List Nat) : (txt l).size = l.length := by
  show (txt l).data.size = _
  simp [txt]
theorem txt_app (a b : List Nat) : txt (a ++ b) = txt a ++ txt b := by
  apply ByteArray.ext
  simp [txt]
theorem bys_app (a b : ByteArray) : bys (a ++ b) = bys a ++ bys b := by
  simp [bys]
theorem bys_inj {a b : ByteArray} (h : bys a = bys b) : a = b := by rw [← txt_bys a, h, txt_bys]
theorem bys_extract (s : ByteArray) (i j : Nat) : bys (s.extract i j) = ((bys s).take j).drop i := by
  simp only [bys, ByteArray.data_extract, Array.toList_extract, List.map_take, List.map_drop, List.extract_eq_take_drop]
  try rw [List.drop_take]
theorem txt_nil : txt [] = ⟨#[]⟩ := rfl
/-- A number's bytes: seven bits a byte, the lowest first; all but the last are 128 more. -/
def nb (n : Nat) : List Nat := if n < 128 then [n] else (n % 128 + 128) :: nb (n / 128)
termination_by n
decreasing_by omega
theorem nb_lt {n : Nat} (h : n < 128) : nb n = [n] := by rw [nb, if_pos h]
theorem nb_ge {n : Nat} (h : 128 ≤ n) : nb n = (n % 128 + 128) :: nb (n / 128) := by rw [nb, if_neg (by omega)]
theorem nb_len : ∀ (k : Nat) (n : Nat), n < 128 ^ (k + 1) → (nb n).length ≤ k + 1
  | 0, n, h => by rw [nb_lt (by omega)]; simp
  | k + 1, n, h => by
    by_cases h1 : n < 128
    · rw [nb_lt h1]; simp
    · rw [nb_ge (by omega)]
      have := nb_len k (n / 128) (by rw [Nat.pow_succ] at h; omega)
      simp only [List.length_cons]; omega
theorem nb_len8 {n : Nat} (h : n ≤ 9007199254740992) : (nb n).length ≤ 8 := nb_len 7 n (by omega)
theorem nb_byte (n : Nat) : ∀ c ∈ nb n, c < 256 := by
  induction n using nb.induct with
  | case1 n h => rw [nb_lt h]; intro c hc; simp at hc; omega
  | case2 n h ih =>
    rw [nb_ge (by omega)]
    intro c hc
    rcases List.mem_cons.1 hc with rfl | hc
    · omega
    · exact ih c hc
theorem nb_ne (n : Nat) : nb n ≠ [] := by
  by_cases h : n < 128
  · rw [nb_lt h]; simp
  · rw [nb_ge (by omega)]; simp
/-- What wire.Num answers. -/
def numV (n : Int) : ByteArray × Int := if n < 0 ∨ 9007199254740992 < n then (⟨#[]⟩, 2) else (txt (nb n.toNat), 0)
theorem numV_ok {n : Nat} (h : n ≤ 9007199254740992) : numV n = (txt (nb n), 0) := by unfold numV; rw [if_neg (by omega)]; rfl
theorem numV_bad {n : Int} (h : n < 0 ∨ 9007199254740992 < n) : numV n = (⟨#[]⟩, 2) := by unfold numV; rw [if_pos h]
/-- The place of the first byte below 128. -/
def low : List Nat → Option Nat
  | [] => none
  | c :: l => if c < 128 then some 0 else (low l).map (· + 1)
/-- The number that bytes are, the lowest seven bits first. -/
def val : List Nat → Nat
  | [] => 0
  | c :: l => c % 128 + 128 * val l
theorem low_some : ∀ {l : List Nat} {i : Nat}, low l = some i → i < l.length ∧ l.getD i 0 < 128 ∧ ∀ k, k < i → 128 ≤ l.getD k 0
  | [], i, h => by cases h
  | c :: l, i, h => by
    unfold low at h
    split at h
    · cases h; refine ⟨by simp, by simpa, fun k hk => by omega⟩
    · cases hl : low l with
      | none => rw [hl] at h; cases h
      | some j =>
        rw [hl] at h
        simp only [Option.map_some, Option.some.injEq] at h
        subst h
        have h1 := low_some hl
        refine ⟨by simp; omega, by simpa using h1.2.1, fun k hk => ?_⟩
        cases k with
        | zero => simp; omega
        | succ k => have := h1.2.2 k (by omega); simpa using this
theorem low_at : ∀ {l : List Nat} {i : Nat}, i < l.length → l.getD i 0 < 128 → (∀ k, k < i → 128 ≤ l.getD k 0) → low l = some i
  | [], i, h, _, _ => by cases h
  | c :: l, 0, h, h2, _ => by unfold low; rw [if_pos (by simpa using h2)]
  | c :: l, i + 1, h, h2, h3 => by
    unfold low
    have h0 := h3 0 (by omega)
    simp at h0
    rw [if_neg (by omega), low_at (l := l) (i := i) (by simpa using h) (by simpa using h2) (fun k hk => by simpa using h3 (k + 1) (by omega))]
    rfl
theorem low_none : ∀ {l : List Nat}, (∀ k, k < l.length → 128 ≤ l.getD k 0) → low l = none
  | [], _ => rfl
  | c :: l, h => by
    unfold low
    have h0 := h 0 (by simp)
    simp at h0
    rw [if_neg (by omega), low_none (l := l) (fun k hk => by simpa using h (k + 1) (by simpa using hk))]
    rfl
theorem val_app : ∀ (a b : List Nat), val (a ++ b) = val a + 128 ^ a.length * val b
  | [], b => by simp [val]
  | c :: a, b => by
    simp only [List.cons_append, val, val_app a b, List.length_cons, Nat.pow_succ]
    rw [Nat.mul_add, Nat.mul_comm (128 ^ a.length) 128, Nat.mul_assoc]
    omega
theorem val_lt : ∀ (l : List Nat), val l < 128 ^ l.length
  | [] => by simp [val]
  | c :: l => by
    have := val_lt l
    simp only [val, List.length_cons, Nat.pow_succ]
    omega
/-- What wire.number answers: the number, how many bytes it has, the error. -/
def readI (l : List Nat) (i : Nat) : Int × Int × Int := if 8 ≤ i then (0, 0, 2) else if 0 < i ∧ l.getD i 0 = 0 then (0, 0, 5) else if 9007199254740992 < val (l.take (i + 1)) then (0, 0, 2) else (val (l.take (i + 1)), i + 1, 0)
def readV (l : List Nat) : Int × Int × Int :=
  match low l with
  | none => (0, 0, 4)
  | some i => readI l i
end Go.Proofs.Ythkbeeebdkccdaa

