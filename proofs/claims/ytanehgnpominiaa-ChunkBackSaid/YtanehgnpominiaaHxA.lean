/-
  The plain law of digits, and the contracts of the digits' functions.
-/
import Derived.Test.YtanehgnpominiaaShK
import Derived.Laws.RangeString
import Derived.Laws.RangeAny
import Derived.Lib.OthersKept
import Derived.Laws.MakeOwn
set_option linter.unusedVariables false
set_option linter.unusedSimpArgs false
set_option maxRecDepth 100000
namespace Go.Proofs.Ytanehgnpominiaa
open Go.RowKit
def dgN (d : Nat) : Nat := if d < 10 then 48 + d else 87 + d
def halfO (c : Nat) : Option Nat := if 48 ≤ c ∧ c ≤ 57 then some (c - 48) else if 97 ≤ c ∧ c ≤ 102 then some (c - 87) else none
theorem dgN_lt {d : Nat} (h : d < 16) : dgN d < 103 := by unfold dgN; split <;> omega
theorem halfO_dgN {d : Nat} (h : d < 16) : halfO (dgN d) = some d := by
  unfold halfO dgN
  split
  · rw [if_pos (by omega)]; congr 1; omega
  · rw [if_neg (by omega), if_pos (by omega)]; congr 1; omega
theorem halfO_some {c d : Nat} (h : halfO c = some d) : d < 16 ∧ dgN d = c := by
  unfold halfO at h
  split at h
  · cases h; unfold dgN; rw [if_pos (by omega)]; omega
  · split at h
    · cases h; unfold dgN; rw [if_neg (by omega)]; omega
    · cases h
theorem halfO_none {c : Nat} (h : halfO c = none) : ∀ d, d < 16 → dgN d ≠ c := by
  intro d hd e
  rw [← e, halfO_dgN hd] at h
  cases h
theorem dgN_inj {a b : Nat} (ha : a < 16) (hb : b < 16) (h : dgN a = dgN b) : a = b := by
  have := halfO_dgN ha
  rw [h, halfO_dgN hb] at this
  cases this; rfl
def putW (x : Nat) : List Nat := [dgN (x / 16), dgN (x % 16)]
def putL (l : List Nat) : List Nat := l.flatMap putW
theorem putL_snoc (l : List Nat) (x : Nat) : putL (l ++ [x]) = putL l ++ putW x := by simp [putL]
theorem putL_len (l : List Nat) : (putL l).length = 2 * l.length := by
  induction l with
  | nil => rfl
  | cons x l ih => simp only [putL, List.flatMap_cons, List.length_append, List.length_cons] at *; rw [ih]; simp [putW]; omega
theorem putL_byte {l : List Nat} (h : ∀ c ∈ l, c < 256) : ∀ c ∈ putL l, c < 256 := by
  intro c hc
  obtain ⟨x, hx, hc⟩ := List.mem_flatMap.1 hc
  have h1 := h x hx
  simp only [putW, List.mem_cons, List.not_mem_nil, or_false] at hc
  rcases hc with rfl | rfl
  · have := dgN_lt (d := x / 16) (by omega); omega
  · have := dgN_lt (d := x % 16) (by omega); omega
def putV (s : ByteArray) : ByteArray := txB (putL (byB s))
theorem putV_size (s : ByteArray) : (putV s).size = 2 * s.size := by unfold putV; rw [txB_size, putL_len, byB_len]
theorem byB_byte (s : ByteArray) : ∀ c ∈ byB s, c < 256 := by
  intro c hc
  simp only [byB, List.mem_map] at hc
  obtain ⟨x, _, rfl⟩ := hc
  exact x.toNat_lt
theorem byB_putV (s : ByteArray) : byB (putV s) = putL (byB s) := by unfold putV; exact byB_txB (putL_byte (byB_byte s))
def readL : List Nat → Option (List Nat)
  | [] => some []
  | [_] => none
  | a :: b :: l => match halfO a, halfO b with
    | some x, some y => (readL l).map (fun r => (16 * x + y) :: r)
    | _, _ => none
theorem readL_ok {a b x y : Nat} {l : List Nat} (ha : halfO a = some x) (hb : halfO b = some y) : readL (a :: b :: l) = (readL l).map (fun r => (16 * x + y) :: r) := by rw [readL, ha, hb]
theorem readL_bad1 {a b : Nat} {l : List Nat} (ha : halfO a = none) : readL (a :: b :: l) = none := by rw [readL, ha]
theorem readL_bad2 {a b : Nat} {l : List Nat} (hb : halfO b = none) : readL (a :: b :: l) = none := by
  rw [readL, hb]
  cases halfO a <;> rfl
theorem readL_odd : ∀ (n : Nat) (l : List Nat), l.length = 2 * n + 1 → readL l = none
  | 0, [a], _ => rfl
  | n + 1, a :: b :: l, h => by
    have h1 := readL_odd n l (by simp at h; omega)
    rw [readL, h1]
    cases halfO a <;> cases halfO b <;> rfl
theorem readL_put : ∀ (l : List Nat), (∀ c ∈ l, c < 256) → readL (putL l) = some l
  | [], _ => rfl
  | x :: l, h => by
    have hx := h x (by simp)
    have ih := readL_put l (fun c hc => h c (by simp [hc]))
    have e : putL (x :: l) = dgN (x / 16) :: dgN (x % 16) :: putL l := by simp [putL, putW]
    rw [e, readL_ok (halfO_dgN (by omega)) (halfO_dgN (by omega)), ih]
    simp only [Option.map_some, Option.some.injEq, List.cons.injEq, and_true]
    omega
theorem readL_of : ∀ (n : Nat) (l r : List Nat), l.length ≤ n → readL l = some r → putL r = l ∧ ∀ c ∈ r, c < 256
  | _, [], r, _, h => by
    rw [readL] at h; cases h; exact ⟨rfl, by simp⟩
  | _, [_], r, _, h => by cases h
  | n + 1, a :: b :: l, r, hn, h => by
    cases ha : halfO a with
    | none => rw [readL_bad1 ha] at h; cases h
    | some x => cases hb : halfO b with
      | none => rw [readL_bad2 hb] at h; cases h
      | some y =>
        rw [readL_ok ha hb] at h
        cases hl : readL l with
        | none => rw [hl] at h; cases h
        | some q =>
          rw [hl] at h
          simp only [Option.map_some, Option.some.injEq] at h
          subst h
          obtain ⟨h1, h2⟩ := readL_of n l q (by simp at hn; omega) hl
          obtain ⟨x1, x2⟩ := halfO_some ha
          obtain ⟨y1, y2⟩ := halfO_some hb
          have e : putL ((16 * x + y) :: q) = dgN ((16 * x + y) / 16) :: dgN ((16 * x + y) % 16) :: putL q := by simp [putL, putW]
          refine ⟨?_, ?_⟩
          · rw [e, show (16 * x + y) / 16 = x by omega, show (16 * x + y) % 16 = y by omega, x2, y2, h1]
          · intro c hc
            rcases List.mem_cons.1 hc with rfl | hc
            · omega
            · exact h2 c hc
def readX (s : ByteArray) : ByteArray × Int := match readL (byB s) with
  | some l => (txB l, 0)
  | none => (⟨#[]⟩, 5)
theorem readX_ok {s : ByteArray} {l : List Nat} (h : readL (byB s) = some l) : readX s = (txB l, 0) := by unfold readX; rw [h]
theorem readX_bad {s : ByteArray} (h : readL (byB s) = none) : readX s = (⟨#[]⟩, 5) := by unfold readX; rw [h]
theorem digit_any (d : Nat) (hd : d < 16) (w : World) : Calls Try.prog 63 #[.int .u8 d] w fun e w' => e = .returned (.int .u8 (dgN d : Nat)) ∧ w = w' := by
  unfold dgN
  by_cases h : d < 10
  · rw [if_pos h]
    have d1 : (d : Int) < 10 := by omega
    go_enter Try.func63, Try.ntmps63
    go_wp2
    go_ret
    exact ⟨rint (by omega), rfl⟩
  · rw [if_neg h]
    have d1 : ¬ (d : Int) < 10 := by omega
    go_enter Try.func63, Try.ntmps63
    go_wp2
    go_ret
    exact ⟨rint (by omega), rfl⟩
def halfD (c : Nat) : Nat := (halfO c).getD 16
theorem rhalf_any (c : Nat) (hc : c < 256) (w : World) : Calls Try.prog 71 #[.int .u8 c] w fun e w' => e = .returned (.int .u8 (halfD c : Nat)) ∧ w = w' := by
  obtain ⟨H, hH⟩ : ∃ H, H = halfD c := ⟨_, rfl⟩
  rw [← hH]
  unfold halfD at hH
  cases hO : halfO c with
  | some d =>
    rw [hO] at hH
    obtain rfl : H = d := hH
    obtain ⟨h1, h2⟩ := halfO_some hO
    have HD := Lib.hid h2
    clear h2 hO
    go_enter Try.func71, Try.ntmps71
    go_wp2
    go_loop [3] (fun i => ∃ k : Nat, i = .int .u8 k ∧ k ≤ H) (fun i => 16 - (intOf i).toNat)
    case atStart => exact ⟨0, rfl, by omega⟩
    case round =>
      obtain ⟨k, rfl, hk⟩ := hrel
      have d1 : (k : Int) < 16 := by omega
      by_cases he : k = H
      · subst he
        have HDE : Hid ((((dgN k : Nat) : Int) == (c : Int)) = true) := Lib.hid (by rw [HD.out]; simp)
        go_wp2_with fail
        refine (digit_any k (by omega) _).mono ?_
        rintro e w1 ⟨rfl, rfl⟩
        have e1 := HDE.out
        go_wp2
        go_ret
        exact ⟨rfl, rfl⟩
      · have HDE : Hid ((((dgN k : Nat) : Int) == (c : Int)) = false) := Lib.hid (by
          simp only [beq_eq_false_iff_ne, ne_eq, Int.natCast_inj]
          rw [← HD.out]; intro e; exact he (dgN_inj (by omega) h1 e))
        go_wp2_with fail
        refine (digit_any k (by omega) _).mono ?_
        rintro e w1 ⟨rfl, rfl⟩
        have e1 := HDE.out
        go_wp2
        go_round
        case rel => exact ⟨k + 1, vint (by omega), by omega⟩
        case measure => simp [intOf]; omega
  | none =>
    rw [hO] at hH
    obtain rfl : H = 16 := hH
    have HD := Lib.hid (halfO_none hO)
    clear hO
    go_enter Try.func71, Try.ntmps71
    go_wp2
    go_loop [3] (fun i => ∃ k : Nat, i = .int .u8 k ∧ k ≤ 16) (fun i => 16 - (intOf i).toNat)
    case atStart => exact ⟨0, rfl, by omega⟩
    case round =>
      obtain ⟨k, rfl, hk⟩ := hrel
      by_cases he : k < 16
      · have d1 : (k : Int) < 16 := by omega
        have HDE : Hid ((((dgN k : Nat) : Int) == (c : Int)) = false) := Lib.hid (by
          simp only [beq_eq_false_iff_ne, ne_eq, Int.natCast_inj]
          exact HD.out k he)
        go_wp2_with fail
        refine (digit_any k he _).mono ?_
        rintro e w1 ⟨rfl, rfl⟩
        have e1 := HDE.out
        go_wp2
        go_round
        case rel => exact ⟨k + 1, vint (by omega), by omega⟩
        case measure => simp [intOf]; omega
      · have d1 : ¬ (k : Int) < 16 := by omega
        go_wp2
        go_ret
        exact ⟨rfl, rfl⟩
theorem dec16 (pos : Nat) (h : pos < 16) : Utf8.decode (⟨#[48, 49, 50, 51, 52, 53, 54, 55, 56, 57, 97, 98, 99, 100, 101, 102]⟩ : ByteArray) pos = (dgN pos, 1) := by
  match pos, h with
  | 0, _ => rfl
  | 1, _ => rfl
  | 2, _ => rfl
  | 3, _ => rfl
  | 4, _ => rfl
  | 5, _ => rfl
  | 6, _ => rfl
  | 7, _ => rfl
  | 8, _ => rfl
  | 9, _ => rfl
  | 10, _ => rfl
  | 11, _ => rfl
  | 12, _ => rfl
  | 13, _ => rfl
  | 14, _ => rfl
  | 15, _ => rfl
  | n + 16, h => omega
end Go.Proofs.Ytanehgnpominiaa

