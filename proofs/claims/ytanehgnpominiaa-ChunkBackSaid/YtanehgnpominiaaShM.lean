/-
  The plain mathematics of the sum of a block: words, rounds, what comes behind.
-/
import Derived.Test.YtanehgnpominiaaBase2
import Derived.Laws.BitsAllLaws
set_option linter.unusedVariables false
set_option linter.unusedSimpArgs false
namespace Go.Proofs.Ytanehgnpominiaa
open Go.RowKit
abbrev M32 : Nat := 4294967296
def byB (s : ByteArray) : List Nat := s.data.toList.map (·.toNat)
theorem byB_len (s : ByteArray) : (byB s).length = s.size := by rw [byB, List.length_map, length_data]
theorem byB_get (s : ByteArray) (j : Nat) (h : j < s.size) : (byB s).getD j 0 = (s[j]'h).toNat := by
  simp [byB, List.getD_eq_getElem?_getD, h]
  rfl
theorem byB_lt (s : ByteArray) (j : Nat) : (byB s).getD j 0 < 256 := by
  by_cases h : j < s.size
  · rw [byB_get s j h]; exact UInt8.toNat_lt _
  · rw [List.getD_eq_getElem?_getD, List.getElem?_eq_none (by rw [byB_len]; omega)]; decide
def rot (n x : Nat) : Nat := (x * 2 ^ (32 - n) % M32) ||| (x / 2 ^ n)
theorem or_lt32 {a b : Nat} (ha : a < M32) (hb : b < M32) : a ||| b < M32 := Nat.or_lt_two_pow (n := 32) ha hb
theorem xor_lt32 {a b : Nat} (ha : a < M32) (hb : b < M32) : a ^^^ b < M32 := Nat.xor_lt_two_pow (n := 32) ha hb
theorem and_lt32 {a b : Nat} (ha : a < M32) : a &&& b < M32 := Nat.lt_of_le_of_lt Nat.and_le_left ha
theorem rot_lt {n x : Nat} (hx : x < M32) : rot n x < M32 := or_lt32 (Nat.mod_lt _ (by decide)) (Nat.lt_of_le_of_lt (Nat.div_le_self _ _) hx)
def sg (a b c x : Nat) : Nat := rot a x ^^^ rot b x ^^^ rot c x
theorem sg_lt {a b c x : Nat} (hx : x < M32) : sg a b c x < M32 := xor_lt32 (xor_lt32 (rot_lt hx) (rot_lt hx)) (rot_lt hx)
def sl (x : Nat) : Nat := rot 7 x ^^^ rot 18 x ^^^ (x / 8)
def sh (x : Nat) : Nat := rot 17 x ^^^ rot 19 x ^^^ (x / 1024)
theorem sl_lt {x : Nat} (hx : x < M32) : sl x < M32 := xor_lt32 (xor_lt32 (rot_lt hx) (rot_lt hx)) (by unfold M32 at *; omega)
theorem sh_lt {x : Nat} (hx : x < M32) : sh x < M32 := xor_lt32 (xor_lt32 (rot_lt hx) (rot_lt hx)) (by unfold M32 at *; omega)
def invOf32 (m x : Nat) : Nat := m ^^^ x
def inv32 (x : Nat) : Nat := invOf32 4294967295 x
theorem inv32_lt {x : Nat} (hx : x < M32) : inv32 x < M32 := xor_lt32 (by decide) hx
def ch (e f g : Nat) : Nat := (e &&& f) ||| (inv32 e &&& g)
def mj (a b c : Nat) : Nat := (a &&& b) ||| (c &&& (a ||| b))
theorem ch_lt {e f g : Nat} (he : e < M32) : ch e f g < M32 := or_lt32 (and_lt32 he) (and_lt32 (inv32_lt he))
theorem mj_lt {a b c : Nat} (ha : a < M32) (hc : c < M32) : mj a b c < M32 := or_lt32 (and_lt32 ha) (and_lt32 hc)
theorem tb_inv (x i : Nat) : (inv32 x).testBit i = (decide (i < 32) ^^ x.testBit i) := by
  unfold inv32 invOf32
  rw [Nat.testBit_xor]
  have : (4294967295 : Nat).testBit i = decide (i < 32) := Nat.testBit_two_pow_sub_one 32 i
  rw [this]
theorem ch_ref (e f g : Nat) (he : e < M32) : (e &&& f) ^^^ (inv32 e &&& g) = ch e f g := by
  unfold ch
  apply Nat.eq_of_testBit_eq
  intro i
  rw [Nat.testBit_xor, Nat.testBit_or, Nat.testBit_and, Nat.testBit_and, tb_inv]
  by_cases hi : i < 32
  · rw [decide_eq_true hi]
    cases e.testBit i <;> cases f.testBit i <;> cases g.testBit i <;> rfl
  · rw [decide_eq_false hi, Nat.testBit_lt_two_pow (x := e) (i := i) (Nat.lt_of_lt_of_le he (Nat.pow_le_pow_right (n := 2) (by omega) (show 32 ≤ i by omega)))]
    cases f.testBit i <;> cases g.testBit i <;> rfl
theorem mj_ref (a b c : Nat) : (a &&& b) ^^^ (a &&& c) ^^^ (b &&& c) = mj a b c := by
  unfold mj
  apply Nat.eq_of_testBit_eq
  intro i
  rw [Nat.testBit_xor, Nat.testBit_xor, Nat.testBit_or, Nat.testBit_and, Nat.testBit_and, Nat.testBit_and, Nat.testBit_and, Nat.testBit_or]
  cases a.testBit i <;> cases b.testBit i <;> cases c.testBit i <;> rfl
/-- The first words of a block: four bytes each, the highest first. -/
def wd (b : List Nat) (i : Nat) : Nat := b.getD (4 * i) 0 * 16777216 + b.getD (4 * i + 1) 0 * 65536 + b.getD (4 * i + 2) 0 * 256 + b.getD (4 * i + 3) 0
/-- The words of a block, as many as are asked for. -/
def wds (b : List Nat) : Nat → List Nat
  | 0 => []
  | n + 1 => wds b n ++ [if n < 16 then wd b n else ((wds b n).getD (n - 16) 0 + (wds b n).getD (n - 7) 0 + sl ((wds b n).getD (n - 15) 0) + sh ((wds b n).getD (n - 2) 0)) % M32]
theorem wds_len (b : List Nat) : ∀ n, (wds b n).length = n
  | 0 => rfl
  | n + 1 => by rw [wds, List.length_append, wds_len b n]; rfl
theorem wd_lt {b : List Nat} (hb : ∀ j, b.getD j 0 < 256) (i : Nat) : wd b i < M32 := by
  have h0 := hb (4 * i)
  have h1 := hb (4 * i + 1)
  have h2 := hb (4 * i + 2)
  have h3 := hb (4 * i + 3)
  unfold wd M32; omega
theorem wds_lt {b : List Nat} (hb : ∀ j, b.getD j 0 < 256) : ∀ n, ∀ x ∈ wds b n, x < M32
  | 0, x, h => by cases h
  | n + 1, x, h => by
    rw [wds] at h
    rcases List.mem_append.1 h with h | h
    · exact wds_lt hb n x h
    · rw [List.mem_singleton.1 h]
      split
      · exact wd_lt hb n
      · exact Nat.mod_lt _ (by decide)
theorem wds_take (b : List Nat) (n : Nat) : ∀ m, n ≤ m → (wds b m).take n = wds b n
  | 0, h => by
    obtain rfl : n = 0 := by omega
    rfl
  | m + 1, h => by
    by_cases e : n = m + 1
    · subst e; rw [List.take_of_length_le (by rw [wds_len]; exact Nat.le_refl _)]
    · rw [wds, List.take_append_of_le_length (by rw [wds_len]; omega)]
      exact wds_take b n m (by omega)
structure S8 where
  a : Nat
  b : Nat
  c : Nat
  d : Nat
  e : Nat
  f : Nat
  g : Nat
  h : Nat
def S8.ok (s : S8) : Prop := s.a < M32 ∧ s.b < M32 ∧ s.c < M32 ∧ s.d < M32 ∧ s.e < M32 ∧ s.f < M32 ∧ s.g < M32 ∧ s.h < M32
def S8.l (s : S8) : List Nat := [s.a, s.b, s.c, s.d, s.e, s.f, s.g, s.h]
def one (k w : Nat) (s : S8) : Nat := (s.h + sg 6 11 25 s.e + ch s.e s.f s.g + k + w) % M32
def two (s : S8) : Nat := (sg 2 13 22 s.a + mj s.a s.b s.c) % M32
def rnd (k w : Nat) (s : S8) : S8 := ⟨(one k w s + two s) % M32, s.a, s.b, s.c, (s.d + one k w s) % M32, s.e, s.f, s.g⟩
theorem rnd_ok (k w : Nat) {s : S8} (h : s.ok) : (rnd k w s).ok := ⟨Nat.mod_lt _ (by decide), h.1, h.2.1, h.2.2.1, Nat.mod_lt _ (by decide), h.2.2.2.2.1, h.2.2.2.2.2.1, h.2.2.2.2.2.2.1⟩
def rnds (ks ws : List Nat) (s : S8) : Nat → S8
  | 0 => s
  | n + 1 => rnd (ks.getD n 0) (ws.getD n 0) (rnds ks ws s n)
theorem rnds_ok (ks ws : List Nat) {s : S8} (h : s.ok) : ∀ n, (rnds ks ws s n).ok
  | 0 => h
  | n + 1 => rnd_ok _ _ (rnds_ok ks ws h n)
def addS (s r : S8) : S8 := ⟨(s.a + r.a) % M32, (s.b + r.b) % M32, (s.c + r.c) % M32, (s.d + r.d) % M32, (s.e + r.e) % M32, (s.f + r.f) % M32, (s.g + r.g) % M32, (s.h + r.h) % M32⟩
theorem addS_ok (s r : S8) : (addS s r).ok := by
  refine ⟨?_, ?_, ?_, ?_, ?_, ?_, ?_, ?_⟩ <;> exact Nat.mod_lt _ (by decide)
def ksL : List Nat := [0x428a2f98, 0x71374491, 0xb5c0fbcf, 0xe9b5dba5, 0x3956c25b, 0x59f111f1, 0x923f82a4, 0xab1c5ed5, 0xd807aa98, 0x12835b01, 0x243185be, 0x550c7dc3, 0x72be5d74, 0x80deb1fe, 0x9bdc06a7, 0xc19bf174, 0xe49b69c1, 0xefbe4786, 0x0fc19dc6, 0x240ca1cc, 0x2de92c6f, 0x4a7484aa, 0x5cb0a9dc, 0x76f988da, 0x983e5152, 0xa831c66d, 0xb00327c8, 0xbf597fc7, 0xc6e00bf3, 0xd5a79147, 0x06ca6351, 0x14292967, 0x27b70a85, 0x2e1b2138, 0x4d2c6dfc, 0x53380d13, 0x650a7354, 0x766a0abb, 0x81c2c92e, 0x92722c85, 0xa2bfe8a1, 0xa81a664b, 0xc24b8b70, 0xc76c51a3, 0xd192e819, 0xd6990624, 0xf40e3585, 0x106aa070, 0x19a4c116, 0x1e376c08, 0x2748774c, 0x34b0bcb5, 0x391c0cb3, 0x4ed8aa4a, 0x5b9cca4f, 0x682e6ff3, 0x748f82ee, 0x78a5636f, 0x84c87814, 0x8cc70208, 0x90befffa, 0xa4506ceb, 0xbef9a3f7, 0xc67178f2]
theorem ksL_len : ksL.length = 64 := by decide
theorem ksL_lt : ∀ x ∈ ksL, x < M32 := by decide
def blk (s : S8) (b : List Nat) : S8 := addS s (rnds ksL (wds b 64) s 64)
theorem blk_ok (s : S8) (b : List Nat) : (blk s b).ok := addS_ok _ _
end Go.Proofs.Ytanehgnpominiaa

