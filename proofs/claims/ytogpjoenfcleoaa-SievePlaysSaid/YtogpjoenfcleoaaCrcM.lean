/-
  The plain mathematics of the sum: no program in sight.
-/
import Derived.Laws.BitsAllLaws
namespace Go.Proofs.Ytogpjoenfcleoaa
open Go
def stp (c : Nat) : Nat := if c % 2 = 1 then (c / 2) ^^^ 2197175160 else c / 2
def stpN : Nat → Nat → Nat
  | 0, c => c
  | j + 1, c => stp (stpN j c)
def addB (c b : Nat) : Nat := stpN 8 (c ^^^ b)
def addL (c : Nat) (l : List UInt8) : Nat := l.foldl (fun c b => addB c b.toNat) c
def invOf (m c : Nat) : Nat := m ^^^ c
def inv (c : Nat) : Nat := invOf 4294967295 c
def crc (x : Nat) (l : List UInt8) : Nat := inv (addL (inv x) l)
theorem xor_lt {a b : Nat} (ha : a < 4294967296) (hb : b < 4294967296) : a ^^^ b < 4294967296 := Nat.xor_lt_two_pow (n := 32) ha hb
theorem stp_lt {c : Nat} (h : c < 4294967296) : stp c < 4294967296 := by
  unfold stp; split
  · exact xor_lt (by omega) (by omega)
  · omega
theorem stpN_lt {c : Nat} (h : c < 4294967296) : ∀ j, stpN j c < 4294967296
  | 0 => h
  | j + 1 => stp_lt (stpN_lt h j)
theorem addB_lt {c b : Nat} (h : c < 4294967296) (hb : b < 4294967296) : addB c b < 4294967296 := stpN_lt (xor_lt h hb) 8
theorem addL_lt (l : List UInt8) : ∀ {c : Nat}, c < 4294967296 → addL c l < 4294967296 := by
  induction l with
  | nil => intro c h; exact h
  | cons b l ih => intro c h; exact ih (addB_lt h (by have := b.toNat_lt; omega))
theorem invOf_lt {m c : Nat} (hm : m < 4294967296) (h : c < 4294967296) : invOf m c < 4294967296 := xor_lt hm h
theorem inv_lt {c : Nat} (h : c < 4294967296) : inv c < 4294967296 := invOf_lt (by omega) h
theorem crc_lt {x : Nat} (h : x < 4294967296) (l : List UInt8) : crc x l < 4294967296 := inv_lt (addL_lt l (inv_lt h))
theorem addL_snoc (c : Nat) (l : List UInt8) (b : UInt8) : addL c (l ++ [b]) = addB (addL c l) b.toNat := by simp [addL]
theorem xor_xor_self (m c : Nat) : m ^^^ (m ^^^ c) = c := by rw [← Nat.xor_assoc, Nat.xor_self, Nat.zero_xor]
theorem invOf_invOf (m c : Nat) : invOf m (invOf m c) = c := xor_xor_self m c
theorem inv_inv (c : Nat) : inv (inv c) = c := invOf_invOf 4294967295 c
theorem addL_append (c : Nat) (a b : List UInt8) : addL c (a ++ b) = addL (addL c a) b := by simp [addL]
theorem crc_append (x : Nat) (a b : List UInt8) : crc x (a ++ b) = crc (crc x a) b := by
  simp [crc, inv_inv, addL_append]
theorem inv_inj {a b : Nat} (h : inv a = inv b) : a = b := by rw [← inv_inv a, h, inv_inv]
theorem stp_inj {a b : Nat} (ha : a < 4294967296) (hb : b < 4294967296) (h : stp a = stp b) : a = b := by
  have top : ∀ {x : Nat}, x < 4294967296 → (x / 2).testBit 31 = false := fun {x} hx => Nat.testBit_lt_two_pow (by omega)
  have tp : (2197175160 : Nat).testBit 31 = true := by decide +kernel
  have key : ∀ {x y : Nat}, x < 4294967296 → y < 4294967296 → x % 2 = 1 → ¬ y % 2 = 1 → stp x = stp y → False := by
    intro x y hx hy h1 h2 he
    unfold stp at he
    rw [if_pos h1, if_neg h2] at he
    have := congrArg (·.testBit 31) he
    simp [Nat.testBit_xor, top hx, top hy, tp] at this
  by_cases h1 : a % 2 = 1 <;> by_cases h2 : b % 2 = 1
  · unfold stp at h
    rw [if_pos h1, if_pos h2] at h
    have : a / 2 = b / 2 := by
      have := congrArg (· ^^^ 2197175160) h
      simpa [Nat.xor_assoc] using this
    omega
  · exact (key ha hb h1 h2 h).elim
  · exact (key hb ha h2 h1 h.symm).elim
  · unfold stp at h
    rw [if_neg h1, if_neg h2] at h
    omega
theorem stpN_inj {a b : Nat} (ha : a < 4294967296) (hb : b < 4294967296) : ∀ j, stpN j a = stpN j b → a = b
  | 0, h => h
  | j + 1, h => stpN_inj ha hb j (stp_inj (stpN_lt ha j) (stpN_lt hb j) h)
theorem xor_right_inj {a b c : Nat} (h : a ^^^ c = b ^^^ c) : a = b := by
  have := congrArg (· ^^^ c) h
  simpa [Nat.xor_assoc] using this
theorem addB_inj {a b c : Nat} (ha : a < 4294967296) (hb : b < 4294967296) (hc : c < 4294967296) (h : addB a c = addB b c) : a = b :=
  xor_right_inj (stpN_inj (xor_lt ha hc) (xor_lt hb hc) 8 h)
theorem addB_inj2 {a c d : Nat} (ha : a < 4294967296) (hc : c < 4294967296) (hd : d < 4294967296) (h : addB a c = addB a d) : c = d := by
  have := stpN_inj (xor_lt ha hc) (xor_lt ha hd) 8 h
  rw [Nat.xor_comm a c, Nat.xor_comm a d] at this
  exact xor_right_inj this
theorem addL_inj (l : List UInt8) : ∀ {a b : Nat}, a < 4294967296 → b < 4294967296 → addL a l = addL b l → a = b := by
  induction l with
  | nil => intro a b _ _ h; exact h
  | cons c l ih =>
    intro a b ha hb h
    have hc : c.toNat < 4294967296 := by have := c.toNat_lt; omega
    exact addB_inj ha hb hc (ih (addB_lt ha hc) (addB_lt hb hc) h)
theorem crc_other {x : Nat} (hx : x < 4294967296) (a r : List UInt8) (b c : UInt8) (h : crc x (a ++ c :: r) = crc x (a ++ b :: r)) : b = c := by
  have h1 := inv_inj h
  rw [addL_append, addL_append] at h1
  have hA := addL_lt a (inv_lt hx)
  have hb : b.toNat < 4294967296 := by have := b.toNat_lt; omega
  have hc : c.toNat < 4294967296 := by have := c.toNat_lt; omega
  have h2 : addB (addL (inv x) a) c.toNat = addB (addL (inv x) a) b.toNat := addL_inj r (addB_lt hA hc) (addB_lt hA hb) h1
  exact UInt8.toNat.inj (addB_inj2 hA hb hc h2.symm)
-- in the walk's words
theorem bxor_u32 (a b : Nat) (ha : a < 4294967296) (hb : b < 4294967296) : bits .xor .u32 (a : Int) (b : Int) = ((a ^^^ b : Nat) : Int) := u32_xor_nat a b ha hb
theorem band_u32_1 (a : Nat) (ha : a < 4294967296) : bits .and .u32 (a : Int) 1 = ((a % 2 : Nat) : Int) := by
  have := u32_and_nat a 1 ha (by omega)
  rw [nat_mask1] at this
  exact this
end Go.Proofs.Ytogpjoenfcleoaa

