/-
  The contract of hexa's Read.
-/
import Derived.Test.YtlhniaecgiockaaHxC
set_option linter.unusedVariables false
set_option linter.unusedSimpArgs false
namespace Go.Proofs.Ytlhniaecgiockaa
open Go.RowKit
theorem or_half (X Y : Nat) (hX : X < 16) (hY : Y < 16) : bits .or .u8 ((X : Int) * 16) (Y : Int) = ((16 * X + Y : Nat) : Int) := by
  have h1 := u8_or_nat (X * 16) Y (by omega) (by omega)
  rw [nat_join 4 (X * 16) Y (by omega) (by omega)] at h1
  rw [show ((X : Int) * 16) = ((X * 16 : Nat) : Int) by omega, h1]
  omega
def strLen : Value → Nat
  | .string x => x.size
  | _ => 0
def mapO (o : List Nat) (r : Option (List Nat)) : Option (List Nat) := r.map (o ++ ·)
theorem mapO_snoc (o : List Nat) (b : Nat) (r : Option (List Nat)) : mapO o (r.map (fun t => b :: t)) = mapO (o ++ [b]) r := by
  cases r with
  | none => rfl
  | some t => simp [mapO]
end Go.Proofs.Ytlhniaecgiockaa

