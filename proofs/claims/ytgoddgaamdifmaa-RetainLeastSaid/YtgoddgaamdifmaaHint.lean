/-
  Maps whose keys are whole numbers: elements that are marks, numbers, or maps; sets of numbers.
-/
import Derived.Test.YtgoddgaamdifmaaHmap
set_option linter.unusedVariables false
set_option linter.unusedSimpArgs false
namespace Go.Proofs.Ytgoddgaamdifmaa
open Go.RowKit Go.WideShapes Go.WideMaps Go.Maps
def goodI (x : Int) : Prop := (Lit.int .i64 x).wf = true
theorem goodI_of {x : Int} (h1 : -9223372036854775808 ≤ x) (h2 : x ≤ 9223372036854775807) : goodI x := by
  unfold goodI; simp [Lit.wf, IntKind.min, IntKind.max, IntKind.signed, IntKind.bits]; omega
theorem int_kinv {K : TypeId} (hk : Try.prog.underlying K = some (.int .i64)) (v : Value) (l : Lit) (h : keyOf Try.prog K v = some l) : ∃ x : Int, goodI x ∧ v = .int .i64 x ∧ l = .int .i64 x := by
  cases v <;> simp [keyOf, hk, mapKey] at h
  obtain ⟨h1, rfl⟩ := h
  obtain ⟨rfl, h2⟩ := h1
  exact ⟨_, h2, rfl, rfl⟩
theorem int_kinj (x y : Int) (h : Lit.int .i64 x = Lit.int .i64 y) : x = y := by simpa using h
def rdM : Value → Option (DataW Unit × List MemPlace)
  | .map none => some (.lit (.bool false), [])
  | .map (some b) => some (.lit (.int .i64 b), [])
  | _ => none
def repM : Option Nat → DataW Unit
  | none => .lit (.bool false)
  | some b => .lit (.int .i64 b)
theorem rdM_inv (v : Value) (y : DataW Unit × List MemPlace) (h : rdM v = some y) : ∃ a : Option Nat, v = .map a ∧ y = (repM a, []) := by
  unfold rdM at h
  split at h
  · exact ⟨none, rfl, by simpa [repM] using h.symm⟩
  · exact ⟨some _, rfl, by simpa [repM] using h.symm⟩
  · cases h
def kindIB (T K E : TypeId) (ht : Try.prog.underlying T = some (.map K E)) (hk : Try.prog.underlying K = some (.int .i64)) (hz : ∀ w, (zeroValue E).run Try.prog w = .ok (.bool false) w) : HKind Int Bool where
  T := T
  K := K
  E := E
  ht := ht
  keyed := int_keyed hk
  kv := Value.int .i64
  kl := fun s => .int .i64 s
  good := goodI
  key := fun x hx => keyOf_int_mk hk hx
  kinv := int_kinv hk
  kinj := int_kinj
  isk := fun _ => trivial
  enc := Value.bool
  rep := fun a => .lit (.bool a)
  rd := rdB
  z := false
  hz := hz
  rd_enc := fun _ => rfl
  rd_inv := rdB_inv
  rinj := fun x y h => by simpa using h
def kindII (T K E : TypeId) (ht : Try.prog.underlying T = some (.map K E)) (hk : Try.prog.underlying K = some (.int .i64)) (hz : ∀ w, (zeroValue E).run Try.prog w = .ok (.int .i64 0) w) : HKind Int Int where
  T := T
  K := K
  E := E
  ht := ht
  keyed := int_keyed hk
  kv := Value.int .i64
  kl := fun s => .int .i64 s
  good := goodI
  key := fun x hx => keyOf_int_mk hk hx
  kinv := int_kinv hk
  kinj := int_kinj
  isk := fun _ => trivial
  enc := Value.int .i64
  rep := fun a => .lit (.int .i64 a)
  rd := rdI
  z := 0
  hz := hz
  rd_enc := fun _ => rfl
  rd_inv := rdI_inv
  rinj := fun x y h => by simpa using h
def kindIM (T K E : TypeId) (ht : Try.prog.underlying T = some (.map K E)) (hk : Try.prog.underlying K = some (.int .i64)) (hz : ∀ w, (zeroValue E).run Try.prog w = .ok (.map none) w) : HKind Int (Option Nat) where
  T := T
  K := K
  E := E
  ht := ht
  keyed := int_keyed hk
  kv := Value.int .i64
  kl := fun s => .int .i64 s
  good := goodI
  key := fun x hx => keyOf_int_mk hk hx
  kinv := int_kinv hk
  kinj := int_kinj
  isk := fun _ => trivial
  enc := Value.map
  rep := repM
  rd := rdM
  z := none
  hz := hz
  rd_enc := fun x => by cases x <;> rfl
  rd_inv := rdM_inv
  rinj := fun x y h => by
    cases x <;> cases y <;> simp [repM] at h ⊢
    omega
end Go.Proofs.Ytgoddgaamdifmaa

