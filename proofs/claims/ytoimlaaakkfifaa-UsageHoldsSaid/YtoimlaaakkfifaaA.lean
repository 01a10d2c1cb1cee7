/-
  Plain words on backups: how long each chunk is, which were seen ahead of it, what all have together, and each once.
-/
import Derived.Test.YtoimlaaakkfifaaHmap
set_option linter.unusedVariables false
set_option linter.unusedSimpArgs false
namespace Go.Proofs.Ytoimlaaakkfifaa
/-- A backup: its name, its size, how long a chunk is, and the chunks' ids. -/
structure Ent where
  name : ByteArray
  size : Int
  chunk : Int
  ids : List ByteArray
def noEnt : Ent := ⟨⟨#[]⟩, 0, 0, []⟩
def Ent.ok (e : Ent) : Prop := e.ids.length ≤ 20 ∧ e.chunk ≤ 1073741824 ∧ e.size ≤ 1073741824 ∧ -1073741824 ≤ e.size
def Ent.c (e : Ent) : Int := mx e.chunk 0
/-- What is left of a backup's bytes behind so many chunks. -/
def leftK (e : Ent) : Nat → Int
  | 0 => e.size
  | k + 1 => if 0 < leftK e k then leftK e k - e.c else leftK e k
/-- How long a chunk is. -/
def lng (e : Ent) (i : Nat) : Int := if i + 1 < e.ids.length then e.c else mx 0 (mn (leftK e i) e.c)
theorem c_bound {e : Ent} (h : e.ok) : 0 ≤ e.c ∧ e.c ≤ 1073741824 := by
  unfold Ent.c; rw [mx_eq]; have := h.2.1; omega
theorem left_bound {e : Ent} (h : e.ok) : ∀ k, -1073741824 ≤ leftK e k ∧ leftK e k ≤ 1073741824
  | 0 => ⟨h.2.2.2, h.2.2.1⟩
  | k + 1 => by
    have := left_bound h k
    have := c_bound h
    rw [leftK]
    split <;> omega
theorem lng_bound {e : Ent} (h : e.ok) (i : Nat) : 0 ≤ lng e i ∧ lng e i ≤ 1073741824 := by
  have := left_bound h i
  have := c_bound h
  unfold lng
  rw [mx_eq, mn_eq]
  split <;> omega
theorem left_stop (e : Ent) {k : Nat} (h : leftK e k ≤ 0) : ∀ j, leftK e (k + j) = leftK e k
  | 0 => rfl
  | j + 1 => by
    have ih := left_stop e h j
    rw [← Nat.add_assoc, leftK, ih, if_neg (by omega)]
def hasT (l : List ByteArray) (s : ByteArray) : Bool := l.any fun t => decide (t = s)
theorem hasT_snoc (l : List ByteArray) (t s : ByteArray) : hasT (l ++ [t]) s = (hasT l s || decide (t = s)) := by simp [hasT]
theorem hasT_take (l : List ByteArray) (k : Nat) (h : k < l.length) (s : ByteArray) : hasT (l.take (k + 1)) s = (hasT (l.take k) s || decide (l[k] = s)) := by
  rw [List.take_succ_eq_append_getElem h, hasT_snoc]
def nth (l : List Ent) (i : Nat) : Ent := l.getD i noEnt
theorem nth_get {l : List Ent} {i : Nat} (h : i < l.length) : nth l i = l[i] := by simp [nth, List.getD, h]
theorem nth_ok {l : List Ent} (hl : ∀ e ∈ l, e.ok) (i : Nat) : (nth l i).ok := by
  by_cases h : i < l.length
  · rw [nth_get h]; exact hl _ (List.getElem_mem h)
  · have : nth l i = noEnt := by simp [nth, List.getD, List.getElem?_eq_none (by omega : l.length ≤ i)]
    rw [this]; unfold Ent.ok noEnt; simp
/-- Was a text among the ids of the first backups, or among the first ids of the next one? -/
def earl (l : List Ent) (i : Nat) (s : ByteArray) : Bool := (l.take i).any fun e => hasT e.ids s
theorem earl_succ (l : List Ent) (i : Nat) (h : i < l.length) (s : ByteArray) : earl l (i + 1) s = (earl l i s || hasT (nth l i).ids s) := by
  unfold earl
  rw [List.take_succ_eq_append_getElem h, List.any_append, nth_get h]
  simp
def seenAt (l : List Ent) (i k : Nat) (s : ByteArray) : Bool := hasT ((nth l i).ids.take k) s || earl l i s
theorem seen_zero (l : List Ent) (i : Nat) (s : ByteArray) : seenAt l i 0 s = earl l i s := by simp [seenAt, hasT]
theorem seen_end (l : List Ent) (i : Nat) (h : i < l.length) (s : ByteArray) : seenAt l i (nth l i).ids.length s = earl l (i + 1) s := by
  unfold seenAt
  rw [List.take_length, earl_succ l i h, Bool.or_comm]
theorem seen_succ (l : List Ent) (i k : Nat) (h : k < (nth l i).ids.length) (s : ByteArray) : seenAt l i (k + 1) s = (seenAt l i k s || decide ((nth l i).ids[k] = s)) := by
  unfold seenAt
  rw [hasT_take _ _ h]
  cases hasT (List.take k (nth l i).ids) s <;> cases decide ((nth l i).ids[k] = s) <;> simp
def idAt (e : Ent) (k : Nat) : ByteArray := e.ids.getD k ⟨#[]⟩
theorem idAt_get {e : Ent} {k : Nat} (h : k < e.ids.length) : idAt e k = e.ids[k] := by simp [idAt, List.getD, h]
def allE (e : Ent) : Nat → Int
  | 0 => 0
  | k + 1 => allE e k + lng e k
def onceE (l : List Ent) (i : Nat) : Nat → Int
  | 0 => 0
  | k + 1 => if seenAt l i k (idAt (nth l i) k) then onceE l i k else onceE l i k + lng (nth l i) k
def allI (l : List Ent) : Nat → Int
  | 0 => 0
  | i + 1 => allI l i + allE (nth l i) (nth l i).ids.length
def onceI (l : List Ent) : Nat → Int
  | 0 => 0
  | i + 1 => onceI l i + onceE l i (nth l i).ids.length
theorem allE_bound {e : Ent} (h : e.ok) : ∀ k, 0 ≤ allE e k ∧ allE e k ≤ k * 1073741824
  | 0 => by simp [allE]
  | k + 1 => by
    have := allE_bound h k
    have := lng_bound h k
    rw [allE]; omega
theorem onceE_bound {l : List Ent} (hl : ∀ e ∈ l, e.ok) (i : Nat) : ∀ k, 0 ≤ onceE l i k ∧ onceE l i k ≤ allE (nth l i) k
  | 0 => by simp [onceE, allE]
  | k + 1 => by
    have := onceE_bound hl i k
    have := lng_bound (nth_ok hl i) k
    rw [onceE, allE]
    split <;> omega
theorem allI_bound {l : List Ent} (hl : ∀ e ∈ l, e.ok) : ∀ i, 0 ≤ allI l i ∧ allI l i ≤ i * 21474836480
  | 0 => by simp [allI]
  | i + 1 => by
    have := allI_bound hl i
    have := allE_bound (nth_ok hl i) (nth l i).ids.length
    have := (nth_ok hl i).1
    rw [allI]; omega
theorem onceI_bound {l : List Ent} (hl : ∀ e ∈ l, e.ok) : ∀ i, 0 ≤ onceI l i ∧ onceI l i ≤ allI l i
  | 0 => by simp [onceI, allI]
  | i + 1 => by
    have := onceI_bound hl i
    have := onceE_bound hl i (nth l i).ids.length
    rw [onceI, allI]; omega
/-- Was a text among the ids of the first backups that have another name, or among the next one's first ids? -/
def earlO (l : List Ent) (nm : ByteArray) (i : Nat) (s : ByteArray) : Bool := (l.take i).any fun e => !decide (e.name = nm) && hasT e.ids s
theorem earlO_succ (l : List Ent) (nm : ByteArray) (i : Nat) (h : i < l.length) (s : ByteArray) : earlO l nm (i + 1) s = (earlO l nm i s || (!decide ((nth l i).name = nm) && hasT (nth l i).ids s)) := by
  unfold earlO
  rw [List.take_succ_eq_append_getElem h, List.any_append, nth_get h]
  simp
/-- The place of the first backup of a name, among the first ones. -/
def plc (l : List Ent) (nm : ByteArray) : Nat → Option Nat
  | 0 => none
  | i + 1 => match plc l nm i with
    | some j => some j
    | none => if (nth l i).name = nm then some i else none
theorem plc_no (l : List Ent) (nm : ByteArray) : ∀ i, plc l nm i = none → ∀ q, q < i → (nth l q).name ≠ nm
  | 0, _, q, h => by omega
  | i + 1, hp, q, h => by
    rw [plc] at hp
    cases hp2 : plc l nm i with
    | some j => rw [hp2] at hp; cases hp
    | none =>
      rw [hp2] at hp
      simp only at hp
      split at hp
      · cases hp
      · next e =>
        by_cases hq : q = i
        · subst hq; exact e
        · exact plc_no l nm i hp2 q (by omega)
theorem plc_lt (l : List Ent) (nm : ByteArray) : ∀ i j, plc l nm i = some j → j < i ∧ (nth l j).name = nm ∧ ∀ q, q < j → (nth l q).name ≠ nm
  | 0, j, h => by simp [plc] at h
  | i + 1, j, h => by
    rw [plc] at h
    cases hp : plc l nm i with
    | some j' =>
      rw [hp] at h
      simp only [Option.some.injEq] at h
      subst h
      have := plc_lt l nm i j' hp
      exact ⟨by omega, this.2⟩
    | none =>
      rw [hp] at h
      simp only at h
      split at h
      · next e =>
        simp only [Option.some.injEq] at h
        subst h
        exact ⟨by omega, e, plc_no l nm i hp⟩
      · cases h
/-- How much a backup has for itself, of its first chunks. -/
def ownE (l : List Ent) (nm : ByteArray) (j : Nat) : Nat → Int
  | 0 => 0
  | k + 1 => if hasT ((nth l j).ids.take k) (idAt (nth l j) k) || earlO l nm l.length (idAt (nth l j) k) then ownE l nm j k else ownE l nm j k + lng (nth l j) k
theorem ownE_bound {l : List Ent} (hl : ∀ e ∈ l, e.ok) (nm : ByteArray) (j : Nat) : ∀ k, 0 ≤ ownE l nm j k ∧ ownE l nm j k ≤ k * 1073741824
  | 0 => by simp [ownE]
  | k + 1 => by
    have := ownE_bound hl nm j k
    have := lng_bound (nth_ok hl j) k
    rw [ownE]
    split <;> omega
def ownV (l : List Ent) (nm : ByteArray) : Int := match plc l nm l.length with
  | some j => ownE l nm j (nth l j).ids.length
  | none => 0
def ownErr (l : List Ent) (nm : ByteArray) : Int := match plc l nm l.length with
  | some _ => 0
  | none => 7
end Go.Proofs.Ytoimlaaakkfifaa

