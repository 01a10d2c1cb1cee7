/-
  The contracts of the law's places and free.
-/
import Derived.Test.YtddonekagmnokaaG
import Derived.Laws.MakeOwn
set_option linter.unusedVariables false
set_option linter.unusedSimpArgs false
namespace Go.Proofs.Ytddonekagmnokaa
open Go.RowKit
def PlE (n : Int) (E : List (Int × Int)) (e : Ending) : Prop := (okN n E → e = .returned (.bool true)) ∧ (¬ okN n E → e = .returned (.bool false))
set_option maxHeartbeats 8000000 in
theorem places_any (n : Int) (E : List (Int × Int)) (a : Option Addr) (cap : Nat) (w : World) (hl : E.length ≤ 4096) (hs : Sl pairC 2 w a E) :
    Calls Try.prog 7 #[.int .i64 n, .slice a E.length cap] w fun e w' => PlE n E e ∧ w' = w := by
  have HP := Lib.hid (fun (k : Nat) (hk : k < E.length) => pair_at hs hk)
  clear hs
  obtain ⟨L, hL⟩ : ∃ L, L = E.length := ⟨_, rfl⟩
  have HL := Lib.hid hL
  rw [← hL] at hl ⊢
  clear hL
  go_enter Try.func7, Try.ntmps7
  go_wp2
  go_loopw [5] (fun i wr => ∃ k : Nat, i = .int .i64 k ∧ k ≤ L ∧ (∀ p ∈ E.take k, inN n p) ∧ wr = w) (fun i _ => L - (intOf i).toNat)
  case atStart => exact ⟨0, rfl, by omega, by simp, rfl⟩
  case round =>
    obtain ⟨k, rfl, hk, hp, rfl⟩ := hrel
    have HP0 := Lib.hid hp
    clear hp
    by_cases hlt : k < L
    · have hkE : k < E.length := by rw [← HL.out]; exact hlt
      obtain ⟨b, o, rfl, hbl, hcc⟩ := HP.out k hkE
      have c0 := (hcc wr (Below.refl _ _)).1; have c1 := (hcc wr (Below.refl _ _)).2
      have gi : (k : Int) < (L : Int) := by omega
      have HT : Hid (inN n E[k] → ∀ p ∈ E.take (k + 1), inN n p) := Lib.hid (fun h => ok_take hkE HP0.out h)
      have HM : Hid (E[k] ∈ E) := Lib.hid (List.getElem_mem hkE)
      clear hcc
      generalize E[k] = q at *
      obtain ⟨x, y⟩ := q
      dsimp only at c0 c1
      by_cases q1 : x < 0
      · go_wp2
        go_ret
        exact ⟨⟨fun h => absurd (h _ HM.out).1.1 (by show ¬ 0 ≤ x; omega), fun _ => rfl⟩, rfl⟩
      by_cases q2 : n ≤ x
      · go_wp2
        go_ret
        exact ⟨⟨fun h => absurd (h _ HM.out).1.2 (by show ¬ x < n; omega), fun _ => rfl⟩, rfl⟩
      by_cases q3 : y < 0
      · go_wp2
        go_ret
        exact ⟨⟨fun h => absurd (h _ HM.out).2.1 (by show ¬ 0 ≤ y; omega), fun _ => rfl⟩, rfl⟩
      by_cases q4 : n ≤ y
      · go_wp2
        go_ret
        exact ⟨⟨fun h => absurd (h _ HM.out).2.2 (by show ¬ y < n; omega), fun _ => rfl⟩, rfl⟩
      have HQ := Lib.hid (HT.out ⟨⟨by omega, by omega⟩, by omega, by omega⟩)
      go_wp2
      go_roundw
      case rel => exact ⟨k + 1, by go_num, by omega, HQ.out, by first | trivial | rfl⟩
      case measure => simp [intOf]; omega
    · obtain rfl : L = k := by omega
      have HE : Hid (okN n E) := Lib.hid (fun p hp => HP0.out p (by rw [List.take_of_length_le (by rw [← HL.out]; exact Nat.le_refl _)]; exact hp))
      have hkk : ¬ (L : Int) < (L : Int) := by omega
      go_wp2
      go_ret
      exact ⟨⟨fun _ => rfl, fun h => absurd HE.out h⟩, rfl⟩
/-- Which have come, as the law has it. -/
def boolR (n : Nat) (d : List Nat) : List Value := (List.range n).map fun i : Nat => .bool (inD d (i : Int))
theorem boolR_len (n : Nat) (d : List Nat) : (boolR n d).length = n := by simp [boolR]
theorem boolR_get (n : Nat) (d : List Nat) (i : Nat) (h : i < n) : (boolR n d)[i]? = some (.bool (inD d (i : Int))) := by
  unfold boolR
  rw [List.getElem?_map, List.getElem?_range h]; rfl
theorem boolR_set (n : Nat) (d : List Nat) (i : Nat) (h : i < n) : (boolR n d).set i (.bool true) = boolR n (d ++ [i]) := by
  apply List.ext_getElem?
  intro j
  by_cases e : j = i
  · subst e
    rw [List.getElem?_set_self (by rw [boolR_len]; exact h), boolR_get _ _ _ h, (inD_snoc d j j).2 (Or.inr rfl)]
  · rw [List.getElem?_set_ne (fun h => e h.symm)]
    by_cases hj : j < n
    · rw [boolR_get _ _ _ hj, boolR_get _ _ _ hj]
      congr 2
      have := inD_snoc d i (j : Int)
      cases h1 : inD d (j : Int) with
      | true => rw [this.2 (Or.inl h1)]
      | false =>
        symm
        rw [Bool.eq_false_iff]
        intro h2
        rcases this.1 h2 with h3 | h3
        · rw [h1] at h3; cases h3
        · omega
    · rw [List.getElem?_eq_none (by rw [boolR_len]; omega), List.getElem?_eq_none (by rw [boolR_len]; omega)]
def okK (E : List (Int × Int)) (d : List Nat) (i : Nat) (k : Nat) : Bool := !inD d i && (E.take k).all fun p => !decide (p.1 = (i : Int)) || inD d p.2
theorem okK_zero (E : List (Int × Int)) (d : List Nat) (i : Nat) : okK E d i 0 = !inD d i := by simp [okK]
theorem okK_next (E : List (Int × Int)) (d : List Nat) (i k : Nat) (h : k < E.length) : okK E d i (k + 1) = (okK E d i k && (!decide (E[k].1 = (i : Int)) || inD d E[k].2)) := by
  unfold okK
  rw [List.take_succ_eq_append_getElem h, List.all_append]
  simp [Bool.and_assoc]
theorem okK_all (E : List (Int × Int)) (d : List Nat) (i k : Nat) (h : k = E.length) : okK E d i k = isFree E d i := by
  unfold okK isFree
  rw [h, List.take_length]
def freeR (E : List (Int × Int)) (n : Nat) (d : List Nat) : Int := match (List.range n).find? (isFree E d) with
  | some i => (i : Int)
  | none => -1
theorem freeR_some {E : List (Int × Int)} {n : Nat} {d : List Nat} {i : Nat} (hi : i < n) (hp : isFree E d i = true) (hn : ∀ j < i, isFree E d j = false) : freeR E n d = (i : Int) := by
  unfold freeR; rw [find_first hi hp hn]
theorem freeR_none {E : List (Int × Int)} {n : Nat} {d : List Nat} (hn : ∀ j < n, isFree E d j = false) : freeR E n d = -1 := by
  have hf : (List.range n).find? (isFree E d) = none := by
    rw [List.find?_eq_none]
    intro x hx
    rw [hn x (List.mem_range.1 hx)]; simp
  unfold freeR; rw [hf]
theorem freeR_inv (E : List (Int × Int)) (n : Nat) (d : List Nat) : (∃ i < n, freeR E n d = (i : Int) ∧ isFree E d i = true ∧ ∀ j < i, isFree E d j = false) ∨ (freeR E n d = -1 ∧ ∀ j < n, isFree E d j = false) := by
  by_cases h : ∀ j < n, isFree E d j = false
  · exact Or.inr ⟨freeR_none h, h⟩
  · left
    have : ∃ i < n, isFree E d i = true ∧ ∀ j < i, isFree E d j = false := by
      have h1 : ∃ i, i < n ∧ isFree E d i = true := by
        apply Classical.byContradiction
        intro hc
        apply h
        intro j hj
        cases e : isFree E d j with
        | false => rfl
        | true => exact absurd ⟨j, hj, e⟩ hc
      obtain ⟨i, hi, hp⟩ := h1
      clear h
      induction i using Nat.strongRecOn with
      | _ i ih =>
        by_cases hh : ∃ j < i, isFree E d j = true
        · obtain ⟨j, hj, e⟩ := hh
          exact ih j hj (by omega) e
        · refine ⟨i, hi, hp, fun j hj => ?_⟩
          cases e : isFree E d j with
          | false => rfl
          | true => exact absurd ⟨j, hj, e⟩ hh
    obtain ⟨i, hi, hp, hn⟩ := this
    exact ⟨i, hi, freeR_some hi hp hn, hp, hn⟩
set_option maxHeartbeats 8000000 in
theorem free_any (n : Nat) (d : List Nat) (p dc : Nat) (E : List (Int × Int)) (a : Option Addr) (cap : Nat) (w : World) (hn : n ≤ 256) (hl : E.length ≤ 4096) (hd : Bk p (boolR n d) w) (hs : Sl pairC 2 w a E) (hok : okN n E) :
    Calls Try.prog 8 #[.slice (some ⟨p, 0, none⟩) n dc, .slice a E.length cap] w fun e w' => e = .returned (.int .i64 (freeR E n d)) ∧ w' = w := by
  have HP := Lib.hid (fun (k : Nat) (hk : k < E.length) => pair_at hs hk)
  have HD : Hid (∀ i : Nat, i < n → w.cell? ⟨p, i, none⟩ = some (.bool (inD d (i : Int)))) := Lib.hid (fun i hi => (hd.2 i _ (boolR_get n d i hi)).1)
  have HOK := Lib.hid hok
  clear hs hd hok
  obtain ⟨L, hL⟩ : ∃ L, L = E.length := ⟨_, rfl⟩
  have HL := Lib.hid hL
  rw [← hL] at hl ⊢
  clear hL
  go_enter Try.func8, Try.ntmps8
  go_wp2
  go_loopw [5] (fun i wr => ∃ k : Nat, i = .int .i64 k ∧ k ≤ n ∧ (∀ j < k, isFree E d j = false) ∧ wr = w) (fun i _ => n - (intOf i).toNat)
  case atStart => exact ⟨0, rfl, by omega, by omega, rfl⟩
  case round =>
    obtain ⟨i, rfl, hi, hfr, rfl⟩ := hrel
    have HFR := Lib.hid hfr
    clear hfr
    by_cases hlt : i < n
    · have gi : (i : Int) < (n : Int) := by omega
      have c := HD.out i hlt
      go_wp2
      go_loopw [6, 7] (fun ok k wr2 => ∃ j : Nat, k = .int .i64 j ∧ j ≤ L ∧ ok = .bool (okK E d i j) ∧ wr2 = wr) (fun _ k _ => L - (intOf k).toNat)
      case atStart => exact ⟨0, rfl, by omega, by rw [okK_zero], rfl⟩
      case round =>
        obtain ⟨j, rfl, hj, rfl, rfl⟩ := hrel
        by_cases hjl : j < L
        · have hjE : j < E.length := by rw [← HL.out]; exact hjl
          obtain ⟨b, o, rfl, hbl, hcc⟩ := HP.out j hjE
          have c0 := (hcc wr (Below.refl _ _)).1; have c1 := (hcc wr (Below.refl _ _)).2
          have gj : (j : Int) < (L : Int) := by omega
          have hin := HOK.out E[j] (List.getElem_mem hjE)
          have HNX := Lib.hid (okK_next E d i j hjE)
          clear hcc
          generalize E[j] = q at *
          obtain ⟨x, y⟩ := q
          unfold inN at hin
          dsimp only at c0 c1 hin
          obtain ⟨yy, rfl⟩ : ∃ yy : Nat, y = (yy : Int) := ⟨y.toNat, by omega⟩
          have cy := HD.out yy (by omega)
          have gy : (yy : Int) < (n : Int) := hin.2.2
          clear hin
          cases hk : okK E d i j with
          | false =>
            have HN2 : Hid (okK E d i (j + 1) = false) := Lib.hid (by rw [HNX.out, hk]; rfl)
            go_wp2
            go_roundw
            case rel => exact ⟨j + 1, by go_num, by omega, by rw [HN2.out], by first | trivial | rfl⟩
            case measure => simp [intOf]; omega
          | true =>
            by_cases hx : x = (i : Int)
            · have e1 : (x == (i : Int)) = true := by simp [hx]
              have HN2 : Hid (okK E d i (j + 1) = inD d (yy : Int)) := Lib.hid (by rw [HNX.out, hk]; simp [hx])
              generalize inD d (yy : Int) = Q at *
              go_wp2
              go_roundw
              case rel => exact ⟨j + 1, by go_num, by omega, by rw [HN2.out], by first | trivial | rfl⟩
              case measure => simp [intOf]; omega
            · have e1 : (x == (i : Int)) = false := by simp [hx]
              have HN2 : Hid (okK E d i (j + 1) = true) := Lib.hid (by rw [HNX.out, hk]; simp [hx])
              go_wp2
              go_roundw
              case rel => exact ⟨j + 1, by go_num, by omega, by rw [HN2.out], by first | trivial | rfl⟩
              case measure => simp [intOf]; omega
        · obtain rfl : L = j := by omega
          have hkk : ¬ (L : Int) < (L : Int) := by omega
          have HFA := Lib.hid (okK_all E d i L HL.out)
          rw [HFA.out]
          cases hf : isFree E d i with
          | true =>
            have HFS := Lib.hid (freeR_some hlt hf HFR.out)
            go_wp2
            go_ret
            exact ⟨by rw [HFS.out]; rfl, rfl⟩
          | false =>
            have HF2 : Hid (∀ j < i + 1, isFree E d j = false) := Lib.hid (fun j hj => by
              by_cases e : j < i
              · exact HFR.out j e
              · obtain rfl : j = i := by omega
                exact hf)
            go_wp2
            go_roundw
            case rel => exact ⟨i + 1, by go_num, by omega, HF2.out, by first | trivial | rfl⟩
            case measure => simp [intOf]; omega
    · obtain rfl : n = i := by omega
      have hkk : ¬ (n : Int) < (n : Int) := by omega
      have HFN := Lib.hid (freeR_none HFR.out)
      go_wp2
      go_ret
      exact ⟨by rw [HFN.out]; rfl, rfl⟩
end Go.Proofs.Ytddonekagmnokaa

