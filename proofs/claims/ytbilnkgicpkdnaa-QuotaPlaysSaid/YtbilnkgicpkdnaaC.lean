/-
  The contract of the law's of: how many somebody has, of deeds that were done.
-/
import Derived.Test.YtbilnkgicpkdnaaB
import Derived.Test.YtbilnkgicpkdnaaOwn
set_option linter.unusedVariables false
set_option linter.unusedSimpArgs false
namespace Go.Proofs.Ytbilnkgicpkdnaa
open Go.RowKit
abbrev Deed := Bool × ByteArray × Int
def encD (d : Deed) : List Value := [.bool d.1, .string d.2.1, .int .i64 d.2.2]
def part (d : Deed) (s : ByteArray) : Int := if d.2.1 = s then (if d.1 then -d.2.2 else d.2.2) else 0
def ofL (l : List Deed) (s : ByteArray) : Int := (l.map fun d => part d s).sum
theorem ofL_snoc (l : List Deed) (d : Deed) (s : ByteArray) : ofL (l ++ [d]) s = ofL l s + part d s := by simp [ofL]
theorem ofL_bound (l : List Deed) (s : ByteArray) (h : ∀ d ∈ l, 1 ≤ d.2.2 ∧ d.2.2 ≤ 9007199254740992) : -(l.length * 9007199254740992 : Int) ≤ ofL l s ∧ ofL l s ≤ l.length * 9007199254740992 := by
  induction l with
  | nil => simp [ofL]
  | cons d l ih =>
    have h1 := ih (fun x hx => h x (by simp [hx]))
    have h2 := h d (by simp)
    have h3 : ofL (d :: l) s = part d s + ofL l s := by simp [ofL]
    have h4 : -9007199254740992 ≤ part d s ∧ part d s ≤ 9007199254740992 := by
      unfold part
      split
      · split <;> omega
      · omega
    rw [h3, List.length_cons]
    omega
theorem str_beq (a b : ByteArray) : (a.toList == b.toList) = decide (a = b) := by
  by_cases h : a = b
  · subst h; simp
  · rw [decide_eq_false h]
    simp only [beq_eq_false_iff_ne, ne_eq]
    intro e
    apply h
    rw [Lib.toList_data, Lib.toList_data] at e
    exact ByteArray.ext (Array.toList_inj.1 e)
set_option maxHeartbeats 4000000 in
theorem law_of (xs : List Deed) (s : ByteArray) (a : Option Addr) (cap : Nat) (w : World) (hs : Sl encD 3 w a xs) (hl : xs.length ≤ 50) (hx : ∀ d ∈ xs, 1 ≤ d.2.2 ∧ d.2.2 ≤ 9007199254740992) :
    Calls Try.prog 7 #[.slice a xs.length cap, .string s] w fun e w' => e = .returned (.int .i64 (ofL xs s)) ∧ w' = w := by
  have HS := Lib.hid hs; have HX := Lib.hid hx
  clear hs hx
  go_enter Try.func7, Try.ntmps7
  go_wp2
  go_loopw [5, 6] (fun n i wr => ∃ k : Nat, k ≤ xs.length ∧ i = .int .i64 k ∧ n = .int .i64 (ofL (xs.take k) s) ∧ wr = w) (fun _ i _ => xs.length - (intOf i).toNat)
  case atStart => exact ⟨0, by omega, rfl, rfl, rfl⟩
  case round =>
    obtain ⟨k, hk, rfl, rfl, rfl⟩ := hrel
    by_cases hlt : k < xs.length
    · obtain ⟨b2, o2, rfl, _, hc2⟩ := HS.out k hlt
      have hd := HX.out xs[k] (List.getElem_mem hlt)
      have hb := ofL_bound (xs.take k) s (fun d hd => HX.out d (List.mem_of_mem_take hd))
      rw [List.length_take] at hb
      have HT : Hid (ofL (xs.take (k + 1)) s = ofL (xs.take k) s + part xs[k] s) := Lib.hid (by rw [List.take_succ_eq_append_getElem hlt, ofL_snoc])
      have gi : (k : Int) < (xs.length : Int) := by omega
      have c0 : wr.cell? ⟨b2, o2 + k * 3, none⟩ = some (.bool xs[k].1) := hc2 0 _ rfl
      have c1 : wr.cell? ⟨b2, o2 + k * 3 + 1, none⟩ = some (.string xs[k].2.1) := hc2 1 _ rfl
      have c2 : wr.cell? ⟨b2, o2 + k * 3 + 2, none⟩ = some (.int .i64 xs[k].2.2) := hc2 2 _ rfl
      clear hc2
      generalize hF : ofL (xs.take k) s = F at hb HT ⊢
      have HF := Lib.hid hF; clear hF
      generalize xs[k] = d at *
      obtain ⟨gv, who, n⟩ := d
      dsimp only at c0 c1 c2 hd
      by_cases hw : who = s
      · have b1 : (who.toList == s.toList) = true := by rw [str_beq, decide_eq_true hw]
        have HP : Hid (part (gv, who, n) s = if gv then -n else n) := Lib.hid (by simp [part, hw])
        have w1 : wrap64 (F - n) = F - n := wrap64_id (by omega) (by omega)
        have w2 : wrap64 (F + n) = F + n := wrap64_id (by omega) (by omega)
        clear hw
        cases gv with
        | true =>
          go_wp2
          go_roundw
          case rel => exact ⟨k + 1, by omega, by go_num, by rw [HT.out, HP.out]; simp [Int.sub_eq_add_neg], trivial⟩
          case measure => simp [intOf]; omega
        | false =>
          go_wp2
          go_roundw
          case rel => exact ⟨k + 1, by omega, by go_num, by rw [HT.out, HP.out]; simp, trivial⟩
          case measure => simp [intOf]; omega
      · have b1 : (who.toList == s.toList) = false := by rw [str_beq, decide_eq_false hw]
        have HP : Hid (part (gv, who, n) s = 0) := Lib.hid (by simp [part, hw])
        clear hw
        go_wp2
        go_roundw
        case rel => exact ⟨k + 1, by omega, by go_num, by rw [HT.out, HP.out]; simp, trivial⟩
        case measure => simp [intOf]; omega
    · obtain rfl : k = xs.length := by omega
      rw [List.take_length]
      go_wp2
      go_ret
      exact ⟨rfl, rfl⟩
end Go.Proofs.Ytbilnkgicpkdnaa

