/-
  The contracts of the law's in and long.
-/
import Derived.Test.YtoimlaaakkfifaaB
set_option linter.unusedVariables false
set_option linter.unusedSimpArgs false
namespace Go.Proofs.Ytoimlaaakkfifaa
open Go.RowKit
theorem has_more {l : List ByteArray} {k : Nat} (h : l.length ≤ k) (s : ByteArray) : hasT (l.take k) s = hasT (l.take l.length) s := by
  rw [List.take_of_length_le h, List.take_length]
theorem has_yes {l : List ByteArray} {j k : Nat} (hj : j < l.length) (hk : j < k) : hasT (l.take k) l[j] = true := by
  unfold hasT
  rw [List.any_eq_true]
  refine ⟨l[j], ?_, by simp⟩
  rw [List.mem_take_iff_getElem]
  exact ⟨j, by omega, rfl⟩
set_option maxHeartbeats 8000000 in
theorem in_any (e : Ent) (s : ByteArray) (k : Nat) (a : Option Addr) (c : Nat) (w : World) (hs : Sl strC 1 w a e.ids) (hn20 : e.ids.length ≤ 20) (hk : k ≤ 1000) :
    Calls Try.prog 15 #[.agg #[.int .i64 e.size, .int .i64 e.chunk, .slice a e.ids.length c], .string s, .int .i64 k] w fun r w' => r = .returned (.bool (hasT (e.ids.take k) s)) ∧ Below w.heap.size w w' := by
  have HB0 := Lib.hid (below_new w (.cells #[.int .i64 e.size, .int .i64 e.chunk, .slice a e.ids.length c] 36))
  have HS := Lib.hid (hs.keep HB0.out)
  have HNX : Hid (∀ j (h : j < e.ids.length), hasT (e.ids.take (j + 1)) s = (hasT (e.ids.take j) s || decide (e.ids[j] = s))) := Lib.hid (fun j h => hasT_take _ _ h s)
  have HYS : Hid (∀ j (h : j < e.ids.length), j < k → e.ids[j] = s → hasT (e.ids.take k) s = true) := Lib.hid (fun j h hk he => by rw [← he]; exact has_yes h hk)
  have HMO : Hid (e.ids.length ≤ k → hasT (e.ids.take k) s = hasT (e.ids.take e.ids.length) s) := Lib.hid (fun h => has_more h s)
  clear hs
  obtain ⟨n, hn⟩ : ∃ n, n = e.ids.length := ⟨_, rfl⟩
  have HN := Lib.hid hn
  rw [← hn] at hn20 HB0 HS HMO ⊢
  clear hn
  go_enter Try.func15, Try.ntmps15
  go_wp2
  go_loop [7] (fun i => ∃ j : Nat, i = .int .i64 j ∧ j ≤ k ∧ j ≤ n ∧ hasT (e.ids.take j) s = false) (fun i => n - (intOf i).toNat)
  case atStart => exact ⟨0, rfl, by omega, by omega, rfl⟩
  case round =>
    obtain ⟨j, rfl, hjk, hjn, hno⟩ := hrel
    have HNO := Lib.hid hno
    clear hno
    by_cases h1 : j < k
    · have d1 : decide (j < k) = true := decide_eq_true h1
      by_cases h2 : j < n
      · have d2 : decide (j < n) = true := decide_eq_true h2
        have hjl : j < e.ids.length := by rw [← HN.out]; exact h2
        obtain ⟨b, o, rfl, hb, hc⟩ := sl_one HS.out j hjl
        have hblt : b < w.heap.size + 1 := by simpa using hb
        have HX := Lib.hid (HNX.out j hjl); have HY := Lib.hid (HYS.out j hjl h1)
        generalize e.ids[j] = t at *
        by_cases et : t = s
        · have e1 := str_eq et
          have HYT := Lib.hid (HY.out et)
          clear et
          go_wp2
          go_ret
          rw [HYT.out]
          exact ⟨rfl, HB0.out⟩
        · have e1 := str_ne et
          have HX2 : Hid (hasT (e.ids.take (j + 1)) s = false) := Lib.hid (by rw [HX.out, HNO.out, decide_eq_false et]; rfl)
          clear et
          go_wp2
          go_round
          case rel => exact ⟨j + 1, by go_num, by omega, by omega, HX2.out⟩
          case measure => simp [intOf]; omega
      · have d2 : decide (j < n) = false := decide_eq_false h2
        obtain rfl : j = n := by omega
        have HR : Hid (hasT (e.ids.take k) s = false) := Lib.hid (by rw [HMO.out (by omega)]; exact HNO.out)
        clear h2
        go_wp2
        go_ret
        rw [HR.out]
        exact ⟨rfl, HB0.out⟩
    · have d1 : decide (j < k) = false := decide_eq_false h1
      obtain rfl : j = k := by omega
      clear h1
      go_wp2
      go_ret
      rw [HNO.out]
      exact ⟨rfl, HB0.out⟩
set_option maxHeartbeats 8000000 in
theorem long_any (e : Ent) (i : Nat) (a : Option Addr) (c : Nat) (w : World) (hok : e.ok) (hi : i < e.ids.length) :
    Calls Try.prog 16 #[.agg #[.int .i64 e.size, .int .i64 e.chunk, .slice a e.ids.length c], .int .i64 i] w fun r w' => r = .returned (.int .i64 (lng e i)) ∧ Below w.heap.size w w' := by
  have hmax := max2_int; have hmax2 := max_two; have hmin := min2_int; have hmin2 := min_two
  have HB0 := Lib.hid (below_new w (.cells #[.int .i64 e.size, .int .i64 e.chunk, .slice a e.ids.length c] 36))
  have HL := Lib.hid (left_bound hok)
  have hcb := c_bound hok
  have hn20 := hok.1
  have HLN : Hid (lng e i = if i + 1 < e.ids.length then e.c else mx 0 (mn (leftK e i) e.c)) := Lib.hid rfl
  have HLK : Hid (∀ k, leftK e (k + 1) = if 0 < leftK e k then leftK e k - e.c else leftK e k) := Lib.hid (fun k => rfl)
  have HST : Hid (∀ k, k ≤ i → leftK e k ≤ 0 → leftK e i = leftK e k) := Lib.hid (fun k hk h => by
    have := left_stop e h (i - k)
    rw [show k + (i - k) = i by omega] at this
    exact this)
  have HCE : Hid (mx e.chunk 0 = e.c) := Lib.hid rfl
  clear hok
  obtain ⟨n, hn⟩ : ∃ n, n = e.ids.length := ⟨_, rfl⟩
  rw [← hn] at hn20 hi HLN HB0 ⊢
  clear hn
  have m1 : mx e.chunk 0 = e.c := HCE.out
  obtain ⟨C, hC⟩ : ∃ C, C = e.c := ⟨_, rfl⟩
  rw [← hC] at hcb HLN HLK m1
  clear hC HCE
  by_cases hlast : i + 1 < n
  · have d1 : decide ((i : Int) < (n : Int) - 1) = true := decide_eq_true (by omega)
    rw [if_pos hlast] at HLN
    clear hlast
    go_enter Try.func16, Try.ntmps16
    go_wp2
    go_ret
    rw [HLN.out]
    exact ⟨rfl, HB0.out⟩
  · have d1 : decide ((i : Int) < (n : Int) - 1) = false := decide_eq_false (by omega)
    rw [if_neg hlast] at HLN
    have HIL := Lib.hid hlast
    clear hlast
    go_enter Try.func16, Try.ntmps16
    go_wp2
    go_loop [6, 7] (fun l k => ∃ j : Nat, k = .int .i64 j ∧ j ≤ i ∧ l = .int .i64 (leftK e j)) (fun _ k => i - (intOf k).toNat)
    case atStart => exact ⟨0, rfl, by omega, rfl⟩
    case round =>
      obtain ⟨j, rfl, hj, rfl⟩ := hrel
      have hl := HL.out j
      have hb1 := hl.1
      have hb2 := hl.2
      have HLY := Lib.hid (HLK.out j)
      have HSJ := Lib.hid (HST.out j hj)
      clear hl
      by_cases h1 : j < i
      · have d2 : decide (j < i) = true := decide_eq_true h1
        generalize leftK e j = L at *
        by_cases h2 : 0 < L
        · have d3 : decide (0 < L) = true := decide_eq_true h2
          rw [if_pos h2] at HLY
          go_wp2
          go_round
          case rel => exact ⟨j + 1, by go_num, by omega, by rw [HLY.out]⟩
          case measure => simp [intOf]; omega
        · have d3 : decide (0 < L) = false := decide_eq_false h2
          have HE := Lib.hid (HSJ.out (by omega))
          rw [HE.out] at HLN
          clear h2
          go_wp2
          go_ret
          rw [HLN.out]
          exact ⟨rfl, HB0.out⟩
      · have d2 : decide (j < i) = false := decide_eq_false h1
        obtain rfl : j = i := by omega
        generalize leftK e j = L at *
        clear h1
        go_wp2
        go_ret
        rw [HLN.out]
        exact ⟨rfl, HB0.out⟩
end Go.Proofs.Ytoimlaaakkfifaa

