/-
  Contracts of stamp.Next and the reference's Next.
-/
import Derived.Test.YteijamnihfhndaaA
namespace Go.Proofs.Yteijamnihfhndaa
open Go.RowKit
def nextS (a : St) (now rep : Int) : St × Int :=
  if okB a = false ∨ badB now = true ∨ rep < 0 ∨ 16 ≤ rep then (⟨0, 0, 0⟩, 2)
  else if a.t < now then (⟨now, 0, rep⟩, 0)
  else if a.c = 1099511627776 then (⟨0, 0, 0⟩, 13) else (⟨a.t, a.c + 1, rep⟩, 0)
def OutIs (s : St × Int) (w : World) (e : Ending) (w' : World) : Prop :=
  e = .returned (.tuple #[.agg #[.int .i64 s.1.t, .int .i64 s.1.c, .int .i64 s.1.r], .int .i64 s.2]) ∧ Below w.heap.size w w'
set_option maxHeartbeats 1000000 in
theorem next_any (a : St) (now rep : Int) (w : World) : Calls Try.prog 6 #[ag a, .int .i64 now, .int .i64 rep] w (OutIs (nextS a now rep) w) := by
  have HN : Hid (nextS a now rep = if okB a = false ∨ badB now = true ∨ rep < 0 ∨ 16 ≤ rep then (⟨0, 0, 0⟩, 2) else if a.t < now then (⟨now, 0, rep⟩, 0) else if a.c = 1099511627776 then (⟨0, 0, 0⟩, 13) else (⟨a.t, a.c + 1, rep⟩, 0)) := Lib.hid rfl
  have HC := Lib.hid (check_any a)
  have HK : Hid (chkS a = if okB a = true then 0 else 2) := Lib.hid rfl
  have HOK : Hid (okB a = true → 0 ≤ a.t ∧ a.t ≤ 1099511627776 ∧ 0 ≤ a.c ∧ a.c ≤ 1099511627776 ∧ 0 ≤ a.r ∧ a.r ≤ 15) := Lib.hid ok_iff.1
  generalize nextS a now rep = S at *
  generalize okB a = B at *
  generalize chkS a = C at *
  obtain ⟨t, c, r⟩ := a
  simp only at HN HOK
  have no : (B = false ∨ badB now = true ∨ rep < 0 ∨ 16 ≤ rep) → S = (⟨0, 0, 0⟩, 2) := fun h => by rw [HN.out, if_pos h]
  have NO := Lib.hid no; clear no
  cases B with
  | false =>
    have HC2 : Hid (C = 2) := Lib.hid (by rw [HK.out]; rfl)
    obtain rfl := NO.out (.inl rfl)
    go_enter Try.func6, Try.ntmps6
    go_wp2_with fail
    refine (HC.out _).mono ?_
    rintro e w1 ⟨rfl, hb1⟩
    rw [HC2.out]
    have hz : w.heap.size + 1 < w1.heap.size := by have := hb1.size; simp at this; omega
    have q0 : w1.cell? ⟨w.heap.size + 1, 0, none⟩ = some (.int .i64 0) := (hb1.cell (p := ⟨w.heap.size + 1, 0, none⟩) (by simp <;> omega)).trans (by go_simp)
    have fq0 : w1.frozen? ⟨w.heap.size + 1, 0, none⟩ = false := (hb1.frozen (p := ⟨w.heap.size + 1, 0, none⟩) (by simp <;> omega)).trans (by go_simp)
    have q1 : w1.cell? ⟨w.heap.size + 1, 1, none⟩ = some (.int .i64 0) := (hb1.cell (p := ⟨w.heap.size + 1, 1, none⟩) (by simp <;> omega)).trans (by go_simp)
    have fq1 : w1.frozen? ⟨w.heap.size + 1, 1, none⟩ = false := (hb1.frozen (p := ⟨w.heap.size + 1, 1, none⟩) (by simp <;> omega)).trans (by go_simp)
    have q2 : w1.cell? ⟨w.heap.size + 1, 2, none⟩ = some (.int .i64 0) := (hb1.cell (p := ⟨w.heap.size + 1, 2, none⟩) (by simp <;> omega)).trans (by go_simp)
    have fq2 : w1.frozen? ⟨w.heap.size + 1, 2, none⟩ = false := (hb1.frozen (p := ⟨w.heap.size + 1, 2, none⟩) (by simp <;> omega)).trans (by go_simp)
    have HB : Hid (Below w.heap.size w w1) := Lib.hid (below_alloc (below_alloc hb1))
    go_wp2_with fail
    refine bodyPost_ret (v := .tuple #[.agg #[.int .i64 0, .int .i64 0, .int .i64 0], .int .i64 2]) (by simp [results, Try.results6, go_sem, q0, q1, q2]) rfl ⟨rfl, ?_⟩
    exact ((HB.out.setCell (by simp) _).setCell (by simp) _).setCell (by simp) _
  | true =>
    obtain ⟨t0, t1, c0, c1, r0, r1⟩ := HOK.out rfl
    have HC2 : Hid (C = 0) := Lib.hid (by rw [HK.out]; rfl)
    cases hbn : badB now with
    | true =>
      obtain rfl := NO.out (.inr (.inl hbn))
      have HBN := Lib.hid hbn; clear hbn
      go_enter Try.func6, Try.ntmps6
      go_wp2_with fail
      refine (HC.out _).mono ?_
      rintro e w1 ⟨rfl, hb1⟩
      rw [HC2.out]
      have hz : w.heap.size + 1 < w1.heap.size := by have := hb1.size; simp at this; omega
      have q0 : w1.cell? ⟨w.heap.size + 1, 0, none⟩ = some (.int .i64 0) := (hb1.cell (p := ⟨w.heap.size + 1, 0, none⟩) (by simp <;> omega)).trans (by go_simp)
      have fq0 : w1.frozen? ⟨w.heap.size + 1, 0, none⟩ = false := (hb1.frozen (p := ⟨w.heap.size + 1, 0, none⟩) (by simp <;> omega)).trans (by go_simp)
      have q1 : w1.cell? ⟨w.heap.size + 1, 1, none⟩ = some (.int .i64 0) := (hb1.cell (p := ⟨w.heap.size + 1, 1, none⟩) (by simp <;> omega)).trans (by go_simp)
      have fq1 : w1.frozen? ⟨w.heap.size + 1, 1, none⟩ = false := (hb1.frozen (p := ⟨w.heap.size + 1, 1, none⟩) (by simp <;> omega)).trans (by go_simp)
      have q2 : w1.cell? ⟨w.heap.size + 1, 2, none⟩ = some (.int .i64 0) := (hb1.cell (p := ⟨w.heap.size + 1, 2, none⟩) (by simp <;> omega)).trans (by go_simp)
      have fq2 : w1.frozen? ⟨w.heap.size + 1, 2, none⟩ = false := (hb1.frozen (p := ⟨w.heap.size + 1, 2, none⟩) (by simp <;> omega)).trans (by go_simp)
      have p0 : w1.cell? ⟨w.heap.size, 0, none⟩ = some (.int .i64 t) := (hb1.cell (p := ⟨w.heap.size, 0, none⟩) (by simp <;> omega)).trans (by go_simp)
      have p1 : w1.cell? ⟨w.heap.size, 1, none⟩ = some (.int .i64 c) := (hb1.cell (p := ⟨w.heap.size, 1, none⟩) (by simp <;> omega)).trans (by go_simp)
      have p2 : w1.cell? ⟨w.heap.size, 2, none⟩ = some (.int .i64 r) := (hb1.cell (p := ⟨w.heap.size, 2, none⟩) (by simp <;> omega)).trans (by go_simp)
      have HB : Hid (Below w.heap.size w w1) := Lib.hid (below_alloc (below_alloc hb1))
      go_wp2_with fail
      refine (bad_any _ _).mono ?_
      rintro e w2 ⟨rfl, rfl⟩
      rw [HBN.out]
      go_wp2_with fail
      refine bodyPost_ret (v := .tuple #[.agg #[.int .i64 0, .int .i64 0, .int .i64 0], .int .i64 2]) (by simp [results, Try.results6, go_sem, q0, q1, q2]) rfl ⟨rfl, ?_⟩
      exact ((HB.out.setCell (by simp) _).setCell (by simp) _).setCell (by simp) _
    | false =>
      have HBN := Lib.hid hbn; clear hbn
      have hnow : ¬ (now < 0 ∨ 1099511627776 < now) := fun h => by have := bad_iff.2 h; rw [HBN.out] at this; cases this
      by_cases h1 : rep < 0
      · obtain rfl := NO.out (.inr (.inr (.inl h1)))
        go_enter Try.func6, Try.ntmps6
        go_wp2_with fail
        refine (HC.out _).mono ?_
        rintro e w1 ⟨rfl, hb1⟩
        rw [HC2.out]
        have hz : w.heap.size + 1 < w1.heap.size := by have := hb1.size; simp at this; omega
        have q0 : w1.cell? ⟨w.heap.size + 1, 0, none⟩ = some (.int .i64 0) := (hb1.cell (p := ⟨w.heap.size + 1, 0, none⟩) (by simp <;> omega)).trans (by go_simp)
        have fq0 : w1.frozen? ⟨w.heap.size + 1, 0, none⟩ = false := (hb1.frozen (p := ⟨w.heap.size + 1, 0, none⟩) (by simp <;> omega)).trans (by go_simp)
        have q1 : w1.cell? ⟨w.heap.size + 1, 1, none⟩ = some (.int .i64 0) := (hb1.cell (p := ⟨w.heap.size + 1, 1, none⟩) (by simp <;> omega)).trans (by go_simp)
        have fq1 : w1.frozen? ⟨w.heap.size + 1, 1, none⟩ = false := (hb1.frozen (p := ⟨w.heap.size + 1, 1, none⟩) (by simp <;> omega)).trans (by go_simp)
        have q2 : w1.cell? ⟨w.heap.size + 1, 2, none⟩ = some (.int .i64 0) := (hb1.cell (p := ⟨w.heap.size + 1, 2, none⟩) (by simp <;> omega)).trans (by go_simp)
        have fq2 : w1.frozen? ⟨w.heap.size + 1, 2, none⟩ = false := (hb1.frozen (p := ⟨w.heap.size + 1, 2, none⟩) (by simp <;> omega)).trans (by go_simp)
        have p0 : w1.cell? ⟨w.heap.size, 0, none⟩ = some (.int .i64 t) := (hb1.cell (p := ⟨w.heap.size, 0, none⟩) (by simp <;> omega)).trans (by go_simp)
        have p1 : w1.cell? ⟨w.heap.size, 1, none⟩ = some (.int .i64 c) := (hb1.cell (p := ⟨w.heap.size, 1, none⟩) (by simp <;> omega)).trans (by go_simp)
        have p2 : w1.cell? ⟨w.heap.size, 2, none⟩ = some (.int .i64 r) := (hb1.cell (p := ⟨w.heap.size, 2, none⟩) (by simp <;> omega)).trans (by go_simp)
        have HB : Hid (Below w.heap.size w w1) := Lib.hid (below_alloc (below_alloc hb1))
        go_wp2_with fail
        refine (bad_any _ _).mono ?_
        rintro e w2 ⟨rfl, rfl⟩
        rw [HBN.out]
        go_wp2_with fail
        refine bodyPost_ret (v := .tuple #[.agg #[.int .i64 0, .int .i64 0, .int .i64 0], .int .i64 2]) (by simp [results, Try.results6, go_sem, q0, q1, q2]) rfl ⟨rfl, ?_⟩
        exact ((HB.out.setCell (by simp) _).setCell (by simp) _).setCell (by simp) _
      by_cases h2 : 16 ≤ rep
      · obtain rfl := NO.out (.inr (.inr (.inr h2)))
        go_enter Try.func6, Try.ntmps6
        go_wp2_with fail
        refine (HC.out _).mono ?_
        rintro e w1 ⟨rfl, hb1⟩
        rw [HC2.out]
        have hz : w.heap.size + 1 < w1.heap.size := by have := hb1.size; simp at this; omega
        have q0 : w1.cell? ⟨w.heap.size + 1, 0, none⟩ = some (.int .i64 0) := (hb1.cell (p := ⟨w.heap.size + 1, 0, none⟩) (by simp <;> omega)).trans (by go_simp)
        have fq0 : w1.frozen? ⟨w.heap.size + 1, 0, none⟩ = false := (hb1.frozen (p := ⟨w.heap.size + 1, 0, none⟩) (by simp <;> omega)).trans (by go_simp)
        have q1 : w1.cell? ⟨w.heap.size + 1, 1, none⟩ = some (.int .i64 0) := (hb1.cell (p := ⟨w.heap.size + 1, 1, none⟩) (by simp <;> omega)).trans (by go_simp)
        have fq1 : w1.frozen? ⟨w.heap.size + 1, 1, none⟩ = false := (hb1.frozen (p := ⟨w.heap.size + 1, 1, none⟩) (by simp <;> omega)).trans (by go_simp)
        have q2 : w1.cell? ⟨w.heap.size + 1, 2, none⟩ = some (.int .i64 0) := (hb1.cell (p := ⟨w.heap.size + 1, 2, none⟩) (by simp <;> omega)).trans (by go_simp)
        have fq2 : w1.frozen? ⟨w.heap.size + 1, 2, none⟩ = false := (hb1.frozen (p := ⟨w.heap.size + 1, 2, none⟩) (by simp <;> omega)).trans (by go_simp)
        have p0 : w1.cell? ⟨w.heap.size, 0, none⟩ = some (.int .i64 t) := (hb1.cell (p := ⟨w.heap.size, 0, none⟩) (by simp <;> omega)).trans (by go_simp)
        have p1 : w1.cell? ⟨w.heap.size, 1, none⟩ = some (.int .i64 c) := (hb1.cell (p := ⟨w.heap.size, 1, none⟩) (by simp <;> omega)).trans (by go_simp)
        have p2 : w1.cell? ⟨w.heap.size, 2, none⟩ = some (.int .i64 r) := (hb1.cell (p := ⟨w.heap.size, 2, none⟩) (by simp <;> omega)).trans (by go_simp)
        have HB : Hid (Below w.heap.size w w1) := Lib.hid (below_alloc (below_alloc hb1))
        go_wp2_with fail
        refine (bad_any _ _).mono ?_
        rintro e w2 ⟨rfl, rfl⟩
        rw [HBN.out]
        go_wp2_with fail
        refine bodyPost_ret (v := .tuple #[.agg #[.int .i64 0, .int .i64 0, .int .i64 0], .int .i64 2]) (by simp [results, Try.results6, go_sem, q0, q1, q2]) rfl ⟨rfl, ?_⟩
        exact ((HB.out.setCell (by simp) _).setCell (by simp) _).setCell (by simp) _
      have HNo : Hid (¬ (true = false ∨ badB now = true ∨ rep < 0 ∨ 16 ≤ rep)) := Lib.hid (by rw [HBN.out]; simp; omega)
      by_cases h3 : t < now
      · obtain rfl : S = (⟨now, 0, rep⟩, 0) := by rw [HN.out, if_neg HNo.out, if_pos h3]
        go_enter Try.func6, Try.ntmps6
        go_wp2_with fail
        refine (HC.out _).mono ?_
        rintro e w1 ⟨rfl, hb1⟩
        rw [HC2.out]
        have hz : w.heap.size + 1 < w1.heap.size := by have := hb1.size; simp at this; omega
        have q0 : w1.cell? ⟨w.heap.size + 1, 0, none⟩ = some (.int .i64 0) := (hb1.cell (p := ⟨w.heap.size + 1, 0, none⟩) (by simp <;> omega)).trans (by go_simp)
        have fq0 : w1.frozen? ⟨w.heap.size + 1, 0, none⟩ = false := (hb1.frozen (p := ⟨w.heap.size + 1, 0, none⟩) (by simp <;> omega)).trans (by go_simp)
        have q1 : w1.cell? ⟨w.heap.size + 1, 1, none⟩ = some (.int .i64 0) := (hb1.cell (p := ⟨w.heap.size + 1, 1, none⟩) (by simp <;> omega)).trans (by go_simp)
        have fq1 : w1.frozen? ⟨w.heap.size + 1, 1, none⟩ = false := (hb1.frozen (p := ⟨w.heap.size + 1, 1, none⟩) (by simp <;> omega)).trans (by go_simp)
        have q2 : w1.cell? ⟨w.heap.size + 1, 2, none⟩ = some (.int .i64 0) := (hb1.cell (p := ⟨w.heap.size + 1, 2, none⟩) (by simp <;> omega)).trans (by go_simp)
        have fq2 : w1.frozen? ⟨w.heap.size + 1, 2, none⟩ = false := (hb1.frozen (p := ⟨w.heap.size + 1, 2, none⟩) (by simp <;> omega)).trans (by go_simp)
        have p0 : w1.cell? ⟨w.heap.size, 0, none⟩ = some (.int .i64 t) := (hb1.cell (p := ⟨w.heap.size, 0, none⟩) (by simp <;> omega)).trans (by go_simp)
        have p1 : w1.cell? ⟨w.heap.size, 1, none⟩ = some (.int .i64 c) := (hb1.cell (p := ⟨w.heap.size, 1, none⟩) (by simp <;> omega)).trans (by go_simp)
        have p2 : w1.cell? ⟨w.heap.size, 2, none⟩ = some (.int .i64 r) := (hb1.cell (p := ⟨w.heap.size, 2, none⟩) (by simp <;> omega)).trans (by go_simp)
        have HB : Hid (Below w.heap.size w w1) := Lib.hid (below_alloc (below_alloc hb1))
        go_wp2_with fail
        refine (bad_any _ _).mono ?_
        rintro e w2 ⟨rfl, rfl⟩
        rw [HBN.out]
        go_wp2_with fail
        refine bodyPost_ret (v := .tuple #[.agg #[.int .i64 now, .int .i64 0, .int .i64 rep], .int .i64 0]) (by simp [results, Try.results6, go_sem, q0, q1, q2]) rfl ⟨rfl, ?_⟩
        exact ((HB.out.setCell (by simp) _).setCell (by simp) _).setCell (by simp) _
      by_cases h4 : c = 1099511627776
      · obtain rfl : S = (⟨0, 0, 0⟩, 13) := by rw [HN.out, if_neg HNo.out, if_neg h3, if_pos h4]
        have h4' : (c == 1099511627776) = true := beq_iff_eq.2 h4
        have H4 := Lib.hid h4; clear h4
        go_enter Try.func6, Try.ntmps6
        go_wp2_with fail
        refine (HC.out _).mono ?_
        rintro e w1 ⟨rfl, hb1⟩
        rw [HC2.out]
        have hz : w.heap.size + 1 < w1.heap.size := by have := hb1.size; simp at this; omega
        have q0 : w1.cell? ⟨w.heap.size + 1, 0, none⟩ = some (.int .i64 0) := (hb1.cell (p := ⟨w.heap.size + 1, 0, none⟩) (by simp <;> omega)).trans (by go_simp)
        have fq0 : w1.frozen? ⟨w.heap.size + 1, 0, none⟩ = false := (hb1.frozen (p := ⟨w.heap.size + 1, 0, none⟩) (by simp <;> omega)).trans (by go_simp)
        have q1 : w1.cell? ⟨w.heap.size + 1, 1, none⟩ = some (.int .i64 0) := (hb1.cell (p := ⟨w.heap.size + 1, 1, none⟩) (by simp <;> omega)).trans (by go_simp)
        have fq1 : w1.frozen? ⟨w.heap.size + 1, 1, none⟩ = false := (hb1.frozen (p := ⟨w.heap.size + 1, 1, none⟩) (by simp <;> omega)).trans (by go_simp)
        have q2 : w1.cell? ⟨w.heap.size + 1, 2, none⟩ = some (.int .i64 0) := (hb1.cell (p := ⟨w.heap.size + 1, 2, none⟩) (by simp <;> omega)).trans (by go_simp)
        have fq2 : w1.frozen? ⟨w.heap.size + 1, 2, none⟩ = false := (hb1.frozen (p := ⟨w.heap.size + 1, 2, none⟩) (by simp <;> omega)).trans (by go_simp)
        have p0 : w1.cell? ⟨w.heap.size, 0, none⟩ = some (.int .i64 t) := (hb1.cell (p := ⟨w.heap.size, 0, none⟩) (by simp <;> omega)).trans (by go_simp)
        have p1 : w1.cell? ⟨w.heap.size, 1, none⟩ = some (.int .i64 c) := (hb1.cell (p := ⟨w.heap.size, 1, none⟩) (by simp <;> omega)).trans (by go_simp)
        have p2 : w1.cell? ⟨w.heap.size, 2, none⟩ = some (.int .i64 r) := (hb1.cell (p := ⟨w.heap.size, 2, none⟩) (by simp <;> omega)).trans (by go_simp)
        have HB : Hid (Below w.heap.size w w1) := Lib.hid (below_alloc (below_alloc hb1))
        go_wp2_with fail
        refine (bad_any _ _).mono ?_
        rintro e w2 ⟨rfl, rfl⟩
        rw [HBN.out]
        go_wp2_with fail
        refine bodyPost_ret (v := .tuple #[.agg #[.int .i64 0, .int .i64 0, .int .i64 0], .int .i64 13]) (by simp [results, Try.results6, go_sem, q0, q1, q2]) rfl ⟨rfl, ?_⟩
        exact ((HB.out.setCell (by simp) _).setCell (by simp) _).setCell (by simp) _
      · obtain rfl : S = (⟨t, c + 1, rep⟩, 0) := by rw [HN.out, if_neg HNo.out, if_neg h3, if_neg h4]
        have h4' : (c == 1099511627776) = false := beq_eq_false_iff_ne.2 h4
        have H4 := Lib.hid h4; clear h4
        go_enter Try.func6, Try.ntmps6
        go_wp2_with fail
        refine (HC.out _).mono ?_
        rintro e w1 ⟨rfl, hb1⟩
        rw [HC2.out]
        have hz : w.heap.size + 1 < w1.heap.size := by have := hb1.size; simp at this; omega
        have q0 : w1.cell? ⟨w.heap.size + 1, 0, none⟩ = some (.int .i64 0) := (hb1.cell (p := ⟨w.heap.size + 1, 0, none⟩) (by simp <;> omega)).trans (by go_simp)
        have fq0 : w1.frozen? ⟨w.heap.size + 1, 0, none⟩ = false := (hb1.frozen (p := ⟨w.heap.size + 1, 0, none⟩) (by simp <;> omega)).trans (by go_simp)
        have q1 : w1.cell? ⟨w.heap.size + 1, 1, none⟩ = some (.int .i64 0) := (hb1.cell (p := ⟨w.heap.size + 1, 1, none⟩) (by simp <;> omega)).trans (by go_simp)
        have fq1 : w1.frozen? ⟨w.heap.size + 1, 1, none⟩ = false := (hb1.frozen (p := ⟨w.heap.size + 1, 1, none⟩) (by simp <;> omega)).trans (by go_simp)
        have q2 : w1.cell? ⟨w.heap.size + 1, 2, none⟩ = some (.int .i64 0) := (hb1.cell (p := ⟨w.heap.size + 1, 2, none⟩) (by simp <;> omega)).trans (by go_simp)
        have fq2 : w1.frozen? ⟨w.heap.size + 1, 2, none⟩ = false := (hb1.frozen (p := ⟨w.heap.size + 1, 2, none⟩) (by simp <;> omega)).trans (by go_simp)
        have p0 : w1.cell? ⟨w.heap.size, 0, none⟩ = some (.int .i64 t) := (hb1.cell (p := ⟨w.heap.size, 0, none⟩) (by simp <;> omega)).trans (by go_simp)
        have p1 : w1.cell? ⟨w.heap.size, 1, none⟩ = some (.int .i64 c) := (hb1.cell (p := ⟨w.heap.size, 1, none⟩) (by simp <;> omega)).trans (by go_simp)
        have p2 : w1.cell? ⟨w.heap.size, 2, none⟩ = some (.int .i64 r) := (hb1.cell (p := ⟨w.heap.size, 2, none⟩) (by simp <;> omega)).trans (by go_simp)
        have HB : Hid (Below w.heap.size w w1) := Lib.hid (below_alloc (below_alloc hb1))
        go_wp2_with fail
        refine (bad_any _ _).mono ?_
        rintro e w2 ⟨rfl, rfl⟩
        rw [HBN.out]
        go_wp2_with fail
        refine bodyPost_ret (v := .tuple #[.agg #[.int .i64 t, .int .i64 (c + 1), .int .i64 rep], .int .i64 0]) (by simp [results, Try.results6, go_sem, q0, q1, q2]) rfl ⟨rfl, ?_⟩
        exact ((HB.out.setCell (by simp) _).setCell (by simp) _).setCell (by simp) _
end Go.Proofs.Yteijamnihfhndaa

