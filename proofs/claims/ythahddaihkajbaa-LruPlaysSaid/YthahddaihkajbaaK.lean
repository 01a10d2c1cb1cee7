/-
  The contract of Get.
-/
import Derived.Test.YthahddaihkajbaaJ
set_option linter.unusedVariables false
set_option linter.unusedSimpArgs false
namespace Go.Proofs.Ythahddaihkajbaa
open Go.RowKit
def getT (ms : List Itm) (k : ByteArray) : ByteArray × Bool × List Itm := match findI ms k with
  | some j => if h : j < ms.length then (ms[j].2, true, ms[j] :: ms.eraseIdx j) else (⟨#[]⟩, false, ms)
  | none => (⟨#[]⟩, false, ms)
theorem get_len (ms : List Itm) (k : ByteArray) : (getT ms k).2.2.length = ms.length := by
  unfold getT
  split
  · split
    · next h => simp only [List.length_cons, List.length_eraseIdx_of_lt h]; omega
    · rfl
  · rfl
theorem get_nil (k : ByteArray) (w : World) : Calls Try.prog 11 #[.pointer none, .string k] w fun e w' => e = .returned (.tuple #[.string ⟨#[]⟩, .bool false]) ∧ w' = w := by
  go_enter Try.func11, Try.ntmps11
  go_wp2_with fail
  go_ret2
  exact ⟨rfl, rfl⟩
set_option maxHeartbeats 4000000 in
theorem get_any {p B : Nat} {v : Value} {ms : List Itm} {room : Int} (k : ByteArray) (w : World) (h : Cs w p B v ms room) (hn5 : ms.length ≤ 5000) :
    Calls Try.prog 11 #[.pointer (some ⟨p, 0, none⟩), .string k] w fun e w' => e = .returned (.tuple #[.string (getT ms k).1, .bool (getT ms k).2.1]) ∧
      ∃ v', Cs w' p B v' (getT ms k).2.2 room ∧ Kp (fun j => j = p ∨ v.ownBlock = some j) w w' ∧ (∀ g, v'.ownBlock = some g → v.ownBlock = some g ∨ w.heap.size ≤ g) := by
  unfold getT
  have hfd := find_any k w h hn5
  unfold idxI at hfd
  cases hf : findI ms k with
  | none =>
    rw [hf] at hfd
    simp only at hfd ⊢
    go_enter Try.func11, Try.ntmps11
    go_wp2_with fail
    refine hfd.mono ?_
    rintro e w2 ⟨rfl, hb⟩
    have HC := Lib.hid (h.keep hb); have HK : Hid (Kp (fun j => j = p ∨ v.ownBlock = some j) w w2) := Lib.hid (Kp.new hb)
    clear hb hfd h
    go_wp2
    go_ret2
    exact ⟨rfl, _, HC.out, HK.out, fun g hg => Or.inl hg⟩
  | some j =>
    have hj := find_lt hf
    rw [hf] at hfd
    simp only [dif_pos hj] at hfd ⊢
    have d1 : decide ((j : Int) < 0) = false := decide_eq_false (by omega)
    have HOUT : Hid (∀ w2, Cs w2 p B v ms room → Calls Try.prog 15 #[.pointer (some ⟨p, 0, none⟩), .int .i64 j] w2 fun e w' => e = .returned (.agg #[.string ms[j].1, .string ms[j].2]) ∧
      ∃ v', Cs w' p B v' (ms.eraseIdx j) room ∧ Kp (fun j => j = p ∨ v.ownBlock = some j) w2 w' ∧ v'.ownBlock = v.ownBlock) := Lib.hid (fun w2 hc => out_any w2 hc hj (n1 := ms.length - 1) (by omega) hn5)
    have HLE : Hid ((ms.eraseIdx j).length ≤ 5000) := Lib.hid (by rw [List.length_eraseIdx_of_lt hj]; omega)
    generalize (ms.eraseIdx j) = E at HOUT HLE ⊢
    generalize hx : ms[j] = x at HOUT ⊢
    obtain ⟨X, Y⟩ := x
    clear hx hf hj
    simp only at HOUT ⊢
    go_enter Try.func11, Try.ntmps11
    go_wp2_with fail
    refine hfd.mono ?_
    rintro e w2 ⟨rfl, hb⟩
    have HC := Lib.hid (h.keep hb); have HK : Hid (Kp (fun j => j = p ∨ v.ownBlock = some j) w w2) := Lib.hid (Kp.new hb)
    clear hb hfd h
    go_wp2_with fail
    refine (HOUT.out w2 HC.out).mono ?_
    rintro e w3 ⟨rfl, v3, h1, h2, h3⟩
    have H1 := Lib.hid h1; have H2 := Lib.hid (HK.out.trans h2); have H3 := Lib.hid h3
    clear h1 h2 h3 HC HK
    have hQ := Bk.new w3 52 #[.string X, .string Y]
    have HQ := Lib.hid hQ
    have hbn := below_new w3 (.cells #[.string X, .string Y] 52)
    have HC4 : Hid (Cs (w3.alloc (.cells #[.string X, .string Y] 52)).drew p B v3 E room) := Lib.hid (H1.out.keep hbn).drew
    have q0 : (w3.alloc (.cells #[.string X, .string Y] 52)).drew.cell? ⟨w3.heap.size, 0, none⟩ = some (.string X) := (hQ.2 0 _ rfl).1
    have q1 : (w3.alloc (.cells #[.string X, .string Y] 52)).drew.cell? ⟨w3.heap.size, 1, none⟩ = some (.string Y) := (hQ.2 1 _ rfl).1
    clear hQ
    go_wp2_with fail
    refine wp_region_still_tail 4 (by kernel_rfl) (by kernel_rfl) ?_
    simp only [List.take_succ_cons, List.take_zero, List.drop_succ_cons, List.drop_zero]
    change wpStill _ _ ((w3.alloc (.cells #[.string X, .string Y] 52)).drew) _ _ _
    repeat still_step
    refine wpStill_nil ?_
    change wpList _ _ _ _ _ ((w3.alloc (.cells #[.string X, .string Y] 52)).drew)
    go_wp2_with fail
    refine (first_any (X, Y) (w3.alloc (.cells #[.string X, .string Y] 52)).drew HC4.out HLE.out).mono ?_
    rintro e w5 ⟨rfl, v5, h1, h2, h3⟩
    have hp3 : p < w3.heap.size := Nat.lt_of_lt_of_le H1.out.2.2.1 H1.out.2.2.2
    have hQ5 : Bk w3.heap.size [.string X, .string Y] w5 := Bk.kp (a := (w3.alloc (.cells #[.string X, .string Y] 52)).drew) HQ.out h2 (fun e => by
      rcases e with e | e
      · omega
      · have := (H1.out.2.1.lt _ e).2; omega)
    have c5 := (hQ5.2 1 _ rfl).1
    have H4 := Lib.hid h1; have H5 := Lib.hid h2; have H6 := Lib.hid h3
    clear h1 h2 h3 hQ5
    go_wp2
    go_ret2
    have hbd : Below w3.heap.size w3 (w3.alloc (.cells #[.string X, .string Y] 52)).drew := hbn.drew
    refine ⟨rfl, _, H4.out, ?_, ?_⟩
    · refine (H2.out.trans (Kp.new hbd)).trans (H5.out.mono (fun i _ e => ?_))
      rw [← H3.out]; exact e
    · intro g hg
      rcases H6.out g hg with e | e
      · left; rw [← H3.out]; exact e
      · right
        have := H2.out.size; have := hbd.size
        omega
end Go.Proofs.Ythahddaihkajbaa

