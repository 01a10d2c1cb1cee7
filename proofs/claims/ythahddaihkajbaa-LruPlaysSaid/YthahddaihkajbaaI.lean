/-
  The contract of out.
-/
import Derived.Test.YthahddaihkajbaaH
set_option linter.unusedVariables false
set_option linter.unusedSimpArgs false
namespace Go.Proofs.Ythahddaihkajbaa
open Go.RowKit
theorem kp_new_after {S : Nat → Prop} {a b c : World} {N : Nat} (k : Kp S a b) (kz : Kp (fun i => i = N) b c) (hN : a.heap.size ≤ N) : Kp S a c :=
  ⟨kz.os.trans k.os, kz.tape.trans k.tape, kz.output.trans k.output, Nat.le_trans k.size kz.size, fun i hi hn => (kz.block i (Nat.lt_of_lt_of_le hi k.size) (by omega)).trans (k.block i hi hn)⟩
theorem res_one {fn : Func} {p : Tmp} {ty : TypeId} {tmps : Array Value} {w : World} {A : Nat} {x : Value} (h : fn.results = #[.cell p ty]) (h1 : tmps.getD p undef = .pointer (some ⟨A, 0, none⟩)) (hl : (loadVar ty ⟨A, 0, none⟩).run Try.prog w = .ok x w) :
    (results fn tmps).run Try.prog w = .ok x w := by
  have h3 : (asAddr (.pointer (some ⟨A, 0, none⟩))).run Try.prog w = Result.ok ⟨A, 0, none⟩ w := rfl
  simp at h1
  simp only [results, h]
  simp [Sem.run_bind, Result.andThen, h1, h3, hl]
set_option maxHeartbeats 4000000 in
theorem out_any {p B k n1 : Nat} {v : Value} {ms : List Itm} {room : Int} (w : World) (h : Cs w p B v ms room) (hk : k < ms.length) (hn1 : n1 + 1 = ms.length) (hsm : ms.length ≤ 5000) :
    Calls Try.prog 15 #[.pointer (some ⟨p, 0, none⟩), .int .i64 k] w fun e w' => e = .returned (.agg #[.string ms[k].1, .string ms[k].2]) ∧
      ∃ v', Cs w' p B v' (ms.eraseIdx k) room ∧ Kp (fun j => j = p ∨ v.ownBlock = some j) w w' ∧ v'.ownBlock = v.ownBlock := by
  obtain ⟨g, cap, rfl⟩ := own_some h.2.1 (by omega)
  have HL : Hid ((ms.eraseIdx k).length = n1) := Lib.hid (by rw [List.length_eraseIdx_of_lt hk]; omega)
  have hgp : g ≠ p := by have := (h.2.1.lt g rfl).1; have := h.2.2.1; omega
  have hgl : g < w.heap.size := (h.2.1.lt g rfl).2
  have hpl : p < w.heap.size := Nat.lt_of_lt_of_le h.2.2.1 h.2.2.2
  have hW : IntKind.i64.wrap ((k : Int) + 1) = (k : Int) + 1 := by rw [IntKind.wrap_i64]; omega
  have c0 := (h.1.2 0 _ rfl).1
  obtain ⟨c1, c2⟩ := row_cells h.2.1 k hk
  generalize ms[k].1 = X at *
  generalize ms[k].2 = Y at *
  have d1 : (0 : Int) ≤ (k : Int) := by omega
  have d2 : (k : Int) < (ms.length : Int) := by omega
  go_enter Try.func15, Try.ntmps15
  go_wp2_with fail
  have HB2 : Hid (Below w.heap.size w ((w.alloc (.cells #[.string ⟨#[]⟩, .string ⟨#[]⟩] 52)).alloc (.cells #[.string X, .string Y] 52))) := Lib.hid (below_cons (below_new w (.cells #[.string ⟨#[]⟩, .string ⟨#[]⟩] 52)) (below_new (w.alloc (.cells #[.string ⟨#[]⟩, .string ⟨#[]⟩] 52)) (.cells #[.string X, .string Y] 52)))
  have hC2 : Cs ((w.alloc (.cells #[.string ⟨#[]⟩, .string ⟨#[]⟩] 52)).alloc (.cells #[.string X, .string Y] 52)) p B (.slice (some ⟨g, 0, none⟩) ms.length cap) ms room := (h.keep (below_new w (.cells #[.string ⟨#[]⟩, .string ⟨#[]⟩] 52))).keep (below_new (w.alloc (.cells #[.string ⟨#[]⟩, .string ⟨#[]⟩] 52)) (.cells #[.string X, .string Y] 52))
  have hQ : Bk (w.heap.size + 1) [.string X, .string Y] ((w.alloc (.cells #[.string ⟨#[]⟩, .string ⟨#[]⟩] 52)).alloc (.cells #[.string X, .string Y] 52)) := by
    have := Bk.new (w.alloc (.cells #[.string ⟨#[]⟩, .string ⟨#[]⟩] 52)) 52 #[.string X, .string Y]
    simpa using this
  have hZ : Bk w.heap.size [.string ⟨#[]⟩, .string ⟨#[]⟩] ((w.alloc (.cells #[.string ⟨#[]⟩, .string ⟨#[]⟩] 52)).alloc (.cells #[.string X, .string Y] 52)) := (Bk.new w 52 #[.string ⟨#[]⟩, .string ⟨#[]⟩]).keep (below_new (w.alloc (.cells #[.string ⟨#[]⟩, .string ⟨#[]⟩] 52)) (.cells #[.string X, .string Y] 52))
  refine (delete_any k ((w.alloc (.cells #[.string ⟨#[]⟩, .string ⟨#[]⟩] 52)).alloc (.cells #[.string X, .string Y] 52)) hC2.2.1 rfl hk hn1 hsm).mono ?_
  rintro e w3 ⟨rfl, ho, hkp⟩
  have hB3 := hC2.1.kp hkp (fun e => hgp e.symm)
  have c3 := (hB3.2 0 _ rfl).1; have f3 := (hB3.2 0 _ rfl).2
  have hQ3 := hQ.kp hkp (by omega)
  have hZ3 := hZ.kp hkp (by omega)
  have q0 := (hQ3.2 0 _ rfl).1; have q1 := (hQ3.2 1 _ rfl).1
  have z0 := (hZ3.2 0 _ rfl).1; have z1 := (hZ3.2 1 _ rfl).1
  have fz0 := (hZ3.2 0 _ rfl).2; have fz1 := (hZ3.2 1 _ rfl).2
  have hZs : w.heap.size < w3.heap.size := hZ3.1
  have HB3 := Lib.hid (hB3.set 0 (by simp) (.slice (some ⟨g, 0, none⟩) n1 cap)); have HO := Lib.hid ho; have HK := Lib.hid hkp
  have hH := h.2.2
  have HBZ := Lib.hid (hB3.set 0 (by simp) (.slice (some ⟨g, 0, none⟩) n1 cap))
  have hZ4 := hZ3.kp (Kp.set (S := fun i => i = p) (Kp.refl _ w3) p 0 (.slice (some ⟨g, 0, none⟩) n1 cap) rfl) (by omega)
  have HZ6 := Lib.hid ((hZ4.set 0 (by simp) (.string X)).set 1 (by simp) (.string Y))
  clear hZ4
  clear hC2 hQ hZ hB3 hQ3 hZ3 ho hkp c0 c1 c2 h
  go_wp2
  refine bodyPost_ret (res_one rfl rfl (load_var (fun w => by kernel_rfl) (fun w => by kernel_rfl) HZ6.out)) rfl ?_
  have kz : Kp (fun i => i = w.heap.size) (w3.setCell ⟨p, 0, none⟩ (.slice (some ⟨g, 0, none⟩) n1 cap)) (((w3.setCell ⟨p, 0, none⟩ (.slice (some ⟨g, 0, none⟩) n1 cap)).setCell ⟨w.heap.size, 0, none⟩ (.string X)).setCell ⟨w.heap.size, 1, none⟩ (.string Y)) :=
    Kp.set (S := fun i => i = w.heap.size) (Kp.set (S := fun i => i = w.heap.size) (Kp.refl _ _) _ 0 _ rfl) _ 1 _ rfl
  refine ⟨rfl, _, ⟨HB3.out.kp kz (by omega), ?_, hH.1, ?_⟩, ?_, rfl⟩
  · rw [HL.out]
    refine own_kp2 (own_kp2 HO.out (Kp.set (S := fun i => i = p) (Kp.refl _ _) p 0 _ rfl) (fun g' hg e => by simp [Value.ownBlock] at hg; omega)) kz (fun g' hg e => by simp [Value.ownBlock] at hg; omega)
  · have h1 := HK.out.size; have h2 := HB2.out.size; have h3 := hH.2
    simp only [World.size_setCell]
    omega
  · exact kp_new_after (((Kp.new HB2.out).trans (HK.out.mono (fun i _ e => Or.inr (by rw [e]; rfl)))).set p 0 _ (Or.inl rfl)) kz (Nat.le_refl _)
end Go.Proofs.Ythahddaihkajbaa

