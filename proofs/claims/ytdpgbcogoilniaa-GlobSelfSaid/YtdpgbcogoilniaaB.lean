/-
  The contract of glob.is: whether parts stand for a text.
-/
import Derived.Test.YtdpgbcogoilniaaA
import Derived.Test.YtdpgbcogoilniaaK
set_option linter.unusedVariables false
set_option linter.unusedSimpArgs false
namespace Go.Proofs.Ytdpgbcogoilniaa
open Go.RowKit
theorem u8_eq {a b : UInt8} : a = b ↔ a.toNat = b.toNat := ⟨fun h => by rw [h], fun h => UInt8.toNat.inj h⟩
theorem one_iff {p : Part} {c : UInt8} : one p c = true ↔ p.1.toNat = 63 ∨ (p.1.toNat = 0 ∧ p.2.toNat = c.toNat) := by
  unfold one
  simp only [Bool.or_eq_true, Bool.and_eq_true, beq_iff_eq, u8_eq]
  rfl
theorem getElem_data (s : ByteArray) (k : Nat) (h : k < s.data.toList.length) : s.data.toList[k] = s[k]'(by rw [length_data] at h; exact h) := rfl
def Step (l : List Part) (s : List UInt8) (b f : Int) (k : Nat) : Prop :=
  (b < 0 → mat l s = false) ∧ (¬ b < 0 → ∃ β φ : Nat, b = β ∧ f = φ ∧ β < l.length ∧ φ ≤ k ∧ Inv l s (β + 1) (φ + 1) β ((φ + 1 : Nat) : Int))
set_option maxRecDepth 100000 in
set_option maxHeartbeats 4000000 in
theorem is_any (a : Option Addr) (l : List Part) (cap : Nat) (s : ByteArray) (w : World) (hl : l.length ≤ 256) (hs : s.size ≤ 140737488351232) (hsl : Sl encPt 2 w a l) :
    Calls Try.prog 9 #[.slice a l.length cap, .string s] w fun e w' => e = .returned (.bool (mat l s.data.toList)) ∧ Below w.heap.size w w' := by
  have HSL := Lib.hid hsl; clear hsl
  have HLEN := Lib.hid (length_data s)
  have HST := Lib.hid (Inv.start l s.data.toList)
  go_enter Try.func9, Try.ntmps9
  go_wp2
  go_step3
  go_wp2
  go_step3
  go_wp2
  go_loopw [5, 6, 7, 8, 13, 30, 66] (fun i k b f _ _ _ wr => ∃ (i' k' : Nat) (b' f' : Int), i = .int .i64 i' ∧ k = .int .i64 k' ∧ b = .int .i64 b' ∧ f = .int .i64 f' ∧ i' ≤ l.length ∧ k' ≤ s.size ∧ -1 ≤ b' ∧ b' < i' ∧ 0 ≤ f' ∧ f' ≤ s.size ∧ Inv l s.data.toList i' k' b' f' ∧ Below w.heap.size w wr)
    (fun i k b f _ _ _ _ => meas l.length s.size (intOf i).toNat (intOf k).toNat (intOf b + 1).toNat (intOf f).toNat)
  case atStart => exact ⟨0, 0, -1, 0, rfl, rfl, rfl, rfl, by omega, by omega, by omega, by omega, by omega, by omega, HST.out, Below.refl _ _⟩
  case round =>
    obtain ⟨i, k, b, f, rfl, rfl, rfl, rfl, hi, hk, b0, b1, f0, f1, hinv, hb⟩ := hrel
    have HI := Lib.hid hinv; clear hinv
    by_cases hlt : k < s.size
    · by_cases hlti : i < l.length
      · obtain ⟨bl, o, rfl, hbl, hc⟩ := HSL.out.keep hb i hlti
        have c0 : wr.cell? ⟨bl, o + i * 2, none⟩ = some (.int .u8 l[i].1.toNat) := hc 0 _ rfl
        have c1 : wr.cell? ⟨bl, o + i * 2 + 1, none⟩ = some (.int .u8 l[i].2.toNat) := hc 1 _ rfl
        have hkl : k < s.data.toList.length := by rw [length_data]; exact hlt
        have HSTAR : Hid (l[i].1.toNat = 42 → Inv l s.data.toList (i + 1) k i k) := Lib.hid (fun h => HI.out.star hlti (UInt8.toNat.inj h))
        have HONE : Hid (l[i].1.toNat ≠ 42 → (l[i].1.toNat = 63 ∨ (l[i].1.toNat = 0 ∧ l[i].2.toNat = s[k].toNat)) → Inv l s.data.toList (i + 1) (k + 1) b f) := Lib.hid (fun h h2 => HI.out.one hlti hkl (fun h3 => h (by rw [h3]; rfl)) (one_iff.2 h2))
        have HBAD : Hid (l[i].1.toNat ≠ 42 → ¬ (l[i].1.toNat = 63 ∨ (l[i].1.toNat = 0 ∧ l[i].2.toNat = s[k].toNat)) → Step l s.data.toList b f k) := Lib.hid (fun h h2 => by
          have bad : ∀ h : i < l.length, l[i].1 ≠ 42 ∧ one l[i] s.data.toList[k] = false := fun h' => ⟨fun h3 => h (by rw [h3]; rfl), by
            cases h4 : one l[i] s.data.toList[k] with
            | false => rfl
            | true => exact absurd (one_iff.1 h4) h2⟩
          exact ⟨fun hb => HI.out.fail hb hkl bad, fun hb => HI.out.more hb hkl bad⟩)
        have hn := l[i].1.toNat_lt
        have hm := l[i].2.toNat_lt
        have hsk := s[k].toNat_lt
        generalize l[i].1.toNat = n at *
        generalize l[i].2.toNat = m at *
        clear hc
        have gi : (i : Int) < (l.length : Int) := by omega
        have gk : (k : Int) < (s.size : Int) := by omega
        by_cases h42 : n = 42
        · have e42 : ((n : Int) == 42) = true := beq_iff_eq.2 (by omega)
          have HN := Lib.hid (HSTAR.out h42); clear h42
          go_wp2
          go_roundw
          case rel => exact ⟨i + 1, k, i, k, by go_num, rfl, rfl, rfl, by omega, by omega, by omega, by omega, by omega, by omega, HN.out, hb⟩
          case measure =>
            have hm3 : meas l.length s.size (i + 1) k (i + 1) k < meas l.length s.size i k (b + 1).toNat f.toNat := meas_star (by omega) hlti
            have e2 : ((i : Int) + 1).toNat = i + 1 := by omega
            simpa [intOf, e2] using hm3
        · have e42 : ((n : Int) == 42) = false := beq_eq_false_iff_ne.2 (by omega)
          by_cases h63 : n = 63
          · have e63 : ((n : Int) == 63) = true := beq_iff_eq.2 (by omega)
            have HN := Lib.hid (HONE.out h42 (.inl h63)); clear h42 h63
            go_wp2
            go_quiet (fail)
            go_wp2
            go_roundw
            case rel => exact ⟨i + 1, k + 1, b, f, by go_num, by go_num, rfl, rfl, by omega, by omega, by omega, by omega, by omega, by omega, HN.out, below_drewN hb _⟩
            case measure => simpa [intOf] using (meas_one hlt : meas l.length s.size (i + 1) (k + 1) (b + 1).toNat f.toNat < meas l.length s.size i k (b + 1).toNat f.toNat)
          · have e63 : ((n : Int) == 63) = false := beq_eq_false_iff_ne.2 (by omega)
            by_cases h0 : n = 0
            · have e0 : ((n : Int) == 0) = true := beq_iff_eq.2 (by omega)
              by_cases hc : m = s[k].toNat
              · have ec : ((m : Int) == (s[k].toNat : Int)) = true := beq_iff_eq.2 (by omega)
                have HN := Lib.hid (HONE.out h42 (.inr ⟨h0, hc⟩)); clear h42 h63 h0 hc
                go_wp2
                go_quiet (fail)
                go_wp2
                go_roundw
                case rel => exact ⟨i + 1, k + 1, b, f, by go_num, by go_num, rfl, rfl, by omega, by omega, by omega, by omega, by omega, by omega, HN.out, below_drewN hb _⟩
                case measure => simpa [intOf] using (meas_one hlt : meas l.length s.size (i + 1) (k + 1) (b + 1).toNat f.toNat < meas l.length s.size i k (b + 1).toNat f.toNat)
              · have ec : ((m : Int) == (s[k].toNat : Int)) = false := beq_eq_false_iff_ne.2 (by omega)
                have HN := Lib.hid (HBAD.out h42 (by omega)); clear h42 h63 h0 hc
                by_cases hb0 : b < 0
                · have HF := Lib.hid (HN.out.1 hb0)
                  go_wp2
                  go_quiet (fail)
                  go_wp2
                  rw [Exit.noGoto_ret]
                  go_ret
                  exact ⟨rbool HF.out.symm, below_drewN hb _⟩
                · obtain ⟨β, φ, hbe, hfe, hβ, hφ, hinv2⟩ := HN.out.2 hb0
                  subst hbe
                  subst hfe
                  have HN2 := Lib.hid hinv2; clear hinv2 HN hb0
                  go_wp2
                  go_quiet (fail)
                  go_wp2
                  go_roundw
                  case rel => exact ⟨β + 1, φ + 1, β, ((φ + 1 : Nat) : Int), by go_num, by go_num, rfl, by go_num, by omega, by omega, by omega, by omega, by omega, by omega, HN2.out, below_drewN hb _⟩
                  case measure =>
                    have hm3 : meas l.length s.size (β + 1) (φ + 1) (β + 1) (φ + 1) < meas l.length s.size i k (β + 1) φ := meas_more (by omega)
                    have e1 : ((φ : Int) + 1).toNat = φ + 1 := by omega
                    have e2 : ((β : Int) + 1).toNat = β + 1 := by omega
                    simpa [intOf, e1, e2] using hm3
            · have e0 : ((n : Int) == 0) = false := beq_eq_false_iff_ne.2 (by omega)
              have HN := Lib.hid (HBAD.out h42 (by omega)); clear h42 h63 h0
              by_cases hb0 : b < 0
              · have HF := Lib.hid (HN.out.1 hb0)
                go_wp2
                go_quiet (fail)
                go_wp2
                rw [Exit.noGoto_ret]
                go_ret
                exact ⟨rbool HF.out.symm, below_drewN hb _⟩
              · obtain ⟨β, φ, hbe, hfe, hβ, hφ, hinv2⟩ := HN.out.2 hb0
                subst hbe
                subst hfe
                have HN2 := Lib.hid hinv2; clear hinv2 HN hb0
                go_wp2
                go_quiet (fail)
                go_wp2
                go_roundw
                case rel => exact ⟨β + 1, φ + 1, β, ((φ + 1 : Nat) : Int), by go_num, by go_num, rfl, by go_num, by omega, by omega, by omega, by omega, by omega, by omega, HN2.out, below_drewN hb _⟩
                case measure =>
                  have hm3 : meas l.length s.size (β + 1) (φ + 1) (β + 1) (φ + 1) < meas l.length s.size i k (β + 1) φ := meas_more (by omega)
                  have e1 : ((φ : Int) + 1).toNat = φ + 1 := by omega
                  have e2 : ((β : Int) + 1).toNat = β + 1 := by omega
                  simpa [intOf, e1, e2] using hm3
      · have hkl : k < s.data.toList.length := by rw [length_data]; exact hlt
        have HN : Hid (Step l s.data.toList b f k) := Lib.hid (by
          have bad : ∀ h : i < l.length, l[i].1 ≠ 42 ∧ one l[i] s.data.toList[k] = false := fun h' => absurd h' hlti
          exact ⟨fun hb => HI.out.fail hb hkl bad, fun hb => HI.out.more hb hkl bad⟩)
        have gi : decide ((i : Int) < (l.length : Int)) = false := decide_eq_false (by omega)
        clear hkl
        by_cases hb0 : b < 0
        · have HF := Lib.hid (HN.out.1 hb0)
          go_wp2
          go_quiet (fail)
          go_wp2
          rw [Exit.noGoto_ret]
          go_ret
          exact ⟨rbool HF.out.symm, below_drewN hb _⟩
        · obtain ⟨β, φ, hbe, hfe, hβ, hφ, hinv2⟩ := HN.out.2 hb0
          subst hbe
          subst hfe
          have HN2 := Lib.hid hinv2; clear hinv2 HN hb0
          go_wp2
          go_quiet (fail)
          go_wp2
          go_roundw
          case rel => exact ⟨β + 1, φ + 1, β, ((φ + 1 : Nat) : Int), by go_num, by go_num, rfl, by go_num, by omega, by omega, by omega, by omega, by omega, by omega, HN2.out, below_drewN hb _⟩
          case measure =>
            have hm3 : meas l.length s.size (β + 1) (φ + 1) (β + 1) (φ + 1) < meas l.length s.size i k (β + 1) φ := meas_more (by omega)
            have e1 : ((φ : Int) + 1).toNat = φ + 1 := by omega
            have e2 : ((β : Int) + 1).toNat = β + 1 := by omega
            simpa [intOf, e1, e2] using hm3
    · obtain rfl : k = s.size := by omega
      have HE : Hid (mat l s.data.toList = mat (l.drop i) []) := Lib.hid (by
        have := HI.out
        rw [← length_data s] at this
        exact this.fin)
      clear HI
      go_wp2
      go_loopw [5] (fun i wr => ∃ i' : Nat, i = .int .i64 i' ∧ i' ≤ l.length ∧ mat l s.data.toList = mat (l.drop i') [] ∧ Below w.heap.size w wr) (fun i _ => l.length - (intOf i).toNat)
      case atStart => exact ⟨i, rfl, hi, HE.out, hb⟩
      case round =>
        obtain ⟨j, rfl, hj, hmat, hb2⟩ := hrel
        have HM := Lib.hid hmat; clear hmat hb
        by_cases hlti : j < l.length
        · obtain ⟨bl, o, rfl, hbl, hc⟩ := HSL.out.keep hb2 j hlti
          have c0 : wr.cell? ⟨bl, o + j * 2, none⟩ = some (.int .u8 l[j].1.toNat) := hc 0 _ rfl
          have HSTAR : Hid (l[j].1.toNat = 42 → mat l s.data.toList = mat (l.drop (j + 1)) []) := Lib.hid (fun h => by rw [HM.out]; exact mat_end_star hlti (UInt8.toNat.inj h))
          have HOTH : Hid (l[j].1.toNat ≠ 42 → mat l s.data.toList = false) := Lib.hid (fun h => by rw [HM.out]; exact mat_end_other hlti (fun h3 => h (by rw [h3]; rfl)))
          have hn := l[j].1.toNat_lt
          generalize l[j].1.toNat = n at *
          clear hc
          have gi : (j : Int) < (l.length : Int) := by omega
          by_cases h42 : n = 42
          · have e42 : ((n : Int) == 42) = true := beq_iff_eq.2 (by omega)
            have HN := Lib.hid (HSTAR.out h42); clear h42
            go_wp2
            go_roundw
            case rel => exact ⟨j + 1, by go_num, by omega, HN.out, hb2⟩
            case measure => simp [intOf]; omega
          · have e42 : ((n : Int) == 42) = false := beq_eq_false_iff_ne.2 (by omega)
            have HN := Lib.hid (HOTH.out h42); clear h42
            have ej : ((j : Int) == (l.length : Int)) = false := beq_eq_false_iff_ne.2 (by omega)
            have ej2 : (j == l.length) = false := beq_eq_false_iff_ne.2 (by omega)
            go_wp2
            (try rw [Exit.noGoto_ret])
            go_ret
            exact ⟨rbool HN.out.symm, hb2⟩
        · obtain rfl : j = l.length := by omega
          have HN : Hid (mat l s.data.toList = true) := Lib.hid (by rw [HM.out, mat_end_nil])
          go_wp2
          (try rw [Exit.noGoto_ret])
          go_ret
          exact ⟨rbool HN.out.symm, hb2⟩
end Go.Proofs.Ytdpgbcogoilniaa
