/-
  The contracts of Clean, the law's clean, and Join.
-/
import Derived.Test.YtkpnhiafdfbogaaDoorC
import Derived.Test.YtkpnhiafdfbogaaDoorJ2
set_option linter.unusedVariables false
set_option linter.unusedSimpArgs false
namespace Go.Proofs.YtkpnhiafdfbogaaDoor
open Go.RowKit
theorem tailP_join : ∀ l : List Bs, Lib.joinTail [47] l = tailP l
  | [] => rfl
  | x :: l => by
    have ih := tailP_join l
    unfold Lib.joinTail at ih ⊢
    rw [List.map_cons, List.flatten_cons, ih]; rfl
theorem clean_join (l : Bs) : cleanP l = 47 :: Lib.join (partsP l) [47] := by
  unfold cleanP
  cases h : partsP l with
  | nil => rw [if_pos rfl]; rfl
  | cons x r => rw [if_neg (by simp), Lib.join_cons, tailP_join]; rfl
theorem tailP_snoc : ∀ (l : List Bs) (x : Bs), tailP (l ++ [x]) = tailP l ++ 47 :: x
  | [], x => by simp [tailP]
  | y :: l, x => by
    rw [List.cons_append, tailP, tailP_snoc l x, tailP]; simp
theorem lens_cut : ∀ (l part : Bs), Lib.lens (cutP part l) ≤ part.length + l.length
  | [], part => by rw [cutP_nil]; simp [Lib.lens]
  | c :: r, part => by
    by_cases hc : c = 47
    · subst hc
      have := lens_cut r []
      rw [cutP_slash]
      simp only [Lib.lens, List.map_cons, List.sum_cons, List.length_cons, List.length_nil] at this ⊢
      omega
    · have := lens_cut r (part ++ [c])
      rw [cutP_other _ _ hc]
      simp only [List.length_append, List.length_cons, List.length_nil] at this ⊢
      omega
theorem lens_app (a b : List Bs) : Lib.lens (a ++ b) = Lib.lens a + Lib.lens b := by simp [Lib.lens]
theorem lens_drop (a : List Bs) : Lib.lens a.dropLast ≤ Lib.lens a := by
  rw [List.dropLast_eq_take]; exact Lib.lens_take_le a _
theorem lens_step (out : List Bs) (p : Bs) : Lib.lens (stepP out p) ≤ Lib.lens out + p.length := by
  unfold stepP
  split
  · have := lens_drop out; omega
  · split
    · omega
    · rw [lens_app]; simp [Lib.lens]
theorem lens_fold : ∀ (l out : List Bs), Lib.lens (l.foldl stepP out) ≤ Lib.lens out + Lib.lens l
  | [], out => by simp [Lib.lens]
  | x :: l, out => by
    have h1 := lens_fold l (stepP out x)
    have h2 := lens_step out x
    rw [List.foldl_cons]
    have h3 : Lib.lens (x :: l) = x.length + Lib.lens l := by simp [Lib.lens]
    omega
theorem len_fold : ∀ (l out : List Bs), (l.foldl stepP out).length ≤ out.length + l.length
  | [], out => by simp
  | x :: l, out => by
    have h1 := len_fold l (stepP out x)
    have h2 := stepP_len out x
    rw [List.foldl_cons]
    simp only [List.length_cons]
    omega
theorem parts_lens (l : Bs) : Lib.lens (partsP l) ≤ l.length := by
  have h1 := lens_fold (cutP [] l) []
  have h2 := lens_cut l []
  have h3 : Lib.lens ([] : List Bs) = 0 := rfl
  unfold partsP
  simp only [List.length_nil] at h2
  omega
theorem parts_len (l : Bs) : (partsP l).length ≤ l.length + 1 := by
  have h1 := len_fold (cutP [] l) []
  have h2 := cutC_len 47 l []
  unfold partsP
  simp only [List.length_nil, Nat.zero_add] at h1
  exact Nat.le_trans h1 h2
theorem tailP_len : ∀ l : List Bs, (tailP l).length = l.length + Lib.lens l
  | [] => rfl
  | x :: l => by
    have ih := tailP_len l
    have h3 : Lib.lens (x :: l) = x.length + Lib.lens l := by simp [Lib.lens]
    rw [tailP, List.length_append, List.length_cons, List.length_cons, ih, h3]; omega
theorem clean_len (l : Bs) : (cleanP l).length ≤ 2 * l.length + 1 := by
  have h1 := parts_lens l; have h2 := parts_len l
  unfold cleanP
  split
  · simp
  · rw [tailP_len]; omega
def cleanT (s : ByteArray) : ByteArray := toB (cleanP s.data.toList)
theorem cleanT_size (s : ByteArray) : (cleanT s).size ≤ 2 * s.size + 1 := by
  unfold cleanT
  rw [toB_size]
  have := clean_len s.data.toList
  rwa [length_data] at this
set_option maxRecDepth 100000 in
set_option maxHeartbeats 4000000 in
theorem clean_any (s : ByteArray) (w : World) (hs : s.size ≤ 100000) (hm : GM w) :
    Calls Tryd.prog 10 #[.string s] w fun e w' => e = .returned (.string (cleanT s)) ∧ Below w.heap.size w w' := by
  have T1 := Lib.hid (parts_any s w hs hm)
  have hmap : (partsT s).map (·.data.toList) = partsP s.data.toList := by
    unfold partsT
    rw [List.map_map]
    have : ((fun x : ByteArray => x.data.toList) ∘ toB) = id := funext fun x => data_toB x
    rw [this, List.map_id]
  have hjl : (Lib.join (partsP s.data.toList) [47]).length ≤ 200001 := by
    have h1 := clean_len s.data.toList
    rw [clean_join, List.length_cons, length_data] at h1
    omega
  have hpl : (partsT s).length ≤ 100001 := by
    unfold partsT
    rw [List.length_map]
    have := parts_len s.data.toList
    rw [length_data] at this
    omega
  have HR : Hid (cleanT s = (⟨#[47]⟩ : ByteArray) ++ ⟨(Lib.join (partsP s.data.toList) [47]).toArray⟩) := Lib.hid (by
    unfold cleanT
    rw [clean_join]
    apply ByteArray.ext
    apply Array.toList_inj.1
    rw [data_toB, ByteArray.data_append, Array.toList_append]
    rfl)
  have T2 : Hid (∀ (W : World) (a : Option Addr) (c : Nat), (partsT s).length ≤ c → Sl strC 1 W a (partsT s) → Calls Tryd.prog 13 #[.slice a (partsT s).length c, .string ⟨#[47]⟩] W fun e w' => e = .returned (.string ⟨(Lib.join (partsP s.data.toList) [47]).toArray⟩) ∧ Below W.heap.size W w') := Lib.hid (fun W a c hc h => by
    by_cases h0 : (partsT s).length = 0
    · have he : partsP s.data.toList = [] := by
        unfold partsT at h0
        rw [List.length_map] at h0
        exact List.eq_nil_of_length_eq_zero h0
      rw [h0, he]
      exact (join_none a c ⟨#[47]⟩ W).mono fun e w' ⟨h1, h2⟩ => ⟨h1, h2 ▸ Below.refl _ _⟩
    · obtain ⟨b, o, rfl, hb, _⟩ := h 0 (by omega)
      have := join_any b o c (partsT s) ⟨#[47]⟩ W (fun j x hx => by
        obtain ⟨hj, rfl⟩ := List.getElem?_eq_some_iff.1 hx
        obtain ⟨b2, o2, e2, _, hc2⟩ := h j hj
        simp only [Option.some.injEq, Addr.mk.injEq, and_true] at e2
        obtain ⟨rfl, rfl⟩ := e2
        have := hc2 0 _ rfl
        rwa [Nat.mul_one, Nat.add_zero] at this) hb (by omega) hc (by rw [hmap]; show (Lib.join _ [47]).length ≤ _; omega)
      rw [hmap] at this
      exact this)
  obtain ⟨J, hJ⟩ : ∃ J : ByteArray, J = ⟨(Lib.join (partsP s.data.toList) [47]).toArray⟩ := ⟨_, rfl⟩
  have hJs : J.size ≤ 200001 := by rw [hJ]; show (toB _).size ≤ _; rw [toB_size]; exact hjl
  rw [← hJ] at HR T2
  clear hm hmap hjl hpl hJ
  go_enter Tryd.func10, Tryd.ntmps10
  go_wp2_with fail
  refine T1.out.mono ?_
  rintro e w1 ⟨⟨a, c, rfl, hle, hsl⟩, hb⟩
  have HB1 := Lib.hid hb; have HSL := Lib.hid hsl; have HLE := Lib.hid hle
  clear hb hsl hle
  go_wp2_with fail
  refine (T2.out w1 a c HLE.out HSL.out).mono ?_
  rintro e w2 ⟨rfl, hb⟩
  have HB2 := Lib.hid (below_cons HB1.out hb)
  clear hb
  go_wp2
  go_ret
  exact ⟨by rw [HR.out]; rfl, HB2.out⟩
theorem toB_app (a b : Bs) : toB (a ++ b) = toB a ++ toB b := by
  apply ByteArray.ext
  apply Array.toList_inj.1
  rw [data_toB, ByteArray.data_append, Array.toList_append, data_toB, data_toB]
def jnP (ps : List Bs) (k : Nat) : ByteArray := if k = 0 then ⟨#[47]⟩ else toB (tailP (ps.take k))
theorem jnP_first {ps : List Bs} (h : 0 < ps.length) : jnP ps 1 = jnP ps 0 ++ toB ps[0] := by
  unfold jnP
  rw [if_neg (by omega), if_pos rfl]
  cases ps with
  | nil => simp at h
  | cons x l =>
    have h2 : tailP ((x :: l).take 1) = [47] ++ x := by simp [tailP]
    rw [h2]
    exact toB_app [47] x
theorem jnP_next {ps : List Bs} {k : Nat} (h : k < ps.length) (h0 : 0 < k) : jnP ps (k + 1) = jnP ps k ++ (⟨#[47]⟩ : ByteArray) ++ toB ps[k] := by
  unfold jnP
  rw [if_neg (by omega), if_neg (by omega), List.take_succ_eq_append_getElem h, tailP_snoc, show (tailP (ps.take k) ++ 47 :: ps[k]) = (tailP (ps.take k) ++ [47]) ++ ps[k] by simp, toB_app, toB_app]
  rfl
theorem jnP_end {l : Bs} : jnP (partsP l) (partsP l).length = toB (cleanP l) := by
  unfold jnP cleanP
  by_cases h : partsP l = []
  · rw [if_pos (by rw [h]; rfl), if_pos h]; rfl
  · rw [if_neg (fun e => h (List.eq_nil_of_length_eq_zero e)), if_neg h, List.take_length]
theorem jnP_size (ps : List Bs) (k : Nat) : (jnP ps k).size ≤ ps.length + Lib.lens ps + 1 := by
  unfold jnP
  split
  · show 1 ≤ _; omega
  · rw [toB_size, tailP_len]
    have := Lib.lens_take_le ps k
    rw [List.length_take]; omega
set_option maxRecDepth 100000 in
set_option maxHeartbeats 4000000 in
theorem rclean_any (s : ByteArray) (w : World) (hs : s.size ≤ 100000) :
    Calls Tryd.prog 6 #[.string s] w fun e w' => e = .returned (.string (cleanT s)) ∧ Below w.heap.size w w' := by
  have T1 := Lib.hid (rparts_any s w hs)
  have HEND : Hid (jnP (partsP s.data.toList) (partsP s.data.toList).length = cleanT s) := Lib.hid jnP_end
  have hlz := parts_lens s.data.toList; have hpl := parts_len s.data.toList
  rw [length_data] at hlz hpl
  have HPT : Hid (∀ W a, Sl strC 1 W a (partsT s) → Sl strC 1 W a ((partsP s.data.toList).map toB)) := Lib.hid (fun W a h => h)
  have hLT : (partsT s).length = (partsP s.data.toList).length := by unfold partsT; rw [List.length_map]
  obtain ⟨ps, hps⟩ : ∃ ps, ps = partsP s.data.toList := ⟨_, rfl⟩
  rw [← hps] at HEND HPT hLT hpl hlz
  have hjz := fun k => jnP_size ps k
  have HJZ : Hid (∀ k, (jnP ps k).size ≤ 300000) := Lib.hid (fun k => by have := hjz k; omega)
  have HEZ : Hid (∀ k (h : k < ps.length), ps[k].length ≤ 100000) := Lib.hid (fun k h => by
    have h2 : ps[k].length ≤ Lib.lens ps := by
      have h3 := Lib.lens_take_succ ps k ps[k] (List.getElem?_eq_getElem h)
      have h4 := Lib.lens_take_le ps (k + 1)
      omega
    omega)
  obtain ⟨L, hL⟩ : ∃ L, L = ps.length := ⟨_, rfl⟩
  rw [← hL] at HEND hLT hpl
  have HL := Lib.hid hL
  have HLT := Lib.hid hLT
  clear hps hL hLT hlz hjz
  go_enter Tryd.func6, Tryd.ntmps6
  go_wp2_with fail
  refine T1.out.mono ?_
  rintro e w1 ⟨⟨a, c, rfl, hle, hsl⟩, hb⟩
  have HB1 := Lib.hid hb; have HSL := Lib.hid (HPT.out _ _ hsl)
  rw [HLT.out]
  clear hb hsl hle
  go_wp2
  go_loopw [4, 5] (fun v kv wr => ∃ k : Nat, kv = .int .i64 k ∧ k ≤ L ∧ v = .string (jnP ps k) ∧ wr = w1) (fun _ kv _ => L - (intOf kv).toNat)
  case atStart => exact ⟨0, rfl, by omega, rfl, rfl⟩
  case round =>
    obtain ⟨k, rfl, hk, rfl, rfl⟩ := hrel
    by_cases hlt : k < L
    · have hkl : k < ps.length := by rw [← HL.out]; exact hlt
      have g1 : (k : Int) < (L : Int) := by omega
      obtain ⟨b, o, rfl, hb2, hcc⟩ := HSL.out k (by rw [List.length_map]; exact hkl)
      have c1 : wr.cell? ⟨b, o + k, none⟩ = some (.string (toB ps[k])) := by
        have := hcc 0 _ rfl
        rw [Nat.mul_one, Nat.add_zero, List.getElem_map] at this
        exact this
      have z1 := HJZ.out k
      have z2 : (toB ps[k]).size ≤ 100000 := by rw [toB_size]; exact HEZ.out k hkl
      clear hcc hb2
      by_cases h0 : k = 0
      · subst h0
        have HN : Hid (jnP ps 1 = jnP ps 0 ++ toB ps[0]) := Lib.hid (jnP_first hkl)
        obtain ⟨X, hX⟩ : ∃ X, X = toB ps[0] := ⟨_, rfl⟩
        rw [← hX] at c1 z2 HN
        obtain ⟨Y, hY⟩ : ∃ Y, Y = jnP ps 0 := ⟨_, rfl⟩
        rw [← hY] at z1 HN ⊢
        clear hX hY
        simp only [Nat.add_zero, Int.natCast_zero, Int.ofNat_zero] at c1 g1 ⊢
        go_wp2
        go_roundw
        case rel => exact ⟨1, by go_num, by omega, by rw [HN.out], by first | trivial | rfl⟩
        case measure => simp [intOf]; omega
      · have HN : Hid (jnP ps (k + 1) = jnP ps k ++ (⟨#[47]⟩ : ByteArray) ++ toB ps[k]) := Lib.hid (jnP_next hkl (by omega))
        obtain ⟨X, hX⟩ : ∃ X, X = toB ps[k] := ⟨_, rfl⟩
        rw [← hX] at c1 z2 HN
        obtain ⟨Y, hY⟩ : ∃ Y, Y = jnP ps k := ⟨_, rfl⟩
        rw [← hY] at z1 HN ⊢
        have g2 : (0 : Int) < (k : Int) := by omega
        have g3 : 0 < k := by omega
        clear hX hY
        go_wp2
        go_roundw
        case rel => exact ⟨k + 1, by go_num, by omega, by rw [HN.out], by first | trivial | rfl⟩
        case measure => simp [intOf]; omega
    · obtain rfl : L = k := by omega
      have hkk : ¬ (L : Int) < (L : Int) := by omega
      go_wp2
      go_ret
      exact ⟨by rw [← HEND.out]; rfl, HB1.out⟩
end Go.Proofs.YtkpnhiafdfbogaaDoor

