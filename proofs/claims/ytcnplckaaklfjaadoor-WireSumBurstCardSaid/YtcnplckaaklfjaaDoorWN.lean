/- WireTruncated, WireRoundTrip: the laws' functions answer true. -/
import Derived.Test.YtcnplckaaklfjaaDoorWM
set_option linter.unusedSimpArgs false
set_option linter.unusedVariables false
namespace Go.Ev.W
open Go

theorem num_in {c : Int} (hc : I64 c) : inR (numP c) := by have := num_bound hc; unfold inR; omega
theorem P11_eq {c : Int} (hc : I64 c) : P11 c = true := P11_of c (G11_eq hc)
theorem F11_eq {c : Int} (hc : I64 c) : F11 c = numP c := F11_of c (G11_eq hc)
theorem P14_eq {c n : Int} (hc : I64 c) (hn : 0 < n) : P14 c n = true := P14_of _ _ (G14_eq hc hn)
theorem F14_eq {c n : Int} (hc : I64 c) (hn : 0 < n) : F14 c n = pickP c n := F14_of _ _ (G14_eq hc hn)
theorem P19_eq (s : List UInt8) : P19 s = true := P19_of _ (G19_eq s)
theorem F19_eq (s : List UInt8) : F19 s = putStr s := F19_of _ (G19_eq s)
theorem P20_eq (s : List UInt8) : P20 s = true := P20_of _ (G20_eq s)
theorem F20_eq (s : List UInt8) : F20 s = putStr s := F20_of _ (G20_eq s)
theorem P15_eq {s : List UInt8} (hs : s.length ≤ 140737488351232) (n : Int) : P15 s n = true := P15_of _ _ (G15_eq hs n)
theorem F15_eq {s : List UInt8} (hs : s.length ≤ 140737488351232) (n : Int) : F15 s n = intP s n := F15_of _ _ (G15_eq hs n)
theorem P16_eq {s : List UInt8} (hs : s.length ≤ 140737488351232) (n : Int) : P16 s n = true := P16_of _ _ (G16_eq hs n)
theorem F16_eq {s : List UInt8} (hs : s.length ≤ 140737488351232) (n : Int) : F16 s n = intP s n := F16_of _ _ (G16_eq hs n)
theorem P17_eq {s : List UInt8} (hs : s.length ≤ 140737488351232) (n : Int) : P17 s n = true := P17_of _ _ (G17_eq hs n)
theorem F17_eq {s : List UInt8} (hs : s.length ≤ 140737488351232) (n : Int) : F17 s n = strP s n := F17_of _ _ (G17_eq hs n)
theorem P18_eq {s : List UInt8} (hs : s.length ≤ 140737488351232) (n : Int) : P18 s n = true := P18_of _ _ (G18_eq hs n)
theorem F18_eq {s : List UInt8} (hs : s.length ≤ 140737488351232) (n : Int) : F18 s n = strP s n := F18_of _ _ (G18_eq hs n)
theorem P10_eq : P10 = true := P10_of sane
theorem F10_eq : F10 = true := F10_of sane
/-- The first bytes of a string. -/
theorem clip (m : Nat) (s : List UInt8) : (if (m : Int) < (s.length : Int) then (m : Int) else (s.length : Int)) = ((min s.length m : Nat) : Int) := by split <;> omega
theorem sliceTest_nat {a b n : Nat} (h1 : a ≤ b) (h2 : b ≤ n) : sliceTest (a : Int) (b : Int) (n : Int) = true := by simp [sliceTest]; omega
theorem cut0 (s : List UInt8) (b : Nat) : cut s (0 : Int) (b : Int) = s.take b := by simp [cut]
theorem sliceTest0 {b n : Nat} (h2 : b ≤ n) : sliceTest (0 : Int) (b : Int) (n : Int) = true := by simp [sliceTest]; omega
theorem take_min (s : List UInt8) (m : Nat) : s.take (min s.length m) = s.take m := by
  rcases Nat.le_total s.length m with h | h
  · rw [Nat.min_eq_left h, List.take_of_length_le (Nat.le_refl _), List.take_of_length_le h]
  · rw [Nat.min_eq_right h]
theorem pick_nat {c : Int} (hc : I64 c) {n : Nat} (hn : 0 < n) : ∃ k : Nat, pickP c (n : Int) = (k : Int) ∧ k < n := by
  have := pick_bound hc (n := (n : Int)) (by omega)
  exact ⟨(pickP c n).toNat, by omega, by omega⟩
theorem trunc_int {n : Int} {k : Nat} (hn : inR n) (hk : k < (enc n).length) : intP ((enc n).take k) (0 : Int) = (0, 0, 10) := by
  rcases int_cases ((enc n).take k) (k := 0) (by omega) with ⟨m, hm, hp, hi⟩ | hi
  · exfalso
    rw [List.drop_zero] at hp
    have h2 : enc m <+: enc n := hp.trans (List.take_prefix k _)
    have := enc_inj hm hn h2 (List.prefix_refl _)
    subst this
    have := hp.length_le
    rw [List.length_take] at this
    omega
  · exact hi
theorem encS_len_pos {t : List UInt8} (ht : t.length ≤ 65536) : 0 < (encS t).length := by
  have := enc_pos (inR_len ht); unfold encS; rw [List.length_append]; omega
theorem trunc_str {t : List UInt8} {k : Nat} (ht : t.length ≤ 65536) (hk : k < (encS t).length) : strP ((encS t).take k) (0 : Int) = ([], 0, 10) := by
  rcases str_cases ((encS t).take k) (k := 0) (by omega) with ⟨m, hm, hp, hi⟩ | hi
  · exfalso
    rw [List.drop_zero] at hp
    have h2 : encS m <+: encS t := hp.trans (List.take_prefix k _)
    have := encS_inj hm ht h2 (List.prefix_refl _)
    subst this
    have := hp.length_le
    rw [List.length_take] at this
    omega
  · exact hi
theorem encS_len {t : List UInt8} (ht : t.length ≤ 65536) : (encS t).length ≤ t.length + 9 := by
  have := enc_short (inR_len ht); unfold encS; rw [List.length_append]; omega
theorem WireTruncated_pure (x0 x1 : Int) (x2 : List UInt8) (x3 : Int) (g0 : (Lit.int .i64 x0).wf = true) (g1 : (Lit.int .i64 x1).wf = true) (_ : x2.length ≤ 140737488351232) (g3 : (Lit.int .i64 x3).wf = true) : G7 x0 x1 x2 x3 = some true := by
  have i0 := i64_of_wf g0
  have i1 := i64_of_wf g1
  have i3 := i64_of_wf g3
  have n0 := num_in i0
  have n1 := num_in i1
  obtain ⟨t, ht⟩ : ∃ t, t = x2.take 200 := ⟨_, rfl⟩
  have htl : t.length ≤ 200 := by rw [ht]; simp; omega
  have htl2 : t.length ≤ 65536 := by omega
  have e0 := enc_pos n0
  have s0 := enc_short n0
  have et := encS_len_pos htl2
  have etl := encS_len htl2
  obtain ⟨k, k1, k2⟩ := pick_nat i3 e0
  obtain ⟨j, j1, j2⟩ := pick_nat i3 et
  have c200' : (if (200 : Int) < (x2.length : Int) then (200 : Int) else (x2.length : Int)) = ((min x2.length 200 : Nat) : Int) := clip 200 x2
  have b1 : (((enc (numP x0)).length : Int) == 0) = false := beq_false_of_ne (by omega)
  have b2 : (((encS t).length : Int) == 0) = false := beq_false_of_ne (by omega)
  unfold G7
  simp only [P10_eq, P11_eq i0, F11_eq i0, P12_eq, F12_eq, P11_eq i1, F11_eq i1, cond_true, c200', sliceTest0 (Nat.min_le_left x2.length 200), cut0, take_min, ← ht, P19_eq, F19_eq,
    putInt_in n0, putInt_in n1, putStr_in htl2, bne_self_eq_false, cond_false, b1, b2, P14_eq i3 (show (0 : Int) < ((enc (numP x0)).length : Int) by omega), F14_eq i3 (show (0 : Int) < ((enc (numP x0)).length : Int) by omega),
    P14_eq i3 (show (0 : Int) < ((encS t).length : Int) by omega), F14_eq i3 (show (0 : Int) < ((encS t).length : Int) by omega), k1, j1, sliceTest0 (Nat.le_of_lt k2), sliceTest0 (Nat.le_of_lt j2),
    P15_eq (s := (enc (numP x0)).take k) (by simp; omega), F15_eq (s := (enc (numP x0)).take k) (by simp; omega), trunc_int n0 k2,
    P17_eq (s := (encS t).take j) (by simp; omega), F17_eq (s := (encS t).take j) (by simp; omega), trunc_str htl2 j2, F10_eq, beq_self_eq_true, Bool.true_or, Bool.and_self, Bool.not_true, Bool.or_false]
  have hs : (sliceTest 0 ((enc (numP x0)).length : Int) ((enc (numP x1)).length : Int) || !decide (((enc (numP x0)).length : Int) ≤ ((enc (numP x1)).length : Int))) = true := by
    by_cases h : (enc (numP x0)).length ≤ (enc (numP x1)).length
    · rw [sliceTest0 h]; rfl
    · have : decide (((enc (numP x0)).length : Int) ≤ ((enc (numP x1)).length : Int)) = false := by simp; omega
      rw [this]; simp
  simp only [Bool.and_true, hs, cond_true, Option.some.injEq]
  have hpre : (bif decide (((enc (numP x0)).length : Int) ≤ ((enc (numP x1)).length : Int)) then ((enc (numP x1)).take (enc (numP x0)).length == enc (numP x0)) else false) = (numP x0 == numP x1) := by
    by_cases hq : numP x0 = numP x1
    · rw [hq]; simp
    · have : (numP x0 == numP x1) = false := by simp [hq]
      rw [this]
      by_cases h : ((enc (numP x0)).length : Int) ≤ ((enc (numP x1)).length : Int)
      · simp only [h, decide_true, cond_true, beq_eq_false_iff_ne]
        intro h2
        have : enc (numP x0) <+: enc (numP x1) := by rw [List.prefix_iff_eq_take]; exact h2.symm
        exact hq (enc_inj n0 n1 this (List.prefix_refl _))
      · simp [h]
  rw [hpre]
  cases (numP x0 == numP x1) <;> rfl
theorem pre_mid (p a q : List UInt8) : a <+: (p ++ a ++ q).drop p.length := by
  rw [List.append_assoc, List.drop_left]; exact ⟨q, rfl⟩
theorem WireRoundTrip_pure (x0 : Int) (x1 : List UInt8) (x2 : List (List UInt8)) (g0 : (Lit.int .i64 x0).wf = true) (_ : x1.length ≤ 140737488351232) (g2 : x2.length = 2 ∧ ∀ x ∈ x2, x.length ≤ 140737488351232) : G4 x0 x1 x2 = some true := by
  have i0 := i64_of_wf g0
  have n0 := num_in i0
  obtain ⟨a, b, rfl⟩ : ∃ a b, x2 = [a, b] := by
    match x2, g2.1 with
    | [a, b], _ => exact ⟨a, b, rfl⟩
  obtain ⟨t, ht⟩ : ∃ t, t = x1.take 200 := ⟨_, rfl⟩
  obtain ⟨p, hp⟩ : ∃ t, t = a.take 200 := ⟨_, rfl⟩
  obtain ⟨q, hq⟩ : ∃ t, t = b.take 200 := ⟨_, rfl⟩
  have htl : t.length ≤ 200 := by rw [ht]; simp; omega
  have hpl : p.length ≤ 200 := by rw [hp]; simp; omega
  have hql : q.length ≤ 200 := by rw [hq]; simp; omega
  have htl2 : t.length ≤ 65536 := by omega
  have s0 := enc_short n0
  have etl := encS_len htl2
  have c200' : ∀ s : List UInt8, (if (200 : Int) < (s.length : Int) then (200 : Int) else (s.length : Int)) = ((min s.length 200 : Nat) : Int) := fun s => clip 200 s
  have d0 : (decide (0 ≤ (0 : Int)) && decide ((0 : Int) < ((2 : Nat) : Int))) = true := rfl
  have d1 : (decide (0 ≤ (1 : Int)) && decide ((1 : Int) < ((2 : Nat) : Int))) = true := rfl
  have d2 : decide (Int.toNat (0 : Int) < [a, b].length) = true := rfl
  have d3 : decide (Int.toNat (1 : Int) < [a, b].length) = true := rfl
  have l1 : decide (p.length + (enc (numP x0)).length ≤ 9223372036854775807) = true := by simp; omega
  have l2 : decide ((p ++ enc (numP x0)).length + q.length ≤ 9223372036854775807) = true := by simp; omega
  have l3 : decide (p.length + (encS t).length ≤ 9223372036854775807) = true := by simp; omega
  have l4 : decide ((p ++ encS t).length + q.length ≤ 9223372036854775807) = true := by simp; omega
  have a1 := int_accepts (s := p ++ enc (numP x0) ++ q) (k := p.length) (by simp) n0 (pre_mid p _ q)
  have a2 := str_accepts (s := p ++ encS t ++ q) (k := p.length) (by simp) htl2 (pre_mid p _ q)
  have w1 : IntKind.i64.wrap ((p.length : Int) + ((enc (numP x0)).length : Int)) = (p.length : Int) + ((enc (numP x0)).length : Int) := wrap_i64 (by omega) (by omega)
  have w2 : IntKind.i64.wrap ((p.length : Int) + ((encS t).length : Int)) = (p.length : Int) + ((encS t).length : Int) := wrap_i64 (by omega) (by omega)
  have z1 : [a, b].getD (Int.toNat (0 : Int)) [] = a := rfl
  have z2 : [a, b].getD (Int.toNat (1 : Int)) [] = b := rfl
  unfold G4
  simp only [P10_eq, P11_eq i0, F11_eq i0, P12_eq, F12_eq, cond_true, d0, d1, d2, d3, z1, z2, c200', sliceTest0 (Nat.min_le_left _ 200), cut0, take_min, ← ht, ← hp, ← hq, P19_eq, F19_eq, putInt_in n0, putStr_in htl2, l1, l2, l3, l4,
    P15_eq (s := p ++ enc (numP x0) ++ q) (by simp; omega), F15_eq (s := p ++ enc (numP x0) ++ q) (by simp; omega), a1, P17_eq (s := p ++ encS t ++ q) (by simp; omega), F17_eq (s := p ++ encS t ++ q) (by simp; omega), a2, F10_eq, w1, w2, beq_self_eq_true]
end Go.Ev.W
