/- The reference's Int. -/
import Derived.Test.YtcnplckaaklfjaaDoorWI
set_option linter.unusedSimpArgs false
set_option linter.unusedVariables false
namespace Go.Ev.W
open Go

/-- The reference's end: what was read is encoded again. -/
def refTail (s : List UInt8) (a : Nat) (z j : Nat) : Int × Int × Int :=
  if (putInt (unzz z)).2 ≠ 0 ∨ (putInt (unzz z)).1 ≠ (s.take (a + j + 1)).drop a then (0, 0, 10) else (unzz z, (a : Int) + j + 1, 0)
theorem ref_int_round {s : List UInt8} {a i z : Nat} (ha : a + i < s.length) (hs : s.length ≤ 140737488351232) (hi : i < 9) (hz : z < 128 ^ i) :
    L16_5_r s (a : Int) (z : Int) (i : Int) = if 128 ≤ (s.getD (a + i) 0).toNat then some (.inl (s, (a : Int), ((z + (s.getD (a + i) 0).toNat % 128 * 128 ^ i : Nat) : Int), ((i + 1 : Nat) : Int)))
      else some (.inr (.inl (refTail s a (z + (s.getD (a + i) 0).toNat % 128 * 128 ^ i) i))) := by
  obtain ⟨b, hb⟩ : ∃ b, b = (s.getD (a + i) 0).toNat := ⟨_, rfl⟩
  have hbl : b < 256 := by rw [hb]; exact (s.getD (a + i) 0).toNat_lt
  have hp := pow_le9 (by omega : i ≤ 8)
  obtain ⟨x, hx⟩ : ∃ x, x = b % 128 * 128 ^ i := ⟨_, rfl⟩
  have hxl : x ≤ 127 * 128 ^ i := by rw [hx]; exact Nat.mul_le_mul_right _ (by omega)
  obtain ⟨z', hz'⟩ : ∃ z', z' = z + x := ⟨_, rfl⟩
  have hzb : z' < 9223372036854775808 := by omega
  have e0 : IntKind.i64.wrap ((a : Int) + (i : Int)) = ((a + i : Nat) : Int) := by rw [wrap_i64 (by omega) (by omega)]; omega
  have e1 : IntKind.i64.wrap ((7 : Int) * (i : Int)) = ((7 * i : Nat) : Int) := by rw [wrap_i64 (by omega) (by omega)]; omega
  have e2 : IntKind.u64.wrap (b : Int) = (b : Int) := by rw [IntKind.wrap_u64]; omega
  have e3 : Int.tmod (b : Int) 128 = ((b % 128 : Nat) : Int) := by rw [Int.tmod_eq_emod_of_nonneg (by omega)]; omega
  have e4 : IntKind.u64.wrap (((b % 128 : Nat) : Int) * 2 ^ min (Int.toNat ((7 * i : Nat) : Int)) (IntKind.u64.bits)) = ((x : Nat) : Int) := by
    have : min (Int.toNat ((7 * i : Nat) : Int)) (IntKind.u64.bits) = 7 * i := by
      rw [Int.toNat_natCast]; show min (7 * i) 64 = _; omega
    rw [this, IntKind.wrap_u64]
    have hh : ((b % 128 : Nat) : Int) * 2 ^ (7 * i) = ((x : Nat) : Int) := by
      rw [hx, ← pow7]; push_cast; rfl
    rw [hh]; omega
  have e5 : IntKind.u64.wrap ((z : Int) + (x : Int)) = ((z' : Nat) : Int) := by rw [IntKind.wrap_u64]; omega
  have e6 : IntKind.i64.wrap ((i : Int) + 1) = ((i + 1 : Nat) : Int) := by rw [wrap_i64 (by omega) (by omega)]; omega
  have e7 : IntKind.i64.wrap (((a + i : Nat) : Int) + 1) = ((a + i + 1 : Nat) : Int) := by rw [wrap_i64 (by omega) (by omega)]; omega
  have e8 : IntKind.i64.wrap (IntKind.u64.wrap (Int.tdiv (z' : Int) 2)) = ((z' / 2 : Nat) : Int) := by
    rw [Int.tdiv_eq_ediv_of_nonneg (by omega), IntKind.wrap_u64, wrap_i64 (by omega) (by omega)]; omega
  have e9 : Int.tmod (z' : Int) 2 = ((z' % 2 : Nat) : Int) := by rw [Int.tmod_eq_emod_of_nonneg (by omega)]; omega
  have t1 : decide ((i : Int) < 9) = true := by simp; omega
  have t2 : decide (((a + i : Nat) : Int) < (s.length : Int)) = true := by simp; omega
  have t3 : decide ((0 : Int) ≤ ((a + i : Nat) : Int)) = true := by simp; omega
  have t4 : decide ((0 : Int) ≤ ((7 * i : Nat) : Int)) = true := by simp; omega
  have t5 : sliceTest (a : Int) ((a + i + 1 : Nat) : Int) s.length = true := by simp [sliceTest]; omega
  have hcut : cut s (a : Int) ((a + i + 1 : Nat) : Int) = (s.take (a + i + 1)).drop a := by simp only [cut, Int.toNat_natCast]
  have tail : ∀ n : Int, n = unzz z' → (bif (bif ((putInt n).2 != (0 : Int)) then true else !((putInt n).1 == (s.take (a + i + 1)).drop a)) then
      (some (.inr (.inl ((0 : Int), (0 : Int), (10 : Int)))) : Option (((List UInt8) × Int × Int × Int) ⊕ ((Int × Int × Int) ⊕ ((List UInt8) × Int × Int × Int))))
      else some (.inr (.inl (n, ((a + i + 1 : Nat) : Int), (0 : Int))))) = some (.inr (.inl (refTail s a z' i))) := by
    rintro n rfl
    unfold refTail
    by_cases h1 : (putInt (unzz z')).2 = 0
    · by_cases h2 : (putInt (unzz z')).1 = (s.take (a + i + 1)).drop a
      · have q1 : ((putInt (unzz z')).2 != (0 : Int)) = false := by simp [h1]
        have q2 : (!((putInt (unzz z')).1 == (s.take (a + i + 1)).drop a)) = false := by simp [h2]
        rw [q1, q2, if_neg (by simp [h1, h2])]
        simp only [cond_false]
        congr 4
      · have q1 : ((putInt (unzz z')).2 != (0 : Int)) = false := by simp [h1]
        have q2 : (!((putInt (unzz z')).1 == (s.take (a + i + 1)).drop a)) = true := by simp [h2]
        rw [q1, q2, if_pos (.inr h2)]
        rfl
    · have q1 : ((putInt (unzz z')).2 != (0 : Int)) = true := by simp [h1]
      rw [q1, if_pos (.inl h1)]
      rfl
  unfold L16_5_r
  simp only [t1, cond_true, e0, t2, t3, Bool.and_self, Int.toNat_natCast]
  rw [← hb, ← hx, ← hz']
  simp only [e1, t4, cond_true, e2, e3, e4, e5, e6, e7, e8, e9]
  by_cases h : 128 ≤ b
  · have t : decide ((b : Int) ≥ 128) = true := by simp; omega
    simp only [t, cond_true, if_pos h]
  · have t : decide ((b : Int) ≥ 128) = false := by simp; omega
    simp only [t, cond_false, if_neg h, P13_eq, F13_eq, cond_true, t5, Bool.true_or, hcut]
    rcases Nat.mod_two_eq_zero_or_one z' with h2 | h2
    · have tb : (((z' % 2 : Nat) : Int) == 1) = false := by rw [h2]; rfl
      simp only [tb, cond_false]
      exact tail _ (by unfold unzz; rw [if_pos h2])
    · have tb : (((z' % 2 : Nat) : Int) == 1) = true := by rw [h2]; rfl
      have e10 : IntKind.i64.wrap (IntKind.i64.wrap (0 - ((z' / 2 : Nat) : Int)) - 1) = unzz z' := by
        rw [wrap_i64 (n := 0 - ((z' / 2 : Nat) : Int)) (by omega) (by omega), wrap_i64 (by omega) (by omega)]
        unfold unzz; rw [if_neg (by omega)]; omega
      simp only [tb, cond_true, e10]
      exact tail _ rfl
def res16 : (Int × Int × Int) ⊕ ((List UInt8) × Int × Int × Int) → Int × Int × Int
  | .inl r => (r.1, r.2.1, r.2.2)
  | .inr _ => (0, 0, 10)
def refEnd (s : List UInt8) (a : Nat) : Option (Nat × Nat × Nat) → Int × Int × Int
  | none => (0, 0, 10)
  | some (z, j, _) => refTail s a z j
theorem ref_int_loop {s : List UInt8} {a : Nat} (hs : s.length ≤ 140737488351232) (ha : a ≤ s.length) : ∀ (f i z : Nat), i + f = 9 → z < 128 ^ i → (L16_5 (s, (a : Int), (z : Int), (i : Int))).map res16 = some (refEnd s a (scan s a f i z))
  | 0, i, z, hi, hz => by
    have : i = 9 := by omega
    subst this
    unfold L16_5
    rw [lim_step]
    simp [L16_5_r, res16, scan, refEnd]
  | f + 1, i, z, hi, hz => by
    unfold L16_5
    rw [lim_step]
    by_cases hl : a + i < s.length
    · simp only [ref_int_round hl hs (by omega : i < 9) hz, scan, if_pos hl]
      by_cases h : 128 ≤ (s.getD (a + i) 0).toNat
      · simp only [if_pos h]
        have hz' : z + (s.getD (a + i) 0).toNat % 128 * 128 ^ i < 128 ^ (i + 1) := by
          have h1 : (s.getD (a + i) 0).toNat % 128 * 128 ^ i ≤ 127 * 128 ^ i := Nat.mul_le_mul_right _ (by omega)
          rw [Nat.pow_succ]; omega
        have := ref_int_loop hs ha f (i + 1) _ (by omega) hz'
        unfold L16_5 at this
        exact this
      · simp only [if_neg h]
        rfl
    · have t1 : decide ((i : Int) < 9) = true := by simp; omega
      have e0 : IntKind.i64.wrap ((a : Int) + (i : Int)) = ((a + i : Nat) : Int) := by rw [wrap_i64 (by omega) (by omega)]; omega
      have t2 : decide (((a + i : Nat) : Int) < (s.length : Int)) = false := by simp; omega
      have hr : L16_5_r s (a : Int) (z : Int) (i : Int) = some (.inr (.inr (s, (a : Int), (z : Int), (i : Int)))) := by
        unfold L16_5_r
        simp only [t1, e0, t2, cond_true, cond_false]
      simp only [hr, scan, if_neg hl]
      rfl
theorem prefix_cut {l s : List UInt8} {a : Nat} (h : l <+: s.drop a) : (s.take (a + l.length)).drop a = l := by
  rw [List.drop_take, Nat.add_sub_cancel_left]
  exact (List.prefix_iff_eq_take.1 h).symm
theorem tail_eq {s : List UInt8} {a z j b : Nat} (h : scan s a 9 0 0 = some (z, j, b)) : refTail s a z j = intTail (a : Int) (some (z, j, b)) := by
  obtain ⟨l, h1, h2, h3, h4, h5, h6, h7⟩ := scan_some h
  simp only [Nat.pow_zero, Nat.mul_one, Nat.zero_add, Nat.add_zero] at h3 h4 h5
  have hv := val_lt l
  have hz : z < 9223372036854775808 := by
    have : 128 ^ l.length ≤ 128 ^ 9 := Nat.pow_le_pow_right (by omega) h2
    have e : (128 : Nat) ^ 9 = 9223372036854775808 := by decide
    omega
  have hcut : (s.take (a + j + 1)).drop a = l := by
    rw [show a + j + 1 = a + l.length by omega]; exact prefix_cut h3
  have hup : unzz z ≤ 4611686018427387903 := by unfold unzz; split <;> omega
  have hit : intTail (a : Int) (some (z, j, b)) = if (b = 0 ∧ 0 < j) ∨ unzz z < -4611686018427387903 then (0, 0, 10) else (unzz z, (a : Int) + j + 1, 0) := rfl
  rw [hit]
  unfold refTail
  rw [hcut]
  by_cases hn : unzz z < -4611686018427387903
  · have hq : (putInt (unzz z)).2 ≠ 0 := by unfold putInt; rw [if_pos (.inl hn)]; decide
    rw [if_pos (.inl hq), if_pos (.inr hn)]
  · have hp : putInt (unzz z) = (encN z, 0) := by unfold putInt; rw [if_neg (by omega), zz_unzz]
    rw [hp]
    have hiff : encN z = l ↔ canon l := by rw [h4]; exact enc_iff h1 h2
    have hc : canon l ↔ ¬ (b = 0 ∧ 0 < j) := by
      unfold canon
      have hb : b = 0 ↔ l.getLastD 0 = 0 := by
        rw [h6]
        exact ⟨fun q => UInt8.toNat_inj.1 (by simpa using q), fun q => by rw [q]; rfl⟩
      rw [hb]
      constructor
      · rintro (q | q) ⟨q1, q2⟩
        · omega
        · exact q q1
      · intro q
        by_cases q1 : l.length = 1
        · exact .inl q1
        · exact .inr fun q2 => q ⟨q2, by omega⟩
    by_cases hb : b = 0 ∧ 0 < j
    · rw [if_pos (.inr (fun q => (hc.1 (hiff.1 q)) hb)), if_pos (.inl hb)]
    · rw [if_neg (by
        rintro (q | q)
        · exact q rfl
        · exact q (hiff.2 (hc.2 hb))), if_neg (by
        rintro (q | q)
        · exact hb q
        · exact hn q)]
/-- **The reference's Int.** -/
theorem G16_eq {s : List UInt8} (hs : s.length ≤ 140737488351232) (n : Int) : G16 s n = some (intP s n) := by
  unfold G16 intP
  by_cases h : n < 0 ∨ n > s.length
  · have : (bif decide (n < 0) then true else decide (n > ((s.length : Nat) : Int))) = true := by
      rcases h with h | h <;> simp [h]
    simp only [this, cond_true, if_pos h]
  · have : (bif decide (n < 0) then true else decide (n > ((s.length : Nat) : Int))) = false := by
      rw [decide_eq_false (by omega), decide_eq_false (by omega)]; rfl
    obtain ⟨a, rfl⟩ : ∃ a : Nat, n = a := ⟨n.toNat, by omega⟩
    have hl := ref_int_loop hs (by omega : a ≤ s.length) 9 0 0 rfl (by decide)
    simp only [this, cond_false, if_neg h, Int.toNat_natCast]
    have hl' : (L16_5 (s, (a : Int), (0 : Int), (0 : Int))).map res16 = _ := hl
    have he : refEnd s a (scan s a 9 0 0) = intTail (a : Int) (scan s a 9 0 0) := by
      cases hsc : scan s a 9 0 0 with
      | none => rfl
      | some p => obtain ⟨z, j, b⟩ := p; exact tail_eq hsc
    cases hx : L16_5 (s, (a : Int), (0 : Int), (0 : Int)) with
    | none => rw [hx] at hl'; cases hl'
    | some x =>
      rw [hx] at hl'
      simp only [Option.map_some, Option.some.injEq] at hl'
      rw [← he, ← hl', Option.bind_some]
      rcases x with x | x <;> rfl
end Go.Ev.W
