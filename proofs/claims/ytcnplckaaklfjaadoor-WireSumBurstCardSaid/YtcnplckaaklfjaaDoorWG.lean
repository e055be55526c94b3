/- Int. -/
import Derived.Test.YtcnplckaaklfjaaDoorWF
import Derived.Laws.DeepNot64
set_option linter.unusedSimpArgs false
set_option linter.unusedVariables false
namespace Go.Ev.W
open Go

theorem or_split (k y b : Nat) (hb : b < 2 ^ k) : b ||| 2 ^ k * y = b + 2 ^ k * y := by
  apply Nat.eq_of_testBit_eq
  intro j
  have h1 := Nat.testBit_two_pow_mul_add (i := k) y (b := b) hb j
  have h2 := Nat.testBit_two_pow_mul_add (i := k) y (b := 0) (Nat.two_pow_pos k) j
  simp only [Nat.zero_testBit, Nat.add_zero] at h2
  rw [Nat.testBit_or, h2, Nat.add_comm, h1]
  split
  · simp
  · rename_i hj
    rw [Nat.testBit_lt_two_pow (x := b) (i := j) (Nat.lt_of_lt_of_le hb (Nat.pow_le_pow_right (by omega) (by omega)))]
    simp
/-- The groups at an offset, read: the number, the last group's place, the last byte. -/
def scan (s : List UInt8) (a : Nat) : Nat → Nat → Nat → Option (Nat × Nat × Nat)
  | 0, _, _ => none
  | f + 1, i, z => if a + i < s.length then
      (if 128 ≤ (s.getD (a + i) 0).toNat then scan s a f (i + 1) (z + (s.getD (a + i) 0).toNat % 128 * 128 ^ i)
       else some (z + (s.getD (a + i) 0).toNat % 128 * 128 ^ i, i, (s.getD (a + i) 0).toNat)) else none
def unzz (z : Nat) : Int := if z % 2 = 0 then ((z / 2 : Nat) : Int) else -((z / 2 : Nat) : Int) - 1
def intTail (at_ : Int) : Option (Nat × Nat × Nat) → Int × Int × Int
  | none => (0, 0, 10)
  | some (z, i, b) => if (b = 0 ∧ 0 < i) ∨ unzz z < -4611686018427387903 then (0, 0, 10) else (unzz z, at_ + i + 1, 0)
/-- Int, by definition. -/
def intP (s : List UInt8) (at_ : Int) : Int × Int × Int := if at_ < 0 ∨ at_ > s.length then (0, 0, 2) else intTail at_ (scan s at_.toNat 9 0 0)
theorem pow7 (i : Nat) : 2 ^ (7 * i) = 128 ^ i := by rw [Nat.pow_mul]
theorem pow_le9 {i : Nat} (h : i ≤ 8) : 128 ^ i ≤ 72057594037927936 := by
  calc 128 ^ i ≤ 128 ^ 8 := Nat.pow_le_pow_right (by omega) h
    _ = 72057594037927936 := by decide
theorem xor_neg {a : Nat} (h : a < 9223372036854775808) : bits .xor .i64 (a : Int) (-1) = -(a : Int) - 1 := by
  have h1 := i64_not a h
  have e : bits .xor .i64 (a : Int) (-1) = bits .xor .i64 (-1) (a : Int) := by
    show IntKind.i64.wrap ((BitVec.ofInt 64 (a : Int) ^^^ BitVec.ofInt 64 (-1)).toNat : Int) = IntKind.i64.wrap ((BitVec.ofInt 64 (-1) ^^^ BitVec.ofInt 64 (a : Int)).toNat : Int)
    rw [BitVec.xor_comm]
  rw [e, h1]; omega
theorem unzz_bits {z : Nat} (hz : z < 9223372036854775808) : bits .xor .i64 (IntKind.i64.wrap (Int.fdiv (z : Int) (2 ^ min (Int.toNat (1 : Int)) (IntKind.u64.bits)))) (IntKind.i64.wrap (0 - IntKind.i64.wrap (bits .and .u64 (z : Int) (1 : Int)))) = unzz z := by
  have e1 : Int.fdiv (z : Int) (2 ^ min (Int.toNat (1 : Int)) (IntKind.u64.bits)) = ((z / 2 : Nat) : Int) := fdiv_pow z 1
  have e2 : bits .and .u64 (z : Int) (1 : Int) = ((z % 2 : Nat) : Int) := by
    have := bits_and_u64 z 1 (by omega) (by omega)
    rw [Nat.and_one_is_mod] at this; exact this
  rw [e1, e2, wrap_i64 (by omega) (by omega), wrap_i64 (n := ((z % 2 : Nat) : Int)) (by omega) (by omega), wrap_i64 (by omega) (by omega)]
  unfold unzz
  rcases Nat.mod_two_eq_zero_or_one z with h | h
  · rw [if_pos h, h]
    have := bits_xor_i64 (z / 2) 0 (by omega) (by omega)
    simpa using this
  · rw [if_neg (by omega), h]
    have := xor_neg (a := z / 2) (by omega)
    simpa using this
theorem int_round {s : List UInt8} {a i z : Nat} (ha : a + i < s.length) (hs : s.length ≤ 140737488351232) (hi : i < 9) (hz : z < 128 ^ i) :
    L15_5_r s (a : Int) (z : Int) (i : Int) = if 128 ≤ (s.getD (a + i) 0).toNat then some (.inl (s, (a : Int), ((z + (s.getD (a + i) 0).toNat % 128 * 128 ^ i : Nat) : Int), ((i + 1 : Nat) : Int)))
      else if ((s.getD (a + i) 0).toNat = 0 ∧ 0 < i) ∨ unzz (z + (s.getD (a + i) 0).toNat % 128 * 128 ^ i) < -4611686018427387903 then some (.inr (.inr (.inl ((a : Int), (i : Int), unzz (z + (s.getD (a + i) 0).toNat % 128 * 128 ^ i)))))
      else some (.inr (.inr (.inr (.inl (unzz (z + (s.getD (a + i) 0).toNat % 128 * 128 ^ i), (a : Int) + i + 1, 0))))) := by
  obtain ⟨b, hb⟩ : ∃ b, b = (s.getD (a + i) 0).toNat := ⟨_, rfl⟩
  have hbl : b < 256 := by rw [hb]; exact (s.getD (a + i) 0).toNat_lt
  have hp := pow_le9 (by omega : i ≤ 8)
  have hzb : z + b % 128 * 128 ^ i < 9223372036854775808 := by
    have h1 : b % 128 * 128 ^ i ≤ 127 * 128 ^ i := Nat.mul_le_mul_right _ (by omega)
    omega
  have hxb : b % 128 * 128 ^ i < 9223372036854775808 := by omega
  have e0 : IntKind.i64.wrap ((a : Int) + (i : Int)) = ((a + i : Nat) : Int) := by rw [wrap_i64 (by omega) (by omega)]; omega
  have e1 : IntKind.i64.wrap ((7 : Int) * (i : Int)) = ((7 * i : Nat) : Int) := by rw [wrap_i64 (by omega) (by omega)]; omega
  have e2 : bits .and .u8 (b : Int) (127 : Int) = ((b % 128 : Nat) : Int) := by
    have hx : b &&& 127 < 2 ^ 8 := Nat.and_lt_two_pow _ (by omega)
    have h1 : (BitVec.ofInt 8 (b : Int)).toNat = b := by
      rw [BitVec.ofInt_natCast, BitVec.toNat_ofNat]; exact Nat.mod_eq_of_lt (by omega)
    have h2 : (BitVec.ofInt 8 (127 : Int)).toNat = 127 := by decide
    show IntKind.u8.wrap ((BitVec.ofInt 8 (b : Int) &&& BitVec.ofInt 8 (127 : Int)).toNat : Int) = _
    rw [BitVec.toNat_and, h1, h2, wrap_u8, and127]
    omega
  have e3 : IntKind.u64.wrap ((b % 128 : Nat) : Int) = ((b % 128 : Nat) : Int) := by rw [IntKind.wrap_u64]; omega
  have e4 : IntKind.u64.wrap (((b % 128 : Nat) : Int) * 2 ^ min (Int.toNat ((7 * i : Nat) : Int)) (IntKind.u64.bits)) = ((b % 128 * 128 ^ i : Nat) : Int) := by
    have : min (Int.toNat ((7 * i : Nat) : Int)) (IntKind.u64.bits) = 7 * i := by
      rw [Int.toNat_natCast]; show min (7 * i) 64 = _; omega
    rw [this, IntKind.wrap_u64]
    have hh : ((b % 128 : Nat) : Int) * 2 ^ (7 * i) = ((b % 128 * 128 ^ i : Nat) : Int) := by
      rw [← pow7]; push_cast; rfl
    rw [hh]; omega
  have e5 : bits .or .u64 (z : Int) ((b % 128 * 128 ^ i : Nat) : Int) = ((z + b % 128 * 128 ^ i : Nat) : Int) := by
    rw [bits_or_u64_nat _ _ (by omega) (by omega)]
    congr 1
    have := or_split (7 * i) (b % 128) z (by rw [pow7]; exact hz)
    rw [pow7, Nat.mul_comm] at this
    exact this
  have e6 : IntKind.i64.wrap ((i : Int) + 1) = ((i + 1 : Nat) : Int) := by rw [wrap_i64 (by omega) (by omega)]; omega
  have e7 : IntKind.i64.wrap (((a + i : Nat) : Int) + 1) = (a : Int) + i + 1 := by rw [wrap_i64 (by omega) (by omega)]; omega
  have t1 : decide ((i : Int) < 9) = true := by simp; omega
  have t2 : decide (((a + i : Nat) : Int) ≥ (s.length : Int)) = false := by simp; omega
  have t3 : (decide ((0 : Int) ≤ ((a + i : Nat) : Int)) && decide (((a + i : Nat) : Int) < (s.length : Int))) = true := by simp; omega
  have t4 : decide ((0 : Int) ≤ ((7 * i : Nat) : Int)) = true := by simp; omega
  unfold L15_5_r
  simp only [t1, cond_true, e0, t2, cond_false, t3, Int.toNat_natCast]
  rw [← hb]
  simp only [e1, t4, cond_true, e2, e3, e4, e5, unzz_bits hzb, e6, e7]
  by_cases h : 128 ≤ b
  · have t : decide ((b : Int) ≥ 128) = true := by simp; omega
    simp only [t, cond_true, if_pos h]
  · have t : decide ((b : Int) ≥ 128) = false := by simp; omega
    simp only [t, cond_false, if_neg h]
    by_cases hc : (b = 0 ∧ 0 < i) ∨ unzz (z + b % 128 * 128 ^ i) < -4611686018427387903
    · have t : (bif (bif ((b : Int) == 0) then decide ((i : Int) > 0) else false) then true else decide (unzz (z + b % 128 * 128 ^ i) < -4611686018427387903)) = true := by
        rcases hc with ⟨h1, h2⟩ | h1
        · subst h1
          have : decide ((i : Int) > 0) = true := by simp; omega
          simp [this]
          exact .inl h2
        · rw [decide_eq_true h1]
          cases (bif ((b : Int) == 0) then decide ((i : Int) > 0) else false) <;> rfl
      simp only [t, cond_true, if_pos hc]
    · have t : (bif (bif ((b : Int) == 0) then decide ((i : Int) > 0) else false) then true else decide (unzz (z + b % 128 * 128 ^ i) < -4611686018427387903)) = false := by
        have h1 : decide (unzz (z + b % 128 * 128 ^ i) < -4611686018427387903) = false := decide_eq_false (fun q => hc (.inr q))
        rw [h1]
        by_cases hb0 : b = 0
        · subst hb0
          have hni : ¬ 0 < i := fun q => hc (.inl ⟨rfl, q⟩)
          have : decide ((i : Int) > 0) = false := by simp; omega
          simp [this]
          omega
        · have : ((b : Int) == 0) = false := by simp; omega
          simp [this]
      simp only [t, cond_false, if_neg hc]
/-- What Int's loop comes to. -/
def res15 : ((List UInt8) × Int × Int × Int × Int) ⊕ (Int × Int × Int) ⊕ (Int × Int × Int) ⊕ ((List UInt8) × Int × Int × Int) → Int × Int × Int
  | .inl _ => (0, 0, 10)
  | .inr (.inl _) => (0, 0, 10)
  | .inr (.inr (.inl r)) => (r.1, r.2.1, r.2.2)
  | .inr (.inr (.inr _)) => (0, 0, 10)
theorem int_loop {s : List UInt8} {a : Nat} (hs : s.length ≤ 140737488351232) (ha : a ≤ s.length) : ∀ (f i z : Nat), i + f = 9 → z < 128 ^ i → (L15_5 (s, (a : Int), (z : Int), (i : Int))).map res15 = some (intTail (a : Int) (scan s a f i z))
  | 0, i, z, hi, hz => by
    have : i = 9 := by omega
    subst this
    unfold L15_5
    rw [lim_step]
    simp [L15_5_r, res15, scan, intTail]
  | f + 1, i, z, hi, hz => by
    unfold L15_5
    rw [lim_step]
    by_cases hl : a + i < s.length
    · simp only [int_round hl hs (by omega : i < 9) hz, scan, if_pos hl]
      by_cases h : 128 ≤ (s.getD (a + i) 0).toNat
      · simp only [if_pos h]
        have hz' : z + (s.getD (a + i) 0).toNat % 128 * 128 ^ i < 128 ^ (i + 1) := by
          have h1 : (s.getD (a + i) 0).toNat % 128 * 128 ^ i ≤ 127 * 128 ^ i := Nat.mul_le_mul_right _ (by omega)
          rw [Nat.pow_succ]; omega
        have := int_loop hs ha f (i + 1) _ (by omega) hz'
        unfold L15_5 at this
        exact this
      · simp only [if_neg h, intTail]
        by_cases hc : ((s.getD (a + i) 0).toNat = 0 ∧ 0 < i) ∨ unzz (z + (s.getD (a + i) 0).toNat % 128 * 128 ^ i) < -4611686018427387903
        · simp only [if_pos hc]; rfl
        · simp only [if_neg hc]; rfl
    · have t1 : decide ((i : Int) < 9) = true := by simp; omega
      have e0 : IntKind.i64.wrap ((a : Int) + (i : Int)) = ((a + i : Nat) : Int) := by rw [wrap_i64 (by omega) (by omega)]; omega
      have t2 : decide (((a + i : Nat) : Int) ≥ (s.length : Int)) = true := by simp; omega
      have hr : L15_5_r s (a : Int) (z : Int) (i : Int) = some (.inr (.inl (s, (a : Int), (z : Int), (i : Int), (i : Int)))) := by
        unfold L15_5_r
        simp only [t1, e0, t2, cond_true]
      simp only [hr, scan, if_neg hl]
      rfl
/-- **Int.** -/
theorem G15_eq {s : List UInt8} (hs : s.length ≤ 140737488351232) (n : Int) : G15 s n = some (intP s n) := by
  unfold G15 intP
  by_cases h : n < 0 ∨ n > s.length
  · have : (bif decide (n < 0) then true else decide (n > ((s.length : Nat) : Int))) = true := by
      rcases h with h | h <;> simp [h]
    simp only [this, cond_true, if_pos h]
  · have : (bif decide (n < 0) then true else decide (n > ((s.length : Nat) : Int))) = false := by
      rw [decide_eq_false (by omega), decide_eq_false (by omega)]; rfl
    obtain ⟨a, rfl⟩ : ∃ a : Nat, n = a := ⟨n.toNat, by omega⟩
    have hl := int_loop hs (by omega : a ≤ s.length) 9 0 0 rfl (by decide)
    simp only [this, cond_false, if_neg h, Int.toNat_natCast]
    have hl' : (L15_5 (s, (a : Int), (0 : Int), (0 : Int))).map res15 = _ := hl
    cases hx : L15_5 (s, (a : Int), (0 : Int), (0 : Int)) with
    | none => rw [hx] at hl'; cases hl'
    | some x =>
      rw [hx] at hl'
      simp only [Option.map_some, Option.some.injEq] at hl'
      rw [← hl', Option.bind_some]
      rcases x with x | x | x | x <;> rfl
end Go.Ev.W
