/- PutInt. -/
import Derived.Test.YtcnplckaaklfjaaDoorWA
set_option linter.unusedSimpArgs false
set_option linter.unusedVariables false
namespace Go.Ev.W
open Go

theorem bits_and_u64 (a b : Nat) (ha : a < 18446744073709551616) (hb : b < 18446744073709551616) : bits .and .u64 (a : Int) (b : Int) = ((a &&& b : Nat) : Int) := bits_and_u64_nat a b ha hb
theorem and127 (a : Nat) : a &&& 127 = a % 128 := Nat.and_two_pow_sub_one_eq_mod a 7
theorem or128 {a : Nat} (h : a < 128) : a ||| 128 = a + 128 := by
  have : ∀ a : Fin 128, a.1 ||| 128 = a.1 + 128 := by decide +kernel
  exact this ⟨a, h⟩
theorem bits_or_u8 (a b : Nat) (ha : a < 256) (hb : b < 256) : bits .or .u8 (a : Int) (b : Int) = ((a ||| b : Nat) : Int) := by
  have hx : a ||| b < 2 ^ 8 := Nat.or_lt_two_pow (by omega) (by omega)
  have h1 : (BitVec.ofInt 8 (a : Int)).toNat = a := by
    rw [BitVec.ofInt_natCast, BitVec.toNat_ofNat]; exact Nat.mod_eq_of_lt (by omega)
  have h2 : (BitVec.ofInt 8 (b : Int)).toNat = b := by
    rw [BitVec.ofInt_natCast, BitVec.toNat_ofNat]; exact Nat.mod_eq_of_lt (by omega)
  show IntKind.u8.wrap ((BitVec.ofInt 8 (a : Int) ||| BitVec.ofInt 8 (b : Int)).toNat : Int) = _
  rw [BitVec.toNat_or, h1, h2, wrap_u8]
  omega
theorem xor_ones {a : Nat} (h : a < 18446744073709551616) : a ^^^ 18446744073709551615 = 18446744073709551615 - a := by
  have h1 : (BitVec.ofNat 64 a ^^^ BitVec.allOnes 64).toNat = a ^^^ 18446744073709551615 := by
    rw [BitVec.toNat_xor, BitVec.toNat_ofNat, Nat.mod_eq_of_lt (by omega), BitVec.toNat_allOnes]
  rw [← h1, BitVec.xor_allOnes, BitVec.toNat_not, BitVec.toNat_ofNat, Nat.mod_eq_of_lt (by omega)]

/-- The groups of seven bits, the least one first. -/
def groupsF : Nat → Nat → List (Nat × Bool)
  | 0, _ => []
  | f + 1, z => if z < 128 then [(z, true)] else (z % 128, false) :: groupsF f (z / 128)
/-- The encoding of a natural number. -/
def encF : Nat → Nat → List UInt8
  | 0, _ => []
  | f + 1, z => if z < 128 then [UInt8.ofNat z] else UInt8.ofNat (z % 128 + 128) :: encF f (z / 128)
def encN (z : Nat) : List UInt8 := encF 10 z
def zz (n : Int) : Nat := if 0 ≤ n then (2 * n).toNat else (-2 * n - 1).toNat

theorem group_round {z : Nat} (hz : z < 18446744073709551616) : L25_0_r (z : Int) = if z < 128 then some ([(((z : Nat) : Int), true)], .inr (z : Int)) else some ([(((z % 128 : Nat) : Int), false)], .inl ((z / 128 : Nat) : Int)) := by
  have e1 : bits .and .u64 (z : Int) (127 : Int) = ((z % 128 : Nat) : Int) := by
    have := bits_and_u64 z 127 hz (by omega)
    rw [and127] at this; exact this
  have e2 : IntKind.u8.wrap ((z % 128 : Nat) : Int) = ((z % 128 : Nat) : Int) := by rw [wrap_u8]; omega
  have e3 : Int.fdiv (z : Int) (2 ^ min (Int.toNat (7 : Int)) (IntKind.u64.bits)) = ((z / 128 : Nat) : Int) := fdiv_pow z 7
  unfold L25_0_r
  simp only [e1, e2, e3]
  by_cases h : z < 128
  · have t : decide ((z : Int) < 128) = true := by simp; omega
    simp only [t, if_pos h, Bool.not_true, Bool.not_false, cond_true, cond_false, yieldW]
    rw [Nat.mod_eq_of_lt h]
  · have t : decide ((z : Int) < 128) = false := by simp; omega
    simp only [t, if_neg h, Bool.not_true, Bool.not_false, cond_true, cond_false, yieldW]
def gI (p : Nat × Bool) : Int × Bool := ((p.1 : Int), p.2)
theorem groups_loop : ∀ (f z : Nat), z < 128 ^ (f + 1) → z < 18446744073709551616 → ∃ x, L25_0 (z : Int) = some ((groupsF (f + 1) z).map gI, x) := by
  intro f
  induction f with
  | zero =>
    intro z h hz
    have hc : z < 128 := by simpa using h
    unfold L25_0
    rw [limW_step]
    simp only [group_round hz, if_pos hc, YW.bind]
    exact ⟨(z : Int), by simp [groupsF, hc, gI]⟩
  | succ f ih =>
    intro z h hz
    unfold L25_0
    rw [limW_step]
    simp only [group_round hz]
    by_cases hc : z < 128
    · simp only [if_pos hc, YW.bind]
      exact ⟨(z : Int), by simp [groupsF, hc, gI]⟩
    · simp only [if_neg hc, YW.bind]
      obtain ⟨x, hx⟩ := ih (z / 128) (by rw [Nat.pow_succ 128 (f + 1)] at h; exact Nat.div_lt_of_lt_mul (by omega)) (by omega)
      unfold L25_0 at hx
      rw [hx]
      refine ⟨x, ?_⟩
      rw [show groupsF (f + 1 + 1) z = (z % 128, false) :: groupsF (f + 1) (z / 128) from by simp [groupsF, hc]]
      rfl
theorem W25_ys {z : Nat} (hz : z < 18446744073709551616) : (W25 (z : Int)).ys = some ((groupsF 10 z).map gI) := by
  obtain ⟨x, hx⟩ := groups_loop 9 z (by omega) hz
  unfold W25
  rw [hx]
  simp [YW.bind, YW.ys]
/-- A group's byte. -/
def gB (p : Nat × Bool) : Int := if p.2 then (p.1 : Int) else ((p.1 + 128 : Nat) : Int)
theorem put_round {out : List Int} {p : Nat × Bool} (hp : p.1 < 128) (hl : out.length ≤ 1000) : R12_5_step out (gI p) = some (.inl (out ++ [gB p])) := by
  obtain ⟨g, last⟩ := p
  unfold R12_5_step R12_5_r gI gB
  have e1 : bits .or .u8 (g : Int) (128 : Int) = ((g + 128 : Nat) : Int) := by
    have := bits_or_u8 g 128 (by simp at hp; omega) (by omega)
    rw [or128 hp] at this; exact this
  have t : ∀ v : Int, decide (List.length out + List.length [v] ≤ 100000000000) = true := fun v => by
    simp; omega
  have sv : ∀ v : Int, List.set (List.replicate 1 (0 : Int)) 0 v = [v] := fun v => rfl
  cases last
  · simp only [Bool.not_false, cond_true, e1, List.take_length, sv, t]; rfl
  · simp only [Bool.not_true, cond_false, List.take_length, sv, t, cond_true]; rfl
theorem put_fold : ∀ (ps : List (Nat × Bool)) (out : List Int), (∀ p ∈ ps, p.1 < 128) → out.length + ps.length ≤ 1000 → foldX R12_5_step (ps.map gI) out = some (.inl (out ++ ps.map gB))
  | [], out, _, _ => by simp [foldX]
  | p :: ps, out, hp, hl => by
    have h1 := put_round (out := out) (hp p (by simp)) (by simp at hl; omega)
    simp only [List.map_cons, foldX, h1]
    rw [put_fold ps (out ++ [gB p]) (fun q hq => hp q (by simp [hq])) (by simp at hl ⊢; omega)]
    simp
theorem groups_lt : ∀ (f z : Nat), ∀ p ∈ groupsF f z, p.1 < 128
  | 0, _, p, hp => by simp [groupsF] at hp
  | f + 1, z, p, hp => by
    simp only [groupsF] at hp
    split at hp
    · simp at hp; subst hp; assumption
    · rcases List.mem_cons.1 hp with rfl | hp
      · exact Nat.mod_lt _ (by omega)
      · exact groups_lt f _ p hp
theorem groups_len : ∀ (f z : Nat), (groupsF f z).length ≤ f
  | 0, _ => by simp [groupsF]
  | f + 1, z => by
    simp only [groupsF]
    split
    · simp
    · have := groups_len f (z / 128); simp; omega
theorem groups_enc : ∀ (f z : Nat), ((groupsF f z).map gB).map (fun n => UInt8.ofNat n.toNat) = encF f z
  | 0, _ => rfl
  | f + 1, z => by
    simp only [groupsF, encF]
    split
    · simp [gB]
    · simp only [List.map_cons, groups_enc f]
      rfl
theorem zz_eq {n : Int} (h1 : -4611686018427387903 ≤ n) (h2 : n ≤ 4611686018427387903) : bits .xor .u64 (IntKind.u64.wrap (IntKind.u64.wrap n * 2 ^ min (Int.toNat (1 : Int)) (IntKind.u64.bits))) (IntKind.u64.wrap (Int.fdiv n (2 ^ min (Int.toNat (63 : Int)) (IntKind.i64.bits)))) = ((zz n : Nat) : Int) := by
  have e0 : (2 ^ min (Int.toNat (1 : Int)) (IntKind.u64.bits) : Int) = 2 := rfl
  have e63 : (2 ^ min (Int.toNat (63 : Int)) (IntKind.i64.bits) : Int) = 9223372036854775808 := rfl
  rw [e0, e63, IntKind.wrap_u64, IntKind.wrap_u64, IntKind.wrap_u64]
  unfold zz
  by_cases h : 0 ≤ n
  · have a1 : n % 18446744073709551616 * 2 % 18446744073709551616 = (((2 * n).toNat : Nat) : Int) := by omega
    have a2 : Int.fdiv n 9223372036854775808 % 18446744073709551616 = ((0 : Nat) : Int) := by
      rw [Int.fdiv_eq_ediv_of_nonneg _ (by omega)]; omega
    rw [a1, a2, bits_xor_u64_nat _ _ (by omega) (by omega), if_pos h, Nat.xor_zero]
  · have a1 : n % 18446744073709551616 * 2 % 18446744073709551616 = (((18446744073709551616 + 2 * n).toNat : Nat) : Int) := by omega
    have a2 : Int.fdiv n 9223372036854775808 % 18446744073709551616 = ((18446744073709551615 : Nat) : Int) := by
      rw [Int.fdiv_eq_ediv_of_nonneg _ (by omega)]; omega
    rw [a1, a2, bits_xor_u64_nat _ _ (by omega) (by omega), if_neg h, xor_ones (by omega)]
    congr 1
    omega
/-- **PutInt.** -/
def putInt (n : Int) : List UInt8 × Int := if n < -4611686018427387903 ∨ n > 4611686018427387903 then ([], 10) else (encN (zz n), 0)
theorem G12_eq (n : Int) : G12 n = some (putInt n) := by
  unfold G12 putInt
  by_cases h : n < -4611686018427387903 ∨ n > 4611686018427387903
  · have : (bif decide (n < (-4611686018427387903 : Int)) then true else decide (n > (4611686018427387903 : Int))) = true := by
      rcases h with h | h <;> simp [h]
    simp only [this, if_pos h, cond_true]
  · have h1 : -4611686018427387903 ≤ n := by omega
    have h2 : n ≤ 4611686018427387903 := by omega
    have : (bif decide (n < (-4611686018427387903 : Int)) then true else decide (n > (4611686018427387903 : Int))) = false := by
      rw [decide_eq_false (by omega), decide_eq_false (by omega)]; rfl
    have hz : zz n < 18446744073709551616 := by unfold zz; split <;> omega
    have hI : I25.f ((), ((), (((zz n : Nat) : Int), ()))) = some ((groupsF 10 (zz n)).map gI) := W25_ys hz
    simp only [this, if_neg h, cond_false, zz_eq h1 h2]
    change Option.bind (I25.f ((), ((), (((zz n : Nat) : Int), ())))) (fun ys => Option.bind (foldX R12_5_step ys []) _) = _
    rw [hI]
    change Option.bind (foldX R12_5_step ((groupsF 10 (zz n)).map gI) []) _ = _
    rw [put_fold _ _ (groups_lt 10 _) (by have := groups_len 10 (zz n); simp; omega)]
    change some (List.map (fun n => UInt8.ofNat n.toNat) (List.take ([] ++ (groupsF 10 (zz n)).map gB).length ([] ++ (groupsF 10 (zz n)).map gB)), (0 : Int)) = _
    simp only [List.nil_append, List.take_length, groups_enc]
    rfl
end Go.Ev.W
