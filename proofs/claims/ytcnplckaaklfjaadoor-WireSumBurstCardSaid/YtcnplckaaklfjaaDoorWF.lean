/- The reference's PutInt; PutString. -/
import Derived.Test.YtcnplckaaklfjaaDoorWE
set_option linter.unusedSimpArgs false
set_option linter.unusedVariables false
namespace Go.Ev.W
open Go

theorem ref_put_round {z : Nat} (hz : z < 18446744073709551616) {out : List Int} (hl : out.length ≤ 1000) :
    L13_5_r (z : Int) out = if z < 128 then some (.inr ((z : Int), out)) else some (.inl (((z / 128 : Nat) : Int), out ++ [gB (z % 128, false)])) := by
  have e1 : Int.tmod (z : Int) 128 = ((z % 128 : Nat) : Int) := by rw [Int.tmod_eq_emod_of_nonneg (by omega)]; omega
  have e2 : IntKind.u64.wrap (((z % 128 : Nat) : Int) + 128) = ((z % 128 + 128 : Nat) : Int) := by rw [IntKind.wrap_u64]; omega
  have e3 : IntKind.u8.wrap ((z % 128 + 128 : Nat) : Int) = ((z % 128 + 128 : Nat) : Int) := by rw [wrap_u8]; omega
  have e4 : IntKind.u64.wrap (Int.tdiv (z : Int) 128) = ((z / 128 : Nat) : Int) := by rw [Int.tdiv_eq_ediv_of_nonneg (by omega), IntKind.wrap_u64]; omega
  have sv : ∀ v : Int, List.set (List.replicate 1 (0 : Int)) 0 v = [v] := fun v => rfl
  have t : ∀ v : Int, decide (List.length out + List.length [v] ≤ 100000000000) = true := fun v => by simp; omega
  unfold L13_5_r
  by_cases h : z < 128
  · have t1 : decide ((z : Int) ≥ 128) = false := by simp; omega
    simp only [t1, cond_false, if_pos h]
  · have t1 : decide ((z : Int) ≥ 128) = true := by simp; omega
    simp only [t1, cond_true, if_neg h, e1, e2, e3, e4, sv, List.take_length, t]
    rfl
theorem ref_put_loop : ∀ (f z : Nat) (out : List Int), z < 128 ^ (f + 1) → z < 18446744073709551616 → out.length + f ≤ 1000 → ∃ (pre : List Int) (zl : Nat), L13_5 ((z : Int), out) = some ((zl : Int), out ++ pre) ∧ zl < 128 ∧ pre ++ [(zl : Int)] = (groupsF (f + 1) z).map gB := by
  intro f
  induction f with
  | zero =>
    intro z out h hz hl
    have hc : z < 128 := by simpa using h
    refine ⟨[], z, ?_, hc, by simp [groupsF, hc, gB]⟩
    unfold L13_5
    rw [lim_step]
    simp only [ref_put_round hz (by omega : out.length ≤ 1000), if_pos hc, List.append_nil]
  | succ f ih =>
    intro z out h hz hl
    by_cases hc : z < 128
    · refine ⟨[], z, ?_, hc, by simp [groupsF, hc, gB]⟩
      unfold L13_5
      rw [lim_step]
      simp only [ref_put_round hz (by omega : out.length ≤ 1000), if_pos hc, List.append_nil]
    · obtain ⟨pre, zl, h1, h2, h3⟩ := ih (z / 128) (out ++ [gB (z % 128, false)]) (by rw [Nat.pow_succ 128 (f + 1)] at h; exact Nat.div_lt_of_lt_mul (by omega)) (by omega) (by simp; omega)
      refine ⟨gB (z % 128, false) :: pre, zl, ?_, h2, ?_⟩
      · unfold L13_5 at h1 ⊢
        rw [lim_step]
        simp only [ref_put_round hz (by omega : out.length ≤ 1000), if_neg hc]
        rw [h1]
        simp
      · rw [show groupsF (f + 1 + 1) z = (z % 128, false) :: groupsF (f + 1) (z / 128) from by simp [groupsF, hc], List.map_cons, ← h3]
        rfl
theorem G24_eq {n : Int} (h1 : -4611686018427387903 ≤ n) (h2 : n ≤ 4611686018427387903) : G24 n = some ((zz n : Nat) : Int) := by
  unfold G24 zz
  by_cases h : 0 ≤ n
  · have t : decide (n < 0) = false := by simp; omega
    simp only [t, cond_false, if_pos h, IntKind.wrap_u64]
    congr 1; omega
  · have t : decide (n < 0) = true := by simp; omega
    simp only [t, cond_true, if_neg h]
    rw [wrap_i64 (by omega) (by omega)]
    simp only [IntKind.wrap_u64]
    congr 1; omega
/-- **The reference's PutInt.** -/
theorem G13_eq (n : Int) : G13 n = some (putInt n) := by
  unfold G13 putInt
  by_cases h : n < -4611686018427387903 ∨ n > 4611686018427387903
  · have : (bif decide (n < (-4611686018427387903 : Int)) then true else decide (n > (4611686018427387903 : Int))) = true := by
      rcases h with h | h <;> simp [h]
    simp only [this, if_pos h, cond_true]
  · have h1 : -4611686018427387903 ≤ n := by omega
    have h2 : n ≤ 4611686018427387903 := by omega
    have : (bif decide (n < (-4611686018427387903 : Int)) then true else decide (n > (4611686018427387903 : Int))) = false := by
      rw [decide_eq_false (by omega), decide_eq_false (by omega)]; rfl
    have hz : zz n < 18446744073709551616 := by unfold zz; split <;> omega
    obtain ⟨pre, zl, k1, k2, k3⟩ := ref_put_loop 9 (zz n) [] (by omega) hz (by simp)
    have hg := G24_eq h1 h2
    have e1 : IntKind.u8.wrap (zl : Int) = (zl : Int) := by rw [wrap_u8]; omega
    have sv : ∀ v : Int, List.set (List.replicate 1 (0 : Int)) 0 v = [v] := fun v => rfl
    have hpl : pre.length ≤ 10 := by
      have := congrArg List.length k3
      have := groups_len 10 (zz n)
      simp at *; omega
    have t : ∀ v : Int, decide (List.length pre + List.length [v] ≤ 100000000000) = true := fun v => by simp; omega
    simp only [this, if_neg h, cond_false, P24_of _ hg, F24_of _ hg, cond_true, k1, Option.bind_some, List.nil_append, e1, sv, List.take_length, t, k3, groups_enc]
    rfl
theorem P13_eq (n : Int) : P13 n = true := P13_of n (G13_eq n)
theorem F13_eq (n : Int) : F13 n = putInt n := F13_of n (G13_eq n)
/-- PutString, by definition. -/
def putStr (s : List UInt8) : List UInt8 × Int := if s.length > 65536 then ([], 10) else (encN (zz s.length) ++ s, 0)
theorem enc_len (f z : Nat) : (encF f z).length ≤ f := by
  rw [← groups_enc]; simp; exact groups_len f z
theorem putInt_small {n : Nat} (h : n ≤ 65536) : putInt (n : Int) = (encN (zz n), 0) := by
  unfold putInt; rw [if_neg (by omega)]
theorem G19_eq (s : List UInt8) : G19 s = some (putStr s) := by
  unfold G19 putStr
  by_cases h : s.length > 65536
  · have t : decide (((s.length : Nat) : Int) > 65536) = true := by simp; omega
    simp only [t, cond_true, if_pos h]
  · have t : decide (((s.length : Nat) : Int) > 65536) = false := by simp; omega
    have := enc_len 10 (zz s.length)
    have t2 : decide ((encN (zz s.length)).length + s.length ≤ 9223372036854775807) = true := by unfold encN; simp; omega
    simp only [t, cond_false, if_neg h, P12_eq, F12_eq, cond_true, putInt_small (by omega : s.length ≤ 65536), t2]
theorem G20_eq (s : List UInt8) : G20 s = some (putStr s) := by
  unfold G20 putStr
  by_cases h : s.length > 65536
  · have t : decide (((s.length : Nat) : Int) > 65536) = true := by simp; omega
    simp only [t, cond_true, if_pos h]
  · have t : decide (((s.length : Nat) : Int) > 65536) = false := by simp; omega
    have := enc_len 10 (zz s.length)
    have t2 : decide ((encN (zz s.length)).length + s.length ≤ 9223372036854775807) = true := by unfold encN; simp; omega
    simp only [t, cond_false, if_neg h, P13_eq, F13_eq, cond_true, putInt_small (by omega : s.length ≤ 65536), t2]
end Go.Ev.W
