/- pick, NumberFrom; WireMatchesReference: the law's function answers true. -/
import Derived.Test.YtcnplckaaklfjaaDoorWK
set_option linter.unusedSimpArgs false
set_option linter.unusedVariables false
namespace Go.Ev.W
open Go

/-- A whole number of the machine. -/
def I64 (n : Int) : Prop := -9223372036854775808 ≤ n ∧ n < 9223372036854775808
theorem i64_of_wf {n : Int} (h : (Lit.int .i64 n).wf = true) : I64 n := by
  simp [Lit.wf, IntKind.min, IntKind.max, IntKind.signed, IntKind.bits] at h
  unfold I64; omega
def pickP (c n : Int) : Int := if c < 0 then Int.tmod (-(c + 1)) n else Int.tmod c n
theorem G14_eq {c n : Int} (hc : I64 c) (hn : 0 < n) : G14 c n = some (pickP c n) := by
  unfold G14 pickP I64 at *
  have t : (!(n == 0)) = true := by simp; omega
  by_cases h : c < 0
  · have t1 : decide (c < 0) = true := by simp; exact h
    have e : IntKind.i64.wrap (0 - IntKind.i64.wrap (c + 1)) = -(c + 1) := by
      rw [wrap_i64 (n := c + 1) (by omega) (by omega), wrap_i64 (by omega) (by omega)]; omega
    simp only [t1, cond_true, e, t, if_pos h]
  · have t1 : decide (c < 0) = false := by simp; omega
    simp only [t1, cond_false, t, cond_true, if_neg h]
theorem pick_bound {c n : Int} (hc : I64 c) (hn : 0 < n) : 0 ≤ pickP c n ∧ pickP c n < n := by
  unfold pickP I64 at *
  split
  · rw [Int.tmod_eq_emod_of_nonneg (by omega)]
    exact ⟨Int.emod_nonneg _ (by omega), Int.emod_lt_of_pos _ hn⟩
  · rw [Int.tmod_eq_emod_of_nonneg (by omega)]
    exact ⟨Int.emod_nonneg _ (by omega), Int.emod_lt_of_pos _ hn⟩
def tableN : List Int := [64, 128, 8192, 16384, 1073741824, 36028797018963968, 576460752303423488, 2]
def numP (c : Int) : Int :=
  let r := pickP (pickP c 4611686018427387904 / 8) (tableN.getD (pickP c 8).toNat 0)
  if 8 ≤ pickP c 16 then -r else r
theorem table_bound (i : Nat) (h : i < 8) : 0 < tableN.getD i 0 ∧ tableN.getD i 0 ≤ 576460752303423488 := by
  have : ∀ i : Fin 8, 0 < tableN.getD i.1 0 ∧ tableN.getD i.1 0 ≤ 576460752303423488 := by decide
  exact this ⟨i, h⟩
theorem num_bound {c : Int} (hc : I64 c) : -576460752303423488 < numP c ∧ numP c < 576460752303423488 := by
  have h8 := pick_bound hc (n := 8) (by omega)
  have hb := pick_bound hc (n := 4611686018427387904) (by omega)
  obtain ⟨t1, t2⟩ := table_bound (pickP c 8).toNat (by omega)
  have hr := pick_bound (c := pickP c 4611686018427387904 / 8) (n := tableN.getD (pickP c 8).toNat 0) (by unfold I64; omega) t1
  unfold numP
  simp only
  split <;> omega
theorem G11_eq {c : Int} (hc : I64 c) : G11 c = some (numP c) := by
  have h8 := pick_bound hc (n := 8) (by omega)
  have h16 := pick_bound hc (n := 16) (by omega)
  have hb := pick_bound hc (n := 4611686018427387904) (by omega)
  obtain ⟨t1, t2⟩ := table_bound (pickP c 8).toNat (by omega)
  have hq : I64 (pickP c 4611686018427387904 / 8) := by unfold I64; omega
  have hr := pick_bound hq t1
  have g1 := G14_eq hc (n := 4611686018427387904) (by omega)
  have g2 := G14_eq hc (n := 8) (by omega)
  have g3 := G14_eq hq t1
  have g4 := G14_eq hc (n := 16) (by omega)
  have e1 : IntKind.i64.wrap (Int.tdiv (pickP c 4611686018427387904) 8) = pickP c 4611686018427387904 / 8 := by
    rw [Int.tdiv_eq_ediv_of_nonneg (by omega), wrap_i64 (by omega) (by omega)]
  have et : (List.set (List.set (List.set (List.set (List.set (List.set (List.set (List.set (List.replicate 8 (0 : Int)) 0 (64 : Int)) 1 (128 : Int)) 2 (8192 : Int)) 3 (16384 : Int)) 4 (1073741824 : Int)) 5 (36028797018963968 : Int)) 6 (576460752303423488 : Int)) 7 (2 : Int)) = tableN := rfl
  have tl : tableN.length = 8 := rfl
  have b1 : (decide (0 ≤ pickP c 8) && decide (pickP c 8 < ((8 : Nat) : Int))) = true := by simp; omega
  have b2 : decide ((pickP c 8).toNat < 8) = true := by simp; omega
  unfold G11
  simp only [P14_of _ _ g1, F14_of _ _ g1, P14_of _ _ g2, F14_of _ _ g2, cond_true, et, tl, b1, b2, e1, P14_of _ _ g3, F14_of _ _ g3, P14_of _ _ g4, F14_of _ _ g4]
  unfold numP
  by_cases h : 8 ≤ pickP c 16
  · have t : decide (pickP c 16 ≥ 8) = true := by simp; exact h
    simp only [t, cond_true, if_pos h]
    rw [wrap_i64 (by omega) (by omega)]
    congr 1; omega
  · have t : decide (pickP c 16 ≥ 8) = false := by simp; omega
    simp only [t, cond_false, if_neg h]
end Go.Ev.W
