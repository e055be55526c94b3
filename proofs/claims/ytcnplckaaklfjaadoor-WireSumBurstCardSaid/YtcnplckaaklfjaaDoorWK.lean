/- String. -/
import Derived.Test.YtcnplckaaklfjaaDoorWJ
set_option linter.unusedSimpArgs false
set_option linter.unusedVariables false
namespace Go.Ev.W
open Go

/-- String, by definition. -/
def strP (s : List UInt8) (at_ : Int) : List UInt8 × Int × Int :=
  if (intP s at_).2.2 ≠ 0 then ([], 0, (intP s at_).2.2)
  else if (intP s at_).1 < 0 ∨ (intP s at_).1 > 65536 ∨ (intP s at_).1 > s.length - (intP s at_).2.1 then ([], 0, 10)
  else (cut s (intP s at_).2.1 ((intP s at_).2.1 + (intP s at_).1), (intP s at_).2.1 + (intP s at_).1, 0)
theorem scan_bound {s : List UInt8} {a z j b : Nat} (h : scan s a 9 0 0 = some (z, j, b)) : a + j + 1 ≤ s.length ∧ j < 9 := by
  obtain ⟨l, h1, h2, ⟨t, h3⟩, h4, h5, h6, h7⟩ := scan_some h
  have := congrArg List.length h3
  simp at this
  omega
/-- What Int answers lies within the string. -/
theorem intP_bound {s : List UInt8} {n : Int} (h : (intP s n).2.2 = 0) : 0 ≤ n ∧ n < (intP s n).2.1 ∧ (intP s n).2.1 ≤ s.length ∧ (intP s n).2.1 ≤ n + 9 := by
  unfold intP at h ⊢
  by_cases h1 : n < 0 ∨ n > s.length
  · rw [if_pos h1] at h; simp at h
  · rw [if_neg h1] at h ⊢
    cases hs : scan s n.toNat 9 0 0 with
    | none => rw [hs] at h; simp [intTail] at h
    | some p =>
      obtain ⟨z, j, b⟩ := p
      rw [hs] at h
      obtain ⟨k1, k2⟩ := scan_bound hs
      by_cases hc : (b = 0 ∧ 0 < j) ∨ unzz z < -4611686018427387903
      · have : intTail n (some (z, j, b)) = (0, 0, 10) := if_pos hc
        rw [this] at h; simp at h
      · have : intTail n (some (z, j, b)) = (unzz z, n + j + 1, 0) := if_neg hc
        rw [this]
        simp only
        omega
theorem str_eq {s : List UInt8} (hs : s.length ≤ 140737488351232) (n : Int) {P : Bool} {F : Int × Int × Int} (hP : P = true) (hF : F = intP s n) :
    (bif P then
      let v1 : (Int × (Int × Int)) := F
      let v2 : Bool := (v1.2.2 != (0 : Int))
      bif v2 then
      some (([] : List UInt8), (0 : Int), v1.2.2)
      else
      let v3 : Bool := (decide (v1.1 < (0 : Int)))
      let v4 : Bool := (decide (v1.1 > (65536 : Int)))
      let v5 : Bool := (bif v3 then true else v4)
      let v6 : Int := ((List.length s : Nat) : Int)
      let v7 : Int := (IntKind.i64.wrap (v6 - v1.2.1))
      let v8 : Bool := (decide (v1.1 > v7))
      let v9 : Bool := (bif v5 then true else v8)
      bif v9 then
      some (([] : List UInt8), (0 : Int), (10 : Int))
      else
      let v10 : Int := (IntKind.i64.wrap (v1.2.1 + v1.1))
      bif (sliceTest v1.2.1 v10 (List.length s)) then
      let v11 : (List UInt8) := (cut s v1.2.1 v10)
      let v12 : Int := (IntKind.i64.wrap (v1.2.1 + v1.1))
      some (v11, v12, (0 : Int))
      else none
      else none) = some (strP s n) := by
  subst hP; subst hF
  unfold strP
  simp only [cond_true]
  by_cases h : (intP s n).2.2 = 0
  · obtain ⟨k1, k2, k3, k4⟩ := intP_bound h
    have t : ((intP s n).2.2 != (0 : Int)) = false := by simp [h]
    have e7 : IntKind.i64.wrap ((s.length : Int) - (intP s n).2.1) = (s.length : Int) - (intP s n).2.1 := wrap_i64 (by omega) (by omega)
    simp only [t, cond_false, e7]
    rw [if_neg (by simp [h])]
    by_cases hc : (intP s n).1 < 0 ∨ (intP s n).1 > 65536 ∨ (intP s n).1 > s.length - (intP s n).2.1
    · have tb : (bif (bif decide ((intP s n).1 < 0) then true else decide ((intP s n).1 > 65536)) then true else decide ((intP s n).1 > (s.length : Int) - (intP s n).2.1)) = true := by
        rcases hc with q | q | q
        · rw [decide_eq_true q]; rfl
        · rw [decide_eq_true q]; cases decide ((intP s n).1 < 0) <;> rfl
        · rw [decide_eq_true q]; cases decide ((intP s n).1 < 0) <;> cases decide ((intP s n).1 > 65536) <;> rfl
      simp only [tb, cond_true, if_pos hc]
    · have tb : (bif (bif decide ((intP s n).1 < 0) then true else decide ((intP s n).1 > 65536)) then true else decide ((intP s n).1 > (s.length : Int) - (intP s n).2.1)) = false := by
        rw [decide_eq_false (by omega), decide_eq_false (by omega), decide_eq_false (by omega)]; rfl
      have e10 : IntKind.i64.wrap ((intP s n).2.1 + (intP s n).1) = (intP s n).2.1 + (intP s n).1 := wrap_i64 (by omega) (by omega)
      have ts : sliceTest (intP s n).2.1 ((intP s n).2.1 + (intP s n).1) s.length = true := by simp [sliceTest]; omega
      simp only [tb, cond_false, if_neg hc, e10, ts, cond_true]
  · have t : ((intP s n).2.2 != (0 : Int)) = true := by simp [h]
    simp only [t, cond_true]
    rw [if_pos h]
theorem G17_eq {s : List UInt8} (hs : s.length ≤ 140737488351232) (n : Int) : G17 s n = some (strP s n) := str_eq hs n (P15_of s n (G15_eq hs n)) (F15_of s n (G15_eq hs n))
theorem G18_eq {s : List UInt8} (hs : s.length ≤ 140737488351232) (n : Int) : G18 s n = some (strP s n) := str_eq hs n (P16_of s n (G16_eq hs n)) (F16_of s n (G16_eq hs n))
end Go.Ev.W
