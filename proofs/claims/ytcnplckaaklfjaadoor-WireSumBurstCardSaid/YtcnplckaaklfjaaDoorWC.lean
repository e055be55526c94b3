/- The fixed examples; the checksum is affine. -/
import Derived.Test.YtcnplckaaklfjaaDoorWB
set_option linter.unusedSimpArgs false
set_option linter.unusedVariables false
namespace Go.Ev.W
open Go

theorem lim_iter {S X : Type} {r : S → Option (S ⊕ X)} {s : S} (n : Nat) (h : (iterN r n s).isSome = true) : Lim r s = iterN r n s := by
  obtain ⟨x, hx⟩ := Option.isSome_iff_exists.1 h
  rw [hx]; exact lim_of hx
theorem P12_eq (n : Int) : P12 n = true := P12_of n (G12_eq n)
theorem F12_eq (n : Int) : F12 n = putInt n := F12_of n (G12_eq n)
theorem int_a : G15 [97, 172, 2, 98] 1 = some (150, 3, 0) := by
  unfold G15 L15_5
  simp only [show (bif decide ((1 : Int) < 0) then true else decide ((1 : Int) > ((List.length ([97, 172, 2, 98] : List UInt8) : Nat) : Int))) = false from rfl, cond_false]
  rw [lim_iter 12 (by decide +kernel)]
  decide +kernel
theorem int_b : G15 [128, 0] 0 = some (0, 0, 10) := by
  unfold G15 L15_5
  simp only [show (bif decide ((0 : Int) < 0) then true else decide ((0 : Int) > ((List.length ([128, 0] : List UInt8) : Nat) : Int))) = false from rfl, cond_false]
  rw [lim_iter 12 (by decide +kernel)]
  decide +kernel
theorem int_c : G15 [] 1 = some (0, 0, 2) := by
  unfold G15
  rfl
theorem int_d : G15 [4, 97, 98, 99] 0 = some (2, 1, 0) := by
  unfold G15 L15_5
  simp only [show (bif decide ((0 : Int) < 0) then true else decide ((0 : Int) > ((List.length ([4, 97, 98, 99] : List UInt8) : Nat) : Int))) = false from rfl, cond_false]
  rw [lim_iter 12 (by decide +kernel)]
  decide +kernel
theorem int_e : G15 [4, 97] 0 = some (2, 1, 0) := by
  unfold G15 L15_5
  simp only [show (bif decide ((0 : Int) < 0) then true else decide ((0 : Int) > ((List.length ([4, 97] : List UInt8) : Nat) : Int))) = false from rfl, cond_false]
  rw [lim_iter 12 (by decide +kernel)]
  decide +kernel
theorem str_d : G17 [4, 97, 98, 99] 0 = some ([97, 98], 3, 0) := by
  unfold G17
  simp only [P15_of _ _ int_d, F15_of _ _ int_d, cond_true]
  decide +kernel
theorem str_e : G17 [4, 97] 0 = some ([], 0, 10) := by
  unfold G17
  simp only [P15_of _ _ int_e, F15_of _ _ int_e, cond_true]
  decide +kernel
theorem put_ab : G19 [97, 98] = some ([4, 97, 98], 0) := by
  unfold G19
  simp only [P12_eq, F12_eq, cond_true]
  decide +kernel
theorem sum_9 : G21 [49, 50, 51, 52, 53, 54, 55, 56, 57] = some 3808858755 := by
  rw [G21_eq (by decide)]
  decide +kernel
theorem sane : G10 = some true := by
  unfold G10
  simp only [P12_eq, F12_eq, P15_of _ _ int_a, F15_of _ _ int_a, P15_of _ _ int_b, F15_of _ _ int_b, P15_of _ _ int_c, F15_of _ _ int_c, P19_of _ put_ab, F19_of _ put_ab, P17_of _ _ str_d, F17_of _ _ str_d, P17_of _ _ str_e, F17_of _ _ str_e, P21_of _ sum_9, F21_of _ sum_9, cond_true, Bool.true_or]
  decide +kernel
end Go.Ev.W
