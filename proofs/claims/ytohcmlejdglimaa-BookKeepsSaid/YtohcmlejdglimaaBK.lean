/- BookMatchesReference, with what the row knows. -/
import Derived.Test.YtohcmlejdglimaaBJ
set_option linter.unusedSimpArgs false
set_option linter.unusedVariables false
namespace Go.Ev.B
open Go Go.Ev
theorem rows5_of {l : List (List Int)} (h : Good (.list (.arr 5 (.int .i64))) l) : Rows5 l := by
  obtain ⟨h1, h2⟩ := h
  refine ⟨?_, fun i k => ?_⟩
  · have : l.length * 40 ≤ 140737488351232 := h1
    omega
  · have z : I64 0 := by unfold I64; omega
    rw [List.getD_eq_getElem?_getD]
    cases hk : (l.getD i (List.replicate 5 0))[k]? with
    | none => exact z
    | some n =>
      have hm : n ∈ l.getD i (List.replicate 5 0) := List.mem_of_getElem? hk
      rw [List.getD_eq_getElem?_getD] at hm
      cases hi : l[i]? with
      | none => rw [hi] at hm; have := List.eq_of_mem_replicate hm; subst this; exact z
      | some v =>
        rw [hi] at hm
        exact good_int ((h2 v (List.mem_of_getElem? hi)).2 n hm)
theorem BookMatchesReference_pure (x0 : Bk) (x1 : Int) (x2 : List (List Int)) (x3 : Po) (x4 x5 x6 x7 : Int)
    (g0 : Good (.pair (.int .i64) (.pair (.list (.pair (.int .i64) (.pair (.int .i64) (.pair (.int .i64) (.pair (.int .i64) (.pair (.int .i64) (.pair (.int .i64) (.pair (.int .i64) .unit)))))))) (.pair (.int .i64) .unit))) x0)
    (g1 : Good (.int .i64) x1) (g2 : Good (.list (.arr 5 (.int .i64))) x2)
    (g3 : Good (.pair (.int .i64) (.pair (.int .i64) (.pair (.int .i64) (.pair (.int .i64) (.pair (.int .i64) (.pair (.int .i64) (.pair (.int .i64) .unit))))))) x3)
    (g4 : Good (.int .i64) x4) (g5 : Good (.int .i64) x5) (g6 : Good (.int .i64) x6) (g7 : Good (.int .i64) x7) : G3 x0 x1 x2 x3 x4 x5 x6 x7 = some true := by
  refine law3 x0 x1 x2 x3 x4 x5 x6 x7 ?_ (good_int g1) (rows5_of g2) (good_int g4) (good_int g7) ?_
  · have : x0.2.1.length * 56 ≤ 140737488351232 := g0.2.1.1
    omega
  · exact good_int g3.2.2.2.2.2.1
end Go.Ev.B
