/- The law BookMatchesReference: it returns true for every input, and its arguments read as before. -/
import Derived.Test.YtohcmlejdglimaaBK
import Derived.Test.YtohcmlejdglimaaRows
import Derived.WalkKit
import Derived.ProofKit
import Derived.OpenShut
import Derived.ShutString
import Derived.ChangeOld
import Derived.Below
import Derived.SizedLaws
import Derived.LaidMore
import Derived.Lay
import Derived.SevenTiedAt
import Derived.Stop.Joined
import Derived.Carry
import Derived.Test.YtohcmlejdglimaaEv4
set_option linter.unusedSimpArgs false
set_option linter.unusedVariables false
namespace Go.Proofs.Ytohcmlejdglimaa.bookMatchesReference
open Go.ChangeShapes Go.WideShapes Go.ChangeAt Go.RowKit
open Go.ChangeMaps (open_string shut_string)
open Go.Ev Go.Ev.B
set_option linter.unusedVariables false
theorem own : ownKnob Try.prog.godebug = none := by kernel_rfl
theorem laidOut : laidOutB Try.prog = true := by kernel_rfl
set_option maxRecDepth 100000 in
theorem lifted (os : Os) (started : os.Started) (H : Type) (enc : TypeId × Value → H) :
    ReturnsInHanded {} Try.checked os 3 .any (Rows.bookMatchesReferenceSpec.pre6 enc Try.prog Try.f3 Rows.bookMatchesReferenceRow.domain false) (Rows.bookMatchesReferenceSpec.post enc Try.prog Try.f3 false true false false) := by
  refine returnsInHanded_of_change_sized (C := Try.checked) own started (by kernel_rfl) Try.func3
    (ChangeSpec.witness6 (enc := enc) (C := Try.checked) false ⟨#[], #[.agg #[.int .i64 0, .slice none 0 0, .int .i64 0], .int .i64 0, .slice none 0 0, .agg #[.int .i64 0, .int .i64 0, .int .i64 0, .int .i64 0, .int .i64 0, .int .i64 0, .int .i64 0], .int .i64 0, .int .i64 0, .int .i64 0, .int .i64 0], []⟩ 8 (by kernel_rfl) (by kernel_rfl) (by kernel_rfl) (by kernel_rfl)) ?_
  intro W base args ds gs before hval0 hW hcnd hsz0 _
  have hsz : (DataW.weightsEach Try.prog (Try.f3.params.toList ++ Rows.bookMatchesReferenceSpec.plain.varTypes Try.prog) (ds ++ gs)).all (· ≤ reachBytes) = true := hsz0
  have hval : ∀ (j : Nat) t v, Try.f3.params[j]? = some t → args[j]? = some v → Value.okWide Try.prog W .any base t v := hval0
  have hW' := hW
  obtain ⟨p, q, hA0, hV, rfl, hfz, hnd⟩ := hW
  have hA : DataW.TrodAll enc Try.prog W 0 (fun _ => true) true Try.f3.params.toList args.toList ds p := hA0
  rw [Try.params3] at hA hval hsz
  obtain ⟨v0, vs0, d0, ds0, p0, q0, hargs, rfl, rfl, h0, r0⟩ := trodAll_cons hA
  obtain ⟨v1, vs1, d1, ds1, p1, q1, rfl, rfl, rfl, h1, r1⟩ := trodAll_cons r0
  obtain ⟨v2, vs2, d2, ds2, p2, q2, rfl, rfl, rfl, h2, r2⟩ := trodAll_cons r1
  obtain ⟨v3, vs3, d3, ds3, p3, q3, rfl, rfl, rfl, h3, r3⟩ := trodAll_cons r2
  obtain ⟨v4, vs4, d4, ds4, p4, q4, rfl, rfl, rfl, h4, r4⟩ := trodAll_cons r3
  obtain ⟨v5, vs5, d5, ds5, p5, q5, rfl, rfl, rfl, h5, r5⟩ := trodAll_cons r4
  obtain ⟨v6, vs6, d6, ds6, p6, q6, rfl, rfl, rfl, h6, r6⟩ := trodAll_cons r5
  obtain ⟨v7, vs7, d7, ds7, p7, q7, rfl, rfl, rfl, h7, r7⟩ := trodAll_cons r6
  obtain ⟨rfl, rfl, rfl⟩ := trodAll_nil r7
  obtain rfl : args = #[v0, v1, v2, v3, v4, v5, v6, v7] := by cases args; simp_all
  obtain ⟨rfl, rfl⟩ := trodVars_none hV
  obtain ⟨x0, rx0, gx0, lt0⟩ := open_arg (t := (.pair (.int .i64) (.pair (.list (.pair (.int .i64) (.pair (.int .i64) (.pair (.int .i64) (.pair (.int .i64) (.pair (.int .i64) (.pair (.int .i64) (.pair (.int .i64) .unit)))))))) (.pair (.int .i64) .unit)))) (j := 0) hsz rfl rfl (by kernel_rfl) (hval 0 24 v0 rfl rfl) h0
  obtain ⟨x1, rx1, gx1, lt1⟩ := open_arg (t := (.int .i64)) (j := 1) hsz rfl rfl (by kernel_rfl) (hval 1 3 v1 rfl rfl) h1
  obtain ⟨x2, rx2, gx2, lt2⟩ := open_arg (t := (.list (.arr 5 (.int .i64)))) (j := 2) hsz rfl rfl (by kernel_rfl) (hval 2 25 v2 rfl rfl) h2
  obtain ⟨x3, rx3, gx3, lt3⟩ := open_arg (t := (.pair (.int .i64) (.pair (.int .i64) (.pair (.int .i64) (.pair (.int .i64) (.pair (.int .i64) (.pair (.int .i64) (.pair (.int .i64) .unit)))))))) (j := 3) hsz rfl rfl (by kernel_rfl) (hval 3 27 v3 rfl rfl) h3
  obtain ⟨x4, rx4, gx4, lt4⟩ := open_arg (t := (.int .i64)) (j := 4) hsz rfl rfl (by kernel_rfl) (hval 4 3 v4 rfl rfl) h4
  obtain ⟨x5, rx5, gx5, lt5⟩ := open_arg (t := (.int .i64)) (j := 5) hsz rfl rfl (by kernel_rfl) (hval 5 3 v5 rfl rfl) h5
  obtain ⟨x6, rx6, gx6, lt6⟩ := open_arg (t := (.int .i64)) (j := 6) hsz rfl rfl (by kernel_rfl) (hval 6 3 v6 rfl rfl) h6
  obtain ⟨x7, rx7, gx7, lt7⟩ := open_arg (t := (.int .i64)) (j := 7) hsz rfl rfl (by kernel_rfl) (hval 7 3 v7 rfl rfl) h7
  clear hA0 hval0 hsz0 hsz
  have hp := BookMatchesReference_pure x0 x1 x2 x3 x4 x5 x6 x7 gx0 gx1 gx2 gx3 gx4 gx5 gx6 gx7
  have hG : GlobR glob (fun b => b < W.heap.size) W := fun k d h => by simp [glob] at h
  have hc := (full3).calls W (fun b => b < W.heap.size) [⟨(.pair (.int .i64) (.pair (.list (.pair (.int .i64) (.pair (.int .i64) (.pair (.int .i64) (.pair (.int .i64) (.pair (.int .i64) (.pair (.int .i64) (.pair (.int .i64) .unit)))))))) (.pair (.int .i64) .unit))), x0⟩, ⟨(.int .i64), x1⟩, ⟨(.list (.arr 5 (.int .i64))), x2⟩, ⟨(.pair (.int .i64) (.pair (.int .i64) (.pair (.int .i64) (.pair (.int .i64) (.pair (.int .i64) (.pair (.int .i64) (.pair (.int .i64) .unit))))))), x3⟩, ⟨(.int .i64), x4⟩, ⟨(.int .i64), x5⟩, ⟨(.int .i64), x6⟩, ⟨(.int .i64), x7⟩] [v0, v1, v2, v3, v4, v5, v6, v7] (fun _ h => h) hG rfl ⟨rx0, rx1, rx2, rx3, rx4, rx5, rx6, rx7, trivial⟩ (P3_of _ _ _ _ _ _ _ _ hp)
  refine Calls.mono hc fun e W' h => ?_
  obtain ⟨vs, rfl, hgrow, hres⟩ := h
  have bel : Below W.heap.size W W' := ⟨hgrow.os, hgrow.tape, hgrow.output, hgrow.size, fun b hb => hgrow.block b hb (by simp)⟩
  have hv := hres.r 0 _ rfl
  have hvt : vs = [.bool true] := by
    have hl := hres.len
    match vs, hl with
    | [v], _ =>
      obtain ⟨cs, h1, h2⟩ := hv
      have h3 : ((spec3.val [⟨(.pair (.int .i64) (.pair (.list (.pair (.int .i64) (.pair (.int .i64) (.pair (.int .i64) (.pair (.int .i64) (.pair (.int .i64) (.pair (.int .i64) (.pair (.int .i64) .unit)))))))) (.pair (.int .i64) .unit))), x0⟩, ⟨(.int .i64), x1⟩, ⟨(.list (.arr 5 (.int .i64))), x2⟩, ⟨(.pair (.int .i64) (.pair (.int .i64) (.pair (.int .i64) (.pair (.int .i64) (.pair (.int .i64) (.pair (.int .i64) (.pair (.int .i64) .unit))))))), x3⟩, ⟨(.int .i64), x4⟩, ⟨(.int .i64), x5⟩, ⟨(.int .i64), x6⟩, ⟨(.int .i64), x7⟩]).getD 0 ⟨.unit, ()⟩).as .bool = true := (F3_of _ _ _ _ _ _ _ _ hp)
      rw [h3] at h1
      have h4 : cs = [.bool true] := h1
      subst h4
      exact congrArg (fun x => [x]) h2
  subst hvt
  exact ⟨_, rfl, _, _, _, [], _, [], hW', trodAll_mk1 (shut_bool Try.underlying4 _), (trodAll_cons_mk (Below.trod laidOut (by kernel_rfl) (of_decide_eq_true (by kernel_rfl)) h0 bel lt0) (trodAll_cons_mk (Below.trod laidOut (by kernel_rfl) (of_decide_eq_true (by kernel_rfl)) h1 bel lt1) (trodAll_cons_mk (Below.trod laidOut (by kernel_rfl) (of_decide_eq_true (by kernel_rfl)) h2 bel lt2) (trodAll_cons_mk (Below.trod laidOut (by kernel_rfl) (of_decide_eq_true (by kernel_rfl)) h3 bel lt3) (trodAll_cons_mk (Below.trod laidOut (by kernel_rfl) (of_decide_eq_true (by kernel_rfl)) h4 bel lt4) (trodAll_cons_mk (Below.trod laidOut (by kernel_rfl) (of_decide_eq_true (by kernel_rfl)) h5 bel lt5) (trodAll_cons_mk (Below.trod laidOut (by kernel_rfl) (of_decide_eq_true (by kernel_rfl)) h6 bel lt6) (trodAll_cons_mk (Below.trod laidOut (by kernel_rfl) (of_decide_eq_true (by kernel_rfl)) h7 bel lt7) trodAll_mk0)))))))), rfl, bel.frame _, fun h => by cases h⟩
theorem over : Rows.bookMatchesReferenceRow.holds Try.pinned (OpenSpec.ofChange Rows.bookMatchesReferenceSpec) :=
  OpenClaim.holds_of_wide 3 Try.f3 rfl rfl rfl rfl rfl rfl rfl ⟨rfl, rfl, rfl, rfl, rfl⟩ rfl rfl rfl rfl rfl (by kernel_rfl) Try.func3 (by kernel_rfl)
    (of_decide_eq_true (by kernel_rfl)) (by unfold Func.isWrapper; first | (rw [if_pos (by decide +kernel)]; kernel_rfl) | (rw [if_neg (by decide +kernel)]; exact ⟨rfl, rfl⟩))
    (fun os started H enc _ => lifted os started H enc)
theorem proved : Rows.BookMatchesReferenceSaid := over
end Go.Proofs.Ytohcmlejdglimaa.bookMatchesReference
namespace Go.Proofs.Ytohcmlejdglimaa
theorem bookMatchesReference_holds : Rows.BookMatchesReferenceSaid := bookMatchesReference.proved
end Go.Proofs.Ytohcmlejdglimaa
