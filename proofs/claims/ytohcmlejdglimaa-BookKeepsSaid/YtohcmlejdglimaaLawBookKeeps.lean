/- The law BookKeeps: it returns true for every input, and its arguments read as before. -/
import Derived.Test.YtohcmlejdglimaaBM
import Derived.Test.YtohcmlejdglimaaRows
import Derived.WalkKit
import Derived.ProofKit
import Derived.OpenShut
import Derived.ShutString
import Derived.ChangeOld
import Derived.Below
import Derived.SizedLaws
import Derived.LaidMore
import Derived.Lay
import Derived.SevenTiedAt
import Derived.Stop.Joined
import Derived.Carry
import Derived.Test.YtohcmlejdglimaaEv4
set_option linter.unusedSimpArgs false
set_option linter.unusedVariables false
namespace Go.Proofs.Ytohcmlejdglimaa.bookKeeps
open Go.ChangeShapes Go.WideShapes Go.ChangeAt Go.RowKit
open Go.ChangeMaps (open_string shut_string)
open Go.Ev Go.Ev.B
set_option linter.unusedVariables false
theorem own : ownKnob Try.prog.godebug = none := by kernel_rfl
theorem laidOut : laidOutB Try.prog = true := by kernel_rfl
set_option maxRecDepth 100000 in
theorem lifted (os : Os) (started : os.Started) (H : Type) (enc : TypeId × Value → H) :
    ReturnsInHanded {} Try.checked os 5 .any (Rows.bookKeepsSpec.pre6 enc Try.prog Try.f5 Rows.bookKeepsRow.domain false) (Rows.bookKeepsSpec.post enc Try.prog Try.f5 false true false false) := by
  refine returnsInHanded_of_change_sized (C := Try.checked) own started (by kernel_rfl) Try.func5
    (ChangeSpec.witness6 (enc := enc) (C := Try.checked) false ⟨#[], #[.int .i64 0, .slice none 0 0, .slice none 0 0], []⟩ 8 (by kernel_rfl) (by kernel_rfl) (by kernel_rfl) (by kernel_rfl)) ?_
  intro W base args ds gs before hval0 hW hcnd hsz0 _
  have hsz : (DataW.weightsEach Try.prog (Try.f5.params.toList ++ Rows.bookKeepsSpec.plain.varTypes Try.prog) (ds ++ gs)).all (· ≤ reachBytes) = true := hsz0
  have hval : ∀ (j : Nat) t v, Try.f5.params[j]? = some t → args[j]? = some v → Value.okWide Try.prog W .any base t v := hval0
  have hW' := hW
  obtain ⟨p, q, hA0, hV, rfl, hfz, hnd⟩ := hW
  have hA : DataW.TrodAll enc Try.prog W 0 (fun _ => true) true Try.f5.params.toList args.toList ds p := hA0
  rw [Try.params5] at hA hval hsz
  obtain ⟨v0, vs0, d0, ds0, p0, q0, hargs, rfl, rfl, h0, r0⟩ := trodAll_cons hA
  obtain ⟨v1, vs1, d1, ds1, p1, q1, rfl, rfl, rfl, h1, r1⟩ := trodAll_cons r0
  obtain ⟨v2, vs2, d2, ds2, p2, q2, rfl, rfl, rfl, h2, r2⟩ := trodAll_cons r1
  obtain ⟨rfl, rfl, rfl⟩ := trodAll_nil r2
  obtain rfl : args = #[v0, v1, v2] := by cases args; simp_all
  obtain ⟨rfl, rfl⟩ := trodVars_none hV
  obtain ⟨x0, rx0, gx0, lt0⟩ := open_arg (t := (.int .i64)) (j := 0) hsz rfl rfl (by kernel_rfl) (hval 0 3 v0 rfl rfl) h0
  obtain ⟨x1, rx1, gx1, lt1⟩ := open_arg (t := (.list (.arr 5 (.int .i64)))) (j := 1) hsz rfl rfl (by kernel_rfl) (hval 1 25 v1 rfl rfl) h1
  obtain ⟨x2, rx2, gx2, lt2⟩ := open_arg (t := (.list (.arr 5 (.int .i64)))) (j := 2) hsz rfl rfl (by kernel_rfl) (hval 2 25 v2 rfl rfl) h2
  clear hA0 hval0 hsz0 hsz
  have hp := BookKeeps_pure x0 x1 x2 gx0 gx1 gx2
  have hG : GlobR glob (fun b => b < W.heap.size) W := fun k d h => by simp [glob] at h
  have hc := (full5).calls W (fun b => b < W.heap.size) [⟨(.int .i64), x0⟩, ⟨(.list (.arr 5 (.int .i64))), x1⟩, ⟨(.list (.arr 5 (.int .i64))), x2⟩] [v0, v1, v2] (fun _ h => h) hG rfl ⟨rx0, rx1, rx2, trivial⟩ (P5_of _ _ _ hp)
  refine Calls.mono hc fun e W' h => ?_
  obtain ⟨vs, rfl, hgrow, hres⟩ := h
  have bel : Below W.heap.size W W' := ⟨hgrow.os, hgrow.tape, hgrow.output, hgrow.size, fun b hb => hgrow.block b hb (by simp)⟩
  have hv := hres.r 0 _ rfl
  have hvt : vs = [.bool true] := by
    have hl := hres.len
    match vs, hl with
    | [v], _ =>
      obtain ⟨cs, h1, h2⟩ := hv
      have h3 : ((spec5.val [⟨(.int .i64), x0⟩, ⟨(.list (.arr 5 (.int .i64))), x1⟩, ⟨(.list (.arr 5 (.int .i64))), x2⟩]).getD 0 ⟨.unit, ()⟩).as .bool = true := (F5_of _ _ _ hp)
      rw [h3] at h1
      have h4 : cs = [.bool true] := h1
      subst h4
      exact congrArg (fun x => [x]) h2
  subst hvt
  exact ⟨_, rfl, _, _, _, [], _, [], hW', trodAll_mk1 (shut_bool Try.underlying4 _), (trodAll_cons_mk (Below.trod laidOut (by kernel_rfl) (of_decide_eq_true (by kernel_rfl)) h0 bel lt0) (trodAll_cons_mk (Below.trod laidOut (by kernel_rfl) (of_decide_eq_true (by kernel_rfl)) h1 bel lt1) (trodAll_cons_mk (Below.trod laidOut (by kernel_rfl) (of_decide_eq_true (by kernel_rfl)) h2 bel lt2) trodAll_mk0))), rfl, bel.frame _, fun h => by cases h⟩
theorem over : Rows.bookKeepsRow.holds Try.pinned (OpenSpec.ofChange Rows.bookKeepsSpec) :=
  OpenClaim.holds_of_wide 5 Try.f5 rfl rfl rfl rfl rfl rfl rfl ⟨rfl, rfl, rfl, rfl, rfl⟩ rfl rfl rfl rfl rfl (by kernel_rfl) Try.func5 (by kernel_rfl)
    (of_decide_eq_true (by kernel_rfl)) (by unfold Func.isWrapper; first | (rw [if_pos (by decide +kernel)]; kernel_rfl) | (rw [if_neg (by decide +kernel)]; exact ⟨rfl, rfl⟩))
    (fun os started H enc _ => lifted os started H enc)
theorem proved : Rows.BookKeepsSaid := over
end Go.Proofs.Ytohcmlejdglimaa.bookKeeps
namespace Go.Proofs.Ytohcmlejdglimaa
theorem bookKeeps_holds : Rows.BookKeepsSaid := bookKeeps.proved
end Go.Proofs.Ytohcmlejdglimaa
