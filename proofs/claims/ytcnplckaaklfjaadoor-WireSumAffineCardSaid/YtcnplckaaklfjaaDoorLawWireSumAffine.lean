/- The law WireSumAffine: it returns true for every input, and its arguments read as before. -/
import Derived.Test.YtcnplckaaklfjaaDoorWD
import Derived.Test.YtcnplckaaklfjaaDoorTie
import Derived.Test.YtcnplckaaklfjaaDoorCards
import Derived.WalkKit
import Derived.ProofKit
import Derived.OpenShut
import Derived.ShutString
import Derived.ChangeOld
import Derived.Below
import Derived.SizedLaws
import Derived.LaidMore
import Derived.Lay
import Derived.SevenTiedAt
import Derived.Stop.Joined
namespace Go.Proofs.YtcnplckaaklfjaaDoor.wireSumAffine
open Go.ChangeShapes Go.WideShapes Go.ChangeAt Go.RowKit
open Go.ChangeMaps (open_string shut_string)
open Go.Ev Go.Ev.W
set_option linter.unusedVariables false
theorem own : ownKnob Tryd.prog.godebug = none := by kernel_rfl
set_option maxRecDepth 100000 in
theorem lifted (os : Os) (started : os.Started) (H : Type) (enc : TypeId × Value → H) :
    ReturnsInHanded {} Tryd.checked os 9 .any (fun w args => (Rows.wireSumAffineSpec.pre enc Tryd.prog Tryd.f9 Rows.wireSumAffineRow.domain false w args ∧ laidMetH Tryd.prog [("newswire/wire.nibbles", Rows.laid_newswire_wire_nibbles)] w) ∧ sizedMet enc Tryd.prog Tryd.f9 (OpenSpec.ofChange Rows.wireSumAffineSpec) false w args) (Rows.wireSumAffineSpec.post enc Tryd.prog Tryd.f9 false true false false) := by
  refine returnsInHanded_of_change_and (C := Tryd.checked) (X := fun w _ => laidMetH Tryd.prog [("newswire/wire.nibbles", Rows.laid_newswire_wire_nibbles)] w) (fun _ _ _ hh h => h.of_heap hh) own started (by kernel_rfl) Tryd.func9
    (ChangeSpec.witness_shaped (enc := enc) (C := Tryd.checked) (os := os) (X := fun w _ => laidMetH Tryd.prog [("newswire/wire.nibbles", Rows.laid_newswire_wire_nibbles)] w) false (World.laidAll Tryd.prog os [("newswire/wire.nibbles", Rows.laid_newswire_wire_nibbles)]) #[.string ByteArray.empty, .string ByteArray.empty, .string ByteArray.empty] 8 (World.laidAll_os _ _ _)
      (World.shaped_of_ZipB (by kernel_rfl) (by kernel_rfl)) (by kernel_rfl) (by kernel_rfl) (by kernel_rfl)
      (by rw [MakeChecks.laidMetH_plain _ _ _ (by kernel_rfl)]; exact laidMet_laidAll _ (by kernel_rfl) (by kernel_rfl))) ?_
  intro W base args ds gs before hval0 hW hcnd hsz0 hL _
  have hsz : (DataW.weightsEach Tryd.prog (Tryd.f9.params.toList ++ Rows.wireSumAffineSpec.plain.varTypes Tryd.prog) (ds ++ gs)).all (· ≤ reachBytes) = true := hsz0
  have hval : ∀ (j : Nat) t v, Tryd.f9.params[j]? = some t → args[j]? = some v → Value.okWide Tryd.prog W .any base t v := hval0
  have hW' := hW
  obtain ⟨p, q, hA0, hV, rfl, hfz, hnd⟩ := hW
  have hA : DataW.TrodAll enc Tryd.prog W 0 (fun _ => true) true Tryd.f9.params.toList args.toList ds p := hA0
  rw [Tryd.params9] at hA hval hsz
  obtain ⟨v0, vs0, d0, ds0, p0, q0, hargs, rfl, rfl, h0, r0⟩ := trodAll_cons hA
  obtain ⟨v1, vs1, d1, ds1, p1, q1, rfl, rfl, rfl, h1, r1⟩ := trodAll_cons r0
  obtain ⟨v2, vs2, d2, ds2, p2, q2, rfl, rfl, rfl, h2, r2⟩ := trodAll_cons r1
  obtain ⟨rfl, rfl, rfl⟩ := trodAll_nil r2
  obtain rfl : args = #[v0, v1, v2] := by cases args; simp_all
  obtain ⟨rfl, rfl⟩ := trodVars_none hV
  obtain ⟨a0, rfl, rfl, rfl, y0⟩ := open_string Tryd.underlying9 (hval 0 9 v0 rfl rfl) h0
  have w0 : a0.data.toList.length ≤ 140737488351232 := by
    have z := sized_string hsz (j := 0) (t := 9) rfl rfl
    exact z
  obtain ⟨a1, rfl, rfl, rfl, y1⟩ := open_string Tryd.underlying9 (hval 1 9 v1 rfl rfl) h1
  have w1 : a1.data.toList.length ≤ 140737488351232 := by
    have z := sized_string hsz (j := 1) (t := 9) rfl rfl
    exact z
  obtain ⟨a2, rfl, rfl, rfl, y2⟩ := open_string Tryd.underlying9 (hval 2 9 v2 rfl rfl) h2
  have w2 : a2.data.toList.length ≤ 140737488351232 := by
    have z := sized_string hsz (j := 2) (t := 9) rfl rfl
    exact z
  clear hA0 hval0 hsz0 hsz
  have hp := WireSumAffine_pure a0.data.toList a1.data.toList a2.data.toList w0 w1 w2
  have hG : GlobR glob (fun b => b < W.heap.size) W := globs_of_laid hL
  have hc := (full9).calls W (fun b => b < W.heap.size) [⟨.str, a0.data.toList⟩, ⟨.str, a1.data.toList⟩, ⟨.str, a2.data.toList⟩] [.string a0, .string a1, .string a2] (fun _ h => h) hG rfl ⟨⟨[.string a0], rfl, rfl⟩, ⟨[.string a1], rfl, rfl⟩, ⟨[.string a2], rfl, rfl⟩, trivial⟩ (P9_of _ _ _ hp)
  refine Calls.mono hc fun e W' h => ?_
  obtain ⟨vs, rfl, hgrow, hres⟩ := h
  have bel : Below W.heap.size W W' := ⟨hgrow.os, hgrow.tape, hgrow.output, hgrow.size, fun b hb => hgrow.block b hb (by simp)⟩
  have hv := hres.r 0 _ rfl
  have hvt : vs = [.bool true] := by
    have hl := hres.len
    match vs, hl with
    | [v], _ =>
      obtain ⟨cs, h1, h2⟩ := hv
      have h3 : ((spec9.val [⟨.str, a0.data.toList⟩, ⟨.str, a1.data.toList⟩, ⟨.str, a2.data.toList⟩]).getD 0 ⟨.unit, ()⟩).as .bool = true := (F9_of _ _ _ hp)
      rw [h3] at h1
      have h4 : cs = [.bool true] := h1
      subst h4
      exact congrArg (fun x => [x]) h2
  subst hvt
  exact ⟨_, rfl, _, _, _, [], _, [], hW', trodAll_mk1 (shut_bool Tryd.underlying4 _), (trodAll_cons_mk (shut_string Tryd.underlying9 y0) (trodAll_cons_mk (shut_string Tryd.underlying9 y1) (trodAll_cons_mk (shut_string Tryd.underlying9 y2) trodAll_mk0))), rfl, bel.frame _, fun h => by cases h⟩
theorem over : Rows.wireSumAffineRow.holds Tryd.pinned (OpenSpec.ofChange Rows.wireSumAffineSpec) :=
  OpenClaim.holds_of_wide 9 Tryd.f9 rfl rfl rfl rfl rfl rfl rfl ⟨rfl, rfl, rfl, rfl, rfl⟩ rfl rfl rfl rfl rfl (by kernel_rfl) Tryd.func9 (by kernel_rfl)
    (of_decide_eq_true (by kernel_rfl)) (by unfold Func.isWrapper; first | (rw [if_pos (by decide +kernel)]; kernel_rfl) | (rw [if_neg (by decide +kernel)]; exact ⟨rfl, rfl⟩))
    (fun os started H enc _ => lifted os started H enc)
theorem proved : Rows.WireSumAffineSaid := over
end Go.Proofs.YtcnplckaaklfjaaDoor.wireSumAffine
namespace Go.Proofs.YtcnplckaaklfjaaDoor
theorem wireSumAffine_holds : Rows.WireSumAffineSaid := wireSumAffine.proved
theorem wireSumAffine_card : Rows.WireSumAffineCardSaid :=
  Claim7.holds_tied_plain_at .later [] [.data] true (true, "a89dfc9a5b99d54237f6da4929fe0a09aa684786c69eaee6c4478208832de54d") false wireSumAffine_holds (fun _ h => by cases h) (by kernel_rfl) (fun _ h => by cases h) wireSumAffine_row_tie rfl ⟨rfl, rfl⟩ (by kernel_rfl) rfl
    (fun f fn hf hfn => by
      obtain rfl : f = 9 := Option.some.inj ((show Tryd.prog.funcNamed "newswire/newswirelaw01.WireSumAffine" = some 9 by kernel_rfl).symm.trans hf) |>.symm
      obtain rfl : fn = Tryd.f9 := (Option.some.inj (Tryd.func9.symm.trans hfn)).symm
      exact ⟨by kernel_rfl, fun j t ht => by
        rw [Tryd.params9] at ht
        have hm : t ∈ [9, 9, 9] := by simpa using Array.mem_of_getElem? ht
        have hall : ([9, 9, 9].all fun u => !Tryd.prog.wantsStandIn u) = true := by kernel_rfl
        exact (show Tryd.prog.wantsStandIn t = false by simpa using List.all_eq_true.1 hall t hm)⟩)
    (by kernel_rfl)
end Go.Proofs.YtcnplckaaklfjaaDoor
