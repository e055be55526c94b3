/- The law. -/
import Derived.Test.YtohcmlejdglimaaDoorPc
import Derived.Test.YtohcmlejdglimaaDoorTie
import Derived.Test.YtohcmlejdglimaaDoorCards
import Derived.WalkKit
import Derived.ProofKit
import Derived.OpenShut
import Derived.ShutString
import Derived.ChangeOld
import Derived.Below
import Derived.SizedLaws
import Derived.LaidMore
import Derived.Lay
import Derived.SevenTiedAt
import Derived.Stop.Joined
import Derived.Carry
import Derived.Test.YtohcmlejdglimaaDoorEv4
set_option linter.unusedSimpArgs false
set_option linter.unusedVariables false
set_option linter.deprecated false
namespace Go.Proofs.YtohcmlejdglimaaDoor.bookHeads
open Go.ChangeShapes Go.WideShapes Go.ChangeAt Go.RowKit
open Go.ChangeMaps (open_string shut_string)
open Go.Ev Go.Ev.T
set_option linter.unusedVariables false
theorem own:ownKnob Tryd.prog.godebug=none:=by kernel_rfl
theorem laidOut:laidOutB Tryd.prog=true:=by kernel_rfl
set_option maxRecDepth 100000 in
theorem lifted (os:Os) (started:os.Started) (H:Type) (enc:TypeId×Value→H) :
  ReturnsInHanded {} Tryd.checked os 4 .any (fun w args => (Rows.bookHeadsSpec.pre enc Tryd.prog Tryd.f4 Rows.bookHeadsRow.domain false w args ∧ laidMetH Tryd.prog [("newswire/digest.round", Rows.laid_newswire_digest_round)] w) ∧ sizedMet enc Tryd.prog Tryd.f4 (OpenSpec.ofChange Rows.bookHeadsSpec) false w args) (Rows.bookHeadsSpec.post enc Tryd.prog Tryd.f4 false true false false) := by
 refine returnsInHanded_of_change_and (C := Tryd.checked) (X := fun w _ => laidMetH Tryd.prog [("newswire/digest.round", Rows.laid_newswire_digest_round)] w) (fun _ _ _ hh h => h.of_heap hh) own started (by kernel_rfl) Tryd.func4
  (ChangeSpec.witness_shaped (enc := enc) (C := Tryd.checked) (os := os) (X := fun w _ => laidMetH Tryd.prog [("newswire/digest.round", Rows.laid_newswire_digest_round)] w) false (World.laidAll Tryd.prog os [("newswire/digest.round", Rows.laid_newswire_digest_round)]) #[.int .i64 0, .slice none 0 0, .slice none 0 0] 8 (World.laidAll_os _ _ _)
   (World.shaped_of_ZipB (by kernel_rfl) (by kernel_rfl)) (by kernel_rfl) (by kernel_rfl) (by kernel_rfl)
   (by rw [MakeChecks.laidMetH_plain _ _ _ (by kernel_rfl)]; exact laidMet_laidAll _ (by kernel_rfl) (by kernel_rfl))) ?_
 intro W base args ds gs before hval0 hW hcnd hsz0 hL _
 have hsz:(DataW.weightsEach Tryd.prog (Tryd.f4.params.toList++Rows.bookHeadsSpec.plain.varTypes Tryd.prog) (ds++gs)).all (·≤reachBytes)=true:=hsz0
 have hval:∀ (j:Nat) t v,Tryd.f4.params[j]?=some t→args[j]?=some v→Value.okWide Tryd.prog W .any base t v:=hval0
 have hW':=hW
 obtain ⟨p,q,hA0,hV,rfl,hfz,hnd⟩:=hW
 have hA:DataW.TrodAll enc Tryd.prog W 0 (fun _=>true) true Tryd.f4.params.toList args.toList ds p:=hA0
 rw [Tryd.params4] at hA hval hsz
 obtain ⟨v0,vs0,d0,ds0,p0,q0,hargs,rfl,rfl,h0,r0⟩:=trodAll_cons hA
 obtain ⟨v1,vs1,d1,ds1,p1,q1,rfl,rfl,rfl,h1,r1⟩:=trodAll_cons r0
 obtain ⟨v2,vs2,d2,ds2,p2,q2,rfl,rfl,rfl,h2,r2⟩:=trodAll_cons r1
 obtain ⟨rfl,rfl,rfl⟩:=trodAll_nil r2
 obtain rfl:args=#[v0,v1,v2]:=by cases args; simp_all
 obtain ⟨rfl,rfl⟩:=trodVars_none hV
 obtain ⟨x0,rx0,gx0,lt0⟩:=open_arg (t:=(.int .i64)) (j:=0) hsz rfl rfl (by kernel_rfl) (hval 0 3 v0 rfl rfl) h0
 obtain ⟨x1,rx1,gx1,lt1⟩:=open_arg (t:=(.list (.arr 5 (.int .i64)))) (j:=1) hsz rfl rfl (by kernel_rfl) (hval 1 25 v1 rfl rfl) h1
 obtain ⟨x2,rx2,gx2,lt2⟩:=open_arg (t:=(.list (.arr 5 (.int .i64)))) (j:=2) hsz rfl rfl (by kernel_rfl) (hval 2 25 v2 rfl rfl) h2
 clear hA0 hval0 hsz0 hsz
 have hp:=BookHeads_pure x0 x1 x2 gx0 gx1 gx2
 have hG:GlobR glob (fun b=>b < W.heap.size) W:=globs_of_laid hL
 have hc:=(full4).calls W (fun b=>b < W.heap.size) [⟨(.int .i64),x0⟩,⟨(.list (.arr 5 (.int .i64))),x1⟩,⟨(.list (.arr 5 (.int .i64))),x2⟩] [v0,v1,v2] (fun _ h=>h) hG rfl ⟨rx0,rx1,rx2,trivial⟩ (P4_of _ _ _ hp)
 refine Calls.mono hc fun e W' h=>?_
 obtain ⟨vs,rfl,hgrow,hres⟩:=h
 have bel:Below W.heap.size W W':=⟨hgrow.os,hgrow.tape,hgrow.output,hgrow.size,fun b hb=>hgrow.block b hb (by simp)⟩
 have hv:=hres.r 0 _ rfl
 have hvt:vs=[.bool true]:=by
  have hl:=hres.len
  match vs,hl with
  | [v],_ =>
   obtain ⟨cs,h1,h2⟩:=hv
   have h3:((spec4.val [⟨(.int .i64),x0⟩,⟨(.list (.arr 5 (.int .i64))),x1⟩,⟨(.list (.arr 5 (.int .i64))),x2⟩]).getD 0 ⟨.unit,()⟩).as .bool=true:=(F4_of _ _ _ hp)
   rw [h3] at h1
   have h4:cs=[.bool true]:=h1
   subst h4
   exact congrArg (fun x=>[x]) h2
 subst hvt
 exact ⟨_,rfl,_,_,_,[],_,[],hW',trodAll_mk1 (shut_bool Tryd.underlying4 _),(trodAll_cons_mk (Below.trod laidOut (by kernel_rfl) (of_decide_eq_true (by kernel_rfl)) h0 bel lt0) (trodAll_cons_mk (Below.trod laidOut (by kernel_rfl) (of_decide_eq_true (by kernel_rfl)) h1 bel lt1) (trodAll_cons_mk (Below.trod laidOut (by kernel_rfl) (of_decide_eq_true (by kernel_rfl)) h2 bel lt2) trodAll_mk0))),rfl,bel.frame _,fun h=>by cases h⟩
theorem over:Rows.bookHeadsRow.holds Tryd.pinned (OpenSpec.ofChange Rows.bookHeadsSpec) :=
 OpenClaim.holds_of_wide 4 Tryd.f4 rfl rfl rfl rfl rfl rfl rfl ⟨rfl,rfl,rfl,rfl,rfl⟩ rfl rfl rfl rfl rfl (by kernel_rfl) Tryd.func4 (by kernel_rfl)
  (of_decide_eq_true (by kernel_rfl)) (by unfold Func.isWrapper; first | (rw [if_pos (by decide +kernel)]; kernel_rfl) | (rw [if_neg (by decide +kernel)]; exact ⟨rfl,rfl⟩))
  (fun os started H enc _=>lifted os started H enc)
theorem proved:Rows.BookHeadsSaid:=over
end Go.Proofs.YtohcmlejdglimaaDoor.bookHeads
namespace Go.Proofs.YtohcmlejdglimaaDoor
theorem bookHeads_holds:Rows.BookHeadsSaid:=bookHeads.proved
theorem bookHeads_card:Rows.BookHeadsCardSaid :=
 Claim7.holds_tied_plain_at .later [] [.data] true (true, "eda528a74ed8cfefc563a241b65a43e1980f2e7fabf2c91775fa74da555b6aef") false bookHeads_holds (fun _ h => by cases h) (by kernel_rfl) (fun _ h => by cases h) bookHeads_row_tie rfl ⟨rfl, rfl⟩ (by kernel_rfl) rfl
  (fun f fn hf hfn=>by
   obtain rfl : f = 4 := Option.some.inj ((show Tryd.prog.funcNamed "newswire/newswirelaw31.BookHeads" = some 4 by kernel_rfl).symm.trans hf) |>.symm
   obtain rfl:fn=Tryd.f4:=(Option.some.inj (Tryd.func4.symm.trans hfn)).symm
   exact ⟨by kernel_rfl,fun j t ht=>by
    rw [Tryd.params4] at ht
    have hm:t∈[3,25,25]:=by simpa using Array.mem_of_getElem? ht
    have hall:([3,25,25].all fun u=>!Tryd.prog.wantsStandIn u)=true:=by kernel_rfl
    exact (show Tryd.prog.wantsStandIn t=false by simpa using List.all_eq_true.1 hall t hm)⟩)
  (by kernel_rfl)
end Go.Proofs.YtohcmlejdglimaaDoor
