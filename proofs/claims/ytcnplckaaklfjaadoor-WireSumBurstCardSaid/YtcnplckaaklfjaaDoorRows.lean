/-
  NARROWER THAN 'FOR EVERY INPUT', by the rows' own cells (each row's printed sentence says how): WireMatchesReference: laid · WireRoundTrip: laid · WireUnique: laid · WireSequence: laid · WireTruncated: laid · WireSumBurst: laid · WireSumAffine: laid.
  DERIVED. THE GIVEN ROWS OF THIS SEAT. 7 by the template 'for every input the law returns true; each argument reads behind the call as it read before'; 0 by the template 'total and deterministic' (their statements: YtcnplckaaklfjaaDoorTotals.lean).
  GIVEN WITH THE SEED: the statements are not yours to turn. If you find one false, say at which input.
  Laid BY PROGRAM, IN A SANDBOX (cutbox-rows.mjs): the forced cells as the released guide's own fill.sh prints them over the translation eb2103e9b6f72f16… (all of the seat's roots in one cut). By AI agents, Wed Nov 11 2026. No macro, syntax, notation, axiom, sorry.
-/
import Derived.Test.YtcnplckaaklfjaaDoorChecked
import GoSem.Claim
import GoSem.ClaimJoined
import GoSem.ClaimMapViews
import Derived.JoinedTies
import Derived.KernelRfl
namespace Go.Proofs.YtcnplckaaklfjaaDoor
/- THE CELL 'sum', in the pinned program and in every row, IS THE sha256 OF THE DUMP (.gsa) THAT YtcnplckaaklfjaaDoorProg.lean LOADS. Nothing in Lean hashes anything: it is a label: what it is worth is what the hold of that sum in a sandbox is worth. -/
noncomputable def Tryd.pinned : Pinned := { name := "ytcnplckaaklfjaadoor", sum := "eb2103e9b6f72f164d24dd653f345d8262bdeb3bd5deaad746e7972e29878a43", checked := Tryd.checked }
namespace Rows
def none {H : Type} : Left H := { results := [], args := [] }

/- WHAT THE LISTED PACKAGE-LEVEL VARIABLES READ AS WHEN THE CALL BEGINS. Each datum BY PROGRAM (the guide's laid-datum.mjs) off the statement by which the dump's own 'gosem.cut.vars' lays the variable. In a bare row this is a premise. The card (YtcnplckaaklfjaaDoorCards.lean) ties it to the program's text. -/
def laid_newswire_wire_nibbles {H : Type} : DataW H := .agg [.lit (.int .u32 0), .lit (.int .u32 274646895), .lit (.int .u32 549293790), .lit (.int .u32 820201905), .lit (.int .u32 1098587580), .lit (.int .u32 1361435347), .lit (.int .u32 1640403810), .lit (.int .u32 1905808397), .lit (.int .u32 2197175160), .lit (.int .u32 2460548119), .lit (.int .u32 2722870694), .lit (.int .u32 2987750089), .lit (.int .u32 3280807620), .lit (.int .u32 3553878443), .lit (.int .u32 3811616794), .lit (.int .u32 4084100981)]

/-- 'newswirelaw01.WireMatchesReference': WHATEVER THE INPUT: true; the input reads as it did. -/
def wireMatchesReferenceSpec : ChangeSpec := { name := "wireMatchesReference", fn := fun _ => fun
  | [d1, d2, d3] => { results := [.lit (.bool true)], args := [d1, d2, d3] }
  | _ => none }
def wireMatchesReferenceRow : OpenClaim := { program := "ytcnplckaaklfjaadoor", sum := "eb2103e9b6f72f164d24dd653f345d8262bdeb3bd5deaad746e7972e29878a43", func := "newswire/newswirelaw01.WireMatchesReference", spec := "wireMatchesReference", unfollowed := true, recurses := true, named := ["newswire/wire.nibbles"], apart := false, laid := [("newswire/wire.nibbles", laid_newswire_wire_nibbles)] }
def WireMatchesReferenceSaid : Prop := wireMatchesReferenceRow.holds Tryd.pinned (OpenSpec.ofChange wireMatchesReferenceSpec)

/-- ITS FALSE NEIGHBOUR: 'it returns false'. Refute it at one input. -/
def wireMatchesReferenceWrong : ChangeSpec := { name := "wireMatchesReference", fn := fun _ => fun
  | [d1, d2, d3] => { results := [.lit (.bool false)], args := [d1, d2, d3] }
  | _ => none }
def WireMatchesReferenceWrongFalsely : Prop := wireMatchesReferenceRow.holds Tryd.pinned (OpenSpec.ofChange wireMatchesReferenceWrong)

/-- 'newswirelaw01.WireRoundTrip': WHATEVER THE INPUT: true; the input reads as it did. -/
def wireRoundTripSpec : ChangeSpec := { name := "wireRoundTrip", fn := fun _ => fun
  | [d1, d2, d3] => { results := [.lit (.bool true)], args := [d1, d2, d3] }
  | _ => none }
def wireRoundTripRow : OpenClaim := { program := "ytcnplckaaklfjaadoor", sum := "eb2103e9b6f72f164d24dd653f345d8262bdeb3bd5deaad746e7972e29878a43", func := "newswire/newswirelaw01.WireRoundTrip", spec := "wireRoundTrip", unfollowed := true, recurses := true, named := ["newswire/wire.nibbles"], apart := false, laid := [("newswire/wire.nibbles", laid_newswire_wire_nibbles)] }
def WireRoundTripSaid : Prop := wireRoundTripRow.holds Tryd.pinned (OpenSpec.ofChange wireRoundTripSpec)

/-- ITS FALSE NEIGHBOUR: 'it returns false'. Refute it at one input. -/
def wireRoundTripWrong : ChangeSpec := { name := "wireRoundTrip", fn := fun _ => fun
  | [d1, d2, d3] => { results := [.lit (.bool false)], args := [d1, d2, d3] }
  | _ => none }
def WireRoundTripWrongFalsely : Prop := wireRoundTripRow.holds Tryd.pinned (OpenSpec.ofChange wireRoundTripWrong)

/-- 'newswirelaw01.WireUnique': WHATEVER THE INPUT: true; the input reads as it did. -/
def wireUniqueSpec : ChangeSpec := { name := "wireUnique", fn := fun _ => fun
  | [d1, d2, d3] => { results := [.lit (.bool true)], args := [d1, d2, d3] }
  | _ => none }
def wireUniqueRow : OpenClaim := { program := "ytcnplckaaklfjaadoor", sum := "eb2103e9b6f72f164d24dd653f345d8262bdeb3bd5deaad746e7972e29878a43", func := "newswire/newswirelaw01.WireUnique", spec := "wireUnique", unfollowed := true, recurses := true, named := ["newswire/wire.nibbles"], apart := false, laid := [("newswire/wire.nibbles", laid_newswire_wire_nibbles)] }
def WireUniqueSaid : Prop := wireUniqueRow.holds Tryd.pinned (OpenSpec.ofChange wireUniqueSpec)

/-- ITS FALSE NEIGHBOUR: 'it returns false'. Refute it at one input. -/
def wireUniqueWrong : ChangeSpec := { name := "wireUnique", fn := fun _ => fun
  | [d1, d2, d3] => { results := [.lit (.bool false)], args := [d1, d2, d3] }
  | _ => none }
def WireUniqueWrongFalsely : Prop := wireUniqueRow.holds Tryd.pinned (OpenSpec.ofChange wireUniqueWrong)

/-- 'newswirelaw01.WireSequence': WHATEVER THE INPUT: true; the input reads as it did. -/
def wireSequenceSpec : ChangeSpec := { name := "wireSequence", fn := fun _ => fun
  | [d1, d2] => { results := [.lit (.bool true)], args := [d1, d2] }
  | _ => none }
def wireSequenceRow : OpenClaim := { program := "ytcnplckaaklfjaadoor", sum := "eb2103e9b6f72f164d24dd653f345d8262bdeb3bd5deaad746e7972e29878a43", func := "newswire/newswirelaw01.WireSequence", spec := "wireSequence", unfollowed := true, recurses := true, named := ["newswire/wire.nibbles"], apart := false, laid := [("newswire/wire.nibbles", laid_newswire_wire_nibbles)] }
def WireSequenceSaid : Prop := wireSequenceRow.holds Tryd.pinned (OpenSpec.ofChange wireSequenceSpec)

/-- ITS FALSE NEIGHBOUR: 'it returns false'. Refute it at one input. -/
def wireSequenceWrong : ChangeSpec := { name := "wireSequence", fn := fun _ => fun
  | [d1, d2] => { results := [.lit (.bool false)], args := [d1, d2] }
  | _ => none }
def WireSequenceWrongFalsely : Prop := wireSequenceRow.holds Tryd.pinned (OpenSpec.ofChange wireSequenceWrong)

/-- 'newswirelaw01.WireTruncated': WHATEVER THE INPUT: true; the input reads as it did. -/
def wireTruncatedSpec : ChangeSpec := { name := "wireTruncated", fn := fun _ => fun
  | [d1, d2, d3, d4] => { results := [.lit (.bool true)], args := [d1, d2, d3, d4] }
  | _ => none }
def wireTruncatedRow : OpenClaim := { program := "ytcnplckaaklfjaadoor", sum := "eb2103e9b6f72f164d24dd653f345d8262bdeb3bd5deaad746e7972e29878a43", func := "newswire/newswirelaw01.WireTruncated", spec := "wireTruncated", unfollowed := true, recurses := true, named := ["newswire/wire.nibbles"], apart := false, laid := [("newswire/wire.nibbles", laid_newswire_wire_nibbles)] }
def WireTruncatedSaid : Prop := wireTruncatedRow.holds Tryd.pinned (OpenSpec.ofChange wireTruncatedSpec)

/-- ITS FALSE NEIGHBOUR: 'it returns false'. Refute it at one input. -/
def wireTruncatedWrong : ChangeSpec := { name := "wireTruncated", fn := fun _ => fun
  | [d1, d2, d3, d4] => { results := [.lit (.bool false)], args := [d1, d2, d3, d4] }
  | _ => none }
def WireTruncatedWrongFalsely : Prop := wireTruncatedRow.holds Tryd.pinned (OpenSpec.ofChange wireTruncatedWrong)

/-- 'newswirelaw01.WireSumBurst': WHATEVER THE INPUT: true; the input reads as it did. -/
def wireSumBurstSpec : ChangeSpec := { name := "wireSumBurst", fn := fun _ => fun
  | [d1, d2, d3] => { results := [.lit (.bool true)], args := [d1, d2, d3] }
  | _ => none }
def wireSumBurstRow : OpenClaim := { program := "ytcnplckaaklfjaadoor", sum := "eb2103e9b6f72f164d24dd653f345d8262bdeb3bd5deaad746e7972e29878a43", func := "newswire/newswirelaw01.WireSumBurst", spec := "wireSumBurst", unfollowed := true, recurses := true, named := ["newswire/wire.nibbles"], apart := false, laid := [("newswire/wire.nibbles", laid_newswire_wire_nibbles)] }
def WireSumBurstSaid : Prop := wireSumBurstRow.holds Tryd.pinned (OpenSpec.ofChange wireSumBurstSpec)

/-- ITS FALSE NEIGHBOUR: 'it returns false'. Refute it at one input. -/
def wireSumBurstWrong : ChangeSpec := { name := "wireSumBurst", fn := fun _ => fun
  | [d1, d2, d3] => { results := [.lit (.bool false)], args := [d1, d2, d3] }
  | _ => none }
def WireSumBurstWrongFalsely : Prop := wireSumBurstRow.holds Tryd.pinned (OpenSpec.ofChange wireSumBurstWrong)

/-- 'newswirelaw01.WireSumAffine': WHATEVER THE INPUT: true; the input reads as it did. -/
def wireSumAffineSpec : ChangeSpec := { name := "wireSumAffine", fn := fun _ => fun
  | [d1, d2, d3] => { results := [.lit (.bool true)], args := [d1, d2, d3] }
  | _ => none }
def wireSumAffineRow : OpenClaim := { program := "ytcnplckaaklfjaadoor", sum := "eb2103e9b6f72f164d24dd653f345d8262bdeb3bd5deaad746e7972e29878a43", func := "newswire/newswirelaw01.WireSumAffine", spec := "wireSumAffine", unfollowed := true, recurses := true, named := ["newswire/wire.nibbles"], apart := false, laid := [("newswire/wire.nibbles", laid_newswire_wire_nibbles)] }
def WireSumAffineSaid : Prop := wireSumAffineRow.holds Tryd.pinned (OpenSpec.ofChange wireSumAffineSpec)

/-- ITS FALSE NEIGHBOUR: 'it returns false'. Refute it at one input. -/
def wireSumAffineWrong : ChangeSpec := { name := "wireSumAffine", fn := fun _ => fun
  | [d1, d2, d3] => { results := [.lit (.bool false)], args := [d1, d2, d3] }
  | _ => none }
def WireSumAffineWrongFalsely : Prop := wireSumAffineRow.holds Tryd.pinned (OpenSpec.ofChange wireSumAffineWrong)

/- THE SECOND FORM. 'bulk': how many values and letters a reading holds, each counted each time it is reached (what is shared counts as often as it is met; a slice's spare places count too). A statement '..UptoSaid' is the law's where the arguments, and the package variables that the reading takes, are together of bulk at most 1048576: NARROWER than '..Said'. Prove '..Said' where nothing that the law and all that it calls make is longer than what came in: it says more and counts as full. Else prove '..UptoSaid'. A law counts once. -/
mutual
def uptoBulk {H : Type} : DataW H → Nat
  | .lit (.string bytes) => bytes.length + 1
  | .lit _ => 1
  | .nil => 1
  | .ptr d => uptoBulk d + 1
  | .slice elems spare => uptoBulkAll elems + uptoBulkAll spare + 1
  | .agg parts => uptoBulkAll parts + 1
  | .iface _ d => uptoBulk d + 1
  | .map entries => uptoBulkEntries entries + 1
  | .held _ => 1
def uptoBulkAll {H : Type} : List (DataW H) → Nat
  | [] => 0
  | d :: r => uptoBulk d + uptoBulkAll r
def uptoBulkEntries {H : Type} : List (Lit × DataW H) → Nat
  | [] => 0
  | x :: r => uptoBulkEntry x + uptoBulkEntries r
def uptoBulkEntry {H : Type} : Lit × DataW H → Nat
  | (.string bytes, d) => bytes.length + uptoBulk d + 1
  | (_, d) => uptoBulk d + 1
 end
def uptoSmall : (H : Type) → List (DataW H) → Bool := fun _ ds => decide (uptoBulkAll ds ≤ 1048576)
def OpenSpec.upto (s : _root_.Go.ChangeSpec) : _root_.Go.OpenSpec := { _root_.Go.OpenSpec.ofChange s with cond := some uptoSmall }

/-- 'newswirelaw01.WireMatchesReference', WHERE WHAT IT READS IS OF BULK AT MOST 1048576: true; the input reads as it did. -/
def wireMatchesReferenceUptoRow : OpenClaim := { program := "ytcnplckaaklfjaadoor", sum := "eb2103e9b6f72f164d24dd653f345d8262bdeb3bd5deaad746e7972e29878a43", func := "newswire/newswirelaw01.WireMatchesReference", spec := "wireMatchesReference", unfollowed := true, recurses := true, named := ["newswire/wire.nibbles"], apart := false, laid := [("newswire/wire.nibbles", laid_newswire_wire_nibbles)], narrowed := true }
def WireMatchesReferenceUptoSaid : Prop := wireMatchesReferenceUptoRow.holds Tryd.pinned (OpenSpec.upto wireMatchesReferenceSpec)

/-- 'newswirelaw01.WireRoundTrip', WHERE WHAT IT READS IS OF BULK AT MOST 1048576: true; the input reads as it did. -/
def wireRoundTripUptoRow : OpenClaim := { program := "ytcnplckaaklfjaadoor", sum := "eb2103e9b6f72f164d24dd653f345d8262bdeb3bd5deaad746e7972e29878a43", func := "newswire/newswirelaw01.WireRoundTrip", spec := "wireRoundTrip", unfollowed := true, recurses := true, named := ["newswire/wire.nibbles"], apart := false, laid := [("newswire/wire.nibbles", laid_newswire_wire_nibbles)], narrowed := true }
def WireRoundTripUptoSaid : Prop := wireRoundTripUptoRow.holds Tryd.pinned (OpenSpec.upto wireRoundTripSpec)

/-- 'newswirelaw01.WireUnique', WHERE WHAT IT READS IS OF BULK AT MOST 1048576: true; the input reads as it did. -/
def wireUniqueUptoRow : OpenClaim := { program := "ytcnplckaaklfjaadoor", sum := "eb2103e9b6f72f164d24dd653f345d8262bdeb3bd5deaad746e7972e29878a43", func := "newswire/newswirelaw01.WireUnique", spec := "wireUnique", unfollowed := true, recurses := true, named := ["newswire/wire.nibbles"], apart := false, laid := [("newswire/wire.nibbles", laid_newswire_wire_nibbles)], narrowed := true }
def WireUniqueUptoSaid : Prop := wireUniqueUptoRow.holds Tryd.pinned (OpenSpec.upto wireUniqueSpec)

/-- 'newswirelaw01.WireSequence', WHERE WHAT IT READS IS OF BULK AT MOST 1048576: true; the input reads as it did. -/
def wireSequenceUptoRow : OpenClaim := { program := "ytcnplckaaklfjaadoor", sum := "eb2103e9b6f72f164d24dd653f345d8262bdeb3bd5deaad746e7972e29878a43", func := "newswire/newswirelaw01.WireSequence", spec := "wireSequence", unfollowed := true, recurses := true, named := ["newswire/wire.nibbles"], apart := false, laid := [("newswire/wire.nibbles", laid_newswire_wire_nibbles)], narrowed := true }
def WireSequenceUptoSaid : Prop := wireSequenceUptoRow.holds Tryd.pinned (OpenSpec.upto wireSequenceSpec)

/-- 'newswirelaw01.WireTruncated', WHERE WHAT IT READS IS OF BULK AT MOST 1048576: true; the input reads as it did. -/
def wireTruncatedUptoRow : OpenClaim := { program := "ytcnplckaaklfjaadoor", sum := "eb2103e9b6f72f164d24dd653f345d8262bdeb3bd5deaad746e7972e29878a43", func := "newswire/newswirelaw01.WireTruncated", spec := "wireTruncated", unfollowed := true, recurses := true, named := ["newswire/wire.nibbles"], apart := false, laid := [("newswire/wire.nibbles", laid_newswire_wire_nibbles)], narrowed := true }
def WireTruncatedUptoSaid : Prop := wireTruncatedUptoRow.holds Tryd.pinned (OpenSpec.upto wireTruncatedSpec)

/-- 'newswirelaw01.WireSumBurst', WHERE WHAT IT READS IS OF BULK AT MOST 1048576: true; the input reads as it did. -/
def wireSumBurstUptoRow : OpenClaim := { program := "ytcnplckaaklfjaadoor", sum := "eb2103e9b6f72f164d24dd653f345d8262bdeb3bd5deaad746e7972e29878a43", func := "newswire/newswirelaw01.WireSumBurst", spec := "wireSumBurst", unfollowed := true, recurses := true, named := ["newswire/wire.nibbles"], apart := false, laid := [("newswire/wire.nibbles", laid_newswire_wire_nibbles)], narrowed := true }
def WireSumBurstUptoSaid : Prop := wireSumBurstUptoRow.holds Tryd.pinned (OpenSpec.upto wireSumBurstSpec)

/-- 'newswirelaw01.WireSumAffine', WHERE WHAT IT READS IS OF BULK AT MOST 1048576: true; the input reads as it did. -/
def wireSumAffineUptoRow : OpenClaim := { program := "ytcnplckaaklfjaadoor", sum := "eb2103e9b6f72f164d24dd653f345d8262bdeb3bd5deaad746e7972e29878a43", func := "newswire/newswirelaw01.WireSumAffine", spec := "wireSumAffine", unfollowed := true, recurses := true, named := ["newswire/wire.nibbles"], apart := false, laid := [("newswire/wire.nibbles", laid_newswire_wire_nibbles)], narrowed := true }
def WireSumAffineUptoSaid : Prop := wireSumAffineUptoRow.holds Tryd.pinned (OpenSpec.upto wireSumAffineSpec)

end Rows
end Go.Proofs.YtcnplckaaklfjaaDoor
