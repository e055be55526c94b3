/-
  DERIVED. GIVEN WITH THE SEED: THE CARDS: each row of YtcnplckaaklfjaaDoorRows.lean that lists a variable, with what it lists TIED to the program's text (the seventh form; the later family's looks); each row that meets fmt, with fmt's text TOLD by the authors' own Lean function (tested against real Go, not proved from fmt's source: count such statements apart). THE CARD IS WHAT COUNTS. Prove the row's statement (the work); the ties are given (YtcnplckaaklfjaaDoorTie.lean); close each card by the builder's one call (the guide's Derived/Test/ToyasCard.lean, 'card_holds'). Laid BY PROGRAM, IN A SANDBOX (cutbox-door.mjs). By AI agents, Wed Nov 11 2026. No macro, syntax, notation, axiom, sorry.
-/
import Derived.Test.YtcnplckaaklfjaaDoorRows
import GoSem.ClaimSeven
namespace Go.Proofs.YtcnplckaaklfjaaDoor
namespace Rows

/-- THE TIED CARD OF 'newswirelaw01.WireMatchesReference'. -/
def wireMatchesReferenceCard : Claim7 := { stood := { row := wireMatchesReferenceRow, standIns := [], harness := (true, "a89dfc9a5b99d54237f6da4929fe0a09aa684786c69eaee6c4478208832de54d"), looks := false }, kinds := [], alts := [], laidByText := true, laidKinds := [.data], laidTests := true, laidLooks := .later }
def WireMatchesReferenceCardSaid : Prop := Claim7.holds Tryd.pinned (.plain (OpenSpec.ofChange wireMatchesReferenceSpec)) wireMatchesReferenceCard

/-- THE TIED CARD OF 'newswirelaw01.WireRoundTrip'. -/
def wireRoundTripCard : Claim7 := { stood := { row := wireRoundTripRow, standIns := [], harness := (true, "a89dfc9a5b99d54237f6da4929fe0a09aa684786c69eaee6c4478208832de54d"), looks := false }, kinds := [], alts := [], laidByText := true, laidKinds := [.data], laidTests := true, laidLooks := .later }
def WireRoundTripCardSaid : Prop := Claim7.holds Tryd.pinned (.plain (OpenSpec.ofChange wireRoundTripSpec)) wireRoundTripCard

/-- THE TIED CARD OF 'newswirelaw01.WireUnique'. -/
def wireUniqueCard : Claim7 := { stood := { row := wireUniqueRow, standIns := [], harness := (true, "a89dfc9a5b99d54237f6da4929fe0a09aa684786c69eaee6c4478208832de54d"), looks := false }, kinds := [], alts := [], laidByText := true, laidKinds := [.data], laidTests := true, laidLooks := .later }
def WireUniqueCardSaid : Prop := Claim7.holds Tryd.pinned (.plain (OpenSpec.ofChange wireUniqueSpec)) wireUniqueCard

/-- THE TIED CARD OF 'newswirelaw01.WireSequence'. -/
def wireSequenceCard : Claim7 := { stood := { row := wireSequenceRow, standIns := [], harness := (true, "a89dfc9a5b99d54237f6da4929fe0a09aa684786c69eaee6c4478208832de54d"), looks := false }, kinds := [], alts := [], laidByText := true, laidKinds := [.data], laidTests := true, laidLooks := .later }
def WireSequenceCardSaid : Prop := Claim7.holds Tryd.pinned (.plain (OpenSpec.ofChange wireSequenceSpec)) wireSequenceCard

/-- THE TIED CARD OF 'newswirelaw01.WireTruncated'. -/
def wireTruncatedCard : Claim7 := { stood := { row := wireTruncatedRow, standIns := [], harness := (true, "a89dfc9a5b99d54237f6da4929fe0a09aa684786c69eaee6c4478208832de54d"), looks := false }, kinds := [], alts := [], laidByText := true, laidKinds := [.data], laidTests := true, laidLooks := .later }
def WireTruncatedCardSaid : Prop := Claim7.holds Tryd.pinned (.plain (OpenSpec.ofChange wireTruncatedSpec)) wireTruncatedCard

/-- THE TIED CARD OF 'newswirelaw01.WireSumBurst'. -/
def wireSumBurstCard : Claim7 := { stood := { row := wireSumBurstRow, standIns := [], harness := (true, "a89dfc9a5b99d54237f6da4929fe0a09aa684786c69eaee6c4478208832de54d"), looks := false }, kinds := [], alts := [], laidByText := true, laidKinds := [.data], laidTests := true, laidLooks := .later }
def WireSumBurstCardSaid : Prop := Claim7.holds Tryd.pinned (.plain (OpenSpec.ofChange wireSumBurstSpec)) wireSumBurstCard

/-- THE TIED CARD OF 'newswirelaw01.WireSumAffine'. -/
def wireSumAffineCard : Claim7 := { stood := { row := wireSumAffineRow, standIns := [], harness := (true, "a89dfc9a5b99d54237f6da4929fe0a09aa684786c69eaee6c4478208832de54d"), looks := false }, kinds := [], alts := [], laidByText := true, laidKinds := [.data], laidTests := true, laidLooks := .later }
def WireSumAffineCardSaid : Prop := Claim7.holds Tryd.pinned (.plain (OpenSpec.ofChange wireSumAffineSpec)) wireSumAffineCard

/-- THE SECOND FORM's CARD OF 'newswirelaw01.WireMatchesReference'. -/
def wireMatchesReferenceUptoCard : Claim7 := { stood := { row := wireMatchesReferenceUptoRow, standIns := [], harness := (true, "a89dfc9a5b99d54237f6da4929fe0a09aa684786c69eaee6c4478208832de54d"), looks := false }, kinds := [], alts := [], laidByText := true, laidKinds := [.data], laidTests := true, laidLooks := .later }
def WireMatchesReferenceUptoCardSaid : Prop := Claim7.holds Tryd.pinned (.plain (OpenSpec.upto wireMatchesReferenceSpec)) wireMatchesReferenceUptoCard

/-- THE SECOND FORM's CARD OF 'newswirelaw01.WireRoundTrip'. -/
def wireRoundTripUptoCard : Claim7 := { stood := { row := wireRoundTripUptoRow, standIns := [], harness := (true, "a89dfc9a5b99d54237f6da4929fe0a09aa684786c69eaee6c4478208832de54d"), looks := false }, kinds := [], alts := [], laidByText := true, laidKinds := [.data], laidTests := true, laidLooks := .later }
def WireRoundTripUptoCardSaid : Prop := Claim7.holds Tryd.pinned (.plain (OpenSpec.upto wireRoundTripSpec)) wireRoundTripUptoCard

/-- THE SECOND FORM's CARD OF 'newswirelaw01.WireUnique'. -/
def wireUniqueUptoCard : Claim7 := { stood := { row := wireUniqueUptoRow, standIns := [], harness := (true, "a89dfc9a5b99d54237f6da4929fe0a09aa684786c69eaee6c4478208832de54d"), looks := false }, kinds := [], alts := [], laidByText := true, laidKinds := [.data], laidTests := true, laidLooks := .later }
def WireUniqueUptoCardSaid : Prop := Claim7.holds Tryd.pinned (.plain (OpenSpec.upto wireUniqueSpec)) wireUniqueUptoCard

/-- THE SECOND FORM's CARD OF 'newswirelaw01.WireSequence'. -/
def wireSequenceUptoCard : Claim7 := { stood := { row := wireSequenceUptoRow, standIns := [], harness := (true, "a89dfc9a5b99d54237f6da4929fe0a09aa684786c69eaee6c4478208832de54d"), looks := false }, kinds := [], alts := [], laidByText := true, laidKinds := [.data], laidTests := true, laidLooks := .later }
def WireSequenceUptoCardSaid : Prop := Claim7.holds Tryd.pinned (.plain (OpenSpec.upto wireSequenceSpec)) wireSequenceUptoCard

/-- THE SECOND FORM's CARD OF 'newswirelaw01.WireTruncated'. -/
def wireTruncatedUptoCard : Claim7 := { stood := { row := wireTruncatedUptoRow, standIns := [], harness := (true, "a89dfc9a5b99d54237f6da4929fe0a09aa684786c69eaee6c4478208832de54d"), looks := false }, kinds := [], alts := [], laidByText := true, laidKinds := [.data], laidTests := true, laidLooks := .later }
def WireTruncatedUptoCardSaid : Prop := Claim7.holds Tryd.pinned (.plain (OpenSpec.upto wireTruncatedSpec)) wireTruncatedUptoCard

/-- THE SECOND FORM's CARD OF 'newswirelaw01.WireSumBurst'. -/
def wireSumBurstUptoCard : Claim7 := { stood := { row := wireSumBurstUptoRow, standIns := [], harness := (true, "a89dfc9a5b99d54237f6da4929fe0a09aa684786c69eaee6c4478208832de54d"), looks := false }, kinds := [], alts := [], laidByText := true, laidKinds := [.data], laidTests := true, laidLooks := .later }
def WireSumBurstUptoCardSaid : Prop := Claim7.holds Tryd.pinned (.plain (OpenSpec.upto wireSumBurstSpec)) wireSumBurstUptoCard

/-- THE SECOND FORM's CARD OF 'newswirelaw01.WireSumAffine'. -/
def wireSumAffineUptoCard : Claim7 := { stood := { row := wireSumAffineUptoRow, standIns := [], harness := (true, "a89dfc9a5b99d54237f6da4929fe0a09aa684786c69eaee6c4478208832de54d"), looks := false }, kinds := [], alts := [], laidByText := true, laidKinds := [.data], laidTests := true, laidLooks := .later }
def WireSumAffineUptoCardSaid : Prop := Claim7.holds Tryd.pinned (.plain (OpenSpec.upto wireSumAffineSpec)) wireSumAffineUptoCard
end Rows
end Go.Proofs.YtcnplckaaklfjaaDoor
