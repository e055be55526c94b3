/-
  DERIVED. GIVEN WITH THE SEED: THE CARDS: each row of YtgjmlbldmmedgaaGreatDoorRows.lean that lists a variable, with what it lists TIED to the program's text (the seventh form; the later family's looks); each row that meets fmt, with fmt's text TOLD by the authors' own Lean function (tested against real Go, not proved from fmt's source: count such statements apart). THE CARD IS WHAT COUNTS. Prove the row's statement (the work); the ties are given (YtgjmlbldmmedgaaGreatDoorTie.lean); close each card by the builder's one call (the guide's Derived/Test/ToyasCard.lean, 'card_holds'). Laid BY PROGRAM, IN A SANDBOX (cutbox-door.mjs). By AI agents, Wed Nov 11 2026. No macro, syntax, notation, axiom, sorry.
-/
import Derived.Test.YtgjmlbldmmedgaaGreatDoorRows
import GoSem.ClaimSeven
namespace Go.Proofs.YtgjmlbldmmedgaaGreatDoor
namespace Rows

/-- THE TIED CARD OF 'newswirelaw03.IntegerRing'. -/
def integerRingCard : Claim7 := { stood := { row := integerRingRow, standIns := [], harness := (true, "e25ccbbe4960370ec46254980bd4b60ecfd8bf29232ea8ab5aecd1f844853294"), looks := true }, kinds := [], alts := [], laidByText := true, laidKinds := [.data, .data, .data, .data, .sentinel, .sentinel, .pinned], laidTests := true, laidLooks := .later }
def IntegerRingCardSaid : Prop := Claim7.holds Tryz.pinned (.plain (OpenSpec.ofChange integerRingSpec)) integerRingCard

/-- THE TIED CARD OF 'newswirelaw03.IntegerDivided'. -/
def integerDividedCard : Claim7 := { stood := { row := integerDividedRow, standIns := [], harness := (true, "e25ccbbe4960370ec46254980bd4b60ecfd8bf29232ea8ab5aecd1f844853294"), looks := true }, kinds := [], alts := [], laidByText := true, laidKinds := [.data, .data, .data, .data, .sentinel, .sentinel, .pinned], laidTests := true, laidLooks := .later }
def IntegerDividedCardSaid : Prop := Claim7.holds Tryz.pinned (.plain (OpenSpec.ofChange integerDividedSpec)) integerDividedCard

/-- THE TIED CARD OF 'newswirelaw03.IntegerCommon'. -/
def integerCommonCard : Claim7 := { stood := { row := integerCommonRow, standIns := [], harness := (true, "e25ccbbe4960370ec46254980bd4b60ecfd8bf29232ea8ab5aecd1f844853294"), looks := true }, kinds := [], alts := [], laidByText := true, laidKinds := [.data, .data, .data, .data, .sentinel, .sentinel, .pinned], laidTests := true, laidLooks := .later }
def IntegerCommonCardSaid : Prop := Claim7.holds Tryz.pinned (.plain (OpenSpec.ofChange integerCommonSpec)) integerCommonCard

/-- THE TIED CARD OF 'newswirelaw03.IntegerRoot'. -/
def integerRootCard : Claim7 := { stood := { row := integerRootRow, standIns := [], harness := (true, "e25ccbbe4960370ec46254980bd4b60ecfd8bf29232ea8ab5aecd1f844853294"), looks := true }, kinds := [], alts := [], laidByText := true, laidKinds := [.data, .data, .data, .data, .sentinel, .sentinel, .pinned], laidTests := true, laidLooks := .later }
def IntegerRootCardSaid : Prop := Claim7.holds Tryz.pinned (.plain (OpenSpec.ofChange integerRootSpec)) integerRootCard

/-- THE TIED CARD OF 'newswirelaw03.IntegerOrder'. -/
def integerOrderCard : Claim7 := { stood := { row := integerOrderRow, standIns := [], harness := (true, "e25ccbbe4960370ec46254980bd4b60ecfd8bf29232ea8ab5aecd1f844853294"), looks := true }, kinds := [], alts := [], laidByText := true, laidKinds := [.data, .data, .data, .data, .sentinel, .sentinel, .pinned], laidTests := true, laidLooks := .later }
def IntegerOrderCardSaid : Prop := Claim7.holds Tryz.pinned (.plain (OpenSpec.ofChange integerOrderSpec)) integerOrderCard

/-- THE TIED CARD OF 'newswirelaw03.IntegerLimits'. -/
def integerLimitsCard : Claim7 := { stood := { row := integerLimitsRow, standIns := [], harness := (true, "e25ccbbe4960370ec46254980bd4b60ecfd8bf29232ea8ab5aecd1f844853294"), looks := true }, kinds := [], alts := [], laidByText := true, laidKinds := [.data, .data, .data, .data, .sentinel, .sentinel, .pinned], laidTests := true, laidLooks := .later }
def IntegerLimitsCardSaid : Prop := Claim7.holds Tryz.pinned (.plain (OpenSpec.ofChange integerLimitsSpec)) integerLimitsCard

/-- THE TIED CARD OF 'newswirelaw03.IntegerMatchesReference'. -/
def integerMatchesReferenceCard : Claim7 := { stood := { row := integerMatchesReferenceRow, standIns := [], harness := (true, "e25ccbbe4960370ec46254980bd4b60ecfd8bf29232ea8ab5aecd1f844853294"), looks := true }, kinds := [], alts := [], laidByText := true, laidKinds := [.data, .data, .data, .data, .sentinel, .sentinel, .pinned], laidTests := true, laidLooks := .later }
def IntegerMatchesReferenceCardSaid : Prop := Claim7.holds Tryz.pinned (.plain (OpenSpec.ofChange integerMatchesReferenceSpec)) integerMatchesReferenceCard

/-- THE TIED CARD OF 'newswirelaw03.IntegerMachine'. -/
def integerMachineCard : Claim7 := { stood := { row := integerMachineRow, standIns := [], harness := (true, "e25ccbbe4960370ec46254980bd4b60ecfd8bf29232ea8ab5aecd1f844853294"), looks := true }, kinds := [], alts := [], laidByText := true, laidKinds := [.data, .data, .data, .data, .sentinel, .sentinel, .pinned], laidTests := true, laidLooks := .later }
def IntegerMachineCardSaid : Prop := Claim7.holds Tryz.pinned (.plain (OpenSpec.ofChange integerMachineSpec)) integerMachineCard

/-- THE TIED CARD OF 'newswirelaw03.IntegerText'. -/
def integerTextCard : Claim7 := { stood := { row := integerTextRow, standIns := [], harness := (true, "e25ccbbe4960370ec46254980bd4b60ecfd8bf29232ea8ab5aecd1f844853294"), looks := true }, kinds := [], alts := [], laidByText := true, laidKinds := [.data, .data, .data, .data, .sentinel, .sentinel, .pinned], laidTests := true, laidLooks := .later }
def IntegerTextCardSaid : Prop := Claim7.holds Tryz.pinned (.plain (OpenSpec.ofChange integerTextSpec)) integerTextCard

/-- THE SECOND FORM's CARD OF 'newswirelaw03.IntegerRing'. -/
def integerRingUptoCard : Claim7 := { stood := { row := integerRingUptoRow, standIns := [], harness := (true, "e25ccbbe4960370ec46254980bd4b60ecfd8bf29232ea8ab5aecd1f844853294"), looks := true }, kinds := [], alts := [], laidByText := true, laidKinds := [.data, .data, .data, .data, .sentinel, .sentinel, .pinned], laidTests := true, laidLooks := .later }
def IntegerRingUptoCardSaid : Prop := Claim7.holds Tryz.pinned (.plain (OpenSpec.upto integerRingSpec)) integerRingUptoCard

/-- THE SECOND FORM's CARD OF 'newswirelaw03.IntegerDivided'. -/
def integerDividedUptoCard : Claim7 := { stood := { row := integerDividedUptoRow, standIns := [], harness := (true, "e25ccbbe4960370ec46254980bd4b60ecfd8bf29232ea8ab5aecd1f844853294"), looks := true }, kinds := [], alts := [], laidByText := true, laidKinds := [.data, .data, .data, .data, .sentinel, .sentinel, .pinned], laidTests := true, laidLooks := .later }
def IntegerDividedUptoCardSaid : Prop := Claim7.holds Tryz.pinned (.plain (OpenSpec.upto integerDividedSpec)) integerDividedUptoCard

/-- THE SECOND FORM's CARD OF 'newswirelaw03.IntegerCommon'. -/
def integerCommonUptoCard : Claim7 := { stood := { row := integerCommonUptoRow, standIns := [], harness := (true, "e25ccbbe4960370ec46254980bd4b60ecfd8bf29232ea8ab5aecd1f844853294"), looks := true }, kinds := [], alts := [], laidByText := true, laidKinds := [.data, .data, .data, .data, .sentinel, .sentinel, .pinned], laidTests := true, laidLooks := .later }
def IntegerCommonUptoCardSaid : Prop := Claim7.holds Tryz.pinned (.plain (OpenSpec.upto integerCommonSpec)) integerCommonUptoCard

/-- THE SECOND FORM's CARD OF 'newswirelaw03.IntegerRoot'. -/
def integerRootUptoCard : Claim7 := { stood := { row := integerRootUptoRow, standIns := [], harness := (true, "e25ccbbe4960370ec46254980bd4b60ecfd8bf29232ea8ab5aecd1f844853294"), looks := true }, kinds := [], alts := [], laidByText := true, laidKinds := [.data, .data, .data, .data, .sentinel, .sentinel, .pinned], laidTests := true, laidLooks := .later }
def IntegerRootUptoCardSaid : Prop := Claim7.holds Tryz.pinned (.plain (OpenSpec.upto integerRootSpec)) integerRootUptoCard

/-- THE SECOND FORM's CARD OF 'newswirelaw03.IntegerOrder'. -/
def integerOrderUptoCard : Claim7 := { stood := { row := integerOrderUptoRow, standIns := [], harness := (true, "e25ccbbe4960370ec46254980bd4b60ecfd8bf29232ea8ab5aecd1f844853294"), looks := true }, kinds := [], alts := [], laidByText := true, laidKinds := [.data, .data, .data, .data, .sentinel, .sentinel, .pinned], laidTests := true, laidLooks := .later }
def IntegerOrderUptoCardSaid : Prop := Claim7.holds Tryz.pinned (.plain (OpenSpec.upto integerOrderSpec)) integerOrderUptoCard

/-- THE SECOND FORM's CARD OF 'newswirelaw03.IntegerLimits'. -/
def integerLimitsUptoCard : Claim7 := { stood := { row := integerLimitsUptoRow, standIns := [], harness := (true, "e25ccbbe4960370ec46254980bd4b60ecfd8bf29232ea8ab5aecd1f844853294"), looks := true }, kinds := [], alts := [], laidByText := true, laidKinds := [.data, .data, .data, .data, .sentinel, .sentinel, .pinned], laidTests := true, laidLooks := .later }
def IntegerLimitsUptoCardSaid : Prop := Claim7.holds Tryz.pinned (.plain (OpenSpec.upto integerLimitsSpec)) integerLimitsUptoCard

/-- THE SECOND FORM's CARD OF 'newswirelaw03.IntegerMatchesReference'. -/
def integerMatchesReferenceUptoCard : Claim7 := { stood := { row := integerMatchesReferenceUptoRow, standIns := [], harness := (true, "e25ccbbe4960370ec46254980bd4b60ecfd8bf29232ea8ab5aecd1f844853294"), looks := true }, kinds := [], alts := [], laidByText := true, laidKinds := [.data, .data, .data, .data, .sentinel, .sentinel, .pinned], laidTests := true, laidLooks := .later }
def IntegerMatchesReferenceUptoCardSaid : Prop := Claim7.holds Tryz.pinned (.plain (OpenSpec.upto integerMatchesReferenceSpec)) integerMatchesReferenceUptoCard

/-- THE SECOND FORM's CARD OF 'newswirelaw03.IntegerMachine'. -/
def integerMachineUptoCard : Claim7 := { stood := { row := integerMachineUptoRow, standIns := [], harness := (true, "e25ccbbe4960370ec46254980bd4b60ecfd8bf29232ea8ab5aecd1f844853294"), looks := true }, kinds := [], alts := [], laidByText := true, laidKinds := [.data, .data, .data, .data, .sentinel, .sentinel, .pinned], laidTests := true, laidLooks := .later }
def IntegerMachineUptoCardSaid : Prop := Claim7.holds Tryz.pinned (.plain (OpenSpec.upto integerMachineSpec)) integerMachineUptoCard

/-- THE SECOND FORM's CARD OF 'newswirelaw03.IntegerText'. -/
def integerTextUptoCard : Claim7 := { stood := { row := integerTextUptoRow, standIns := [], harness := (true, "e25ccbbe4960370ec46254980bd4b60ecfd8bf29232ea8ab5aecd1f844853294"), looks := true }, kinds := [], alts := [], laidByText := true, laidKinds := [.data, .data, .data, .data, .sentinel, .sentinel, .pinned], laidTests := true, laidLooks := .later }
def IntegerTextUptoCardSaid : Prop := Claim7.holds Tryz.pinned (.plain (OpenSpec.upto integerTextSpec)) integerTextUptoCard
end Rows
end Go.Proofs.YtgjmlbldmmedgaaGreatDoor
