/-
  DERIVED. GIVEN WITH THE SEED: THE CARDS: each row of YtohcmlejdglimaaDoorRows.lean that lists a variable, with what it lists TIED to the program's text (the seventh form; the later family's looks); each row that meets fmt, with fmt's text TOLD by the authors' own Lean function (tested against real Go, not proved from fmt's source: count such statements apart). THE CARD IS WHAT COUNTS. Prove the row's statement (the work); the ties are given (YtohcmlejdglimaaDoorTie.lean); close each card by the builder's one call (the guide's Derived/Test/ToyasCard.lean, 'card_holds'). Laid BY PROGRAM, IN A SANDBOX (cutbox-door.mjs). By AI agents, Wed Nov 11 2026. No macro, syntax, notation, axiom, sorry.
-/
import Derived.Test.YtohcmlejdglimaaDoorRows
import GoSem.ClaimSeven
namespace Go.Proofs.YtohcmlejdglimaaDoor
namespace Rows

/-- THE TIED CARD OF 'newswirelaw31.BookHeadsMatchReference'. -/
def bookHeadsMatchReferenceCard : Claim7 := { stood := { row := bookHeadsMatchReferenceRow, standIns := [], harness := (true, "eda528a74ed8cfefc563a241b65a43e1980f2e7fabf2c91775fa74da555b6aef"), looks := false }, kinds := [], alts := [], laidByText := true, laidKinds := [.data], laidTests := true, laidLooks := .later }
def BookHeadsMatchReferenceCardSaid : Prop := Claim7.holds Tryd.pinned (.plain (OpenSpec.ofChange bookHeadsMatchReferenceSpec)) bookHeadsMatchReferenceCard

/-- THE TIED CARD OF 'newswirelaw31.BookHeads'. -/
def bookHeadsCard : Claim7 := { stood := { row := bookHeadsRow, standIns := [], harness := (true, "eda528a74ed8cfefc563a241b65a43e1980f2e7fabf2c91775fa74da555b6aef"), looks := false }, kinds := [], alts := [], laidByText := true, laidKinds := [.data], laidTests := true, laidLooks := .later }
def BookHeadsCardSaid : Prop := Claim7.holds Tryd.pinned (.plain (OpenSpec.ofChange bookHeadsSpec)) bookHeadsCard

/-- THE SECOND FORM's CARD OF 'newswirelaw31.BookHeadsMatchReference'. -/
def bookHeadsMatchReferenceUptoCard : Claim7 := { stood := { row := bookHeadsMatchReferenceUptoRow, standIns := [], harness := (true, "eda528a74ed8cfefc563a241b65a43e1980f2e7fabf2c91775fa74da555b6aef"), looks := false }, kinds := [], alts := [], laidByText := true, laidKinds := [.data], laidTests := true, laidLooks := .later }
def BookHeadsMatchReferenceUptoCardSaid : Prop := Claim7.holds Tryd.pinned (.plain (OpenSpec.upto bookHeadsMatchReferenceSpec)) bookHeadsMatchReferenceUptoCard

/-- THE SECOND FORM's CARD OF 'newswirelaw31.BookHeads'. -/
def bookHeadsUptoCard : Claim7 := { stood := { row := bookHeadsUptoRow, standIns := [], harness := (true, "eda528a74ed8cfefc563a241b65a43e1980f2e7fabf2c91775fa74da555b6aef"), looks := false }, kinds := [], alts := [], laidByText := true, laidKinds := [.data], laidTests := true, laidLooks := .later }
def BookHeadsUptoCardSaid : Prop := Claim7.holds Tryd.pinned (.plain (OpenSpec.upto bookHeadsSpec)) bookHeadsUptoCard
end Rows
end Go.Proofs.YtohcmlejdglimaaDoor
