/-
  DERIVED. GIVEN WITH THE SEED: THE CARDS: each row of YtpeheppiolfpfaaDoorRows.lean that lists a variable, with what it lists TIED to the program's text (the seventh form; the later family's looks); each row that meets fmt, with fmt's text TOLD by the authors' own Lean function (tested against real Go, not proved from fmt's source: count such statements apart). THE CARD IS WHAT COUNTS. Prove the row's statement (the work); the ties are given (YtpeheppiolfpfaaDoorTie.lean); close each card by the builder's one call (the guide's Derived/Test/ToyasCard.lean, 'card_holds'). Laid BY PROGRAM, IN A SANDBOX (cutbox-door.mjs). By AI agents, Wed Nov 11 2026. No macro, syntax, notation, axiom, sorry.
-/
import Derived.Test.YtpeheppiolfpfaaDoorRows
import GoSem.ClaimSeven
namespace Go.Proofs.YtpeheppiolfpfaaDoor
namespace Rows

/-- THE TIED CARD OF 'waxworklaw08.ProgTells'. -/
def progTellsCard : Claim7 := { stood := { row := progTellsRow, standIns := [], harness := (true, "9f9eea468b92cc48ccb0f1c5e0b972cd5246590abc3a20f8746428b8dca3a7a1"), looks := false }, kinds := [], alts := [], laidByText := true, laidKinds := [.data, .data, .data], laidTests := true, laidLooks := .later }
def ProgTellsCardSaid : Prop := Claim7.holds Tryd.pinned (.plain (OpenSpec.ofChange progTellsSpec)) progTellsCard

/-- THE TIED CARD OF 'waxworklaw08.ProgReach'. -/
def progReachCard : Claim7 := { stood := { row := progReachRow, standIns := [], harness := (true, "9f9eea468b92cc48ccb0f1c5e0b972cd5246590abc3a20f8746428b8dca3a7a1"), looks := false }, kinds := [], alts := [], laidByText := true, laidKinds := [.data, .data, .data], laidTests := true, laidLooks := .later }
def ProgReachCardSaid : Prop := Claim7.holds Tryd.pinned (.plain (OpenSpec.ofChange progReachSpec)) progReachCard

/-- THE TIED CARD OF 'waxworklaw08.ProgWrong'. -/
def progWrongCard : Claim7 := { stood := { row := progWrongRow, standIns := [], harness := (true, "9f9eea468b92cc48ccb0f1c5e0b972cd5246590abc3a20f8746428b8dca3a7a1"), looks := false }, kinds := [], alts := [], laidByText := true, laidKinds := [.data, .data, .data], laidTests := true, laidLooks := .later }
def ProgWrongCardSaid : Prop := Claim7.holds Tryd.pinned (.plain (OpenSpec.ofChange progWrongSpec)) progWrongCard

/-- THE TIED CARD OF 'waxworklaw08.ProgLines'. -/
def progLinesCard : Claim7 := { stood := { row := progLinesRow, standIns := [], harness := (true, "9f9eea468b92cc48ccb0f1c5e0b972cd5246590abc3a20f8746428b8dca3a7a1"), looks := false }, kinds := [], alts := [], laidByText := true, laidKinds := [.data, .data, .data], laidTests := true, laidLooks := .later }
def ProgLinesCardSaid : Prop := Claim7.holds Tryd.pinned (.plain (OpenSpec.ofChange progLinesSpec)) progLinesCard

/-- THE TIED CARD OF 'waxworklaw08.ProgSlots'. -/
def progSlotsCard : Claim7 := { stood := { row := progSlotsRow, standIns := [], harness := (true, "9f9eea468b92cc48ccb0f1c5e0b972cd5246590abc3a20f8746428b8dca3a7a1"), looks := false }, kinds := [], alts := [], laidByText := true, laidKinds := [.data, .data, .data], laidTests := true, laidLooks := .later }
def ProgSlotsCardSaid : Prop := Claim7.holds Tryd.pinned (.plain (OpenSpec.ofChange progSlotsSpec)) progSlotsCard

/-- THE TIED CARD OF 'waxworklaw08.ProgSame'. -/
def progSameCard : Claim7 := { stood := { row := progSameRow, standIns := [], harness := (true, "9f9eea468b92cc48ccb0f1c5e0b972cd5246590abc3a20f8746428b8dca3a7a1"), looks := false }, kinds := [], alts := [], laidByText := true, laidKinds := [.data, .data, .data], laidTests := true, laidLooks := .later }
def ProgSameCardSaid : Prop := Claim7.holds Tryd.pinned (.plain (OpenSpec.ofChange progSameSpec)) progSameCard

/-- THE SECOND FORM's CARD OF 'waxworklaw08.ProgTells'. -/
def progTellsUptoCard : Claim7 := { stood := { row := progTellsUptoRow, standIns := [], harness := (true, "9f9eea468b92cc48ccb0f1c5e0b972cd5246590abc3a20f8746428b8dca3a7a1"), looks := false }, kinds := [], alts := [], laidByText := true, laidKinds := [.data, .data, .data], laidTests := true, laidLooks := .later }
def ProgTellsUptoCardSaid : Prop := Claim7.holds Tryd.pinned (.plain (OpenSpec.upto progTellsSpec)) progTellsUptoCard

/-- THE SECOND FORM's CARD OF 'waxworklaw08.ProgReach'. -/
def progReachUptoCard : Claim7 := { stood := { row := progReachUptoRow, standIns := [], harness := (true, "9f9eea468b92cc48ccb0f1c5e0b972cd5246590abc3a20f8746428b8dca3a7a1"), looks := false }, kinds := [], alts := [], laidByText := true, laidKinds := [.data, .data, .data], laidTests := true, laidLooks := .later }
def ProgReachUptoCardSaid : Prop := Claim7.holds Tryd.pinned (.plain (OpenSpec.upto progReachSpec)) progReachUptoCard

/-- THE SECOND FORM's CARD OF 'waxworklaw08.ProgWrong'. -/
def progWrongUptoCard : Claim7 := { stood := { row := progWrongUptoRow, standIns := [], harness := (true, "9f9eea468b92cc48ccb0f1c5e0b972cd5246590abc3a20f8746428b8dca3a7a1"), looks := false }, kinds := [], alts := [], laidByText := true, laidKinds := [.data, .data, .data], laidTests := true, laidLooks := .later }
def ProgWrongUptoCardSaid : Prop := Claim7.holds Tryd.pinned (.plain (OpenSpec.upto progWrongSpec)) progWrongUptoCard

/-- THE SECOND FORM's CARD OF 'waxworklaw08.ProgLines'. -/
def progLinesUptoCard : Claim7 := { stood := { row := progLinesUptoRow, standIns := [], harness := (true, "9f9eea468b92cc48ccb0f1c5e0b972cd5246590abc3a20f8746428b8dca3a7a1"), looks := false }, kinds := [], alts := [], laidByText := true, laidKinds := [.data, .data, .data], laidTests := true, laidLooks := .later }
def ProgLinesUptoCardSaid : Prop := Claim7.holds Tryd.pinned (.plain (OpenSpec.upto progLinesSpec)) progLinesUptoCard

/-- THE SECOND FORM's CARD OF 'waxworklaw08.ProgSlots'. -/
def progSlotsUptoCard : Claim7 := { stood := { row := progSlotsUptoRow, standIns := [], harness := (true, "9f9eea468b92cc48ccb0f1c5e0b972cd5246590abc3a20f8746428b8dca3a7a1"), looks := false }, kinds := [], alts := [], laidByText := true, laidKinds := [.data, .data, .data], laidTests := true, laidLooks := .later }
def ProgSlotsUptoCardSaid : Prop := Claim7.holds Tryd.pinned (.plain (OpenSpec.upto progSlotsSpec)) progSlotsUptoCard

/-- THE SECOND FORM's CARD OF 'waxworklaw08.ProgSame'. -/
def progSameUptoCard : Claim7 := { stood := { row := progSameUptoRow, standIns := [], harness := (true, "9f9eea468b92cc48ccb0f1c5e0b972cd5246590abc3a20f8746428b8dca3a7a1"), looks := false }, kinds := [], alts := [], laidByText := true, laidKinds := [.data, .data, .data], laidTests := true, laidLooks := .later }
def ProgSameUptoCardSaid : Prop := Claim7.holds Tryd.pinned (.plain (OpenSpec.upto progSameSpec)) progSameUptoCard
end Rows
end Go.Proofs.YtpeheppiolfpfaaDoor
