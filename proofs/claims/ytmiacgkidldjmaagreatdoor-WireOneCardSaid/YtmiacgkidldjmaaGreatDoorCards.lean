/-
  DERIVED. GIVEN WITH THE SEED: THE CARDS: each row of YtmiacgkidldjmaaGreatDoorRows.lean that lists a variable, with what it lists TIED to the program's text (the seventh form; the later family's looks); each row that meets fmt, with fmt's text TOLD by the authors' own Lean function (tested against real Go, not proved from fmt's source: count such statements apart). THE CARD IS WHAT COUNTS. Prove the row's statement (the work); the ties are given (YtmiacgkidldjmaaGreatDoorTie.lean); close each card by the builder's one call (the guide's Derived/Test/ToyasCard.lean, 'card_holds'). Laid BY PROGRAM, IN A SANDBOX (cutbox-door.mjs). By AI agents, Wed Nov 11 2026. No macro, syntax, notation, axiom, sorry.
-/
import Derived.Test.YtmiacgkidldjmaaGreatDoorRows
import GoSem.ClaimSeven
namespace Go.Proofs.YtmiacgkidldjmaaGreatDoor
namespace Rows

/-- THE TIED CARD OF 'waxworklaw13.SealBlobs'. -/
def sealBlobsCard : Claim7 := { stood := { row := sealBlobsRow, standIns := [], harness := (true, "2640a8e18be03c37e032325b81a3fd4674b12ea902bf6d37777a73b193f30dfa"), looks := false }, kinds := [], alts := [], laidByText := true, laidKinds := [.data, .pinned], laidTests := true, laidLooks := .later }
def SealBlobsCardSaid : Prop := Claim7.holds Tryz.pinned (.plain (OpenSpec.ofChange sealBlobsSpec)) sealBlobsCard

/-- THE TIED CARD OF 'waxworklaw12.WireKinds'. -/
def wireKindsCard : Claim7 := { stood := { row := wireKindsRow, standIns := [], harness := (true, "2640a8e18be03c37e032325b81a3fd4674b12ea902bf6d37777a73b193f30dfa"), looks := false }, kinds := [], alts := [], laidByText := true, laidKinds := [.data, .pinned], laidTests := true, laidLooks := .later }
def WireKindsCardSaid : Prop := Claim7.holds Tryz.pinned (.plain (OpenSpec.ofChange wireKindsSpec)) wireKindsCard

/-- THE TIED CARD OF 'waxworklaw13.SealBounds'. -/
def sealBoundsCard : Claim7 := { stood := { row := sealBoundsRow, standIns := [], harness := (true, "2640a8e18be03c37e032325b81a3fd4674b12ea902bf6d37777a73b193f30dfa"), looks := false }, kinds := [], alts := [], laidByText := true, laidKinds := [.data, .pinned], laidTests := true, laidLooks := .later }
def SealBoundsCardSaid : Prop := Claim7.holds Tryz.pinned (.plain (OpenSpec.ofChange sealBoundsSpec)) sealBoundsCard

/-- THE TIED CARD OF 'waxworklaw13.SealTables'. -/
def sealTablesCard : Claim7 := { stood := { row := sealTablesRow, standIns := [], harness := (true, "2640a8e18be03c37e032325b81a3fd4674b12ea902bf6d37777a73b193f30dfa"), looks := false }, kinds := [], alts := [], laidByText := true, laidKinds := [.data, .pinned], laidTests := true, laidLooks := .later }
def SealTablesCardSaid : Prop := Claim7.holds Tryz.pinned (.plain (OpenSpec.ofChange sealTablesSpec)) sealTablesCard

/-- THE TIED CARD OF 'waxworklaw12.WirePuts'. -/
def wirePutsCard : Claim7 := { stood := { row := wirePutsRow, standIns := [], harness := (true, "2640a8e18be03c37e032325b81a3fd4674b12ea902bf6d37777a73b193f30dfa"), looks := false }, kinds := [], alts := [], laidByText := true, laidKinds := [.data, .pinned], laidTests := true, laidLooks := .later }
def WirePutsCardSaid : Prop := Claim7.holds Tryz.pinned (.plain (OpenSpec.ofChange wirePutsSpec)) wirePutsCard

/-- THE TIED CARD OF 'waxworklaw12.WireOne'. -/
def wireOneCard : Claim7 := { stood := { row := wireOneRow, standIns := [], harness := (true, "2640a8e18be03c37e032325b81a3fd4674b12ea902bf6d37777a73b193f30dfa"), looks := false }, kinds := [], alts := [], laidByText := true, laidKinds := [.data, .pinned], laidTests := true, laidLooks := .later }
def WireOneCardSaid : Prop := Claim7.holds Tryz.pinned (.plain (OpenSpec.ofChange wireOneSpec)) wireOneCard

/-- THE TIED CARD OF 'waxworklaw12.WireFaults'. -/
def wireFaultsCard : Claim7 := { stood := { row := wireFaultsRow, standIns := [], harness := (true, "2640a8e18be03c37e032325b81a3fd4674b12ea902bf6d37777a73b193f30dfa"), looks := false }, kinds := [], alts := [], laidByText := true, laidKinds := [.data, .pinned], laidTests := true, laidLooks := .later }
def WireFaultsCardSaid : Prop := Claim7.holds Tryz.pinned (.plain (OpenSpec.ofChange wireFaultsSpec)) wireFaultsCard

/-- THE TIED CARD OF 'waxworklaw12.WireSeals'. -/
def wireSealsCard : Claim7 := { stood := { row := wireSealsRow, standIns := [], harness := (true, "2640a8e18be03c37e032325b81a3fd4674b12ea902bf6d37777a73b193f30dfa"), looks := false }, kinds := [], alts := [], laidByText := true, laidKinds := [.data, .pinned], laidTests := true, laidLooks := .later }
def WireSealsCardSaid : Prop := Claim7.holds Tryz.pinned (.plain (OpenSpec.ofChange wireSealsSpec)) wireSealsCard

/-- THE TIED CARD OF 'waxworklaw13.SealLoops'. -/
def sealLoopsCard : Claim7 := { stood := { row := sealLoopsRow, standIns := [], harness := (true, "2640a8e18be03c37e032325b81a3fd4674b12ea902bf6d37777a73b193f30dfa"), looks := false }, kinds := [], alts := [], laidByText := true, laidKinds := [.data, .pinned], laidTests := true, laidLooks := .later }
def SealLoopsCardSaid : Prop := Claim7.holds Tryz.pinned (.plain (OpenSpec.ofChange sealLoopsSpec)) sealLoopsCard

/-- THE TIED CARD OF 'waxworklaw13.SealReached'. -/
def sealReachedCard : Claim7 := { stood := { row := sealReachedRow, standIns := [], harness := (true, "2640a8e18be03c37e032325b81a3fd4674b12ea902bf6d37777a73b193f30dfa"), looks := false }, kinds := [], alts := [], laidByText := true, laidKinds := [.data, .pinned], laidTests := true, laidLooks := .later }
def SealReachedCardSaid : Prop := Claim7.holds Tryz.pinned (.plain (OpenSpec.ofChange sealReachedSpec)) sealReachedCard

/-- THE SECOND FORM's CARD OF 'waxworklaw13.SealBlobs'. -/
def sealBlobsUptoCard : Claim7 := { stood := { row := sealBlobsUptoRow, standIns := [], harness := (true, "2640a8e18be03c37e032325b81a3fd4674b12ea902bf6d37777a73b193f30dfa"), looks := false }, kinds := [], alts := [], laidByText := true, laidKinds := [.data, .pinned], laidTests := true, laidLooks := .later }
def SealBlobsUptoCardSaid : Prop := Claim7.holds Tryz.pinned (.plain (OpenSpec.upto sealBlobsSpec)) sealBlobsUptoCard

/-- THE SECOND FORM's CARD OF 'waxworklaw12.WireKinds'. -/
def wireKindsUptoCard : Claim7 := { stood := { row := wireKindsUptoRow, standIns := [], harness := (true, "2640a8e18be03c37e032325b81a3fd4674b12ea902bf6d37777a73b193f30dfa"), looks := false }, kinds := [], alts := [], laidByText := true, laidKinds := [.data, .pinned], laidTests := true, laidLooks := .later }
def WireKindsUptoCardSaid : Prop := Claim7.holds Tryz.pinned (.plain (OpenSpec.upto wireKindsSpec)) wireKindsUptoCard

/-- THE SECOND FORM's CARD OF 'waxworklaw13.SealBounds'. -/
def sealBoundsUptoCard : Claim7 := { stood := { row := sealBoundsUptoRow, standIns := [], harness := (true, "2640a8e18be03c37e032325b81a3fd4674b12ea902bf6d37777a73b193f30dfa"), looks := false }, kinds := [], alts := [], laidByText := true, laidKinds := [.data, .pinned], laidTests := true, laidLooks := .later }
def SealBoundsUptoCardSaid : Prop := Claim7.holds Tryz.pinned (.plain (OpenSpec.upto sealBoundsSpec)) sealBoundsUptoCard

/-- THE SECOND FORM's CARD OF 'waxworklaw13.SealTables'. -/
def sealTablesUptoCard : Claim7 := { stood := { row := sealTablesUptoRow, standIns := [], harness := (true, "2640a8e18be03c37e032325b81a3fd4674b12ea902bf6d37777a73b193f30dfa"), looks := false }, kinds := [], alts := [], laidByText := true, laidKinds := [.data, .pinned], laidTests := true, laidLooks := .later }
def SealTablesUptoCardSaid : Prop := Claim7.holds Tryz.pinned (.plain (OpenSpec.upto sealTablesSpec)) sealTablesUptoCard

/-- THE SECOND FORM's CARD OF 'waxworklaw12.WirePuts'. -/
def wirePutsUptoCard : Claim7 := { stood := { row := wirePutsUptoRow, standIns := [], harness := (true, "2640a8e18be03c37e032325b81a3fd4674b12ea902bf6d37777a73b193f30dfa"), looks := false }, kinds := [], alts := [], laidByText := true, laidKinds := [.data, .pinned], laidTests := true, laidLooks := .later }
def WirePutsUptoCardSaid : Prop := Claim7.holds Tryz.pinned (.plain (OpenSpec.upto wirePutsSpec)) wirePutsUptoCard

/-- THE SECOND FORM's CARD OF 'waxworklaw12.WireOne'. -/
def wireOneUptoCard : Claim7 := { stood := { row := wireOneUptoRow, standIns := [], harness := (true, "2640a8e18be03c37e032325b81a3fd4674b12ea902bf6d37777a73b193f30dfa"), looks := false }, kinds := [], alts := [], laidByText := true, laidKinds := [.data, .pinned], laidTests := true, laidLooks := .later }
def WireOneUptoCardSaid : Prop := Claim7.holds Tryz.pinned (.plain (OpenSpec.upto wireOneSpec)) wireOneUptoCard

/-- THE SECOND FORM's CARD OF 'waxworklaw12.WireFaults'. -/
def wireFaultsUptoCard : Claim7 := { stood := { row := wireFaultsUptoRow, standIns := [], harness := (true, "2640a8e18be03c37e032325b81a3fd4674b12ea902bf6d37777a73b193f30dfa"), looks := false }, kinds := [], alts := [], laidByText := true, laidKinds := [.data, .pinned], laidTests := true, laidLooks := .later }
def WireFaultsUptoCardSaid : Prop := Claim7.holds Tryz.pinned (.plain (OpenSpec.upto wireFaultsSpec)) wireFaultsUptoCard

/-- THE SECOND FORM's CARD OF 'waxworklaw12.WireSeals'. -/
def wireSealsUptoCard : Claim7 := { stood := { row := wireSealsUptoRow, standIns := [], harness := (true, "2640a8e18be03c37e032325b81a3fd4674b12ea902bf6d37777a73b193f30dfa"), looks := false }, kinds := [], alts := [], laidByText := true, laidKinds := [.data, .pinned], laidTests := true, laidLooks := .later }
def WireSealsUptoCardSaid : Prop := Claim7.holds Tryz.pinned (.plain (OpenSpec.upto wireSealsSpec)) wireSealsUptoCard

/-- THE SECOND FORM's CARD OF 'waxworklaw13.SealLoops'. -/
def sealLoopsUptoCard : Claim7 := { stood := { row := sealLoopsUptoRow, standIns := [], harness := (true, "2640a8e18be03c37e032325b81a3fd4674b12ea902bf6d37777a73b193f30dfa"), looks := false }, kinds := [], alts := [], laidByText := true, laidKinds := [.data, .pinned], laidTests := true, laidLooks := .later }
def SealLoopsUptoCardSaid : Prop := Claim7.holds Tryz.pinned (.plain (OpenSpec.upto sealLoopsSpec)) sealLoopsUptoCard

/-- THE SECOND FORM's CARD OF 'waxworklaw13.SealReached'. -/
def sealReachedUptoCard : Claim7 := { stood := { row := sealReachedUptoRow, standIns := [], harness := (true, "2640a8e18be03c37e032325b81a3fd4674b12ea902bf6d37777a73b193f30dfa"), looks := false }, kinds := [], alts := [], laidByText := true, laidKinds := [.data, .pinned], laidTests := true, laidLooks := .later }
def SealReachedUptoCardSaid : Prop := Claim7.holds Tryz.pinned (.plain (OpenSpec.upto sealReachedSpec)) sealReachedUptoCard
end Rows
end Go.Proofs.YtmiacgkidldjmaaGreatDoor
