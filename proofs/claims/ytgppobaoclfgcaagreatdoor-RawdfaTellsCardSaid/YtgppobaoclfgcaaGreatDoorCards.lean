/-
  DERIVED. GIVEN WITH THE SEED: THE CARDS: each row of YtgppobaoclfgcaaGreatDoorRows.lean that lists a variable, with what it lists TIED to the program's text (the seventh form; the later family's looks); each row that meets fmt, with fmt's text TOLD by the authors' own Lean function (tested against real Go, not proved from fmt's source: count such statements apart). THE CARD IS WHAT COUNTS. Prove the row's statement (the work); the ties are given (YtgppobaoclfgcaaGreatDoorTie.lean); close each card by the builder's one call (the guide's Derived/Test/ToyasCard.lean, 'card_holds'). Laid BY PROGRAM, IN A SANDBOX (cutbox-door.mjs). By AI agents, Wed Nov 11 2026. No macro, syntax, notation, axiom, sorry.
-/
import Derived.Test.YtgppobaoclfgcaaGreatDoorRows
import GoSem.ClaimSeven
namespace Go.Proofs.YtgppobaoclfgcaaGreatDoor
namespace Rows

/-- THE TIED CARD OF 'waxworklaw18.RawdfaTells'. -/
def rawdfaTellsCard : Claim7 := { stood := { row := rawdfaTellsRow, standIns := [], harness := (true, "ef6f9a4cbe906401c0e3a820d084ccf887290e1aabbd042c49d8651b44368fdd"), looks := false }, kinds := [], alts := [], laidByText := true, laidKinds := [.data, .data, .data, .data, .pinned], laidTests := true, laidLooks := .later }
def RawdfaTellsCardSaid : Prop := Claim7.holds Tryz.pinned (.plain (OpenSpec.ofChange rawdfaTellsSpec)) rawdfaTellsCard

/-- THE SECOND FORM's CARD OF 'waxworklaw18.RawdfaTells'. -/
def rawdfaTellsUptoCard : Claim7 := { stood := { row := rawdfaTellsUptoRow, standIns := [], harness := (true, "ef6f9a4cbe906401c0e3a820d084ccf887290e1aabbd042c49d8651b44368fdd"), looks := false }, kinds := [], alts := [], laidByText := true, laidKinds := [.data, .data, .data, .data, .pinned], laidTests := true, laidLooks := .later }
def RawdfaTellsUptoCardSaid : Prop := Claim7.holds Tryz.pinned (.plain (OpenSpec.upto rawdfaTellsSpec)) rawdfaTellsUptoCard
end Rows
end Go.Proofs.YtgppobaoclfgcaaGreatDoor
