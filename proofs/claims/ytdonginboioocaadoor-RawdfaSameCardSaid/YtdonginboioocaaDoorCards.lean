/-
  DERIVED. GIVEN WITH THE SEED: THE CARDS: each row of YtdonginboioocaaDoorRows.lean that lists a variable, with what it lists TIED to the program's text (the seventh form; the later family's looks); each row that meets fmt, with fmt's text TOLD by the authors' own Lean function (tested against real Go, not proved from fmt's source: count such statements apart). THE CARD IS WHAT COUNTS. Prove the row's statement (the work); the ties are given (YtdonginboioocaaDoorTie.lean); close each card by the builder's one call (the guide's Derived/Test/ToyasCard.lean, 'card_holds'). Laid BY PROGRAM, IN A SANDBOX (cutbox-door.mjs). By AI agents, Wed Nov 11 2026. No macro, syntax, notation, axiom, sorry.
-/
import Derived.Test.YtdonginboioocaaDoorRows
import GoSem.ClaimSeven
namespace Go.Proofs.YtdonginboioocaaDoor
namespace Rows

/-- THE TIED CARD OF 'waxworklaw18.RawdfaReads'. -/
def rawdfaReadsCard : Claim7 := { stood := { row := rawdfaReadsRow, standIns := [], harness := (true, "491d24450b9e0c54bad14915cb0ba972b89b13d82e67a0265769a0b8d9bfa39f"), looks := false }, kinds := [], alts := [], laidByText := true, laidKinds := [.data, .pinned], laidTests := true, laidLooks := .later }
def RawdfaReadsCardSaid : Prop := Claim7.holds Tryd.pinned (.plain (OpenSpec.ofChange rawdfaReadsSpec)) rawdfaReadsCard

/-- THE TIED CARD OF 'waxworklaw18.RawdfaFirst'. -/
def rawdfaFirstCard : Claim7 := { stood := { row := rawdfaFirstRow, standIns := [], harness := (true, "491d24450b9e0c54bad14915cb0ba972b89b13d82e67a0265769a0b8d9bfa39f"), looks := false }, kinds := [], alts := [], laidByText := true, laidKinds := [.data, .pinned], laidTests := true, laidLooks := .later }
def RawdfaFirstCardSaid : Prop := Claim7.holds Tryd.pinned (.plain (OpenSpec.ofChange rawdfaFirstSpec)) rawdfaFirstCard

/-- THE TIED CARD OF 'waxworklaw18.RawdfaWrong'. -/
def rawdfaWrongCard : Claim7 := { stood := { row := rawdfaWrongRow, standIns := [], harness := (true, "491d24450b9e0c54bad14915cb0ba972b89b13d82e67a0265769a0b8d9bfa39f"), looks := false }, kinds := [], alts := [], laidByText := true, laidKinds := [.data, .pinned], laidTests := true, laidLooks := .later }
def RawdfaWrongCardSaid : Prop := Claim7.holds Tryd.pinned (.plain (OpenSpec.ofChange rawdfaWrongSpec)) rawdfaWrongCard

/-- THE TIED CARD OF 'waxworklaw18.RawdfaSame'. -/
def rawdfaSameCard : Claim7 := { stood := { row := rawdfaSameRow, standIns := [], harness := (true, "491d24450b9e0c54bad14915cb0ba972b89b13d82e67a0265769a0b8d9bfa39f"), looks := false }, kinds := [], alts := [], laidByText := true, laidKinds := [.data, .pinned], laidTests := true, laidLooks := .later }
def RawdfaSameCardSaid : Prop := Claim7.holds Tryd.pinned (.plain (OpenSpec.ofChange rawdfaSameSpec)) rawdfaSameCard

/-- THE SECOND FORM's CARD OF 'waxworklaw18.RawdfaReads'. -/
def rawdfaReadsUptoCard : Claim7 := { stood := { row := rawdfaReadsUptoRow, standIns := [], harness := (true, "491d24450b9e0c54bad14915cb0ba972b89b13d82e67a0265769a0b8d9bfa39f"), looks := false }, kinds := [], alts := [], laidByText := true, laidKinds := [.data, .pinned], laidTests := true, laidLooks := .later }
def RawdfaReadsUptoCardSaid : Prop := Claim7.holds Tryd.pinned (.plain (OpenSpec.upto rawdfaReadsSpec)) rawdfaReadsUptoCard

/-- THE SECOND FORM's CARD OF 'waxworklaw18.RawdfaFirst'. -/
def rawdfaFirstUptoCard : Claim7 := { stood := { row := rawdfaFirstUptoRow, standIns := [], harness := (true, "491d24450b9e0c54bad14915cb0ba972b89b13d82e67a0265769a0b8d9bfa39f"), looks := false }, kinds := [], alts := [], laidByText := true, laidKinds := [.data, .pinned], laidTests := true, laidLooks := .later }
def RawdfaFirstUptoCardSaid : Prop := Claim7.holds Tryd.pinned (.plain (OpenSpec.upto rawdfaFirstSpec)) rawdfaFirstUptoCard

/-- THE SECOND FORM's CARD OF 'waxworklaw18.RawdfaWrong'. -/
def rawdfaWrongUptoCard : Claim7 := { stood := { row := rawdfaWrongUptoRow, standIns := [], harness := (true, "491d24450b9e0c54bad14915cb0ba972b89b13d82e67a0265769a0b8d9bfa39f"), looks := false }, kinds := [], alts := [], laidByText := true, laidKinds := [.data, .pinned], laidTests := true, laidLooks := .later }
def RawdfaWrongUptoCardSaid : Prop := Claim7.holds Tryd.pinned (.plain (OpenSpec.upto rawdfaWrongSpec)) rawdfaWrongUptoCard

/-- THE SECOND FORM's CARD OF 'waxworklaw18.RawdfaSame'. -/
def rawdfaSameUptoCard : Claim7 := { stood := { row := rawdfaSameUptoRow, standIns := [], harness := (true, "491d24450b9e0c54bad14915cb0ba972b89b13d82e67a0265769a0b8d9bfa39f"), looks := false }, kinds := [], alts := [], laidByText := true, laidKinds := [.data, .pinned], laidTests := true, laidLooks := .later }
def RawdfaSameUptoCardSaid : Prop := Claim7.holds Tryd.pinned (.plain (OpenSpec.upto rawdfaSameSpec)) rawdfaSameUptoCard
end Rows
end Go.Proofs.YtdonginboioocaaDoor
