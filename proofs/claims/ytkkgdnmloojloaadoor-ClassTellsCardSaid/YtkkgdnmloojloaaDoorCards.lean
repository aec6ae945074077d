/-
  DERIVED. GIVEN WITH THE SEED: THE CARDS: each row of YtkkgdnmloojloaaDoorRows.lean that lists a variable, with what it lists TIED to the program's text (the seventh form; the later family's looks); each row that meets fmt, with fmt's text TOLD by the authors' own Lean function (tested against real Go, not proved from fmt's source: count such statements apart). THE CARD IS WHAT COUNTS. Prove the row's statement (the work); the ties are given (YtkkgdnmloojloaaDoorTie.lean); close each card by the builder's one call (the guide's Derived/Test/ToyasCard.lean, 'card_holds'). Laid BY PROGRAM, IN A SANDBOX (cutbox-door.mjs). By AI agents, Wed Nov 11 2026. No macro, syntax, notation, axiom, sorry.
-/
import Derived.Test.YtkkgdnmloojloaaDoorRows
import GoSem.ClaimSeven
namespace Go.Proofs.YtkkgdnmloojloaaDoor
namespace Rows

/-- THE TIED CARD OF 'waxworklaw02.VaryReads'. -/
def varyReadsCard : Claim7 := { stood := { row := varyReadsRow, standIns := [], harness := (true, "b6273d2988d4d7d8cb050c6720a9f8b7fd8fb999d820e9cfd8edd7d1ae706ebb"), looks := false }, kinds := [], alts := [], laidByText := true, laidKinds := [.data, .pinned], laidTests := true, laidLooks := .later }
def VaryReadsCardSaid : Prop := Claim7.holds Tryd.pinned (.plain (OpenSpec.ofChange varyReadsSpec)) varyReadsCard

/-- THE TIED CARD OF 'waxworklaw02.VaryBack'. -/
def varyBackCard : Claim7 := { stood := { row := varyBackRow, standIns := [], harness := (true, "b6273d2988d4d7d8cb050c6720a9f8b7fd8fb999d820e9cfd8edd7d1ae706ebb"), looks := false }, kinds := [], alts := [], laidByText := true, laidKinds := [.data, .pinned], laidTests := true, laidLooks := .later }
def VaryBackCardSaid : Prop := Claim7.holds Tryd.pinned (.plain (OpenSpec.ofChange varyBackSpec)) varyBackCard

/-- THE TIED CARD OF 'waxworklaw02.VaryOne'. -/
def varyOneCard : Claim7 := { stood := { row := varyOneRow, standIns := [], harness := (true, "b6273d2988d4d7d8cb050c6720a9f8b7fd8fb999d820e9cfd8edd7d1ae706ebb"), looks := false }, kinds := [], alts := [], laidByText := true, laidKinds := [.data, .pinned], laidTests := true, laidLooks := .later }
def VaryOneCardSaid : Prop := Claim7.holds Tryd.pinned (.plain (OpenSpec.ofChange varyOneSpec)) varyOneCard

/-- THE TIED CARD OF 'waxworklaw02.VaryLong'. -/
def varyLongCard : Claim7 := { stood := { row := varyLongRow, standIns := [], harness := (true, "b6273d2988d4d7d8cb050c6720a9f8b7fd8fb999d820e9cfd8edd7d1ae706ebb"), looks := false }, kinds := [], alts := [], laidByText := true, laidKinds := [.data, .pinned], laidTests := true, laidLooks := .later }
def VaryLongCardSaid : Prop := Claim7.holds Tryd.pinned (.plain (OpenSpec.ofChange varyLongSpec)) varyLongCard

/-- THE TIED CARD OF 'waxworklaw02.VaryPads'. -/
def varyPadsCard : Claim7 := { stood := { row := varyPadsRow, standIns := [], harness := (true, "b6273d2988d4d7d8cb050c6720a9f8b7fd8fb999d820e9cfd8edd7d1ae706ebb"), looks := false }, kinds := [], alts := [], laidByText := true, laidKinds := [.data, .pinned], laidTests := true, laidLooks := .later }
def VaryPadsCardSaid : Prop := Claim7.holds Tryd.pinned (.plain (OpenSpec.ofChange varyPadsSpec)) varyPadsCard

/-- THE TIED CARD OF 'waxworklaw02.VaryTexts'. -/
def varyTextsCard : Claim7 := { stood := { row := varyTextsRow, standIns := [], harness := (true, "b6273d2988d4d7d8cb050c6720a9f8b7fd8fb999d820e9cfd8edd7d1ae706ebb"), looks := false }, kinds := [], alts := [], laidByText := true, laidKinds := [.data, .pinned], laidTests := true, laidLooks := .later }
def VaryTextsCardSaid : Prop := Claim7.holds Tryd.pinned (.plain (OpenSpec.ofChange varyTextsSpec)) varyTextsCard

/-- THE TIED CARD OF 'waxworklaw04.ClassTells'. -/
def classTellsCard : Claim7 := { stood := { row := classTellsRow, standIns := [], harness := (true, "b6273d2988d4d7d8cb050c6720a9f8b7fd8fb999d820e9cfd8edd7d1ae706ebb"), looks := false }, kinds := [], alts := [], laidByText := true, laidKinds := [.data, .data, .data], laidTests := true, laidLooks := .later }
def ClassTellsCardSaid : Prop := Claim7.holds Tryd.pinned (.plain (OpenSpec.ofChange classTellsSpec)) classTellsCard

/-- THE TIED CARD OF 'waxworklaw04.ClassLaws'. -/
def classLawsCard : Claim7 := { stood := { row := classLawsRow, standIns := [], harness := (true, "b6273d2988d4d7d8cb050c6720a9f8b7fd8fb999d820e9cfd8edd7d1ae706ebb"), looks := false }, kinds := [], alts := [], laidByText := true, laidKinds := [.data, .data, .data], laidTests := true, laidLooks := .later }
def ClassLawsCardSaid : Prop := Claim7.holds Tryd.pinned (.plain (OpenSpec.ofChange classLawsSpec)) classLawsCard

/-- THE TIED CARD OF 'waxworklaw04.ClassForm'. -/
def classFormCard : Claim7 := { stood := { row := classFormRow, standIns := [], harness := (true, "b6273d2988d4d7d8cb050c6720a9f8b7fd8fb999d820e9cfd8edd7d1ae706ebb"), looks := false }, kinds := [], alts := [], laidByText := true, laidKinds := [.data, .data, .data], laidTests := true, laidLooks := .later }
def ClassFormCardSaid : Prop := Claim7.holds Tryd.pinned (.plain (OpenSpec.ofChange classFormSpec)) classFormCard

/-- THE TIED CARD OF 'waxworklaw04.ClassPuts'. -/
def classPutsCard : Claim7 := { stood := { row := classPutsRow, standIns := [], harness := (true, "b6273d2988d4d7d8cb050c6720a9f8b7fd8fb999d820e9cfd8edd7d1ae706ebb"), looks := false }, kinds := [], alts := [], laidByText := true, laidKinds := [.data, .data, .data], laidTests := true, laidLooks := .later }
def ClassPutsCardSaid : Prop := Claim7.holds Tryd.pinned (.plain (OpenSpec.ofChange classPutsSpec)) classPutsCard

/-- THE TIED CARD OF 'waxworklaw04.ClassMany'. -/
def classManyCard : Claim7 := { stood := { row := classManyRow, standIns := [], harness := (true, "b6273d2988d4d7d8cb050c6720a9f8b7fd8fb999d820e9cfd8edd7d1ae706ebb"), looks := false }, kinds := [], alts := [], laidByText := true, laidKinds := [.data, .data, .data], laidTests := true, laidLooks := .later }
def ClassManyCardSaid : Prop := Claim7.holds Tryd.pinned (.plain (OpenSpec.ofChange classManySpec)) classManyCard

/-- THE SECOND FORM's CARD OF 'waxworklaw02.VaryReads'. -/
def varyReadsUptoCard : Claim7 := { stood := { row := varyReadsUptoRow, standIns := [], harness := (true, "b6273d2988d4d7d8cb050c6720a9f8b7fd8fb999d820e9cfd8edd7d1ae706ebb"), looks := false }, kinds := [], alts := [], laidByText := true, laidKinds := [.data, .pinned], laidTests := true, laidLooks := .later }
def VaryReadsUptoCardSaid : Prop := Claim7.holds Tryd.pinned (.plain (OpenSpec.upto varyReadsSpec)) varyReadsUptoCard

/-- THE SECOND FORM's CARD OF 'waxworklaw02.VaryBack'. -/
def varyBackUptoCard : Claim7 := { stood := { row := varyBackUptoRow, standIns := [], harness := (true, "b6273d2988d4d7d8cb050c6720a9f8b7fd8fb999d820e9cfd8edd7d1ae706ebb"), looks := false }, kinds := [], alts := [], laidByText := true, laidKinds := [.data, .pinned], laidTests := true, laidLooks := .later }
def VaryBackUptoCardSaid : Prop := Claim7.holds Tryd.pinned (.plain (OpenSpec.upto varyBackSpec)) varyBackUptoCard

/-- THE SECOND FORM's CARD OF 'waxworklaw02.VaryOne'. -/
def varyOneUptoCard : Claim7 := { stood := { row := varyOneUptoRow, standIns := [], harness := (true, "b6273d2988d4d7d8cb050c6720a9f8b7fd8fb999d820e9cfd8edd7d1ae706ebb"), looks := false }, kinds := [], alts := [], laidByText := true, laidKinds := [.data, .pinned], laidTests := true, laidLooks := .later }
def VaryOneUptoCardSaid : Prop := Claim7.holds Tryd.pinned (.plain (OpenSpec.upto varyOneSpec)) varyOneUptoCard

/-- THE SECOND FORM's CARD OF 'waxworklaw02.VaryLong'. -/
def varyLongUptoCard : Claim7 := { stood := { row := varyLongUptoRow, standIns := [], harness := (true, "b6273d2988d4d7d8cb050c6720a9f8b7fd8fb999d820e9cfd8edd7d1ae706ebb"), looks := false }, kinds := [], alts := [], laidByText := true, laidKinds := [.data, .pinned], laidTests := true, laidLooks := .later }
def VaryLongUptoCardSaid : Prop := Claim7.holds Tryd.pinned (.plain (OpenSpec.upto varyLongSpec)) varyLongUptoCard

/-- THE SECOND FORM's CARD OF 'waxworklaw02.VaryPads'. -/
def varyPadsUptoCard : Claim7 := { stood := { row := varyPadsUptoRow, standIns := [], harness := (true, "b6273d2988d4d7d8cb050c6720a9f8b7fd8fb999d820e9cfd8edd7d1ae706ebb"), looks := false }, kinds := [], alts := [], laidByText := true, laidKinds := [.data, .pinned], laidTests := true, laidLooks := .later }
def VaryPadsUptoCardSaid : Prop := Claim7.holds Tryd.pinned (.plain (OpenSpec.upto varyPadsSpec)) varyPadsUptoCard

/-- THE SECOND FORM's CARD OF 'waxworklaw02.VaryTexts'. -/
def varyTextsUptoCard : Claim7 := { stood := { row := varyTextsUptoRow, standIns := [], harness := (true, "b6273d2988d4d7d8cb050c6720a9f8b7fd8fb999d820e9cfd8edd7d1ae706ebb"), looks := false }, kinds := [], alts := [], laidByText := true, laidKinds := [.data, .pinned], laidTests := true, laidLooks := .later }
def VaryTextsUptoCardSaid : Prop := Claim7.holds Tryd.pinned (.plain (OpenSpec.upto varyTextsSpec)) varyTextsUptoCard

/-- THE SECOND FORM's CARD OF 'waxworklaw04.ClassTells'. -/
def classTellsUptoCard : Claim7 := { stood := { row := classTellsUptoRow, standIns := [], harness := (true, "b6273d2988d4d7d8cb050c6720a9f8b7fd8fb999d820e9cfd8edd7d1ae706ebb"), looks := false }, kinds := [], alts := [], laidByText := true, laidKinds := [.data, .data, .data], laidTests := true, laidLooks := .later }
def ClassTellsUptoCardSaid : Prop := Claim7.holds Tryd.pinned (.plain (OpenSpec.upto classTellsSpec)) classTellsUptoCard

/-- THE SECOND FORM's CARD OF 'waxworklaw04.ClassLaws'. -/
def classLawsUptoCard : Claim7 := { stood := { row := classLawsUptoRow, standIns := [], harness := (true, "b6273d2988d4d7d8cb050c6720a9f8b7fd8fb999d820e9cfd8edd7d1ae706ebb"), looks := false }, kinds := [], alts := [], laidByText := true, laidKinds := [.data, .data, .data], laidTests := true, laidLooks := .later }
def ClassLawsUptoCardSaid : Prop := Claim7.holds Tryd.pinned (.plain (OpenSpec.upto classLawsSpec)) classLawsUptoCard

/-- THE SECOND FORM's CARD OF 'waxworklaw04.ClassForm'. -/
def classFormUptoCard : Claim7 := { stood := { row := classFormUptoRow, standIns := [], harness := (true, "b6273d2988d4d7d8cb050c6720a9f8b7fd8fb999d820e9cfd8edd7d1ae706ebb"), looks := false }, kinds := [], alts := [], laidByText := true, laidKinds := [.data, .data, .data], laidTests := true, laidLooks := .later }
def ClassFormUptoCardSaid : Prop := Claim7.holds Tryd.pinned (.plain (OpenSpec.upto classFormSpec)) classFormUptoCard

/-- THE SECOND FORM's CARD OF 'waxworklaw04.ClassPuts'. -/
def classPutsUptoCard : Claim7 := { stood := { row := classPutsUptoRow, standIns := [], harness := (true, "b6273d2988d4d7d8cb050c6720a9f8b7fd8fb999d820e9cfd8edd7d1ae706ebb"), looks := false }, kinds := [], alts := [], laidByText := true, laidKinds := [.data, .data, .data], laidTests := true, laidLooks := .later }
def ClassPutsUptoCardSaid : Prop := Claim7.holds Tryd.pinned (.plain (OpenSpec.upto classPutsSpec)) classPutsUptoCard

/-- THE SECOND FORM's CARD OF 'waxworklaw04.ClassMany'. -/
def classManyUptoCard : Claim7 := { stood := { row := classManyUptoRow, standIns := [], harness := (true, "b6273d2988d4d7d8cb050c6720a9f8b7fd8fb999d820e9cfd8edd7d1ae706ebb"), looks := false }, kinds := [], alts := [], laidByText := true, laidKinds := [.data, .data, .data], laidTests := true, laidLooks := .later }
def ClassManyUptoCardSaid : Prop := Claim7.holds Tryd.pinned (.plain (OpenSpec.upto classManySpec)) classManyUptoCard
end Rows
end Go.Proofs.YtkkgdnmloojloaaDoor
