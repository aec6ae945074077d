/-
  DERIVED. GIVEN WITH THE SEED: THE CARDS: each row of YtjkialgdaikijaaDoorRows.lean that lists a variable, with what it lists TIED to the program's text (the seventh form; the later family's looks); each row that meets fmt, with fmt's text TOLD by the authors' own Lean function (tested against real Go, not proved from fmt's source: count such statements apart). THE CARD IS WHAT COUNTS. Prove the row's statement (the work); the ties are given (YtjkialgdaikijaaDoorTie.lean); close each card by the builder's one call (the guide's Derived/Test/ToyasCard.lean, 'card_holds'). Laid BY PROGRAM, IN A SANDBOX (cutbox-door.mjs). By AI agents, Wed Nov 11 2026. No macro, syntax, notation, axiom, sorry.
-/
import Derived.Test.YtjkialgdaikijaaDoorRows
import GoSem.ClaimSeven
namespace Go.Proofs.YtjkialgdaikijaaDoor
namespace Rows

/-- THE TIED CARD OF 'waxworklaw03.RunesTells'. -/
def runesTellsCard : Claim7 := { stood := { row := runesTellsRow, standIns := [], harness := (true, "cb888dba7a4fe72ecf17a6f7e06b27ef01f6898d2bcde09fbc00dc38f98567c3"), looks := false }, kinds := [], alts := [], laidByText := true, laidKinds := [.data, .pinned], laidTests := true, laidLooks := .later }
def RunesTellsCardSaid : Prop := Claim7.holds Tryd.pinned (.plain (OpenSpec.ofChange runesTellsSpec)) runesTellsCard

/-- THE TIED CARD OF 'waxworklaw03.RunesStand'. -/
def runesStandCard : Claim7 := { stood := { row := runesStandRow, standIns := [], harness := (true, "cb888dba7a4fe72ecf17a6f7e06b27ef01f6898d2bcde09fbc00dc38f98567c3"), looks := false }, kinds := [], alts := [], laidByText := true, laidKinds := [.data, .pinned], laidTests := true, laidLooks := .later }
def RunesStandCardSaid : Prop := Claim7.holds Tryd.pinned (.plain (OpenSpec.ofChange runesStandSpec)) runesStandCard

/-- THE TIED CARD OF 'waxworklaw03.RunesBack'. -/
def runesBackCard : Claim7 := { stood := { row := runesBackRow, standIns := [], harness := (true, "cb888dba7a4fe72ecf17a6f7e06b27ef01f6898d2bcde09fbc00dc38f98567c3"), looks := false }, kinds := [], alts := [], laidByText := true, laidKinds := [.data, .pinned], laidTests := true, laidLooks := .later }
def RunesBackCardSaid : Prop := Claim7.holds Tryd.pinned (.plain (OpenSpec.ofChange runesBackSpec)) runesBackCard

/-- THE TIED CARD OF 'waxworklaw03.RunesEdges'. -/
def runesEdgesCard : Claim7 := { stood := { row := runesEdgesRow, standIns := [], harness := (true, "cb888dba7a4fe72ecf17a6f7e06b27ef01f6898d2bcde09fbc00dc38f98567c3"), looks := false }, kinds := [], alts := [], laidByText := true, laidKinds := [.data, .pinned], laidTests := true, laidLooks := .later }
def RunesEdgesCardSaid : Prop := Claim7.holds Tryd.pinned (.plain (OpenSpec.ofChange runesEdgesSpec)) runesEdgesCard

/-- THE TIED CARD OF 'waxworklaw03.RunesCut'. -/
def runesCutCard : Claim7 := { stood := { row := runesCutRow, standIns := [], harness := (true, "cb888dba7a4fe72ecf17a6f7e06b27ef01f6898d2bcde09fbc00dc38f98567c3"), looks := false }, kinds := [], alts := [], laidByText := true, laidKinds := [.data, .pinned], laidTests := true, laidLooks := .later }
def RunesCutCardSaid : Prop := Claim7.holds Tryd.pinned (.plain (OpenSpec.ofChange runesCutSpec)) runesCutCard

/-- THE SECOND FORM's CARD OF 'waxworklaw03.RunesTells'. -/
def runesTellsUptoCard : Claim7 := { stood := { row := runesTellsUptoRow, standIns := [], harness := (true, "cb888dba7a4fe72ecf17a6f7e06b27ef01f6898d2bcde09fbc00dc38f98567c3"), looks := false }, kinds := [], alts := [], laidByText := true, laidKinds := [.data, .pinned], laidTests := true, laidLooks := .later }
def RunesTellsUptoCardSaid : Prop := Claim7.holds Tryd.pinned (.plain (OpenSpec.upto runesTellsSpec)) runesTellsUptoCard

/-- THE SECOND FORM's CARD OF 'waxworklaw03.RunesStand'. -/
def runesStandUptoCard : Claim7 := { stood := { row := runesStandUptoRow, standIns := [], harness := (true, "cb888dba7a4fe72ecf17a6f7e06b27ef01f6898d2bcde09fbc00dc38f98567c3"), looks := false }, kinds := [], alts := [], laidByText := true, laidKinds := [.data, .pinned], laidTests := true, laidLooks := .later }
def RunesStandUptoCardSaid : Prop := Claim7.holds Tryd.pinned (.plain (OpenSpec.upto runesStandSpec)) runesStandUptoCard

/-- THE SECOND FORM's CARD OF 'waxworklaw03.RunesBack'. -/
def runesBackUptoCard : Claim7 := { stood := { row := runesBackUptoRow, standIns := [], harness := (true, "cb888dba7a4fe72ecf17a6f7e06b27ef01f6898d2bcde09fbc00dc38f98567c3"), looks := false }, kinds := [], alts := [], laidByText := true, laidKinds := [.data, .pinned], laidTests := true, laidLooks := .later }
def RunesBackUptoCardSaid : Prop := Claim7.holds Tryd.pinned (.plain (OpenSpec.upto runesBackSpec)) runesBackUptoCard

/-- THE SECOND FORM's CARD OF 'waxworklaw03.RunesEdges'. -/
def runesEdgesUptoCard : Claim7 := { stood := { row := runesEdgesUptoRow, standIns := [], harness := (true, "cb888dba7a4fe72ecf17a6f7e06b27ef01f6898d2bcde09fbc00dc38f98567c3"), looks := false }, kinds := [], alts := [], laidByText := true, laidKinds := [.data, .pinned], laidTests := true, laidLooks := .later }
def RunesEdgesUptoCardSaid : Prop := Claim7.holds Tryd.pinned (.plain (OpenSpec.upto runesEdgesSpec)) runesEdgesUptoCard

/-- THE SECOND FORM's CARD OF 'waxworklaw03.RunesCut'. -/
def runesCutUptoCard : Claim7 := { stood := { row := runesCutUptoRow, standIns := [], harness := (true, "cb888dba7a4fe72ecf17a6f7e06b27ef01f6898d2bcde09fbc00dc38f98567c3"), looks := false }, kinds := [], alts := [], laidByText := true, laidKinds := [.data, .pinned], laidTests := true, laidLooks := .later }
def RunesCutUptoCardSaid : Prop := Claim7.holds Tryd.pinned (.plain (OpenSpec.upto runesCutSpec)) runesCutUptoCard
end Rows
end Go.Proofs.YtjkialgdaikijaaDoor
