/-
  NARROWER THAN 'FOR EVERY INPUT', by the rows' own cells (each row's printed sentence says how): RunesTells: laid · RunesStand: laid · RunesBack: laid · RunesEdges: laid · RunesCut: laid.
  DERIVED. THE GIVEN ROWS OF THIS SEAT. 5 by the template 'for every input the law returns true; each argument reads behind the call as it read before'; 0 by the template 'total and deterministic' (their statements: YtjkialgdaikijaaDoorTotals.lean).
  GIVEN WITH THE SEED: the statements are not yours to turn. If you find one false, say at which input.
  Laid BY PROGRAM, IN A SANDBOX (cutbox-rows.mjs): the forced cells as the released guide's own fill.sh prints them over the translation ec31f1847b825574… (all of the seat's roots in one cut). By AI agents, Wed Nov 11 2026. No macro, syntax, notation, axiom, sorry.
-/
import Derived.Test.YtjkialgdaikijaaDoorChecked
import GoSem.PinnedTables
import GoSem.Claim
import GoSem.ClaimJoined
import GoSem.ClaimMapViews
import Derived.JoinedTies
import Derived.KernelRfl
namespace Go.Proofs.YtjkialgdaikijaaDoor
/- THE CELL 'sum', in the pinned program and in every row, IS THE sha256 OF THE DUMP (.gsa) THAT YtjkialgdaikijaaDoorProg.lean LOADS. Nothing in Lean hashes anything: it is a label: what it is worth is what the hold of that sum in a sandbox is worth. -/
noncomputable def Tryd.pinned : Pinned := { name := "ytjkialgdaikijaadoor", sum := "ec31f1847b82557430aa3175cedd817d9c569c8614e7aeac2159b9f4a2818b37", checked := Tryd.checked }
namespace Rows
def none {H : Type} : Left H := { results := [], args := [] }

/- WHAT THE LISTED PACKAGE-LEVEL VARIABLES READ AS WHEN THE CALL BEGINS. Each datum BY PROGRAM (the guide's laid-datum.mjs) off the statement by which the dump's own 'gosem.cut.vars' lays the variable. In a bare row this is a premise. The card (YtjkialgdaikijaaDoorCards.lean) ties it to the program's text. -/
def laid_unicode_utf8_acceptRanges {H : Type} : DataW H := .agg [.agg [.lit (.int .u8 128), .lit (.int .u8 191)], .agg [.lit (.int .u8 160), .lit (.int .u8 191)], .agg [.lit (.int .u8 128), .lit (.int .u8 159)], .agg [.lit (.int .u8 144), .lit (.int .u8 191)], .agg [.lit (.int .u8 128), .lit (.int .u8 143)], .agg [.lit (.int .u8 0), .lit (.int .u8 0)], .agg [.lit (.int .u8 0), .lit (.int .u8 0)], .agg [.lit (.int .u8 0), .lit (.int .u8 0)], .agg [.lit (.int .u8 0), .lit (.int .u8 0)], .agg [.lit (.int .u8 0), .lit (.int .u8 0)], .agg [.lit (.int .u8 0), .lit (.int .u8 0)], .agg [.lit (.int .u8 0), .lit (.int .u8 0)], .agg [.lit (.int .u8 0), .lit (.int .u8 0)], .agg [.lit (.int .u8 0), .lit (.int .u8 0)], .agg [.lit (.int .u8 0), .lit (.int .u8 0)], .agg [.lit (.int .u8 0), .lit (.int .u8 0)]]
/-- One of Go's own tables, pinned by name: the form's constant. -/
def laid_unicode_utf8_first : DataW Unit := Go.Pinned.utf8First

/-- 'waxworklaw03.RunesTells': WHATEVER THE INPUT: true; the input reads as it did. -/
def runesTellsSpec : ChangeSpec := { name := "runesTells", fn := fun _ => fun
  | [d1, d2, d3, d4, d5, d6] => { results := [.lit (.bool true)], args := [d1, d2, d3, d4, d5, d6] }
  | _ => none }
def runesTellsRow : OpenClaim := { program := "ytjkialgdaikijaadoor", sum := "ec31f1847b82557430aa3175cedd817d9c569c8614e7aeac2159b9f4a2818b37", func := "waxwork/waxworklaw03.RunesTells", spec := "runesTells", unfollowed := true, recurses := true, named := ["unicode/utf8.first", "unicode/utf8.acceptRanges"], apart := false, laid := [("unicode/utf8.acceptRanges", laid_unicode_utf8_acceptRanges), ("unicode/utf8.first", laid_unicode_utf8_first)] }
def RunesTellsSaid : Prop := runesTellsRow.holds Tryd.pinned (OpenSpec.ofChange runesTellsSpec)

/-- ITS FALSE NEIGHBOUR: 'it returns false'. Refute it at one input. -/
def runesTellsWrong : ChangeSpec := { name := "runesTells", fn := fun _ => fun
  | [d1, d2, d3, d4, d5, d6] => { results := [.lit (.bool false)], args := [d1, d2, d3, d4, d5, d6] }
  | _ => none }
def RunesTellsWrongFalsely : Prop := runesTellsRow.holds Tryd.pinned (OpenSpec.ofChange runesTellsWrong)

/-- 'waxworklaw03.RunesStand': WHATEVER THE INPUT: true; the input reads as it did. -/
def runesStandSpec : ChangeSpec := { name := "runesStand", fn := fun _ => fun
  | [d1, d2, d3] => { results := [.lit (.bool true)], args := [d1, d2, d3] }
  | _ => none }
def runesStandRow : OpenClaim := { program := "ytjkialgdaikijaadoor", sum := "ec31f1847b82557430aa3175cedd817d9c569c8614e7aeac2159b9f4a2818b37", func := "waxwork/waxworklaw03.RunesStand", spec := "runesStand", unfollowed := true, recurses := true, named := ["unicode/utf8.first", "unicode/utf8.acceptRanges"], apart := false, laid := [("unicode/utf8.acceptRanges", laid_unicode_utf8_acceptRanges), ("unicode/utf8.first", laid_unicode_utf8_first)] }
def RunesStandSaid : Prop := runesStandRow.holds Tryd.pinned (OpenSpec.ofChange runesStandSpec)

/-- ITS FALSE NEIGHBOUR: 'it returns false'. Refute it at one input. -/
def runesStandWrong : ChangeSpec := { name := "runesStand", fn := fun _ => fun
  | [d1, d2, d3] => { results := [.lit (.bool false)], args := [d1, d2, d3] }
  | _ => none }
def RunesStandWrongFalsely : Prop := runesStandRow.holds Tryd.pinned (OpenSpec.ofChange runesStandWrong)

/-- 'waxworklaw03.RunesBack': WHATEVER THE INPUT: true; the input reads as it did. -/
def runesBackSpec : ChangeSpec := { name := "runesBack", fn := fun _ => fun
  | [d] => { results := [.lit (.bool true)], args := [d] }
  | _ => none }
def runesBackRow : OpenClaim := { program := "ytjkialgdaikijaadoor", sum := "ec31f1847b82557430aa3175cedd817d9c569c8614e7aeac2159b9f4a2818b37", func := "waxwork/waxworklaw03.RunesBack", spec := "runesBack", unfollowed := true, recurses := true, named := ["unicode/utf8.first", "unicode/utf8.acceptRanges"], apart := false, laid := [("unicode/utf8.acceptRanges", laid_unicode_utf8_acceptRanges), ("unicode/utf8.first", laid_unicode_utf8_first)] }
def RunesBackSaid : Prop := runesBackRow.holds Tryd.pinned (OpenSpec.ofChange runesBackSpec)

/-- ITS FALSE NEIGHBOUR: 'it returns false'. Refute it at one input. -/
def runesBackWrong : ChangeSpec := { name := "runesBack", fn := fun _ => fun
  | [d] => { results := [.lit (.bool false)], args := [d] }
  | _ => none }
def RunesBackWrongFalsely : Prop := runesBackRow.holds Tryd.pinned (OpenSpec.ofChange runesBackWrong)

/-- 'waxworklaw03.RunesEdges': WHATEVER THE INPUT: true; the input reads as it did. -/
def runesEdgesSpec : ChangeSpec := { name := "runesEdges", fn := fun _ => fun
  | [d1, d2, d3] => { results := [.lit (.bool true)], args := [d1, d2, d3] }
  | _ => none }
def runesEdgesRow : OpenClaim := { program := "ytjkialgdaikijaadoor", sum := "ec31f1847b82557430aa3175cedd817d9c569c8614e7aeac2159b9f4a2818b37", func := "waxwork/waxworklaw03.RunesEdges", spec := "runesEdges", unfollowed := true, recurses := true, named := ["unicode/utf8.first", "unicode/utf8.acceptRanges"], apart := false, laid := [("unicode/utf8.acceptRanges", laid_unicode_utf8_acceptRanges), ("unicode/utf8.first", laid_unicode_utf8_first)] }
def RunesEdgesSaid : Prop := runesEdgesRow.holds Tryd.pinned (OpenSpec.ofChange runesEdgesSpec)

/-- ITS FALSE NEIGHBOUR: 'it returns false'. Refute it at one input. -/
def runesEdgesWrong : ChangeSpec := { name := "runesEdges", fn := fun _ => fun
  | [d1, d2, d3] => { results := [.lit (.bool false)], args := [d1, d2, d3] }
  | _ => none }
def RunesEdgesWrongFalsely : Prop := runesEdgesRow.holds Tryd.pinned (OpenSpec.ofChange runesEdgesWrong)

/-- 'waxworklaw03.RunesCut': WHATEVER THE INPUT: true; the input reads as it did. -/
def runesCutSpec : ChangeSpec := { name := "runesCut", fn := fun _ => fun
  | [d1, d2] => { results := [.lit (.bool true)], args := [d1, d2] }
  | _ => none }
def runesCutRow : OpenClaim := { program := "ytjkialgdaikijaadoor", sum := "ec31f1847b82557430aa3175cedd817d9c569c8614e7aeac2159b9f4a2818b37", func := "waxwork/waxworklaw03.RunesCut", spec := "runesCut", unfollowed := true, recurses := true, named := ["unicode/utf8.first", "unicode/utf8.acceptRanges"], apart := false, laid := [("unicode/utf8.acceptRanges", laid_unicode_utf8_acceptRanges), ("unicode/utf8.first", laid_unicode_utf8_first)] }
def RunesCutSaid : Prop := runesCutRow.holds Tryd.pinned (OpenSpec.ofChange runesCutSpec)

/-- ITS FALSE NEIGHBOUR: 'it returns false'. Refute it at one input. -/
def runesCutWrong : ChangeSpec := { name := "runesCut", fn := fun _ => fun
  | [d1, d2] => { results := [.lit (.bool false)], args := [d1, d2] }
  | _ => none }
def RunesCutWrongFalsely : Prop := runesCutRow.holds Tryd.pinned (OpenSpec.ofChange runesCutWrong)

/- THE SECOND FORM. 'bulk': how many values and letters a reading holds, each counted each time it is reached (what is shared counts as often as it is met; a slice's spare places count too). A statement '..UptoSaid' is the law's where the arguments, and the package variables that the reading takes, are together of bulk at most 1048576: NARROWER than '..Said'. Prove '..Said' where nothing that the law and all that it calls make is longer than what came in: it says more and counts as full. Else prove '..UptoSaid'. A law counts once. -/
mutual
def uptoBulk {H : Type} : DataW H → Nat
  | .lit (.string bytes) => bytes.length + 1
  | .lit _ => 1
  | .nil => 1
  | .ptr d => uptoBulk d + 1
  | .slice elems spare => uptoBulkAll elems + uptoBulkAll spare + 1
  | .agg parts => uptoBulkAll parts + 1
  | .iface _ d => uptoBulk d + 1
  | .map entries => uptoBulkEntries entries + 1
  | .held _ => 1
def uptoBulkAll {H : Type} : List (DataW H) → Nat
  | [] => 0
  | d :: r => uptoBulk d + uptoBulkAll r
def uptoBulkEntries {H : Type} : List (Lit × DataW H) → Nat
  | [] => 0
  | x :: r => uptoBulkEntry x + uptoBulkEntries r
def uptoBulkEntry {H : Type} : Lit × DataW H → Nat
  | (.string bytes, d) => bytes.length + uptoBulk d + 1
  | (_, d) => uptoBulk d + 1
 end
def uptoSmall : (H : Type) → List (DataW H) → Bool := fun _ ds => decide (uptoBulkAll ds ≤ 1048576)
def OpenSpec.upto (s : _root_.Go.ChangeSpec) : _root_.Go.OpenSpec := { _root_.Go.OpenSpec.ofChange s with cond := some uptoSmall }

/-- 'waxworklaw03.RunesTells', WHERE WHAT IT READS IS OF BULK AT MOST 1048576: true; the input reads as it did. -/
def runesTellsUptoRow : OpenClaim := { program := "ytjkialgdaikijaadoor", sum := "ec31f1847b82557430aa3175cedd817d9c569c8614e7aeac2159b9f4a2818b37", func := "waxwork/waxworklaw03.RunesTells", spec := "runesTells", unfollowed := true, recurses := true, named := ["unicode/utf8.first", "unicode/utf8.acceptRanges"], apart := false, laid := [("unicode/utf8.acceptRanges", laid_unicode_utf8_acceptRanges), ("unicode/utf8.first", laid_unicode_utf8_first)], narrowed := true }
def RunesTellsUptoSaid : Prop := runesTellsUptoRow.holds Tryd.pinned (OpenSpec.upto runesTellsSpec)

/-- 'waxworklaw03.RunesStand', WHERE WHAT IT READS IS OF BULK AT MOST 1048576: true; the input reads as it did. -/
def runesStandUptoRow : OpenClaim := { program := "ytjkialgdaikijaadoor", sum := "ec31f1847b82557430aa3175cedd817d9c569c8614e7aeac2159b9f4a2818b37", func := "waxwork/waxworklaw03.RunesStand", spec := "runesStand", unfollowed := true, recurses := true, named := ["unicode/utf8.first", "unicode/utf8.acceptRanges"], apart := false, laid := [("unicode/utf8.acceptRanges", laid_unicode_utf8_acceptRanges), ("unicode/utf8.first", laid_unicode_utf8_first)], narrowed := true }
def RunesStandUptoSaid : Prop := runesStandUptoRow.holds Tryd.pinned (OpenSpec.upto runesStandSpec)

/-- 'waxworklaw03.RunesBack', WHERE WHAT IT READS IS OF BULK AT MOST 1048576: true; the input reads as it did. -/
def runesBackUptoRow : OpenClaim := { program := "ytjkialgdaikijaadoor", sum := "ec31f1847b82557430aa3175cedd817d9c569c8614e7aeac2159b9f4a2818b37", func := "waxwork/waxworklaw03.RunesBack", spec := "runesBack", unfollowed := true, recurses := true, named := ["unicode/utf8.first", "unicode/utf8.acceptRanges"], apart := false, laid := [("unicode/utf8.acceptRanges", laid_unicode_utf8_acceptRanges), ("unicode/utf8.first", laid_unicode_utf8_first)], narrowed := true }
def RunesBackUptoSaid : Prop := runesBackUptoRow.holds Tryd.pinned (OpenSpec.upto runesBackSpec)

/-- 'waxworklaw03.RunesEdges', WHERE WHAT IT READS IS OF BULK AT MOST 1048576: true; the input reads as it did. -/
def runesEdgesUptoRow : OpenClaim := { program := "ytjkialgdaikijaadoor", sum := "ec31f1847b82557430aa3175cedd817d9c569c8614e7aeac2159b9f4a2818b37", func := "waxwork/waxworklaw03.RunesEdges", spec := "runesEdges", unfollowed := true, recurses := true, named := ["unicode/utf8.first", "unicode/utf8.acceptRanges"], apart := false, laid := [("unicode/utf8.acceptRanges", laid_unicode_utf8_acceptRanges), ("unicode/utf8.first", laid_unicode_utf8_first)], narrowed := true }
def RunesEdgesUptoSaid : Prop := runesEdgesUptoRow.holds Tryd.pinned (OpenSpec.upto runesEdgesSpec)

/-- 'waxworklaw03.RunesCut', WHERE WHAT IT READS IS OF BULK AT MOST 1048576: true; the input reads as it did. -/
def runesCutUptoRow : OpenClaim := { program := "ytjkialgdaikijaadoor", sum := "ec31f1847b82557430aa3175cedd817d9c569c8614e7aeac2159b9f4a2818b37", func := "waxwork/waxworklaw03.RunesCut", spec := "runesCut", unfollowed := true, recurses := true, named := ["unicode/utf8.first", "unicode/utf8.acceptRanges"], apart := false, laid := [("unicode/utf8.acceptRanges", laid_unicode_utf8_acceptRanges), ("unicode/utf8.first", laid_unicode_utf8_first)], narrowed := true }
def RunesCutUptoSaid : Prop := runesCutUptoRow.holds Tryd.pinned (OpenSpec.upto runesCutSpec)

end Rows
end Go.Proofs.YtjkialgdaikijaaDoor
