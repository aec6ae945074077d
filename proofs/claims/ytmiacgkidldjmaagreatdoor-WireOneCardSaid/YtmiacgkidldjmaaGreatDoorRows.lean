/-
  NARROWER THAN 'FOR EVERY INPUT', by the rows' own cells (each row's printed sentence says how): SealBlobs: laid · WireKinds: laid · SealBounds: laid · SealTables: laid · WirePuts: laid · WireOne: laid · WireFaults: laid · WireSeals: laid · SealLoops: laid · SealReached: laid.
  DERIVED. THE GIVEN ROWS OF THIS SEAT. 10 by the template 'for every input the law returns true; each argument reads behind the call as it read before'; 0 by the template 'total and deterministic' (their statements: YtmiacgkidldjmaaGreatDoorTotals.lean).
  GIVEN WITH THE SEED: the statements are not yours to turn. If you find one false, say at which input.
  Laid BY PROGRAM, IN A SANDBOX (cutbox-rows.mjs): the forced cells as the released guide's own fill.sh prints them over the translation b9b04143111d5ea6… (all of the seat's roots in one cut). By AI agents, Wed Nov 11 2026. No macro, syntax, notation, axiom, sorry.
-/
import Derived.Test.YtmiacgkidldjmaaGreatDoorChecked
import GoSem.PinnedTables
import GoSem.Claim
import GoSem.ClaimJoined
import GoSem.ClaimMapViews
import Derived.JoinedTies
import Derived.KernelRfl
namespace Go.Proofs.YtmiacgkidldjmaaGreatDoor
/- THE CELL 'sum', in the pinned program and in every row, IS THE sha256 OF THE DUMP (.gsa) THAT YtmiacgkidldjmaaGreatDoorProg.lean LOADS. Nothing in Lean hashes anything: it is a label: what it is worth is what the hold of that sum in a sandbox is worth. -/
noncomputable def Tryz.pinned : Pinned := { name := "ytmiacgkidldjmaagreatdoor", sum := "b9b04143111d5ea6a83742f002b5e228cb5bbb87fca8297a5d145f392cd3d6f9", checked := Tryz.checked }
namespace Rows
def none {H : Type} : Left H := { results := [], args := [] }

/- WHAT THE LISTED PACKAGE-LEVEL VARIABLES READ AS WHEN THE CALL BEGINS. Each datum BY PROGRAM (the guide's laid-datum.mjs) off the statement by which the dump's own 'gosem.cut.vars' lays the variable. In a bare row this is a premise. The card (YtmiacgkidldjmaaGreatDoorCards.lean) ties it to the program's text. -/
def laid_unicode_utf8_acceptRanges {H : Type} : DataW H := .agg [.agg [.lit (.int .u8 128), .lit (.int .u8 191)], .agg [.lit (.int .u8 160), .lit (.int .u8 191)], .agg [.lit (.int .u8 128), .lit (.int .u8 159)], .agg [.lit (.int .u8 144), .lit (.int .u8 191)], .agg [.lit (.int .u8 128), .lit (.int .u8 143)], .agg [.lit (.int .u8 0), .lit (.int .u8 0)], .agg [.lit (.int .u8 0), .lit (.int .u8 0)], .agg [.lit (.int .u8 0), .lit (.int .u8 0)], .agg [.lit (.int .u8 0), .lit (.int .u8 0)], .agg [.lit (.int .u8 0), .lit (.int .u8 0)], .agg [.lit (.int .u8 0), .lit (.int .u8 0)], .agg [.lit (.int .u8 0), .lit (.int .u8 0)], .agg [.lit (.int .u8 0), .lit (.int .u8 0)], .agg [.lit (.int .u8 0), .lit (.int .u8 0)], .agg [.lit (.int .u8 0), .lit (.int .u8 0)], .agg [.lit (.int .u8 0), .lit (.int .u8 0)]]
/-- One of Go's own tables, pinned by name: the form's constant. -/
def laid_unicode_utf8_first : DataW Unit := Go.Pinned.utf8First

/-- 'waxworklaw13.SealBlobs': WHATEVER THE INPUT: true; the input reads as it did. -/
def sealBlobsSpec : ChangeSpec := { name := "sealBlobs", fn := fun _ => fun
  | [d1, d2] => { results := [.lit (.bool true)], args := [d1, d2] }
  | _ => none }
def sealBlobsRow : OpenClaim := { program := "ytmiacgkidldjmaagreatdoor", sum := "b9b04143111d5ea6a83742f002b5e228cb5bbb87fca8297a5d145f392cd3d6f9", func := "waxwork/waxworklaw13.SealBlobs", spec := "sealBlobs", inPlace := ["internal/abi.NoEscape", "internal/bytealg.MakeNoZero", "internal/bytealg.IndexByteString", "internal/bytealg.IndexString"], unfollowed := true, recurses := true, named := ["unicode/utf8.first", "unicode/utf8.acceptRanges", "internal/bytealg.MaxLen"], apart := false, laid := [("unicode/utf8.acceptRanges", laid_unicode_utf8_acceptRanges), ("unicode/utf8.first", laid_unicode_utf8_first)] }
def SealBlobsSaid : Prop := sealBlobsRow.holds Tryz.pinned (OpenSpec.ofChange sealBlobsSpec)

/-- ITS FALSE NEIGHBOUR: 'it returns false'. Refute it at one input. -/
def sealBlobsWrong : ChangeSpec := { name := "sealBlobs", fn := fun _ => fun
  | [d1, d2] => { results := [.lit (.bool false)], args := [d1, d2] }
  | _ => none }
def SealBlobsWrongFalsely : Prop := sealBlobsRow.holds Tryz.pinned (OpenSpec.ofChange sealBlobsWrong)

/-- 'waxworklaw12.WireKinds': WHATEVER THE INPUT: true; the input reads as it did. -/
def wireKindsSpec : ChangeSpec := { name := "wireKinds", fn := fun _ => fun
  | [d1, d2, d3] => { results := [.lit (.bool true)], args := [d1, d2, d3] }
  | _ => none }
def wireKindsRow : OpenClaim := { program := "ytmiacgkidldjmaagreatdoor", sum := "b9b04143111d5ea6a83742f002b5e228cb5bbb87fca8297a5d145f392cd3d6f9", func := "waxwork/waxworklaw12.WireKinds", spec := "wireKinds", inPlace := ["internal/abi.NoEscape", "internal/bytealg.MakeNoZero", "internal/bytealg.IndexByteString", "internal/bytealg.IndexString"], unfollowed := true, recurses := true, named := ["unicode/utf8.first", "unicode/utf8.acceptRanges", "internal/bytealg.MaxLen"], apart := false, laid := [("unicode/utf8.acceptRanges", laid_unicode_utf8_acceptRanges), ("unicode/utf8.first", laid_unicode_utf8_first)] }
def WireKindsSaid : Prop := wireKindsRow.holds Tryz.pinned (OpenSpec.ofChange wireKindsSpec)

/-- ITS FALSE NEIGHBOUR: 'it returns false'. Refute it at one input. -/
def wireKindsWrong : ChangeSpec := { name := "wireKinds", fn := fun _ => fun
  | [d1, d2, d3] => { results := [.lit (.bool false)], args := [d1, d2, d3] }
  | _ => none }
def WireKindsWrongFalsely : Prop := wireKindsRow.holds Tryz.pinned (OpenSpec.ofChange wireKindsWrong)

/-- 'waxworklaw13.SealBounds': WHATEVER THE INPUT: true; the input reads as it did. -/
def sealBoundsSpec : ChangeSpec := { name := "sealBounds", fn := fun _ => fun
  | [d1, d2, d3] => { results := [.lit (.bool true)], args := [d1, d2, d3] }
  | _ => none }
def sealBoundsRow : OpenClaim := { program := "ytmiacgkidldjmaagreatdoor", sum := "b9b04143111d5ea6a83742f002b5e228cb5bbb87fca8297a5d145f392cd3d6f9", func := "waxwork/waxworklaw13.SealBounds", spec := "sealBounds", inPlace := ["internal/abi.NoEscape", "internal/bytealg.MakeNoZero", "internal/bytealg.IndexByteString", "internal/bytealg.IndexString"], unfollowed := true, recurses := true, named := ["unicode/utf8.first", "unicode/utf8.acceptRanges", "internal/bytealg.MaxLen"], apart := false, laid := [("unicode/utf8.acceptRanges", laid_unicode_utf8_acceptRanges), ("unicode/utf8.first", laid_unicode_utf8_first)] }
def SealBoundsSaid : Prop := sealBoundsRow.holds Tryz.pinned (OpenSpec.ofChange sealBoundsSpec)

/-- ITS FALSE NEIGHBOUR: 'it returns false'. Refute it at one input. -/
def sealBoundsWrong : ChangeSpec := { name := "sealBounds", fn := fun _ => fun
  | [d1, d2, d3] => { results := [.lit (.bool false)], args := [d1, d2, d3] }
  | _ => none }
def SealBoundsWrongFalsely : Prop := sealBoundsRow.holds Tryz.pinned (OpenSpec.ofChange sealBoundsWrong)

/-- 'waxworklaw13.SealTables': WHATEVER THE INPUT: true; the input reads as it did. -/
def sealTablesSpec : ChangeSpec := { name := "sealTables", fn := fun _ => fun
  | [d1, d2] => { results := [.lit (.bool true)], args := [d1, d2] }
  | _ => none }
def sealTablesRow : OpenClaim := { program := "ytmiacgkidldjmaagreatdoor", sum := "b9b04143111d5ea6a83742f002b5e228cb5bbb87fca8297a5d145f392cd3d6f9", func := "waxwork/waxworklaw13.SealTables", spec := "sealTables", inPlace := ["internal/abi.NoEscape", "internal/bytealg.MakeNoZero", "internal/bytealg.IndexByteString", "internal/bytealg.IndexString"], unfollowed := true, recurses := true, named := ["unicode/utf8.first", "unicode/utf8.acceptRanges", "internal/bytealg.MaxLen"], apart := false, laid := [("unicode/utf8.acceptRanges", laid_unicode_utf8_acceptRanges), ("unicode/utf8.first", laid_unicode_utf8_first)] }
def SealTablesSaid : Prop := sealTablesRow.holds Tryz.pinned (OpenSpec.ofChange sealTablesSpec)

/-- ITS FALSE NEIGHBOUR: 'it returns false'. Refute it at one input. -/
def sealTablesWrong : ChangeSpec := { name := "sealTables", fn := fun _ => fun
  | [d1, d2] => { results := [.lit (.bool false)], args := [d1, d2] }
  | _ => none }
def SealTablesWrongFalsely : Prop := sealTablesRow.holds Tryz.pinned (OpenSpec.ofChange sealTablesWrong)

/-- 'waxworklaw12.WirePuts': WHATEVER THE INPUT: true; the input reads as it did. -/
def wirePutsSpec : ChangeSpec := { name := "wirePuts", fn := fun _ => fun
  | [d1, d2, d3] => { results := [.lit (.bool true)], args := [d1, d2, d3] }
  | _ => none }
def wirePutsRow : OpenClaim := { program := "ytmiacgkidldjmaagreatdoor", sum := "b9b04143111d5ea6a83742f002b5e228cb5bbb87fca8297a5d145f392cd3d6f9", func := "waxwork/waxworklaw12.WirePuts", spec := "wirePuts", inPlace := ["internal/abi.NoEscape", "internal/bytealg.MakeNoZero", "internal/bytealg.IndexByteString", "internal/bytealg.IndexString"], unfollowed := true, recurses := true, named := ["unicode/utf8.first", "unicode/utf8.acceptRanges", "internal/bytealg.MaxLen"], apart := false, laid := [("unicode/utf8.acceptRanges", laid_unicode_utf8_acceptRanges), ("unicode/utf8.first", laid_unicode_utf8_first)] }
def WirePutsSaid : Prop := wirePutsRow.holds Tryz.pinned (OpenSpec.ofChange wirePutsSpec)

/-- ITS FALSE NEIGHBOUR: 'it returns false'. Refute it at one input. -/
def wirePutsWrong : ChangeSpec := { name := "wirePuts", fn := fun _ => fun
  | [d1, d2, d3] => { results := [.lit (.bool false)], args := [d1, d2, d3] }
  | _ => none }
def WirePutsWrongFalsely : Prop := wirePutsRow.holds Tryz.pinned (OpenSpec.ofChange wirePutsWrong)

/-- 'waxworklaw12.WireOne': WHATEVER THE INPUT: true; the input reads as it did. -/
def wireOneSpec : ChangeSpec := { name := "wireOne", fn := fun _ => fun
  | [d1, d2, d3] => { results := [.lit (.bool true)], args := [d1, d2, d3] }
  | _ => none }
def wireOneRow : OpenClaim := { program := "ytmiacgkidldjmaagreatdoor", sum := "b9b04143111d5ea6a83742f002b5e228cb5bbb87fca8297a5d145f392cd3d6f9", func := "waxwork/waxworklaw12.WireOne", spec := "wireOne", inPlace := ["internal/abi.NoEscape", "internal/bytealg.MakeNoZero", "internal/bytealg.IndexByteString", "internal/bytealg.IndexString"], unfollowed := true, recurses := true, named := ["unicode/utf8.first", "unicode/utf8.acceptRanges", "internal/bytealg.MaxLen"], apart := false, laid := [("unicode/utf8.acceptRanges", laid_unicode_utf8_acceptRanges), ("unicode/utf8.first", laid_unicode_utf8_first)] }
def WireOneSaid : Prop := wireOneRow.holds Tryz.pinned (OpenSpec.ofChange wireOneSpec)

/-- ITS FALSE NEIGHBOUR: 'it returns false'. Refute it at one input. -/
def wireOneWrong : ChangeSpec := { name := "wireOne", fn := fun _ => fun
  | [d1, d2, d3] => { results := [.lit (.bool false)], args := [d1, d2, d3] }
  | _ => none }
def WireOneWrongFalsely : Prop := wireOneRow.holds Tryz.pinned (OpenSpec.ofChange wireOneWrong)

/-- 'waxworklaw12.WireFaults': WHATEVER THE INPUT: true; the input reads as it did. -/
def wireFaultsSpec : ChangeSpec := { name := "wireFaults", fn := fun _ => fun
  | [d1, d2, d3] => { results := [.lit (.bool true)], args := [d1, d2, d3] }
  | _ => none }
def wireFaultsRow : OpenClaim := { program := "ytmiacgkidldjmaagreatdoor", sum := "b9b04143111d5ea6a83742f002b5e228cb5bbb87fca8297a5d145f392cd3d6f9", func := "waxwork/waxworklaw12.WireFaults", spec := "wireFaults", inPlace := ["internal/abi.NoEscape", "internal/bytealg.MakeNoZero", "internal/bytealg.IndexByteString", "internal/bytealg.IndexString"], unfollowed := true, recurses := true, named := ["unicode/utf8.first", "unicode/utf8.acceptRanges", "internal/bytealg.MaxLen"], apart := false, laid := [("unicode/utf8.acceptRanges", laid_unicode_utf8_acceptRanges), ("unicode/utf8.first", laid_unicode_utf8_first)] }
def WireFaultsSaid : Prop := wireFaultsRow.holds Tryz.pinned (OpenSpec.ofChange wireFaultsSpec)

/-- ITS FALSE NEIGHBOUR: 'it returns false'. Refute it at one input. -/
def wireFaultsWrong : ChangeSpec := { name := "wireFaults", fn := fun _ => fun
  | [d1, d2, d3] => { results := [.lit (.bool false)], args := [d1, d2, d3] }
  | _ => none }
def WireFaultsWrongFalsely : Prop := wireFaultsRow.holds Tryz.pinned (OpenSpec.ofChange wireFaultsWrong)

/-- 'waxworklaw12.WireSeals': WHATEVER THE INPUT: true; the input reads as it did. -/
def wireSealsSpec : ChangeSpec := { name := "wireSeals", fn := fun _ => fun
  | [d1, d2, d3, d4] => { results := [.lit (.bool true)], args := [d1, d2, d3, d4] }
  | _ => none }
def wireSealsRow : OpenClaim := { program := "ytmiacgkidldjmaagreatdoor", sum := "b9b04143111d5ea6a83742f002b5e228cb5bbb87fca8297a5d145f392cd3d6f9", func := "waxwork/waxworklaw12.WireSeals", spec := "wireSeals", inPlace := ["internal/abi.NoEscape", "internal/bytealg.MakeNoZero", "internal/bytealg.IndexByteString", "internal/bytealg.IndexString"], unfollowed := true, recurses := true, named := ["unicode/utf8.first", "unicode/utf8.acceptRanges", "internal/bytealg.MaxLen"], apart := false, laid := [("unicode/utf8.acceptRanges", laid_unicode_utf8_acceptRanges), ("unicode/utf8.first", laid_unicode_utf8_first)] }
def WireSealsSaid : Prop := wireSealsRow.holds Tryz.pinned (OpenSpec.ofChange wireSealsSpec)

/-- ITS FALSE NEIGHBOUR: 'it returns false'. Refute it at one input. -/
def wireSealsWrong : ChangeSpec := { name := "wireSeals", fn := fun _ => fun
  | [d1, d2, d3, d4] => { results := [.lit (.bool false)], args := [d1, d2, d3, d4] }
  | _ => none }
def WireSealsWrongFalsely : Prop := wireSealsRow.holds Tryz.pinned (OpenSpec.ofChange wireSealsWrong)

/-- 'waxworklaw13.SealLoops': WHATEVER THE INPUT: true; the input reads as it did. -/
def sealLoopsSpec : ChangeSpec := { name := "sealLoops", fn := fun _ => fun
  | [d1, d2] => { results := [.lit (.bool true)], args := [d1, d2] }
  | _ => none }
def sealLoopsRow : OpenClaim := { program := "ytmiacgkidldjmaagreatdoor", sum := "b9b04143111d5ea6a83742f002b5e228cb5bbb87fca8297a5d145f392cd3d6f9", func := "waxwork/waxworklaw13.SealLoops", spec := "sealLoops", inPlace := ["internal/abi.NoEscape", "internal/bytealg.MakeNoZero", "internal/bytealg.IndexByteString", "internal/bytealg.IndexString"], unfollowed := true, recurses := true, named := ["unicode/utf8.first", "unicode/utf8.acceptRanges", "internal/bytealg.MaxLen"], apart := false, laid := [("unicode/utf8.acceptRanges", laid_unicode_utf8_acceptRanges), ("unicode/utf8.first", laid_unicode_utf8_first)] }
def SealLoopsSaid : Prop := sealLoopsRow.holds Tryz.pinned (OpenSpec.ofChange sealLoopsSpec)

/-- ITS FALSE NEIGHBOUR: 'it returns false'. Refute it at one input. -/
def sealLoopsWrong : ChangeSpec := { name := "sealLoops", fn := fun _ => fun
  | [d1, d2] => { results := [.lit (.bool false)], args := [d1, d2] }
  | _ => none }
def SealLoopsWrongFalsely : Prop := sealLoopsRow.holds Tryz.pinned (OpenSpec.ofChange sealLoopsWrong)

/-- 'waxworklaw13.SealReached': WHATEVER THE INPUT: true; the input reads as it did. -/
def sealReachedSpec : ChangeSpec := { name := "sealReached", fn := fun _ => fun
  | [d1, d2] => { results := [.lit (.bool true)], args := [d1, d2] }
  | _ => none }
def sealReachedRow : OpenClaim := { program := "ytmiacgkidldjmaagreatdoor", sum := "b9b04143111d5ea6a83742f002b5e228cb5bbb87fca8297a5d145f392cd3d6f9", func := "waxwork/waxworklaw13.SealReached", spec := "sealReached", inPlace := ["internal/abi.NoEscape", "internal/bytealg.MakeNoZero", "internal/bytealg.IndexByteString", "internal/bytealg.IndexString"], unfollowed := true, recurses := true, named := ["unicode/utf8.first", "unicode/utf8.acceptRanges", "internal/bytealg.MaxLen"], apart := false, laid := [("unicode/utf8.acceptRanges", laid_unicode_utf8_acceptRanges), ("unicode/utf8.first", laid_unicode_utf8_first)] }
def SealReachedSaid : Prop := sealReachedRow.holds Tryz.pinned (OpenSpec.ofChange sealReachedSpec)

/-- ITS FALSE NEIGHBOUR: 'it returns false'. Refute it at one input. -/
def sealReachedWrong : ChangeSpec := { name := "sealReached", fn := fun _ => fun
  | [d1, d2] => { results := [.lit (.bool false)], args := [d1, d2] }
  | _ => none }
def SealReachedWrongFalsely : Prop := sealReachedRow.holds Tryz.pinned (OpenSpec.ofChange sealReachedWrong)

/- THE SECOND FORM. 'bulk': how many values and letters a reading holds, each counted each time it is reached (what is shared counts as often as it is met; a slice's spare places count too). A statement '..UptoSaid' is the law's where the arguments, and the package variables that the reading takes, are together of bulk at most 1048576: NARROWER than '..Said'. Prove '..Said' where nothing that the law and all that it calls make is longer than what came in: it says more and counts as full. Else prove '..UptoSaid'. A law counts once. -/
mutual
def uptoBulk {H : Type} : DataW H → Nat
  | .lit (.string bytes) => bytes.length + 1
  | .lit _ => 1
  | .nil => 1
  | .ptr d => uptoBulk d + 1
  | .slice elems spare => uptoBulkAll elems + uptoBulkAll spare + 1
  | .agg parts => uptoBulkAll parts + 1
  | .iface _ d => uptoBulk d + 1
  | .map entries => uptoBulkEntries entries + 1
  | .held _ => 1
def uptoBulkAll {H : Type} : List (DataW H) → Nat
  | [] => 0
  | d :: r => uptoBulk d + uptoBulkAll r
def uptoBulkEntries {H : Type} : List (Lit × DataW H) → Nat
  | [] => 0
  | x :: r => uptoBulkEntry x + uptoBulkEntries r
def uptoBulkEntry {H : Type} : Lit × DataW H → Nat
  | (.string bytes, d) => bytes.length + uptoBulk d + 1
  | (_, d) => uptoBulk d + 1
 end
def uptoSmall : (H : Type) → List (DataW H) → Bool := fun _ ds => decide (uptoBulkAll ds ≤ 1048576)
def OpenSpec.upto (s : _root_.Go.ChangeSpec) : _root_.Go.OpenSpec := { _root_.Go.OpenSpec.ofChange s with cond := some uptoSmall }

/-- 'waxworklaw13.SealBlobs', WHERE WHAT IT READS IS OF BULK AT MOST 1048576: true; the input reads as it did. -/
def sealBlobsUptoRow : OpenClaim := { program := "ytmiacgkidldjmaagreatdoor", sum := "b9b04143111d5ea6a83742f002b5e228cb5bbb87fca8297a5d145f392cd3d6f9", func := "waxwork/waxworklaw13.SealBlobs", spec := "sealBlobs", inPlace := ["internal/abi.NoEscape", "internal/bytealg.MakeNoZero", "internal/bytealg.IndexByteString", "internal/bytealg.IndexString"], unfollowed := true, recurses := true, named := ["unicode/utf8.first", "unicode/utf8.acceptRanges", "internal/bytealg.MaxLen"], apart := false, laid := [("unicode/utf8.acceptRanges", laid_unicode_utf8_acceptRanges), ("unicode/utf8.first", laid_unicode_utf8_first)], narrowed := true }
def SealBlobsUptoSaid : Prop := sealBlobsUptoRow.holds Tryz.pinned (OpenSpec.upto sealBlobsSpec)

/-- 'waxworklaw12.WireKinds', WHERE WHAT IT READS IS OF BULK AT MOST 1048576: true; the input reads as it did. -/
def wireKindsUptoRow : OpenClaim := { program := "ytmiacgkidldjmaagreatdoor", sum := "b9b04143111d5ea6a83742f002b5e228cb5bbb87fca8297a5d145f392cd3d6f9", func := "waxwork/waxworklaw12.WireKinds", spec := "wireKinds", inPlace := ["internal/abi.NoEscape", "internal/bytealg.MakeNoZero", "internal/bytealg.IndexByteString", "internal/bytealg.IndexString"], unfollowed := true, recurses := true, named := ["unicode/utf8.first", "unicode/utf8.acceptRanges", "internal/bytealg.MaxLen"], apart := false, laid := [("unicode/utf8.acceptRanges", laid_unicode_utf8_acceptRanges), ("unicode/utf8.first", laid_unicode_utf8_first)], narrowed := true }
def WireKindsUptoSaid : Prop := wireKindsUptoRow.holds Tryz.pinned (OpenSpec.upto wireKindsSpec)

/-- 'waxworklaw13.SealBounds', WHERE WHAT IT READS IS OF BULK AT MOST 1048576: true; the input reads as it did. -/
def sealBoundsUptoRow : OpenClaim := { program := "ytmiacgkidldjmaagreatdoor", sum := "b9b04143111d5ea6a83742f002b5e228cb5bbb87fca8297a5d145f392cd3d6f9", func := "waxwork/waxworklaw13.SealBounds", spec := "sealBounds", inPlace := ["internal/abi.NoEscape", "internal/bytealg.MakeNoZero", "internal/bytealg.IndexByteString", "internal/bytealg.IndexString"], unfollowed := true, recurses := true, named := ["unicode/utf8.first", "unicode/utf8.acceptRanges", "internal/bytealg.MaxLen"], apart := false, laid := [("unicode/utf8.acceptRanges", laid_unicode_utf8_acceptRanges), ("unicode/utf8.first", laid_unicode_utf8_first)], narrowed := true }
def SealBoundsUptoSaid : Prop := sealBoundsUptoRow.holds Tryz.pinned (OpenSpec.upto sealBoundsSpec)

/-- 'waxworklaw13.SealTables', WHERE WHAT IT READS IS OF BULK AT MOST 1048576: true; the input reads as it did. -/
def sealTablesUptoRow : OpenClaim := { program := "ytmiacgkidldjmaagreatdoor", sum := "b9b04143111d5ea6a83742f002b5e228cb5bbb87fca8297a5d145f392cd3d6f9", func := "waxwork/waxworklaw13.SealTables", spec := "sealTables", inPlace := ["internal/abi.NoEscape", "internal/bytealg.MakeNoZero", "internal/bytealg.IndexByteString", "internal/bytealg.IndexString"], unfollowed := true, recurses := true, named := ["unicode/utf8.first", "unicode/utf8.acceptRanges", "internal/bytealg.MaxLen"], apart := false, laid := [("unicode/utf8.acceptRanges", laid_unicode_utf8_acceptRanges), ("unicode/utf8.first", laid_unicode_utf8_first)], narrowed := true }
def SealTablesUptoSaid : Prop := sealTablesUptoRow.holds Tryz.pinned (OpenSpec.upto sealTablesSpec)

/-- 'waxworklaw12.WirePuts', WHERE WHAT IT READS IS OF BULK AT MOST 1048576: true; the input reads as it did. -/
def wirePutsUptoRow : OpenClaim := { program := "ytmiacgkidldjmaagreatdoor", sum := "b9b04143111d5ea6a83742f002b5e228cb5bbb87fca8297a5d145f392cd3d6f9", func := "waxwork/waxworklaw12.WirePuts", spec := "wirePuts", inPlace := ["internal/abi.NoEscape", "internal/bytealg.MakeNoZero", "internal/bytealg.IndexByteString", "internal/bytealg.IndexString"], unfollowed := true, recurses := true, named := ["unicode/utf8.first", "unicode/utf8.acceptRanges", "internal/bytealg.MaxLen"], apart := false, laid := [("unicode/utf8.acceptRanges", laid_unicode_utf8_acceptRanges), ("unicode/utf8.first", laid_unicode_utf8_first)], narrowed := true }
def WirePutsUptoSaid : Prop := wirePutsUptoRow.holds Tryz.pinned (OpenSpec.upto wirePutsSpec)

/-- 'waxworklaw12.WireOne', WHERE WHAT IT READS IS OF BULK AT MOST 1048576: true; the input reads as it did. -/
def wireOneUptoRow : OpenClaim := { program := "ytmiacgkidldjmaagreatdoor", sum := "b9b04143111d5ea6a83742f002b5e228cb5bbb87fca8297a5d145f392cd3d6f9", func := "waxwork/waxworklaw12.WireOne", spec := "wireOne", inPlace := ["internal/abi.NoEscape", "internal/bytealg.MakeNoZero", "internal/bytealg.IndexByteString", "internal/bytealg.IndexString"], unfollowed := true, recurses := true, named := ["unicode/utf8.first", "unicode/utf8.acceptRanges", "internal/bytealg.MaxLen"], apart := false, laid := [("unicode/utf8.acceptRanges", laid_unicode_utf8_acceptRanges), ("unicode/utf8.first", laid_unicode_utf8_first)], narrowed := true }
def WireOneUptoSaid : Prop := wireOneUptoRow.holds Tryz.pinned (OpenSpec.upto wireOneSpec)

/-- 'waxworklaw12.WireFaults', WHERE WHAT IT READS IS OF BULK AT MOST 1048576: true; the input reads as it did. -/
def wireFaultsUptoRow : OpenClaim := { program := "ytmiacgkidldjmaagreatdoor", sum := "b9b04143111d5ea6a83742f002b5e228cb5bbb87fca8297a5d145f392cd3d6f9", func := "waxwork/waxworklaw12.WireFaults", spec := "wireFaults", inPlace := ["internal/abi.NoEscape", "internal/bytealg.MakeNoZero", "internal/bytealg.IndexByteString", "internal/bytealg.IndexString"], unfollowed := true, recurses := true, named := ["unicode/utf8.first", "unicode/utf8.acceptRanges", "internal/bytealg.MaxLen"], apart := false, laid := [("unicode/utf8.acceptRanges", laid_unicode_utf8_acceptRanges), ("unicode/utf8.first", laid_unicode_utf8_first)], narrowed := true }
def WireFaultsUptoSaid : Prop := wireFaultsUptoRow.holds Tryz.pinned (OpenSpec.upto wireFaultsSpec)

/-- 'waxworklaw12.WireSeals', WHERE WHAT IT READS IS OF BULK AT MOST 1048576: true; the input reads as it did. -/
def wireSealsUptoRow : OpenClaim := { program := "ytmiacgkidldjmaagreatdoor", sum := "b9b04143111d5ea6a83742f002b5e228cb5bbb87fca8297a5d145f392cd3d6f9", func := "waxwork/waxworklaw12.WireSeals", spec := "wireSeals", inPlace := ["internal/abi.NoEscape", "internal/bytealg.MakeNoZero", "internal/bytealg.IndexByteString", "internal/bytealg.IndexString"], unfollowed := true, recurses := true, named := ["unicode/utf8.first", "unicode/utf8.acceptRanges", "internal/bytealg.MaxLen"], apart := false, laid := [("unicode/utf8.acceptRanges", laid_unicode_utf8_acceptRanges), ("unicode/utf8.first", laid_unicode_utf8_first)], narrowed := true }
def WireSealsUptoSaid : Prop := wireSealsUptoRow.holds Tryz.pinned (OpenSpec.upto wireSealsSpec)

/-- 'waxworklaw13.SealLoops', WHERE WHAT IT READS IS OF BULK AT MOST 1048576: true; the input reads as it did. -/
def sealLoopsUptoRow : OpenClaim := { program := "ytmiacgkidldjmaagreatdoor", sum := "b9b04143111d5ea6a83742f002b5e228cb5bbb87fca8297a5d145f392cd3d6f9", func := "waxwork/waxworklaw13.SealLoops", spec := "sealLoops", inPlace := ["internal/abi.NoEscape", "internal/bytealg.MakeNoZero", "internal/bytealg.IndexByteString", "internal/bytealg.IndexString"], unfollowed := true, recurses := true, named := ["unicode/utf8.first", "unicode/utf8.acceptRanges", "internal/bytealg.MaxLen"], apart := false, laid := [("unicode/utf8.acceptRanges", laid_unicode_utf8_acceptRanges), ("unicode/utf8.first", laid_unicode_utf8_first)], narrowed := true }
def SealLoopsUptoSaid : Prop := sealLoopsUptoRow.holds Tryz.pinned (OpenSpec.upto sealLoopsSpec)

/-- 'waxworklaw13.SealReached', WHERE WHAT IT READS IS OF BULK AT MOST 1048576: true; the input reads as it did. -/
def sealReachedUptoRow : OpenClaim := { program := "ytmiacgkidldjmaagreatdoor", sum := "b9b04143111d5ea6a83742f002b5e228cb5bbb87fca8297a5d145f392cd3d6f9", func := "waxwork/waxworklaw13.SealReached", spec := "sealReached", inPlace := ["internal/abi.NoEscape", "internal/bytealg.MakeNoZero", "internal/bytealg.IndexByteString", "internal/bytealg.IndexString"], unfollowed := true, recurses := true, named := ["unicode/utf8.first", "unicode/utf8.acceptRanges", "internal/bytealg.MaxLen"], apart := false, laid := [("unicode/utf8.acceptRanges", laid_unicode_utf8_acceptRanges), ("unicode/utf8.first", laid_unicode_utf8_first)], narrowed := true }
def SealReachedUptoSaid : Prop := sealReachedUptoRow.holds Tryz.pinned (OpenSpec.upto sealReachedSpec)

end Rows
end Go.Proofs.YtmiacgkidldjmaaGreatDoor
