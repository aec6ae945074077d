/-
  NARROWER THAN 'FOR EVERY INPUT', by the rows' own cells (each row's printed sentence says how): VaryReads: laid · VaryBack: laid · VaryOne: laid · VaryLong: laid · VaryPads: laid · VaryTexts: laid · ClassTells: laid · ClassLaws: laid · ClassForm: laid · ClassPuts: laid · ClassMany: laid.
  DERIVED. THE GIVEN ROWS OF THIS SEAT. 11 by the template 'for every input the law returns true; each argument reads behind the call as it read before'; 0 by the template 'total and deterministic' (their statements: YtkkgdnmloojloaaDoorTotals.lean).
  GIVEN WITH THE SEED: the statements are not yours to turn. If you find one false, say at which input.
  Laid BY PROGRAM, IN A SANDBOX (cutbox-rows.mjs): the forced cells as the released guide's own fill.sh prints them over the translation 70d05470a0fab3ba… (all of the seat's roots in one cut). By AI agents, Wed Nov 11 2026. No macro, syntax, notation, axiom, sorry.
-/
import Derived.Test.YtkkgdnmloojloaaDoorChecked
import GoSem.PinnedTables
import GoSem.Claim
import GoSem.ClaimJoined
import GoSem.ClaimMapViews
import Derived.JoinedTies
import Derived.KernelRfl
namespace Go.Proofs.YtkkgdnmloojloaaDoor
/- THE CELL 'sum', in the pinned program and in every row, IS THE sha256 OF THE DUMP (.gsa) THAT YtkkgdnmloojloaaDoorProg.lean LOADS. Nothing in Lean hashes anything: it is a label: what it is worth is what the hold of that sum in a sandbox is worth. -/
noncomputable def Tryd.pinned : Pinned := { name := "ytkkgdnmloojloaadoor", sum := "70d05470a0fab3ba97faa9b1fc533f22a70ab1af7e918341151f4fa319882ae7", checked := Tryd.checked }
namespace Rows
def none {H : Type} : Left H := { results := [], args := [] }

/- WHAT THE LISTED PACKAGE-LEVEL VARIABLES READ AS WHEN THE CALL BEGINS. Each datum BY PROGRAM (the guide's laid-datum.mjs) off the statement by which the dump's own 'gosem.cut.vars' lays the variable. In a bare row this is a premise. The card (YtkkgdnmloojloaaDoorCards.lean) ties it to the program's text. -/
def laid_unicode_utf8_acceptRanges {H : Type} : DataW H := .agg [.agg [.lit (.int .u8 128), .lit (.int .u8 191)], .agg [.lit (.int .u8 160), .lit (.int .u8 191)], .agg [.lit (.int .u8 128), .lit (.int .u8 159)], .agg [.lit (.int .u8 144), .lit (.int .u8 191)], .agg [.lit (.int .u8 128), .lit (.int .u8 143)], .agg [.lit (.int .u8 0), .lit (.int .u8 0)], .agg [.lit (.int .u8 0), .lit (.int .u8 0)], .agg [.lit (.int .u8 0), .lit (.int .u8 0)], .agg [.lit (.int .u8 0), .lit (.int .u8 0)], .agg [.lit (.int .u8 0), .lit (.int .u8 0)], .agg [.lit (.int .u8 0), .lit (.int .u8 0)], .agg [.lit (.int .u8 0), .lit (.int .u8 0)], .agg [.lit (.int .u8 0), .lit (.int .u8 0)], .agg [.lit (.int .u8 0), .lit (.int .u8 0)], .agg [.lit (.int .u8 0), .lit (.int .u8 0)], .agg [.lit (.int .u8 0), .lit (.int .u8 0)]]
/-- One of Go's own tables, pinned by name: the form's constant. -/
def laid_unicode_utf8_first : DataW Unit := Go.Pinned.utf8First
def laid_math_bits_deBruijn32tab {H : Type} : DataW H := .agg [.lit (.int .u8 0), .lit (.int .u8 1), .lit (.int .u8 28), .lit (.int .u8 2), .lit (.int .u8 29), .lit (.int .u8 14), .lit (.int .u8 24), .lit (.int .u8 3), .lit (.int .u8 30), .lit (.int .u8 22), .lit (.int .u8 20), .lit (.int .u8 15), .lit (.int .u8 25), .lit (.int .u8 17), .lit (.int .u8 4), .lit (.int .u8 8), .lit (.int .u8 31), .lit (.int .u8 27), .lit (.int .u8 13), .lit (.int .u8 23), .lit (.int .u8 21), .lit (.int .u8 19), .lit (.int .u8 16), .lit (.int .u8 7), .lit (.int .u8 26), .lit (.int .u8 12), .lit (.int .u8 18), .lit (.int .u8 6), .lit (.int .u8 11), .lit (.int .u8 5), .lit (.int .u8 10), .lit (.int .u8 9)]
def laid_math_bits_deBruijn64tab {H : Type} : DataW H := .agg [.lit (.int .u8 0), .lit (.int .u8 1), .lit (.int .u8 56), .lit (.int .u8 2), .lit (.int .u8 57), .lit (.int .u8 49), .lit (.int .u8 28), .lit (.int .u8 3), .lit (.int .u8 61), .lit (.int .u8 58), .lit (.int .u8 42), .lit (.int .u8 50), .lit (.int .u8 38), .lit (.int .u8 29), .lit (.int .u8 17), .lit (.int .u8 4), .lit (.int .u8 62), .lit (.int .u8 47), .lit (.int .u8 59), .lit (.int .u8 36), .lit (.int .u8 45), .lit (.int .u8 43), .lit (.int .u8 51), .lit (.int .u8 22), .lit (.int .u8 53), .lit (.int .u8 39), .lit (.int .u8 33), .lit (.int .u8 30), .lit (.int .u8 24), .lit (.int .u8 18), .lit (.int .u8 12), .lit (.int .u8 5), .lit (.int .u8 63), .lit (.int .u8 55), .lit (.int .u8 48), .lit (.int .u8 27), .lit (.int .u8 60), .lit (.int .u8 41), .lit (.int .u8 37), .lit (.int .u8 16), .lit (.int .u8 46), .lit (.int .u8 35), .lit (.int .u8 44), .lit (.int .u8 21), .lit (.int .u8 52), .lit (.int .u8 32), .lit (.int .u8 23), .lit (.int .u8 11), .lit (.int .u8 54), .lit (.int .u8 26), .lit (.int .u8 40), .lit (.int .u8 15), .lit (.int .u8 34), .lit (.int .u8 20), .lit (.int .u8 31), .lit (.int .u8 10), .lit (.int .u8 25), .lit (.int .u8 14), .lit (.int .u8 19), .lit (.int .u8 9), .lit (.int .u8 13), .lit (.int .u8 8), .lit (.int .u8 7), .lit (.int .u8 6)]
def laid_internal_strconv_uint64pow10 {H : Type} : DataW H := .agg [.lit (.int .u64 1), .lit (.int .u64 10), .lit (.int .u64 100), .lit (.int .u64 1000), .lit (.int .u64 10000), .lit (.int .u64 100000), .lit (.int .u64 1000000), .lit (.int .u64 10000000), .lit (.int .u64 100000000), .lit (.int .u64 1000000000), .lit (.int .u64 10000000000), .lit (.int .u64 100000000000), .lit (.int .u64 1000000000000), .lit (.int .u64 10000000000000), .lit (.int .u64 100000000000000), .lit (.int .u64 1000000000000000), .lit (.int .u64 10000000000000000), .lit (.int .u64 100000000000000000), .lit (.int .u64 1000000000000000000), .lit (.int .u64 10000000000000000000)]

/-- 'waxworklaw02.VaryReads': WHATEVER THE INPUT: true; the input reads as it did. -/
def varyReadsSpec : ChangeSpec := { name := "varyReads", fn := fun _ => fun
  | [d1, d2, d3, d4, d5] => { results := [.lit (.bool true)], args := [d1, d2, d3, d4, d5] }
  | _ => none }
def varyReadsRow : OpenClaim := { program := "ytkkgdnmloojloaadoor", sum := "70d05470a0fab3ba97faa9b1fc533f22a70ab1af7e918341151f4fa319882ae7", func := "waxwork/waxworklaw02.VaryReads", spec := "varyReads", inPlace := ["internal/bytealg.IndexByteString", "internal/bytealg.IndexString"], named := ["unicode/utf8.first", "unicode/utf8.acceptRanges", "internal/bytealg.MaxLen"], apart := false, laid := [("unicode/utf8.acceptRanges", laid_unicode_utf8_acceptRanges), ("unicode/utf8.first", laid_unicode_utf8_first)] }
def VaryReadsSaid : Prop := varyReadsRow.holds Tryd.pinned (OpenSpec.ofChange varyReadsSpec)

/-- ITS FALSE NEIGHBOUR: 'it returns false'. Refute it at one input. -/
def varyReadsWrong : ChangeSpec := { name := "varyReads", fn := fun _ => fun
  | [d1, d2, d3, d4, d5] => { results := [.lit (.bool false)], args := [d1, d2, d3, d4, d5] }
  | _ => none }
def VaryReadsWrongFalsely : Prop := varyReadsRow.holds Tryd.pinned (OpenSpec.ofChange varyReadsWrong)

/-- 'waxworklaw02.VaryBack': WHATEVER THE INPUT: true; the input reads as it did. -/
def varyBackSpec : ChangeSpec := { name := "varyBack", fn := fun _ => fun
  | [d1, d2, d3, d4, d5] => { results := [.lit (.bool true)], args := [d1, d2, d3, d4, d5] }
  | _ => none }
def varyBackRow : OpenClaim := { program := "ytkkgdnmloojloaadoor", sum := "70d05470a0fab3ba97faa9b1fc533f22a70ab1af7e918341151f4fa319882ae7", func := "waxwork/waxworklaw02.VaryBack", spec := "varyBack", inPlace := ["internal/bytealg.IndexByteString", "internal/bytealg.IndexString"], named := ["unicode/utf8.first", "unicode/utf8.acceptRanges", "internal/bytealg.MaxLen"], apart := false, laid := [("unicode/utf8.acceptRanges", laid_unicode_utf8_acceptRanges), ("unicode/utf8.first", laid_unicode_utf8_first)] }
def VaryBackSaid : Prop := varyBackRow.holds Tryd.pinned (OpenSpec.ofChange varyBackSpec)

/-- ITS FALSE NEIGHBOUR: 'it returns false'. Refute it at one input. -/
def varyBackWrong : ChangeSpec := { name := "varyBack", fn := fun _ => fun
  | [d1, d2, d3, d4, d5] => { results := [.lit (.bool false)], args := [d1, d2, d3, d4, d5] }
  | _ => none }
def VaryBackWrongFalsely : Prop := varyBackRow.holds Tryd.pinned (OpenSpec.ofChange varyBackWrong)

/-- 'waxworklaw02.VaryOne': WHATEVER THE INPUT: true; the input reads as it did. -/
def varyOneSpec : ChangeSpec := { name := "varyOne", fn := fun _ => fun
  | [d1, d2, d3, d4] => { results := [.lit (.bool true)], args := [d1, d2, d3, d4] }
  | _ => none }
def varyOneRow : OpenClaim := { program := "ytkkgdnmloojloaadoor", sum := "70d05470a0fab3ba97faa9b1fc533f22a70ab1af7e918341151f4fa319882ae7", func := "waxwork/waxworklaw02.VaryOne", spec := "varyOne", inPlace := ["internal/bytealg.IndexByteString", "internal/bytealg.IndexString"], named := ["unicode/utf8.first", "unicode/utf8.acceptRanges", "internal/bytealg.MaxLen"], apart := false, laid := [("unicode/utf8.acceptRanges", laid_unicode_utf8_acceptRanges), ("unicode/utf8.first", laid_unicode_utf8_first)] }
def VaryOneSaid : Prop := varyOneRow.holds Tryd.pinned (OpenSpec.ofChange varyOneSpec)

/-- ITS FALSE NEIGHBOUR: 'it returns false'. Refute it at one input. -/
def varyOneWrong : ChangeSpec := { name := "varyOne", fn := fun _ => fun
  | [d1, d2, d3, d4] => { results := [.lit (.bool false)], args := [d1, d2, d3, d4] }
  | _ => none }
def VaryOneWrongFalsely : Prop := varyOneRow.holds Tryd.pinned (OpenSpec.ofChange varyOneWrong)

/-- 'waxworklaw02.VaryLong': WHATEVER THE INPUT: true; the input reads as it did. -/
def varyLongSpec : ChangeSpec := { name := "varyLong", fn := fun _ => fun
  | [d1, d2] => { results := [.lit (.bool true)], args := [d1, d2] }
  | _ => none }
def varyLongRow : OpenClaim := { program := "ytkkgdnmloojloaadoor", sum := "70d05470a0fab3ba97faa9b1fc533f22a70ab1af7e918341151f4fa319882ae7", func := "waxwork/waxworklaw02.VaryLong", spec := "varyLong", inPlace := ["internal/bytealg.IndexByteString", "internal/bytealg.IndexString"], named := ["unicode/utf8.first", "unicode/utf8.acceptRanges", "internal/bytealg.MaxLen"], apart := false, laid := [("unicode/utf8.acceptRanges", laid_unicode_utf8_acceptRanges), ("unicode/utf8.first", laid_unicode_utf8_first)] }
def VaryLongSaid : Prop := varyLongRow.holds Tryd.pinned (OpenSpec.ofChange varyLongSpec)

/-- ITS FALSE NEIGHBOUR: 'it returns false'. Refute it at one input. -/
def varyLongWrong : ChangeSpec := { name := "varyLong", fn := fun _ => fun
  | [d1, d2] => { results := [.lit (.bool false)], args := [d1, d2] }
  | _ => none }
def VaryLongWrongFalsely : Prop := varyLongRow.holds Tryd.pinned (OpenSpec.ofChange varyLongWrong)

/-- 'waxworklaw02.VaryPads': WHATEVER THE INPUT: true; the input reads as it did. -/
def varyPadsSpec : ChangeSpec := { name := "varyPads", fn := fun _ => fun
  | [d1, d2, d3, d4] => { results := [.lit (.bool true)], args := [d1, d2, d3, d4] }
  | _ => none }
def varyPadsRow : OpenClaim := { program := "ytkkgdnmloojloaadoor", sum := "70d05470a0fab3ba97faa9b1fc533f22a70ab1af7e918341151f4fa319882ae7", func := "waxwork/waxworklaw02.VaryPads", spec := "varyPads", inPlace := ["internal/bytealg.IndexByteString", "internal/bytealg.IndexString"], named := ["unicode/utf8.first", "unicode/utf8.acceptRanges", "internal/bytealg.MaxLen"], apart := false, laid := [("unicode/utf8.acceptRanges", laid_unicode_utf8_acceptRanges), ("unicode/utf8.first", laid_unicode_utf8_first)] }
def VaryPadsSaid : Prop := varyPadsRow.holds Tryd.pinned (OpenSpec.ofChange varyPadsSpec)

/-- ITS FALSE NEIGHBOUR: 'it returns false'. Refute it at one input. -/
def varyPadsWrong : ChangeSpec := { name := "varyPads", fn := fun _ => fun
  | [d1, d2, d3, d4] => { results := [.lit (.bool false)], args := [d1, d2, d3, d4] }
  | _ => none }
def VaryPadsWrongFalsely : Prop := varyPadsRow.holds Tryd.pinned (OpenSpec.ofChange varyPadsWrong)

/-- 'waxworklaw02.VaryTexts': WHATEVER THE INPUT: true; the input reads as it did. -/
def varyTextsSpec : ChangeSpec := { name := "varyTexts", fn := fun _ => fun
  | [d1, d2, d3] => { results := [.lit (.bool true)], args := [d1, d2, d3] }
  | _ => none }
def varyTextsRow : OpenClaim := { program := "ytkkgdnmloojloaadoor", sum := "70d05470a0fab3ba97faa9b1fc533f22a70ab1af7e918341151f4fa319882ae7", func := "waxwork/waxworklaw02.VaryTexts", spec := "varyTexts", inPlace := ["internal/bytealg.IndexByteString", "internal/bytealg.IndexString"], named := ["unicode/utf8.first", "unicode/utf8.acceptRanges", "internal/bytealg.MaxLen"], apart := false, laid := [("unicode/utf8.acceptRanges", laid_unicode_utf8_acceptRanges), ("unicode/utf8.first", laid_unicode_utf8_first)] }
def VaryTextsSaid : Prop := varyTextsRow.holds Tryd.pinned (OpenSpec.ofChange varyTextsSpec)

/-- ITS FALSE NEIGHBOUR: 'it returns false'. Refute it at one input. -/
def varyTextsWrong : ChangeSpec := { name := "varyTexts", fn := fun _ => fun
  | [d1, d2, d3] => { results := [.lit (.bool false)], args := [d1, d2, d3] }
  | _ => none }
def VaryTextsWrongFalsely : Prop := varyTextsRow.holds Tryd.pinned (OpenSpec.ofChange varyTextsWrong)

/-- 'waxworklaw04.ClassTells': WHATEVER THE INPUT: true; the input reads as it did. -/
def classTellsSpec : ChangeSpec := { name := "classTells", fn := fun _ => fun
  | [d1, d2, d3, d4] => { results := [.lit (.bool true)], args := [d1, d2, d3, d4] }
  | _ => none }
def classTellsRow : OpenClaim := { program := "ytkkgdnmloojloaadoor", sum := "70d05470a0fab3ba97faa9b1fc533f22a70ab1af7e918341151f4fa319882ae7", func := "waxwork/waxworklaw04.ClassTells", spec := "classTells", inPlace := ["internal/abi.NoEscape", "internal/bytealg.MakeNoZero"], unfollowed := true, recurses := true, named := ["internal/strconv.uint64pow10", "math/bits.deBruijn32tab", "math/bits.deBruijn64tab"], apart := false, laid := [("math/bits.deBruijn32tab", laid_math_bits_deBruijn32tab), ("math/bits.deBruijn64tab", laid_math_bits_deBruijn64tab), ("internal/strconv.uint64pow10", laid_internal_strconv_uint64pow10)] }
def ClassTellsSaid : Prop := classTellsRow.holds Tryd.pinned (OpenSpec.ofChange classTellsSpec)

/-- ITS FALSE NEIGHBOUR: 'it returns false'. Refute it at one input. -/
def classTellsWrong : ChangeSpec := { name := "classTells", fn := fun _ => fun
  | [d1, d2, d3, d4] => { results := [.lit (.bool false)], args := [d1, d2, d3, d4] }
  | _ => none }
def ClassTellsWrongFalsely : Prop := classTellsRow.holds Tryd.pinned (OpenSpec.ofChange classTellsWrong)

/-- 'waxworklaw04.ClassLaws': WHATEVER THE INPUT: true; the input reads as it did. -/
def classLawsSpec : ChangeSpec := { name := "classLaws", fn := fun _ => fun
  | [d1, d2, d3] => { results := [.lit (.bool true)], args := [d1, d2, d3] }
  | _ => none }
def classLawsRow : OpenClaim := { program := "ytkkgdnmloojloaadoor", sum := "70d05470a0fab3ba97faa9b1fc533f22a70ab1af7e918341151f4fa319882ae7", func := "waxwork/waxworklaw04.ClassLaws", spec := "classLaws", inPlace := ["internal/abi.NoEscape", "internal/bytealg.MakeNoZero"], unfollowed := true, recurses := true, named := ["internal/strconv.uint64pow10", "math/bits.deBruijn32tab", "math/bits.deBruijn64tab"], apart := false, laid := [("math/bits.deBruijn32tab", laid_math_bits_deBruijn32tab), ("math/bits.deBruijn64tab", laid_math_bits_deBruijn64tab), ("internal/strconv.uint64pow10", laid_internal_strconv_uint64pow10)] }
def ClassLawsSaid : Prop := classLawsRow.holds Tryd.pinned (OpenSpec.ofChange classLawsSpec)

/-- ITS FALSE NEIGHBOUR: 'it returns false'. Refute it at one input. -/
def classLawsWrong : ChangeSpec := { name := "classLaws", fn := fun _ => fun
  | [d1, d2, d3] => { results := [.lit (.bool false)], args := [d1, d2, d3] }
  | _ => none }
def ClassLawsWrongFalsely : Prop := classLawsRow.holds Tryd.pinned (OpenSpec.ofChange classLawsWrong)

/-- 'waxworklaw04.ClassForm': WHATEVER THE INPUT: true; the input reads as it did. -/
def classFormSpec : ChangeSpec := { name := "classForm", fn := fun _ => fun
  | [d1, d2] => { results := [.lit (.bool true)], args := [d1, d2] }
  | _ => none }
def classFormRow : OpenClaim := { program := "ytkkgdnmloojloaadoor", sum := "70d05470a0fab3ba97faa9b1fc533f22a70ab1af7e918341151f4fa319882ae7", func := "waxwork/waxworklaw04.ClassForm", spec := "classForm", inPlace := ["internal/abi.NoEscape", "internal/bytealg.MakeNoZero"], unfollowed := true, recurses := true, named := ["internal/strconv.uint64pow10", "math/bits.deBruijn32tab", "math/bits.deBruijn64tab"], apart := false, laid := [("math/bits.deBruijn32tab", laid_math_bits_deBruijn32tab), ("math/bits.deBruijn64tab", laid_math_bits_deBruijn64tab), ("internal/strconv.uint64pow10", laid_internal_strconv_uint64pow10)] }
def ClassFormSaid : Prop := classFormRow.holds Tryd.pinned (OpenSpec.ofChange classFormSpec)

/-- ITS FALSE NEIGHBOUR: 'it returns false'. Refute it at one input. -/
def classFormWrong : ChangeSpec := { name := "classForm", fn := fun _ => fun
  | [d1, d2] => { results := [.lit (.bool false)], args := [d1, d2] }
  | _ => none }
def ClassFormWrongFalsely : Prop := classFormRow.holds Tryd.pinned (OpenSpec.ofChange classFormWrong)

/-- 'waxworklaw04.ClassPuts': WHATEVER THE INPUT: true; the input reads as it did. -/
def classPutsSpec : ChangeSpec := { name := "classPuts", fn := fun _ => fun
  | [d1, d2] => { results := [.lit (.bool true)], args := [d1, d2] }
  | _ => none }
def classPutsRow : OpenClaim := { program := "ytkkgdnmloojloaadoor", sum := "70d05470a0fab3ba97faa9b1fc533f22a70ab1af7e918341151f4fa319882ae7", func := "waxwork/waxworklaw04.ClassPuts", spec := "classPuts", inPlace := ["internal/abi.NoEscape", "internal/bytealg.MakeNoZero"], unfollowed := true, recurses := true, named := ["internal/strconv.uint64pow10", "math/bits.deBruijn32tab", "math/bits.deBruijn64tab"], apart := false, laid := [("math/bits.deBruijn32tab", laid_math_bits_deBruijn32tab), ("math/bits.deBruijn64tab", laid_math_bits_deBruijn64tab), ("internal/strconv.uint64pow10", laid_internal_strconv_uint64pow10)] }
def ClassPutsSaid : Prop := classPutsRow.holds Tryd.pinned (OpenSpec.ofChange classPutsSpec)

/-- ITS FALSE NEIGHBOUR: 'it returns false'. Refute it at one input. -/
def classPutsWrong : ChangeSpec := { name := "classPuts", fn := fun _ => fun
  | [d1, d2] => { results := [.lit (.bool false)], args := [d1, d2] }
  | _ => none }
def ClassPutsWrongFalsely : Prop := classPutsRow.holds Tryd.pinned (OpenSpec.ofChange classPutsWrong)

/-- 'waxworklaw04.ClassMany': WHATEVER THE INPUT: true; the input reads as it did. -/
def classManySpec : ChangeSpec := { name := "classMany", fn := fun _ => fun
  | [d1, d2, d3, d4] => { results := [.lit (.bool true)], args := [d1, d2, d3, d4] }
  | _ => none }
def classManyRow : OpenClaim := { program := "ytkkgdnmloojloaadoor", sum := "70d05470a0fab3ba97faa9b1fc533f22a70ab1af7e918341151f4fa319882ae7", func := "waxwork/waxworklaw04.ClassMany", spec := "classMany", inPlace := ["internal/abi.NoEscape", "internal/bytealg.MakeNoZero"], unfollowed := true, recurses := true, named := ["internal/strconv.uint64pow10", "math/bits.deBruijn32tab", "math/bits.deBruijn64tab"], apart := false, laid := [("math/bits.deBruijn32tab", laid_math_bits_deBruijn32tab), ("math/bits.deBruijn64tab", laid_math_bits_deBruijn64tab), ("internal/strconv.uint64pow10", laid_internal_strconv_uint64pow10)] }
def ClassManySaid : Prop := classManyRow.holds Tryd.pinned (OpenSpec.ofChange classManySpec)

/-- ITS FALSE NEIGHBOUR: 'it returns false'. Refute it at one input. -/
def classManyWrong : ChangeSpec := { name := "classMany", fn := fun _ => fun
  | [d1, d2, d3, d4] => { results := [.lit (.bool false)], args := [d1, d2, d3, d4] }
  | _ => none }
def ClassManyWrongFalsely : Prop := classManyRow.holds Tryd.pinned (OpenSpec.ofChange classManyWrong)

/- THE SECOND FORM. 'bulk': how many values and letters a reading holds, each counted each time it is reached (what is shared counts as often as it is met; a slice's spare places count too). A statement '..UptoSaid' is the law's where the arguments, and the package variables that the reading takes, are together of bulk at most 1048576: NARROWER than '..Said'. Prove '..Said' where nothing that the law and all that it calls make is longer than what came in: it says more and counts as full. Else prove '..UptoSaid'. A law counts once. -/
mutual
def uptoBulk {H : Type} : DataW H → Nat
  | .lit (.string bytes) => bytes.length + 1
  | .lit _ => 1
  | .nil => 1
  | .ptr d => uptoBulk d + 1
  | .slice elems spare => uptoBulkAll elems + uptoBulkAll spare + 1
  | .agg parts => uptoBulkAll parts + 1
  | .iface _ d => uptoBulk d + 1
  | .map entries => uptoBulkEntries entries + 1
  | .held _ => 1
def uptoBulkAll {H : Type} : List (DataW H) → Nat
  | [] => 0
  | d :: r => uptoBulk d + uptoBulkAll r
def uptoBulkEntries {H : Type} : List (Lit × DataW H) → Nat
  | [] => 0
  | x :: r => uptoBulkEntry x + uptoBulkEntries r
def uptoBulkEntry {H : Type} : Lit × DataW H → Nat
  | (.string bytes, d) => bytes.length + uptoBulk d + 1
  | (_, d) => uptoBulk d + 1
 end
def uptoSmall : (H : Type) → List (DataW H) → Bool := fun _ ds => decide (uptoBulkAll ds ≤ 1048576)
def OpenSpec.upto (s : _root_.Go.ChangeSpec) : _root_.Go.OpenSpec := { _root_.Go.OpenSpec.ofChange s with cond := some uptoSmall }

/-- 'waxworklaw02.VaryReads', WHERE WHAT IT READS IS OF BULK AT MOST 1048576: true; the input reads as it did. -/
def varyReadsUptoRow : OpenClaim := { program := "ytkkgdnmloojloaadoor", sum := "70d05470a0fab3ba97faa9b1fc533f22a70ab1af7e918341151f4fa319882ae7", func := "waxwork/waxworklaw02.VaryReads", spec := "varyReads", inPlace := ["internal/bytealg.IndexByteString", "internal/bytealg.IndexString"], named := ["unicode/utf8.first", "unicode/utf8.acceptRanges", "internal/bytealg.MaxLen"], apart := false, laid := [("unicode/utf8.acceptRanges", laid_unicode_utf8_acceptRanges), ("unicode/utf8.first", laid_unicode_utf8_first)], narrowed := true }
def VaryReadsUptoSaid : Prop := varyReadsUptoRow.holds Tryd.pinned (OpenSpec.upto varyReadsSpec)

/-- 'waxworklaw02.VaryBack', WHERE WHAT IT READS IS OF BULK AT MOST 1048576: true; the input reads as it did. -/
def varyBackUptoRow : OpenClaim := { program := "ytkkgdnmloojloaadoor", sum := "70d05470a0fab3ba97faa9b1fc533f22a70ab1af7e918341151f4fa319882ae7", func := "waxwork/waxworklaw02.VaryBack", spec := "varyBack", inPlace := ["internal/bytealg.IndexByteString", "internal/bytealg.IndexString"], named := ["unicode/utf8.first", "unicode/utf8.acceptRanges", "internal/bytealg.MaxLen"], apart := false, laid := [("unicode/utf8.acceptRanges", laid_unicode_utf8_acceptRanges), ("unicode/utf8.first", laid_unicode_utf8_first)], narrowed := true }
def VaryBackUptoSaid : Prop := varyBackUptoRow.holds Tryd.pinned (OpenSpec.upto varyBackSpec)

/-- 'waxworklaw02.VaryOne', WHERE WHAT IT READS IS OF BULK AT MOST 1048576: true; the input reads as it did. -/
def varyOneUptoRow : OpenClaim := { program := "ytkkgdnmloojloaadoor", sum := "70d05470a0fab3ba97faa9b1fc533f22a70ab1af7e918341151f4fa319882ae7", func := "waxwork/waxworklaw02.VaryOne", spec := "varyOne", inPlace := ["internal/bytealg.IndexByteString", "internal/bytealg.IndexString"], named := ["unicode/utf8.first", "unicode/utf8.acceptRanges", "internal/bytealg.MaxLen"], apart := false, laid := [("unicode/utf8.acceptRanges", laid_unicode_utf8_acceptRanges), ("unicode/utf8.first", laid_unicode_utf8_first)], narrowed := true }
def VaryOneUptoSaid : Prop := varyOneUptoRow.holds Tryd.pinned (OpenSpec.upto varyOneSpec)

/-- 'waxworklaw02.VaryLong', WHERE WHAT IT READS IS OF BULK AT MOST 1048576: true; the input reads as it did. -/
def varyLongUptoRow : OpenClaim := { program := "ytkkgdnmloojloaadoor", sum := "70d05470a0fab3ba97faa9b1fc533f22a70ab1af7e918341151f4fa319882ae7", func := "waxwork/waxworklaw02.VaryLong", spec := "varyLong", inPlace := ["internal/bytealg.IndexByteString", "internal/bytealg.IndexString"], named := ["unicode/utf8.first", "unicode/utf8.acceptRanges", "internal/bytealg.MaxLen"], apart := false, laid := [("unicode/utf8.acceptRanges", laid_unicode_utf8_acceptRanges), ("unicode/utf8.first", laid_unicode_utf8_first)], narrowed := true }
def VaryLongUptoSaid : Prop := varyLongUptoRow.holds Tryd.pinned (OpenSpec.upto varyLongSpec)

/-- 'waxworklaw02.VaryPads', WHERE WHAT IT READS IS OF BULK AT MOST 1048576: true; the input reads as it did. -/
def varyPadsUptoRow : OpenClaim := { program := "ytkkgdnmloojloaadoor", sum := "70d05470a0fab3ba97faa9b1fc533f22a70ab1af7e918341151f4fa319882ae7", func := "waxwork/waxworklaw02.VaryPads", spec := "varyPads", inPlace := ["internal/bytealg.IndexByteString", "internal/bytealg.IndexString"], named := ["unicode/utf8.first", "unicode/utf8.acceptRanges", "internal/bytealg.MaxLen"], apart := false, laid := [("unicode/utf8.acceptRanges", laid_unicode_utf8_acceptRanges), ("unicode/utf8.first", laid_unicode_utf8_first)], narrowed := true }
def VaryPadsUptoSaid : Prop := varyPadsUptoRow.holds Tryd.pinned (OpenSpec.upto varyPadsSpec)

/-- 'waxworklaw02.VaryTexts', WHERE WHAT IT READS IS OF BULK AT MOST 1048576: true; the input reads as it did. -/
def varyTextsUptoRow : OpenClaim := { program := "ytkkgdnmloojloaadoor", sum := "70d05470a0fab3ba97faa9b1fc533f22a70ab1af7e918341151f4fa319882ae7", func := "waxwork/waxworklaw02.VaryTexts", spec := "varyTexts", inPlace := ["internal/bytealg.IndexByteString", "internal/bytealg.IndexString"], named := ["unicode/utf8.first", "unicode/utf8.acceptRanges", "internal/bytealg.MaxLen"], apart := false, laid := [("unicode/utf8.acceptRanges", laid_unicode_utf8_acceptRanges), ("unicode/utf8.first", laid_unicode_utf8_first)], narrowed := true }
def VaryTextsUptoSaid : Prop := varyTextsUptoRow.holds Tryd.pinned (OpenSpec.upto varyTextsSpec)

/-- 'waxworklaw04.ClassTells', WHERE WHAT IT READS IS OF BULK AT MOST 1048576: true; the input reads as it did. -/
def classTellsUptoRow : OpenClaim := { program := "ytkkgdnmloojloaadoor", sum := "70d05470a0fab3ba97faa9b1fc533f22a70ab1af7e918341151f4fa319882ae7", func := "waxwork/waxworklaw04.ClassTells", spec := "classTells", inPlace := ["internal/abi.NoEscape", "internal/bytealg.MakeNoZero"], unfollowed := true, recurses := true, named := ["internal/strconv.uint64pow10", "math/bits.deBruijn32tab", "math/bits.deBruijn64tab"], apart := false, laid := [("math/bits.deBruijn32tab", laid_math_bits_deBruijn32tab), ("math/bits.deBruijn64tab", laid_math_bits_deBruijn64tab), ("internal/strconv.uint64pow10", laid_internal_strconv_uint64pow10)], narrowed := true }
def ClassTellsUptoSaid : Prop := classTellsUptoRow.holds Tryd.pinned (OpenSpec.upto classTellsSpec)

/-- 'waxworklaw04.ClassLaws', WHERE WHAT IT READS IS OF BULK AT MOST 1048576: true; the input reads as it did. -/
def classLawsUptoRow : OpenClaim := { program := "ytkkgdnmloojloaadoor", sum := "70d05470a0fab3ba97faa9b1fc533f22a70ab1af7e918341151f4fa319882ae7", func := "waxwork/waxworklaw04.ClassLaws", spec := "classLaws", inPlace := ["internal/abi.NoEscape", "internal/bytealg.MakeNoZero"], unfollowed := true, recurses := true, named := ["internal/strconv.uint64pow10", "math/bits.deBruijn32tab", "math/bits.deBruijn64tab"], apart := false, laid := [("math/bits.deBruijn32tab", laid_math_bits_deBruijn32tab), ("math/bits.deBruijn64tab", laid_math_bits_deBruijn64tab), ("internal/strconv.uint64pow10", laid_internal_strconv_uint64pow10)], narrowed := true }
def ClassLawsUptoSaid : Prop := classLawsUptoRow.holds Tryd.pinned (OpenSpec.upto classLawsSpec)

/-- 'waxworklaw04.ClassForm', WHERE WHAT IT READS IS OF BULK AT MOST 1048576: true; the input reads as it did. -/
def classFormUptoRow : OpenClaim := { program := "ytkkgdnmloojloaadoor", sum := "70d05470a0fab3ba97faa9b1fc533f22a70ab1af7e918341151f4fa319882ae7", func := "waxwork/waxworklaw04.ClassForm", spec := "classForm", inPlace := ["internal/abi.NoEscape", "internal/bytealg.MakeNoZero"], unfollowed := true, recurses := true, named := ["internal/strconv.uint64pow10", "math/bits.deBruijn32tab", "math/bits.deBruijn64tab"], apart := false, laid := [("math/bits.deBruijn32tab", laid_math_bits_deBruijn32tab), ("math/bits.deBruijn64tab", laid_math_bits_deBruijn64tab), ("internal/strconv.uint64pow10", laid_internal_strconv_uint64pow10)], narrowed := true }
def ClassFormUptoSaid : Prop := classFormUptoRow.holds Tryd.pinned (OpenSpec.upto classFormSpec)

/-- 'waxworklaw04.ClassPuts', WHERE WHAT IT READS IS OF BULK AT MOST 1048576: true; the input reads as it did. -/
def classPutsUptoRow : OpenClaim := { program := "ytkkgdnmloojloaadoor", sum := "70d05470a0fab3ba97faa9b1fc533f22a70ab1af7e918341151f4fa319882ae7", func := "waxwork/waxworklaw04.ClassPuts", spec := "classPuts", inPlace := ["internal/abi.NoEscape", "internal/bytealg.MakeNoZero"], unfollowed := true, recurses := true, named := ["internal/strconv.uint64pow10", "math/bits.deBruijn32tab", "math/bits.deBruijn64tab"], apart := false, laid := [("math/bits.deBruijn32tab", laid_math_bits_deBruijn32tab), ("math/bits.deBruijn64tab", laid_math_bits_deBruijn64tab), ("internal/strconv.uint64pow10", laid_internal_strconv_uint64pow10)], narrowed := true }
def ClassPutsUptoSaid : Prop := classPutsUptoRow.holds Tryd.pinned (OpenSpec.upto classPutsSpec)

/-- 'waxworklaw04.ClassMany', WHERE WHAT IT READS IS OF BULK AT MOST 1048576: true; the input reads as it did. -/
def classManyUptoRow : OpenClaim := { program := "ytkkgdnmloojloaadoor", sum := "70d05470a0fab3ba97faa9b1fc533f22a70ab1af7e918341151f4fa319882ae7", func := "waxwork/waxworklaw04.ClassMany", spec := "classMany", inPlace := ["internal/abi.NoEscape", "internal/bytealg.MakeNoZero"], unfollowed := true, recurses := true, named := ["internal/strconv.uint64pow10", "math/bits.deBruijn32tab", "math/bits.deBruijn64tab"], apart := false, laid := [("math/bits.deBruijn32tab", laid_math_bits_deBruijn32tab), ("math/bits.deBruijn64tab", laid_math_bits_deBruijn64tab), ("internal/strconv.uint64pow10", laid_internal_strconv_uint64pow10)], narrowed := true }
def ClassManyUptoSaid : Prop := classManyUptoRow.holds Tryd.pinned (OpenSpec.upto classManySpec)

end Rows
end Go.Proofs.YtkkgdnmloojloaaDoor
