/-
  No cell of these rows narrows 'for every input' (looked for: loops, veiled, ifaces, maps, wideKeys, modest, calm, conditions, laid).
  DERIVED. THE GIVEN ROWS OF THIS SEAT. 3 by the template 'for every input the law returns true; each argument reads behind the call as it read before'; 0 by the template 'total and deterministic' (their statements: YtoamjlnmpklcdaaTotals.lean).
  GIVEN WITH THE SEED: the statements are not yours to turn. If you find one false, say at which input.
  Laid BY PROGRAM, IN A SANDBOX (cutbox-rows.mjs): the forced cells as the released guide's own fill.sh prints them over the translation da216f57a53b4bdf… (all of the seat's roots in one cut). By AI agents, Wed Nov 11 2026. No macro, syntax, notation, axiom, sorry.
-/
import Derived.Test.YtoamjlnmpklcdaaChecked
import GoSem.Claim
import GoSem.ClaimJoined
import GoSem.ClaimMapViews
import Derived.JoinedTies
import Derived.KernelRfl
namespace Go.Proofs.Ytoamjlnmpklcdaa
/- THE CELL 'sum', in the pinned program and in every row, IS THE sha256 OF THE DUMP (.gsa) THAT YtoamjlnmpklcdaaProg.lean LOADS. Nothing in Lean hashes anything: it is a label: what it is worth is what the hold of that sum in a sandbox is worth. -/
noncomputable def Try.pinned : Pinned := { name := "ytoamjlnmpklcdaa", sum := "da216f57a53b4bdf694f781c1391d7f050be4b61f96821f0b58f57fbb5585108", checked := Try.checked }
namespace Rows
def none {H : Type} : Left H := { results := [], args := [] }

/-- 'waxworklaw10.PartsIndex': WHATEVER THE INPUT: true; the input reads as it did. -/
def partsIndexSpec : ChangeSpec := { name := "partsIndex", fn := fun _ => fun
  | [d1, d2] => { results := [.lit (.bool true)], args := [d1, d2] }
  | _ => none }
def partsIndexRow : OpenClaim := { program := "ytoamjlnmpklcdaa", sum := "da216f57a53b4bdf694f781c1391d7f050be4b61f96821f0b58f57fbb5585108", func := "waxwork/waxworklaw10.PartsIndex", spec := "partsIndex", unfollowed := true, recurses := true, apart := false }
def PartsIndexSaid : Prop := partsIndexRow.holds Try.pinned (OpenSpec.ofChange partsIndexSpec)

/-- ITS FALSE NEIGHBOUR: 'it returns false'. Refute it at one input. -/
def partsIndexWrong : ChangeSpec := { name := "partsIndex", fn := fun _ => fun
  | [d1, d2] => { results := [.lit (.bool false)], args := [d1, d2] }
  | _ => none }
def PartsIndexWrongFalsely : Prop := partsIndexRow.holds Try.pinned (OpenSpec.ofChange partsIndexWrong)

/-- 'waxworklaw10.PartsMany': WHATEVER THE INPUT: true; the input reads as it did. -/
def partsManySpec : ChangeSpec := { name := "partsMany", fn := fun _ => fun
  | [d1, d2] => { results := [.lit (.bool true)], args := [d1, d2] }
  | _ => none }
def partsManyRow : OpenClaim := { program := "ytoamjlnmpklcdaa", sum := "da216f57a53b4bdf694f781c1391d7f050be4b61f96821f0b58f57fbb5585108", func := "waxwork/waxworklaw10.PartsMany", spec := "partsMany", unfollowed := true, recurses := true, apart := false }
def PartsManySaid : Prop := partsManyRow.holds Try.pinned (OpenSpec.ofChange partsManySpec)

/-- ITS FALSE NEIGHBOUR: 'it returns false'. Refute it at one input. -/
def partsManyWrong : ChangeSpec := { name := "partsMany", fn := fun _ => fun
  | [d1, d2] => { results := [.lit (.bool false)], args := [d1, d2] }
  | _ => none }
def PartsManyWrongFalsely : Prop := partsManyRow.holds Try.pinned (OpenSpec.ofChange partsManyWrong)

/-- 'waxworklaw10.PartsAlike': WHATEVER THE INPUT: true; the input reads as it did. -/
def partsAlikeSpec : ChangeSpec := { name := "partsAlike", fn := fun _ => fun
  | [d1, d2, d3] => { results := [.lit (.bool true)], args := [d1, d2, d3] }
  | _ => none }
def partsAlikeRow : OpenClaim := { program := "ytoamjlnmpklcdaa", sum := "da216f57a53b4bdf694f781c1391d7f050be4b61f96821f0b58f57fbb5585108", func := "waxwork/waxworklaw10.PartsAlike", spec := "partsAlike", unfollowed := true, recurses := true, apart := false }
def PartsAlikeSaid : Prop := partsAlikeRow.holds Try.pinned (OpenSpec.ofChange partsAlikeSpec)

/-- ITS FALSE NEIGHBOUR: 'it returns false'. Refute it at one input. -/
def partsAlikeWrong : ChangeSpec := { name := "partsAlike", fn := fun _ => fun
  | [d1, d2, d3] => { results := [.lit (.bool false)], args := [d1, d2, d3] }
  | _ => none }
def PartsAlikeWrongFalsely : Prop := partsAlikeRow.holds Try.pinned (OpenSpec.ofChange partsAlikeWrong)

/- THE SECOND FORM. 'bulk': how many values and letters a reading holds, each counted each time it is reached (what is shared counts as often as it is met; a slice's spare places count too). A statement '..UptoSaid' is the law's where the arguments, and the package variables that the reading takes, are together of bulk at most 1048576: NARROWER than '..Said'. Prove '..Said' where nothing that the law and all that it calls make is longer than what came in: it says more and counts as full. Else prove '..UptoSaid'. A law counts once. -/
mutual
def uptoBulk {H : Type} : DataW H → Nat
  | .lit (.string bytes) => bytes.length + 1
  | .lit _ => 1
  | .nil => 1
  | .ptr d => uptoBulk d + 1
  | .slice elems spare => uptoBulkAll elems + uptoBulkAll spare + 1
  | .agg parts => uptoBulkAll parts + 1
  | .iface _ d => uptoBulk d + 1
  | .map entries => uptoBulkEntries entries + 1
  | .held _ => 1
def uptoBulkAll {H : Type} : List (DataW H) → Nat
  | [] => 0
  | d :: r => uptoBulk d + uptoBulkAll r
def uptoBulkEntries {H : Type} : List (Lit × DataW H) → Nat
  | [] => 0
  | x :: r => uptoBulkEntry x + uptoBulkEntries r
def uptoBulkEntry {H : Type} : Lit × DataW H → Nat
  | (.string bytes, d) => bytes.length + uptoBulk d + 1
  | (_, d) => uptoBulk d + 1
 end
def uptoSmall : (H : Type) → List (DataW H) → Bool := fun _ ds => decide (uptoBulkAll ds ≤ 1048576)
def OpenSpec.upto (s : _root_.Go.ChangeSpec) : _root_.Go.OpenSpec := { _root_.Go.OpenSpec.ofChange s with cond := some uptoSmall }

/-- 'waxworklaw10.PartsIndex', WHERE WHAT IT READS IS OF BULK AT MOST 1048576: true; the input reads as it did. -/
def partsIndexUptoRow : OpenClaim := { program := "ytoamjlnmpklcdaa", sum := "da216f57a53b4bdf694f781c1391d7f050be4b61f96821f0b58f57fbb5585108", func := "waxwork/waxworklaw10.PartsIndex", spec := "partsIndex", unfollowed := true, recurses := true, apart := false, narrowed := true }
def PartsIndexUptoSaid : Prop := partsIndexUptoRow.holds Try.pinned (OpenSpec.upto partsIndexSpec)

/-- 'waxworklaw10.PartsMany', WHERE WHAT IT READS IS OF BULK AT MOST 1048576: true; the input reads as it did. -/
def partsManyUptoRow : OpenClaim := { program := "ytoamjlnmpklcdaa", sum := "da216f57a53b4bdf694f781c1391d7f050be4b61f96821f0b58f57fbb5585108", func := "waxwork/waxworklaw10.PartsMany", spec := "partsMany", unfollowed := true, recurses := true, apart := false, narrowed := true }
def PartsManyUptoSaid : Prop := partsManyUptoRow.holds Try.pinned (OpenSpec.upto partsManySpec)

/-- 'waxworklaw10.PartsAlike', WHERE WHAT IT READS IS OF BULK AT MOST 1048576: true; the input reads as it did. -/
def partsAlikeUptoRow : OpenClaim := { program := "ytoamjlnmpklcdaa", sum := "da216f57a53b4bdf694f781c1391d7f050be4b61f96821f0b58f57fbb5585108", func := "waxwork/waxworklaw10.PartsAlike", spec := "partsAlike", unfollowed := true, recurses := true, apart := false, narrowed := true }
def PartsAlikeUptoSaid : Prop := partsAlikeUptoRow.holds Try.pinned (OpenSpec.upto partsAlikeSpec)

end Rows
end Go.Proofs.Ytoamjlnmpklcdaa
