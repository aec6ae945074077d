/- LayoutSizes: its arguments opened. Conditions: what each lemma says. -/
import Derived.Test.YtbbcdebjkedepaaSizesW
set_option linter.unusedVariables false
set_option linter.unusedSimpArgs false
namespace Go.Proofs.Ytbbcdebjkedepaa
open Go.ChangeShapes Go.WideShapes Go.RowKit Go.Lib Go.Deep
set_option maxRecDepth 100000 in
theorem sizes_all {H : Type} {enc : TypeId × Value → H} {base : Nat} {v v' : Value} {d d' : DataW H} {p p' : List MemPlace} (W : World) (hv : Value.okWide Try.prog W .any base 28 v) (h : DataW.Trod enc Try.prog W 0 (fun _ => true) true 28 v d p)
    (hv' : Value.okWide Try.prog W .any base 37 v') (h' : DataW.Trod enc Try.prog W 0 (fun _ => true) true 37 v' d' p') :
    Calls Try.prog 4 #[v, v'] W fun e w' => e = .returned (.bool true) ∧ Below W.heap.size W w' := by
  obtain ⟨PI, PL, pic, PC, PK, pcc, pg, own, LA, L, lc, g, rfl, hC⟩ := open_code hv h
  obtain ⟨TP, TL, tpc, TN, TR, tnc, TA, TC, tac, ow2, PA, GL, pc, NA, NL, nc, AA, AL, ac, rfl, hG, _, _⟩ := open_grid2 hv' h'
  exact sizes_w PI PC LA PL PK pic pcc lc pg own L g TP TN TA PA NA AA TL.length TR.length TC.length tpc tnc tac pc nc ac ow2 GL NL AL W hC hG
end Go.Proofs.Ytbbcdebjkedepaa
