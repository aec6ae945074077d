/- RawdfaSame at every argument of its types. Conditions: the two tables. -/
import Derived.Test.YtdonginboioocaaDoorSameW
import Derived.Test.YtdonginboioocaaDoorOpenB
namespace Go.Proofs.YtdonginboioocaaDoor
open Go.ChangeShapes Go.WideShapes Go.RowKit Go.Lib
theorem same_all {H : Type} {enc : TypeId × Value → H} {W : World} {base : Nat} {v0 v1 : Value} {d0 d1 : DataW H} {p0 p1 : List MemPlace} (k0 : Value.okWide Tryd.prog W .any base 30 v0) (k1 : Value.okWide Tryd.prog W .any base 28 v1)
    (h0 : DataW.Trod enc Tryd.prog W 0 (fun _ => true) true 30 v0 d0 p0) (h1 : DataW.Trod enc Tryd.prog W 0 (fun _ => true) true 28 v1 d1 p1) (hT : Tabs W) :
    Calls Tryd.prog 6 #[v0, v1] W fun e w' => e = .returned (.bool true) ∧ Below W.heap.size W w' := by
  obtain ⟨TP, TL, tpc, TN, TR, tnc, TA, TC, tac, own, PA, PL, pc, NA, NL, nc, AA, AL, ac, rfl, hG, hTT, htc⟩ := open_grid2 k0 h0
  obtain ⟨XA, X, xc, rfl, hX, x1, x2⟩ := open_u8s k1 h1
  exact same_walk TP TL tpc TN TR tnc TA TC tac own PA PL pc NA NL nc AA AL ac XA X xc W hG hTT htc hX x1 x2 hT
end Go.Proofs.YtdonginboioocaaDoor
