/- RawdfaReads at every argument of its types. Conditions: the two tables. -/
import Derived.Test.YtdonginboioocaaDoorReadsW
import Derived.Test.YtdonginboioocaaDoorOpen
namespace Go.Proofs.YtdonginboioocaaDoor
open Go.ChangeShapes Go.WideShapes Go.RowKit Go.Lib
theorem reads_all {H : Type} {enc : TypeId × Value → H} {W : World} {base : Nat} {v0 v1 v2 : Value} {d0 d1 d2 : DataW H} {p0 p1 p2 : List MemPlace} (k0 : Value.okWide Tryd.prog W .any base 30 v0) (k1 : Value.okWide Tryd.prog W .any base 28 v1) (k2 : Value.okWide Tryd.prog W .any base 28 v2)
    (h0 : DataW.Trod enc Tryd.prog W 0 (fun _ => true) true 30 v0 d0 p0) (h1 : DataW.Trod enc Tryd.prog W 0 (fun _ => true) true 28 v1 d1 p1) (h2 : DataW.Trod enc Tryd.prog W 0 (fun _ => true) true 28 v2 d2 p2) (hT : Tabs W) :
    Calls Tryd.prog 3 #[v0, v1, v2] W fun e w' => e = .returned (.bool true) ∧ Below W.heap.size W w' := by
  obtain ⟨TP, tp, tpc, TN, tn, tnc, TA, ta, tac, own, PA, PL, pc, NA, NL, nc, AA, AL, ac, rfl, hG⟩ := open_grid k0 h0
  obtain ⟨XA, X, xc, rfl, hX, x1, x2⟩ := open_u8s k1 h1
  obtain ⟨YA, Y, yc, rfl, hY, y1, y2⟩ := open_u8s k2 h2
  exact reads_walk TP tp tpc TN tn tnc TA ta tac own PA PL pc NA NL nc AA AL ac XA X xc YA Y yc W hG hX hY x1 y1 x2 y2 hT
end Go.Proofs.YtdonginboioocaaDoor
