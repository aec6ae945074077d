/- RawdfaWrong at every argument of its types. Conditions: the two tables. -/
import Derived.Test.YtdonginboioocaaDoorWrongW
import Derived.Test.YtdonginboioocaaDoorOpen
namespace Go.Proofs.YtdonginboioocaaDoor
open Go.ChangeShapes Go.WideShapes Go.RowKit Go.Lib
open Go.ChangeMaps (open_string shut_string)
theorem wrong_all {H : Type} {enc : TypeId × Value → H} {W : World} {base : Nat} {v0 v1 v2 v3 v4 : Value} {d0 d1 d2 d3 d4 : DataW H} {p0 p1 p2 p3 p4 : List MemPlace} (k0 : Value.okWide Tryd.prog W .any base 30 v0) (k1 : Value.okWide Tryd.prog W .any base 5 v1) (k2 : Value.okWide Tryd.prog W .any base 5 v2) (k3 : Value.okWide Tryd.prog W .any base 46 v3) (k4 : Value.okWide Tryd.prog W .any base 28 v4)
    (h0 : DataW.Trod enc Tryd.prog W 0 (fun _ => true) true 30 v0 d0 p0) (h1 : DataW.Trod enc Tryd.prog W 0 (fun _ => true) true 5 v1 d1 p1) (h2 : DataW.Trod enc Tryd.prog W 0 (fun _ => true) true 5 v2 d2 p2) (h3 : DataW.Trod enc Tryd.prog W 0 (fun _ => true) true 46 v3 d3 p3) (h4 : DataW.Trod enc Tryd.prog W 0 (fun _ => true) true 28 v4 d4 p4) (hT : Tabs W) :
    Calls Tryd.prog 5 #[v0, v1, v2, v3, v4] W fun e w' => e = .returned (.bool true) ∧ Below W.heap.size W w' := by
  obtain ⟨TP, tp, tpc, TN, tn, tnc, TA, ta, tac, own, PA, PL, pc, NA, NL, nc, AA, AL, ac, rfl, hG⟩ := open_grid k0 h0
  obtain ⟨a1, rfl, rfl, rfl, w1⟩ := open_int Tryd.underlying5 k1 h1
  obtain ⟨a2, rfl, rfl, rfl, w2⟩ := open_int Tryd.underlying5 k2 h2
  obtain ⟨a3, rfl, rfl, rfl, w3⟩ := open_int Tryd.underlying46 k3 h3
  obtain ⟨XA, X, xc, rfl, hX, x1, x2⟩ := open_u8s k4 h4
  simp [Lit.wf, IntKind.min, IntKind.max, IntKind.bits, IntKind.signed] at w1 w2 w3
  exact wrong_walk TP tp tpc TN tn tnc TA ta tac own PA PL pc NA NL nc AA AL ac a1 a2 a3 XA X xc W hG hX x1 x2 (by omega) (by omega) (by omega) hT
end Go.Proofs.YtdonginboioocaaDoor
