/- LayoutWrong: its arguments opened. Conditions: what each lemma says. -/
import Derived.Test.YtbbcdebjkedepaaWrongW
set_option linter.unusedVariables false
set_option linter.unusedSimpArgs false
namespace Go.Proofs.Ytbbcdebjkedepaa
open Go.ChangeShapes Go.WideShapes Go.RowKit Go.Lib Go.Deep
theorem wf_u32b {n : Int} (h : (Lit.int .u32 n).wf = true) : 0 ≤ n ∧ n < 4294967296 := by
  simp [Lit.wf] at h
  have h2 : IntKind.u32.min = 0 := by decide
  have h3 : IntKind.u32.max = 4294967295 := by decide
  omega
set_option maxRecDepth 100000 in
theorem wrong_all {H : Type} {enc : TypeId × Value → H} {base : Nat} {v : Value} {d : DataW H} {p : List MemPlace} (a b c : Int) (W : World) (hv : Value.okWide Try.prog W .any base 28 v) (h : DataW.Trod enc Try.prog W 0 (fun _ => true) true 28 v d p)
    (ha : (Lit.int .u8 a).wf = true) (hb : (Lit.int .u8 b).wf = true) (hc : (Lit.int .u32 c).wf = true) :
    Calls Try.prog 5 #[v, .int .u8 a, .int .u8 b, .int .u32 c] W fun e w' => e = .returned (.bool true) ∧ Below W.heap.size W w' := by
  obtain ⟨PI, PL, pic, PC, PK, pcc, pg, own, LA, L, lc, g, rfl, hC⟩ := open_code hv h
  obtain ⟨a0, a1⟩ := wf_u8b ha
  obtain ⟨b0, b1⟩ := wf_u8b hb
  obtain ⟨c0, c1⟩ := wf_u32b hc
  exact wrong_w PI PC LA PL PK pic pcc lc pg own L g a b c W hC a0 a1 b0 b1 c0 c1
end Go.Proofs.Ytbbcdebjkedepaa
