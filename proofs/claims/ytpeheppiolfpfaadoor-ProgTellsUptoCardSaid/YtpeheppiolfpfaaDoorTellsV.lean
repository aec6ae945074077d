/- ProgTells: the arguments opened; the table that the row lays. Conditions: bulk at most 2^20; the table lies as laid. -/
import Derived.Test.YtpeheppiolfpfaaDoorTellsW
import Derived.Stop.LaidErr
import Derived.MakeChecks
import Derived.Lib.LaidTab
import Derived.LaidMore
set_option linter.unusedVariables false
namespace Go.Proofs.YtpeheppiolfpfaaDoor
open Go.ChangeShapes Go.WideShapes Go.RowKit Go.Lib Go.Deep
open Plain (Rg In4)
set_option maxRecDepth 100000 in
theorem Tp_of {W : World} (h : laidMetH Tryd.prog [("math/bits.deBruijn32tab", Rows.laid_math_bits_deBruijn32tab), ("math/bits.deBruijn64tab", Rows.laid_math_bits_deBruijn64tab), ("internal/strconv.uint64pow10", Rows.laid_internal_strconv_uint64pow10)] W) : Tp W := by
  rw [MakeChecks.laidMetH_plain _ _ _ (by kernel_rfl)] at h
  have h2 := laidMet.tail (laidMet.tail h)
  exact Lib.tabIs_of_head (P := Tryd.prog) (W := W) (name := "internal/strconv.uint64pow10") (k := .u64) (zs := Lib.pow10Tab) (rest := []) (g := 0) (t := 129) (e := 97) (n := 20)
    (by kernel_rfl) (by kernel_rfl) (by kernel_rfl) Tryd.underlying97 (by kernel_rfl) (by kernel_rfl) h2
section
variable {H : Type} {enc : TypeId × Value → H} {W : World}
set_option maxRecDepth 100000 in
theorem open_inst {base : Nat} {v : Value} {d : DataW H} {p : List MemPlace} (hv : Value.okWide Tryd.prog W .any base 30 v) (h : DataW.Trod enc Tryd.prog W 0 (fun _ => true) true 30 v d p) : ∃ op x y a, v = .agg #[.int .i64 op, .int .i64 x, .int .i64 y, .int .i64 a] := by
  obtain ⟨cs, rfl, hsz⟩ := okWide_struct Tryd.underlying30 hv
  have h4 : Tryd.prog.cellsOf 30 = 4 := by kernel_rfl
  obtain ⟨l⟩ := cs
  obtain ⟨fuel, hf⟩ := h
  have hl : l.length = 4 := hsz.trans h4
  obtain ⟨r, hr, _⟩ := inst_el (cs := l) (by simpa [Value.cells] using hf) hl
  subst hr
  exact ⟨r.1, r.2.1, r.2.2.1, r.2.2.2, rfl⟩
set_option maxRecDepth 100000 in
theorem tells_all {v0 v1 v2 : Value} {d0 d1 d2 : DataW H} {p0 p1 p2 : List MemPlace} {b0 b1 b2 : Nat} (W : World) (k0 : Value.okWide Tryd.prog W .any b0 28 v0) (h0 : DataW.Trod enc Tryd.prog W 0 (fun _ => true) true 28 v0 d0 p0) (z0 : Rows.uptoBulk d0 ≤ 1048576)
    (k1 : Value.okWide Tryd.prog W .any b1 28 v1) (h1 : DataW.Trod enc Tryd.prog W 0 (fun _ => true) true 28 v1 d1 p1) (z1 : Rows.uptoBulk d1 ≤ 1048576)
    (k2 : Value.okWide Tryd.prog W .any b2 30 v2) (h2 : DataW.Trod enc Tryd.prog W 0 (fun _ => true) true 30 v2 d2 p2) (hT : Tp W) :
    Calls Tryd.prog 3 #[v0, v1, v2] W fun e w' => e = .returned (.bool true) ∧ Below W.heap.size W w' := by
  obtain ⟨PI, PL, pic, PC, PK, pcc, pg, own, LA, L, lc, g, rfl, hC, hF⟩ := open_code_b k0 h0 z0
  obtain ⟨QI, QL, qic, QC, QK, qcc, qg, own2, MA, M, mc, h, rfl, hD, hG⟩ := open_code_b k1 h1 z1
  obtain ⟨op, ax, ay, ar, rfl⟩ := open_inst k2 h2
  exact tells_w PI PC LA PL PK pic pcc lc pg own L g QI QC MA QL QK qic qcc mc qg own2 M h op ax ay ar W hC hF hD hG hT
end
end Go.Proofs.YtpeheppiolfpfaaDoor
