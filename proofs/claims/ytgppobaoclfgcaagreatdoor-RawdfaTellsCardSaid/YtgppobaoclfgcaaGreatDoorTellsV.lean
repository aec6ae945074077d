/- RawdfaTells: the arguments opened; the tables that the row lays. Conditions: the tables lie as laid. -/
import Derived.Test.YtgppobaoclfgcaaGreatDoorTellsW
import Derived.Test.YtgppobaoclfgcaaGreatDoorOpenP
import Derived.Test.YtgppobaoclfgcaaGreatDoorRows
import Derived.Stop.LaidErr
import Derived.MakeChecks
import Derived.Lib.LaidTab
import Derived.Lib.LaidU8
import Derived.LaidMore
import Derived.PinnedBridge
set_option linter.unusedVariables false
namespace Go.Proofs.YtgppobaoclfgcaaGreatDoor
open Go.ChangeShapes Go.WideShapes Go.RowKit Go.Lib Go.Deep
open Plain (Rg In4)
theorem extra : Go.Proofs.U8Extra Tryz.prog Tryz.lays260_ren := ⟨by kernel_rfl, by kernel_rfl, by kernel_rfl, by kernel_rfl, by kernel_rfl, by kernel_rfl, by kernel_rfl⟩
/-- what the listed tables give the walk -/
theorem tabs_of {W : World} (h : laidMetH Tryz.prog [("math/bits.deBruijn32tab", Rows.laid_math_bits_deBruijn32tab), ("math/bits.deBruijn64tab", Rows.laid_math_bits_deBruijn64tab), ("internal/strconv.uint64pow10", Rows.laid_internal_strconv_uint64pow10), ("unicode/utf8.acceptRanges", Rows.laid_unicode_utf8_acceptRanges), ("unicode/utf8.first", Rows.laid_unicode_utf8_first)] W) : Tabs W := by
  rw [MakeChecks.laidMetH_plain _ _ _ (by kernel_rfl)] at h
  have h4 := Go.Lib.laidMet.reads h (n := "unicode/utf8.acceptRanges") (d := Rows.laid_unicode_utf8_acceptRanges) (by simp)
  have h3 := Go.Lib.laidMet.reads h (n := "unicode/utf8.first") (d := Rows.laid_unicode_utf8_first) (by simp)
  exact Go.Proofs.utf8Tabs_of_reads Tryz.lays260 extra (by rw [← Go.Pinned.utf8First_eq]; exact h3) h4
set_option maxRecDepth 100000 in
theorem Tp_of {W : World} (h : laidMetH Tryz.prog [("math/bits.deBruijn32tab", Rows.laid_math_bits_deBruijn32tab), ("math/bits.deBruijn64tab", Rows.laid_math_bits_deBruijn64tab), ("internal/strconv.uint64pow10", Rows.laid_internal_strconv_uint64pow10), ("unicode/utf8.acceptRanges", Rows.laid_unicode_utf8_acceptRanges), ("unicode/utf8.first", Rows.laid_unicode_utf8_first)] W) : Tp W := by
  rw [MakeChecks.laidMetH_plain _ _ _ (by kernel_rfl)] at h
  have h2 := laidMet.tail (laidMet.tail h)
  exact Lib.tabIs_of_head (P := Tryz.prog) (W := W) (name := "internal/strconv.uint64pow10") (k := .u64) (zs := Lib.pow10Tab) (g := 2) (t := 206) (e := 158) (n := 20)
    (by kernel_rfl) (by kernel_rfl) (by kernel_rfl) Tryz.underlying158 (by kernel_rfl) (by kernel_rfl) h2
theorem u8_bd {L : List Int} (h : ∀ n ∈ L, (Lit.int .u8 n).wf = true) (k : Nat) (hk : k < L.length) : 0 ≤ L.getD k 0 ∧ L.getD k 0 < 256 := by
  have h1 := h _ (List.getElem_mem hk)
  rw [Plain.getD_lt _ _ _ hk]
  simp [Lit.wf, IntKind.min, IntKind.max, IntKind.bits, IntKind.signed] at h1
  omega
variable {H : Type} {enc : TypeId × Value → H} {W : World}
set_option maxRecDepth 100000 in
theorem open_u8s {base : Nat} {v : Value} {d : DataW H} {p : List MemPlace} (hv : Value.okWide Tryz.prog W .any base 28 v) (h : DataW.Trod enc Tryz.prog W 0 (fun _ => true) true 28 v d p) :
    ∃ A L c, v = .slice A L.length c ∧ Sl W A (u8s L) ∧ L.length ≤ maxLen ∧ ∀ k, k < L.length → 0 ≤ L.getD k 0 ∧ L.getD k 0 < 256 := by
  obtain ⟨a, l, c, rfl⟩ := okWide_slice Tryz.underlying28 hv
  obtain ⟨fuel, hf⟩ := h
  obtain ⟨A, L, c', hcs, hS, h1, h2, hw⟩ := sl_of_ints Tryz.underlying28 Tryz.underlying5 (by kernel_rfl) hf
  simp [Value.cells] at hcs
  obtain ⟨rfl, rfl, rfl⟩ := hcs
  exact ⟨_, L, _, rfl, hS, Nat.le_trans h1 h2, u8_bd hw⟩

section
variable {H : Type} {enc : TypeId × Value → H} {P : Program} {w : World} {base : Nat} {held : Bool}
theorem sl_of_rows {t e f : TypeId} {fuel : Nat} {cs : List Value} {x : DataW H × List MemPlace} (ht : P.underlying t = some (.slice e)) (he : P.underlying e = some (.slice f)) (hc : P.cellsOf e = 1) (hf : P.underlying f = some (.int .i64)) (hcf : P.cellsOf f = 1)
    (h : DataW.trod enc P w base (fun _ => true) held fuel t cs = some x) :
    ∃ (A : Option Addr) (R : List Row) (c : Nat), cs = [.slice A R.length c] ∧ Sl w A (R.map rowV) ∧ R.length ≤ c ∧ c ≤ maxLen ∧ ∀ r ∈ R, Sl w r.1 (i64s r.2.2) ∧ r.2.2.length ≤ maxLen := by
  rcases open_slice1 ht hc h with ⟨rfl, _⟩ | ⟨a, l, c, m, n, V, D, Pl, rfl, _, hl, hm, hmm, _, hx⟩
  · exact ⟨none, [], 0, rfl, Sl.nil _ _, Nat.le_refl _, Nat.zero_le _, fun r hr => absurd hr (by simp)⟩
  · simp only [if_true] at hmm
    subst hmm
    have hall : ∀ i, ∃ r : Row, i < l → V i = rowV r ∧ Sl w r.1 (i64s r.2.2) ∧ r.2.2.length ≤ maxLen := fun i => by
      by_cases hi : i < l
      · obtain ⟨A, L, c', hcs, hS, h1, h2, _⟩ := sl_of_ints he hf hcf (hx i (by omega)).2
        injection hcs with hcs
        exact ⟨(A, c', L), fun _ => ⟨hcs, hS, Nat.le_trans h1 h2⟩⟩
      · exact ⟨(none, 0, []), fun h => absurd h hi⟩
    obtain ⟨f', hf'⟩ := Classical.axiomOfChoice hall
    have hlen : ((List.range l).map f').length = l := by simp
    refine ⟨some a, (List.range l).map f', m, by rw [hlen], sl_of_cells fun i u hu => ?_, by omega, hm, fun r hr => ?_⟩
    · have hi : i < (((List.range l).map f').map rowV).length := (List.getElem?_eq_some_iff.1 hu).1
      simp only [List.length_map, List.length_range] at hi
      rw [(hx i (by omega)).1, (hf' i hi).1]
      rw [List.getElem?_map, List.getElem?_map, List.getElem?_range hi] at hu
      simpa using hu
    · obtain ⟨i, hi, rfl⟩ := List.mem_map.1 hr
      exact (hf' i (List.mem_range.1 hi)).2
end
variable {H : Type} {enc : TypeId × Value → H} {W : World}
set_option maxRecDepth 100000 in
theorem open_grid2 {base : Nat} {v : Value} {d : DataW H} {p : List MemPlace} (hv : Value.okWide Tryz.prog W .any base 30 v) (h : DataW.Trod enc Tryz.prog W 0 (fun _ => true) true 30 v d p) :
    ∃ TP TL tpc TN TR tnc TA TC tac own PA PL pc NA NL nc AA AL ac, v = .agg #[.slice TP TL.length tpc, .slice TN TR.length tnc, .slice TA TC.length tac, .bool own, .slice PA PL.length pc, .slice NA NL.length nc, .slice AA AL.length ac] ∧ GridAt W PA PL NA NL AA AL ∧ TabAt W TP TL TN TR TA TC ∧ TL.length ≤ tpc := by
  obtain ⟨cs, rfl, hsz⟩ := okWide_struct Tryz.underlying30 hv
  have h7 : Tryz.prog.cellsOf 30 = 7 := by kernel_rfl
  have h3 : Tryz.prog.cellsOf 27 = 3 := by kernel_rfl
  have s4 : Tryz.prog.cellsOf 4 = 1 := by kernel_rfl
  have s28 : Tryz.prog.cellsOf 28 = 1 := by kernel_rfl
  have s25 : Tryz.prog.cellsOf 25 = 1 := by kernel_rfl
  have s23 : Tryz.prog.cellsOf 23 = 1 := by kernel_rfl
  have s24 : Tryz.prog.cellsOf 24 = 1 := by kernel_rfl
  obtain ⟨l⟩ := cs
  match l, hsz.trans h7 with
  | [c0, c1, c2, c3, c4, c5, c6], _ =>
    obtain ⟨fuel, hf⟩ := h
    obtain ⟨xs, n, _, hx, _, hlen, hg⟩ := DataW.trod_struct Tryz.underlying30 hf
    match xs, hlen with
    | [y0, y1, y2, y3, y4], _ =>
      have g0 : DataW.trod enc Tryz.prog W 0 (fun _ => true) true n 27 [c0, c1, c2] = some y0 := by simpa [Value.cells, h3] using hg 0 _ rfl
      have g1 : DataW.trod enc Tryz.prog W 0 (fun _ => true) true n 4 [c3] = some y1 := by simpa [Value.cells, s4] using hg 1 _ rfl
      have g2 : DataW.trod enc Tryz.prog W 0 (fun _ => true) true n 28 [c4] = some y2 := by simpa [Value.cells, s28] using hg 2 _ rfl
      have g3 : DataW.trod enc Tryz.prog W 0 (fun _ => true) true n 28 [c5] = some y3 := by simpa [Value.cells, s28] using hg 3 _ rfl
      have g4 : DataW.trod enc Tryz.prog W 0 (fun _ => true) true n 25 [c6] = some y4 := by simpa [Value.cells, s25] using hg 4 _ rfl
      obtain ⟨ts, m, _, _, _, htl, hgt⟩ := DataW.trod_struct Tryz.underlying27 g0
      match ts, htl with
      | [z0, z1, z2], _ =>
        have t0 : DataW.trod enc Tryz.prog W 0 (fun _ => true) true m 23 [c0] = some z0 := by simpa [s23] using hgt 0 _ rfl
        have t1 : DataW.trod enc Tryz.prog W 0 (fun _ => true) true m 24 [c1] = some z1 := by simpa [s24] using hgt 1 _ rfl
        have t2 : DataW.trod enc Tryz.prog W 0 (fun _ => true) true m 25 [c2] = some z2 := by simpa [s25] using hgt 2 _ rfl
        obtain ⟨TP, TL, tpc, e0, hT0, u1, u2, _⟩ := sl_of_ints Tryz.underlying23 Tryz.underlying21 (by kernel_rfl) t0
        obtain ⟨TN, TR, tnc, e1, hT1, u3, u4, hTR⟩ := sl_of_rows Tryz.underlying24 Tryz.underlying58 (by kernel_rfl) Tryz.underlying3 (by kernel_rfl) t1
        obtain ⟨TA, TC, tac, e2, hT2, u5, u6⟩ := sl_of_bools Tryz.underlying25 Tryz.underlying4 (by kernel_rfl) t2
        obtain ⟨own, e3, _⟩ := DataW.trod_bool Tryz.underlying4 g1
        obtain ⟨PA, PL, pc, e4, hP, p1, p2, pw⟩ := sl_of_ints Tryz.underlying28 Tryz.underlying5 (by kernel_rfl) g2
        obtain ⟨NA, NL, nc, e5, hN, n1, n2, nw⟩ := sl_of_ints Tryz.underlying28 Tryz.underlying5 (by kernel_rfl) g3
        obtain ⟨AA, AL, ac, e6, hA, a1, a2⟩ := sl_of_bools Tryz.underlying25 Tryz.underlying4 (by kernel_rfl) g4
        injection e0 with e0
        injection e1 with e1
        injection e2 with e2
        injection e3 with e3
        injection e4 with e4
        injection e5 with e5
        injection e6 with e6
        subst e0 e1 e2 e3 e4 e5 e6
        exact ⟨TP, TL, tpc, TN, TR, tnc, TA, TC, tac, own, PA, PL, pc, NA, NL, nc, AA, AL, ac, rfl, ⟨hP, hN, hA, by omega, by omega, by omega, u8_bd pw, u8_bd nw⟩, ⟨hT0, hT1, hTR, hT2, by omega, by omega, by omega⟩, u1⟩

theorem u32_b {n : Int} (h : (Lit.int .u32 n).wf = true) : 0 ≤ n ∧ n < 4294967296 := by
  simp [Lit.wf, IntKind.min, IntKind.max, IntKind.bits, IntKind.signed] at h
  omega
set_option maxRecDepth 100000 in
theorem tells_all {v0 v1 v2 v3 v4 v5 v6 : Value} {d0 d1 d2 d3 d4 d5 d6 : DataW H} {p0 p1 p2 p3 p4 p5 p6 : List MemPlace} {b0 b1 b2 b3 b4 b5 b6 : Nat} (W : World)
    (k0 : Value.okWide Tryz.prog W .any b0 30 v0) (h0 : DataW.Trod enc Tryz.prog W 0 (fun _ => true) true 30 v0 d0 p0) (k1 : Value.okWide Tryz.prog W .any b1 37 v1) (h1 : DataW.Trod enc Tryz.prog W 0 (fun _ => true) true 37 v1 d1 p1)
    (k2 : Value.okWide Tryz.prog W .any b2 4 v2) (h2 : DataW.Trod enc Tryz.prog W 0 (fun _ => true) true 4 v2 d2 p2) (k3 : Value.okWide Tryz.prog W .any b3 5 v3) (h3 : DataW.Trod enc Tryz.prog W 0 (fun _ => true) true 5 v3 d3 p3)
    (k4 : Value.okWide Tryz.prog W .any b4 5 v4) (h4 : DataW.Trod enc Tryz.prog W 0 (fun _ => true) true 5 v4 d4 p4) (k5 : Value.okWide Tryz.prog W .any b5 38 v5) (h5 : DataW.Trod enc Tryz.prog W 0 (fun _ => true) true 38 v5 d5 p5)
    (k6 : Value.okWide Tryz.prog W .any b6 28 v6) (h6 : DataW.Trod enc Tryz.prog W 0 (fun _ => true) true 28 v6 d6 p6) (hT : Tabs W) (hTp : Tp W) :
    Calls Tryz.prog 3 #[v0, v1, v2, v3, v4, v5, v6] W fun e w' => e = .returned (.bool true) ∧ Below W.heap.size W w' := by
  obtain ⟨TP, TL, tpc, TN, TR, tnc, TA, TC, tac, own1, PA, PL, pc, NA, NL, nc, AA, AL, ac, rfl, hG, hTT, htc⟩ := open_grid2 k0 h0
  obtain ⟨PI, QL, pic, PC, PK, pcc, pg, own2, LA, L, lc, g, rfl, hC⟩ := open_code k1 h1
  obtain ⟨own, rfl, _, _⟩ := open_bool Tryz.underlying4 k2 h2
  obtain ⟨how, rfl, _, _, wh⟩ := open_int Tryz.underlying5 k3 h3
  obtain ⟨at_, rfl, _, _, wa⟩ := open_int Tryz.underlying5 k4 h4
  obtain ⟨wd, rfl, _, _, ww⟩ := open_int Tryz.underlying38 k5 h5
  obtain ⟨XA, X, xc, rfl, hX, x1, x2⟩ := open_u8s k6 h6
  exact tells_w TP TL tpc TN TR tnc TA TC tac own1 PA PL pc NA NL nc AA AL ac PI PC LA QL PK pic pcc lc pg own2 L g own how at_ wd XA X xc W hG hTT htc hC.p hC.g0 hC.g1 hC.l hC.ll hC.lb (wf_u8b wh) (wf_u8b wa) (u32_b ww) hX x1 x2 hT hTp
end Go.Proofs.YtgppobaoclfgcaaGreatDoor
