/- Arguments opened: a table by its parts. Conditions: what each lemma says. -/
import Derived.Test.YtmiacgkidldjmaaGreatDoorOpenP
set_option linter.unusedVariables false
set_option linter.unusedSimpArgs false
namespace Go.Proofs.YtmiacgkidldjmaaGreatDoor
open Go.ChangeShapes Go.WideShapes Go.RowKit Go.Lib Go.Deep
theorem u8_bd {L : List Int} (h : ∀ n ∈ L, (Lit.int .u8 n).wf = true) (j : Nat) (hj : j < L.length) : 0 ≤ L.getD j 0 ∧ L.getD j 0 < 256 := by
  have h1 := ints_bd h j hj
  have h2 : IntKind.u8.min = 0 := by decide
  have h3 : IntKind.u8.max = 255 := by decide
  omega
section
variable {H : Type} {enc : TypeId × Value → H} {P : Program} {w : World} {base : Nat} {held : Bool}
theorem sl_of_rows {t e f : TypeId} {fuel : Nat} {cs : List Value} {x : DataW H × List MemPlace} (ht : P.underlying t = some (.slice e)) (he : P.underlying e = some (.slice f)) (hc : P.cellsOf e = 1) (hf : P.underlying f = some (.int .i64)) (hcf : P.cellsOf f = 1)
    (h : DataW.trod enc P w base (fun _ => true) held fuel t cs = some x) :
    ∃ (A : Option Addr) (R : List Row) (c : Nat), cs = [.slice A R.length c] ∧ Sl w A (R.map rowV) ∧ R.length ≤ c ∧ c ≤ maxLen ∧ ∀ r ∈ R, Sl w r.1 (i64s r.2.2) ∧ r.2.2.length ≤ maxLen := by
  rcases open_slice1 ht hc h with ⟨rfl, _⟩ | ⟨a, l, c, m, n, V, D, Pl, rfl, _, hl, hm, hmm, _, hx⟩
  · exact ⟨none, [], 0, rfl, Sl.nil _ _, Nat.le_refl _, Nat.zero_le _, fun r hr => absurd hr (by simp)⟩
  · simp only [if_true] at hmm
    subst hmm
    have hall : ∀ i, ∃ r : Row, i < l → V i = rowV r ∧ Sl w r.1 (i64s r.2.2) ∧ r.2.2.length ≤ maxLen := fun i => by
      by_cases hi : i < l
      · obtain ⟨A, L, c', hcs, hS, h1, h2, _⟩ := sl_of_ints he hf hcf (hx i (by omega)).2
        injection hcs with hcs
        exact ⟨(A, c', L), fun _ => ⟨hcs, hS, Nat.le_trans h1 h2⟩⟩
      · exact ⟨(none, 0, []), fun h => absurd h hi⟩
    obtain ⟨f', hf'⟩ := Classical.axiomOfChoice hall
    have hlen : ((List.range l).map f').length = l := by simp
    refine ⟨some a, (List.range l).map f', m, by rw [hlen], sl_of_cells fun i u hu => ?_, by omega, hm, fun r hr => ?_⟩
    · have hi : i < (((List.range l).map f').map rowV).length := (List.getElem?_eq_some_iff.1 hu).1
      simp only [List.length_map, List.length_range] at hi
      rw [(hx i (by omega)).1, (hf' i hi).1]
      rw [List.getElem?_map, List.getElem?_map, List.getElem?_range hi] at hu
      simpa using hu
    · obtain ⟨i, hi, rfl⟩ := List.mem_map.1 hr
      exact (hf' i (List.mem_range.1 hi)).2
end
variable {H : Type} {enc : TypeId × Value → H} {W : World}
set_option maxRecDepth 100000 in
theorem open_grid2 {base : Nat} {v : Value} {d : DataW H} {p : List MemPlace} (hv : Value.okWide Tryz.prog W .any base 37 v) (h : DataW.Trod enc Tryz.prog W 0 (fun _ => true) true 37 v d p) :
    ∃ TP TL tpc TN TR tnc TA TC tac own PA PL pc NA NL nc AA AL ac, v = .agg #[.slice TP TL.length tpc, .slice TN TR.length tnc, .slice TA TC.length tac, .bool own, .slice PA PL.length pc, .slice NA NL.length nc, .slice AA AL.length ac] ∧ GridAt W PA PL NA NL AA AL ∧ TabAt W TP TL TN TR TA TC ∧ TL.length ≤ tpc := by
  obtain ⟨cs, rfl, hsz⟩ := okWide_struct Tryz.underlying37 hv
  have h7 : Tryz.prog.cellsOf 37 = 7 := by kernel_rfl
  have h3 : Tryz.prog.cellsOf 34 = 3 := by kernel_rfl
  have s4 : Tryz.prog.cellsOf 4 = 1 := by kernel_rfl
  have s28 : Tryz.prog.cellsOf 35 = 1 := by kernel_rfl
  have s25 : Tryz.prog.cellsOf 32 = 1 := by kernel_rfl
  have s23 : Tryz.prog.cellsOf 30 = 1 := by kernel_rfl
  have s24 : Tryz.prog.cellsOf 31 = 1 := by kernel_rfl
  obtain ⟨l⟩ := cs
  match l, hsz.trans h7 with
  | [c0, c1, c2, c3, c4, c5, c6], _ =>
    obtain ⟨fuel, hf⟩ := h
    obtain ⟨xs, n, _, hx, _, hlen, hg⟩ := DataW.trod_struct Tryz.underlying37 hf
    match xs, hlen with
    | [y0, y1, y2, y3, y4], _ =>
      have g0 : DataW.trod enc Tryz.prog W 0 (fun _ => true) true n 34 [c0, c1, c2] = some y0 := by simpa [Value.cells, h3] using hg 0 _ rfl
      have g1 : DataW.trod enc Tryz.prog W 0 (fun _ => true) true n 4 [c3] = some y1 := by simpa [Value.cells, s4] using hg 1 _ rfl
      have g2 : DataW.trod enc Tryz.prog W 0 (fun _ => true) true n 35 [c4] = some y2 := by simpa [Value.cells, s28] using hg 2 _ rfl
      have g3 : DataW.trod enc Tryz.prog W 0 (fun _ => true) true n 35 [c5] = some y3 := by simpa [Value.cells, s28] using hg 3 _ rfl
      have g4 : DataW.trod enc Tryz.prog W 0 (fun _ => true) true n 32 [c6] = some y4 := by simpa [Value.cells, s25] using hg 4 _ rfl
      obtain ⟨ts, m, _, _, _, htl, hgt⟩ := DataW.trod_struct Tryz.underlying34 g0
      match ts, htl with
      | [z0, z1, z2], _ =>
        have t0 : DataW.trod enc Tryz.prog W 0 (fun _ => true) true m 30 [c0] = some z0 := by simpa [s23] using hgt 0 _ rfl
        have t1 : DataW.trod enc Tryz.prog W 0 (fun _ => true) true m 31 [c1] = some z1 := by simpa [s24] using hgt 1 _ rfl
        have t2 : DataW.trod enc Tryz.prog W 0 (fun _ => true) true m 32 [c2] = some z2 := by simpa [s25] using hgt 2 _ rfl
        obtain ⟨TP, TL, tpc, e0, hT0, u1, u2, _⟩ := sl_of_ints Tryz.underlying30 Tryz.underlying21 (by kernel_rfl) t0
        obtain ⟨TN, TR, tnc, e1, hT1, u3, u4, hTR⟩ := sl_of_rows Tryz.underlying31 Tryz.underlying60 (by kernel_rfl) Tryz.underlying3 (by kernel_rfl) t1
        obtain ⟨TA, TC, tac, e2, hT2, u5, u6⟩ := sl_of_bools Tryz.underlying32 Tryz.underlying4 (by kernel_rfl) t2
        obtain ⟨own, e3, _⟩ := DataW.trod_bool Tryz.underlying4 g1
        obtain ⟨PA, PL, pc, e4, hP, p1, p2, pw⟩ := sl_of_ints Tryz.underlying35 Tryz.underlying5 (by kernel_rfl) g2
        obtain ⟨NA, NL, nc, e5, hN, n1, n2, nw⟩ := sl_of_ints Tryz.underlying35 Tryz.underlying5 (by kernel_rfl) g3
        obtain ⟨AA, AL, ac, e6, hA, a1, a2⟩ := sl_of_bools Tryz.underlying32 Tryz.underlying4 (by kernel_rfl) g4
        injection e0 with e0
        injection e1 with e1
        injection e2 with e2
        injection e3 with e3
        injection e4 with e4
        injection e5 with e5
        injection e6 with e6
        subst e0 e1 e2 e3 e4 e5 e6
        exact ⟨TP, TL, tpc, TN, TR, tnc, TA, TC, tac, own, PA, PL, pc, NA, NL, nc, AA, AL, ac, rfl, ⟨hP, hN, hA, by omega, by omega, by omega, u8_bd pw, u8_bd nw⟩, ⟨hT0, hT1, hTR, hT2, by omega, by omega, by omega⟩, u1⟩
end Go.Proofs.YtmiacgkidldjmaaGreatDoor
