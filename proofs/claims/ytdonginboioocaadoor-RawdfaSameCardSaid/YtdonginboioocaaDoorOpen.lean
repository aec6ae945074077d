/- Arguments opened: a grid, numbers. Conditions: what each lemma says. -/
import Derived.Test.YtdonginboioocaaDoorWalksH
import Derived.Deep.Grids
import Derived.Deep.Slices
import Derived.ChangeSlices
import Derived.ChangeSame
import Derived.WideShapes
import Derived.OpenShut
set_option linter.unusedVariables false
namespace Go.Proofs.YtdonginboioocaaDoor
open Go.ChangeShapes Go.WideShapes Go.RowKit Go.Lib Go.Deep
section
variable {H : Type} {enc : TypeId × Value → H} {P : Program} {w : World} {base : Nat} {held : Bool}
theorem sl_of_cells {a : Addr} {xs : List Value} (h : ∀ i u, xs[i]? = some u → w.cell? (a.add i) = some u) : Sl w (some a) xs := fun hn => by
  obtain ⟨b, off, spot⟩ := a
  have hc := h 0 xs[0] (List.getElem?_eq_getElem hn)
  have hspot : spot = none := by simpa [Addr.add] using World.cell?_spot hc
  subst hspot
  have hadd : ∀ i, (⟨b, off, none⟩ : Addr).add i = ⟨b, off + i, none⟩ := fun i => by unfold Addr.add; split <;> simp_all
  refine ⟨b, off, rfl, ?_, fun i u hu => by rw [← hadd]; exact h i u hu⟩
  have := block_lt_of_cell hc
  simpa [Addr.add] using this
theorem sl_of_ints {t e : TypeId} {k : IntKind} {fuel : Nat} {cs : List Value} {x : DataW H × List MemPlace} (ht : P.underlying t = some (.slice e)) (he : P.underlying e = some (.int k)) (hc : P.cellsOf e = 1)
    (h : DataW.trod enc P w base (fun _ => true) held fuel t cs = some x) :
    ∃ (A : Option Addr) (L : List Int) (c : Nat), cs = [.slice A L.length c] ∧ Sl w A (L.map (Value.int k)) ∧ L.length ≤ c ∧ c ≤ maxLen ∧ ∀ n ∈ L, (Lit.int k n).wf = true := by
  rcases open_ints ht he hc h with ⟨rfl, _⟩ | ⟨a, l, c, zs, rfl, _, hl, hm, hz, _, hcell, hwz⟩
  · exact ⟨none, [], 0, rfl, Sl.nil _ _, Nat.le_refl _, Nat.zero_le _, fun n hn => absurd hn (by simp)⟩
  · simp only [if_true] at hz
    have hlen : (zs.take l).length = l := by rw [List.length_take]; omega
    refine ⟨some a, zs.take l, c, by rw [hlen], sl_of_cells fun i u hu => ?_, by omega, hm, fun n hn => hwz n (List.mem_of_mem_take hn)⟩
    obtain ⟨z, hz1, rfl⟩ : ∃ z, (zs.take l)[i]? = some z ∧ u = .int k z := by
      rw [List.getElem?_map] at hu
      cases hzz : (zs.take l)[i]? with
      | none => rw [hzz] at hu; cases hu
      | some z => rw [hzz] at hu; exact ⟨z, rfl, by simpa using hu.symm⟩
    have hi : i < (zs.take l).length := (List.getElem?_eq_some_iff.1 hz1).1
    rw [hcell i (by omega)]
    rw [List.getElem?_take_of_lt (by omega)] at hz1
    simp [List.getD, hz1]
theorem sl_of_bools {t e : TypeId} {fuel : Nat} {cs : List Value} {x : DataW H × List MemPlace} (ht : P.underlying t = some (.slice e)) (he : P.underlying e = some .bool) (hc : P.cellsOf e = 1)
    (h : DataW.trod enc P w base (fun _ => true) held fuel t cs = some x) :
    ∃ (A : Option Addr) (L : List Bool) (c : Nat), cs = [.slice A L.length c] ∧ Sl w A (L.map Value.bool) ∧ L.length ≤ c ∧ c ≤ maxLen := by
  rcases open_bools ht he hc h with ⟨rfl, _⟩ | ⟨a, l, c, B, rfl, _, hl, hm, _, hcell⟩
  · exact ⟨none, [], 0, rfl, Sl.nil _ _, Nat.le_refl _, Nat.zero_le _⟩
  · have hlen : ((List.range l).map B).length = l := by simp
    refine ⟨some a, (List.range l).map B, c, by rw [hlen], sl_of_cells fun i u hu => ?_, by omega, hm⟩
    have hi : i < (((List.range l).map B).map Value.bool).length := (List.getElem?_eq_some_iff.1 hu).1
    simp only [List.length_map, List.length_range] at hi
    rw [hcell i (by omega)]
    rw [List.getElem?_map, List.getElem?_map, List.getElem?_range hi] at hu
    simpa using hu
theorem sl_shape {t e : TypeId} {fuel : Nat} {cs : List Value} {x : DataW H × List MemPlace} (ht : P.underlying t = some (.slice e)) (h : DataW.trod enc P w base (fun _ => true) held fuel t cs = some x) : ∃ A n c, cs = [.slice A n c] := by
  rcases open_slice ht h with ⟨rfl, _⟩ | ⟨a, len, cap, m, n, D, Pl, rfl, _⟩
  · exact ⟨_, _, _, rfl⟩
  · exact ⟨_, _, _, rfl⟩
end
theorem u8_bd {L : List Int} (h : ∀ n ∈ L, (Lit.int .u8 n).wf = true) (k : Nat) (hk : k < L.length) : 0 ≤ L.getD k 0 ∧ L.getD k 0 < 256 := by
  have h1 := h _ (List.getElem_mem hk)
  rw [Plain.getD_lt _ _ _ hk]
  simp [Lit.wf, IntKind.min, IntKind.max, IntKind.bits, IntKind.signed] at h1
  omega
variable {H : Type} {enc : TypeId × Value → H} {W : World}
theorem open_u8s {base : Nat} {v : Value} {d : DataW H} {p : List MemPlace} (hv : Value.okWide Tryd.prog W .any base 28 v) (h : DataW.Trod enc Tryd.prog W 0 (fun _ => true) true 28 v d p) :
    ∃ A L c, v = .slice A L.length c ∧ Sl W A (u8s L) ∧ L.length ≤ maxLen ∧ ∀ k, k < L.length → 0 ≤ L.getD k 0 ∧ L.getD k 0 < 256 := by
  obtain ⟨a, l, c, rfl⟩ := okWide_slice Tryd.underlying28 hv
  obtain ⟨fuel, hf⟩ := h
  obtain ⟨A, L, c', hcs, hS, h1, h2, hw⟩ := sl_of_ints Tryd.underlying28 Tryd.underlying5 (by kernel_rfl) hf
  simp [Value.cells] at hcs
  obtain ⟨rfl, rfl, rfl⟩ := hcs
  exact ⟨_, L, _, rfl, hS, Nat.le_trans h1 h2, u8_bd hw⟩
theorem open_grid {base : Nat} {v : Value} {d : DataW H} {p : List MemPlace} (hv : Value.okWide Tryd.prog W .any base 30 v) (h : DataW.Trod enc Tryd.prog W 0 (fun _ => true) true 30 v d p) :
    ∃ TP tp tpc TN tn tnc TA ta tac own PA PL pc NA NL nc AA AL ac, v = .agg #[.slice TP tp tpc, .slice TN tn tnc, .slice TA ta tac, .bool own, .slice PA PL.length pc, .slice NA NL.length nc, .slice AA AL.length ac] ∧ GridAt W PA PL NA NL AA AL := by
  obtain ⟨cs, rfl, hsz⟩ := okWide_struct Tryd.underlying30 hv
  have h7 : Tryd.prog.cellsOf 30 = 7 := by kernel_rfl
  have h3 : Tryd.prog.cellsOf 27 = 3 := by kernel_rfl
  have s4 : Tryd.prog.cellsOf 4 = 1 := by kernel_rfl
  have s28 : Tryd.prog.cellsOf 28 = 1 := by kernel_rfl
  have s25 : Tryd.prog.cellsOf 25 = 1 := by kernel_rfl
  have s23 : Tryd.prog.cellsOf 23 = 1 := by kernel_rfl
  have s24 : Tryd.prog.cellsOf 24 = 1 := by kernel_rfl
  obtain ⟨l⟩ := cs
  match l, hsz.trans h7 with
  | [c0, c1, c2, c3, c4, c5, c6], _ =>
    obtain ⟨fuel, hf⟩ := h
    obtain ⟨xs, n, _, hx, _, hlen, hg⟩ := DataW.trod_struct Tryd.underlying30 hf
    match xs, hlen with
    | [y0, y1, y2, y3, y4], _ =>
      have g0 : DataW.trod enc Tryd.prog W 0 (fun _ => true) true n 27 [c0, c1, c2] = some y0 := by simpa [Value.cells, h3] using hg 0 _ rfl
      have g1 : DataW.trod enc Tryd.prog W 0 (fun _ => true) true n 4 [c3] = some y1 := by simpa [Value.cells, s4] using hg 1 _ rfl
      have g2 : DataW.trod enc Tryd.prog W 0 (fun _ => true) true n 28 [c4] = some y2 := by simpa [Value.cells, s28] using hg 2 _ rfl
      have g3 : DataW.trod enc Tryd.prog W 0 (fun _ => true) true n 28 [c5] = some y3 := by simpa [Value.cells, s28] using hg 3 _ rfl
      have g4 : DataW.trod enc Tryd.prog W 0 (fun _ => true) true n 25 [c6] = some y4 := by simpa [Value.cells, s25] using hg 4 _ rfl
      obtain ⟨ts, m, _, _, _, htl, hgt⟩ := DataW.trod_struct Tryd.underlying27 g0
      match ts, htl with
      | [z0, z1, z2], _ =>
        have t0 : DataW.trod enc Tryd.prog W 0 (fun _ => true) true m 23 [c0] = some z0 := by simpa [s23] using hgt 0 _ rfl
        have t1 : DataW.trod enc Tryd.prog W 0 (fun _ => true) true m 24 [c1] = some z1 := by simpa [s24] using hgt 1 _ rfl
        have t2 : DataW.trod enc Tryd.prog W 0 (fun _ => true) true m 25 [c2] = some z2 := by simpa [s25] using hgt 2 _ rfl
        obtain ⟨TP, tp, tpc, e0⟩ := sl_shape Tryd.underlying23 t0
        obtain ⟨TN, tn, tnc, e1⟩ := sl_shape Tryd.underlying24 t1
        obtain ⟨TA, ta, tac, e2⟩ := sl_shape Tryd.underlying25 t2
        obtain ⟨own, e3, _⟩ := DataW.trod_bool Tryd.underlying4 g1
        obtain ⟨PA, PL, pc, e4, hP, p1, p2, pw⟩ := sl_of_ints Tryd.underlying28 Tryd.underlying5 (by kernel_rfl) g2
        obtain ⟨NA, NL, nc, e5, hN, n1, n2, nw⟩ := sl_of_ints Tryd.underlying28 Tryd.underlying5 (by kernel_rfl) g3
        obtain ⟨AA, AL, ac, e6, hA, a1, a2⟩ := sl_of_bools Tryd.underlying25 Tryd.underlying4 (by kernel_rfl) g4
        injection e0 with e0
        injection e1 with e1
        injection e2 with e2
        injection e3 with e3
        injection e4 with e4
        injection e5 with e5
        injection e6 with e6
        subst e0 e1 e2 e3 e4 e5 e6
        exact ⟨TP, tp, tpc, TN, tn, tnc, TA, ta, tac, own, PA, PL, pc, NA, NL, nc, AA, AL, ac, rfl, hP, hN, hA, by omega, by omega, by omega, u8_bd pw, u8_bd nw⟩
end Go.Proofs.YtdonginboioocaaDoor
