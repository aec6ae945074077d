/- Chapter 4: the laws' arguments opened; the table's cell. Conditions: what each lemma says. -/
import Derived.Test.YtkkgdnmloojloaaDoorClassI
import Derived.Test.YtkkgdnmloojloaaDoorRows
import Derived.Deep.Slices
import Derived.Stop.LaidErr
import Derived.MakeChecks
import Derived.Lib.LaidTab
import Derived.Lib.TrailingZeros
set_option linter.unusedVariables false
set_option linter.unusedSimpArgs false
namespace Go.Proofs.YtkkgdnmloojloaaDoor
open Go.ChangeShapes Go.WideShapes Go.Deep Go.RowKit
open Plain (Rn)
theorem wf_i32 {n : Int} (h : (Lit.int .i32 n).wf = true) : -2147483648 ≤ n ∧ n < 2147483648 := by
  simp [Lit.wf] at h
  have h1 : IntKind.i32.min = -2147483648 := by decide
  have h2 : IntKind.i32.max = 2147483647 := by decide
  omega
theorem wf_u32 {n : Int} (h : (Lit.int .u32 n).wf = true) : ∃ k : Nat, n = k ∧ k < 4294967296 := by
  simp [Lit.wf] at h
  have h1 : IntKind.u32.min = 0 := by decide
  have h2 : IntKind.u32.max = 4294967295 := by decide
  exact ⟨n.toNat, by omega, by omega⟩
section
variable {H : Type} {enc : TypeId × Value → H} {W : World}
set_option maxRecDepth 100000 in
theorem open_runs {base : Nat} {v : Value} {d : DataW H} {p : List MemPlace} (hv : Value.okWide Tryd.prog W .any base 58 v) (h : DataW.Trod enc Tryd.prog W 0 (fun _ => true) true 58 v d p) :
    ∃ A X c, v = .slice A X.length c ∧ Rns W A X ∧ X.length ≤ maxLen ∧ ∀ x ∈ X, RnOk x := by
  obtain ⟨a, l, c, rfl⟩ := okWide_slice Tryd.underlying58 hv
  obtain ⟨fuel, hf⟩ := h
  have h5 : Tryd.prog.cellsOf 89 = 5 := by kernel_rfl
  have h2 : Tryd.prog.cellsOf 82 = 2 := by kernel_rfl
  have s4 : Tryd.prog.cellsOf 4 = 1 := by kernel_rfl
  have s5 : Tryd.prog.cellsOf 5 = 1 := by kernel_rfl
  have s21 : Tryd.prog.cellsOf 21 = 1 := by kernel_rfl
  rcases open_slice Tryd.underlying58 hf with ⟨hcs, _⟩ | ⟨a', len, cap, m, n, D, Pl, hcs, _, hl, hm, hmm, _, hi⟩
  · simp [Value.cells] at hcs
    obtain ⟨rfl, rfl, rfl⟩ := hcs
    exact ⟨none, [], 0, rfl, fun h => absurd h (by simp), Nat.zero_le _, fun x hx => by cases hx⟩
  · simp [Value.cells] at hcs
    obtain ⟨rfl, rfl, rfl⟩ := hcs
    simp only [if_true] at hmm
    subst hmm
    have hx : ∀ i, i < l → ∃ x : Rn, RnOk x ∧ ∀ j u, (rnc x)[j]? = some u → W.cell? (a'.add (i * 5 + j)) = some u := by
      intro i hil
      obtain ⟨cs', hc, ht⟩ := hi i (by omega)
      rw [h5] at hc
      obtain ⟨_, hcl, hat⟩ := World.cells?_some hc
      match cs', hcl with
      | [c0, c1, c2, c3, c4], _ =>
        obtain ⟨ys, n', _, _, _, hlen, hg⟩ := DataW.trod_struct Tryd.underlying89 ht
        match ys, hlen with
        | [y0, y1, y2, y3], _ =>
          have g0 : DataW.trod enc Tryd.prog W 0 (fun _ => true) true n' 82 [c0, c1] = some y0 := by simpa [h2] using hg 0 _ rfl
          have g1 : DataW.trod enc Tryd.prog W 0 (fun _ => true) true n' 4 [c2] = some y1 := by simpa [s4] using hg 1 _ rfl
          have g2 : DataW.trod enc Tryd.prog W 0 (fun _ => true) true n' 5 [c3] = some y2 := by simpa [s5] using hg 2 _ rfl
          have g3 : DataW.trod enc Tryd.prog W 0 (fun _ => true) true n' 5 [c4] = some y3 := by simpa [s5] using hg 3 _ rfl
          obtain ⟨zs, m', _, _, _, hzl, hgz⟩ := DataW.trod_struct Tryd.underlying82 g0
          match zs, hzl with
          | [z0, z1], _ =>
            have k0 : DataW.trod enc Tryd.prog W 0 (fun _ => true) true m' 21 [c0] = some z0 := by simpa [s21] using hgz 0 _ rfl
            have k1 : DataW.trod enc Tryd.prog W 0 (fun _ => true) true m' 21 [c1] = some z1 := by simpa [s21] using hgz 1 _ rfl
            obtain ⟨lo, hlo, _, wlo⟩ := DataW.trod_int Tryd.underlying21 k0
            obtain ⟨hi', hhi, _, whi⟩ := DataW.trod_int Tryd.underlying21 k1
            obtain ⟨ow, how, _⟩ := DataW.trod_bool Tryd.underlying4 g1
            obtain ⟨ll, hll, _, wll⟩ := DataW.trod_int Tryd.underlying5 g2
            obtain ⟨nn, hnn, _, wnn⟩ := DataW.trod_int Tryd.underlying5 g3
            simp only [List.cons.injEq, and_true] at hlo hhi how hll hnn
            subst hlo hhi how hll hnn
            have b0 := wf_i32 wlo
            have b1 := wf_i32 whi
            obtain ⟨k2, rfl, b2⟩ := wf_u8 wll
            obtain ⟨k3, rfl, b3⟩ := wf_u8 wnn
            refine ⟨⟨lo, hi', ow, k2, k3⟩, ⟨b0.1, b0.2, b1.1, b1.2, by simp, by simp; omega, by simp, by simp; omega⟩, fun j u hu => ?_⟩
            have hj : j < 5 := (List.getElem?_eq_some_iff.1 hu).1
            have hq := hat j hj
            rw [Go.Deep.add_add] at hq
            rw [hq]
            exact hu
    have hch : ∃ L : List Rn, L.length = l ∧ ∀ i x, L[i]? = some x → RnOk x ∧ ∀ j u, (rnc x)[j]? = some u → W.cell? (a'.add (i * 5 + j)) = some u := by
      refine ⟨(List.range l).map fun i => if hil : i < l then (hx i hil).choose else ⟨0, 0, false, 0, 0⟩, by simp, fun i x hix => ?_⟩
      rw [List.getElem?_map] at hix
      by_cases hil : i < l
      · rw [List.getElem?_range hil] at hix
        simp only [Option.map_some, dif_pos hil, Option.some.injEq] at hix
        subst hix
        exact (hx i hil).choose_spec
      · rw [List.getElem?_eq_none (by simpa using hil)] at hix; simp at hix
    obtain ⟨L, rfl, hL⟩ := hch
    refine ⟨some a', L, _, rfl, fun hn => ?_, by omega, fun x hxm => ?_⟩
    · obtain ⟨b, off, spot⟩ := a'
      have hc := (hL 0 _ (List.getElem?_eq_getElem hn)).2 0 _ rfl
      have hspot : spot = none := by simpa [Addr.add] using World.cell?_spot hc
      subst hspot
      have hadd : ∀ i, (⟨b, off, none⟩ : Addr).add i = ⟨b, off + i, none⟩ := fun i => by unfold Addr.add; split <;> simp_all
      refine ⟨b, off, rfl, ?_, fun i x hix j u hu => ?_⟩
      · have := block_lt_of_cell hc
        simpa [Addr.add] using this
      · have := (hL i x hix).2 j u hu
        rw [hadd] at this
        rw [Nat.add_assoc]
        exact this
    · obtain ⟨i, hi, rfl⟩ := List.getElem_of_mem hxm
      exact (hL i _ (List.getElem?_eq_getElem hi)).1
end
/-- the table's cell, from the row's condition -/
theorem Tz_of {W : World} (h : laidMetH Tryd.prog [("math/bits.deBruijn32tab", Rows.laid_math_bits_deBruijn32tab), ("math/bits.deBruijn64tab", Rows.laid_math_bits_deBruijn64tab), ("internal/strconv.uint64pow10", Rows.laid_internal_strconv_uint64pow10)] W) : Tz W := by
  rw [MakeChecks.laidMetH_plain _ _ _ (by kernel_rfl)] at h
  have h2 := laidMet.tail h
  have ht := Lib.tabIs_of_head (P := Tryd.prog) (W := W) (name := "math/bits.deBruijn64tab") (k := .u8) (zs := Lib.deBruijn64tab.map fun (n : Nat) => (n : Int)) (rest := [("internal/strconv.uint64pow10", Rows.laid_internal_strconv_uint64pow10)]) (g := 5) (t := 174) (e := 5) (n := 64)
    (by kernel_rfl) (by kernel_rfl) (by kernel_rfl) Tryd.underlying5 (by kernel_rfl) (by kernel_rfl) h2
  exact Lib.TabIs.cell ht (by kernel_rfl) 15 (by decide)
end Go.Proofs.YtkkgdnmloojloaaDoor
