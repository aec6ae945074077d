/- VaryPads' walk for every input: zeros made, deeds that came in, a reader with an error. Conditions: none but the slice's reach. -/
import Derived.Test.YtkkgdnmloojloaaDoorLongW
import Derived.Deep.RegionHeld3
import Derived.BigQuiet
import Derived.Deep.QuietTactic
import Derived.ChangeSame
import Derived.Deep.Fields
import Derived.Deep.Slices
set_option linter.unusedVariables false
set_option linter.unusedSimpArgs false
namespace Go.Proofs.YtkkgdnmloojloaaDoor
open Go.RowKit Go.Lib
theorem zeros_run (w : World) (n : Nat) (hn : n ≤ 1000) : ∃ w', (Instr.makeSlice 53 (.int .i64 (n : Int)) (.int .i64 (n : Int))).run Tryd.prog w = .ok (.slice (some ⟨w.heap.size, 0, none⟩) n n) w' ∧
    (convert 53 9 (.slice (some ⟨w.heap.size, 0, none⟩) n n)).run Tryd.prog w' = .ok (.string (str (List.replicate n 0))) w' ∧ Below w.heap.size w w' := by
  obtain ⟨i8, hi8, y0, y1, y2⟩ := info_parts info5
  obtain ⟨w', h1, h2, h3⟩ := run_make_full (P := Tryd.prog) w w.heap.size 53 5 i8 _ 1 Tryd.underlying53 hi8 y0 y1 .i64 .i64 n (by rw [y2]; omega) (by unfold maxLen; omega) (Nat.le_refl _)
  rw [show (Value.int IntKind.u8 0).cells = #[.int .u8 0] from rfl, toList_madeCells_one, Nat.mul_one, show List.replicate n (Value.int .u8 0) = u8s (nb (List.replicate n 0)) by unfold u8s nb; simp] at h2
  have h4 := conv_bytes h2
  rw [bstr_nb] at h4
  exact ⟨w', h1, h4, (Below.refl _ _).grown h3 (Nat.le_refl _) (fun k hk => by cases hk)⟩
/-- deeds that came in -/
def Sl2 (w : World) (A : Option Addr) (D : List (Int × Int)) : Prop :=
  0 < D.length → ∃ b off, A = some ⟨b, off, none⟩ ∧ b < w.heap.size ∧ ∀ i k x, D[i]? = some (k, x) → w.cell? ⟨b, off + i * 2, none⟩ = some (.int .u8 k) ∧ w.cell? ⟨b, off + i * 2 + 1, none⟩ = some (.int .i64 x) ∧ 0 ≤ k ∧ k < 256 ∧ -9223372036854775808 ≤ x ∧ x ≤ 9223372036854775807
theorem Sl2.below {w w' : World} {A : Option Addr} {D : List (Int × Int)} (h : Sl2 w A D) (hb : Below w.heap.size w w') : Sl2 w' A D := fun hn => by
  obtain ⟨b, off, e, hl, hc⟩ := h hn
  exact ⟨b, off, e, Nat.lt_of_lt_of_le hl hb.size, fun i k x hi => ⟨(hb.cell (p := ⟨b, off + i * 2, none⟩) hl).trans (hc i k x hi).1, (hb.cell (p := ⟨b, off + i * 2 + 1, none⟩) hl).trans (hc i k x hi).2.1, (hc i k x hi).2.2⟩⟩
def PadRel (W : World) (g n q : Nat) (i : Value) (wr : World) : Prop := ∃ (k : Nat) (r : ByteArray), i = .int .i64 k ∧ k ≤ n ∧ k ≤ 6 ∧ r.size ≤ 3 ∧ Below W.heap.size W wr ∧ wr.heap[g]? = some (.cells #[.string r, .int .i64 q] 24 (0, 0))
end Go.Proofs.YtkkgdnmloojloaaDoor
namespace Go.Proofs.YtkkgdnmloojloaaDoor
open Go.ChangeShapes Go.WideShapes Go.Deep Go.RowKit
section
variable {H : Type} {enc : TypeId × Value → H} {P : Program} {w : World} {base : Nat} {spare : Nat → Bool} {held : Bool}
theorem open_slice_fields {t e : TypeId} {fs : Array Field} {fuel : Nat} {cs : List Value} {x : DataW H × List MemPlace} (ht : P.underlying t = some (.slice e)) (he : P.underlying e = some (.struct fs))
    (hone : oneCellFields P fs = true) (hC : P.cellsOf e = fs.size) (h : DataW.trod enc P w base spare held fuel t cs = some x) :
    (cs = [.slice none 0 0] ∧ x = (.nil, [])) ∨
    ∃ (a : Addr) (len cap m : Nat) (D : Nat → DataW H) (Pl : Nat → List MemPlace), cs = [.slice (some a) len cap] ∧ base ≤ a.block ∧ len ≤ cap ∧ cap ≤ maxLen ∧ m = (if spare a.block then cap else len) ∧
      x = (.slice ((List.range len).map D) ((List.range (m - len)).map fun j => D (len + j)), MemPlace.row a (m * fs.size) ++ (List.range m).flatMap Pl) ∧
      ∀ i, i < m → ∃ (ys : List (DataW H × List MemPlace)) (n : Nat), D i = .agg (ys.map (·.1)) ∧ Pl i = ys.flatMap (·.2) ∧ ys.length = fs.size ∧
        ∀ (j : Nat) (f : Field), fs[j]? = some f → ∃ (v : Value) (y : DataW H × List MemPlace), w.cell? (a.add (i * fs.size + j)) = some v ∧ ys[j]? = some y ∧ DataW.trod enc P w base spare held n f.type [v] = some y := by
  rcases open_slice ht h with h0 | ⟨a, len, cap, m, n, D, Pl, hcs, hb, hl, hm, hmm, hx, hi⟩
  · exact .inl h0
  · refine .inr ⟨a, len, cap, m, D, Pl, hcs, hb, hl, hm, hmm, by rw [hC] at hx; exact hx, fun i him => ?_⟩
    obtain ⟨cs', hc, ht'⟩ := hi i him
    rw [hC] at hc
    obtain ⟨ys, n', hn', hy, hlen, hyl, hf⟩ := DataW.trod_struct he ht'
    obtain ⟨_, hcl, hat⟩ := World.cells?_some hc
    simp only [Prod.mk.injEq] at hy
    refine ⟨ys, n', hy.1, hy.2, hyl, fun j f hj => ?_⟩
    obtain ⟨ho, hk⟩ := hone_of hone j f hj
    have hjl : j < fs.size := (Array.getElem?_eq_some_iff.1 hj).1
    have hcell := hat j hjl
    have hv : cs'[j]? = some (cs'[j]'(by omega)) := List.getElem?_eq_getElem (by omega)
    have h1 := hf j f hj
    rw [ho, hk] at h1
    have hone' : (cs'.drop j).take 1 = [cs'[j]'(by omega)] := by
      rw [List.drop_eq_getElem_cons (by omega)]
      rfl
    rw [hone'] at h1
    have hys : ys[j]? = some (ys[j]'(by omega)) := List.getElem?_eq_getElem (by omega)
    refine ⟨_, _, ?_, hys, h1.trans hys⟩
    rw [← Go.Deep.add_add, hcell, hv]
end

section
variable {H : Type} {enc : TypeId × Value → H} {W : World}
set_option maxRecDepth 100000 in
theorem open_deeds {base : Nat} {v : Value} {d : DataW H} {p : List MemPlace} (hv : Value.okWide Tryd.prog W .any base 25 v) (h : DataW.Trod enc Tryd.prog W 0 (fun _ => true) true 25 v d p) :
    ∃ A D c, v = .slice A D.length c ∧ Sl2 W A D ∧ D.length ≤ maxLen := by
  obtain ⟨a, l, c, rfl⟩ := okWide_slice Tryd.underlying25 hv
  obtain ⟨fuel, hf⟩ := h
  rcases open_slice_fields Tryd.underlying25 Tryd.underlying34 (by kernel_rfl) (by kernel_rfl) hf with ⟨hcs, _⟩ | ⟨a', len, cap, m, D, Pl, hcs, _, hl, hm, hmm, _, hi⟩
  · simp [Value.cells] at hcs
    obtain ⟨rfl, rfl, rfl⟩ := hcs
    exact ⟨none, [], 0, rfl, fun h => absurd h (by simp), Nat.zero_le _⟩
  · simp [Value.cells] at hcs
    obtain ⟨rfl, rfl, rfl⟩ := hcs
    simp only [if_true] at hmm
    subst hmm
    have hx : ∀ i, i < l → ∃ k x : Int, W.cell? (a'.add (i * 2)) = some (.int .u8 k) ∧ W.cell? (a'.add (i * 2 + 1)) = some (.int .i64 x) ∧ 0 ≤ k ∧ k < 256 ∧ -9223372036854775808 ≤ x ∧ x ≤ 9223372036854775807 := by
      intro i hil
      obtain ⟨ys, n, _, _, _, hfl⟩ := hi i (by omega)
      obtain ⟨v0, y0, hc0, _, ht0⟩ := hfl 0 _ rfl
      obtain ⟨v1, y1, hc1, _, ht1⟩ := hfl 1 _ rfl
      obtain ⟨k, hk, _, wk⟩ := DataW.trod_int Tryd.underlying5 ht0
      obtain ⟨x, hx, _, wx⟩ := DataW.trod_int Tryd.underlying3 ht1
      simp only [List.cons.injEq, and_true] at hk hx
      subst hk hx
      have b1 := wf_i64 wx
      obtain ⟨k', rfl, b2⟩ := wf_u8 wk
      exact ⟨_, _, hc0, hc1, by omega, by omega, b1.1, b1.2⟩
    have hch : ∃ L : List (Int × Int), L.length = l ∧ ∀ i k x, L[i]? = some (k, x) → W.cell? (a'.add (i * 2)) = some (.int .u8 k) ∧ W.cell? (a'.add (i * 2 + 1)) = some (.int .i64 x) ∧ 0 ≤ k ∧ k < 256 ∧ -9223372036854775808 ≤ x ∧ x ≤ 9223372036854775807 := by
      refine ⟨(List.range l).map fun i => if hil : i < l then ((hx i hil).choose, (hx i hil).choose_spec.choose) else (0, 0), by simp, fun i k x hik => ?_⟩
      rw [List.getElem?_map] at hik
      by_cases hil : i < l
      · rw [List.getElem?_range hil] at hik
        simp only [Option.map_some, dif_pos hil, Option.some.injEq, Prod.mk.injEq] at hik
        obtain ⟨rfl, rfl⟩ := hik
        exact (hx i hil).choose_spec.choose_spec
      · rw [List.getElem?_eq_none (by simpa using hil)] at hik; simp at hik
    obtain ⟨L, rfl, hL⟩ := hch
    refine ⟨some a', L, _, rfl, fun hn => ?_, by omega⟩
    obtain ⟨b, off, spot⟩ := a'
    have hc := (hL 0 _ _ (List.getElem?_eq_getElem hn)).1
    have hspot : spot = none := by simpa [Addr.add] using World.cell?_spot hc
    subst hspot
    have hadd : ∀ i, (⟨b, off, none⟩ : Addr).add i = ⟨b, off + i, none⟩ := fun i => by unfold Addr.add; split <;> simp_all
    refine ⟨b, off, rfl, ?_, fun i k x hik => ?_⟩
    · have := block_lt_of_cell hc
      simpa [Addr.add] using this
    · have := hL i k x hik
      rw [hadd, hadd] at this
      rw [Nat.add_assoc]
      exact this
end
end Go.Proofs.YtkkgdnmloojloaaDoor
namespace Go.Proofs.YtkkgdnmloojloaaDoor
open Go.RowKit Go.Lib
set_option maxRecDepth 1000000 in
set_option maxHeartbeats 8000000 in
theorem pads_walk_n (m b e n n1 em q : Nat) (z za zb : ByteArray) (A : Option Addr) (D : List (Int × Int)) (dc : Nat) (W : World) (hm : m < 256) (hb : b < 256) (he : e < 256) (hbz : 0 < b) (hn : (m : Int) % 20 = (n : Int)) (hn20 : n < 20) (hn1 : (n : Int) + 1 = (n1 : Int)) (hn120 : n1 ≤ 20)
    (hz : z.size = n) (hzl : str (List.replicate n 0) = z) (hza : z ++ ⟨#[120]⟩ = za) (hzb : z ++ bstr [(b : Int)] = zb) (hb1 : (bstr [(b : Int)]).size = 1) (hem : (e : Int) % 14 = (em : Int)) (hem14 : em < 14) (hq : (1 : Int) + (em : Int) = (q : Int)) (hq1 : q ≤ 14) (hq0 : 0 < q)
    (hD : Sl2 W A D) (hDl : D.length ≤ maxLen)
    (cA : ∀ w, Calls Tryd.prog 26 #[.agg #[.string za, .int .i64 0], .int .i64 n] w fun e w' => e = .returned (.agg #[.string ⟨#[120]⟩, .int .i64 0]) ∧ Below w.heap.size w w')
    (cB : ∀ w, Calls Tryd.prog 26 #[.agg #[.string zb, .int .i64 0], .int .i64 n1] w fun e w' => e = .returned (.agg #[.string ⟨#[]⟩, .int .i64 9]) ∧ Below w.heap.size w w')
    (cC : ∀ w, Calls Tryd.prog 26 #[.agg #[.string z, .int .i64 0], .int .i64 n1] w fun e w' => e = .returned (.agg #[.string ⟨#[]⟩, .int .i64 4]) ∧ Below w.heap.size w w')
    (cN : ∀ r : ByteArray, r.size ≤ 3 → ∀ w, Calls Tryd.prog 20 #[.agg #[.string r, .int .i64 q]] w fun e w' => e = .returned (.tuple #[.int .u64 0, .agg #[.string ⟨#[]⟩, .int .i64 q]]) ∧ Below w.heap.size w w')
    (cT : ∀ r : ByteArray, r.size ≤ 3 → ∀ w, Calls Tryd.prog 22 #[.agg #[.string r, .int .i64 q], .int .u64 9] w fun e w' => e = .returned (.tuple #[.string ⟨#[]⟩, .agg #[.string ⟨#[]⟩, .int .i64 q]]) ∧ Below w.heap.size w w')
    (cY : ∀ r : ByteArray, r.size ≤ 3 → ∀ (m : Int) w, Calls Tryd.prog 24 #[.agg #[.string r, .int .i64 q], .int .i64 m] w fun e w' => e = .returned (.tuple #[.string ⟨#[]⟩, .agg #[.string ⟨#[]⟩, .int .i64 q]]) ∧ Below w.heap.size w w')
    (cP : ∀ r : ByteArray, r.size ≤ 3 → ∀ (m : Int) w, Calls Tryd.prog 26 #[.agg #[.string r, .int .i64 q], .int .i64 m] w fun e w' => e = .returned (.agg #[.string ⟨#[]⟩, .int .i64 q]) ∧ Below w.heap.size w w')
    (cE : ∀ w, Calls Tryd.prog 28 #[.agg #[.string ⟨#[]⟩, .int .i64 q]] w fun e w' => e = .returned (.int .i64 q) ∧ Below w.heap.size w w') :
    Calls Tryd.prog 7 #[.int .u8 m, .int .u8 b, .int .u8 e, .slice A D.length dc] W fun e w' => e = .returned (.bool true) ∧ Below W.heap.size W w' := by
  have CcA := Lib.hid cA
  have CcB := Lib.hid cB
  have CcC := Lib.hid cC
  have CcN := Lib.hid cN
  have CcT := Lib.hid cT
  have CcY := Lib.hid cY
  have CcP := Lib.hid cP
  have CcE := Lib.hid cE
  clear cA cB cC cN cT cY cP cE
  unfold maxLen at hDl
  have HZ := Lib.hid hzl
  clear hzl
  have g1 : ((b : Int) == 0) = false := by simp; omega
  have g2 : ((b : Int) != 0) = true := by simp; omega
  have ht1 : Int.tmod (e : Int) 14 = (em : Int) := by rw [Int.tmod_eq_emod_of_nonneg (by omega)]; exact hem
  have ht2 : IntKind.u8.wrap (q : Int) = (q : Int) := by rw [IntKind.wrap_u8]; omega
  have ht3 : IntKind.i64.wrap (q : Int) = (q : Int) := by rw [IntKind.wrap_i64]; omega
  have ht4 : IntKind.u8.wrap (em : Int) = (em : Int) := by rw [IntKind.wrap_u8]; omega
  go_enter Tryd.func7, Tryd.ntmps7
  go_wp2_with fail
  refine (examples_any _).mono ?_
  rintro en1 w1 ⟨rfl, hb⟩
  have hB1 := below_then (Below.refl _ _) hb
  have L1 := hb.size
  try simp at L1
  have HB1 := Lib.hid hB1
  clear hb hB1
  obtain ⟨w2, hmk, hcv, hB2⟩ := zeros_run w1 n (by omega)
  rw [HZ.out] at hcv
  have HBz := Lib.hid (below_then HB1.out hB2)
  clear hB2
  go_wp2_with fail
  refine (CcA.out _).mono ?_
  rintro en3 w3 ⟨rfl, hb⟩
  have hB3 := below_then HBz.out hb
  have L3 := hb.size
  try simp at L3
  have HB3 := Lib.hid hB3
  clear hb hB3
  have hc1 := brow_one2 w3 (.cells #[.string ⟨#[120]⟩, .int .i64 0] 24) (b : Int)
  obtain ⟨ob, hob⟩ : ∃ ob, bstr [(b : Int)] = ob := ⟨_, rfl⟩
  rw [hob] at hc1 hzb hb1
  clear hob
  go_wp2_with fail
  refine (CcB.out _).mono ?_
  rintro en4 w4 ⟨rfl, hb⟩
  have hB4 := below_then (below_alloc (below_alloc HB3.out _) _) hb
  have L4 := hb.size
  try simp at L4
  have hKA4 : w4.heap[w3.heap.size]? = some (.cells #[.string ⟨#[120]⟩, .int .i64 0] 24 (0, 0)) := blk_later (blk_alloc (heap_alloc_new2 _ _ _ _ (by simp)) _) hb
  have lA4 : w3.heap.size < w4.heap.size := lt_of_some hKA4
  obtain ⟨mA4, nA4, fA4, gA4⟩ := box2 hKA4
  have KA4 := Lib.hid hKA4
  clear hKA4
  have HB4 := Lib.hid hB4
  clear hb hB4
  go_wp2_with fail
  refine (CcC.out _).mono ?_
  rintro en5 w5 ⟨rfl, hb⟩
  have hB5 := below_then (below_alloc HB4.out _) hb
  have L5 := hb.size
  try simp at L5
  have hKA5 : w5.heap[w3.heap.size]? = some (.cells #[.string ⟨#[120]⟩, .int .i64 0] 24 (0, 0)) := blk_later (blk_alloc KA4.out _) hb
  have lA5 : w3.heap.size < w5.heap.size := lt_of_some hKA5
  obtain ⟨mA5, nA5, fA5, gA5⟩ := box2 hKA5
  have KA5 := Lib.hid hKA5
  clear hKA5
  have hKB5 : w5.heap[w4.heap.size]? = some (.cells #[.string ⟨#[]⟩, .int .i64 9] 24 (0, 0)) := blk_later (heap_alloc_new2 _ _ _ _ (by simp)) hb
  have lB5 : w4.heap.size < w5.heap.size := lt_of_some hKB5
  obtain ⟨mB5, nB5, fB5, gB5⟩ := box2 hKB5
  have KB5 := Lib.hid hKB5
  clear hKB5
  have HB5 := Lib.hid hB5
  clear hb hB5 mA4 nA4 fA4 gA4 lA4
  go_wp2_with fail
  obtain ⟨g, hg⟩ : ∃ g, w5.heap.size + 1 = g := ⟨_, rfl⟩
  have hXb : ((w5.alloc (.cells #[.string ⟨#[]⟩, .int .i64 4] 24)).alloc (.cells #[.string ⟨#[97, 98, 99]⟩, .int .i64 q] 24)).heap[g]? = some (.cells #[.string ⟨#[97, 98, 99]⟩, .int .i64 q] 24 (0, 0)) := by rw [← hg]; exact heap_alloc_new2 _ _ _ _ (by simp)
  have hXB : Below W.heap.size W ((w5.alloc (.cells #[.string ⟨#[]⟩, .int .i64 4] 24)).alloc (.cells #[.string ⟨#[97, 98, 99]⟩, .int .i64 q] 24)) := (below_alloc (below_alloc HB5.out _) _)
  have hgW : W.heap.size < g := by have := HB5.out.size; omega
  rw [hg]
  clear hg
  go_loopw [16] (fun i wr => PadRel W g D.length q i wr) (fun i _ => 6 - (RowKit.intOf i).toNat)
  case atStart => exact ⟨0, _, rfl, Nat.zero_le _, Nat.zero_le _, by decide, hXB, hXb⟩
  case round =>
    obtain ⟨k, r, rfl, hk1, hk2, hr3, hB, hX⟩ := hrel
    clear hXb hXB
    have HBr := Lib.hid hB
    have HX := Lib.hid hX
    obtain ⟨m0, m1, f0, f1⟩ := box2 hX
    have lg := lt_of_some hX
    clear hB hX
    by_cases hkn : k < D.length
    · by_cases hk6 : k < 6
      · have d1 : decide ((k : Int) < (D.length : Int)) = true := by simp; omega
        have d2 : decide (k < D.length) = true := by simp; omega
        have d3 : decide ((k : Int) < 6) = true := by simp; omega
        obtain ⟨b0, off, rfl, hb0, hcl⟩ := hD (by omega)
        obtain ⟨⟨kd, x⟩, hdk⟩ : ∃ d, D[k]? = some d := ⟨_, List.getElem?_eq_getElem hkn⟩
        obtain ⟨c0, c1, hkd0, hkd1, hx0, hx1⟩ := hcl k kd x hdk
        have c0 := (HBr.out.cell (p := ⟨b0, off + k * 2, none⟩) hb0).trans c0
        have c1 := (HBr.out.cell (p := ⟨b0, off + k * 2 + 1, none⟩) hb0).trans c1
        have lb0 : b0 < wr.heap.size := Nat.lt_of_lt_of_le hb0 HBr.out.size
        have HCL := Lib.hid hcl
        clear hcl hdk
        have hk4 : kd % 4 = 0 ∨ kd % 4 = 1 ∨ kd % 4 = 2 ∨ kd % 4 = 3 := by omega
        rcases hk4 with hk4 | hk4 | hk4 | hk4
        · go_wp2_with fail
          refine (CcN.out _ hr3 _).mono ?_
          rintro en w6 ⟨rfl, hb⟩
          have hb8 : Below wr.heap.size wr w6 := ⟨hb.os, hb.tape, hb.output, hb.size, hb.block⟩
          have hX6 := blk_later HX.out hb8
          have hB6 := below_then HBr.out hb8
          obtain ⟨n0, n1, p0, p1⟩ := box2 hX6
          have lg6 := lt_of_some hX6
          have HX6 := Lib.hid hX6
          have HB6 := Lib.hid hB6
          clear hb hb8 hX6 hB6 m0 m1 f0 f1 c0 c1 lg lb0
          go_wp2_with fail
          obtain ⟨ws, hws⟩ : ∃ ws, (w6.setCell ⟨g, 0, none⟩ (.string ⟨#[]⟩)).setCell ⟨g, 1, none⟩ (.int .i64 q) = ws := ⟨_, rfl⟩
          have hXs : ws.heap[g]? = some (.cells #[.string ⟨#[]⟩, .int .i64 q] 24 (0, 0)) := by rw [← hws]; exact blk_set2 HX6.out _ _
          have hBs : Below W.heap.size W ws := by rw [← hws]; exact set2_below HB6.out (by omega) _ _
          rw [hws]
          obtain ⟨m0, m1, f0, f1⟩ := box2 hXs
          have lgs := lt_of_some hXs
          have HXs := Lib.hid hXs
          have HBs := Lib.hid hBs
          clear hws hXs hBs n0 n1 p0 p1 lg6
          go_region_held3 (fun w' => w'.cell? ⟨g, 0, none⟩ = some (.string ⟨#[]⟩) ∧ w'.cell? ⟨g, 1, none⟩ = some (.int .i64 q)) (first | go_keep | exact ⟨(hb9.cell (p := ⟨g, 0, none⟩) lgs).trans m0, (hb9.cell (p := ⟨g, 1, none⟩) lgs).trans m1⟩) (first | (go_at_call 28; (with_reducible refine (CcE.out _).mono ?_); rintro e w9 ⟨rfl, hb9⟩))
          have hb8 : Below ws.heap.size ws w9 := ⟨hb9.os, hb9.tape, hb9.output, hb9.size, hb9.block⟩
          have hX9 := blk_later HXs.out hb8
          have HB9 := Lib.hid (below_then HBs.out hb8)
          have HX9 := Lib.hid hX9
          clear hb9 hb8 hX9 m0 m1 f0 f1 lgs
          go_wp2
          go_roundw
          case rel => exact ⟨k + 1, _, by go_num, by omega, by omega, by decide, HB9.out, HX9.out⟩
          case measure => simp [RowKit.intOf]; omega
        · go_wp2_with fail
          refine (CcT.out _ hr3 _).mono ?_
          rintro en w6 ⟨rfl, hb⟩
          have hb8 : Below wr.heap.size wr w6 := ⟨hb.os, hb.tape, hb.output, hb.size, hb.block⟩
          have hX6 := blk_later HX.out hb8
          have hB6 := below_then HBr.out hb8
          obtain ⟨n0, n1, p0, p1⟩ := box2 hX6
          have lg6 := lt_of_some hX6
          have HX6 := Lib.hid hX6
          have HB6 := Lib.hid hB6
          clear hb hb8 hX6 hB6 m0 m1 f0 f1 c0 c1 lg lb0
          go_wp2_with fail
          obtain ⟨ws, hws⟩ : ∃ ws, (w6.setCell ⟨g, 0, none⟩ (.string ⟨#[]⟩)).setCell ⟨g, 1, none⟩ (.int .i64 q) = ws := ⟨_, rfl⟩
          have hXs : ws.heap[g]? = some (.cells #[.string ⟨#[]⟩, .int .i64 q] 24 (0, 0)) := by rw [← hws]; exact blk_set2 HX6.out _ _
          have hBs : Below W.heap.size W ws := by rw [← hws]; exact set2_below HB6.out (by omega) _ _
          rw [hws]
          obtain ⟨m0, m1, f0, f1⟩ := box2 hXs
          have lgs := lt_of_some hXs
          have HXs := Lib.hid hXs
          have HBs := Lib.hid hBs
          clear hws hXs hBs n0 n1 p0 p1 lg6
          go_region_held3 (fun w' => w'.cell? ⟨g, 0, none⟩ = some (.string ⟨#[]⟩) ∧ w'.cell? ⟨g, 1, none⟩ = some (.int .i64 q)) (first | go_keep | exact ⟨(hb9.cell (p := ⟨g, 0, none⟩) lgs).trans m0, (hb9.cell (p := ⟨g, 1, none⟩) lgs).trans m1⟩) (first | (go_at_call 28; (with_reducible refine (CcE.out _).mono ?_); rintro e w9 ⟨rfl, hb9⟩))
          have hb8 : Below ws.heap.size ws w9 := ⟨hb9.os, hb9.tape, hb9.output, hb9.size, hb9.block⟩
          have hX9 := blk_later HXs.out hb8
          have HB9 := Lib.hid (below_then HBs.out hb8)
          have HX9 := Lib.hid hX9
          clear hb9 hb8 hX9 m0 m1 f0 f1 lgs
          go_wp2
          go_roundw
          case rel => exact ⟨k + 1, _, by go_num, by omega, by omega, by decide, HB9.out, HX9.out⟩
          case measure => simp [RowKit.intOf]; omega
        · go_wp2_with fail
          go_region_with (first | (go_at_call 24; (with_reducible refine (CcY.out _ hr3 _ _).mono ?_); rintro en w6 ⟨rfl, hb⟩; have hX6 := blk_later HX.out (show Below wr.heap.size wr w6 from ⟨hb.os, hb.tape, hb.output, hb.size, hb.block⟩); obtain ⟨n0, n1, p0, p1⟩ := box2 hX6; have HX6 := Lib.hid hX6; clear hX6))
          all_goals
            have hB6 := below_then HBr.out (show Below wr.heap.size wr w6 from ⟨hb.os, hb.tape, hb.output, hb.size, hb.block⟩)
            have HB6 := Lib.hid hB6
            have lg6 := lt_of_some HX6.out
            clear hb hB6 m0 m1 f0 f1 c0 c1 lg lb0
            go_wp2_with fail
            obtain ⟨ws, hws⟩ : ∃ ws, (w6.setCell ⟨g, 0, none⟩ (.string ⟨#[]⟩)).setCell ⟨g, 1, none⟩ (.int .i64 q) = ws := ⟨_, rfl⟩
            have hXs : ws.heap[g]? = some (.cells #[.string ⟨#[]⟩, .int .i64 q] 24 (0, 0)) := by rw [← hws]; exact blk_set2 HX6.out _ _
            have hBs : Below W.heap.size W ws := by rw [← hws]; exact set2_below HB6.out (by omega) _ _
            rw [hws]
            obtain ⟨m0, m1, f0, f1⟩ := box2 hXs
            have lgs := lt_of_some hXs
            have HXs := Lib.hid hXs
            have HBs := Lib.hid hBs
            clear hws hXs hBs n0 n1 p0 p1 lg6
            go_region_held3 (fun w' => w'.cell? ⟨g, 0, none⟩ = some (.string ⟨#[]⟩) ∧ w'.cell? ⟨g, 1, none⟩ = some (.int .i64 q)) (first | go_keep | exact ⟨(hb9.cell (p := ⟨g, 0, none⟩) lgs).trans m0, (hb9.cell (p := ⟨g, 1, none⟩) lgs).trans m1⟩) (first | (go_at_call 28; (with_reducible refine (CcE.out _).mono ?_); rintro e w9 ⟨rfl, hb9⟩))
            have hb8 : Below ws.heap.size ws w9 := ⟨hb9.os, hb9.tape, hb9.output, hb9.size, hb9.block⟩
            have hX9 := blk_later HXs.out hb8
            have HB9 := Lib.hid (below_then HBs.out hb8)
            have HX9 := Lib.hid hX9
            clear hb9 hb8 hX9 m0 m1 f0 f1 lgs
            go_wp2
            go_roundw
            case rel => exact ⟨k + 1, _, by go_num, by omega, by omega, by decide, HB9.out, HX9.out⟩
            case measure => simp [RowKit.intOf]; omega
        · go_wp2_with fail
          go_region_with (first | (go_at_call 26; (with_reducible refine (CcP.out _ hr3 _ _).mono ?_); rintro en w6 ⟨rfl, hb⟩; have hX6 := blk_later HX.out (show Below wr.heap.size wr w6 from ⟨hb.os, hb.tape, hb.output, hb.size, hb.block⟩); obtain ⟨n0, n1, p0, p1⟩ := box2 hX6; have HX6 := Lib.hid hX6; clear hX6))
          all_goals
            have hB6 := below_then HBr.out (show Below wr.heap.size wr w6 from ⟨hb.os, hb.tape, hb.output, hb.size, hb.block⟩)
            have HB6 := Lib.hid hB6
            have lg6 := lt_of_some HX6.out
            clear hb hB6 m0 m1 f0 f1 c0 c1 lg lb0
            go_wp2_with fail
            obtain ⟨ws, hws⟩ : ∃ ws, (w6.setCell ⟨g, 0, none⟩ (.string ⟨#[]⟩)).setCell ⟨g, 1, none⟩ (.int .i64 q) = ws := ⟨_, rfl⟩
            have hXs : ws.heap[g]? = some (.cells #[.string ⟨#[]⟩, .int .i64 q] 24 (0, 0)) := by rw [← hws]; exact blk_set2 HX6.out _ _
            have hBs : Below W.heap.size W ws := by rw [← hws]; exact set2_below HB6.out (by omega) _ _
            rw [hws]
            obtain ⟨m0, m1, f0, f1⟩ := box2 hXs
            have lgs := lt_of_some hXs
            have HXs := Lib.hid hXs
            have HBs := Lib.hid hBs
            clear hws hXs hBs n0 n1 p0 p1 lg6
            go_region_held3 (fun w' => w'.cell? ⟨g, 0, none⟩ = some (.string ⟨#[]⟩) ∧ w'.cell? ⟨g, 1, none⟩ = some (.int .i64 q)) (first | go_keep | exact ⟨(hb9.cell (p := ⟨g, 0, none⟩) lgs).trans m0, (hb9.cell (p := ⟨g, 1, none⟩) lgs).trans m1⟩) (first | (go_at_call 28; (with_reducible refine (CcE.out _).mono ?_); rintro e w9 ⟨rfl, hb9⟩))
            have hb8 : Below ws.heap.size ws w9 := ⟨hb9.os, hb9.tape, hb9.output, hb9.size, hb9.block⟩
            have hX9 := blk_later HXs.out hb8
            have HB9 := Lib.hid (below_then HBs.out hb8)
            have HX9 := Lib.hid hX9
            clear hb9 hb8 hX9 m0 m1 f0 f1 lgs
            go_wp2
            go_roundw
            case rel => exact ⟨k + 1, _, by go_num, by omega, by omega, by decide, HB9.out, HX9.out⟩
            case measure => simp [RowKit.intOf]; omega
      · have d1 : decide ((k : Int) < (D.length : Int)) = true := by simp; omega
        have d2 : decide (k < D.length) = true := by simp; omega
        have d3 : decide ((k : Int) < 6) = false := by simp; omega
        go_wp2
        go_ret
        exact ⟨rfl, HBr.out⟩
    · have d1 : decide ((k : Int) < (D.length : Int)) = false := by simp; omega
      have d2 : decide (k < D.length) = false := by simp; omega
      go_wp2
      go_ret
      exact ⟨rfl, HBr.out⟩

set_option maxRecDepth 1000000 in
set_option maxHeartbeats 8000000 in
theorem pads_walk_z (m b e n n1 em q : Nat) (z za zb : ByteArray) (A : Option Addr) (D : List (Int × Int)) (dc : Nat) (W : World) (hm : m < 256) (hb : b < 256) (he : e < 256) (hbz : ((b : Int) == 0) = true) (hn : (m : Int) % 20 = (n : Int)) (hn20 : n < 20) (hn1 : (n : Int) + 1 = (n1 : Int)) (hn120 : n1 ≤ 20)
    (hz : z.size = n) (hzl : str (List.replicate n 0) = z) (hza : z ++ ⟨#[120]⟩ = za) (hzb : z ++ bstr [(b : Int)] = zb) (hb1 : (bstr [(b : Int)]).size = 1) (hem : (e : Int) % 14 = (em : Int)) (hem14 : em < 14) (hq : (1 : Int) + (em : Int) = (q : Int)) (hq1 : q ≤ 14) (hq0 : 0 < q)
    (hD : Sl2 W A D) (hDl : D.length ≤ maxLen)
    (cA : ∀ w, Calls Tryd.prog 26 #[.agg #[.string za, .int .i64 0], .int .i64 n] w fun e w' => e = .returned (.agg #[.string ⟨#[120]⟩, .int .i64 0]) ∧ Below w.heap.size w w')
    (cB : ∀ w, Calls Tryd.prog 26 #[.agg #[.string zb, .int .i64 0], .int .i64 n1] w fun e w' => e = .returned (.agg #[.string ⟨#[]⟩, .int .i64 0]) ∧ Below w.heap.size w w')
    (cC : ∀ w, Calls Tryd.prog 26 #[.agg #[.string z, .int .i64 0], .int .i64 n1] w fun e w' => e = .returned (.agg #[.string ⟨#[]⟩, .int .i64 4]) ∧ Below w.heap.size w w')
    (cN : ∀ r : ByteArray, r.size ≤ 3 → ∀ w, Calls Tryd.prog 20 #[.agg #[.string r, .int .i64 q]] w fun e w' => e = .returned (.tuple #[.int .u64 0, .agg #[.string ⟨#[]⟩, .int .i64 q]]) ∧ Below w.heap.size w w')
    (cT : ∀ r : ByteArray, r.size ≤ 3 → ∀ w, Calls Tryd.prog 22 #[.agg #[.string r, .int .i64 q], .int .u64 9] w fun e w' => e = .returned (.tuple #[.string ⟨#[]⟩, .agg #[.string ⟨#[]⟩, .int .i64 q]]) ∧ Below w.heap.size w w')
    (cY : ∀ r : ByteArray, r.size ≤ 3 → ∀ (m : Int) w, Calls Tryd.prog 24 #[.agg #[.string r, .int .i64 q], .int .i64 m] w fun e w' => e = .returned (.tuple #[.string ⟨#[]⟩, .agg #[.string ⟨#[]⟩, .int .i64 q]]) ∧ Below w.heap.size w w')
    (cP : ∀ r : ByteArray, r.size ≤ 3 → ∀ (m : Int) w, Calls Tryd.prog 26 #[.agg #[.string r, .int .i64 q], .int .i64 m] w fun e w' => e = .returned (.agg #[.string ⟨#[]⟩, .int .i64 q]) ∧ Below w.heap.size w w')
    (cE : ∀ w, Calls Tryd.prog 28 #[.agg #[.string ⟨#[]⟩, .int .i64 q]] w fun e w' => e = .returned (.int .i64 q) ∧ Below w.heap.size w w') :
    Calls Tryd.prog 7 #[.int .u8 m, .int .u8 b, .int .u8 e, .slice A D.length dc] W fun e w' => e = .returned (.bool true) ∧ Below W.heap.size W w' := by
  have CcA := Lib.hid cA
  have CcB := Lib.hid cB
  have CcC := Lib.hid cC
  have CcN := Lib.hid cN
  have CcT := Lib.hid cT
  have CcY := Lib.hid cY
  have CcP := Lib.hid cP
  have CcE := Lib.hid cE
  clear cA cB cC cN cT cY cP cE
  unfold maxLen at hDl
  have HZ := Lib.hid hzl
  clear hzl
  have g1 : ((b : Int) == 0) = true := hbz
  have g2 : ((b : Int) != 0) = false := by rw [bne, hbz]; rfl
  have ht1 : Int.tmod (e : Int) 14 = (em : Int) := by rw [Int.tmod_eq_emod_of_nonneg (by omega)]; exact hem
  have ht2 : IntKind.u8.wrap (q : Int) = (q : Int) := by rw [IntKind.wrap_u8]; omega
  have ht3 : IntKind.i64.wrap (q : Int) = (q : Int) := by rw [IntKind.wrap_i64]; omega
  have ht4 : IntKind.u8.wrap (em : Int) = (em : Int) := by rw [IntKind.wrap_u8]; omega
  go_enter Tryd.func7, Tryd.ntmps7
  go_wp2_with fail
  refine (examples_any _).mono ?_
  rintro en1 w1 ⟨rfl, hb⟩
  have hB1 := below_then (Below.refl _ _) hb
  have L1 := hb.size
  try simp at L1
  have HB1 := Lib.hid hB1
  clear hb hB1
  obtain ⟨w2, hmk, hcv, hB2⟩ := zeros_run w1 n (by omega)
  rw [HZ.out] at hcv
  have HBz := Lib.hid (below_then HB1.out hB2)
  clear hB2
  go_wp2_with fail
  refine (CcA.out _).mono ?_
  rintro en3 w3 ⟨rfl, hb⟩
  have hB3 := below_then HBz.out hb
  have L3 := hb.size
  try simp at L3
  have HB3 := Lib.hid hB3
  clear hb hB3
  have hc1 := brow_one2 w3 (.cells #[.string ⟨#[120]⟩, .int .i64 0] 24) (b : Int)
  obtain ⟨ob, hob⟩ : ∃ ob, bstr [(b : Int)] = ob := ⟨_, rfl⟩
  rw [hob] at hc1 hzb hb1
  clear hob
  go_wp2_with fail
  refine (CcB.out _).mono ?_
  rintro en4 w4 ⟨rfl, hb⟩
  have hB4 := below_then (below_alloc (below_alloc HB3.out _) _) hb
  have L4 := hb.size
  try simp at L4
  have hKA4 : w4.heap[w3.heap.size]? = some (.cells #[.string ⟨#[120]⟩, .int .i64 0] 24 (0, 0)) := blk_later (blk_alloc (heap_alloc_new2 _ _ _ _ (by simp)) _) hb
  have lA4 : w3.heap.size < w4.heap.size := lt_of_some hKA4
  obtain ⟨mA4, nA4, fA4, gA4⟩ := box2 hKA4
  have KA4 := Lib.hid hKA4
  clear hKA4
  have HB4 := Lib.hid hB4
  clear hb hB4
  go_wp2_with fail
  refine (CcC.out _).mono ?_
  rintro en5 w5 ⟨rfl, hb⟩
  have hB5 := below_then (below_alloc HB4.out _) hb
  have L5 := hb.size
  try simp at L5
  have hKA5 : w5.heap[w3.heap.size]? = some (.cells #[.string ⟨#[120]⟩, .int .i64 0] 24 (0, 0)) := blk_later (blk_alloc KA4.out _) hb
  have lA5 : w3.heap.size < w5.heap.size := lt_of_some hKA5
  obtain ⟨mA5, nA5, fA5, gA5⟩ := box2 hKA5
  have KA5 := Lib.hid hKA5
  clear hKA5
  have hKB5 : w5.heap[w4.heap.size]? = some (.cells #[.string ⟨#[]⟩, .int .i64 0] 24 (0, 0)) := blk_later (heap_alloc_new2 _ _ _ _ (by simp)) hb
  have lB5 : w4.heap.size < w5.heap.size := lt_of_some hKB5
  obtain ⟨mB5, nB5, fB5, gB5⟩ := box2 hKB5
  have KB5 := Lib.hid hKB5
  clear hKB5
  have HB5 := Lib.hid hB5
  clear hb hB5 mA4 nA4 fA4 gA4 lA4
  go_wp2_with fail
  obtain ⟨g, hg⟩ : ∃ g, w5.heap.size + 1 = g := ⟨_, rfl⟩
  have hXb : ((w5.alloc (.cells #[.string ⟨#[]⟩, .int .i64 4] 24)).alloc (.cells #[.string ⟨#[97, 98, 99]⟩, .int .i64 q] 24)).heap[g]? = some (.cells #[.string ⟨#[97, 98, 99]⟩, .int .i64 q] 24 (0, 0)) := by rw [← hg]; exact heap_alloc_new2 _ _ _ _ (by simp)
  have hXB : Below W.heap.size W ((w5.alloc (.cells #[.string ⟨#[]⟩, .int .i64 4] 24)).alloc (.cells #[.string ⟨#[97, 98, 99]⟩, .int .i64 q] 24)) := (below_alloc (below_alloc HB5.out _) _)
  have hgW : W.heap.size < g := by have := HB5.out.size; omega
  rw [hg]
  clear hg
  go_loopw [16] (fun i wr => PadRel W g D.length q i wr) (fun i _ => 6 - (RowKit.intOf i).toNat)
  case atStart => exact ⟨0, _, rfl, Nat.zero_le _, Nat.zero_le _, by decide, hXB, hXb⟩
  case round =>
    obtain ⟨k, r, rfl, hk1, hk2, hr3, hB, hX⟩ := hrel
    clear hXb hXB
    have HBr := Lib.hid hB
    have HX := Lib.hid hX
    obtain ⟨m0, m1, f0, f1⟩ := box2 hX
    have lg := lt_of_some hX
    clear hB hX
    by_cases hkn : k < D.length
    · by_cases hk6 : k < 6
      · have d1 : decide ((k : Int) < (D.length : Int)) = true := by simp; omega
        have d2 : decide (k < D.length) = true := by simp; omega
        have d3 : decide ((k : Int) < 6) = true := by simp; omega
        obtain ⟨b0, off, rfl, hb0, hcl⟩ := hD (by omega)
        obtain ⟨⟨kd, x⟩, hdk⟩ : ∃ d, D[k]? = some d := ⟨_, List.getElem?_eq_getElem hkn⟩
        obtain ⟨c0, c1, hkd0, hkd1, hx0, hx1⟩ := hcl k kd x hdk
        have c0 := (HBr.out.cell (p := ⟨b0, off + k * 2, none⟩) hb0).trans c0
        have c1 := (HBr.out.cell (p := ⟨b0, off + k * 2 + 1, none⟩) hb0).trans c1
        have lb0 : b0 < wr.heap.size := Nat.lt_of_lt_of_le hb0 HBr.out.size
        have HCL := Lib.hid hcl
        clear hcl hdk
        have hk4 : kd % 4 = 0 ∨ kd % 4 = 1 ∨ kd % 4 = 2 ∨ kd % 4 = 3 := by omega
        rcases hk4 with hk4 | hk4 | hk4 | hk4
        · go_wp2_with fail
          refine (CcN.out _ hr3 _).mono ?_
          rintro en w6 ⟨rfl, hb⟩
          have hb8 : Below wr.heap.size wr w6 := ⟨hb.os, hb.tape, hb.output, hb.size, hb.block⟩
          have hX6 := blk_later HX.out hb8
          have hB6 := below_then HBr.out hb8
          obtain ⟨n0, n1, p0, p1⟩ := box2 hX6
          have lg6 := lt_of_some hX6
          have HX6 := Lib.hid hX6
          have HB6 := Lib.hid hB6
          clear hb hb8 hX6 hB6 m0 m1 f0 f1 c0 c1 lg lb0
          go_wp2_with fail
          obtain ⟨ws, hws⟩ : ∃ ws, (w6.setCell ⟨g, 0, none⟩ (.string ⟨#[]⟩)).setCell ⟨g, 1, none⟩ (.int .i64 q) = ws := ⟨_, rfl⟩
          have hXs : ws.heap[g]? = some (.cells #[.string ⟨#[]⟩, .int .i64 q] 24 (0, 0)) := by rw [← hws]; exact blk_set2 HX6.out _ _
          have hBs : Below W.heap.size W ws := by rw [← hws]; exact set2_below HB6.out (by omega) _ _
          rw [hws]
          obtain ⟨m0, m1, f0, f1⟩ := box2 hXs
          have lgs := lt_of_some hXs
          have HXs := Lib.hid hXs
          have HBs := Lib.hid hBs
          clear hws hXs hBs n0 n1 p0 p1 lg6
          go_region_held3 (fun w' => w'.cell? ⟨g, 0, none⟩ = some (.string ⟨#[]⟩) ∧ w'.cell? ⟨g, 1, none⟩ = some (.int .i64 q)) (first | go_keep | exact ⟨(hb9.cell (p := ⟨g, 0, none⟩) lgs).trans m0, (hb9.cell (p := ⟨g, 1, none⟩) lgs).trans m1⟩) (first | (go_at_call 28; (with_reducible refine (CcE.out _).mono ?_); rintro e w9 ⟨rfl, hb9⟩))
          have hb8 : Below ws.heap.size ws w9 := ⟨hb9.os, hb9.tape, hb9.output, hb9.size, hb9.block⟩
          have hX9 := blk_later HXs.out hb8
          have HB9 := Lib.hid (below_then HBs.out hb8)
          have HX9 := Lib.hid hX9
          clear hb9 hb8 hX9 m0 m1 f0 f1 lgs
          go_wp2
          go_roundw
          case rel => exact ⟨k + 1, _, by go_num, by omega, by omega, by decide, HB9.out, HX9.out⟩
          case measure => simp [RowKit.intOf]; omega
        · go_wp2_with fail
          refine (CcT.out _ hr3 _).mono ?_
          rintro en w6 ⟨rfl, hb⟩
          have hb8 : Below wr.heap.size wr w6 := ⟨hb.os, hb.tape, hb.output, hb.size, hb.block⟩
          have hX6 := blk_later HX.out hb8
          have hB6 := below_then HBr.out hb8
          obtain ⟨n0, n1, p0, p1⟩ := box2 hX6
          have lg6 := lt_of_some hX6
          have HX6 := Lib.hid hX6
          have HB6 := Lib.hid hB6
          clear hb hb8 hX6 hB6 m0 m1 f0 f1 c0 c1 lg lb0
          go_wp2_with fail
          obtain ⟨ws, hws⟩ : ∃ ws, (w6.setCell ⟨g, 0, none⟩ (.string ⟨#[]⟩)).setCell ⟨g, 1, none⟩ (.int .i64 q) = ws := ⟨_, rfl⟩
          have hXs : ws.heap[g]? = some (.cells #[.string ⟨#[]⟩, .int .i64 q] 24 (0, 0)) := by rw [← hws]; exact blk_set2 HX6.out _ _
          have hBs : Below W.heap.size W ws := by rw [← hws]; exact set2_below HB6.out (by omega) _ _
          rw [hws]
          obtain ⟨m0, m1, f0, f1⟩ := box2 hXs
          have lgs := lt_of_some hXs
          have HXs := Lib.hid hXs
          have HBs := Lib.hid hBs
          clear hws hXs hBs n0 n1 p0 p1 lg6
          go_region_held3 (fun w' => w'.cell? ⟨g, 0, none⟩ = some (.string ⟨#[]⟩) ∧ w'.cell? ⟨g, 1, none⟩ = some (.int .i64 q)) (first | go_keep | exact ⟨(hb9.cell (p := ⟨g, 0, none⟩) lgs).trans m0, (hb9.cell (p := ⟨g, 1, none⟩) lgs).trans m1⟩) (first | (go_at_call 28; (with_reducible refine (CcE.out _).mono ?_); rintro e w9 ⟨rfl, hb9⟩))
          have hb8 : Below ws.heap.size ws w9 := ⟨hb9.os, hb9.tape, hb9.output, hb9.size, hb9.block⟩
          have hX9 := blk_later HXs.out hb8
          have HB9 := Lib.hid (below_then HBs.out hb8)
          have HX9 := Lib.hid hX9
          clear hb9 hb8 hX9 m0 m1 f0 f1 lgs
          go_wp2
          go_roundw
          case rel => exact ⟨k + 1, _, by go_num, by omega, by omega, by decide, HB9.out, HX9.out⟩
          case measure => simp [RowKit.intOf]; omega
        · go_wp2_with fail
          go_region_with (first | (go_at_call 24; (with_reducible refine (CcY.out _ hr3 _ _).mono ?_); rintro en w6 ⟨rfl, hb⟩; have hX6 := blk_later HX.out (show Below wr.heap.size wr w6 from ⟨hb.os, hb.tape, hb.output, hb.size, hb.block⟩); obtain ⟨n0, n1, p0, p1⟩ := box2 hX6; have HX6 := Lib.hid hX6; clear hX6))
          all_goals
            have hB6 := below_then HBr.out (show Below wr.heap.size wr w6 from ⟨hb.os, hb.tape, hb.output, hb.size, hb.block⟩)
            have HB6 := Lib.hid hB6
            have lg6 := lt_of_some HX6.out
            clear hb hB6 m0 m1 f0 f1 c0 c1 lg lb0
            go_wp2_with fail
            obtain ⟨ws, hws⟩ : ∃ ws, (w6.setCell ⟨g, 0, none⟩ (.string ⟨#[]⟩)).setCell ⟨g, 1, none⟩ (.int .i64 q) = ws := ⟨_, rfl⟩
            have hXs : ws.heap[g]? = some (.cells #[.string ⟨#[]⟩, .int .i64 q] 24 (0, 0)) := by rw [← hws]; exact blk_set2 HX6.out _ _
            have hBs : Below W.heap.size W ws := by rw [← hws]; exact set2_below HB6.out (by omega) _ _
            rw [hws]
            obtain ⟨m0, m1, f0, f1⟩ := box2 hXs
            have lgs := lt_of_some hXs
            have HXs := Lib.hid hXs
            have HBs := Lib.hid hBs
            clear hws hXs hBs n0 n1 p0 p1 lg6
            go_region_held3 (fun w' => w'.cell? ⟨g, 0, none⟩ = some (.string ⟨#[]⟩) ∧ w'.cell? ⟨g, 1, none⟩ = some (.int .i64 q)) (first | go_keep | exact ⟨(hb9.cell (p := ⟨g, 0, none⟩) lgs).trans m0, (hb9.cell (p := ⟨g, 1, none⟩) lgs).trans m1⟩) (first | (go_at_call 28; (with_reducible refine (CcE.out _).mono ?_); rintro e w9 ⟨rfl, hb9⟩))
            have hb8 : Below ws.heap.size ws w9 := ⟨hb9.os, hb9.tape, hb9.output, hb9.size, hb9.block⟩
            have hX9 := blk_later HXs.out hb8
            have HB9 := Lib.hid (below_then HBs.out hb8)
            have HX9 := Lib.hid hX9
            clear hb9 hb8 hX9 m0 m1 f0 f1 lgs
            go_wp2
            go_roundw
            case rel => exact ⟨k + 1, _, by go_num, by omega, by omega, by decide, HB9.out, HX9.out⟩
            case measure => simp [RowKit.intOf]; omega
        · go_wp2_with fail
          go_region_with (first | (go_at_call 26; (with_reducible refine (CcP.out _ hr3 _ _).mono ?_); rintro en w6 ⟨rfl, hb⟩; have hX6 := blk_later HX.out (show Below wr.heap.size wr w6 from ⟨hb.os, hb.tape, hb.output, hb.size, hb.block⟩); obtain ⟨n0, n1, p0, p1⟩ := box2 hX6; have HX6 := Lib.hid hX6; clear hX6))
          all_goals
            have hB6 := below_then HBr.out (show Below wr.heap.size wr w6 from ⟨hb.os, hb.tape, hb.output, hb.size, hb.block⟩)
            have HB6 := Lib.hid hB6
            have lg6 := lt_of_some HX6.out
            clear hb hB6 m0 m1 f0 f1 c0 c1 lg lb0
            go_wp2_with fail
            obtain ⟨ws, hws⟩ : ∃ ws, (w6.setCell ⟨g, 0, none⟩ (.string ⟨#[]⟩)).setCell ⟨g, 1, none⟩ (.int .i64 q) = ws := ⟨_, rfl⟩
            have hXs : ws.heap[g]? = some (.cells #[.string ⟨#[]⟩, .int .i64 q] 24 (0, 0)) := by rw [← hws]; exact blk_set2 HX6.out _ _
            have hBs : Below W.heap.size W ws := by rw [← hws]; exact set2_below HB6.out (by omega) _ _
            rw [hws]
            obtain ⟨m0, m1, f0, f1⟩ := box2 hXs
            have lgs := lt_of_some hXs
            have HXs := Lib.hid hXs
            have HBs := Lib.hid hBs
            clear hws hXs hBs n0 n1 p0 p1 lg6
            go_region_held3 (fun w' => w'.cell? ⟨g, 0, none⟩ = some (.string ⟨#[]⟩) ∧ w'.cell? ⟨g, 1, none⟩ = some (.int .i64 q)) (first | go_keep | exact ⟨(hb9.cell (p := ⟨g, 0, none⟩) lgs).trans m0, (hb9.cell (p := ⟨g, 1, none⟩) lgs).trans m1⟩) (first | (go_at_call 28; (with_reducible refine (CcE.out _).mono ?_); rintro e w9 ⟨rfl, hb9⟩))
            have hb8 : Below ws.heap.size ws w9 := ⟨hb9.os, hb9.tape, hb9.output, hb9.size, hb9.block⟩
            have hX9 := blk_later HXs.out hb8
            have HB9 := Lib.hid (below_then HBs.out hb8)
            have HX9 := Lib.hid hX9
            clear hb9 hb8 hX9 m0 m1 f0 f1 lgs
            go_wp2
            go_roundw
            case rel => exact ⟨k + 1, _, by go_num, by omega, by omega, by decide, HB9.out, HX9.out⟩
            case measure => simp [RowKit.intOf]; omega
      · have d1 : decide ((k : Int) < (D.length : Int)) = true := by simp; omega
        have d2 : decide (k < D.length) = true := by simp; omega
        have d3 : decide ((k : Int) < 6) = false := by simp; omega
        go_wp2
        go_ret
        exact ⟨rfl, HBr.out⟩
    · have d1 : decide ((k : Int) < (D.length : Int)) = false := by simp; omega
      have d2 : decide (k < D.length) = false := by simp; omega
      go_wp2
      go_ret
      exact ⟨rfl, HBr.out⟩

end Go.Proofs.YtkkgdnmloojloaaDoor
namespace Go.Proofs.YtkkgdnmloojloaaDoor
open Go.ChangeShapes Go.WideShapes Go.RowKit Go.Lib
theorem zeros_all (n : Nat) : (List.replicate n (0 : UInt8)).all (· == 0) = true := by rw [List.all_eq_true]; intro x hx; rw [(List.mem_replicate.1 hx).2]; rfl
set_option maxRecDepth 100000 in
theorem pads_all {H : Type} {enc : TypeId × Value → H} (a0 a1 a2 : Int) (W : World) {base : Nat} {v : Value} {d : DataW H} {p : List MemPlace} (w0 : (Lit.int .u8 a0).wf = true) (w1 : (Lit.int .u8 a1).wf = true) (w2 : (Lit.int .u8 a2).wf = true)
    (hv : Value.okWide Tryd.prog W .any base 25 v) (h : DataW.Trod enc Tryd.prog W 0 (fun _ => true) true 25 v d p) :
    Calls Tryd.prog 7 #[.int .u8 a0, .int .u8 a1, .int .u8 a2, v] W fun e w' => e = .returned (.bool true) ∧ Below W.heap.size W w' := by
  obtain ⟨m, rfl, hm⟩ := wf_u8 w0
  obtain ⟨b, rfl, hb⟩ := wf_u8 w1
  obtain ⟨e, rfl, he⟩ := wf_u8 w2
  obtain ⟨A, D, dc, rfl, hD, hDl⟩ := open_deeds hv h
  obtain ⟨n, hn⟩ : ∃ n, m % 20 = n := ⟨_, rfl⟩
  obtain ⟨q, hq⟩ : ∃ q, 1 + e % 14 = q := ⟨_, rfl⟩
  have hq0 : ((q : Nat) : Int) ≠ 0 := by omega
  have hz : (str (List.replicate n (0 : UInt8))).size = n := by rw [str_size, List.length_replicate]
  have pad_at : ∀ (l : List UInt8) (k : Int) (q : Plain.Rd), l.length ≤ 1000 → (Plain.Rd.mk l 0).pad k = q → ∀ w, Calls Tryd.prog 26 #[.agg #[.string (str l), .int .i64 0], .int .i64 k] w fun e w' => e = .returned (.agg #[.string (str q.rest), .int .i64 q.e]) ∧ Below w.heap.size w w' := by
    intro l k q hl hq w
    have := pad_any ⟨l, 0⟩ k w (by show l.length ≤ _; omega)
    rw [hq] at this
    exact this
  have hA : (Plain.Rd.mk (List.replicate n (0 : UInt8) ++ [120]) 0).pad (n : Nat) = ⟨[120], 0⟩ := by
    have := Plain.bytes_take (List.replicate n (0 : UInt8)) [120]
    rw [List.length_replicate] at this
    unfold Plain.Rd.pad
    rw [this, if_pos (zeros_all n)]
  have hC : (Plain.Rd.mk (List.replicate n (0 : UInt8)) 0).pad ((n + 1 : Nat) : Int) = ⟨[], 4⟩ := by
    have hbs : (Plain.Rd.mk (List.replicate n (0 : UInt8)) 0).bytes ((n + 1 : Nat) : Int) = ([], ⟨[], 4⟩) := by
      unfold Plain.Rd.bytes
      rw [if_neg (by rintro ⟨_, _, h⟩; simp at h; omega)]
      rfl
    unfold Plain.Rd.pad
    rw [hbs]
    rfl
  have hBB : (Plain.Rd.mk (List.replicate n (0 : UInt8) ++ [UInt8.ofNat b]) 0).pad ((n + 1 : Nat) : Int) = if b = 0 then ⟨[], 0⟩ else ⟨[], 9⟩ := by
    have := Plain.bytes_take (List.replicate n (0 : UInt8) ++ [UInt8.ofNat b]) []
    rw [List.length_append, List.length_replicate, List.append_nil, List.length_singleton] at this
    unfold Plain.Rd.pad
    rw [this]
    have h2 : (List.replicate n (0 : UInt8) ++ [UInt8.ofNat b]).all (· == 0) = decide (b = 0) := by
      rw [List.all_append, zeros_all]
      simp only [List.all_cons, List.all_nil, Bool.and_true, Bool.true_and]
      by_cases h : b = 0
      · subst h; rfl
      · have : UInt8.ofNat b ≠ 0 := fun h' => h (by have := congrArg UInt8.toNat h'; rw [Plain.ofNat_toNat b (by omega)] at this; exact this)
        rw [beq_eq_false_iff_ne.2 this]; simp [h]
    rw [h2]
    by_cases h : b = 0
    · rw [if_pos h, if_pos (by simp [h])]
    · rw [if_neg h, if_neg (by simp [h])]; rfl
  have hq1 : 1 ≤ q ∧ q ≤ 14 := by omega
  have qpos : (q : Int) ≠ 0 := by omega
  have rl : ∀ r : ByteArray, r.size ≤ 3 → (Plain.Rd.mk r.data.toList (q : Int)).rest.length ≤ 1152921504606846976 := by
    intro r hr
    have := str_size r.data.toList
    rw [str_of] at this
    show r.data.toList.length ≤ _
    omega
  have cN : ∀ r : ByteArray, r.size ≤ 3 → ∀ w, Calls Tryd.prog 20 #[.agg #[.string r, .int .i64 q]] w fun e w' => e = .returned (.tuple #[.int .u64 0, .agg #[.string ⟨#[]⟩, .int .i64 q]]) ∧ Below w.heap.size w w' :=
    fun r hr w => next_at (Plain.next_err ⟨r.data.toList, q⟩ qpos) (rl r hr) w
  have cT : ∀ r : ByteArray, r.size ≤ 3 → ∀ w, Calls Tryd.prog 22 #[.agg #[.string r, .int .i64 q], .int .u64 9] w fun e w' => e = .returned (.tuple #[.string ⟨#[]⟩, .agg #[.string ⟨#[]⟩, .int .i64 q]]) ∧ Below w.heap.size w w' :=
    fun r hr w => text_at (Plain.text_err ⟨r.data.toList, q⟩ 9 qpos) (rl r hr) (by decide) w
  have cY : ∀ r : ByteArray, r.size ≤ 3 → ∀ (m : Int) w, Calls Tryd.prog 24 #[.agg #[.string r, .int .i64 q], .int .i64 m] w fun e w' => e = .returned (.tuple #[.string ⟨#[]⟩, .agg #[.string ⟨#[]⟩, .int .i64 q]]) ∧ Below w.heap.size w w' := by
    intro r hr m w
    have := bytes_any ⟨r.data.toList, q⟩ m w (rl r hr)
    unfold bytesV at this
    rw [Plain.bytes_err ⟨r.data.toList, q⟩ m qpos] at this
    exact this
  have cP : ∀ r : ByteArray, r.size ≤ 3 → ∀ (m : Int) w, Calls Tryd.prog 26 #[.agg #[.string r, .int .i64 q], .int .i64 m] w fun e w' => e = .returned (.agg #[.string ⟨#[]⟩, .int .i64 q]) ∧ Below w.heap.size w w' := by
    intro r hr m w
    have := pad_any ⟨r.data.toList, q⟩ m w (rl r hr)
    rw [Plain.pad_err ⟨r.data.toList, q⟩ m qpos] at this
    exact this
  have cE : ∀ w, Calls Tryd.prog 28 #[.agg #[.string ⟨#[]⟩, .int .i64 q]] w fun e w' => e = .returned (.int .i64 q) ∧ Below w.heap.size w w' := by
    intro w
    have := end_any ⟨[], q⟩ w
    rw [Plain.end_err] at this
    exact this
  have x1 : (bstr [(b : Int)]).size = 1 := by rw [bstr_one b hb]; rfl
  have x2 : str (List.replicate n (0 : UInt8)) ++ ⟨#[120]⟩ = str (List.replicate n (0 : UInt8) ++ [120]) := by rw [← str_app]; rfl
  have x3 : str (List.replicate n (0 : UInt8)) ++ bstr [(b : Int)] = str (List.replicate n (0 : UInt8) ++ [UInt8.ofNat b]) := by rw [bstr_one b hb, str_app]
  have l1 : (List.replicate n (0 : UInt8) ++ [120]).length ≤ 1000 := by simp; omega
  have l2 : (List.replicate n (0 : UInt8) ++ [UInt8.ofNat b]).length ≤ 1000 := by simp; omega
  have l3 : (List.replicate n (0 : UInt8)).length ≤ 1000 := by simp; omega
  by_cases hb0 : b = 0
  · rw [if_pos hb0] at hBB
    exact pads_walk_z m b e n (n + 1) (e % 14) q _ _ _ A D dc W hm hb he (by simp [hb0]) (by omega) (by omega) (by omega) (by omega) hz rfl x2 x3 x1 (by omega) (by omega) (by omega) (by omega) (by omega) hD hDl
      (pad_at _ _ _ l1 hA) (pad_at _ _ _ l2 hBB) (pad_at _ _ _ l3 hC) cN cT cY cP cE
  · rw [if_neg hb0] at hBB
    exact pads_walk_n m b e n (n + 1) (e % 14) q _ _ _ A D dc W hm hb he (by omega) (by omega) (by omega) (by omega) (by omega) hz rfl x2 x3 x1 (by omega) (by omega) (by omega) (by omega) (by omega) hD hDl
      (pad_at _ _ _ l1 hA) (pad_at _ _ _ l2 hBB) (pad_at _ _ _ l3 hC) cN cT cY cP cE
end Go.Proofs.YtkkgdnmloojloaaDoor
