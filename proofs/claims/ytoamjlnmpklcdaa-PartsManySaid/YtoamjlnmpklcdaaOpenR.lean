/- The laws' arguments opened: slices of slices of runs. Conditions: what each lemma says. -/
import Derived.Test.YtoamjlnmpklcdaaCls
import Derived.Deep.Slices
import Derived.Deep.Grids
set_option linter.unusedVariables false
set_option linter.unusedSimpArgs false
namespace Go.Proofs.Ytoamjlnmpklcdaa
open Go.ChangeShapes Go.WideShapes Go.RowKit Go.Lib Go.Deep
open Plain (Rg Rn)
section
variable {H : Type} {enc : TypeId × Value → H} {P : Program} {w : World} {base : Nat} {held : Bool}
/-- a slice of elements of k cells, each opened by its own law -/
theorem sl_of_elems {α : Type} (dflt : α) (en : α → List Value) (k : Nat) (hk : 0 < k) (hen : ∀ r, (en r).length = k) (Pp : α → Prop) {t e : TypeId} {fuel : Nat} {cs : List Value} {x : DataW H × List MemPlace} (ht : P.underlying t = some (.slice e)) (hc : P.cellsOf e = k)
    (hel : ∀ n cs' x, DataW.trod enc P w base (fun _ => true) held n e cs' = some x → cs'.length = k → ∃ r, cs' = en r ∧ Pp r) (h : DataW.trod enc P w base (fun _ => true) held fuel t cs = some x) :
    ∃ (A : Option Addr) (L : List α) (c : Nat), cs = [.slice A L.length c] ∧ Sl w A (L.flatMap en) ∧ L.length ≤ c ∧ c ≤ maxLen ∧ ∀ r ∈ L, Pp r := by
  rcases open_slice ht h with ⟨rfl, _⟩ | ⟨a, l, c, m, n, D, Pl, rfl, _, hl, hm, hmm, _, hi⟩
  · exact ⟨none, [], 0, rfl, Sl.nil _ _, Nat.le_refl _, Nat.zero_le _, fun r hr => absurd hr (by simp)⟩
  · simp only [if_true] at hmm
    subst hmm
    rw [hc] at hi
    have hall : ∀ i, ∃ r : α, i < l → Pp r ∧ ∀ j u, (en r)[j]? = some u → w.cell? (a.add (i * k + j)) = some u := fun i => by
      by_cases hil : i < l
      · obtain ⟨cs', hcc, htt⟩ := hi i (by omega)
        obtain ⟨_, hcl, hat⟩ := World.cells?_some hcc
        obtain ⟨r, hr, hp⟩ := hel _ _ _ htt hcl
        refine ⟨r, fun _ => ⟨hp, fun j u hu => ?_⟩⟩
        subst hr
        have hj : j < k := by have := (List.getElem?_eq_some_iff.1 hu).1; rw [hen] at this; exact this
        have hq := hat j hj
        rw [Go.Deep.add_add] at hq
        rw [hq]
        exact hu
      · exact ⟨dflt, fun h => absurd h hil⟩
    obtain ⟨f, hf⟩ := Classical.axiomOfChoice hall
    have hlen : ((List.range l).map f).length = l := by simp
    refine ⟨some a, (List.range l).map f, m, by rw [hlen], ?_, by omega, hm, fun r hr => ?_⟩
    · have hfl : ∀ (L : List Nat) (b : Nat), (∀ i x, L[i]? = some x → x = b + i) → ∀ j u, ((L.map f).flatMap en)[j]? = some u → ∃ i q, b ≤ i ∧ i < b + L.length ∧ (en (f i))[q]? = some u ∧ j + b * k = i * k + q := by
        intro L
        induction L with
        | nil => intro b _ j u hu; simp at hu
        | cons y L ih =>
          intro b hb j u hu
          have hy : y = b := by have := hb 0 y rfl; simpa using this
          subst hy
          rw [List.map_cons, List.flatMap_cons] at hu
          by_cases hj : j < k
          · rw [List.getElem?_append_left (by rw [hen]; exact hj)] at hu
            exact ⟨y, j, Nat.le_refl _, by simp, hu, by omega⟩
          · rw [List.getElem?_append_right (by rw [hen]; omega), hen] at hu
            obtain ⟨i, q, h1, h2, h3, h4⟩ := ih (y + 1) (fun i x hx => by have := hb (i + 1) x (by simpa using hx); omega) (j - k) u hu
            refine ⟨i, q, by omega, by simp; omega, h3, ?_⟩
            rw [Nat.add_mul, Nat.one_mul] at h4
            omega
      refine sl_of_cells fun j u hu => ?_
      obtain ⟨i, q, _, h2, h3, h4⟩ := hfl (List.range l) 0 (fun i x hx => by
        have := List.getElem?_eq_some_iff.1 hx
        obtain ⟨h5, h6⟩ := this
        simp at h6; omega) j u hu
      have hil : i < l := by simpa using h2
      have := (hf i hil).2 q u h3
      rw [show i * k + q = j by omega] at this
      exact this
    · obtain ⟨i, hi', rfl⟩ := List.mem_map.1 hr
      exact (hf i (List.mem_range.1 hi')).1
end
theorem wf_i32o {n : Int} (h : (Lit.int .i32 n).wf = true) : -2147483648 ≤ n ∧ n < 2147483648 := by
  simp [Lit.wf] at h
  have h1 : IntKind.i32.min = -2147483648 := by decide
  have h2 : IntKind.i32.max = 2147483647 := by decide
  omega
theorem wf_u8o {n : Int} (h : (Lit.int .u8 n).wf = true) : 0 ≤ n ∧ n < 256 := by
  simp [Lit.wf] at h
  have h1 : IntKind.u8.min = 0 := by decide
  have h2 : IntKind.u8.max = 255 := by decide
  omega
theorem wf_u32o {n : Int} (h : (Lit.int .u32 n).wf = true) : 0 ≤ n ∧ n < 4294967296 := by
  simp [Lit.wf] at h
  have h1 : IntKind.u32.min = 0 := by decide
  have h2 : IntKind.u32.max = 4294967295 := by decide
  omega
theorem map_flat {α β : Type} (f : α → β) (L : List α) : L.map f = L.flatMap (fun x => [f x]) := by
  induction L with
  | nil => rfl
  | cons a l ih => rw [List.map_cons, List.flatMap_cons, ← ih]; rfl
theorem rnc_flat : ∀ (L : List Rn) (i : Nat) (x : Rn), L[i]? = some x → ∀ j u, (rnc x)[j]? = some u → (L.flatMap rnc)[i * 5 + j]? = some u := by
  intro L
  induction L with
  | nil => intro i x h; simp at h
  | cons y L ih =>
    intro i x h j u hu
    have hj : j < 5 := (List.getElem?_eq_some_iff.1 hu).1
    rw [List.flatMap_cons]
    cases i with
    | zero =>
      simp at h
      subst h
      rw [List.getElem?_append_left (by show 0 * 5 + j < 5; omega), Nat.zero_mul, Nat.zero_add]
      exact hu
    | succ i =>
      rw [List.getElem?_append_right (by show 5 ≤ (i + 1) * 5 + j; omega)]
      rw [show (i + 1) * 5 + j - (rnc y).length = i * 5 + j by show (i + 1) * 5 + j - 5 = i * 5 + j; omega]
      exact ih i x (by simpa using h) j u hu
section
variable {H : Type} {enc : TypeId × Value → H} {W : World}
theorem run_el {n : Nat} {cs : List Value} {x : DataW H × List MemPlace} (h : DataW.trod enc Try.prog W 0 (fun _ => true) true n 56 cs = some x) (hl : cs.length = 5) : ∃ r : Rn, cs = rnc r ∧ RnOk r := by
  have h2 : Try.prog.cellsOf 46 = 2 := by kernel_rfl
  have s4 : Try.prog.cellsOf 4 = 1 := by kernel_rfl
  have s5 : Try.prog.cellsOf 5 = 1 := by kernel_rfl
  have s21 : Try.prog.cellsOf 21 = 1 := by kernel_rfl
  match cs, hl with
  | [c0, c1, c2, c3, c4], _ =>
    obtain ⟨ys, n', _, _, _, hlen, hg⟩ := DataW.trod_struct Try.underlying56 h
    match ys, hlen with
    | [y0, y1, y2, y3], _ =>
      have g0 : DataW.trod enc Try.prog W 0 (fun _ => true) true n' 46 [c0, c1] = some y0 := by simpa [h2] using hg 0 _ rfl
      have g1 : DataW.trod enc Try.prog W 0 (fun _ => true) true n' 4 [c2] = some y1 := by simpa [s4] using hg 1 _ rfl
      have g2 : DataW.trod enc Try.prog W 0 (fun _ => true) true n' 5 [c3] = some y2 := by simpa [s5] using hg 2 _ rfl
      have g3 : DataW.trod enc Try.prog W 0 (fun _ => true) true n' 5 [c4] = some y3 := by simpa [s5] using hg 3 _ rfl
      obtain ⟨zs, m', _, _, _, hzl, hgz⟩ := DataW.trod_struct Try.underlying46 g0
      match zs, hzl with
      | [z0, z1], _ =>
        have k0 : DataW.trod enc Try.prog W 0 (fun _ => true) true m' 21 [c0] = some z0 := by simpa [s21] using hgz 0 _ rfl
        have k1 : DataW.trod enc Try.prog W 0 (fun _ => true) true m' 21 [c1] = some z1 := by simpa [s21] using hgz 1 _ rfl
        obtain ⟨lo, hlo, _, wlo⟩ := DataW.trod_int Try.underlying21 k0
        obtain ⟨hi', hhi, _, whi⟩ := DataW.trod_int Try.underlying21 k1
        obtain ⟨ow, how, _⟩ := DataW.trod_bool Try.underlying4 g1
        obtain ⟨ll, hll, _, wll⟩ := DataW.trod_int Try.underlying5 g2
        obtain ⟨nn, hnn, _, wnn⟩ := DataW.trod_int Try.underlying5 g3
        simp only [List.cons.injEq, and_true] at hlo hhi how hll hnn
        subst hlo hhi how hll hnn
        have b0 := wf_i32o wlo
        have b1 := wf_i32o whi
        have b2 := wf_u8o wll
        have b3 := wf_u8o wnn
        exact ⟨⟨lo, hi', ow, ll, nn⟩, rfl, b0.1, b0.2, b1.1, b1.2, b2.1, b2.2, b3.1, b3.2⟩
theorem rns_of_sl {A : Option Addr} {X : List Rn} (h : Sl W A (X.flatMap rnc)) : Rns W A X := fun hn => by
  obtain ⟨b, off, e, hb, hc⟩ := h (by
    cases X with
    | nil => simp at hn
    | cons r R => simp [rnc])
  exact ⟨b, off, e, hb, fun i x hx j u hu => by rw [Nat.add_assoc]; exact hc _ _ (rnc_flat X i x hx j u hu)⟩
theorem runs_el {n : Nat} {cs : List Value} {x : DataW H × List MemPlace} (h : DataW.trod enc Try.prog W 0 (fun _ => true) true n 33 cs = some x) : ∃ r : Rr, cs = [rrV r] ∧ RrOk W r := by
  obtain ⟨A, X, c, rfl, hs, h1, h2, h3⟩ := sl_of_elems (w := W) (⟨0, 0, false, 0, 0⟩ : Rn) rnc 5 (by decide) (fun _ => rfl) RnOk Try.underlying33 (by kernel_rfl) (fun _ _ _ ht hl => run_el ht hl) h
  exact ⟨⟨A, c, X⟩, rfl, rns_of_sl hs, Nat.le_trans h1 h2, h3⟩
theorem open_one {base : Nat} {v : Value} {d : DataW H} {p : List MemPlace} (hv : Value.okWide Try.prog W .any base 33 v) (h : DataW.Trod enc Try.prog W 0 (fun _ => true) true 33 v d p) : ∃ r : Rr, v = rrV r ∧ RrOk W r := by
  obtain ⟨a, l, c, rfl⟩ := okWide_slice Try.underlying33 hv
  obtain ⟨fuel, hf⟩ := h
  obtain ⟨r, hr, hk⟩ := runs_el hf
  refine ⟨r, ?_, hk⟩
  unfold rrV at hr ⊢
  simp [Value.cells] at hr
  rw [hr.1, hr.2.1, hr.2.2]
theorem open_all {base : Nat} {v : Value} {d : DataW H} {p : List MemPlace} (hv : Value.okWide Try.prog W .any base 32 v) (h : DataW.Trod enc Try.prog W 0 (fun _ => true) true 32 v d p) :
    ∃ (A : Option Addr) (LL : List Rr) (c : Nat), v = .slice A LL.length c ∧ Sl W A (LL.map rrV) ∧ LL.length ≤ maxLen ∧ ∀ x ∈ LL, RrOk W x := by
  obtain ⟨a, l, c, rfl⟩ := okWide_slice Try.underlying32 hv
  obtain ⟨fuel, hf⟩ := h
  obtain ⟨A, LL, c', hr, hs, h1, h2, h3⟩ := sl_of_elems (w := W) (⟨none, 0, []⟩ : Rr) (fun r => [rrV r]) 1 (by decide) (fun _ => rfl) (RrOk W) Try.underlying32 (by kernel_rfl) (fun _ _ _ ht _ => runs_el ht) hf
  refine ⟨A, LL, c', ?_, by rw [map_flat]; exact hs, Nat.le_trans h1 h2, h3⟩
  simp [Value.cells] at hr
  rw [hr.1, hr.2.1, hr.2.2]
end
end Go.Proofs.Ytoamjlnmpklcdaa
