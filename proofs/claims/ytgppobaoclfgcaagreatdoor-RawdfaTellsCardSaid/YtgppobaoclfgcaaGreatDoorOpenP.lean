/- A code opened. Conditions: what each lemma says. -/
import Derived.Test.YtgppobaoclfgcaaGreatDoorCodeA
import Derived.Deep.Slices
import Derived.Deep.Grids
set_option linter.unusedVariables false
set_option linter.unusedSimpArgs false
namespace Go.Proofs.YtgppobaoclfgcaaGreatDoor
open Go.ChangeShapes Go.WideShapes Go.RowKit Go.Lib Go.Deep
open Plain (Rg In4)
section
variable {H : Type} {enc : TypeId × Value → H} {P : Program} {w : World} {base : Nat} {held : Bool}
/-- a slice of elements of k cells, each opened by its own law -/
theorem sl_of_elems {α : Type} (dflt : α) (en : α → List Value) (k : Nat) (hk : 0 < k) (hen : ∀ r, (en r).length = k) (Pp : α → Prop) {t e : TypeId} {fuel : Nat} {cs : List Value} {x : DataW H × List MemPlace} (ht : P.underlying t = some (.slice e)) (hc : P.cellsOf e = k)
    (hel : ∀ n cs' x, DataW.trod enc P w base (fun _ => true) held n e cs' = some x → cs'.length = k → ∃ r, cs' = en r ∧ Pp r) (h : DataW.trod enc P w base (fun _ => true) held fuel t cs = some x) :
    ∃ (A : Option Addr) (L : List α) (c : Nat), cs = [.slice A L.length c] ∧ Sl w A (L.flatMap en) ∧ L.length ≤ c ∧ c ≤ maxLen ∧ ∀ r ∈ L, Pp r := by
  rcases open_slice ht h with ⟨rfl, _⟩ | ⟨a, l, c, m, n, D, Pl, rfl, _, hl, hm, hmm, _, hi⟩
  · exact ⟨none, [], 0, rfl, Sl.nil _ _, Nat.le_refl _, Nat.zero_le _, fun r hr => absurd hr (by simp)⟩
  · simp only [if_true] at hmm
    subst hmm
    rw [hc] at hi
    have hall : ∀ i, ∃ r : α, i < l → Pp r ∧ ∀ j u, (en r)[j]? = some u → w.cell? (a.add (i * k + j)) = some u := fun i => by
      by_cases hil : i < l
      · obtain ⟨cs', hcc, htt⟩ := hi i (by omega)
        obtain ⟨_, hcl, hat⟩ := World.cells?_some hcc
        obtain ⟨r, hr, hp⟩ := hel _ _ _ htt hcl
        refine ⟨r, fun _ => ⟨hp, fun j u hu => ?_⟩⟩
        subst hr
        have hj : j < k := by have := (List.getElem?_eq_some_iff.1 hu).1; rw [hen] at this; exact this
        have hq := hat j hj
        rw [Go.Deep.add_add] at hq
        rw [hq]
        exact hu
      · exact ⟨dflt, fun h => absurd h hil⟩
    obtain ⟨f, hf⟩ := Classical.axiomOfChoice hall
    have hlen : ((List.range l).map f).length = l := by simp
    refine ⟨some a, (List.range l).map f, m, by rw [hlen], ?_, by omega, hm, fun r hr => ?_⟩
    · have hfl : ∀ (L : List Nat) (b : Nat), (∀ i x, L[i]? = some x → x = b + i) → ∀ j u, ((L.map f).flatMap en)[j]? = some u → ∃ i q, b ≤ i ∧ i < b + L.length ∧ (en (f i))[q]? = some u ∧ j + b * k = i * k + q := by
        intro L
        induction L with
        | nil => intro b _ j u hu; simp at hu
        | cons y L ih =>
          intro b hb j u hu
          have hy : y = b := by have := hb 0 y rfl; simpa using this
          subst hy
          rw [List.map_cons, List.flatMap_cons] at hu
          by_cases hj : j < k
          · rw [List.getElem?_append_left (by rw [hen]; exact hj)] at hu
            exact ⟨y, j, Nat.le_refl _, by simp, hu, by omega⟩
          · rw [List.getElem?_append_right (by rw [hen]; omega), hen] at hu
            obtain ⟨i, q, h1, h2, h3, h4⟩ := ih (y + 1) (fun i x hx => by have := hb (i + 1) x (by simpa using hx); omega) (j - k) u hu
            refine ⟨i, q, by omega, by simp; omega, h3, ?_⟩
            rw [Nat.add_mul, Nat.one_mul] at h4
            omega
      refine sl_of_cells fun j u hu => ?_
      obtain ⟨i, q, _, h2, h3, h4⟩ := hfl (List.range l) 0 (fun i x hx => by
        have := List.getElem?_eq_some_iff.1 hx
        obtain ⟨h5, h6⟩ := this
        simp at h6; omega) j u hu
      have hil : i < l := by simpa using h2
      have := (hf i hil).2 q u h3
      rw [show i * k + q = j by omega] at this
      exact this
    · obtain ⟨i, hi', rfl⟩ := List.mem_map.1 hr
      exact (hf i (List.mem_range.1 hi')).1
end
end Go.Proofs.YtgppobaoclfgcaaGreatDoor
namespace Go.Proofs.YtgppobaoclfgcaaGreatDoor
open Go.ChangeShapes Go.WideShapes Go.RowKit Go.Lib Go.Deep
open Plain (Rg In4)
theorem ints_bd {k : IntKind} {L : List Int} (h : ∀ n ∈ L, (Lit.int k n).wf = true) (j : Nat) (hj : j < L.length) : k.min ≤ L.getD j 0 ∧ L.getD j 0 ≤ k.max := by
  have h1 := h _ (List.getElem_mem hj)
  rw [Plain.getD_lt _ _ _ hj]
  simpa [Lit.wf] using h1
theorem u16_bd {L : List Int} (h : ∀ n ∈ L, (Lit.int .u16 n).wf = true) (j : Nat) (hj : j < L.length) : 0 ≤ L.getD j 0 ∧ L.getD j 0 < 65536 := by
  have h1 := ints_bd h j hj
  have h2 : IntKind.u16.min = 0 := by decide
  have h3 : IntKind.u16.max = 65535 := by decide
  omega
theorem wf_u8b {n : Int} (h : (Lit.int .u8 n).wf = true) : 0 ≤ n ∧ n < 256 := by
  simp [Lit.wf] at h
  have h2 : IntKind.u8.min = 0 := by decide
  have h3 : IntKind.u8.max = 255 := by decide
  omega
theorem wf_i64b {n : Int} (h : (Lit.int .i64 n).wf = true) : -9223372036854775808 ≤ n ∧ n ≤ 9223372036854775807 := by
  simp [Lit.wf] at h
  have h2 : IntKind.i64.min = -9223372036854775808 := by decide
  have h3 : IntKind.i64.max = 9223372036854775807 := by decide
  omega
def Int64 (n : Int) : Prop := -9223372036854775808 ≤ n ∧ n ≤ 9223372036854775807
def In64 (t : In4) : Prop := Int64 t.1 ∧ Int64 t.2.1 ∧ Int64 t.2.2.1 ∧ Int64 t.2.2.2
structure CodeAt (W : World) (PI : Option Addr) (PL : List In4) (PC : Option Addr) (PK : List Cs) (pg : Int) (LA : Option Addr) (L : List Int) (g : Int) : Prop where
  p : PgAt W PI PL PC PK
  wide : ∀ t ∈ PL, In64 t
  gw : Int64 pg
  l : Sl W LA (L.map (Value.int .u16))
  ll : L.length ≤ maxLen
  lb : ∀ k, k < L.length → 0 ≤ L.getD k 0 ∧ L.getD k 0 < 65536
  g0 : 0 ≤ g
  g1 : g < 256
theorem map_flat {α β : Type} (f : α → β) (L : List α) : L.map f = L.flatMap (fun x => [f x]) := by
  induction L with
  | nil => rfl
  | cons a l ih => rw [List.map_cons, List.flatMap_cons, ← ih]; rfl
section
variable {H : Type} {enc : TypeId × Value → H} {W : World}
theorem inst_el {n : Nat} {cs : List Value} {x : DataW H × List MemPlace} (h : DataW.trod enc Tryz.prog W 0 (fun _ => true) true n 77 cs = some x) (hl : cs.length = 4) : ∃ r : In4, cs = i4c r ∧ In64 r := by
  have s3 : Tryz.prog.cellsOf 3 = 1 := by kernel_rfl
  match cs, hl with
  | [c0, c1, c2, c3], _ =>
    obtain ⟨ys, m, _, _, _, hlen, hg⟩ := DataW.trod_struct Tryz.underlying77 h
    match ys, hlen with
    | [y0, y1, y2, y3], _ =>
      have g0 : DataW.trod enc Tryz.prog W 0 (fun _ => true) true m 3 [c0] = some y0 := by simpa [s3] using hg 0 _ rfl
      have g1 : DataW.trod enc Tryz.prog W 0 (fun _ => true) true m 3 [c1] = some y1 := by simpa [s3] using hg 1 _ rfl
      have g2 : DataW.trod enc Tryz.prog W 0 (fun _ => true) true m 3 [c2] = some y2 := by simpa [s3] using hg 2 _ rfl
      have g3 : DataW.trod enc Tryz.prog W 0 (fun _ => true) true m 3 [c3] = some y3 := by simpa [s3] using hg 3 _ rfl
      obtain ⟨a, ha, _, wa⟩ := DataW.trod_int Tryz.underlying3 g0
      obtain ⟨b, hb, _, wb⟩ := DataW.trod_int Tryz.underlying3 g1
      obtain ⟨c, hc, _, wc⟩ := DataW.trod_int Tryz.underlying3 g2
      obtain ⟨d, hd, _, wd⟩ := DataW.trod_int Tryz.underlying3 g3
      simp only [List.cons.injEq, and_true] at ha hb hc hd
      subst ha hb hc hd
      exact ⟨(a, b, c, d), rfl, wf_i64b wa, wf_i64b wb, wf_i64b wc, wf_i64b wd⟩
theorem range_el {n : Nat} {cs : List Value} {x : DataW H × List MemPlace} (h : DataW.trod enc Tryz.prog W 0 (fun _ => true) true n 71 cs = some x) (hl : cs.length = 2) : ∃ r : Rg, cs = rgc r ∧ True := by
  have s3 : Tryz.prog.cellsOf 21 = 1 := by kernel_rfl
  match cs, hl with
  | [c0, c1], _ =>
    obtain ⟨ys, m, _, _, _, hlen, hg⟩ := DataW.trod_struct Tryz.underlying71 h
    match ys, hlen with
    | [y0, y1], _ =>
      have g0 : DataW.trod enc Tryz.prog W 0 (fun _ => true) true m 21 [c0] = some y0 := by simpa [s3] using hg 0 _ rfl
      have g1 : DataW.trod enc Tryz.prog W 0 (fun _ => true) true m 21 [c1] = some y1 := by simpa [s3] using hg 1 _ rfl
      obtain ⟨a, ha, _, wa⟩ := DataW.trod_int Tryz.underlying21 g0
      obtain ⟨b, hb, _, wb⟩ := DataW.trod_int Tryz.underlying21 g1
      simp only [List.cons.injEq, and_true] at ha hb
      subst ha hb
      exact ⟨(a, b), rfl, trivial⟩
theorem rs_of_sl {A : Option Addr} {R : List Rg} (h : Sl W A (rgs R)) : Rs W A R := fun hn => by
  obtain ⟨b, off, e, hb, hc⟩ := h (by
    cases R with
    | nil => simp at hn
    | cons r R => simp [rgs, rgc])
  exact ⟨b, off, e, hb, fun i r hr => ⟨hc _ _ (rgs_get R i r hr).1, by rw [Nat.add_assoc]; exact hc _ _ (rgs_get R i r hr).2⟩⟩
theorem class_el {n : Nat} {cs : List Value} {x : DataW H × List MemPlace} (h : DataW.trod enc Tryz.prog W 0 (fun _ => true) true n 73 cs = some x) : ∃ r : Cs, cs = [clV r] ∧ Rs W r.A r.R ∧ r.R.length ≤ maxLen := by
  obtain ⟨A, R, c, rfl, hs, h1, h2, _⟩ := sl_of_elems (w := W) ((0, 0) : Rg) rgc 2 (by decide) (fun _ => rfl) (fun _ => True) Tryz.underlying73 (by kernel_rfl) (fun _ _ _ ht hl => range_el ht hl) h
  exact ⟨⟨A, c, R⟩, rfl, rs_of_sl hs, Nat.le_trans h1 h2⟩
set_option maxRecDepth 100000 in
theorem open_code {base : Nat} {v : Value} {d : DataW H} {p : List MemPlace} (hv : Value.okWide Tryz.prog W .any base 37 v) (h : DataW.Trod enc Tryz.prog W 0 (fun _ => true) true 37 v d p) :
    ∃ PI PL pic PC PK pcc pg own LA L lc g, v = .agg #[.slice PI PL.length pic, .slice PC PK.length pcc, .int .i64 pg, .bool own, .slice LA L.length lc, .int .u8 g] ∧ CodeAt W PI PL PC PK pg LA L g := by
  obtain ⟨cs, rfl, hsz⟩ := okWide_struct Tryz.underlying37 hv
  have h6 : Tryz.prog.cellsOf 37 = 6 := by kernel_rfl
  have h3 : Tryz.prog.cellsOf 34 = 3 := by kernel_rfl
  have s4 : Tryz.prog.cellsOf 4 = 1 := by kernel_rfl
  have s26 : Tryz.prog.cellsOf 35 = 1 := by kernel_rfl
  have s5 : Tryz.prog.cellsOf 5 = 1 := by kernel_rfl
  have s22 : Tryz.prog.cellsOf 31 = 1 := by kernel_rfl
  have s23 : Tryz.prog.cellsOf 32 = 1 := by kernel_rfl
  have s3 : Tryz.prog.cellsOf 3 = 1 := by kernel_rfl
  obtain ⟨l⟩ := cs
  match l, hsz.trans h6 with
  | [c0, c1, c2, c3, c4, c5], _ =>
    obtain ⟨fuel, hf⟩ := h
    obtain ⟨xs, n, _, hx, _, hlen, hg⟩ := DataW.trod_struct Tryz.underlying37 hf
    match xs, hlen with
    | [y0, y1, y2, y3], _ =>
      have g0 : DataW.trod enc Tryz.prog W 0 (fun _ => true) true n 34 [c0, c1, c2] = some y0 := by simpa [Value.cells, h3] using hg 0 _ rfl
      have g1 : DataW.trod enc Tryz.prog W 0 (fun _ => true) true n 4 [c3] = some y1 := by simpa [Value.cells, s4] using hg 1 _ rfl
      have g2 : DataW.trod enc Tryz.prog W 0 (fun _ => true) true n 35 [c4] = some y2 := by simpa [Value.cells, s26] using hg 2 _ rfl
      have g3 : DataW.trod enc Tryz.prog W 0 (fun _ => true) true n 5 [c5] = some y3 := by simpa [Value.cells, s5] using hg 3 _ rfl
      obtain ⟨ts, m, _, _, _, htl, hgt⟩ := DataW.trod_struct Tryz.underlying34 g0
      match ts, htl with
      | [z0, z1, z2], _ =>
        have t0 : DataW.trod enc Tryz.prog W 0 (fun _ => true) true m 31 [c0] = some z0 := by simpa [s22] using hgt 0 _ rfl
        have t1 : DataW.trod enc Tryz.prog W 0 (fun _ => true) true m 32 [c1] = some z1 := by simpa [s23] using hgt 1 _ rfl
        have t2 : DataW.trod enc Tryz.prog W 0 (fun _ => true) true m 3 [c2] = some z2 := by simpa [s3] using hgt 2 _ rfl
        obtain ⟨PI, PL, pic, e0, hI, i1, i2, i3⟩ := sl_of_elems (w := W) ((0, 0, 0, 0) : In4) i4c 4 (by decide) (fun _ => rfl) In64 Tryz.underlying31 (by kernel_rfl) (fun _ _ _ ht hl => inst_el ht hl) t0
        obtain ⟨PC, PK, pcc, e1, hC, k1, k2, k3⟩ := sl_of_elems (w := W) csD (fun x => [clV x]) 1 (by decide) (fun _ => rfl) (fun r => Rs W r.A r.R ∧ r.R.length ≤ maxLen) Tryz.underlying32 (by kernel_rfl) (fun _ _ _ ht _ => class_el ht) t1
        obtain ⟨pg, e2, _, wpg⟩ := DataW.trod_int Tryz.underlying3 t2
        obtain ⟨own, e3, _⟩ := DataW.trod_bool Tryz.underlying4 g1
        obtain ⟨LA, L, lc, e4, hL, l1, l2, lw⟩ := sl_of_ints Tryz.underlying35 Tryz.underlying75 (by kernel_rfl) g2
        obtain ⟨g, e5, _, wg⟩ := DataW.trod_int Tryz.underlying5 g3
        injection e0 with e0
        injection e1 with e1
        injection e2 with e2
        injection e3 with e3
        injection e4 with e4
        injection e5 with e5
        subst e0 e1 e2 e3 e4 e5
        have hC' : Sl W PC (PK.map clV) := by
          rw [map_flat]
          exact hC
        have hgb := wf_u8b wg
        exact ⟨PI, PL, pic, PC, PK, pcc, pg, own, LA, L, lc, g, rfl, ⟨⟨hI, hC', k3, Nat.le_trans i1 i2, Nat.le_trans k1 k2⟩, i3, wf_i64b wpg, hL, Nat.le_trans l1 l2, u16_bd lw, hgb.1, hgb.2⟩⟩
end
end Go.Proofs.YtgppobaoclfgcaaGreatDoor
