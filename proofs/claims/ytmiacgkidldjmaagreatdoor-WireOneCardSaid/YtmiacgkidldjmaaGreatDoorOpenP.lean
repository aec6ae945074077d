/- Arguments opened: a program by its parts. Conditions: what each lemma says. -/
import Derived.Test.YtmiacgkidldjmaaGreatDoorCodeA
import Derived.Deep.Slices
import Derived.Deep.Grids
set_option linter.unusedVariables false
set_option linter.unusedSimpArgs false
namespace Go.Proofs.YtmiacgkidldjmaaGreatDoor
open Go.RowKit Go.Lib
open Plain (Rg May mayB In Norm In4 slotsOf insB bnd riB cls cnot rightB normB)
theorem slotsOf_sm (g : Int) (h : 0 ≤ g) (h2 : g < 1000000000000) : slotsOf g = 2 * g + 2 := by
  unfold slotsOf
  rw [if_neg (by omega), IntWalk.wrap64_in (2 * g) (by omega), IntWalk.wrap64_in (2 * g + 2) (by omega)]
end Go.Proofs.YtmiacgkidldjmaaGreatDoor
namespace Go.Proofs.YtmiacgkidldjmaaGreatDoor
open Go.ChangeShapes Go.WideShapes Go.RowKit Go.Lib Go.Deep
open Plain (Rg In4)
section
variable {H : Type} {enc : TypeId × Value → H} {P : Program} {w : World} {base : Nat} {held : Bool}
/-- a slice of elements of k cells, each opened by its own law -/
theorem sl_of_elems {α : Type} (dflt : α) (en : α → List Value) (k : Nat) (hk : 0 < k) (hen : ∀ r, (en r).length = k) (Pp : α → Prop) {t e : TypeId} {fuel : Nat} {cs : List Value} {x : DataW H × List MemPlace} (ht : P.underlying t = some (.slice e)) (hc : P.cellsOf e = k)
    (hel : ∀ n cs' x, DataW.trod enc P w base (fun _ => true) held n e cs' = some x → cs'.length = k → ∃ r, cs' = en r ∧ Pp r) (h : DataW.trod enc P w base (fun _ => true) held fuel t cs = some x) :
    ∃ (A : Option Addr) (L : List α) (c : Nat), cs = [.slice A L.length c] ∧ Sl w A (L.flatMap en) ∧ L.length ≤ c ∧ c ≤ maxLen ∧ ∀ r ∈ L, Pp r := by
  rcases open_slice ht h with ⟨rfl, _⟩ | ⟨a, l, c, m, n, D, Pl, rfl, _, hl, hm, hmm, _, hi⟩
  · exact ⟨none, [], 0, rfl, Sl.nil _ _, Nat.le_refl _, Nat.zero_le _, fun r hr => absurd hr (by simp)⟩
  · simp only [if_true] at hmm
    subst hmm
    rw [hc] at hi
    have hall : ∀ i, ∃ r : α, i < l → Pp r ∧ ∀ j u, (en r)[j]? = some u → w.cell? (a.add (i * k + j)) = some u := fun i => by
      by_cases hil : i < l
      · obtain ⟨cs', hcc, htt⟩ := hi i (by omega)
        obtain ⟨_, hcl, hat⟩ := World.cells?_some hcc
        obtain ⟨r, hr, hp⟩ := hel _ _ _ htt hcl
        refine ⟨r, fun _ => ⟨hp, fun j u hu => ?_⟩⟩
        subst hr
        have hj : j < k := by have := (List.getElem?_eq_some_iff.1 hu).1; rw [hen] at this; exact this
        have hq := hat j hj
        rw [Go.Deep.add_add] at hq
        rw [hq]
        exact hu
      · exact ⟨dflt, fun h => absurd h hil⟩
    obtain ⟨f, hf⟩ := Classical.axiomOfChoice hall
    have hlen : ((List.range l).map f).length = l := by simp
    refine ⟨some a, (List.range l).map f, m, by rw [hlen], ?_, by omega, hm, fun r hr => ?_⟩
    · have hfl : ∀ (L : List Nat) (b : Nat), (∀ i x, L[i]? = some x → x = b + i) → ∀ j u, ((L.map f).flatMap en)[j]? = some u → ∃ i q, b ≤ i ∧ i < b + L.length ∧ (en (f i))[q]? = some u ∧ j + b * k = i * k + q := by
        intro L
        induction L with
        | nil => intro b _ j u hu; simp at hu
        | cons y L ih =>
          intro b hb j u hu
          have hy : y = b := by have := hb 0 y rfl; simpa using this
          subst hy
          rw [List.map_cons, List.flatMap_cons] at hu
          by_cases hj : j < k
          · rw [List.getElem?_append_left (by rw [hen]; exact hj)] at hu
            exact ⟨y, j, Nat.le_refl _, by simp, hu, by omega⟩
          · rw [List.getElem?_append_right (by rw [hen]; omega), hen] at hu
            obtain ⟨i, q, h1, h2, h3, h4⟩ := ih (y + 1) (fun i x hx => by have := hb (i + 1) x (by simpa using hx); omega) (j - k) u hu
            refine ⟨i, q, by omega, by simp; omega, h3, ?_⟩
            rw [Nat.add_mul, Nat.one_mul] at h4
            omega
      refine sl_of_cells fun j u hu => ?_
      obtain ⟨i, q, _, h2, h3, h4⟩ := hfl (List.range l) 0 (fun i x hx => by
        have := List.getElem?_eq_some_iff.1 hx
        obtain ⟨h5, h6⟩ := this
        simp at h6; omega) j u hu
      have hil : i < l := by simpa using h2
      have := (hf i hil).2 q u h3
      rw [show i * k + q = j by omega] at this
      exact this
    · obtain ⟨i, hi', rfl⟩ := List.mem_map.1 hr
      exact (hf i (List.mem_range.1 hi')).1
end
end Go.Proofs.YtmiacgkidldjmaaGreatDoor
namespace Go.Proofs.YtmiacgkidldjmaaGreatDoor
open Go.ChangeShapes Go.WideShapes Go.RowKit Go.Lib Go.Deep
open Plain (Rg In4)
theorem ints_bd {k : IntKind} {L : List Int} (h : ∀ n ∈ L, (Lit.int k n).wf = true) (j : Nat) (hj : j < L.length) : k.min ≤ L.getD j 0 ∧ L.getD j 0 ≤ k.max := by
  have h1 := h _ (List.getElem_mem hj)
  rw [Plain.getD_lt _ _ _ hj]
  simpa [Lit.wf] using h1
theorem u16_bd {L : List Int} (h : ∀ n ∈ L, (Lit.int .u16 n).wf = true) (j : Nat) (hj : j < L.length) : 0 ≤ L.getD j 0 ∧ L.getD j 0 < 65536 := by
  have h1 := ints_bd h j hj
  have h2 : IntKind.u16.min = 0 := by decide
  have h3 : IntKind.u16.max = 65535 := by decide
  omega
theorem wf_u8b {n : Int} (h : (Lit.int .u8 n).wf = true) : 0 ≤ n ∧ n < 256 := by
  simp [Lit.wf] at h
  have h2 : IntKind.u8.min = 0 := by decide
  have h3 : IntKind.u8.max = 255 := by decide
  omega
theorem wf_i64b {n : Int} (h : (Lit.int .i64 n).wf = true) : -9223372036854775808 ≤ n ∧ n ≤ 9223372036854775807 := by
  simp [Lit.wf] at h
  have h2 : IntKind.i64.min = -9223372036854775808 := by decide
  have h3 : IntKind.i64.max = 9223372036854775807 := by decide
  omega
def Int64 (n : Int) : Prop := -9223372036854775808 ≤ n ∧ n ≤ 9223372036854775807
def In64 (t : In4) : Prop := Int64 t.1 ∧ Int64 t.2.1 ∧ Int64 t.2.2.1 ∧ Int64 t.2.2.2
structure CodeAt (W : World) (PI : Option Addr) (PL : List In4) (PC : Option Addr) (PK : List Cs) (pg : Int) (LA : Option Addr) (L : List Int) (g : Int) : Prop where
  p : PgAt W PI PL PC PK
  wide : ∀ t ∈ PL, In64 t
  gw : Int64 pg
  l : Sl W LA (L.map (Value.int .u16))
  ll : L.length ≤ maxLen
  lb : ∀ k, k < L.length → 0 ≤ L.getD k 0 ∧ L.getD k 0 < 65536
  g0 : 0 ≤ g
  g1 : g < 256
theorem map_flat {α β : Type} (f : α → β) (L : List α) : L.map f = L.flatMap (fun x => [f x]) := by
  induction L with
  | nil => rfl
  | cons a l ih => rw [List.map_cons, List.flatMap_cons, ← ih]; rfl
section
variable {H : Type} {enc : TypeId × Value → H} {W : World}
theorem inst_el {n : Nat} {cs : List Value} {x : DataW H × List MemPlace} (h : DataW.trod enc Tryz.prog W 0 (fun _ => true) true n 94 cs = some x) (hl : cs.length = 4) : ∃ r : In4, cs = i4c r ∧ In64 r := by
  have s3 : Tryz.prog.cellsOf 3 = 1 := by kernel_rfl
  match cs, hl with
  | [c0, c1, c2, c3], _ =>
    obtain ⟨ys, m, _, _, _, hlen, hg⟩ := DataW.trod_struct Tryz.underlying94 h
    match ys, hlen with
    | [y0, y1, y2, y3], _ =>
      have g0 : DataW.trod enc Tryz.prog W 0 (fun _ => true) true m 3 [c0] = some y0 := by simpa [s3] using hg 0 _ rfl
      have g1 : DataW.trod enc Tryz.prog W 0 (fun _ => true) true m 3 [c1] = some y1 := by simpa [s3] using hg 1 _ rfl
      have g2 : DataW.trod enc Tryz.prog W 0 (fun _ => true) true m 3 [c2] = some y2 := by simpa [s3] using hg 2 _ rfl
      have g3 : DataW.trod enc Tryz.prog W 0 (fun _ => true) true m 3 [c3] = some y3 := by simpa [s3] using hg 3 _ rfl
      obtain ⟨a, ha, _, wa⟩ := DataW.trod_int Tryz.underlying3 g0
      obtain ⟨b, hb, _, wb⟩ := DataW.trod_int Tryz.underlying3 g1
      obtain ⟨c, hc, _, wc⟩ := DataW.trod_int Tryz.underlying3 g2
      obtain ⟨d, hd, _, wd⟩ := DataW.trod_int Tryz.underlying3 g3
      simp only [List.cons.injEq, and_true] at ha hb hc hd
      subst ha hb hc hd
      exact ⟨(a, b, c, d), rfl, wf_i64b wa, wf_i64b wb, wf_i64b wc, wf_i64b wd⟩
theorem range_el {n : Nat} {cs : List Value} {x : DataW H × List MemPlace} (h : DataW.trod enc Tryz.prog W 0 (fun _ => true) true n 104 cs = some x) (hl : cs.length = 2) : ∃ r : Rg, cs = rgc r ∧ True := by
  have s3 : Tryz.prog.cellsOf 21 = 1 := by kernel_rfl
  match cs, hl with
  | [c0, c1], _ =>
    obtain ⟨ys, m, _, _, _, hlen, hg⟩ := DataW.trod_struct Tryz.underlying104 h
    match ys, hlen with
    | [y0, y1], _ =>
      have g0 : DataW.trod enc Tryz.prog W 0 (fun _ => true) true m 21 [c0] = some y0 := by simpa [s3] using hg 0 _ rfl
      have g1 : DataW.trod enc Tryz.prog W 0 (fun _ => true) true m 21 [c1] = some y1 := by simpa [s3] using hg 1 _ rfl
      obtain ⟨a, ha, _, wa⟩ := DataW.trod_int Tryz.underlying21 g0
      obtain ⟨b, hb, _, wb⟩ := DataW.trod_int Tryz.underlying21 g1
      simp only [List.cons.injEq, and_true] at ha hb
      subst ha hb
      exact ⟨(a, b), rfl, trivial⟩
theorem rs_of_sl {A : Option Addr} {R : List Rg} (h : Sl W A (rgs R)) : Rs W A R := fun hn => by
  obtain ⟨b, off, e, hb, hc⟩ := h (by
    cases R with
    | nil => simp at hn
    | cons r R => simp [rgs, rgc])
  exact ⟨b, off, e, hb, fun i r hr => ⟨hc _ _ (rgs_get R i r hr).1, by rw [Nat.add_assoc]; exact hc _ _ (rgs_get R i r hr).2⟩⟩
theorem class_el {n : Nat} {cs : List Value} {x : DataW H × List MemPlace} (h : DataW.trod enc Tryz.prog W 0 (fun _ => true) true n 102 cs = some x) : ∃ r : Cs, cs = [clV r] ∧ Rs W r.A r.R ∧ r.R.length ≤ maxLen := by
  obtain ⟨A, R, c, rfl, hs, h1, h2, _⟩ := sl_of_elems (w := W) ((0, 0) : Rg) rgc 2 (by decide) (fun _ => rfl) (fun _ => True) Tryz.underlying102 (by kernel_rfl) (fun _ _ _ ht hl => range_el ht hl) h
  exact ⟨⟨A, c, R⟩, rfl, rs_of_sl hs, Nat.le_trans h1 h2⟩
set_option maxRecDepth 100000 in
theorem open_code {base : Nat} {v : Value} {d : DataW H} {p : List MemPlace} (hv : Value.okWide Tryz.prog W .any base 28 v) (h : DataW.Trod enc Tryz.prog W 0 (fun _ => true) true 28 v d p) :
    ∃ PI PL pic PC PK pcc pg own LA L lc g, v = .agg #[.slice PI PL.length pic, .slice PC PK.length pcc, .int .i64 pg, .bool own, .slice LA L.length lc, .int .u8 g] ∧ CodeAt W PI PL PC PK pg LA L g := by
  obtain ⟨cs, rfl, hsz⟩ := okWide_struct Tryz.underlying28 hv
  have h6 : Tryz.prog.cellsOf 28 = 6 := by kernel_rfl
  have h3 : Tryz.prog.cellsOf 25 = 3 := by kernel_rfl
  have s4 : Tryz.prog.cellsOf 4 = 1 := by kernel_rfl
  have s26 : Tryz.prog.cellsOf 26 = 1 := by kernel_rfl
  have s5 : Tryz.prog.cellsOf 5 = 1 := by kernel_rfl
  have s22 : Tryz.prog.cellsOf 22 = 1 := by kernel_rfl
  have s23 : Tryz.prog.cellsOf 23 = 1 := by kernel_rfl
  have s3 : Tryz.prog.cellsOf 3 = 1 := by kernel_rfl
  obtain ⟨l⟩ := cs
  match l, hsz.trans h6 with
  | [c0, c1, c2, c3, c4, c5], _ =>
    obtain ⟨fuel, hf⟩ := h
    obtain ⟨xs, n, _, hx, _, hlen, hg⟩ := DataW.trod_struct Tryz.underlying28 hf
    match xs, hlen with
    | [y0, y1, y2, y3], _ =>
      have g0 : DataW.trod enc Tryz.prog W 0 (fun _ => true) true n 25 [c0, c1, c2] = some y0 := by simpa [Value.cells, h3] using hg 0 _ rfl
      have g1 : DataW.trod enc Tryz.prog W 0 (fun _ => true) true n 4 [c3] = some y1 := by simpa [Value.cells, s4] using hg 1 _ rfl
      have g2 : DataW.trod enc Tryz.prog W 0 (fun _ => true) true n 26 [c4] = some y2 := by simpa [Value.cells, s26] using hg 2 _ rfl
      have g3 : DataW.trod enc Tryz.prog W 0 (fun _ => true) true n 5 [c5] = some y3 := by simpa [Value.cells, s5] using hg 3 _ rfl
      obtain ⟨ts, m, _, _, _, htl, hgt⟩ := DataW.trod_struct Tryz.underlying25 g0
      match ts, htl with
      | [z0, z1, z2], _ =>
        have t0 : DataW.trod enc Tryz.prog W 0 (fun _ => true) true m 22 [c0] = some z0 := by simpa [s22] using hgt 0 _ rfl
        have t1 : DataW.trod enc Tryz.prog W 0 (fun _ => true) true m 23 [c1] = some z1 := by simpa [s23] using hgt 1 _ rfl
        have t2 : DataW.trod enc Tryz.prog W 0 (fun _ => true) true m 3 [c2] = some z2 := by simpa [s3] using hgt 2 _ rfl
        obtain ⟨PI, PL, pic, e0, hI, i1, i2, i3⟩ := sl_of_elems (w := W) ((0, 0, 0, 0) : In4) i4c 4 (by decide) (fun _ => rfl) In64 Tryz.underlying22 (by kernel_rfl) (fun _ _ _ ht hl => inst_el ht hl) t0
        obtain ⟨PC, PK, pcc, e1, hC, k1, k2, k3⟩ := sl_of_elems (w := W) csD (fun x => [clV x]) 1 (by decide) (fun _ => rfl) (fun r => Rs W r.A r.R ∧ r.R.length ≤ maxLen) Tryz.underlying23 (by kernel_rfl) (fun _ _ _ ht _ => class_el ht) t1
        obtain ⟨pg, e2, _, wpg⟩ := DataW.trod_int Tryz.underlying3 t2
        obtain ⟨own, e3, _⟩ := DataW.trod_bool Tryz.underlying4 g1
        obtain ⟨LA, L, lc, e4, hL, l1, l2, lw⟩ := sl_of_ints Tryz.underlying26 Tryz.underlying48 (by kernel_rfl) g2
        obtain ⟨g, e5, _, wg⟩ := DataW.trod_int Tryz.underlying5 g3
        injection e0 with e0
        injection e1 with e1
        injection e2 with e2
        injection e3 with e3
        injection e4 with e4
        injection e5 with e5
        subst e0 e1 e2 e3 e4 e5
        have hC' : Sl W PC (PK.map clV) := by
          rw [map_flat]
          exact hC
        have hgb := wf_u8b wg
        exact ⟨PI, PL, pic, PC, PK, pcc, pg, own, LA, L, lc, g, rfl, ⟨⟨hI, hC', k3, Nat.le_trans i1 i2, Nat.le_trans k1 k2⟩, i3, wf_i64b wpg, hL, Nat.le_trans l1 l2, u16_bd lw, hgb.1, hgb.2⟩⟩
end
end Go.Proofs.YtmiacgkidldjmaaGreatDoor
namespace Go.Proofs.YtmiacgkidldjmaaGreatDoor.Plain
theorem opG_bd (n : Int) (hn : 0 ≤ n) : 0 ≤ opG n ∧ opG n ≤ 5 := by
  rcases opG_cases n hn with h | h | h | h | h | h <;> omega
theorem xG_bd (m i : Nat) (n : Int) (hn : 0 ≤ n) (hi : i < m) (hm : m ≤ 14) : 0 ≤ xG m i n ∧ xG m i n ≤ m := by
  unfold xG
  split
  · omega
  · have h1 := Int.emod_nonneg (n / 16) (show ((m : Int) + 1) ≠ 0 by omega)
    have h2 := Int.emod_lt_of_pos (n / 16) (show (0 : Int) < (m : Int) + 1 by omega)
    omega
def small (t : In4) : Prop := (0 ≤ t.1 ∧ t.1 < 100) ∧ (0 ≤ t.2.1 ∧ t.2.1 < 100) ∧ (0 ≤ t.2.2.1 ∧ t.2.2.1 < 100) ∧ 0 ≤ t.2.2.2 ∧ t.2.2.2 < 100
theorem inst_small (m i : Nat) (g n : Int) (hn : 0 ≤ n) (hi : i < m) (hm : m ≤ 14) (hg0 : 0 ≤ g) (hg : g ≤ 2) : small (instG m i g n) ∧ riB (m + 1) 3 g (instG m i g n) = true := by
  have h1 := opG_bd n hn
  have h2 := xG_bd m i n hn hi hm
  have h3 : 0 ≤ xO m i n ∧ xO m i n ≤ m := by unfold xO; split <;> omega
  have hx0 : opG n = 0 → xO m i n = 0 := fun h => by unfold xO; rw [if_pos h]
  have h4 : 0 ≤ yG m n ∧ yG m n ≤ m ∧ (opG n ≠ 2 → yG m n = 0) := by
    unfold yG
    split
    · have h1 := Int.emod_nonneg (n / 256) (show ((m : Int) + 1) ≠ 0 by omega)
      have h2 := Int.emod_lt_of_pos (n / 256) (show (0 : Int) < (m : Int) + 1 by omega)
      exact ⟨h1, by omega, fun h => absurd (by assumption) h⟩
    · exact ⟨Int.le_refl _, by omega, fun _ => rfl⟩
  have h5 : 0 ≤ aG g n ∧ aG g n ≤ 6 ∧ (opG n = 1 → aG g n < 3) ∧ (opG n = 4 → aG g n < 2 * g + 2) ∧ (opG n = 5 → aG g n < 4) ∧ (opG n ≠ 1 → opG n ≠ 4 → opG n ≠ 5 → aG g n = 0) := by
    unfold aG
    split
    · have e1 := Int.emod_nonneg (n / 8 % 8) (show (3 : Int) ≠ 0 by omega)
      have e2 := Int.emod_lt_of_pos (n / 8 % 8) (show (0 : Int) < 3 by omega)
      exact ⟨e1, by omega, by omega, by omega, by omega, by omega⟩
    · split
      · have e1 := Int.emod_nonneg (n / 8 % 8) (show (2 * g + 2 : Int) ≠ 0 by omega)
        have e2 := Int.emod_lt_of_pos (n / 8 % 8) (show (0 : Int) < 2 * g + 2 by omega)
        exact ⟨e1, by omega, by omega, by omega, by omega, by omega⟩
      · split
        · have e1 := Int.emod_nonneg (n / 8 % 8) (show (4 : Int) ≠ 0 by omega)
          have e2 := Int.emod_lt_of_pos (n / 8 % 8) (show (0 : Int) < 4 by omega)
          exact ⟨e1, by omega, by omega, by omega, by omega, by omega⟩
        · exact ⟨Int.le_refl _, by omega, by omega, by omega, by omega, by omega⟩
  obtain ⟨y0, y1, y2⟩ := h4
  obtain ⟨a0, a1, a2, a3, a4, a5⟩ := h5
  refine ⟨⟨⟨h1.1, by show opG n < 100; omega⟩, ⟨h3.1, by show xO m i n < 100; omega⟩, ⟨y0, by show yG m n < 100; omega⟩, a0, by show aG g n < 100; omega⟩, ?_⟩
  have hs : slotsOf g = 2 * g + 2 := slotsOf_sm g hg0 (by omega)
  have hor := opG_cases n hn
  unfold riB instG insB bnd
  dsimp only
  rw [hs]
  generalize opG n = o at *
  generalize xO m i n = x at *
  generalize yG m n = y at *
  generalize aG g n = a at *
  rcases hor with rfl | rfl | rfl | rfl | rfl | rfl <;> simp at * <;> omega
theorem codeL_mem (X : Nat → Int) (m : Nat) (g : Int) (hm : m ≤ 14) (hg0 : 0 ≤ g) (hg : g ≤ 2) (hX : ∀ k, k < m → 0 ≤ X k) : ∀ t ∈ codeL X m g, small t ∧ riB (m + 1) 3 g t = true := by
  intro t ht
  unfold codeL codeG at ht
  rcases List.mem_append.1 ht with h | h
  · obtain ⟨i, hi, rfl⟩ := List.mem_map.1 h
    have hi' := List.mem_range.1 hi
    exact inst_small m i g (X i) (hX i hi') hi' hm hg0 hg
  · rw [List.mem_singleton.1 h]
    refine ⟨by simp [small], ?_⟩
    simp [riB, insB, bnd]
end Go.Proofs.YtmiacgkidldjmaaGreatDoor.Plain
namespace Go.Proofs.YtmiacgkidldjmaaGreatDoor
open Go.RowKit Go.Lib
open Plain (Rg May mayB In Norm In4 slotsOf insB bnd riB cls cnot rightB normB small)
theorem codeLn_len (L : List Int) (g : Int) : (codeLn L g).length = min L.length 14 + 1 := Plain.codeL_len _ _ _
theorem codeLn_mem (L : List Int) (g : Int) (h0 : 0 ≤ g) (hX : ∀ k, k < L.length → 0 ≤ L.getD k 0 ∧ L.getD k 0 < 65536) : ∀ t ∈ codeLn L g, small t ∧ riB (codeLn L g).length 3 (g % 3) t = true := by
  rw [codeLn_len]
  exact Plain.codeL_mem _ _ _ (by omega) (by omega) (by omega) (fun k hk => (hX k (by omega)).1)
theorem codeK_ok : ∀ (K : List Cs), K.map Cs.R = [kA, kB, kN] → K.length = 3 ∧ (K.any fun x => badB x.R) = false := by
  intro K h
  have h1 := congrArg List.length h
  simp at h1
  refine ⟨h1, ?_⟩
  have : (K.any fun x => badB x.R) = (K.map Cs.R).any badB := by rw [List.any_map]; rfl
  rw [this, h]
  rfl
/-- what numbers make is right -/
theorem code_right (L : List Int) (g : Int) (K : List Cs) (h0 : 0 ≤ g) (hX : ∀ k, k < L.length → 0 ≤ L.getD k 0 ∧ L.getD k 0 < 65536) (hK : K.map Cs.R = [kA, kB, kN]) : pgR (codeLn L g) K (g % 3) = true := by
  have hm := codeLn_mem L g h0 hX
  have hl := codeLn_len L g
  obtain ⟨k1, k2⟩ := codeK_ok K hK
  unfold pgR
  rw [k1, k2]
  have : ((codeLn L g).any fun t => !riB (codeLn L g).length 3 (g % 3) t) = false := by
    rw [List.any_eq_false]
    intro t ht
    rw [(hm t ht).2]; simp
  rw [this, hl]
  simp
  omega
end Go.Proofs.YtmiacgkidldjmaaGreatDoor
