/- A code opened with its sizes. Conditions: what each lemma says. -/
import Derived.Test.YtpeheppiolfpfaaDoorCodeB
import Derived.Test.YtpeheppiolfpfaaDoorRows
import Derived.SizedLaws
set_option linter.unusedVariables false
set_option linter.unusedSimpArgs false
namespace Go.Proofs.YtpeheppiolfpfaaDoor
open Go.ChangeShapes Go.WideShapes Go.RowKit Go.Lib Go.Deep
open Plain (Rg In4)
theorem bulk_pos {H : Type} (d : DataW H) : 1 ≤ Rows.uptoBulk d := by
  unfold Rows.uptoBulk
  split <;> omega
theorem bulk_len {H : Type} (l : List (DataW H)) : l.length ≤ Rows.uptoBulkAll l := by
  induction l with
  | nil => exact Nat.zero_le _
  | cons d l ih =>
    have := bulk_pos d
    simp only [Rows.uptoBulkAll, List.length_cons]
    omega
theorem bulk_mem {H : Type} {d : DataW H} {l : List (DataW H)} (h : d ∈ l) : Rows.uptoBulk d ≤ Rows.uptoBulkAll l := by
  induction l with
  | nil => cases h
  | cons y l ih =>
    simp only [Rows.uptoBulkAll]
    rcases List.mem_cons.1 h with rfl | h
    · omega
    · have := ih h
      omega
section
variable {H : Type} {enc : TypeId × Value → H} {P : Program} {w : World} {base : Nat} {held : Bool}
/-- a slice of elements of k cells, each opened by its own law; of bulk at most B -/
theorem sl_of_elems_b {α : Type} (dflt : α) (en : α → List Value) (k : Nat) (hk : 0 < k) (hen : ∀ r, (en r).length = k) (Pp : α → Prop) (B : Nat) {t e : TypeId} {fuel : Nat} {cs : List Value} {x : DataW H × List MemPlace} (ht : P.underlying t = some (.slice e)) (hc : P.cellsOf e = k)
    (hel : ∀ n cs' x, DataW.trod enc P w base (fun _ => true) held n e cs' = some x → Rows.uptoBulk x.1 ≤ B → cs'.length = k → ∃ r, cs' = en r ∧ Pp r) (h : DataW.trod enc P w base (fun _ => true) held fuel t cs = some x) (hz : Rows.uptoBulk x.1 ≤ B) :
    ∃ (A : Option Addr) (L : List α) (c : Nat), cs = [.slice A L.length c] ∧ Sl w A (L.flatMap en) ∧ L.length ≤ c ∧ c ≤ maxLen ∧ L.length ≤ B ∧ ∀ r ∈ L, Pp r := by
  rcases open_slice ht h with ⟨rfl, _⟩ | ⟨a, l, c, m, n, D, Pl, rfl, _, hl, hm, hmm, hxe, hi⟩
  · exact ⟨none, [], 0, rfl, Sl.nil _ _, Nat.le_refl _, Nat.zero_le _, Nat.zero_le _, fun r hr => absurd hr (by simp)⟩
  · simp only [if_true] at hmm
    subst hmm
    rw [hc] at hi
    have hxw : x.1 = .slice ((List.range l).map D) ((List.range (m - l)).map fun j => D (l + j)) := by rw [hxe]
    rw [hxw] at hz
    simp only [Rows.uptoBulk] at hz
    have hwe : ∀ i, i < l → Rows.uptoBulk (D i) ≤ B := fun i hi => by
      have := bulk_mem (l := (List.range l).map D) (List.mem_map.2 ⟨i, List.mem_range.2 hi, rfl⟩)
      omega
    have hwl : l ≤ B := by
      have := bulk_len ((List.range l).map D)
      rw [List.length_map, List.length_range] at this
      omega
    have hall : ∀ i, ∃ r : α, i < l → Pp r ∧ ∀ j u, (en r)[j]? = some u → w.cell? (a.add (i * k + j)) = some u := fun i => by
      by_cases hil : i < l
      · obtain ⟨cs', hcc, htt⟩ := hi i (by omega)
        obtain ⟨_, hcl, hat⟩ := World.cells?_some hcc
        obtain ⟨r, hr, hp⟩ := hel _ _ _ htt (hwe i hil) hcl
        refine ⟨r, fun _ => ⟨hp, fun j u hu => ?_⟩⟩
        subst hr
        have hj : j < k := by have := (List.getElem?_eq_some_iff.1 hu).1; rw [hen] at this; exact this
        have hq := hat j hj
        rw [Go.Deep.add_add] at hq
        rw [hq]
        exact hu
      · exact ⟨dflt, fun h => absurd h hil⟩
    obtain ⟨f, hf⟩ := Classical.axiomOfChoice hall
    have hlen : ((List.range l).map f).length = l := by simp
    refine ⟨some a, (List.range l).map f, m, by rw [hlen], ?_, by omega, hm, ?_, fun r hr => ?_⟩
    · have hfl : ∀ (L : List Nat) (b : Nat), (∀ i x, L[i]? = some x → x = b + i) → ∀ j u, ((L.map f).flatMap en)[j]? = some u → ∃ i q, b ≤ i ∧ i < b + L.length ∧ (en (f i))[q]? = some u ∧ j + b * k = i * k + q := by
        intro L
        induction L with
        | nil => intro b _ j u hu; simp at hu
        | cons y L ih =>
          intro b hb j u hu
          have hy : y = b := by have := hb 0 y rfl; simpa using this
          subst hy
          rw [List.map_cons, List.flatMap_cons] at hu
          by_cases hj : j < k
          · rw [List.getElem?_append_left (by rw [hen]; exact hj)] at hu
            exact ⟨y, j, Nat.le_refl _, by simp, hu, by omega⟩
          · rw [List.getElem?_append_right (by rw [hen]; omega), hen] at hu
            obtain ⟨i, q, h1, h2, h3, h4⟩ := ih (y + 1) (fun i x hx => by have := hb (i + 1) x (by simpa using hx); omega) (j - k) u hu
            refine ⟨i, q, by omega, by simp; omega, h3, ?_⟩
            rw [Nat.add_mul, Nat.one_mul] at h4
            omega
      refine sl_of_cells fun j u hu => ?_
      obtain ⟨i, q, _, h2, h3, h4⟩ := hfl (List.range l) 0 (fun i x hx => by
        have := List.getElem?_eq_some_iff.1 hx
        obtain ⟨h5, h6⟩ := this
        simp at h6; omega) j u hu
      have hil : i < l := by simpa using h2
      have := (hf i hil).2 q u h3
      rw [show i * k + q = j by omega] at this
      exact this
    · rw [hlen]; exact hwl
    · obtain ⟨i, hi', rfl⟩ := List.mem_map.1 hr
      exact (hf i (List.mem_range.1 hi')).1
end
/-- a program's sizes are at most 2^20 -/
structure Fit (L : List In4) (K : List Cs) : Prop where
  i : L.length ≤ 1048576
  k : K.length ≤ 1048576
  r : ∀ x ∈ K, x.R.length ≤ 1048576
section
variable {H : Type} {enc : TypeId × Value → H} {W : World}
theorem class_el_b {n : Nat} {cs : List Value} {x : DataW H × List MemPlace} (h : DataW.trod enc Tryd.prog W 0 (fun _ => true) true n 61 cs = some x) (hz : Rows.uptoBulk x.1 ≤ 1048576) : ∃ r : Cs, cs = [clV r] ∧ Rs W r.A r.R ∧ r.R.length ≤ maxLen ∧ r.R.length ≤ 1048576 := by
  obtain ⟨A, R, c, rfl, hs, h1, h2, h3, _⟩ := sl_of_elems_b (w := W) ((0, 0) : Rg) rgc 2 (by decide) (fun _ => rfl) (fun _ => True) 1048576 Tryd.underlying61 (by kernel_rfl) (fun _ _ _ ht _ hl => range_el ht hl) h hz
  exact ⟨⟨A, c, R⟩, rfl, rs_of_sl hs, Nat.le_trans h1 h2, h3⟩
set_option maxRecDepth 100000 in
theorem open_code_b {base : Nat} {v : Value} {d : DataW H} {p : List MemPlace} (hv : Value.okWide Tryd.prog W .any base 28 v) (h : DataW.Trod enc Tryd.prog W 0 (fun _ => true) true 28 v d p) (hz : Rows.uptoBulk d ≤ 1048576) :
    ∃ PI PL pic PC PK pcc pg own LA L lc g, v = .agg #[.slice PI PL.length pic, .slice PC PK.length pcc, .int .i64 pg, .bool own, .slice LA L.length lc, .int .u8 g] ∧ CodeAt W PI PL PC PK pg LA L g ∧ Fit PL PK := by
  obtain ⟨cs, rfl, hsz⟩ := okWide_struct Tryd.underlying28 hv
  have h6 : Tryd.prog.cellsOf 28 = 6 := by kernel_rfl
  have h3 : Tryd.prog.cellsOf 25 = 3 := by kernel_rfl
  have s4 : Tryd.prog.cellsOf 4 = 1 := by kernel_rfl
  have s26 : Tryd.prog.cellsOf 26 = 1 := by kernel_rfl
  have s5 : Tryd.prog.cellsOf 5 = 1 := by kernel_rfl
  have s22 : Tryd.prog.cellsOf 22 = 1 := by kernel_rfl
  have s23 : Tryd.prog.cellsOf 23 = 1 := by kernel_rfl
  have s3 : Tryd.prog.cellsOf 3 = 1 := by kernel_rfl
  obtain ⟨l⟩ := cs
  match l, hsz.trans h6 with
  | [c0, c1, c2, c3, c4, c5], _ =>
    obtain ⟨fuel, hf⟩ := h
    obtain ⟨xs, n, _, hx, _, hlen, hg⟩ := DataW.trod_struct Tryd.underlying28 hf
    match xs, hlen with
    | [y0, y1, y2, y3], _ =>
      have g0 : DataW.trod enc Tryd.prog W 0 (fun _ => true) true n 25 [c0, c1, c2] = some y0 := by simpa [Value.cells, h3] using hg 0 _ rfl
      have g1 : DataW.trod enc Tryd.prog W 0 (fun _ => true) true n 4 [c3] = some y1 := by simpa [Value.cells, s4] using hg 1 _ rfl
      have g2 : DataW.trod enc Tryd.prog W 0 (fun _ => true) true n 26 [c4] = some y2 := by simpa [Value.cells, s26] using hg 2 _ rfl
      have g3 : DataW.trod enc Tryd.prog W 0 (fun _ => true) true n 5 [c5] = some y3 := by simpa [Value.cells, s5] using hg 3 _ rfl
      obtain ⟨ts, m, _, hx2, _, htl, hgt⟩ := DataW.trod_struct Tryd.underlying25 g0
      match ts, htl with
      | [z0, z1, z2], _ =>
        have t0 : DataW.trod enc Tryd.prog W 0 (fun _ => true) true m 22 [c0] = some z0 := by simpa [s22] using hgt 0 _ rfl
        have t1 : DataW.trod enc Tryd.prog W 0 (fun _ => true) true m 23 [c1] = some z1 := by simpa [s23] using hgt 1 _ rfl
        have t2 : DataW.trod enc Tryd.prog W 0 (fun _ => true) true m 3 [c2] = some z2 := by simpa [s3] using hgt 2 _ rfl
        injection hx with hd _
        have hy : y0.1 = DataW.agg (List.map (fun x => x.fst) [z0, z1, z2]) := by rw [hx2]
        rw [hd] at hz
        simp only [List.map_cons, List.map_nil, Rows.uptoBulk, Rows.uptoBulkAll] at hz
        rw [hy] at hz
        simp only [List.map_cons, List.map_nil, Rows.uptoBulk, Rows.uptoBulkAll] at hz
        obtain ⟨PI, PL, pic, e0, hI, i1, i2, iz, i3⟩ := sl_of_elems_b (w := W) ((0, 0, 0, 0) : In4) i4c 4 (by decide) (fun _ => rfl) In64 1048576 Tryd.underlying22 (by kernel_rfl) (fun _ _ _ ht _ hl => inst_el ht hl) t0 (by omega)
        obtain ⟨PC, PK, pcc, e1, hC, k1, k2, kz, k3⟩ := sl_of_elems_b (w := W) csD (fun x => [clV x]) 1 (by decide) (fun _ => rfl) (fun r => Rs W r.A r.R ∧ r.R.length ≤ maxLen ∧ r.R.length ≤ 1048576) 1048576 Tryd.underlying23 (by kernel_rfl) (fun _ _ _ ht hz _ => class_el_b ht hz) t1 (by omega)
        obtain ⟨pg, e2, _, wpg⟩ := DataW.trod_int Tryd.underlying3 t2
        obtain ⟨own, e3, _⟩ := DataW.trod_bool Tryd.underlying4 g1
        obtain ⟨LA, L, lc, e4, hL, l1, l2, lw⟩ := sl_of_ints Tryd.underlying26 Tryd.underlying54 (by kernel_rfl) g2
        obtain ⟨g, e5, _, wg⟩ := DataW.trod_int Tryd.underlying5 g3
        injection e0 with e0
        injection e1 with e1
        injection e2 with e2
        injection e3 with e3
        injection e4 with e4
        injection e5 with e5
        subst e0 e1 e2 e3 e4 e5
        have hC' : Sl W PC (PK.map clV) := by
          rw [map_flat]
          exact hC
        have hgb := wf_u8b wg
        exact ⟨PI, PL, pic, PC, PK, pcc, pg, own, LA, L, lc, g, rfl, ⟨⟨hI, hC', fun r hr => ⟨(k3 r hr).1, (k3 r hr).2.1⟩, Nat.le_trans i1 i2, Nat.le_trans k1 k2⟩, i3, wf_i64b wpg, hL, Nat.le_trans l1 l2, u16_bd lw, hgb.1, hgb.2⟩, ⟨iz, kz, fun r hr => (k3 r hr).2.2⟩⟩
end
theorem code_fit (PI PC LA : Option Addr) (PL : List In4) (PK : List Cs) (pic pcc lc : Nat) (pg : Int) (own : Bool) (L : List Int) (g : Int) (W w : World) (hC : CodeAt W PI PL PC PK pg LA L g) (hF : Fit PL PK) (hb : Below W.heap.size W w) :
    Calls Tryd.prog 10 #[.agg #[.slice PI PL.length pic, .slice PC PK.length pcc, .int .i64 pg, .bool own, .slice LA L.length lc, .int .u8 g]] w fun e w' =>
      ∃ (I C : Option Addr) (L : List In4) (K : List Cs) (c d : Nat) (g : Int), e = .returned (pgV I L.length c C K.length d g) ∧ PgAt w' I L C K ∧ Below w.heap.size w w' ∧ (∀ t ∈ L, In64 t) ∧ Fit L K := by
  cases own
  · refine (code_not PI PC LA PL.length pic PK.length pcc L.length lc pg g w).mono ?_
    rintro e w' ⟨rfl, hbb⟩
    exact ⟨PI, PC, PL, PK, pic, pcc, pg, rfl, (hC.p.below hb).below hbb, hbb, hC.wide, hF⟩
  · refine (code_own PI PC LA PL.length pic PK.length pcc lc pg g L w hC.g0 hC.g1 (hC.l.below hb) hC.ll hC.lb).mono ?_
    rintro e w' ⟨I, c, gc, K, rfl, hO, hP, hK, hbb⟩
    have hk := (codeK_ok K hK).1
    refine ⟨I, some ⟨gc, 0, none⟩, codeLn L g, K, c, 3, g % 3, by rw [hk], hP, hbb, fun t ht => small_in64 (codeLn_mem L g hC.g0 hC.lb t ht).1, ⟨?_, ?_, fun x hx => ?_⟩⟩
    · have : (codeLn L g).length ≤ 15 := by rw [codeLn_len]; omega
      omega
    · rw [hk]; decide
    · have h : x.R ∈ K.map Cs.R := List.mem_map.2 ⟨x, hx, rfl⟩
      rw [hK] at h
      simp only [List.mem_cons, List.not_mem_nil, or_false] at h
      rcases h with h | h | h <;> (rw [h]; decide)
end Go.Proofs.YtpeheppiolfpfaaDoor
