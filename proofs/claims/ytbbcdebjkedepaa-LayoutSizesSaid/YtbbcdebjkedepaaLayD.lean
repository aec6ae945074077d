/- layout.Back: what the code computes. Conditions: what each lemma says. -/
import Derived.Test.YtbbcdebjkedepaaLayC
import Derived.Deep.RegionHeld3
set_option linter.unusedVariables false
set_option linter.unusedSimpArgs false
namespace Go.Proofs.Ytbbcdebjkedepaa
open Go.RowKit Go.Lib
open Plain (Rg May mayB In Norm In4 slotsOf insB bnd riB cls cnot rightB normB)
/-- a program that grows in a block of its own -/
structure Pb (B : World) (gp : Nat) (w : World) (v0 vC : Value) (g : Int) (n : Nat) (xs : List Value) : Prop where
  blk : w.heap[gp]? = some (.cells #[v0, vC, .int .i64 g] 25 (0, 0))
  own : w.ownsRow B.heap.size 84 4 v0 n xs
  below : Below B.heap.size B w
  ge : B.heap.size ≤ gp
  n0 : v0.ownBlock ≠ some gp
section
variable {B w w2 : World} {gp n m : Nat} {v0 vC v' : Value} {g : Int} {xs y : List Value}
theorem Pb.cell (h : Pb B gp w v0 vC g n xs) : w.cell? ⟨gp, 0, none⟩ = some v0 ∧ w.cell? ⟨gp, 1, none⟩ = some vC ∧ w.cell? ⟨gp, 2, none⟩ = some (.int .i64 g) := blk_cells3 h.blk
theorem Pb.kept (h : Pb B gp w v0 vC g n xs) (hb : Below w.heap.size w w2) : Pb B gp w2 v0 vC g n xs :=
  ⟨blk_later h.blk hb, own_below h.own hb, h.below.trans (hb.mono h.below.size), h.ge, h.n0⟩
theorem Pb.push (h : Pb B gp w v0 vC g n xs) (ho : w2.ownsRow B.heap.size 84 4 v' m (xs ++ y)) (hg : w.grownBy w2 v0.ownBlock) (hb : v'.ownBlock = v0.ownBlock ∨ v'.ownBlock = some w.heap.size) :
    Pb B gp (w2.setCell ⟨gp, 0, none⟩ v') v' vC g m (xs ++ y) := by
  have hlt := lt_of_some h.blk
  have hn' : v'.ownBlock ≠ some gp := by
    rcases hb with e | e
    · rw [e]; exact h.n0
    · rw [e]; intro e; injection e with e; omega
  exact ⟨heap_setCell_same _ _ _ _ _ _ (blk_gr h.blk hg h.n0), ownsRow_setCell_other ho hn' _, (h.below.grown hg h.below.size (fun k hk => (h.own.lt k hk).1)).setCell h.ge _, h.ge, hn'⟩
end
theorem Sl.set {w : World} {A : Option Addr} {xs : List Value} {gp j : Nat} {u : Value} (h : Sl w A xs) (hne : ∀ b o, 0 < xs.length → A = some ⟨b, o, none⟩ → b ≠ gp) : Sl (w.setCell ⟨gp, j, none⟩ u) A xs := fun hn => by
  obtain ⟨b, off, e, hl, hc⟩ := h hn
  have hb := hne b off hn e
  refine ⟨b, off, e, by simpa [World.setCell] using hl, fun i v hi => ?_⟩
  exact (World.cell?_of_block (a := ⟨b, _, none⟩) (heap_setCell_other w ⟨gp, j, none⟩ b u hb)).trans (hc i v hi)
theorem PgAt.set {w : World} {I C : Option Addr} {L : List In4} {M : List Cs} {gp : Nat} (h : PgAt w I L C M) (h1 : ∀ b o, 0 < L.length → I = some ⟨b, o, none⟩ → b ≠ gp) (h2 : ∀ b o, 0 < M.length → C = some ⟨b, o, none⟩ → b ≠ gp) (h3 : ∀ x ∈ M, ∀ b o, x.A = some ⟨b, o, none⟩ → b ≠ gp) (j : Nat) (u : Value) : PgAt (w.setCell ⟨gp, j, none⟩ u) I L C M :=
  ⟨h.insts.set fun b o hn e => h1 b o (by rw [i4s_len] at hn; omega) e, h.cls.set fun b o hn e => h2 b o (by rwa [List.length_map] at hn) e, fun x hx => ⟨(h.each x hx).1.set (h3 x hx), (h.each x hx).2⟩, h.li, h.lc⟩
theorem Sl.not_box {w : World} {A : Option Addr} {M : List Cs} {gp : Nat} {g : Int} (h : Sl w A (M.map clV)) (hn : 0 < M.length) (hne : ∀ x ∈ M, 0 < x.R.length) (hb : w.heap[gp]? = some (.cells #[.slice none 0 0, .slice none 0 0, .int .i64 g] 25 (0, 0))) : ∀ b o, A = some ⟨b, o, none⟩ → b ≠ gp := fun b o e hbg => by
  subst hbg
  obtain ⟨b', off, e', hl, hc⟩ := h (by rwa [List.length_map])
  rw [e] at e'
  injection e' with e'
  injection e' with e1 e2
  subst e1
  subst e2
  have hm0 : (M.map clV)[0]? = some (clV M[0]) := by rw [List.getElem?_map, List.getElem?_eq_getElem hn]; rfl
  have := hc 0 _ hm0
  rw [cell_of_row _ _ _ _ _ _ hb] at this
  have hr := hne M[0] (List.getElem_mem hn)
  unfold clV at this
  match o, this with
  | 0, h => simp at h; omega
  | 1, h => simp at h; omega
  | 2, h => simp at h
  | n + 3, h => simp at h
def noPg : Value := .agg #[.slice none 0 0, .slice none 0 0, .int .i64 0]
theorem info84b : (Try.prog.info? 84).map (fun i => (i.zero, i.size, i.bytes)) = some (some (.agg #[.int .i64 0, .int .i64 0, .int .i64 0, .int .i64 0]), 4, 32) := by kernel_rfl
def RecOk (t : In4) : Prop := (0 ≤ t.1 ∧ t.1 < 4294967296) ∧ (0 ≤ t.2.1 ∧ t.2.1 < 4294967296) ∧ (0 ≤ t.2.2.1 ∧ t.2.2.1 < 4294967296) ∧ 0 ≤ t.2.2.2 ∧ t.2.2.2 < 4294967296
theorem w32_id2 {x : Int} (h : 0 ≤ x ∧ x < 4294967296) : w32 x = x := by unfold w32; omega
theorem recsC_get : ∀ (R : List In4) (k : Nat) (t : In4), R[k]? = some t → (recsC R)[k * 4]? = some (.int .u32 (w32 t.1)) ∧ (recsC R)[k * 4 + 1]? = some (.int .u32 (w32 t.2.1)) ∧ (recsC R)[k * 4 + 2]? = some (.int .u32 (w32 t.2.2.1)) ∧ (recsC R)[k * 4 + 3]? = some (.int .u32 (w32 t.2.2.2))
  | [], k, r, h => by simp at h
  | x :: R, 0, r, h => by simp at h; subst h; exact ⟨rfl, rfl, rfl, rfl⟩
  | x :: R, k + 1, r, h => by
    have := recsC_get R k r (by simpa using h)
    have e : recsC (x :: R) = .int .u32 (w32 x.1) :: .int .u32 (w32 x.2.1) :: .int .u32 (w32 x.2.2.1) :: .int .u32 (w32 x.2.2.2) :: recsC R := rfl
    rw [e, show (k + 1) * 4 = k * 4 + 1 + 1 + 1 + 1 by omega]
    exact this
/-- an arena that lies somewhere: records, ranges (some behind those of the classes), ends -/
structure ArAt (w : World) (RA : Option Addr) (L : List In4) (GA : Option Addr) (K : List (List Rg)) (X : List Rg) (EA : Option Addr) (gd : Nat) : Prop where
  recs : Sl w RA (recsC L)
  rgs : Sl w GA (ru2s (allR K ++ X))
  ends : Sl w EA (u32s (endsR K))
  rok : ∀ r ∈ allR K, (0 ≤ r.1 ∧ r.1 < 16777216) ∧ 0 ≤ r.2 ∧ r.2 < 16777216
  tok : ∀ t ∈ L, RecOk t
  n1 : (allR K ++ X).length ≤ 1048576
  n2 : K.length ≤ 1048576
  n3 : L.length ≤ 1048576
  gd : (allR K ++ X).length ≤ gd
  ne : ∀ R ∈ K, 0 < R.length
theorem ArAt.below {w w' : World} {RA GA EA : Option Addr} {L : List In4} {K : List (List Rg)} {X : List Rg} {gd : Nat} (h : ArAt w RA L GA K X EA gd) (hb : Below w.heap.size w w') : ArAt w' RA L GA K X EA gd :=
  ⟨h.recs.below hb, h.rgs.below hb, h.ends.below hb, h.rok, h.tok, h.n1, h.n2, h.n3, h.gd, h.ne⟩
def slotBad (X : List Rg) (s : Int) : Bool := !(X.length == 0) || decide (s < 2) || decide (0 < s % 2) || decide (16777216 ≤ s)
set_option maxRecDepth 1000000 in
set_option maxHeartbeats 8000000 in
theorem back_bad (RA GA EA : Option Addr) (rc gd ef : Nat) (s : Int) (L : List In4) (K : List (List Rg)) (X : List Rg) (w : World) (hA : ArAt w RA L GA K X EA gd) (hs0 : 0 ≤ s) (hq : slotBad X s = true) :
    Calls Try.prog 13 #[arV RA L.length rc GA (allR K ++ X).length gd EA K.length ef s] w fun e w' => e = .returned (.tuple #[noPg, .int .i64 11]) ∧ Below w.heap.size w w' := by
  have cC := fun (W : World) (h : Below w.heap.size w W) => classes_any RA GA EA L.length rc gd ef s K X W (hA.rgs.below h) (hA.ends.below h) hA.rok hA.n1 hA.n2 hA.gd hA.ne
  unfold noPg
  have hn1 := hA.n1; have hn2 := hA.n2; have hn3 := hA.n3
  obtain ⟨i84, hi84, y0, y1, y2⟩ := info_parts info84b
  unfold arV at cC ⊢
  obtain ⟨n, hn⟩ : ∃ n, L.length = n := ⟨_, rfl⟩
  obtain ⟨m, hm⟩ : ∃ m, K.length = m := ⟨_, rfl⟩
  obtain ⟨q, hq⟩ : ∃ q, (allR K ++ X).length = q := ⟨_, rfl⟩
  obtain ⟨ok, hok⟩ : ∃ b, (X.length == 0) = b := ⟨_, rfl⟩
  rw [hn, hq, hm, hok] at cC
  rw [hn] at hn3
  rw [hm] at hn2
  rw [hn, hq, hm]
  have CCl := Lib.hid cC
  have HA := Lib.hid hA
  have HN := Lib.hid hn
  have HM := Lib.hid hm
  clear cC hA hn hm hq hn1
  go_enter Try.func13, Try.ntmps13
  go_wp2_with fail
  refine (CCl.out _ (((Below.refl _ _).alloc (Nat.le_refl _) _).alloc (by simp) _)).mono ?_
  rintro e w1 ⟨CA, cc, M, rfl, hM1, hM2, hM3, hb1⟩
  obtain ⟨B, hBe⟩ : ∃ W0, (w.alloc (.cells #[.slice RA n rc, .slice GA q gd, .slice EA m ef, .int .u32 s] 43)).alloc (.cells #[.slice none 0 0, .slice none 0 0, .int .i64 0] 25) = W0 := ⟨_, rfl⟩
  have hB0 : Below w.heap.size w B := by rw [← hBe]; exact ((Below.refl _ _).alloc (Nat.le_refl _) _).alloc (by simp) _
  have hC0 : B.heap[w.heap.size]? = some (.cells #[.slice RA n rc, .slice GA q gd, .slice EA m ef, .int .u32 s] 43 (0, 0)) := by rw [← hBe]; exact blk_alloc (heap_alloc_new2 _ _ _ _ rfl) _
  have hC1 : B.heap[w.heap.size + 1]? = some (.cells #[.slice none 0 0, .slice none 0 0, .int .i64 0] 25 (0, 0)) := by rw [← hBe]; exact heap_alloc_new2 _ _ _ _ (by simp)
  have hsB : B.heap.size = w.heap.size + 2 := by rw [← hBe]; simp
  rw [hBe] at hb1
  have HB1 := Lib.hid (below_then hB0 hb1)
  have HC0 := Lib.hid (blk_later hC0 hb1)
  have HC1 := Lib.hid (blk_later hC1 hb1)
  have hsz1 : w.heap.size + 2 ≤ w1.heap.size := by have := hb1.size; omega
  have HM1 := Lib.hid hM1
  have HM2 := Lib.hid hM2
  have HM3 := Lib.hid hM3
  clear hB0 hC0 hC1 hb1 hBe hsB hM1 hM2 hM3
  obtain ⟨p0, p1, p2, p3⟩ := blk_cells4 HC0.out
  obtain ⟨r0, r1, r2⟩ := blk_cells3 HC1.out
  have f0 := blk_frozen HC1.out 0
  have f1 := blk_frozen HC1.out 1
  have f2 := blk_frozen HC1.out 2
  have htm : Int.tmod s 2 = s % 2 := by rw [Int.tmod_eq_emod_of_nonneg hs0]
  have hW : (((w1.setCell ⟨w.heap.size + 1, 0, none⟩ (.slice none 0 0)).setCell ⟨w.heap.size + 1, 1, none⟩ (.slice none 0 0)).setCell ⟨w.heap.size + 1, 2, none⟩ (.int .i64 0)).heap[w.heap.size + 1]? = some (.cells #[.slice none 0 0, .slice none 0 0, .int .i64 0] 25 (0, 0)) :=
    heap_setCell_same _ _ 2 _ _ _ (heap_setCell_same _ _ 1 _ _ _ (heap_setCell_same _ _ 0 _ _ _ HC1.out))
  obtain ⟨m0, m1, m2⟩ := blk_cells3 hW
  have HW := Lib.hid hW
  have HQ := Lib.hid hq
  have HM0 := Lib.hid m0
  have HM1' := Lib.hid m1
  have HM2' := Lib.hid m2
  clear hW hq m0 m1 m2
  have main : slotBad X s = true := HQ.out
  unfold slotBad at main
  rw [hok] at main
  have HMN := Lib.hid main
  clear main HQ
  obtain ⟨b1, hb1⟩ : ∃ b, decide (s < 2) = b := ⟨_, rfl⟩
  obtain ⟨b2, hb2⟩ : ∃ b, decide (0 < s % 2) = b := ⟨_, rfl⟩
  obtain ⟨b3, hb3⟩ : ∃ b, decide (16777216 ≤ s) = b := ⟨_, rfl⟩
  have hmn := HMN.out
  rw [hb1, hb2, hb3] at hmn
  clear HMN
  have fin : ∀ x : Unit, True := fun _ => trivial
  cases ok <;> cases b1 <;> cases b2 <;> cases b3 <;> first
    | (exact absurd hmn (by decide))
    | (clear hmn fin
       go_wp2
       exact bodyPost_ret (v := .tuple #[.agg #[.slice none 0 0, .slice none 0 0, .int .i64 0], .int .i64 11]) (by simp [results, Try.results13, go_sem, HM0.out, HM1'.out, HM2'.out]) rfl ⟨rfl, ((HB1.out.setCell (Nat.le_succ _) _).setCell (Nat.le_succ _) _).setCell (Nat.le_succ _) _⟩)
set_option maxRecDepth 1000000 in
set_option maxHeartbeats 8000000 in
theorem back_good (RA GA EA : Option Addr) (rc gd ef : Nat) (s : Int) (L : List In4) (K : List (List Rg)) (X : List Rg) (w : World) (hA : ArAt w RA L GA K X EA gd) (hs0 : 0 ≤ s) (hq : slotBad X s = false) :
    Calls Try.prog 13 #[arV RA L.length rc GA (allR K ++ X).length gd EA K.length ef s] w fun e w' => ∃ (I CA : Option Addr) (c cc : Nat) (M : List Cs), M.map Cs.R = K ∧ PgAt w' I L CA M ∧
      e = .returned (.tuple #[if pgR L M (s / 2 - 1) then pgV I L.length c CA K.length cc (s / 2 - 1) else noPg, .int .i64 (if pgR L M (s / 2 - 1) then 0 else 11)]) ∧ Below w.heap.size w w' := by
  have cC := fun (W : World) (h : Below w.heap.size w W) => classes_any RA GA EA L.length rc gd ef s K X W (hA.rgs.below h) (hA.ends.below h) hA.rok hA.n1 hA.n2 hA.gd hA.ne
  unfold noPg pgV
  have CC := Lib.hid (fun a b c d w h1 h2 h3 h4 => inst_any a b c d w h1 h2 h3 h4)
  have CR := Lib.hid (fun I C L K c d g w hP => prright_any I C L K c d g w hP)
  have hn1 := hA.n1; have hn2 := hA.n2; have hn3 := hA.n3
  obtain ⟨i84, hi84, y0, y1, y2⟩ := info_parts info84b
  unfold arV at cC ⊢
  obtain ⟨n, hn⟩ : ∃ n, L.length = n := ⟨_, rfl⟩
  obtain ⟨m, hm⟩ : ∃ m, K.length = m := ⟨_, rfl⟩
  obtain ⟨q, hq⟩ : ∃ q, (allR K ++ X).length = q := ⟨_, rfl⟩
  obtain ⟨ok, hok⟩ : ∃ b, (X.length == 0) = b := ⟨_, rfl⟩
  rw [hn, hq, hm, hok] at cC
  rw [hn] at hn3
  rw [hm] at hn2
  rw [hn, hq, hm]
  have CCl := Lib.hid cC
  have HA := Lib.hid hA
  have HN := Lib.hid hn
  have HM := Lib.hid hm
  clear cC hA hn hm hq hn1
  obtain ⟨g, hg⟩ : ∃ g, s / 2 - 1 = g := ⟨_, rfl⟩
  rw [hg]
  have HGG := Lib.hid hg
  clear hg
  go_enter Try.func13, Try.ntmps13
  go_wp2_with fail
  refine (CCl.out _ (((Below.refl _ _).alloc (Nat.le_refl _) _).alloc (by simp) _)).mono ?_
  rintro e w1 ⟨CA, cc, M, rfl, hM1, hM2, hM3, hb1⟩
  obtain ⟨B, hBe⟩ : ∃ W0, (w.alloc (.cells #[.slice RA n rc, .slice GA q gd, .slice EA m ef, .int .u32 s] 43)).alloc (.cells #[.slice none 0 0, .slice none 0 0, .int .i64 0] 25) = W0 := ⟨_, rfl⟩
  have hB0 : Below w.heap.size w B := by rw [← hBe]; exact ((Below.refl _ _).alloc (Nat.le_refl _) _).alloc (by simp) _
  have hC0 : B.heap[w.heap.size]? = some (.cells #[.slice RA n rc, .slice GA q gd, .slice EA m ef, .int .u32 s] 43 (0, 0)) := by rw [← hBe]; exact blk_alloc (heap_alloc_new2 _ _ _ _ rfl) _
  have hC1 : B.heap[w.heap.size + 1]? = some (.cells #[.slice none 0 0, .slice none 0 0, .int .i64 0] 25 (0, 0)) := by rw [← hBe]; exact heap_alloc_new2 _ _ _ _ (by simp)
  have hsB : B.heap.size = w.heap.size + 2 := by rw [← hBe]; simp
  rw [hBe] at hb1
  have HB1 := Lib.hid (below_then hB0 hb1)
  have HC0 := Lib.hid (blk_later hC0 hb1)
  have HC1 := Lib.hid (blk_later hC1 hb1)
  have hsz1 : w.heap.size + 2 ≤ w1.heap.size := by have := hb1.size; omega
  have HM1 := Lib.hid hM1
  have HM2 := Lib.hid hM2
  have HM3 := Lib.hid hM3
  clear hB0 hC0 hC1 hb1 hBe hsB hM1 hM2 hM3
  obtain ⟨p0, p1, p2, p3⟩ := blk_cells4 HC0.out
  obtain ⟨r0, r1, r2⟩ := blk_cells3 HC1.out
  have f0 := blk_frozen HC1.out 0
  have f1 := blk_frozen HC1.out 1
  have f2 := blk_frozen HC1.out 2
  have htm : Int.tmod s 2 = s % 2 := by rw [Int.tmod_eq_emod_of_nonneg hs0]
  unfold slotBad at hq
  rw [hok] at hq
  simp only [Bool.or_eq_false_iff, Bool.not_eq_false', decide_eq_false_iff_not] at hq
  obtain ⟨⟨⟨rfl, s1⟩, s2⟩, s3⟩ := hq
  have htd : Int.tdiv s 2 = s / 2 := by rw [Int.tdiv_eq_ediv_of_nonneg hs0]
  have hw1 : IntKind.i64.wrap (s / 2 - 1) = g := by have := HGG.out; rw [IntKind.wrap_i64]; omega
  have hw2 : IntKind.i64.wrap (s / 2) = s / 2 := by rw [IntKind.wrap_i64]; omega
  have hw3 : IntKind.i64.wrap s = s := by rw [IntKind.wrap_i64]; omega
  have b1 : decide (s < 2) = false := by simp; omega
  have b2 : decide (0 < s % 2) = false := by simp; omega
  have b3 : decide (16777216 ≤ s) = false := by simp; omega
  have HOK := Lib.hid hok
  clear hok
  go_upto_region 5 with fail
  obtain ⟨w2, hw2'⟩ : ∃ W0, w1.alloc (.cells #[.slice none 0 0, .slice CA m cc, .int .i64 g] 25) = W0 := ⟨_, rfl⟩
  obtain ⟨gp, hgp⟩ : ∃ x, w1.heap.size = x := ⟨_, rfl⟩
  have hx2 : w2.heap[gp]? = some (.cells #[.slice none 0 0, .slice CA m cc, .int .i64 g] 25 (0, 0)) := by rw [← hw2']; exact heap_alloc_new2 _ _ _ _ hgp.symm
  have hB2 : Below w1.heap.size w1 w2 := by rw [← hw2']; exact below_alloc (Below.refl _ _) _
  have hgB : w1.heap.size ≤ gp := by rw [← hgp]; exact Nat.le_refl _
  rw [hw2', hgp]
  have HI := Lib.hid (show Pb w1 gp w2 (.slice none 0 0) (.slice CA m cc) g 0 [] from ⟨hx2, World.ownsRow_nil _ _ _ _, hB2, hgB, by simp [Value.ownBlock]⟩)
  have HA1 := Lib.hid (HA.out.below HB1.out)
  clear hw2' hx2 hB2 hgp p0 p1 p2 p3 r0 r1 r2 HA htm htd hw1 hw2 hw3
  obtain ⟨p0, p1, p2, p3⟩ := blk_cells4 (blk_later HC0.out HI.out.below)
  go_wp2_with fail
  obtain ⟨B, rfl⟩ : ∃ B, B = w1 := ⟨_, rfl⟩
  go_loopw [8, 43] (fun _ i wr => ∃ (k : Nat) (v0 : Value), k ≤ n ∧ i = .int .i64 k ∧ Pb B gp wr v0 (.slice CA m cc) g k (i4s (L.take k))) (fun _ i _ => n - (RowKit.intOf i).toNat)
  case atStart => exact ⟨0, _, Nat.zero_le _, rfl, HI.out⟩
  clear HI p0 p1 p2 p3
  case round =>
    obtain ⟨k, v0, hk, rfl, hA⟩ := hrel
    have HAc := Lib.hid hA
    clear hA
    by_cases hlt : k < n
    · have hkl : k < L.length := by rw [HN.out]; exact hlt
      have hrl : 0 < (recsC L).length := by rw [recsC_len]; omega
      obtain ⟨ba, off, hRA, hba, hcc⟩ := (HA1.out.recs.below HAc.out.below) hrl
      have hgt := recsC_get L k L[k] (List.getElem?_eq_getElem hkl)
      have hx := HA1.out.tok L[k] (List.getElem_mem hkl)
      have hst : i4s (L.take (k + 1)) = i4s (L.take k) ++ i4c L[k] := by
        rw [Plain.take_snoc L k L[k] (List.getElem?_eq_getElem hkl), i4s_append]; simp [i4s]
      obtain ⟨t, ht⟩ : ∃ t, L[k] = t := ⟨_, rfl⟩
      rw [ht] at hgt hst hx
      unfold RecOk at hx
      rw [w32_id2 hx.1, w32_id2 hx.2.1, w32_id2 hx.2.2.1, w32_id2 hx.2.2.2] at hgt
      have c0 := hcc _ _ hgt.1
      have c1 := hcc _ _ hgt.2.1
      have c2 := hcc _ _ hgt.2.2.1
      have c3 := hcc _ _ hgt.2.2.2
      rw [← Nat.add_assoc] at c1 c2 c3
      subst hRA
      have HST := Lib.hid hst
      clear hst ht hcc hgt hrl
      go_upto_region 8 with fail
      obtain ⟨wt, hwt⟩ : ∃ W0, wr.alloc (.cells #[.int .u32 t.1, .int .u32 t.2.1, .int .u32 t.2.2.1, .int .u32 t.2.2.2] 79) = W0 := ⟨_, rfl⟩
      have hbt : Below wr.heap.size wr wt := by rw [← hwt]; exact (Below.refl _ _).alloc (Nat.le_refl _) _
      have hTt : wt.heap[wr.heap.size]? = some (.cells #[.int .u32 t.1, .int .u32 t.2.1, .int .u32 t.2.2.1, .int .u32 t.2.2.2] 79 (0, 0)) := by rw [← hwt]; exact heap_alloc_new2 _ _ _ _ rfl
      rw [hwt]
      obtain ⟨gt, hgt⟩ : ∃ x, wr.heap.size = x := ⟨_, rfl⟩
      rw [hgt] at hTt ⊢
      have HAt := Lib.hid (HAc.out.kept hbt)
      have HTT := Lib.hid hTt
      clear hwt hbt hTt c0 c1 c2 c3 hgt HAc
      have HSF := Lib.hid (fun (W : World) (hW : Below wt.heap.size wt W) => show _ ∧ _ ∧ _ ∧ _ ∧ _ ∧ _ ∧ _ from ⟨(blk_cells4 (blk_later HTT.out hW)).1, (blk_cells4 (blk_later HTT.out hW)).2.1, (blk_cells4 (blk_later HTT.out hW)).2.2.1, (blk_cells4 (blk_later HTT.out hW)).2.2.2, (HAt.out.kept hW).cell⟩)
      have HBD := Lib.hid (Below.drew (Below.refl wt.heap.size wt))
      refine wp_region_noPanic ?_
      refine wp_region_T 5 (S := fun w' : World => Below wt.heap.size wt w') (by kernel_rfl) (by decide) ?_
      refine wpAnyT_take2 0 (v := ?tvb0) (by kernel_rfl) rfl (by kernel_rfl) (fun _ _ _ h => h) (Or.inl ⟨by rfl, ?tyb0⟩) HBD.out ?trb0
      case tyb0 => (intro w' hSw; (try dsimp only at hSw); go_simp; try with_reducible rfl)
      try simp only [Act.put, List.setIfInBounds_toArray, List.set_cons_zero, List.set_cons_succ]
      refine wpAnyT_take2 1 (v := ?tvb1) (by kernel_rfl) rfl (by kernel_rfl) (fun _ _ _ h => h) (Or.inl ⟨by rfl, ?tyb1⟩) HBD.out ?trb1
      case tyb1 => (intro w' hSw; obtain ⟨f0, f1, f2, f3, g0, g1, g2⟩ := HSF.out w' hSw; (try dsimp only at hSw); go_simp; try with_reducible rfl)
      try simp only [Act.put, List.setIfInBounds_toArray, List.set_cons_zero, List.set_cons_succ]
      refine wpAnyT_take2 2 (v := ?tvb2) (by kernel_rfl) rfl (by kernel_rfl) (fun _ _ _ h => h) (Or.inl ⟨by rfl, ?tyb2⟩) HBD.out ?trb2
      case tyb2 => (intro w' hSw; obtain ⟨f0, f1, f2, f3, g0, g1, g2⟩ := HSF.out w' hSw; (try dsimp only at hSw); go_simp; try with_reducible rfl)
      try simp only [Act.put, List.setIfInBounds_toArray, List.set_cons_zero, List.set_cons_succ]
      refine wpAnyT_one2 3 rfl (by kernel_rfl) ?_
      intro K' hK'
      rw [if_pos (by rfl)]
      have HK := Lib.hid hK'
      clear hK'
      go_wp2_with (go_at_call 39; refine (CC.out _ _ _ _ _ hx.1 hx.2.1 hx.2.2.1 hx.2.2.2).mono ?_; rintro e1 w1 ⟨rfl, hb1⟩)
      have HB1 := Lib.hid (below_then HBD.out hb1)
      clear hb1
      refine HK.out _ _ ⟨HB1.out, ?_⟩
      clear HK K'
      try simp only [Act.put, List.setIfInBounds_toArray, List.set_cons_zero, List.set_cons_succ]
      refine wpAnyT_one2 4 rfl (by kernel_rfl) ?_
      intro K' hK'
      rw [if_pos (by rfl)]
      have HK := Lib.hid hK'
      clear hK'
      unfold i4V
      go_simp
      have HC4 := Lib.hid (CellsAt.new w1 #[.int .i64 t.1, .int .i64 t.2.1, .int .i64 t.2.2.1, .int .i64 t.2.2.2] 84)
      have HB4 := Lib.hid (below_alloc HB1.out (.cells #[.int .i64 t.1, .int .i64 t.2.1, .int .i64 t.2.2.1, .int .i64 t.2.2.2] 84))
      obtain ⟨w4, hw4⟩ : ∃ W0, w1.alloc (.cells #[.int .i64 t.1, .int .i64 t.2.1, .int .i64 t.2.2.1, .int .i64 t.2.2.2] 84) = W0 := ⟨_, rfl⟩
      rw [hw4] at HC4 HB4 ⊢
      obtain ⟨g4, hg4⟩ : ∃ x, w1.heap.size = x := ⟨_, rfl⟩
      rw [hg4] at HC4 ⊢
      clear hw4 hg4
      refine HK.out _ _ ⟨HB4.out, ?_⟩
      clear HK K'
      try simp only [Act.put, List.setIfInBounds_toArray, List.set_cons_zero, List.set_cons_succ]
      have HA4 := Lib.hid (HAt.out.kept HB4.out)
      obtain ⟨s0, s1, s2⟩ := HA4.out.cell
      refine ⟨by kernel_rfl, ?_⟩
      change wpList _ _ _ [_, _, _] _ _
      refine wpList_append_own2 _ (by rfl) (.tmp 48) (.tmp 51) 22 (by rfl) B.heap.size 84 i84 _ 4 32 Try.underlying22 hi84 y0 y1 y2 rfl (by decide) v0 k (i4s (L.take k)) (by rfl) HA4.out.own ⟨g4, 0, none⟩ 1 1 (i4c t) (by rfl) rfl (CellsAt_add HC4.out) (by intro u hu; simp only [i4c, List.mem_cons, List.not_mem_nil, or_false] at hu; rcases hu with rfl | rfl | rfl | rfl <;> rfl) (by simp only [maxLen]; omega) (by omega) HA4.out.below.size ?_
      intro v5 w5 hown hgr hvb
      have hA5 := HA4.out.push hown hgr hvb
      obtain ⟨a5, cp5, rfl⟩ := own_slice hown
      have hx5 := blk_gr HA4.out.blk hgr HA4.out.n0
      obtain ⟨s0, s1, s2⟩ := blk_cells3 hx5
      have f0 := blk_frozen hx5 0
      have HA5 := Lib.hid hA5
      clear hA5 hx5 hown hgr hvb
      go_wp2
      refine NoPanic.normal ?_
      go_wp2
      go_roundw
      case rel => exact ⟨k + 1, _, by omega, by go_num, by rw [HST.out]; exact HA5.out⟩
      case measure => simp [RowKit.intOf]; omega
    · obtain rfl : n = k := by omega
      have hPt : L.take n = L := List.take_of_length_le (by rw [HN.out]; exact Nat.le_refl _)
      have hA1 := HAc.out
      rw [hPt] at hA1
      obtain ⟨a0, n0, rfl⟩ := own_slice hA1.own
      have hPG : PgAt wr a0 L CA M := ⟨own_SlN hA1.own (by rw [i4s_len, HN.out]; omega), HM1.out.below hA1.below, fun x hx => ⟨(HM2.out x hx).1.below hA1.below, (HM2.out x hx).2⟩, by rw [HN.out]; simp only [maxLen]; omega, by have := congrArg List.length HM3.out; rw [List.length_map, HM.out] at this; rw [this]; simp only [maxLen]; omega⟩
      have cr := fun (W : World) (hW : PgAt W a0 L CA M) => CR.out a0 CA L M n0 cc g W hW
      have hml : M.length = m := by have := congrArg List.length HM3.out; rw [List.length_map, HM.out] at this; exact this
      unfold pgV at cr
      rw [HN.out, hml] at cr
      have CRR := Lib.hid cr
      have HPG := Lib.hid hPG
      have HA2 := Lib.hid hA1
      have HBr := Lib.hid hA1.below
      obtain ⟨p0, p1, p2⟩ := hA1.cell
      clear hA1 hPt HAc cr hPG hml
      obtain ⟨ok, hok⟩ : ∃ b, pgR L M g = b := ⟨_, rfl⟩
      rw [hok] at CRR
      have HOKK := Lib.hid hok
      clear hok
      go_wp2_with fail
      refine (CRR.out _ HPG.out).mono ?_
      rintro e w5 ⟨rfl, hb5⟩
      have HB5 := Lib.hid hb5
      have HC5 := Lib.hid (blk_later HC1.out (HBr.out.trans (hb5.mono HBr.out.size)))
      have HA5 := Lib.hid (HA2.out.kept hb5)
      have HP5 := Lib.hid (HPG.out.below hb5)
      have HBW := Lib.hid (HB1.out.trans ((HBr.out.trans (hb5.mono HBr.out.size)).mono HB1.out.size))
      clear hb5 p0 p1 p2 f0 f1 f2
      obtain ⟨p0, p1, p2⟩ := HA5.out.cell
      obtain ⟨r0, r1, r2⟩ := blk_cells3 HC5.out
      have f0 := blk_frozen HC5.out 0
      have f1 := blk_frozen HC5.out 1
      have f2 := blk_frozen HC5.out 2
      have hne : ∀ x ∈ M, 0 < x.R.length := fun x hx => HA1.out.ne _ (by rw [← HM3.out]; exact List.mem_map.2 ⟨x, hx, rfl⟩)
      have q1 : ∀ b o, 0 < L.length → a0 = some ⟨b, o, none⟩ → b ≠ w.heap.size + 1 := fun b o hn e => by
        obtain ⟨g', cap', hv, _, hg', _⟩ := own_at HA5.out.own (by rw [← HN.out]; exact hn)
        injection hv with hv1 _ _
        rw [e] at hv1
        injection hv1 with hv1
        injection hv1 with hv1 _
        omega
      have q2 : ∀ b o, 0 < M.length → CA = some ⟨b, o, none⟩ → b ≠ w.heap.size + 1 := fun b o hn e => HP5.out.cls.not_box hn hne HC5.out b o e
      have q3 : ∀ x ∈ M, ∀ b o, x.A = some ⟨b, o, none⟩ → b ≠ w.heap.size + 1 := fun x hx b o e => (HP5.out.each x hx).1.not_box (hne x hx) HC5.out b o e
      have hset : ∀ x0 x1 x2 : Value, ((((w5.setCell ⟨w.heap.size + 1, 0, none⟩ x0).setCell ⟨w.heap.size + 1, 1, none⟩ x1).setCell ⟨w.heap.size + 1, 2, none⟩ x2).heap[w.heap.size + 1]? = some (.cells #[x0, x1, x2] 25 (0, 0))) ∧ PgAt (((w5.setCell ⟨w.heap.size + 1, 0, none⟩ x0).setCell ⟨w.heap.size + 1, 1, none⟩ x1).setCell ⟨w.heap.size + 1, 2, none⟩ x2) a0 L CA M := fun x0 x1 x2 =>
        ⟨heap_setCell_same _ _ 2 _ _ _ (heap_setCell_same _ _ 1 _ _ _ (heap_setCell_same _ _ 0 _ _ _ HC5.out)), ((HP5.out.set q1 q2 q3 _ _).set q1 q2 q3 _ _).set q1 q2 q3 _ _⟩
      have HSET := Lib.hid hset
      clear hset q1 q2 q3 hne
      cases ok
      · go_wp2
        obtain ⟨hW, hPW⟩ := HSET.out (.slice none 0 0) (.slice none 0 0) (.int .i64 0)
        obtain ⟨m0, m1, m2⟩ := blk_cells3 hW
        exact bodyPost_ret (v := .tuple #[.agg #[.slice none 0 0, .slice none 0 0, .int .i64 0], .int .i64 11]) (by simp [results, Try.results13, go_sem, m0, m1, m2]) rfl ⟨a0, CA, n0, cc, M, HM3.out, hPW, by rw [HOKK.out]; rfl, ((HBW.out.setCell (Nat.le_succ _) _).setCell (Nat.le_succ _) _).setCell (Nat.le_succ _) _⟩
      · go_wp2
        obtain ⟨hW, hPW⟩ := HSET.out (.slice a0 n n0) (.slice CA m cc) (.int .i64 g)
        obtain ⟨m0, m1, m2⟩ := blk_cells3 hW
        exact bodyPost_ret (v := .tuple #[.agg #[.slice a0 n n0, .slice CA m cc, .int .i64 g], .int .i64 0]) (by simp [results, Try.results13, go_sem, m0, m1, m2]) rfl ⟨a0, CA, n0, cc, M, HM3.out, hPW, by rw [HOKK.out]; rfl, ((HBW.out.setCell (Nat.le_succ _) _).setCell (Nat.le_succ _) _).setCell (Nat.le_succ _) _⟩
end Go.Proofs.Ytbbcdebjkedepaa
