/- Chapter 13: a map of how far all are gone through; loops: what the code computes. Conditions: what each lemma says. -/
import Derived.Test.YtmiacgkidldjmaaGreatDoorWireJ
import Derived.Test.YtmiacgkidldjmaaGreatDoorSealP
import Derived.Maps.OwnOps
import Derived.Maps.Views
set_option linter.unusedVariables false
set_option linter.unusedSimpArgs false
namespace Go.Proofs.YtmiacgkidldjmaaGreatDoor.Plain
def totS (s : Nat → Nat) : Nat := ((List.range 600).map s).sum
theorem sum_upd : ∀ (n : Nat) (s : Nat → Nat) (k v : Nat), k < n → ((List.range n).map (upd s k v)).sum + s k = ((List.range n).map s).sum + v := by
  intro n
  induction n with
  | zero => intro s k v h; omega
  | succ n ih =>
    intro s k v h
    rw [List.range_succ, List.map_append, List.map_append, List.sum_append, List.sum_append]
    by_cases e : k = n
    · subst e
      have : (List.range k).map (upd s k v) = (List.range k).map s := by
        refine List.map_congr_left fun j hj => ?_
        have := List.mem_range.1 hj
        exact upd_other s k v j (by omega)
      rw [this]
      simp [upd_same]; omega
    · have := ih s k v (by omega)
      have e2 : [n].map (upd s k v) = [n].map s := by simp [upd_other s k v n (fun h => e h.symm)]
      rw [e2]; omega
theorem totS_inc (s : Nat → Nat) (k v : Nat) (h : k < 600) (hv : v = s k + 1) : totS (upd s k v) = totS s + 1 := by
  have := sum_upd 600 s k v h
  unfold totS; omega
theorem sum_le : ∀ (n : Nat) (s : Nat → Nat), (∀ j, s j ≤ 2) → ((List.range n).map s).sum ≤ 2 * n := by
  intro n
  induction n with
  | zero => intro s _; simp
  | succ n ih =>
    intro s h
    rw [List.range_succ, List.map_append, List.sum_append]
    have := ih s h
    have := h n
    simp; omega
theorem totS_le (s : Nat → Nat) (h : ∀ j, s j ≤ 2) : totS s ≤ 1200 := sum_le 600 s h
end Go.Proofs.YtmiacgkidldjmaaGreatDoor.Plain
namespace Go.Proofs.YtmiacgkidldjmaaGreatDoor
open Go.RowKit Go.Lib Go.Maps
theorem keyed3 : Keyed Tryz.prog 3 := int_keyed Tryz.underlying3
theorem zero3 (w : World) : (zeroValue 3).run Tryz.prog w = .ok (.int .i64 0) w := by kernel_rfl
theorem wfn (k : Nat) (h : k < 9223372036854775808) : (Lit.int .i64 (k : Int)).wf = true := WalkArith.wf_i64 (by omega)
/-- a map of how far all are gone through -/
def SeenAt (w : World) (b : Nat) (s : Nat → Nat) : Prop :=
  ∃ D : DataW Unit, w.ownsMap Tryz.prog 3 (plainElem Tryz.prog 3) b (Plain.totS s) D ∧ ∀ k : Nat, D.atKey (.int .i64 (k : Int)) (.lit (.int .i64 0)) = .lit (.int .i64 (s k : Int))
theorem SeenAt.lt {w : World} {b : Nat} {s : Nat → Nat} (h : SeenAt w b s) : b < w.heap.size := by obtain ⟨D, ho, _⟩ := h; exact ho.lt
theorem SeenAt.below {w w' : World} {b : Nat} {s : Nat → Nat} (h : SeenAt w b s) (hb : Below w.heap.size w w') : SeenAt w' b s := by
  obtain ⟨D, ho, hk⟩ := h
  exact ⟨D, ho.kept (gr_below none hb) (by simp), hk⟩
theorem SeenAt.gr {w w' : World} {b g : Nat} {s : Nat → Nat} (h : SeenAt w b s) (hg : w.grownBy w' (some g)) (hne : b ≠ g) : SeenAt w' b s := by
  obtain ⟨D, ho, hk⟩ := h
  exact ⟨D, ho.kept hg (fun e => hne (Option.some.inj e)), hk⟩
theorem SeenAt.new (w : World) : SeenAt (w.alloc (.map #[] 0)) w.heap.size (fun _ => 0) := by
  have h := World.ownsMap_made w Tryz.prog 3 (plainElem (H := Unit) Tryz.prog 3)
  refine ⟨.map [], ?_, fun k => rfl⟩
  obtain ⟨n, hn⟩ : ∃ n, Plain.totS (fun _ => 0) = n := ⟨_, rfl⟩
  rw [hn]
  exact h.mono (Nat.zero_le n)
/-- what stands at a key -/
theorem SeenAt.look {w : World} {b : Nat} {s : Nat → Nat} (h : SeenAt w b s) (k : Nat) (hk : k < 9223372036854775808) :
    (Instr.lookup 113 (.map (some b)) (.int .i64 (k : Int)) false).run Tryz.prog w = .ok (.int .i64 (s k : Int)) w := by
  obtain ⟨D, ho, hD⟩ := h
  obtain ⟨c, hrun, hat, _⟩ := ho.lookup_int keyed3 Tryz.underlying113 Tryz.underlying3 (zero3 w) (keyOf_int_mk Tryz.underlying3 (wfn k hk))
  rw [hD k] at hat
  have hc : (s k : Int) = c := by simpa using hat
  rw [hrun, ← hc]
/-- one goes on by one -/
theorem wpList_seen {ops : Array Oper} {rest : List Oper} {o : Oper} {a : Act} {w : World} {Q : Exit → Act → World → Prop} (hg : o.guard = none) (m x v : Operand) (hop : o.op = Op.mapUpdate 113 m x v)
    (b : Nat) (s : Nat → Nat) (k c : Nat) (hm : a.eval m = .map (some b)) (hS : SeenAt w b s) (hx : a.eval x = .int .i64 (k : Int)) (hv : a.eval v = .int .i64 (c : Int)) (hk : k < 600) (hc : c = s k + 1) (h2 : ∀ j, s j ≤ 2)
    (hK : ∀ w', SeenAt w' b (Plain.upd s k c) → w.grownBy w' (some b) → wpList Tryz.prog ops Q rest (a.put o.dst undef) w') : wpList Tryz.prog ops Q (o :: rest) a w := by
  obtain ⟨D, ho, hD⟩ := hS
  have hc3 : c ≤ 3 := by have := h2 k; omega
  have hw := wfn c (by omega)
  refine wpList_mapUpdate_own w hg m x v 113 hop 3 3 keyed3 Tryz.underlying113 _ b _ D hm ho (by have := Plain.totS_le s h2; unfold maxLen; omega) _ _ _ hx hv (keyOf_int_mk Tryz.underlying3 (wfn k (by omega))) _ [] (plainElem_int Tryz.underlying3 hw) ?_
  intro w' ho' hg'
  refine hK w' ⟨_, by rw [Plain.totS_inc s k c hk hc]; exact ho', fun j => ?_⟩ hg'
  by_cases e : j = k
  · subst e
    rw [atKey_put_same (by obtain ⟨es, cl, _, _, _, rfl⟩ := ho; exact ⟨_, rfl⟩) (by simp [WideAt.IsKeyLit]), Plain.upd_same]
  · rw [atKey_put_other (by intro h; injection h with _ h; omega), hD j, Plain.upd_other s k c j e]
/-- a row of cells lies in no map -/
theorem Sl.gr {w w' : World} {A : Option Addr} {xs : List Value} {b : Nat} {s : Nat → Nat} (h : Sl w A xs) (hS : SeenAt w b s) (hg : w.grownBy w' (some b)) : Sl w' A xs := fun hn => by
  obtain ⟨g, off, e, hl, hc⟩ := h hn
  have hne : g ≠ b := by
    rintro rfl
    obtain ⟨D, ⟨es, cl, hb, _⟩, _⟩ := hS
    have h0 := hc 0 xs[0] (List.getElem?_eq_getElem hn)
    unfold World.cell? at h0
    simp only [hb] at h0
    cases h0
  exact ⟨g, off, e, Nat.lt_of_lt_of_le hl hg.size, fun i u hu => (World.cell?_of_block (hg.block g hl (fun e => hne (Option.some.inj e)))).trans (hc i u hu)⟩
end Go.Proofs.YtmiacgkidldjmaaGreatDoor
namespace Go.Proofs.YtmiacgkidldjmaaGreatDoor
open Go.RowKit Go.Lib Go.Maps
open Plain (Rg May mayB In Norm In4 slotsOf insB bnd riB cls cnot rightB normB)
abbrev z4 : In4 := (0, 0, 0, 0)
def InR (L : List In4) : Prop := ∀ j, j < L.length → ¬ ((L.getD j z4).1 = 0 ∨ (L.getD j z4).1 = 1) → (0 ≤ (L.getD j z4).2.1 ∧ (L.getD j z4).2.1.toNat < L.length) ∧ ((L.getD j z4).1 = 2 → 0 ≤ (L.getD j z4).2.2.1 ∧ (L.getD j z4).2.2.1.toNat < L.length)
def LpPost (w : World) (b : Nat) (r : Bool × (Nat → Nat)) (e : Ending) (w' : World) : Prop := e = .returned (.bool r.1) ∧ SeenAt w' b r.2 ∧ w.grownBy w' (some b)
set_option maxRecDepth 1000000 in
set_option maxHeartbeats 8000000 in
theorem loops_any (I C : Option Addr) (L : List In4) (c m d : Nat) (g : Int) (b : Nat) (hL : L.length ≤ 512) (hin : InR L) :
    ∀ (f : Nat) (s : Nat → Nat) (k : Nat) (w : World), Sl w I (i4s L) → SeenAt w b s → (∀ j, s j ≤ 2) → k < L.length → Plain.uns L.length s < f →
      Calls Tryz.prog 78 #[.agg #[.slice I L.length c, .slice C m d, .int .i64 g], .map (some b), .int .i64 (k : Int)] w (LpPost w b (Plain.lp L f s k)) := by
  intro f
  induction f with
  | zero => intro s k w _ _ _ _ h; omega
  | succ f ih =>
    intro s k w hI hS h2 hk hu
    have IH := Lib.hid ih
    have hr := hin k hk
    obtain ⟨ib, off, hIe, hib, c0, c1, c2, c3⟩ := i4_at hI k hk
    have hLk : L[k] = L.getD k z4 := (Plain.getD_lt L z4 k hk).symm
    rw [hLk] at c0 c1 c2 c3
    have hout := Plain.lp_out L f s k
    have hround := Plain.lp_round L f s k
    have hinn := Plain.lp_in L f s k
    have hgoes := Plain.lp_goes L f
    have huns := Plain.uns_upd L.length s k 1 hk
    obtain ⟨⟨op, x, y, ar⟩, ht⟩ : ∃ t, L.getD k z4 = t := ⟨_, rfl⟩
    have ht' : L.getD k (0, 0, 0, 0) = (op, x, y, ar) := ht
    rw [ht] at c0 c1 c2 c3 hr
    rw [ht'] at hout hround hinn
    dsimp only at c0 c1 c2 c3 hr hout hround hinn
    obtain ⟨n, hn⟩ : ∃ x, L.length = x := ⟨_, rfl⟩
    have HN := Lib.hid hn
    rw [hn] at hk hr hL hu huns ⊢
    obtain ⟨sk, hsk⟩ : ∃ x, s k = x := ⟨_, rfl⟩
    have hsk2 := h2 k
    rw [hsk] at hsk2 hout hround hinn huns
    have HSK := Lib.hid hsk
    have HU := Lib.hid hu
    have HOUT := Lib.hid hout
    have HROUND := Lib.hid hround
    have HINN := Lib.hid hinn
    have HGOES := Lib.hid hgoes
    have HUNS := Lib.hid huns
    have HR := Lib.hid hr
    have H2 := Lib.hid h2
    have HI := Lib.hid hI
    have HS := Lib.hid hS
    subst hIe
    clear ih hr hLk hout hround hinn hgoes huns ht ht' hn hsk hu hI hS h2 hin
    have B2 : Below w.heap.size w ((w.alloc (.cells #[.slice (some ⟨ib, off, none⟩) n c, .slice C m d, .int .i64 g] 25)).alloc (.cells #[.int .i64 op, .int .i64 x, .int .i64 y, .int .i64 ar] 94)) := below_alloc (below_alloc (Below.refl _ _) _) _
    have hbx : ((w.alloc (.cells #[.slice (some ⟨ib, off, none⟩) n c, .slice C m d, .int .i64 g] 25)).alloc (.cells #[.int .i64 op, .int .i64 x, .int .i64 y, .int .i64 ar] 94)).heap[w.heap.size]? = some (.cells #[.slice (some ⟨ib, off, none⟩) n c, .slice C m d, .int .i64 g] 25 (0, 0)) := blk_alloc (heap_alloc_new2 _ _ _ _ rfl) _
    have hby : ((w.alloc (.cells #[.slice (some ⟨ib, off, none⟩) n c, .slice C m d, .int .i64 g] 25)).alloc (.cells #[.int .i64 op, .int .i64 x, .int .i64 y, .int .i64 ar] 94)).heap[w.heap.size + 1]? = some (.cells #[.int .i64 op, .int .i64 x, .int .i64 y, .int .i64 ar] 94 (0, 0)) := heap_alloc_new2 _ _ _ _ (by simp)
    obtain ⟨w2, hw2⟩ : ∃ W2, (w.alloc (.cells #[.slice (some ⟨ib, off, none⟩) n c, .slice C m d, .int .i64 g] 25)).alloc (.cells #[.int .i64 op, .int .i64 x, .int .i64 y, .int .i64 ar] 94) = W2 := ⟨_, rfl⟩
    rw [hw2] at B2 hbx hby
    have HW2 := Lib.hid hw2
    have HB2 := Lib.hid B2
    have HX := Lib.hid hbx
    have HY := Lib.hid hby
    have HS2 := Lib.hid (HS.out.below B2)
    have HI2 := Lib.hid (HI.out.below B2)
    clear hw2 B2 hbx hby
    go_enter Tryz.func78, Tryz.ntmps78
    go_upto_region 2 with fail
    rw [HW2.out]
    clear c0 c1 c2 c3
    obtain ⟨y0, y1, y2, y3⟩ := blk4 HY.out
    have hlk := HS2.out.look k (by omega)
    rw [HSK.out] at hlk
    by_cases h0 : op = 0 ∨ op = 1 ∨ sk = 2
    · have hlp := HOUT.out h0
      have HLP := Lib.hid hlp
      have hfin : LpPost w b (Plain.lp L (f + 1) s k) (.returned (.bool false)) w2 := by rw [hlp]; exact ⟨rfl, HS2.out, gr_below _ HB2.out⟩
      have HFIN := Lib.hid hfin
      clear hlp hfin
      rcases h0 with rfl | rfl | rfl
      · go_wp2
        go_ret
        exact HFIN.out
      · go_wp2
        go_ret
        exact HFIN.out
      · by_cases e0 : op = 0
        · subst e0
          go_wp2
          go_ret
          exact HFIN.out
        · have d0 : (op == 0) = false := by simp [e0]
          by_cases e1 : op = 1
          · subst e1
            go_wp2
            go_ret
            exact HFIN.out
          · have d1 : (op == 1) = false := by simp [e1]
            clear e0 e1
            go_wp2
            go_ret
            exact HFIN.out
    · have hne := h0
      rw [not_or, not_or] at hne
      obtain ⟨e0, e1, e2⟩ := hne
      have d0 : (op == 0) = false := by simp [e0]
      have d1 : (op == 1) = false := by simp [e1]
      by_cases h1 : sk = 1
      · subst h1
        have hlp := HROUND.out h0 rfl
        have hfin : LpPost w b (Plain.lp L (f + 1) s k) (.returned (.bool true)) w2 := by rw [hlp]; exact ⟨rfl, HS2.out, gr_below _ HB2.out⟩
        have HFIN := Lib.hid hfin
        clear hlp hfin h0 e0 e1 e2
        go_wp2
        go_ret
        exact HFIN.out
      · obtain rfl : sk = 0 := by omega
        have hlp := HINN.out h0 (by decide)
        obtain ⟨⟨hx0, hxn⟩, hyy⟩ := HR.out (by rintro (h | h); exact e0 h; exact e1 h)
        have hu1 := HUNS.out rfl (by decide)
        have hle1 : ∀ j, Plain.upd s k 1 j ≤ 2 := fun j => by
          by_cases e : j = k
          · subst e; rw [Plain.upd_same]; decide
          · rw [Plain.upd_other s k 1 j e]; exact H2.out j
        obtain ⟨⟨r1, rs⟩, hra⟩ : ∃ R, Plain.lp L f (Plain.upd s k 1) x.toNat = R := ⟨_, rfl⟩
        obtain ⟨hgo, hrs2⟩ := HGOES.out (Plain.upd s k 1) x.toNat hle1
        rw [hra] at hgo hrs2
        dsimp only at hgo hrs2
        have hr1 : rs k = 1 := by have := hgo.1 k (by rw [Plain.upd_same]; decide); rw [this, Plain.upd_same]
        have hur := hgo.uns n
        have hbk : w.heap.size ≠ b := by have := HS.out.lt; omega
        have hbk1 : w.heap.size + 1 ≠ b := by have := HS.out.lt; omega
        have hun : Plain.uns n (Plain.upd s k 1) < f := by have := HU.out; omega
        have hun2 : Plain.uns n rs < f := by omega
        have hlt : k < 600 := by omega
        have HLP := Lib.hid (fun bb hb => hlp (r1, rs) bb hra hb)
        have HRA := Lib.hid hra
        have HRK := Lib.hid (show 2 = rs k + 1 by omega)
        have HRS2 := Lib.hid hrs2
        have HLE1 := Lib.hid hle1
        have HUN := Lib.hid hun
        have HUN2 := Lib.hid hun2
        have HXN := Lib.hid hxn
        have HX0 := Lib.hid hx0
        have HYY := Lib.hid hyy
        have HL2 := Lib.hid H2.out
        clear hlp hu1 hgo hrs2 hra hr1 hur h0 hle1 hun hun2 hxn hx0 hyy e2 h1
        go_wp2_with (at_mapUpdate; refine wpList_seen rfl _ _ _ rfl b s k 1 rfl HS2.out rfl rfl hlt (by rw [HSK.out]) H2.out ?_)
        intro w3 hS3 hg3
        have HS3 := Lib.hid hS3
        have HG3 := Lib.hid (gr_trans (gr_below (some b) HB2.out) hg3)
        have HX3 := Lib.hid (gr_blk hg3 HX.out hbk)
        have HY3 := Lib.hid (gr_blk hg3 HY.out hbk1)
        have HI3 := Lib.hid (HI2.out.gr HS2.out hg3)
        have hcA := IH.out (Plain.upd s k 1) x.toNat w3 HI3.out HS3.out HLE1.out (by rw [HN.out]; exact HXN.out) (by rw [HN.out]; exact HUN.out)
        rw [HRA.out, HN.out, Int.toNat_of_nonneg HX0.out] at hcA
        have HCA := Lib.hid hcA
        clear y0 y1 y2 y3 hlk hS3 hg3 hcA
        obtain ⟨y0, y1, y2, y3⟩ := blk4 HY3.out
        obtain ⟨p0, p1, p2⟩ := blk_cells3 HX3.out
        go_wp2_with fail
        refine HCA.out.mono ?_
        rintro _ w4 ⟨rfl, hS4, hg4⟩
        have HS4 := Lib.hid hS4
        have HG4 := Lib.hid (gr_trans HG3.out hg4)
        have HX4 := Lib.hid (gr_blk hg4 HX3.out hbk)
        have HY4 := Lib.hid (gr_blk hg4 HY3.out hbk1)
        have HI4 := Lib.hid (HI3.out.gr HS3.out hg4)
        clear hS4 hg4 y0 y1 y2 y3 p0 p1 p2
        dsimp only at HS4 HG4 ⊢
        obtain ⟨y0, y1, y2, y3⟩ := blk4 HY4.out
        obtain ⟨p0, p1, p2⟩ := blk_cells3 HX4.out
        cases r1
        · by_cases e2 : op = 2
          · subst e2
            obtain ⟨hy0, hyn⟩ := HYY.out rfl
            obtain ⟨⟨q1, qs⟩, hqa⟩ : ∃ R, Plain.lp L f rs y.toNat = R := ⟨_, rfl⟩
            obtain ⟨hgo, hqs2⟩ := HGOES.out rs y.toNat HRS2.out
            rw [hqa] at hgo hqs2
            dsimp only at hgo hqs2
            have hq1 : 2 = qs k + 1 := by have := HRK.out; have := hgo.1 k (by omega); omega
            have hcB := IH.out rs y.toNat w4 HI4.out HS4.out HRS2.out (by rw [HN.out]; exact hyn) (by rw [HN.out]; exact HUN2.out)
            rw [hqa, HN.out, Int.toNat_of_nonneg hy0] at hcB
            have HCB := Lib.hid hcB
            have HQK := Lib.hid hq1
            have HQS2 := Lib.hid hqs2
            have hlq := HLP.out (q1, qs) (by rw [if_neg (by decide), if_pos rfl]; exact hqa)
            have HLQ := Lib.hid hlq
            clear hcB hgo hqs2 hq1 hqa hy0 hyn hlq
            go_wp2_with fail
            refine HCB.out.mono ?_
            rintro _ w5 ⟨rfl, hS5, hg5⟩
            have HS5 := Lib.hid hS5
            have HG5 := Lib.hid (gr_trans HG4.out hg5)
            clear hS5 hg5 y0 y1 y2 y3 p0 p1 p2
            dsimp only at HS5 ⊢
            go_wp2_with (at_mapUpdate; refine wpList_seen rfl _ _ _ rfl b qs k 2 rfl HS5.out rfl rfl (by omega) HQK.out HQS2.out ?_)
            intro w7 hS7 hg7
            have hfin : LpPost w b (Plain.lp L (f + 1) s k) (.returned (.bool q1)) w7 := by
              rw [HLQ.out]
              exact ⟨rfl, hS7, gr_trans HG5.out hg7⟩
            have HFIN := Lib.hid hfin
            clear hfin hS7 hg7
            go_wp2
            go_ret
            exact HFIN.out
          · have e2' : (op == 2) = false := by simp [e2]
            have hlq := HLP.out (false, rs) (by rw [if_neg (by decide), if_neg e2])
            have HLQ := Lib.hid hlq
            clear hlq e2
            go_wp2_with (at_mapUpdate; refine wpList_seen rfl _ _ _ rfl b rs k 2 rfl HS4.out rfl rfl (by omega) HRK.out HRS2.out ?_)
            intro w7 hS7 hg7
            have hfin : LpPost w b (Plain.lp L (f + 1) s k) (.returned (.bool false)) w7 := by
              rw [HLQ.out]
              exact ⟨rfl, hS7, gr_trans HG4.out hg7⟩
            have HFIN := Lib.hid hfin
            clear hfin hS7 hg7
            go_wp2
            go_ret
            exact HFIN.out
        · have hlq := HLP.out (true, rs) (by rw [if_pos rfl])
          have HLQ := Lib.hid hlq
          clear hlq
          go_wp2_with (at_mapUpdate; refine wpList_seen rfl _ _ _ rfl b rs k 2 rfl HS4.out rfl rfl (by omega) HRK.out HRS2.out ?_)
          intro w7 hS7 hg7
          have hfin : LpPost w b (Plain.lp L (f + 1) s k) (.returned (.bool true)) w7 := by
            rw [HLQ.out]
            exact ⟨rfl, hS7, gr_trans HG4.out hg7⟩
          have HFIN := Lib.hid hfin
          clear hfin hS7 hg7
          go_wp2
          go_ret
          exact HFIN.out
end Go.Proofs.YtmiacgkidldjmaaGreatDoor
